/- A part of the proof of SysTells: UA. -/
import Derived.Test.YtjppfhgkanbemabGreatDoorMH
import Derived.Test.YtjppfhgkanbemabGreatDoorMB
import Derived.Test.YtjppfhgkanbemabGreatDoorUnSetW
import Derived.Deep.RegionLaw
import Derived.Test.YtjppfhgkanbemabGreatDoorMI
set_option maxHeartbeats 8000000
set_option maxRecDepth 100000
set_option linter.all false
namespace Go.Proofs.YtjppfhgkanbemabGreatDoor
open Tryz
open Go.RowKit Go.Shelf Go.Sort
def gone(s:ByteArray)(x:En):Bool:=x.p.toList==s.toList||Pt.under x.P s.data.toList
theorem GH(l:List En)(s:ByteArray):l.filter (λx=> !gone s x)=Tr.outside l s.data.toList:=by
 unfold Tr.outside;refine List.filter_congr λx _=> ?_
 unfold gone;rw[aj,Bool.not_or]
 rfl
theorem Df(g:Nat)(x:En)(s:ByteArray)(w:World)(hx:w.cell? g=some (.string s))(hg:g<w)(hs:s.size<4294967281):Calls prog 90 #[.agg #[x.p,x.k,x.t,x.o],.pointer g] w λe w'=>e= .returned (.bool (gone s x))/\Below w w w':=by
 obtain⟨a,b,i,h⟩:=x;unfold gone;dsimp only
 rcases t:(a.toList==s.toList)with _|_
 all_goals
  go_enter func90,ntmps90
 ·go_wp2_with fail
  refine(lQ a s _ (by omega)).mono ?_
  rintro e c ⟨rfl,rfl⟩;go_wp2;go_ret;exact⟨rfl,(aa _ _).alloc aR _⟩
 go_wp2;go_ret;exact⟨rfl,(aa _ _).alloc aR _⟩
def MZ{α:Type}(p:α->Bool)(l:List α)(i:Int):Prop:=
 (i= -1/\∀x∈l,p x=false)\/∃k:Nat,i=k/\∃hk:k<l.length,p l[k]=true/\∀x∈l.take k,p x=false
theorem zn(A:Option Addr)(c g:Nat)(l:List En)(s:ByteArray)(w:World)(hl:aC w w A l)(hbig:l.length<=9223372036854775807)(hx:w.cell? g=some (.string s))(hg:g<w)(HZ:s.size<4294967281):Calls prog 120 #[.slice A l.length c,.func (.func 90) #[] #[.pointer g]] w λe w'=>∃i:Int,e= .returned (.int .i64 i)/\MZ (gone s) l i/\Below w w w':=by
 go_enter func120,ntmps120
 go_wp2
 go_loopw [8] (λi wr=>∃k:Nat,k<=l.length/\i= .int .i64 k/\Hid (∀x∈l.take k,gone s x=false)/\Below w w wr) (λi _=>l.length- (intOf i).toNat)
 case atStart=>exact⟨0,bL _,rfl,(show∀x∈l.take 0,gone s x=false by simp),aa _ _⟩
 case round=>
  obtain⟨k,K,rfl,j,n⟩:=hrel
  by_cases a:k<l.length
  ·obtain⟨b,o,rfl,I,E,F,D,G⟩:=(aC.at_ (hl.below n) a)
   have r:wr.cell? g=some (.string s):=(n.cell hg).trans hx;have t:g<wr:=bE hg n.size;have q:Hid (∀y,l[k]=y->gone s y=false->∀x∈l.take (k+1),gone s x=false):=by
    intro y m h x hx;rw[aF a,gF]at hx
    rcases hx with hx|hx
    ·exact j.out x hx
    simp at hx;rw[hx,m];exact h
   have v:Hid (∀y,l[k]=y->gone s y=true->MZ (gone s) l k):=λy m h=> .inr ⟨k,rfl,a,by rw[m];exact h,j.out⟩
   generalize m:l[k]=y at E F D G;have z:=aL m;clear m;go_wp2_with fail;refine(Df g y s _ r t HZ).mono ?_
   rintro e H ⟨rfl,u⟩;have p:=n.trans (u.mono n.size)
   rcases B:gone s y with _|_
   ·go_wp2
    go_roundw
    case rel=>exact⟨k+1,a,by go_num,q.out y z.out B,p⟩
    case measure=>simp[intOf];omega
   go_wp2;go_ret;exact⟨_,rfl,v.out y z.out B,p⟩
  go_wp2;go_ret;refine⟨_,rfl,.inl ⟨rfl,?_⟩,n⟩
  have:=j.out;rw[fI (by omega)]at this
  exact this
structure gp{α:Type}(p:α->Bool)(l r:List α)(i j:Nat):Prop where
 len:r.length=l.length
 lt:i<j
 le:j<=l.length
 kept:r.take i=(l.take j).filter λx=> !p x
 rest:r.drop j=l.drop j
section
variable {α:Type} {p:α->Bool} {l r:List α} {i j:Nat}
theorem gp.start{k:Nat}(hk:k<l.length)(hp:p l[k]=true)(hno:∀x∈l.take k,p x=false):gp p l l k (k+1):=by
 refine⟨rfl,by omega,hk,?_,rfl⟩
 rw[aF hk,j3];have e:(l.take k).filter (λx=> !p x)=l.take k:=by
  rw[wN];intro x a;simp[hno x a]
 rw[e];simp[hp]
theorem gp.at_(h:gp p l r i j)(hj:j<l.length):r[j]'(by rw[h.len];exact hj)=l[j]:=by
 have:=om (λq=>q[0]?) h.rest
 simp only[Cn,tQ]at this;rw[bA (by rw[h.len];exact hj),bA hj]at this
 injection this
theorem gp.skip(h:gp p l r i j)(hj:j<l.length){x:α}(hx:l[j]=x)(hp:p x=true):gp p l r i (j+1):=by
 refine⟨h.len,by have:=h.lt;omega,hj,?_,?_⟩
 ·rw[h.kept,aF hj,j3,hx]
  simp[hp]
 rw[<-List.drop_drop,h.rest,xS]
theorem gp.keep(h:gp p l r i j)(hj:j<l.length){x:α}(hx:l[j]=x)(hp:p x=false):gp p l (r.set i x) (i+1) (j+1):=by
 have a:i<r.length:=by rw[h.len];have:=h.lt;omega
 refine⟨by rw[zm];exact h.len,by have:=h.lt;omega,hj,?_,?_⟩
 ·rw[aF (by rw[zm];exact a),aF hj,j3,hx,<-h.kept,List.take_set_of_le aR]
  simp[hp]
 rw[List.drop_set_of_lt (by have:=h.lt;omega),<-List.drop_drop,h.rest,xS]
theorem gp.done(h:gp p l r i l.length):r.take i=l.filter λx=> !p x:=by
 rw[h.kept,gN]
end
theorem OL{l:List En}{s:ByteArray}(h:∀x∈l,gone s x=false):l.filter (λx=> !gone s x)=l:=by
 rw[wN];intro x a;simp only[h x a]
 rfl
theorem GI(base g cap gb:Nat)(l:List En)(s:ByteArray)(w:World)(ho:ag w base (.slice g l.length cap) l)(hbig:l.length<=2000000)(hx:w.cell? gb=some (.string s))(hgb:gb<w)(hne:gb≠g)(HZ:s.size<4294967281):Calls prog 89 #[.slice g l.length cap,.func (.func 90) #[] #[.pointer gb]] w λe w'=>∃v,e= .returned v/\ag w' base v (l.filter λx=> !gone s x)/\w.grownBy w' (some g)/\v.ownBlock=some g:=by
 have hl:aC w w (some ⟨g,0,none⟩) l:=Rd.iK ho;have hcap:l.length<=cap:=by
  rcases aB ho with⟨h,_⟩|⟨g',c',h,_,_,hc⟩
  ·cases h
  injection h with _ _ h;rw[h];exact hc
 go_enter func89,ntmps89;go_wp2_with fail;refine(zn _ cap gb l s w hl (by omega) hx hgb HZ).mono ?_
 rintro e w1 ⟨i,rfl,hi,m⟩;have K:=own_below ho m aR;have I:w.grownBy w1 (some g):=dN (Ao w _) m;have Z:w1.cell? gb=some (.string s):=(m.cell hgb).trans hx;have Y:gb<w1:=bE hgb m.size;clear hx hgb m hl ho
 rcases hi with⟨rfl,n⟩|⟨k,rfl,hk,hp,n⟩
 ·have Hn:=aL (OL n)
  clear n;go_wp2;go_ret;exact⟨_,rfl,by rw[Hn.out];exact K,I,rfl⟩
 have B:=aL (gp.start (p:=(gone s)) hk hp n);clear hp n;have hk1:((k:Int)== -1)=false:=by simp
 go_wp2
 go_loopw [5,6] (λvi vj wr=>∃(i j:Nat) (r:List En),vi= .int .i64 i/\vj= .int .i64 j/\j<=l.length/\i<l.length/\Hid (gp (gone s) l r i j)/\wr.ownsRow base 45 4 (.slice g l.length cap) l.length (En.flat r)/\w.grownBy wr (some g)/\wr.cell? gb=some (.string s)/\gb<wr) (λ_ j _=>l.length- (intOf j).toNat)
 case atStart=>exact⟨k,k+1,l,rfl,by go_num,hk,hk,B,K,I,Z,Y⟩
 case round=>
  clear B K I Z Y hk1 hk;obtain⟨i,j,r,rfl,rfl,hjl,hil,B,a,L,U,Q5⟩:=hrel
  by_cases hj:j<l.length
  ·have hrl:j<r.length:=by rw[B.out.len];exact hj
   have Hr:=aL (B.out.at_ hj)
   obtain⟨f0,f1,f2,f3⟩:=uj r j hrl;have h0:=(a.cellAt (j*4+0) (by omega)).trans f0
   have h1:=(a.cellAt (j*4+1) (by omega)).trans f1
   have h2:=(a.cellAt (j*4+2) (by omega)).trans f2
   have h3:=(a.cellAt (j*4+3) (by omega)).trans f3
   clear f0 f1 f2 f3;simp only[tQ]at h0;generalize hy:r[j]=y at*;have Hl:=aL (Hr.out.symm);clear hy Hr;obtain⟨o,D,A,t⟩:=y;dsimp only at h0 h1 h2 h3;have hgz:g<wr:=by
                    rcases aB a with⟨F,_⟩|⟨g',c',F,_,hz,_⟩;·cases F
                    ·injection F with F;injection F with F;injection F with F;rw[F];exact hz
   go_wp2_with fail;clear h0 h1 h2 h3;have ho2:=aH a (.cells #[o,D,A,t] 45);have hg2:=wP L (.cells #[o,D,A,t] 45);have G:=(dx wr (.cells #[o,D,A,t] 45) ⟨gb,0,none⟩ Q5).trans U;have E:gb<(wr.alloc (.cells #[o,D,A,t] 45)).heap.size:=by simp;omega
   have H:ai (wr.alloc (.cells #[o,D,A,t] 45)) wr 45 [o,D,A,t]:=ai.new _ _ _;clear a L U Q5;generalize wr.alloc (.cells #[o,D,A,t] 45)=w2 at*;generalize wr.heap.size=gy at*;refine(Df gb ⟨o,D,A,t⟩ s _ G E HZ).mono ?_
   rintro e S ⟨rfl,m⟩;have b:=own_below ho2 m aR;have V:=dN hg2 m;have N:=(m.cell (p:=gb) E).trans G;have hz3:=bE E m.size;have hy3:=H.below m H.lt;clear ho2 hg2 G E H m;have z:=hy3.four;dsimp only
   rcases hc:gone s ⟨o,D,A,t⟩with _|_
   ·have q0:i*4<l.length*4:=by omega
    have Q:i*4+3<(En.flat r).length:=by rw[eU,B.out.len];omega
    have c0:∃u,S.cell? ⟨g,i*4,none⟩=some u:=⟨_,(b.cellAt _ (by omega)).trans (bA (by omega))⟩
    have c1:∃u,S.cell? ⟨g,i*4+1,none⟩=some u:=⟨_,(b.cellAt _ (by omega)).trans (bA (by omega))⟩
    have c2:∃u,S.cell? ⟨g,i*4+2,none⟩=some u:=⟨_,(b.cellAt _ (by omega)).trans (bA (by omega))⟩
    have c3:∃u,S.cell? ⟨g,i*4+3,none⟩=some u:=⟨_,(b.cellAt _ (by omega)).trans (bA (by omega))⟩
    obtain⟨u0,c0⟩:=c0;obtain⟨u1,c1⟩:=c1;obtain⟨u2,c2⟩:=c2;obtain⟨u3,c3⟩:=c3;have fz:∀q,S.frozen? ⟨g,q,none⟩=false:=λq=>b.frozenAt q
    clear Q;go_wp2;go_roundw
    case rel=>
     obtain⟨o4,g4⟩:=t_ b (i*4) (.string o) (.int .i64 D) (.string A) (.bool t);rw[vJ r i (by rw[B.out.len];exact hil) ⟨o,D,A,t⟩]at o4
     have M:=B.out.keep hj Hl.out hc;have c:∀(W:World) q (u:Value),(W.setCell ⟨g,q,none⟩ u).cell? gb=W.cell? gb:=λW q u=>World.cell?_setCell_other W ⟨g,q,none⟩ ⟨gb,0,none⟩ u (by intro h;injection h with h;omega)
     exact⟨i+1,j+1,_,by go_num,by go_num,by omega,by have:=M.lt;omega,M,o4,bG V g4,by rw[c,c,c,c];exact N,bE hz3 g4.size⟩
    case measure=>simp[intOf];omega
   go_wp2;go_roundw
   case rel=>exact⟨i,j+1,r,rfl,by go_num,by omega,hil,B.out.skip hj Hl.out hc,b,V,N,hz3⟩
   case measure=>simp[intOf];omega
  have ej:j=l.length:=by omega
  subst ej;have hic:i<=cap:=by omega
  obtain⟨w9,hrun,O,sZ⟩:=kJ (P:=prog) (size:=4) 30 0 (.agg #[Qs.e,(0:Int),Qs.e,false]) underlying30 MK rfl (by simp[Value.cells,Value.oneCell']) a i (cap-i) (some ⟨g,i*4,none⟩) (by omega) (λ_=>rfl)
  go_wp2;go_ret;refine⟨_,rfl,?_,bG L sZ,rfl⟩
  rw[jU]at O;have M:=B.out.done;have hli:(l.filter λx=> !gone s x).length=i:=by
   rw[<-M,bR,B.out.len];omega
  unfold ag;rw[hli,<-M];exact O
theorem GK(gb:Nat)(s:ByteArray)(w:World)(hx:w.cell? gb=some (.string s))(hgb:gb<w)(HZ:s.size<4294967281):Calls prog 89 #[(),.func (.func 90) #[] #[.pointer gb]] w λe w'=>e= .returned (.slice none 0 0)/\Below w w w':=by
 go_enter func89,ntmps89;go_wp2_with fail;refine(zn none 0 gb [] s w Rd.nil (by simp) hx hgb HZ).mono ?_
 rintro e g ⟨i,rfl,a,c⟩
 rcases a with⟨rfl,_⟩|⟨k,rfl,b,_⟩
 ·go_wp2
  go_ret;exact⟨rfl,c⟩
 simp at b
theorem GL(base gb:Nat)(vU:Value)(l:List En)(s:ByteArray)(w:World)(ho:ag w base vU l)(hbig:l.length<=2000000)(hx:w.cell? gb=some (.string s))(hgb:gb<w)(hne:some gb≠vU.ownBlock)(HZ:s.size<4294967281):Calls prog 89 #[vU,.func (.func 90) #[] #[.pointer gb]] w λe w'=>∃v,e= .returned v/\ag w' base v (Tr.outside l s)/\w.grownBy w' vU.ownBlock/\(∀k,v.ownBlock=some k->vU.ownBlock=some k):=by
 rcases aB ho with⟨a,o⟩|⟨g,b,a,i,m,c⟩
 ·subst a
  have e:l=[]:=List.length_eq_zero_iff.1 o;subst e;refine(GK gb s w hx hgb HZ).mono ?_
  rintro e w' ⟨rfl,q⟩;exact⟨_,rfl,ag.nil _ _,dN (Ao w none) q,λk h=>h⟩
 subst a;refine(GI base g b gb l s w ho hbig hx hgb (λh=>hne (by rw[h];rfl)) HZ).mono ?_
 rintro e w' ⟨v,rfl,n,j,p⟩;exact⟨v,rfl,by rw[<-GH];exact n,j,λk h=>by rw[p]at h;exact h⟩
theorem zq(s:ByteArray):Tr.cZ s.data.toList=⟨s,4,⟨#[]⟩,false⟩:=by
 unfold Tr.cZ;congr 1
theorem zu(gc base:Nat)(vU vB x2 x3:Value)(U B:List En)(s:ByteArray)(w:World)(hc:ai w gc 90 [vU,vB,x2,x3])(ho:ag w base vU U)(hk:Kp w base gc vB B)(hgb:gc<base)(hbw:base<=w.heap.size)(hsrt:Tr.Srt U)(QZ:∀x∈U,x.P≠[])(hsm:Sm U)(hsB:Tr.Srt B)(hmB:Sm B)(hlB:B.length<=1000000)(hs0:s.data.toList≠[])(hsz:s.size<4294967281)(hlen:U.length+s.size<=900000):Calls prog 52 #[.pointer gc,s] w (zl gc base vB x2 x3 vU (Tr.dD B U s) w):=by
 have UJ:=aL (show Tr.Srt (Tr.outside U s)from Tr.aY hsrt _)
 have Qb:=aL (show∀x∈Tr.outside U s,x.P≠[]from λx hx=>QZ x (List.mem_filter.1 hx).1)
 have lG:=aL (show Sm (Tr.outside U s)from λx hx=>hsm x (List.mem_filter.1 hx).1)
 have HOL:=fF U s;have HB:=aL (And.intro hsB hmB);have Xo:=aL hs0;clear hsrt QZ hsm hsB hmB hs0;unfold zl;obtain⟨H,j⟩:∃H,H=Tr.dD B U s.data.toList:=⟨_,rfl⟩;rw[<-j];unfold Tr.dD at j;rw[zq]at j;obtain⟨a,Qd⟩:∃a,a=Tr.outside U s.data.toList:=⟨_,rfl⟩;have cD:=λW gb v h1 h2 h3 h4 h5=>GL base gb v U s W h1 h2 h3 h4 h5 hsz
 rw[<-Qd]at UJ Qb lG HOL j;simp only[<-Qd]at cD;clear Qd;have HR:=aL j;clear j;have N:=ai.new w 9 [s];have hc1:=hc.alloc (.cells #[s] 9);have L:ag _ base vU U:=aH ho (.cells #[s] 9);have G:=lV.of (g:=gc) (row:=vU.ownBlock) ((aa w w).alloc aR (.cells #[s] 9)) aR;have hk1:=hk.keep (G.sJ hbw (nK ho));have D:some w.heap.size≠vU.ownBlock:=own_ne ho (.inr aR);have hvb:=nK ho;have hgw:w.heap.size≠gc:=by omega
 have hs1:base<=(w.alloc (.cells #[s] 9)).heap.size:=by rw[bX];omega
 clear hc ho hk;obtain⟨rU,K⟩:∃rU,rU=vU.ownBlock:=⟨_,rfl⟩;rw[<-K]at G D hvb ⊢;obtain⟨A,cU,hvU,hcU,hrd⟩:=ag.rd L;subst hvU;obtain⟨Q,M,k2,k3,kf,kz⟩:=hc1.four;go_enter func52,ntmps52;go_wp2_with fail;clear Q M k2 k3 kf kz hrd;generalize w.alloc (.cells #[s] 9)=w1 at*;refine(cD w1 w _ L (by omega) (N.cell 0) N.lt (by rw[<-K];exact D)).mono ?_
 rintro e w2 ⟨v2,rfl,I,n,O⟩;rw[<-K]at n O;have hc2:=hc1.grown n (by rw[K];exact own_ne L (.inl hgb))
 have hp2:=N.grown n D;have hg3:=G.trans (lV.grown (g:=gc) n (λk e=> .inl (O k e)))
 have hk2:=hk1.keep (bC.grown n hs1 hvb);have hs2:=eT hs1 n.size;have hn2:some w.heap.size≠v2.ownBlock:=λe=>D (O _ e.symm).symm
 clear hc1 N G hk1 n O L hs1 cD;obtain⟨c,i,hv2,hcc,abS⟩:=ag.rd I;subst hv2;have u:ai (w2.setCell ⟨gc,0,none⟩ (.slice c a.length i)) gc 90 [.slice c a.length i,vB,x2,x3]:=hc2.bY 0 _;have r:=hp2.far (p:=gc) hgw (.slice c a.length i);have hk3:=hk2.keep (bC.set w2 0 (.slice c a.length i));have ho3:ag (w2.setCell ⟨gc,0,none⟩ (.slice c a.length i)) base (.slice c a.length i) a:=fH I (own_ne I (.inl hgb)) 0 _;have m:=hg3.trans (lV.set gc (Value.slice c a.length i).ownBlock w2 0 (.slice c a.length i));have hs3:base<=(w2.setCell ⟨gc,0,none⟩ (.slice c a.length i)).heap.size:=by simpa using hs2
 obtain⟨AB,cB,hvB,hcB,Wq,hnB⟩:=hk3;subst hvB;obtain⟨Q,M,k2,k3,kf,kz⟩:=hc2.four;obtain⟨y,pf,pz⟩:=hp2.one;go_upto_region 2 with fail
 clear Q M k2 k3 kf kz y pf pz hk2 hc2 hp2 hg3 I hs2 abS;have hsz3:w.heap.size<=(w2.setCell ⟨gc,0,none⟩ (.slice c a.length i)).heap.size:=m.size;generalize w2.setCell ⟨gc,0,none⟩ (.slice c a.length i)=w3 at*;obtain⟨Q,M,k2,k3,kf,kz⟩:=u.four;obtain⟨y,pf,pz⟩:=r.one;have V:aC w3 w3 AB B:=Rd.more Wq hs3
 go_cut [5] (λbv E=>∃(k:Nat) (b:Bool),bv= .bool b/\oK B s k b/\ai E gc 90 [.slice c a.length i,.slice AB B.length cB,x2,x3]/\ag E base (.slice c a.length i) a/\ai E w 9 [s]/\lV gc rU (Value.slice c a.length i).ownBlock w E)
 case first=>
  go_region_held3 (λW=>W.cell? ⟨gc,1,none⟩=some (.slice AB B.length cB)/\W.cell? w.heap.size=some (.string s)) (first|exact⟨M,y⟩|exact hS6|go_keep) (first|(go_at_call 40;refine(l_ AB cB B s _ (by exact V) HB.out.2 hsz (by omega)).mono ?_;rintro e Z ⟨k,b,rfl,hf,hb⟩;have hS6:Z.cell? ⟨gc,1,none⟩=some (.slice AB B.length cB)/\Z.cell? w.heap.size=some (.string s):=⟨(hb.cell (p:=⟨gc,1,none⟩) u.lt).trans M,(hb.cell (p:=w.heap.size) r.lt).trans y⟩))
  all_goals
   go_wp2;go_meet
   case rel=>
    have l:Below w3 w3 Z:=((aa _ w3).drew).trans hb;exact⟨k,b,rfl,hf,u.below l u.lt,own_below ho3 l aR,r.below l r.lt,m.trans (lV.of l aR)⟩
 case rest=>
  clear Q M k2 k3 kf kz y pf pz V u r m ho3 hs3 Wq hsz3;obtain⟨k,b,rfl,hf,o,S,t,m⟩:=hcut;generalize wc=w4 at*;have Y:w.heap.size<=w4.heap.size:=m.size;have hs4:=eT hbw Y;have z:=D9 hf HB.out.1 Xo.out;clear hf;obtain⟨Q,M,k2,k3,kf,kz⟩:=o.four;obtain⟨y,pf,pz⟩:=t.one
  cases b
  ·have HF:Hid (H=a):=aL (by rw[HR.out,av];intro h;rw[<-z]at h;exact absurd h.1 (by decide))
   clear HR z;go_wp2_with fail
   go_quiet (fail)
   go_wp2_with fail;refine BS (AR results52 _ _ _) rfl ?_
   exact⟨rfl,_,o.drewN nq,by rw[HF.out];exact S,m.drewN nq⟩
  have F:Hid (H=if Tr.hides a s.data.toList=false then Tr.dR a ⟨s,4,⟨#[]⟩,false⟩else a):=aL (by
   rw[HR.out]
   by_cases h:Tr.hides a s.data.toList=false
   ·rw[aM ⟨z.symm,h⟩,aM h];rfl
   rw[av (λq=>h q.2),av h])
  clear HR z;have aad:aC w4 w4 c a:=by
   obtain⟨Aq,cq,hq,_,hr⟩:=ag.rd S;injection hq with q1 q2 q3
   rw[q1];exact hr
  go_upto_region 3 with fail
  go_cut [33] (λbv E=>bv= .bool (!Tr.hides a s)/\ai E gc 90 [.slice c a.length i,.slice AB B.length cB,x2,x3]/\ag E base (.slice c a.length i) a/\ai E w 9 [s]/\lV gc rU (Value.slice c a.length i).ownBlock w E)
  case first=>
   go_region_held3 (λW=>W.cell? gc=some (.slice c a.length i)/\W.cell? w.heap.size=some (.string s)) (first|exact⟨Q,y⟩|exact hS6|go_keep) (first|(go_at_call 41;refine(Cm c i a s _ (by exact aad) lG.out UJ.out hsz (by omega)).mono ?_;rintro e Z ⟨rfl,hb⟩;have hS6:Z.cell? gc=some (.slice c a.length i)/\Z.cell? w.heap.size=some (.string s):=⟨(hb.cell (p:=gc) o.lt).trans Q,(hb.cell (p:=w.heap.size) t.lt).trans y⟩))
   all_goals
    go_wp2;go_meet
    case rel=>
     have l:Below w4 w4 Z:=((aa _ w4).drew).trans hb;exact⟨rfl,o.below l o.lt,own_below S l aR,t.below l t.lt,m.trans (lV.of l aR)⟩
  case rest=>
   clear Q M k2 k3 kf kz y pf pz o t m S hs4 aad Y;obtain⟨rfl,hc5,xg,hp5,hg5⟩:=hcut;generalize wc=w5 at*;have hsz5:w.heap.size<=w5.heap.size:=hg5.size;have hs5:=eT hbw hsz5;obtain⟨y,pf,pz⟩:=hp5.one
   rcases th:Tr.hides a s with _|_
   ·have HF:=aL (F.out.trans (aM th))
    clear F th;go_wp2_with fail;clear y pf pz;refine(set_any s.size gc base (.slice AB B.length cB) x2 x3 (.slice c a.length i) a ⟨s,4,⟨#[]⟩,false⟩ w5 hc5 xg hgb hs5 UJ.out Qb.out lG.out Xo.out (by show s.data.toList.length<=s.size;rw[af];exact aR) hsz (by show(0:Nat)<4294967281;decide) (by omega)).mono ?_
    rintro e Z ⟨rfl,v6,hc6,nz,GM⟩;go_wp2_with fail;refine BS (AR results52 _ _ _) rfl ?_
    exact⟨rfl,v6,hc6,by rw[HF.out];exact nz,hg5.trans GM⟩
   have HF:=aL (F.out.trans (av (by rw[th];decide)))
   clear F th;go_wp2_with fail;refine BS (AR results52 _ _ _) rfl ?_
   exact⟨rfl,_,hc5,by rw[HF.out];exact xg,hg5⟩
def dS(w:World)(base:Nat)(v:Value)(ls:List (List En)):Prop:=
 ∃vs:List Value,w.ownsRow base 30 1 v ls.length vs/\∀k (h:k<ls.length),∃Ak ck,vs[k]? =some (.slice Ak ls[k].length ck)/\ls[k].length<=ck/\aC w w Ak ls[k]/\(0<ls[k].length->∀a,Ak=some a->base<=a.block/\some a.block≠v.ownBlock)
theorem dS.nil(w:World)(base:Nat):dS w base (.slice none 0 0) []:=⟨[],jN _ _ _ _,λk h=>absurd h (l5 k)⟩
theorem dS.below{w w':World}{base:Nat}{v:Value}{ls:List (List En)}(h:dS w base v ls)(hb:Below w w w'):dS w' base v ls:=by
 obtain⟨c,l,i⟩:=h;refine⟨c,own_below l hb aR,λk b=> ?_⟩
 obtain⟨m,n,e,a,j,g⟩:=i k b;exact⟨m,n,e,a,(Rd.below j hb).more hb.size,g⟩
theorem dS.far{w:World}{base g:Nat}{v:Value}{ls:List (List En)}(h:dS w base v ls)(hg:g<base)(i:Nat)(u:Value):dS (w.setCell ⟨g,i,none⟩ u) base v ls:=by
 obtain⟨x,p,z⟩:=h;refine⟨x,fH p (own_ne p (.inl hg)) i u,λk t=> ?_⟩
 obtain⟨B,F,y,r,n,m⟩:=z k t;refine⟨B,F,y,r,⟨n.1,λq=> ?_⟩,m⟩
 obtain⟨b,o,e,c,D⟩:=n.2 q;refine⟨b,o,e,by simpa using c,λj E A=> ?_⟩
 have l:b≠g:=λG=>by have:=(m q _ e).1;change base<=b at this;omega
 exact(lc (a:=⟨b,o+j,none⟩) (mh w ⟨g,i,none⟩ u b l)).trans (D j E A)
theorem dS.rd{w:World}{base:Nat}{v:Value}{ls:List (List En)}(h:dS w base v ls):∃A c,v= .slice A ls.length c/\jc w w A ls/\(A=none->c=0):=by
 obtain⟨i,j,o⟩:=h;have a:∀A,Rd w w 1 A ls.length i->jc w w A ls:=λA q=>⟨i,q,λk m=>by
  obtain⟨t,u,n,l,p,_⟩:=o k m;exact⟨t,u,n,l,p⟩⟩
 rcases aB j with⟨rfl,r⟩|⟨g,b,rfl,_,_,x⟩
 ·have e:ls=[]:=List.length_eq_zero_iff.1 r
  subst e;exact⟨none,0,rfl,jc.nil _ _ _,λ_=>rfl⟩
 exact⟨some ⟨g,0,none⟩,b,rfl,a _ (Rd.iK j),λh=>by cases h⟩
section
variable {w:World} {a:Act} {o:Oper} {Q:Exit->Act->World->Prop} {base gl:Nat} {v:Value} {ls:List (List En)} {m:List En} {Ak:Option Addr} {ck:Nat}
theorem GN(ty:TypeId)(hown:dS w base v ls)(hx:ai w gl 30 [.slice Ak m.length ck])(hm:aC w w Ak m)(hc:m.length<=ck)(hk:0<m.length->∀a,Ak=some a->base<=a.block/\some a.block≠v.ownBlock)(hlen:ls.length<=4000000)(hbase:base<=w.heap.size):∃v' w',(Builtin.append_ #[31,31] ty #[v,.slice gl 1 1]).run prog w= .ok v' w'/\dS w' base v' (ls++[m])/\w.grownBy w' v.ownBlock:=by
 obtain⟨Q,W,t,D,E⟩:=lw MJ;obtain⟨y,r,z⟩:=hown;have U:Rd w w 1 (some ⟨gl,0,none⟩) 1 [.slice Ak m.length ck]:=⟨rfl,λ_=>⟨_,0,rfl,hx.lt,λj u q=>by rw[mE];exact(hx.cell j).trans q⟩⟩
 obtain⟨v',w',M,V,A,x⟩:=pY (P:=prog) w base 31 ty 30 Q _ 1 24 underlying31 W t D E rfl (by decide) v ls.length y r (some ⟨gl,0,none⟩) 1 1 [.slice Ak m.length ck] U (λh=>by cases h) (λu q=>by rw[List.mem_singleton.1 q];rfl) (by unfold maxLen;omega) (by omega) hbase
 have keep:∀(B:Option Addr) (l:List En),aC w w B l->(0<l.length->∀a,B=some a->base<=a.block/\some a.block≠v.ownBlock)->aC w' w' B l/\(0<l.length->∀a,B=some a->base<=a.block/\some a.block≠v'.ownBlock):=λB l L g=>by
  refine⟨⟨L.1,λi=> ?_⟩,λi a ha=>⟨(g i a ha).1,λp=> ?_⟩⟩
  ·obtain⟨b,o,e,c,K⟩:=L.2 i
   refine⟨b,o,e,bE c A.size,λj u q=> ?_⟩
   exact(lc (a:=⟨b,o+j,none⟩) (A.block b c (g i _ e).2)).trans (K j u q)
  obtain⟨b,o,e,c,_⟩:=L.2 i;rw[e]at ha;injection ha with ha
  subst ha
  rcases x with h|h
  ·exact(g i _ e).2 (p.trans h)
  rw[h]at p;injection p with p;change b=w.heap.size at p;omega
 have S:y.length=ls.length:=by have:=r.1;omega
 refine⟨v',w',M,⟨y++[.slice Ak m.length ck],by rw[bq];exact V,λk n=> ?_⟩,A⟩
 rw[bq]at n
 by_cases e:k<ls.length
 ·obtain⟨I,H,N,Y,f3,Z⟩:=z k e
  obtain⟨F,G⟩:=keep _ _ f3 Z;rw[nE e];exact⟨I,H,by rw[l6 (by omega)];exact N,Y,F,G⟩
 have O:k=ls.length:=by simp at n;omega
 subst O;obtain⟨F,G⟩:=keep _ _ hm hk;rw[nW aR];simp only[Bb,Fs];exact⟨Ak,ck,by rw[kr (by omega),S,Bb];rfl,hc,F,G⟩
theorem uw{ops:Array Oper}{K:Act->World->Prop}{E:Prop}(W:World)(hgd:o.guard=none)(s x:Operand)(ho:o.op= .call {callee:= .builtin .append,args:=#[s,x],argTypes:=#[31,31]})(hs:a.eval s=v)(hown:dS w base v ls)(hxe:a.eval x= .slice gl 1 1)(hx:ai w gl 30 [.slice Ak m.length ck])(hm:aC w w Ak m)(hc:m.length<=ck)(hk:0<m.length->∀a,Ak=some a->base<=a.block/\some a.block≠v.ownBlock)(hlen:ls.length<=4000000)(hbase:base<=w.heap.size)(hW:W=w)(h:∀v' w',dS w' base v' (ls++[m])->w.grownBy w' v.ownBlock->K (a.put o.dst v') w'):if Region.wanted o (yielded ops a.tmps)=true then Oper.wp prog o a W K Q else E:=by
 have b:Region.wanted o (yielded ops a.tmps)=true:=by simp[Region.wanted,hgd]
 rw[aM b];subst hW;obtain⟨v',w',c,g,e⟩:=GN (ty:=o.type) hown hx hm hc hk hlen hbase;exact Lib.wp_append_run _ s x _ _ ho _ _ hs hxe v' w' c (h v' w' g e)
end
theorem Ej{w w':World}{lo size n:Nat}{A:Option Addr}{xs:List Value}(h:Rd w w size A n xs)(hlo:0<n->∀a,A=some a->lo<=a.block)(hs:w.heap.size<=w'.heap.size)(hk:∀k,lo<=k->k<w.heap.size->w'.heap[k]? =w.heap[k]?):Rd w' w' size A n xs:=
 ⟨h.1,λg=>by
  obtain⟨b,o,e,c,i⟩:=h.2 g;refine⟨b,o,e,by omega,λj u l=> ?_⟩
  exact(lc (a:=⟨b,o+j,none⟩) (hk b (hlo g _ e) c)).trans (i j u l)⟩
def gZ(lo:Nat)(w:World)(A A':Option Addr)(c c':Nat)(u:Un):Prop:=
 ∀w':World,w.heap.size<=w'.heap.size->(∀k,lo<=k->k<w.heap.size->w'.heap[k]? =w.heap[k]?)->bT w' w' A A' c c' u
theorem gZ.less{lo lo':Nat}{w:World}{A A':Option Addr}{c c':Nat}{u:Un}(h:gZ lo w A A' c c' u)(hl:lo'<=lo):gZ lo' w A A' c c' u:=λb g a=>h b g λk i e=>a k (by omega) e
theorem gZ.on{lo:Nat}{w w':World}{A A':Option Addr}{c c':Nat}{u:Un}(h:gZ lo w A A' c c' u)(hs:w.heap.size<=w'.heap.size)(hk:∀k,lo<=k->k<w.heap.size->w'.heap[k]? =w.heap[k]?):gZ lo w' A A' c c' u:=λi b a=>h i (eT hs b) λk g e=>(a k g (bE e hs)).trans (hk k g e)
theorem gZ.set{lo:Nat}{w:World}{A A':Option Addr}{c c':Nat}{u:Un}(h:gZ lo w A A' c c' u){p:Addr}(hp:p.block<lo)(x:Value):gZ lo (w.setCell p x) A A' c c' u:=h.on (by simp) λk a _=>mh w p x k (by omega)
theorem gZ.zero(lo:Nat)(w:World):gZ lo w none none 0 0 Un.zero:=λ_ _ _=>⟨Rd.nil,aR,jc.nil _ _ _,λ_=>rfl⟩
def jX(lo:Nat)(r:Un×Int)(w:World)(e:Ending)(w':World):Prop:=
 ∃A A' c c',e= .returned (.tuple #[.agg #[.slice A r.1.U.length c,.slice A' r.1.L.length c'],r.2])/\gZ lo w' A A' c c' r.1/\Below w w w'
theorem jX.none{lo:Nat}{w w':World}{e:Int}(h:Below w w w'):jX lo (Un.zero,e) w (.returned (.tuple #[.agg #[(),()],e])) w':=
 ⟨_,_,_,_,rfl,gZ.zero lo w',h⟩
theorem Q4{w:World}{lo base base':Nat}{v vL:Value}{V:List En}{L:List (List En)}(h1:ag w base v V)(h2:dS w base' vL L)(hl:lo<=base)(hl':lo<=base'):∃A A' c c',v= .slice A V.length c/\vL= .slice A' L.length c'/\gZ lo w A A' c c' ⟨V,L⟩:=by
 obtain⟨A,c,rfl,u,r⟩:=ag.rd h1;obtain⟨A',c',rfl,q,h⟩:=h2.rd;refine⟨A,A',c,c',rfl,rfl,λy g e=>⟨Ej r (λ_ a ha=> ?_) g e,u,?_,h⟩⟩
 ·subst ha
  have:=(gH h1 a.block rfl).1;omega
 obtain⟨m,i,l⟩:=h2;refine⟨m,Ej (lo:=lo) (Rd.iK i) (λ_ a ha=> ?_) g e,λk b=> ?_⟩
 ·subst ha
  have:=(gH i a.block rfl).1;omega
 obtain⟨t,x,o,j,p,n⟩:=l k b;exact⟨t,x,o,j,Ej (lo:=lo) p (λh a ha=>eT hl' (n h a ha).1) g e⟩
theorem xP(gc gu base:Nat)(x1 x2 x3 vU:Value)(V:List En)(A A':Option Addr)(c c':Nat)(u:Un)(w:World)(hc:ai w gc 90 [vU,x1,x2,x3])(ho:ag w base vU V)(hbw:base<=w.heap.size)(hq:ai w gu 33 [.slice A u.U.length c,.slice A' u.L.length c'])(hl:jc w w A' u.L)(hL:u.L.length<=1000)(Xx:∀l∈u.L,l.length<=2000000)(hV:V.length<=2000000):Calls prog 47 #[.pointer gc,.pointer gu] w (jX base (Tr.fin u V) w):=by
 obtain⟨U,L⟩:=u;dsimp only at hq hl hL Xx;obtain⟨n,t,hvV,hcV,hrV⟩:=ag.rd ho;subst hvV;obtain⟨r,hr⟩:∃r,r=Tr.fin ⟨U,L⟩ V:=⟨_,rfl⟩;have HR:Hid (r=if 80<V.length then(Un.zero,5)else(⟨V,L⟩,0)):=aL hr
 rw[<-hr];clear hr;have K:=(aa w w).alloc aR (.cells #[(),()] 33);have hz0:=ai.new w 33 [(),()];have hc0:=hc.alloc (.cells #[(),()] 33);have hq0:=hq.alloc (.cells #[(),()] 33);have Y:(w.alloc (.cells #[(),()] 33)).heap.size=w.heap.size+1:=bX _ _;have HLL:=aL Xx;clear Xx hrV;have z:=hc0.four;go_enter func47,ntmps47;go_upto_region 1 with fail
 clear hc hq
 rcases t8:decide ((80:Int)<(V.length:Int))with _|_
 rotate_left
 ·have HF:Hid (r=(Un.zero,5)):=aL (HR.out.trans (aM (by have:=iA t8;omega)))
  have x:=hz0.two;go_wp2_with fail;refine aD (v:= .tuple #[.agg #[(),()],(5:Int)]) ?_ rfl ?_
  ·simp[results,results47,go_sem,x]
  rw[HF.out];exact jX.none K
 have HF:Hid (r=(⟨V,L⟩,0)):=aL (HR.out.trans (av (by have:=j6 t8;omega)))
 have hB1:=K.alloc K.size (.cells #[.slice n V.length t,()] 33);have hz1:=hz0.alloc (.cells #[.slice n V.length t,()] 33);have hq1:=hq0.alloc (.cells #[.slice n V.length t,()] 33);have hw1:=ai.new (w.alloc (.cells #[(),()] 33)) 33 [.slice n V.length t,()];rw[Y]at hw1;have W:((w.alloc (.cells #[(),()] 33)).alloc (.cells #[.slice n V.length t,()] 33)).heap.size=w.heap.size+2:=by rw[bX,Y]
 have hgu:=hq0.lt;go_upto_region 4 with fail
 clear z hc0 hq0 hz0 K;generalize (w.alloc (.cells #[(),()] 33)).alloc (.cells #[.slice n V.length t,()] 33)=w1 at*;have j:=hq1.two;go_wp2_with fail;clear j
 go_loopw [26] (λi wr=>∃(k:Nat) (N:Value),k<=L.length/\i= .int .i64 k/\ai wr (w.heap.size+1) 33 [.slice n V.length t,N]/\ai wr w 33 [(),()]/\dS wr (w.heap.size+2) N (L.take k)/\Below w w wr/\w.heap.size+2<=wr.heap.size) (λi _=>L.length- (intOf i).toNat)
 case atStart=>exact⟨0,(),bL _,rfl,hw1,hz1,dS.nil _ _,hB1,uE W.symm⟩
 case round=>
  clear hw1 hz1 hB1 W hq1;obtain⟨k,N,hk,rfl,G,Q5,D,hB,hsz⟩:=hrel
  by_cases F:k<L.length
  ·obtain⟨ws,hrw,hel⟩:=(hl.below hB)
   obtain⟨Ak,ck,f1,f2,f3⟩:=hel k F;have hlk:=HLL.out L[k] (cz F);have HT:Hid (L.take (k+1)=L.take k++[L[k]]):=aL (aF F);have f3:=f3.more hB.size;obtain⟨b,o,hA,hb,B⟩:=hrw.2 (by omega)
   have h0:=B k _ f1;subst hA;clear hel hrw B f1;generalize L[k]=m at f2 f3 hlk HT h0;have x:=G.two;go_wp2_with fail;have f3':aC wr.drew wr.drew.heap.size Ak m:=f3;have adv:dS wr.drew (w.heap.size+2) N (L.take k):=D;have hkl:(L.take k).length<=4000000:=by rw[bR];omega
   have I:∀q,N.ownBlock=some q->w.heap.size+2<=q/\q<wr.heap.size:=λq e=>by
    obtain⟨vs,g1,_⟩:=D;exact gH g1 q e
   go_region_law (first
     |(
       refine uw (w:=w2.alloc (.cells #[.slice E m.length Q] 30)) _ rfl _ _ rfl rfl hfr3 rfl Xy hr2' hc2 hne2 hkl (eT hsz H.size) rfl ?_
       intro v4 w4 S M;have O:=Xz.grown M (λe=>by have:=(I _ e.symm).1;omega)
       have x:=O.two;obtain⟨A4,c4,hv4,_,_⟩:=S.rd;rw[show(L.take k++[m]).length=k+1 by rw[bq,bR];simp;omega]at hv4
       subst hv4)
     |(
       go_simp;go_at_call 30;refine(gX Ak ck m _ (by exact f3') hlk).mono ?_;rintro e w2 ⟨v2,rfl,ho2,hb2⟩
       have h:Below wr wr w2:=((aa _ wr).drew).trans hb2;obtain⟨E,Q,hv2,hc2,hr2⟩:=ag.rd ho2;have hne2:0<m.length->∀a,E=some a->w.heap.size+2<=a.block/\some a.block≠N.ownBlock:=λ_ a ha=>by
        subst hv2;subst ha;have g2:wr.heap.size<=a.block:=(gH ho2 a.block rfl).1;exact⟨by omega,λe=>by have:=(I _ e.symm).2;omega⟩
       subst hv2;have Z:=G.below h G.lt;have hfr2:=D.below h;have Xy:=ai.new w2 30 [.slice E m.length Q];have hr2':aC (w2.alloc (.cells #[.slice E m.length Q] 30)) (w2.alloc (.cells #[.slice E m.length Q] 30)).heap.size E m:=(Rd.alloc hr2 aR _).more (by simp)
       have hfr3:dS (w2.alloc (.cells #[.slice E m.length Q] 30)) (w.heap.size+2) N (L.take k):=hfr2.below ((aa _ _).alloc aR _);have H:=h.alloc h.size (.cells #[.slice E m.length Q] 30);have Xz:=Z.alloc (.cells #[.slice E m.length Q] 30);have x:=Z.two))
   all_goals
    have abT:=((Q5.below h Q5.lt).alloc (.cells #[.slice E m.length Q] 30)).grown M (λe=>by have:=(I _ e.symm).1;omega)
    have hB4:=(hB.trans (H.mono hB.size)).grown M (eT hB.size H.size) (λq e=>by have:=(I q e).1;omega)
    have hs4:w.heap.size+2<=w4.heap.size:=eT (eT hsz H.size) M.size;clear x;go_wp2;go_roundw
    case rel=>exact⟨k+1,.slice A4 (k+1) c4,F,by go_num,O.bY 1 _,abT.far (p:=⟨w.heap.size+1,1,none⟩) (by show w.heap.size≠w.heap.size+1;omega) _,by rw[HT.out];exact S.far (by omega) 1 _,hB4.setCell (p:=⟨w.heap.size+1,1,none⟩) (by show w.heap.size<=w.heap.size+1;omega) _,by simpa using hs4⟩
    case measure=>simp[intOf];omega
  obtain rfl:k=L.length:=by omega
  rw[gN]at D;have hown:ag wr base (.slice n V.length t) V:=own_below ho hB aR;have hne:some w.heap.size≠(Value.slice n V.length t).ownBlock:=own_ne ho (.inr aR);obtain⟨A6,xC,c6,OM,e1,e2,UK⟩:=Q4 (lo:=base) (fH (fH hown hne 0 (.slice n V.length t)) hne 1 N) ((D.far (g:=w.heap.size) (by omega) 0 (.slice n V.length t)).far (g:=w.heap.size) (by omega) 1 N) aR (by omega)
  injection e1 with a1 a2 a3
  subst a1 a3 e2;have x:=G.two;have y:=Q5.two;go_wp2_with fail;refine aD (v:= .tuple #[.agg #[.slice n V.length t,.slice xC L.length OM],(0:Int)]) ?_ rfl ?_
  ·simp[results,results47,go_sem,y]
  rw[HF.out];exact⟨_,_,_,_,rfl,UK,(hB.setCell (p:=w.heap.size) aR _).setCell (p:=⟨w.heap.size,1,none⟩) aR _⟩
structure Tr.Parts(u:Un)(S:List En):Prop where
 ur:Tr.Right true u.U
 ul:u.U.length<=80
 sr:Tr.Right false S
 sl:S.length<=80
 br:Tr.Right false (Tr.ay u)
 bl:(Tr.ay u).length<=80
 ll:u.L.length<=4
 lls:∀l∈u.L,l.length<=80
theorem Tr.parts{u:Un}(h:(Tr.seenU u).2=0):Tr.Parts u (Tr.seenU u).1:=by
 have a:=Tr.jb.1 h;obtain⟨g,i,k,c,b,m,n,e⟩:=Tr.fine_parts a;refine⟨i,g,by rw[b];exact e,by rw[b];exact m,c,k,a.1,λl j=>(Tr.kH a.2 l ?_).1⟩
 exact oo _ j
theorem Tr.Q7{t:List En}{e:En}(h:(Tr.put t e).2=0):Tr.putErr t e=0:=by
 unfold Tr.put at h
 by_cases a:Tr.putErr t e=0
 ·exact a
 rw[aM a]at h;exact h
theorem Tr.Q8{t:List En}{p:Pt.Bs}(h:(Tr.remove t p).2=0):Tr.removeErr t p=0:=by
 unfold Tr.remove at h
 by_cases a:Tr.removeErr t p=0
 ·exact a
 rw[aM a]at h;exact h
theorem Tr.M_{t:List En}{e:En}(h:(Tr.put t e).2=0):e.P≠[]/\e.p.size<=80:=by
 obtain⟨_,_,b,_⟩:=Tr.put_ok (Tr.Q7 h);have a:=Tr.entry_clean b;have c:=Tr.bV a;have g:e.P.length=e.p.size:=af e.p;exact⟨Tr.clean_ne a,by omega⟩
theorem Tr.Na{b:Bool}{t:List En}{p:ByteArray}(ht:Tr.Right b t)(h0:p.data.toList≠[])(h:Tr.get t p.data.toList≠none):p.size<=80:=by
 rcases g:Tr.get t p with _|x
 ·exact absurd g h
 obtain⟨c,e⟩:=Tr.get_some h0 g;have a:=Tr.bV (Tr.entry_clean (ht.1 x c));rw[e,af]at a;exact a
theorem Tr.Nb{t:List En}{p:ByteArray}(h:(Tr.remove t p).2=0):p.data.toList≠[]/\p.size<=80:=by
 obtain⟨_,b,a,c,_⟩:=Tr.BH (Tr.Q8 h);exact⟨a,Tr.Na b a c⟩
theorem Tr.GR{u:Un}{e:En}{x:Int}(h:(Tr.seenU u).2=x)(hx:x≠0):Tr.putU u e=(Un.zero,x):=by unfold Tr.putU;rw[h,aM hx]
theorem Tr.Nc{u:Un}{e:En}{x:Int}(h:(Tr.seenU u).2=0)(h2:(Tr.put (Tr.seenU u).1 e).2=x)(hx:x≠0):Tr.putU u e=(Un.zero,x):=by unfold Tr.putU;rw[h,av (by simp),h2,aM hx]
theorem Tr.Nh{u:Un}{e:En}(h:(Tr.seenU u).2=0)(h2:(Tr.put (Tr.seenU u).1 e).2=0):Tr.putU u e=Tr.fin u (Tr.dR u.U e):=by unfold Tr.putU;rw[h,av (by simp),h2,av (by simp)]
theorem Tr.GU{u:Un}{p:Pt.Bs}{x:Int}(h:(Tr.seenU u).2=x)(hx:x≠0):Tr.removeU u p=(Un.zero,x):=by unfold Tr.removeU;rw[h,aM hx]
theorem Tr.Nj{u:Un}{p:Pt.Bs}{x:Int}(h:(Tr.seenU u).2=0)(h2:(Tr.remove (Tr.seenU u).1 p).2=x)(hx:x≠0):Tr.removeU u p=(Un.zero,x):=by unfold Tr.removeU;rw[h,av (by simp),h2,aM hx]
theorem Tr.Nk{u:Un}{p:Pt.Bs}(h:(Tr.seenU u).2=0)(h2:(Tr.remove (Tr.seenU u).1 p).2=0):Tr.removeU u p=Tr.fin u (Tr.dD (Tr.ay u) u.U p):=by unfold Tr.removeU;rw[h,av (by simp),h2,av (by simp)]
theorem Tr.UL(B U:List En)(p:Pt.Bs):(Tr.dD B U p).length<=U.length+p.length+1:=by
 have a:=fF U p;unfold Tr.dD
 split
 ·have b:=Tr.DW p.length (Tr.outside U p) (Tr.cZ p)
  omega
 omega
theorem Kp.below{w w':World}{base g:Nat}{v:Value}{l:List En}(h:Kp w base g v l)(hb:Below w w w')(hB:base<=w.heap.size):Kp w' base g v l:=h.keep (bC.of hb hB)
theorem zx(A A':Option Addr)(c c':Nat)(u:Un)(xp:ByteArray)(xk:Int)(xt:ByteArray)(xo:Bool)(w:World)(hu:bT w w A A' c c' u)(hs:iR u)(hxp:xp.size<4294967281)(hxt:xt.size<4294967281):Calls prog 20 #[.agg #[.slice A u.U.length c,.slice A' u.L.length c'],.agg #[xp,xk,xt,xo]] w (jX w (Tr.putU u ⟨xp,xk,xt,xo⟩) w):=by
 have HS:=aL hs;have HU:=aL hu;clear hs hu;obtain⟨R,hR⟩:∃R,R=Tr.putU u ⟨xp,xk,xt,xo⟩:=⟨_,rfl⟩;rw[<-hR];have G:=aL (Tr.parts (u:=u));have M:Hid ((Tr.seenU u).2≠0->R=(Un.zero,(Tr.seenU u).2)):=aL (λh=>hR.trans (Tr.GR rfl h))
 have I:Hid ((Tr.seenU u).2=0->(Tr.put (Tr.seenU u).1 ⟨xp,xk,xt,xo⟩).2≠0->R=(Un.zero,(Tr.put (Tr.seenU u).1 ⟨xp,xk,xt,xo⟩).2)):=aL (λh h2=>hR.trans (Tr.Nc h rfl h2))
 have D:Hid ((Tr.seenU u).2=0->(Tr.put (Tr.seenU u).1 ⟨xp,xk,xt,xo⟩).2=0->R=Tr.fin u (Tr.dR u.U ⟨xp,xk,xt,xo⟩)/\(⟨xp,xk,xt,xo⟩:En).P≠[]/\xp.size<=80):=aL (λh h2=>⟨hR.trans (Tr.Nh h h2),Tr.M_ h2⟩)
 clear hR;have b:=((aa w w).alloc aR (.cells #[.slice A u.U.length c,.slice A' u.L.length c'] 33));have j:=ai.new w 33 [.slice A u.U.length c,.slice A' u.L.length c'];have b:=b.alloc b.size (.cells #[xp,xk,xt,xo] 45);have j:=j.alloc (.cells #[xp,xk,xt,xo] 45);have m:=ai.new (w.alloc (.cells #[.slice A u.U.length c,.slice A' u.L.length c'] 33)) 45 [xp,xk,xt,xo];have b:=b.alloc b.size (.cells #[(),()] 33);have j:=j.alloc (.cells #[(),()] 33);have m:=m.alloc (.cells #[(),()] 33);have E:=ai.new ((w.alloc (.cells #[.slice A u.U.length c,.slice A' u.L.length c'] 33)).alloc (.cells #[xp,xk,xt,xo] 45)) 33 [(),()];have hsz0:(((w.alloc (.cells #[.slice A u.U.length c,.slice A' u.L.length c'] 33)).alloc (.cells #[xp,xk,xt,xo] 45)).alloc (.cells #[(),()] 33)).heap.size=w.heap.size+3:=by simp only[bX]
 simp only[bX]at E m;go_enter func20,ntmps20;go_upto_region 1 with fail
 generalize (((w.alloc (.cells #[.slice A u.U.length c,.slice A' u.L.length c'] 33)).alloc (.cells #[xp,xk,xt,xo] 45)).alloc (.cells #[(),()] 33))=w0 at*;have Ws:bT w0 w0 A A' c c' u:=(HU.out.below b).more b.size;have cB:=vK w A A' c c' u w0 j Ws HS.out;unfold qh at cB;clear Ws;obtain⟨T,hT⟩:∃T,T=Tr.seenU u:=⟨_,rfl⟩;rw[<-hT]at cB G M I D;clear hT;obtain⟨S,se⟩:=T;dsimp only at cB G M I D;go_wp2_with fail;refine cB.mono ?_
 rintro e w4 ⟨gc,a,B,rfl,N,Wu,hgc,hb⟩;have Jl:=aL Wu;have F:=b.trans (hb.mono b.size);have Z:=j.below hb j.lt;have O:=E.below hb E.lt;have i:=m.below hb m.lt;have hgb:=N.lt;have K:=N.size;obtain⟨vU,vB,vS,q,dI,hkB,hkS⟩:=N.ex;clear hb Wu b j E m N cB;obtain⟨AS,cS,hvS,hcS,Em,hnS⟩:=hkS;subst hvS;obtain⟨k0,k1,k2,k3,kf,kz⟩:=q.four
 rcases te:(se !=0)with _|_
 rotate_left
 ·have HF:=aL (M.out (by simpa using te))
  have z:=O.two;go_wp2_with fail
  go_region
  all_goals
   go_wp2_with fail;refine aD (v:= .tuple #[.agg #[(),()],se]) ?_ rfl ?_
   ·simp[results,results20,go_sem,z]
   rw[HF.out];exact jX.none (((F.setCell (p:=(w.heap.size+1+1:Nat)) (by show w.heap.size<=w.heap.size+1+1;omega) (.slice none 0 0)).setCell (p:=⟨w.heap.size+1+1,1,none⟩) (by show w.heap.size<=w.heap.size+1+1;omega) (.slice none 0 0)).drew)
 have t:se=0:=by simpa using te
 have Q:=aL (G.out t);have HN:=aL (I.out t);have HO:=aL (D.out t);have hBe:B=Tr.ay u:=Jl.out t;subst hBe;clear G I D M Jl te;subst t;go_upto_region 4 with fail
 obtain⟨e0,e1,e2,e3,ef,ez⟩:=i.four;have V:aC w4 w4 AS S:=Rd.more Em K;obtain⟨pe,hpe⟩:∃pe,pe=(Tr.put S ⟨xp,xk,xt,xo⟩).2:=⟨_,rfl⟩;rw[<-hpe]at HN HO
 go_cut [8] (λev wx=>ev= .int .i64 pe/\Below w4 w4 wx)
 case first=>
  go_region_held3 (λW=>W.cell? ⟨gc,2,none⟩=some (.slice AS S.length cS)/\W.cell? (w.heap.size+1:Nat)=some (.string xp)/\W.cell? ⟨w.heap.size+1,1,none⟩=some (.int .i64 xk)/\W.cell? ⟨w.heap.size+1,2,none⟩=some (.string xt)/\W.cell? ⟨w.heap.size+1,3,none⟩=some (.bool xo))
   (first|exact⟨k2,e0,e1,e2,e3⟩|exact hS6|go_keep)
   (first|(go_at_call 45;refine(put_any AS cS S xp xk xt xo _ (by exact V) hcS (Tr.bn Q.out.sr) hxp hxt (by have:=Q.out.sl;omega)).mono ?_;rintro e o ⟨v6,rfl,_,n⟩;have hS6:o.cell? ⟨gc,2,none⟩=some (.slice AS S.length cS)/\o.cell? (w.heap.size+1:Nat)=some (.string xp)/\o.cell? ⟨w.heap.size+1,1,none⟩=some (.int .i64 xk)/\o.cell? ⟨w.heap.size+1,2,none⟩=some (.string xt)/\o.cell? ⟨w.heap.size+1,3,none⟩=some (.bool xo):=⟨(n.cell (p:=⟨gc,2,none⟩) q.lt).trans k2,(n.cell (p:=(w.heap.size+1:Nat)) i.lt).trans e0,(n.cell (p:=⟨w.heap.size+1,1,none⟩) i.lt).trans e1,(n.cell (p:=⟨w.heap.size+1,2,none⟩) i.lt).trans e2,(n.cell (p:=⟨w.heap.size+1,3,none⟩) i.lt).trans e3⟩))
  all_goals
   go_wp2;go_meet
   case rel=>exact⟨by rw[hpe],((aa _ w4).drew).trans n⟩
 case rest=>
 obtain⟨rfl,g⟩:=hcut;clear hpe;generalize wc=w5 at*;have hx5:=i.below g i.lt;have dh:=F.trans (g.mono F.size);have hq5:=Z.below g Z.lt;have jo:=O.below g O.lt;have hc5:=q.below g q.lt;have Y:ag w5 a vU u.U:=own_below dI g aR;have Q9:=hkB.below g K;have x:=eT K g.size;clear g F Z O i q dI hkB K Em V k0 k1 k2 k3 kf kz e0 e1 e2 e3 ef ez
 rcases tp:(pe !=0)with _|_
 rotate_left
 ·have HF:=aL (HN.out (by simpa using tp))
  have z:=jo.two;go_wp2_with fail;refine aD (v:= .tuple #[.agg #[(),()],.int .i64 pe]) ?_ rfl ?_
  ·simp[results,results20,go_sem,z]
  rw[HF.out];exact jX.none ((dh.setCell (p:=(w.heap.size+1+1:Nat)) (by show w.heap.size<=w.heap.size+1+1;omega) (.slice none 0 0)).setCell (p:=⟨w.heap.size+1+1,1,none⟩) (by show w.heap.size<=w.heap.size+1+1;omega) (.slice none 0 0))
 have HF:=aL (HO.out (by simpa using tp)).1
 have r:=(HO.out (by simpa using tp)).2
 clear HN HO;obtain⟨e0,e1,e2,e3,ef,ez⟩:=hx5.four;have HLEN:Hid ((Tr.dR u.U ⟨xp,xk,xt,xo⟩).length<=2000000):=aL (by
  have h1:=Tr.xM u.U ⟨xp,xk,xt,xo⟩;have h2:=Q.out.ul;have h3:(⟨xp,xk,xt,xo⟩:En).P.length=xp.size:=af xp;have h4:=r.2
  omega)
 go_wp2_with fail;clear e0 e1 e2 e3 ef ez;refine(set_any xp.size gc a vB _ _ vU u.U ⟨xp,xk,xt,xo⟩ w5 hc5 Y hgb x Q.out.ur.2.1 (λy hy=>Tr.bu Q.out.ur hy) (Tr.bn Q.out.ur) r.1 (uE (af xp)) hxp hxt (by have:=Q.out.ul;have:=r.2;omega)).mono ?_
 rintro e o ⟨rfl,v6,hc6,nz,GM⟩;have k:bC a gc w5 o:=GM.sJ x (nK Y);have hq6:=hq5.rQ k (by omega) (by omega)
 have kW:=jo.rQ k (by omega) (by omega)
 have H:=dh.trans (k.below (by omega) (by omega))
 have Be:a<=o.heap.size:=eT x k.size;clear GM k hq5 jo hc5 Y dh;go_wp2_with fail;have hl6:jc o o A' u.L:=((HU.out.below H).more H.size).low;refine(xP gc w a vB _ _ v6 _ A A' c c' u o hc6 nz Be hq6 hl6 (by have:=Q.out.ll;omega) (λl hl=>by have:=Q.out.lls l hl;omega) HLEN.out).mono ?_
 rintro e w7 ⟨A7,XA,c7,XB,rfl,lh,hb7⟩;have fM:=kW.below hb7 kW.lt;have jV:=H.trans (hb7.mono H.size);rw[<-HF.out]at lh;rw[<-HF.out];have z:=fM.two;go_wp2_with fail;refine aD (v:= .tuple #[.agg #[.slice A7 R.1.U.length c7,.slice XA R.1.L.length XB],R.2]) ?_ rfl ?_
 ·simp[results,results20,go_sem,z]
 exact⟨_,_,_,_,rfl,((lh.set (p:=(w.heap.size+1+1:Nat)) (by show w.heap.size+1+1<a;omega) _).set (p:=⟨w.heap.size+1+1,1,none⟩) (by show w.heap.size+1+1<a;omega) _).less (by omega),(jV.setCell (p:=(w.heap.size+1+1:Nat)) (by show w.heap.size<=w.heap.size+1+1;omega) _).setCell (p:=⟨w.heap.size+1+1,1,none⟩) (by show w.heap.size<=w.heap.size+1+1;omega) _⟩
theorem GV(A A':Option Addr)(c c':Nat)(u:Un)(s:ByteArray)(w:World)(hu:bT w w A A' c c' u)(hs:iR u)(hsz:s.size<4294967281):Calls prog 23 #[.agg #[.slice A u.U.length c,.slice A' u.L.length c'],s] w (jX w (Tr.removeU u s) w):=by
 have HS:=aL hs;have HU:=aL hu;clear hs hu;obtain⟨R,hR⟩:∃R,R=Tr.removeU u s.data.toList:=⟨_,rfl⟩;rw[<-hR];have E:=aL (Tr.parts (u:=u));have I:Hid ((Tr.seenU u).2≠0->R=(Un.zero,(Tr.seenU u).2)):=aL (λh=>hR.trans (Tr.GU rfl h))
 have G:Hid ((Tr.seenU u).2=0->(Tr.remove (Tr.seenU u).1 s).2≠0->R=(Un.zero,(Tr.remove (Tr.seenU u).1 s).2)):=aL (λh h2=>hR.trans (Tr.Nj h rfl h2))
 have r:Hid ((Tr.seenU u).2=0->(Tr.remove (Tr.seenU u).1 s).2=0->R=Tr.fin u (Tr.dD (Tr.ay u) u.U s)/\s.data.toList≠[]/\s.size<=80):=aL (λh h2=>⟨hR.trans (Tr.Nk h h2),Tr.Nb h2⟩)
 clear hR;have g:=((aa w w).alloc aR (.cells #[.slice A u.U.length c,.slice A' u.L.length c'] 33));have j:=ai.new w 33 [.slice A u.U.length c,.slice A' u.L.length c'];have g:=g.alloc g.size (.cells #[(),()] 33);have j:=j.alloc (.cells #[(),()] 33);have t:=ai.new (w.alloc (.cells #[.slice A u.U.length c,.slice A' u.L.length c'] 33)) 33 [(),()];have hsz0:((w.alloc (.cells #[.slice A u.U.length c,.slice A' u.L.length c'] 33)).alloc (.cells #[(),()] 33)).heap.size=w.heap.size+2:=by simp only[bX]
 simp only[bX]at t;go_enter func23,ntmps23;go_upto_region 1 with fail
 generalize ((w.alloc (.cells #[.slice A u.U.length c,.slice A' u.L.length c'] 33)).alloc (.cells #[(),()] 33))=w0 at*;have Ws:bT w0 w0 A A' c c' u:=(HU.out.below g).more g.size;have cB:=vK w A A' c c' u w0 j Ws HS.out;unfold qh at cB;clear Ws;obtain⟨T,hT⟩:∃T,T=Tr.seenU u:=⟨_,rfl⟩;rw[<-hT]at cB E I G r;clear hT;obtain⟨S,se⟩:=T;dsimp only at cB E I G r;go_wp2_with fail;refine cB.mono ?_
 rintro e w4 ⟨gc,a,B,rfl,K,Wu,hgc,hb⟩;have Jl:=aL Wu;have x:=g.trans (hb.mono g.size);have Q:=j.below hb j.lt;have M:=t.below hb t.lt;have hgb:=K.lt;have H:=K.size;obtain⟨vU,vB,vS,D,dI,hkB,hkS⟩:=K.ex;clear hb Wu g j t K cB;obtain⟨AS,cS,hvS,hcS,Em,hnS⟩:=hkS;subst hvS;have k:=D.four
 rcases te:(se !=0)with _|_
 rotate_left
 ·have Y:=aL (I.out (by simpa using te))
  have z:=M.two;go_wp2_with fail
  go_region
  all_goals
   go_wp2_with fail;refine aD (v:= .tuple #[.agg #[(),()],se]) ?_ rfl ?_
   ·simp[results,results23,go_sem,z]
   rw[Y.out];exact jX.none (((x.setCell (p:=(w.heap.size+1:Nat)) (by show w.heap.size<=w.heap.size+1;omega) (.slice none 0 0)).setCell (p:=⟨w.heap.size+1,1,none⟩) (by show w.heap.size<=w.heap.size+1;omega) (.slice none 0 0)).drew)
 have o:se=0:=by simpa using te
 have m:=aL (E.out o);have HN:=aL (G.out o);have HO:=aL (r.out o);have hBe:B=Tr.ay u:=Jl.out o;subst hBe;clear E G r I Jl te;subst o;have N:aC w4 w4 AS S:=Rd.more Em H;go_wp2_with fail;refine(J3 AS cS S s w4 N hcS (Tr.bn m.out.sr) hsz (by have:=m.out.sl;omega)).mono ?_
 rintro e w5 ⟨v5,rfl,_,i⟩;have W:=x.trans (i.mono x.size);have hq5:=Q.below i Q.lt;have V:=M.below i M.lt;have hc5:=D.below i D.lt;have O:ag w5 a vU u.U:=own_below dI i aR;have Z:=hkB.below i H;have q:=eT H i.size;clear i x Q M D dI hkB H Em N k;generalize (Tr.remove S s).2=pe at*
 rcases tp:(pe !=0)with _|_
 rotate_left
 ·have Y:=aL (HN.out (by simpa using tp))
  have z:=V.two;go_wp2_with fail;refine aD (v:= .tuple #[.agg #[(),()],pe]) ?_ rfl ?_
  ·simp[results,results23,go_sem,z]
  rw[Y.out];exact jX.none ((W.setCell (p:=(w.heap.size+1:Nat)) (by show w.heap.size<=w.heap.size+1;omega) (.slice none 0 0)).setCell (p:=⟨w.heap.size+1,1,none⟩) (by show w.heap.size<=w.heap.size+1;omega) (.slice none 0 0))
 have Y:=aL (HO.out (by simpa using tp)).1
 have n:=(HO.out (by simpa using tp)).2
 clear HN HO;have HLEN:Hid ((Tr.dD (Tr.ay u) u.U s).length<=2000000):=aL (by
  have h1:=Tr.UL (Tr.ay u) u.U s;have h2:=m.out.ul;have h3:=af s;have h4:=n.2
  omega)
 go_wp2_with fail;refine(zu gc a vU vB _ _ u.U (Tr.ay u) s w5 hc5 O Z hgb q m.out.ur.2.1 (λy hy=>Tr.bu m.out.ur hy) (Tr.bn m.out.ur) m.out.br.2.1 (Tr.bn m.out.br) (by have:=m.out.bl;omega) n.1 hsz (by have:=m.out.ul;have:=n.2;omega)).mono ?_
 rintro e w6 ⟨rfl,v6,hc6,nz,GM⟩;have b:bC a gc w5 w6:=GM.sJ q (nK O);have hq6:=hq5.rQ b (by omega) (by omega)
 have kW:=V.rQ b (by omega) (by omega)
 have F:=W.trans (b.below (by omega) (by omega))
 have Be:a<=w6.heap.size:=eT q b.size;clear GM b hq5 V hc5 O W;go_wp2_with fail;have hl6:jc w6 w6 A' u.L:=((HU.out.below F).more F.size).low;refine(xP gc w a vB _ _ v6 _ A A' c c' u w6 hc6 nz Be hq6 hl6 (by have:=m.out.ll;omega) (λl hl=>by have:=m.out.lls l hl;omega) HLEN.out).mono ?_
 rintro e w7 ⟨A7,XA,c7,XB,rfl,lh,hb7⟩;have fM:=kW.below hb7 kW.lt;have jV:=F.trans (hb7.mono F.size);rw[<-Y.out]at lh;rw[<-Y.out];have z:=fM.two;go_wp2_with fail;refine aD (v:= .tuple #[.agg #[.slice A7 R.1.U.length c7,.slice XA R.1.L.length XB],R.2]) ?_ rfl ?_
 ·simp[results,results23,go_sem,z]
 exact⟨_,_,_,_,rfl,((lh.set (p:=(w.heap.size+1:Nat)) (by show w.heap.size+1<a;omega) _).set (p:=⟨w.heap.size+1,1,none⟩) (by show w.heap.size+1<a;omega) _).less (by omega),(jV.setCell (p:=(w.heap.size+1:Nat)) (by show w.heap.size<=w.heap.size+1;omega) _).setCell (p:=⟨w.heap.size+1,1,none⟩) (by show w.heap.size<=w.heap.size+1;omega) _⟩
structure Tr.Ok(U:List En)(n:Nat):Prop where
 FI:Tr.Srt U
 ne:∀x∈U,x.P≠[]
 sm:Sm U
 len:U.length<=n
theorem Tr.Ok.more{U:List En}{n m:Nat}(h:Tr.Ok U n)(hm:n<=m):Tr.Ok U m:=⟨h.FI,h.ne,h.sm,eT h.len hm⟩
theorem Tr.Q_{U:List En}{n:Nat}{e:En}(h:Tr.Ok U n)(he:e.P≠[])(h1:e.p.size<=80)(h2:e.t.size<4294967281):Tr.Ok (Tr.dR U e) (n+81):=
 ⟨(
  Tr.tY h.FI h.ne he).1,(Tr.tY h.FI h.ne he).2,Tr.xO _ h.FI h.ne he h.sm (by omega) h2,by
  have a:=Tr.xM U e;have b:e.P.length=e.p.size:=af e.p;have:=h.len
  omega⟩
theorem Tr.xQ(B:List En){U:List En}{n:Nat}{p:ByteArray}(h:Tr.Ok U n)(hp:p.data.toList≠[])(h1:p.size<=80):Tr.Ok (Tr.dD B U p) (n+81):=by
 have b:Tr.Ok (Tr.outside U p) n:=⟨Tr.aY h.FI _,λx a=>h.ne x (List.mem_filter.1 a).1,λx a=>h.sm x (List.mem_filter.1 a).1,eT (fF _ _) h.len⟩
 unfold Tr.dD
 split
 ·rw[zq]
  exact Tr.Q_ (e:=⟨p,4,⟨#[]⟩,false⟩) b hp h1 (by show(0:Nat)<4294967281;decide)
 exact b.more (by omega)
theorem Tr.J5:∀{xs U:List En} {n:Nat},Tr.Ok U n->(∀e∈xs,e.P≠[]/\e.p.size<=80/\e.t.size<4294967281)->Tr.Ok (Tr.fQ U xs) (n+81*xs.length)
 |[],_,_,h,_=>h
 |x::xs,U,n,h,hx=>by
  have h1:=hx x (tF ..);have:=Tr.J5 (xs:=xs) (Tr.Q_ h h1.1 h1.2.1 h1.2.2) λe a=>hx e (oo _ a)
  refine this.more ?_
  rw[gL];omega
theorem Tr.OO{t:List En}{s d:Pt.Bs}(h:(Tr.move t s d).2=0):Tr.moveErr t s d=0:=by
 unfold Tr.move at h
 by_cases a:Tr.moveErr t s d=0
 ·exact a
 rw[aM a]at h;exact h
structure Tr.J6(S:List En)(s d:ByteArray):Prop where
 s0:s.data.toList≠[]
 sl:s.size<=80
 d0:d.data.toList≠[]
 dl:d.size<=80
 mv:∀e∈Tr.au S s d,e.P≠[]/\e.p.size<=80/\e.t.size<4294967281
theorem Tr.Wv{S:List En}{s d:ByteArray}(hS:Tr.Right false S)(h:(Tr.move S s d).2=0):Tr.J6 S s d:=by
 have i:=Tr.OO h;obtain⟨_,_,l,_,_⟩:=Tr.move_ok i;obtain⟨x,m,a,b,_⟩:=Tr.iO l;have c:=Tr.bV b;rw[af]at c;refine⟨a,Tr.Na hS a (by rw[m];exact λh=>by cases h),Tr.clean_ne b,c,λe g=> ?_⟩
 have j:=Tr.wO i e g;have o:=Tr.bV j;have n:e.P.length=e.p.size:=af e.p;refine⟨Tr.clean_ne j,by omega,?_⟩
 obtain⟨y,k,_,rfl⟩:=Tr.dm.1 g;rw[Tr.uZ];exact(Tr.bn hS y k).2
theorem Tr.Dh{u:Un}{s d:Pt.Bs}{x:Int}(h:(Tr.seenU u).2=x)(hx:x≠0):Tr.moveU u s d=(Un.zero,x):=by unfold Tr.moveU;rw[h,aM hx]
theorem Tr.GX{u:Un}{s d:Pt.Bs}{x:Int}(h:(Tr.seenU u).2=0)(h2:(Tr.move (Tr.seenU u).1 s d).2=x)(hx:x≠0):Tr.moveU u s d=(Un.zero,x):=by unfold Tr.moveU;rw[h,av (by simp),h2,aM hx]
theorem Tr.GY{u:Un}{s d:Pt.Bs}(h:(Tr.seenU u).2=0)(h2:(Tr.move (Tr.seenU u).1 s d).2=0):Tr.moveU u s d=Tr.fin u (if s=d then u.U else Tr.fQ (Tr.dD (Tr.ay u) (if(Tr.get (Tr.seenU u).1 d).isSome then Tr.dD (Tr.ay u) u.U d else u.U) s) (Tr.au (Tr.seenU u).1 s d)):=by unfold Tr.moveU Tr.FT;rw[h,av (by simp),h2,av (by simp)]
theorem Rf{s d y:ByteArray}(k:Int)(t:ByteArray)(o:Bool)(h:Tr.mv s y):Tr.dH s d ⟨y,k,t,o⟩=⟨d++y.extract s.size y.size,k,t,o⟩:=by
 unfold Tr.dH
 rcases si (y.data.toList=s.data.toList)with a|a
 ·rw[aM (show(⟨y,k,t,o⟩:En).P=_ from a),<-jW]
  rw[a,oF,ky]
 rw[av (show¬(⟨y,k,t,o⟩:En).P=_ from a),aM (show Pt.under (⟨y,k,t,o⟩:En).P _=true from h.resolve_left a),<-jW];rfl
theorem OQ(A A':Option Addr)(c c':Nat)(u:Un)(s d:ByteArray)(w:World)(hu:bT w w A A' c c' u)(hs:iR u)(hsz:s.size<4294967281)(hdz:d.size<4294967281):Calls prog 25 #[.agg #[.slice A u.U.length c,.slice A' u.L.length c'],s,d] w (jX w (Tr.moveU u s d) w):=by
 have HS:=aL hs;have HU:=aL hu;clear hs hu;obtain⟨R,hR⟩:∃R,R=Tr.moveU u s d.data.toList:=⟨_,rfl⟩;rw[<-hR];have UM:=aL (Tr.parts (u:=u));have Eo:Hid ((Tr.seenU u).2≠0->R=(Un.zero,(Tr.seenU u).2)):=aL (λh=>hR.trans (Tr.Dh rfl h))
 have UN:Hid ((Tr.seenU u).2=0->(Tr.move (Tr.seenU u).1 s d).2≠0->R=(Un.zero,(Tr.move (Tr.seenU u).1 s d).2)):=aL (λh h2=>hR.trans (Tr.GX h rfl h2))
 have UO:Hid ((Tr.seenU u).2=0->(Tr.move (Tr.seenU u).1 s d).2=0->R=Tr.fin u (if s.data.toList=d.data.toList then u.U else Tr.fQ (Tr.dD (Tr.ay u) (if(Tr.get (Tr.seenU u).1 d).isSome then Tr.dD (Tr.ay u) u.U d else u.U) s) (Tr.au (Tr.seenU u).1 s d))/\(Tr.Right false (Tr.seenU u).1->Tr.J6 (Tr.seenU u).1 s d)):=aL (λh h2=>⟨hR.trans (Tr.GY h h2),λhr=>Tr.Wv hr h2⟩)
 clear hR;have K:=((aa w w).alloc aR (.cells #[.slice A u.U.length c,.slice A' u.L.length c'] 33));have hq0:=ai.new w 33 [.slice A u.U.length c,.slice A' u.L.length c'];have K:=K.alloc K.size (.cells #[(),()] 33);have hq0:=hq0.alloc (.cells #[(),()] 33);have hz0:=ai.new (w.alloc (.cells #[.slice A u.U.length c,.slice A' u.L.length c'] 33)) 33 [(),()];have hsz0:((w.alloc (.cells #[.slice A u.U.length c,.slice A' u.L.length c'] 33)).alloc (.cells #[(),()] 33)).heap.size=w.heap.size+2:=by simp only[bX]
 simp only[bX]at hz0;go_enter func25,ntmps25;go_upto_region 1 with fail
 generalize ((w.alloc (.cells #[.slice A u.U.length c,.slice A' u.L.length c'] 33)).alloc (.cells #[(),()] 33))=w0 at*;have Ws:bT w0 w0 A A' c c' u:=(HU.out.below K).more K.size;have cB:=vK w A A' c c' u w0 hq0 Ws HS.out;unfold qh at cB;clear Ws;obtain⟨T,hT⟩:∃T,T=Tr.seenU u:=⟨_,rfl⟩;rw[<-hT]at cB UM Eo UN UO;clear hT;obtain⟨S,se⟩:=T;dsimp only at cB UM Eo UN UO;go_wp2_with fail;refine cB.mono ?_
 rintro e w4 ⟨gc,a,B,rfl,hch,Wu,hgc,hb⟩;have Jl:=aL Wu;have hB4:=K.trans (hb.mono K.size);have hq4:=hq0.below hb hq0.lt;have jY:=hz0.below hb hz0.lt;have hgb:=hch.lt;have hbw:=hch.size;obtain⟨vU,vB,vS,hc4,dI,hkB,hkS⟩:=hch.ex;clear hb Wu K hq0 hz0 hch cB;obtain⟨AS,cS,hvS,hcS,Em,hnS⟩:=hkS;subst hvS;have x:=hc4.four
 rcases te:(se !=0)with _|_
 rotate_left
 ·have HF:=aL (Eo.out (by simpa using te))
  have q:=jY.two;go_wp2_with fail
  go_region
  all_goals
   go_wp2_with fail;refine aD (v:= .tuple #[.agg #[(),()],se]) ?_ rfl ?_
   ·simp[results,results25,go_sem,q]
   rw[HF.out];exact jX.none (((hB4.setCell (p:=(w.heap.size+1:Nat)) (by show w.heap.size<=w.heap.size+1;omega) (.slice none 0 0)).setCell (p:=⟨w.heap.size+1,1,none⟩) (by show w.heap.size<=w.heap.size+1;omega) (.slice none 0 0)).drew)
 have hse:se=0:=by simpa using te
 have m:=aL (UM.out hse);have HN:=aL (UN.out hse);have HO:=aL (UO.out hse);have hBe:B=Tr.ay u:=Jl.out hse;subst hBe;clear UM UN UO Eo Jl te;subst hse;have aae:aC w4 w4 AS S:=Rd.more Em hbw;go_wp2_with fail;refine(move_any AS cS S s d w4 aae hcS (Tr.bn m.out.sr) hsz hdz (by have:=m.out.sl;omega)).mono ?_
 rintro e w5 ⟨v5,rfl,_,E⟩;have aaf:Kp w4 a gc (.slice AS S.length cS) S:=⟨AS,cS,rfl,hcS,Em,hnS⟩;clear Em aae x;have UQ:=hbw;have aag:=hkB;clear hbw hkB;have I:=hB4.trans (E.mono hB4.size);have hq5:=hq4.below E hq4.lt;have jo:=jY.below E jY.lt;have hc5:=hc4.below E hc4.lt;have xg:ag w5 a vU u.U:=own_below dI E aR;have Q9:=aag.below E UQ;have XC:=aaf.below E UQ;have r:=eT UQ E.size;clear E hB4 hq4 jY hc4 dI aag aaf UQ;generalize (Tr.move S s d).2=pe at*
 rcases tp:(pe !=0)with _|_
 rotate_left
 ·have HF:=aL (HN.out (by simpa using tp))
  have q:=jo.two;go_wp2_with fail;refine aD (v:= .tuple #[.agg #[(),()],pe]) ?_ rfl ?_
  ·simp[results,results25,go_sem,q]
  rw[HF.out];exact jX.none ((I.setCell (p:=(w.heap.size+1:Nat)) (by show w.heap.size<=w.heap.size+1;omega) (.slice none 0 0)).setCell (p:=⟨w.heap.size+1,1,none⟩) (by show w.heap.size<=w.heap.size+1;omega) (.slice none 0 0))
 have Ea:=aL (HO.out (by simpa using tp)).1
 have HM:=aL ((HO.out (by simpa using tp)).2 m.out.sr)
 clear HN HO;have hul:=m.out.ul;have n:Hid (Tr.Ok u.U 80):=aL ⟨m.out.ur.2.1,λy hy=>Tr.bu m.out.ur hy,Tr.bn m.out.ur,m.out.ul⟩
 rcases Di:(s.toList==d.toList)with _|_
 rotate_left
 ·have HF:Hid (R=Tr.fin u u.U):=aL (by rw[Ea.out,aM (by rw[aj]at Di;simpa using Di)])
  have HLEN:Hid (u.U.length<=2000000):=aL (by omega)
  go_wp2_with fail;have hl5:jc w5 w5 A' u.L:=((HU.out.below I).more I.size).low;refine(xP gc w a vB _ _ vU _ A A' c c' u w5 hc5 xg r hq5 hl5 (by have:=m.out.ll;omega) (λl hl=>by have:=m.out.lls l hl;omega) HLEN.out).mono ?_
  rintro e Rh ⟨A7,XA,c7,XB,rfl,lh,hb7⟩;have fM:=jo.below hb7 jo.lt;have jV:=I.trans (hb7.mono I.size);rw[<-HF.out]at lh;rw[<-HF.out];have q:=fM.two;go_wp2_with fail;refine aD (v:= .tuple #[.agg #[.slice A7 R.1.U.length c7,.slice XA R.1.L.length XB],R.2]) ?_ rfl ?_
  ·simp[results,results25,go_sem,q]
  exact⟨_,_,_,_,rfl,((lh.set (p:=(w.heap.size+1:Nat)) (by show w.heap.size+1<a;omega) _).set (p:=⟨w.heap.size+1,1,none⟩) (by show w.heap.size+1<a;omega) _).less (by omega),(jV.setCell (p:=(w.heap.size+1:Nat)) (by show w.heap.size<=w.heap.size+1;omega) _).setCell (p:=⟨w.heap.size+1,1,none⟩) (by show w.heap.size<=w.heap.size+1;omega) _⟩
 have Qe:=aL (Ea.out);rw[av (show¬s.data.toList=d.data.toList by rw[aj]at Di;simpa using Di)]at Qe
 clear Ea;have x:=hc5.four;have Ri:aC w5 w5 AS S:=by
  obtain⟨Aq,cq,hq,_,hr,_⟩:=XC;injection hq with q1 q2 q3
  rw[q1];exact Rd.more hr r
 go_wp2_with fail;refine(l_ AS cS S d w5 Ri (Tr.bn m.out.sr) hdz (by have:=m.out.sl;omega)).mono ?_
 rintro e w6 ⟨kk,b,rfl,hf,D⟩;have hbs:=D9 hf m.out.sr.2.1 HM.out.d0;rw[<-hbs]at Qe;clear hf hbs Ri x;have pI:=I.trans (D.mono I.size);have hq6:=hq5.below D hq5.lt;have kW:=jo.below D jo.lt;have hc6:=hc5.below D hc5.lt;have nz:ag w6 a vU u.U:=own_below xg D aR;have XD:=Q9.below D r;have aah:=XC.below D r;have Be:=eT r D.size;clear D I hq5 jo hc5 xg Q9 XC r;have hvb:=nK nz;obtain⟨rU,hrU⟩:∃rU,rU=vU.ownBlock:=⟨_,rfl⟩;rw[<-hrU]at hvb;obtain⟨U1,XE⟩:∃U1,U1=if b=true then Tr.dD (Tr.ay u) u.U d else u.U:=⟨_,rfl⟩
 have Rj:=aL XE;rw[<-XE]at Qe;clear XE;have o:Hid (Tr.Ok U1 161):=aL (by
  rw[Rj.out]
  split
  ·exact Tr.xQ _ n.out HM.out.d0 HM.out.dl
  exact n.out.more (by omega))
 go_upto_if 56 with fail
 go_cut [] (λwx=>∃v,ai wx gc 90 [v,vB,.slice AS S.length cS,(0:Int)]/\ag wx a v U1/\lV gc rU v.ownBlock w6 wx)
 case first=>
  cases b
  ·go_wp2
   go_meet
   case rel=>exact⟨vU,hc6,by rw[Rj.out];exact nz,by rw[<-hrU];exact lV.of (aa _ _) aR⟩
  go_wp2_with fail;refine(zu gc a vU vB _ _ u.U (Tr.ay u) d w6 hc6 nz XD hgb Be n.out.FI n.out.ne n.out.sm m.out.br.2.1 (Tr.bn m.out.br) (by have:=m.out.bl;omega) HM.out.d0 hdz (by have:=HM.out.dl;omega)).mono ?_
  rintro e w7 ⟨rfl,v7,C_,pG,hg7⟩;go_wp2;go_meet
  case rel=>exact⟨v7,C_,by rw[Rj.out];exact pG,by rw[hrU];exact hg7⟩
 case rest=>
 clear hc6 nz Rj;obtain⟨v7,C_,pG,hg7⟩:=hcut;generalize wc=w7 at*;have Z:=hg7.sJ Be hvb;have hq7:=hq6.rQ Z (by omega) (by omega)
 have fM:=kW.rQ Z (by omega) (by omega)
 have jV:=pI.trans (Z.below (by omega) (by omega))
 have XF:=XD.keep Z;have aai:=aah.keep Z;have UR:a<=w7.heap.size:=eT Be Z.size;clear Z hg7 hq6 kW pI XD aah Be hvb hrU;have J7:Hid (Tr.Ok (Tr.dD (Tr.ay u) U1 s) 242):=aL (Tr.xQ _ o.out HM.out.s0 HM.out.sl);have hl1:=o.out.len;go_wp2_with fail;refine(zu gc a v7 vB _ _ U1 (Tr.ay u) s w7 C_ pG XF hgb UR o.out.FI o.out.ne o.out.sm m.out.br.2.1 (Tr.bn m.out.br) (by have:=m.out.bl;omega) HM.out.s0 hsz (by have:=HM.out.sl;omega)).mono ?_
 rintro e w8 ⟨rfl,v8,hc8,Rk,Ep⟩;have Xl:=Ep.sJ UR (nK pG);have hq8:=hq7.rQ Xl (by omega) (by omega)
 have uy:=fM.rQ Xl (by omega) (by omega)
 have sK:=jV.trans (Xl.below (by omega) (by omega))
 have adw:=XF.keep Xl;have abU:=aai.keep Xl;have abV:a<=w8.heap.size:=eT UR Xl.size;clear Xl Ep hq7 fM jV XF aai UR C_ pG;obtain⟨U2,Qd⟩:∃U2,U2=Tr.dD (Tr.ay u) U1 s.data.toList:=⟨_,rfl⟩;rw[<-Qd]at J7 Rk Qe;clear Qd o;have Rn:Hid (∀k,k<=S.length->Tr.Ok (Tr.fQ U2 (Tr.au (S.take k) s d)) 7000):=aL (λk hk=>by
  have hml:(Tr.au (S.take k) s d).length<=80:=by
   unfold Tr.au;rw[ib];refine eT (ko _ _) ?_
   rw[bR];have:=m.out.sl;omega
  refine(Tr.J5 J7.out λe he=>HM.out.mv e ?_).more (by omega)
  obtain⟨y,hy,h1,h2⟩:=Tr.dm.1 he;exact Tr.dm.2 ⟨y,xV hy,h1,h2⟩)
 clear J7 n;have hSl:S.length<=80:=m.out.sl;have x:=hc8.four;go_wp2_with fail;clear x
 go_loopw [68] (λi wr=>∃(k:Nat) (v:Value),k<=S.length/\i= .int .i64 k/\ai wr gc 90 [v,vB,.slice AS S.length cS,(0:Int)]/\ag wr a v (Tr.fQ U2 (Tr.au (S.take k) s d))/\bC a gc w8 wr) (λi _=>S.length- (intOf i).toNat)
 case atStart=>exact⟨0,v8,bL _,rfl,hc8,Rk,bC.refl _ _ _⟩
 case round=>
  clear hc8 Rk;obtain⟨k,v,hk,rfl,hcr,V,M⟩:=hrel;have N:a<=wr.heap.size:=eT abV M.size
  by_cases H:k<S.length
  ·obtain⟨Aq,cq,hqe,_,hrq,_⟩:=abU.keep M
   injection hqe with q1 q2 q3
   subst q1 q3;obtain⟨b2,o2,hA,hbb,h0,h1,h2,h3⟩:=aC.at_ hrq H
   subst hA;clear hrq;have j:=aL (Rn.out k hk);have hkl:=j.out.len;have HY:=aL (Tr.oI (s:=s.data.toList) (d:=d.data.toList) H);have qi:=aL (Tr.qP (s:=s.data.toList) (d:=d.data.toList) H);have OT:=aL (show Tr.mv s S[k].P->(Tr.dH s d S[k]).P≠[]/\(Tr.dH s d S[k]).p.size<=80/\(Tr.dH s d S[k]).t.size<4294967281 from λh=>HM.out.mv _ (Tr.dm.2 ⟨S[k],cz H,h,rfl⟩))
   have hzz:=(Sm.at_ (Tr.bn m.out.sr) H).1
   generalize S[k]=z at h0 h1 h2 h3 HY qi OT hzz;obtain⟨F,Q,W,O⟩:=z;dsimp only at h0 h1 h2 h3 hzz;obtain⟨LK,XG⟩:∃LK,LK=Tr.fQ U2 (Tr.au (S.take k) s d):=⟨_,rfl⟩;have Qg:=aL XG;rw[<-XG]at V j hkl;clear XG;have Fb:=aL (Rf (s:=s) (d:=d) (y:=F) Q W O)
   rcases Ro:(F.toList==s.toList)with _|_
   rotate_left
   ·have hq:F.data.toList=s.data.toList:=by rw[aj]at Ro;simpa using Ro
    have Y:Hid (Tr.mv s F):=aL (.inl hq);have hle2:s.size<=F.size:=by rw[<-af s,<-af F,hq];exact aR
    clear hq;have Rt:=aL (Fb.out Y.out);have HN:=aL (HY.out Y.out);have HE:=aL (OT.out Y.out);rw[Rt.out]at HN HE;obtain⟨g,Jn⟩:∃g,g=d++F.extract s.size F.size:=⟨_,rfl⟩;rw[<-Jn]at HN HE;clear HY qi OT Fb Rt;have hcw:=hcr.alloc (.cells #[.string g,Q,W,O] 45);have how:ag _ a v LK:=aH V (.cells #[.string g,Q,W,O] 45);have hxw:=M.trans (bC.of ((aa wr wr).alloc aR (.cells #[.string g,Q,W,O] 45)) N);have G:a<=(wr.alloc (.cells #[.string g,Q,W,O] 45)).heap.size:=by rw[bX];omega
    have hyw:=ai.new wr 45 [.string g,Q,W,O];go_wp2_with fail
    try rw[<-Jn]
    refine(set_any g.size gc a vB _ _ v LK ⟨g,Q,W,O⟩ (wr.alloc (.cells #[.string g,Q,W,O] 45)) hcw how hgb G j.out.FI j.out.ne j.out.sm HE.out.1 (uE (af g)) (by show g.size<4294967281;have h8:g.size<=80:=HE.out.2.1;omega) HE.out.2.2 (by have h8:g.size<=80:=HE.out.2.1;omega)).mono ?_
    rintro e Rh ⟨rfl,v20,XH,Es,XI⟩;have XJ:=hxw.trans (XI.sJ G (nK how));go_wp2;go_roundw
    case rel=>exact⟨k+1,v20,H,by go_num,XH,by rw[HN.out,Tr.mZ,<-Qg.out];exact Es,XJ⟩
    case measure=>simp[intOf];omega
   have hq:¬F.data.toList=s.data.toList:=by rw[aj]at Ro;simpa using Ro
   have te4:(F.toList !=s.toList)=true:=by rw[Dg];intro h;rw[h]at Ro;simp at Ro
   go_wp2_with fail;refine(lQ F s _ (by omega)).mono ?_
   rintro e w' ⟨rfl,rfl⟩
   rcases tu:Pt.under F s with _|_
   rotate_left
   ·have Y:Hid (Tr.mv s F):=aL (.inr tu)
    have hle2:s.size<=F.size:=by
     have:=Tr.lN HM.out.s0 tu;rw[af,af]at this;omega
    clear hq;have Rt:=aL (Fb.out Y.out);have HN:=aL (HY.out Y.out);have HE:=aL (OT.out Y.out);rw[Rt.out]at HN HE;obtain⟨g,Jn⟩:∃g,g=d++F.extract s.size F.size:=⟨_,rfl⟩;rw[<-Jn]at HN HE;clear HY qi OT Fb Rt;have hcw:=hcr.alloc (.cells #[.string g,Q,W,O] 45);have how:ag _ a v LK:=aH V (.cells #[.string g,Q,W,O] 45);have hxw:=M.trans (bC.of ((aa wr wr).alloc aR (.cells #[.string g,Q,W,O] 45)) N);have G:a<=(wr.alloc (.cells #[.string g,Q,W,O] 45)).heap.size:=by rw[bX];omega
    have hyw:=ai.new wr 45 [.string g,Q,W,O];go_wp2_with fail
    try rw[<-Jn]
    refine(set_any g.size gc a vB _ _ v LK ⟨g,Q,W,O⟩ (wr.alloc (.cells #[.string g,Q,W,O] 45)) hcw how hgb G j.out.FI j.out.ne j.out.sm HE.out.1 (uE (af g)) (by show g.size<4294967281;have h8:g.size<=80:=HE.out.2.1;omega) HE.out.2.2 (by have h8:g.size<=80:=HE.out.2.1;omega)).mono ?_
    rintro e Rh ⟨rfl,v20,XH,Es,XI⟩;have XJ:=hxw.trans (XI.sJ G (nK how));go_wp2;go_roundw
    case rel=>exact⟨k+1,v20,H,by go_num,XH,by rw[HN.out,Tr.mZ,<-Qg.out];exact Es,XJ⟩
    case measure=>simp[intOf];omega
   have HN:=aL (qi.out (show¬(F.data.toList=s.data.toList\/Pt.under F s.data.toList=true)from λh=>h.elim hq (λh=>by rw[tu]at h;cases h)))
   clear HY qi OT hq;go_wp2;go_roundw
   case rel=>exact⟨k+1,v,H,by go_num,hcr.alloc _,by rw[HN.out,<-Qg.out];exact aH V _,M.trans (bC.of ((aa wr wr).alloc aR _) N)⟩
   case measure=>simp[intOf];omega
  obtain rfl:k=S.length:=by omega
  rw[gN]at V;have HF:=Qe;have HLEN:Hid ((Tr.fQ U2 (Tr.au S s d)).length<=2000000):=aL (by have:=(Rn.out S.length aR).len;rw[gN]at this;omega)
  have Zn:=hq8.rQ M (by omega) (by omega)
  have pg:=uy.rQ M (by omega) (by omega)
  have jv:=sK.trans (M.below (by omega) (by omega))
  have Wp:=hcr;have oh:=V;have abW:=N;clear hcr V N hq8 uy sK;generalize wr=w9 at*;go_wp2_with fail;have hl9:jc w9 w9 A' u.L:=((HU.out.below jv).more jv.size).low;refine(xP gc w a vB _ _ v _ A A' c c' u w9 Wp oh abW Zn hl9 (by have:=m.out.ll;omega) (λl hl=>by have:=m.out.lls l hl;omega) HLEN.out).mono ?_
  rintro e Rh ⟨A7,XA,c7,XB,rfl,lh,hb7⟩;have fM:=pg.below hb7 pg.lt;have jV:=jv.trans (hb7.mono jv.size);rw[<-HF.out]at lh;rw[<-HF.out];have q:=fM.two;go_wp2_with fail;refine aD (v:= .tuple #[.agg #[.slice A7 R.1.U.length c7,.slice XA R.1.L.length XB],R.2]) ?_ rfl ?_
  ·simp[results,results25,go_sem,q]
  exact⟨_,_,_,_,rfl,((lh.set (p:=(w.heap.size+1:Nat)) (by show w.heap.size+1<a;omega) _).set (p:=⟨w.heap.size+1,1,none⟩) (by show w.heap.size+1<a;omega) _).less (by omega),(jV.setCell (p:=(w.heap.size+1:Nat)) (by show w.heap.size<=w.heap.size+1;omega) _).setCell (p:=⟨w.heap.size+1,1,none⟩) (by show w.heap.size<=w.heap.size+1;omega) _⟩
theorem dU{u:Un}(h:Tr.Fine u):iR u:=by
 have b:=Tr.kH h.2;refine⟨λl a=>⟨Tr.bn (b l a).2,by have:=(b l a).1;omega⟩,by have:=h.1;omega,λl a=>by have:=(b l a).1;omega⟩
theorem Bf(A A' B B':Option Addr)(c c' d d':Nat)(u:Un)(w:World)(hu:bT w w A A' c c' u)(hv:bT w w B B' d d' u)(h1:u.U.length<=2000000)(h2:u.L.length<=2000000)(h3:∀l∈u.L,l.length<=2000000):Calls prog 22 #[.agg #[.slice A u.U.length c,.slice A' u.L.length c'],.agg #[.slice B u.U.length d,.slice B' u.L.length d']] w λe w'=>e= .returned (.bool true)/\Below w w w':=by
 have HU:=aL hu;have HV:=aL hv;have H3:=aL h3;clear hu hv h3;have q:=((aa w w).alloc aR (.cells #[.slice A u.U.length c,.slice A' u.L.length c'] 33));have F:=ai.new w 33 [.slice A u.U.length c,.slice A' u.L.length c'];have b:=q.alloc q.size (.cells #[.slice B u.U.length d,.slice B' u.L.length d'] 33);have o:=F.alloc (.cells #[.slice B u.U.length d,.slice B' u.L.length d'] 33);have h:=ai.new (w.alloc (.cells #[.slice A u.U.length c,.slice A' u.L.length c'] 33)) 33 [.slice B u.U.length d,.slice B' u.L.length d'];simp only[bX]at h;clear q F;obtain⟨l,a⟩:=u;dsimp only at*;obtain⟨H,t,V,qz⟩:=o.two;obtain⟨Z,x,N,Y⟩:=h.two;go_enter func22,ntmps22;go_upto_region 1 with fail
 generalize (w.alloc (.cells #[.slice A l.length c,.slice A' a.length c'] 33)).alloc (.cells #[.slice B l.length d,.slice B' a.length d'] 33)=w2 at*;go_wp2_with fail;clear H t V qz Z x N Y;refine(yQ A B c d l l w2 ((HU.out.below b).more b.size).up ((HV.out.below b).more b.size).up (by omega) rfl).mono ?_
 rintro e w3 ⟨rfl,hb⟩;have hB3:=b.trans (hb.mono b.size);have D:=o.below hb o.lt;have v:=h.below hb h.lt;clear hb b o h;obtain⟨H,t,V,qz⟩:=D.two;obtain⟨Z,x,N,Y⟩:=v.two;go_wp2_with fail;clear H t V qz Z x N Y
 go_loopw [24] (λi wr=>∃k:Nat,k<=a.length/\i= .int .i64 k/\ai wr w 33 [.slice A l.length c,.slice A' a.length c']/\ai wr (w.heap.size+1) 33 [.slice B l.length d,.slice B' a.length d']/\Below w w wr) (λi _=>a.length- (intOf i).toNat)
 case atStart=>exact⟨0,bL _,rfl,D,v,hB3⟩
 case round=>
  clear D v hB3;obtain⟨k,hk,rfl,hq,hp,n⟩:=hrel;obtain⟨H,t,V,qz⟩:=hq.two;obtain⟨Z,x,N,Y⟩:=hp.two
  by_cases j:k<a.length
  ·obtain⟨ws,G,S⟩:=(HU.out.below n).low
   obtain⟨Ak,ck,f1,f2,f3⟩:=S k j;obtain⟨O,E,eA,hbA,K⟩:=G.2 (by show 0<a.length;omega)
   have r:=K k _ f1;obtain⟨vs,I,Q⟩:=(HV.out.below n).low;obtain⟨Bk,dk,g1,g2,g3⟩:=Q k j;obtain⟨bB,oB,eB,hbB,hcB⟩:=I.2 (by show 0<a.length;omega)
   have y:=hcB k _ g1;dsimp only at f3 g3;have f3:=f3.more n.size;have g3:=g3.more n.size;have hkl:=H3.out a[k] (cz j);subst eA eB;clear G S I Q K hcB f1 g1;generalize a[k]=m at f2 f3 g2 g3 r y hkl;go_wp2_with fail
   go_region_held3 (λW=>W.cell? ⟨w.heap.size,1,none⟩=some (.slice (some ⟨O,E,none⟩) a.length c')/\W.cell? ⟨w.heap.size+1,1,none⟩=some (.slice (some ⟨bB,oB,none⟩) a.length d')/\W.cell? ⟨O,E+k,none⟩=some (.slice Ak m.length ck)/\W.cell? ⟨bB,oB+k,none⟩=some (.slice Bk m.length dk))
    (first|exact⟨t,x,r,y⟩|exact hS6|go_keep)
    (first|(go_at_call 17;refine(yQ Ak Bk ck dk m m _ (by exact f3) (by exact g3) (by omega) rfl).mono ?_;rintro e M ⟨rfl,g⟩;have hS6:M.cell? ⟨w.heap.size,1,none⟩=some (.slice (some ⟨O,E,none⟩) a.length c')/\M.cell? ⟨w.heap.size+1,1,none⟩=some (.slice (some ⟨bB,oB,none⟩) a.length d')/\M.cell? ⟨O,E+k,none⟩=some (.slice Ak m.length ck)/\M.cell? ⟨bB,oB+k,none⟩=some (.slice Bk m.length dk):=⟨(g.cell (p:=⟨w.heap.size,1,none⟩) hq.lt).trans t,(g.cell (p:=⟨w.heap.size+1,1,none⟩) hp.lt).trans x,(g.cell (p:=⟨O,E+k,none⟩) (bE hbA n.size)).trans r,(g.cell (p:=⟨bB,oB+k,none⟩) (bE hbB n.size)).trans y⟩))
   all_goals
    have z:Below wr wr M:=((aa _ wr).drew).trans g;clear H t V qz Z x N Y;go_wp2;go_roundw
    case rel=>exact⟨k+1,j,by go_num,hq.below z hq.lt,hp.below z hp.lt,n.trans (z.mono n.size)⟩
    case measure=>simp[intOf];omega
  obtain rfl:k=a.length:=by omega
  go_wp2;go_ret;exact⟨rfl,n⟩
theorem Tc{U:List En}{d:Pt.Bs}{r:Option En}(h:r=Tr.get U d):Tr.jA U d=(r.isSome&&(r.getD En.zero).k==2):=by
 unfold Tr.jA;rw[<-h];cases r<;>rfl
def nX(U':List En)(w:World)(r:Ending)(w':World):Prop:=∃v,r= .returned v/\ag w' w v U'/\Below w w w'
theorem mO:∀(n:Nat) (A:Option Addr) (c:Nat) (U:List En) (e:En) (w:World),aC w w A U->Tr.Ok U (900000-n)->n<=800000->e.P≠[]->e.P.length<=n->e.p.size<4294967281->e.t.size<4294967281->
  Calls prog 50 #[.slice A U.length c,e.agg] w (nX (Tr.dR U e) w):=by
 intro n
 induction n with
 |zero=>
  intro A c U e w _ _ _ Q I;exact absurd (List.length_eq_zero_iff.1 (Nat.le_zero.1 I)) Q
 |succ n ih=>
 intro A c U e w hr0 hok hn8 Z9 hen Z_ het;have H:=aL hok;have Q3:=aL Z9;have Xv:=aL hen;have hul:=hok.len;clear hok Z9 hen;unfold nX;have HX:=aL (Tr.Me U e);obtain⟨G,hres⟩:∃G,G=Tr.dR U e:=⟨_,rfl⟩;rw[<-hres]at HX;rw[<-hres];clear hres;obtain⟨X,hX⟩:∃X,X=if Pt.ah e.P≠[]/\Tr.jA U (Pt.ah e.P)=false then Tr.dR U (Tr.eP (Pt.ah e.P))else U:=⟨_,rfl⟩
 rw[<-hX]at HX;have HXO:Hid (Tr.Srt X/\Sm X/\X.length<=900000):=aL (by
  rw[hX]
  split
  ·rename_i hc
   have I:=Tr.aI Q3.out;have h3:=Xv.out;have a1:e.P.length=e.p.size:=af e.p;refine⟨(Tr.tY (e:=Tr.eP (Pt.ah e.P)) H.out.FI H.out.ne hc.1).1,Tr.xO _ (e:=Tr.eP (Pt.ah e.P)) H.out.FI H.out.ne hc.1 H.out.sm ?_ (by show(0:Nat)<4294967281;decide),?_⟩
   ·show(Pt.ah e.P).length<_
    omega
   have Q:=Tr.xM U (Tr.eP (Pt.ah e.P));rw[Tr.lD]at Q;omega
  exact⟨H.out.FI,H.out.sm,by omega⟩)
 have D:=aL hX;clear hX;obtain⟨i,E,N,eo⟩:=e;have hPe:(⟨i,E,N,eo⟩:En).P=i.data.toList:=rfl;rw[hPe]at D Q3 Xv;dsimp only at Z_ het;simp only[En.agg,En.cells];have hB1:=(aa w w).alloc aR (.cells #[i,E,N,eo] 45);have he1:=ai.new w 45 [i,E,N,eo];have hr1:=Rd.below hr0 hB1;clear hr0;go_enter func50,ntmps50;go_upto_region 1 with fail
 generalize w.alloc (.cells #[i,E,N,eo] 45)=w1 at*;obtain⟨e0,e1,e2,e3,ef,ez⟩:=he1.four;go_wp2_with fail;clear e0 e1 e2 e3 ef ez;refine(dw i _ (by omega)).mono ?_
 rintro e w2 ⟨rfl,hD⟩;have hB2:=hB1.trans (hD.below (B:=w.heap.size));have he2:=he1.below (hD.below (B:=w1.heap.size)) he1.lt;have hr2:=Rd.below hr1 (hD.below (B:=w.heap.size));clear hD hB1 he1 hr1;obtain⟨l,hsd⟩:∃l:ByteArray,l=⟨(Pt.ah i).toArray⟩:=⟨_,rfl⟩;have hsl:l.data.toList=Pt.ah i.data.toList:=by rw[hsd]
 have hst:Pt.str (Pt.ah i)= .string l:=by rw[hsd];rfl
 obtain⟨sn,hsn⟩:∃sn,Pt.str (Pt.nameOf i)= .string sn:=⟨_,rfl⟩;rw[hst,hsn];have hlt:l.size<i.size:=by have:=Tr.aI Q3.out;rw[<-hsl,af,af]at this;exact this
 have D:=aL D.out;rw[<-hsl]at D;have Xw:Tr.eP (Pt.ah i)=⟨l,2,⟨#[]⟩,false⟩:=by rw[hsd];rfl
 have hDL:(Pt.ah i).length<=n:=by have:=Tr.aI Q3.out;have:=Xv.out;omega
 rw[<-hsl]at Xw hDL;rw[Xw]at D;clear hsd hsl hst hsn Xw;go_wp2_with fail;refine(a_ A c U l w2 (Rd.more hr2 hB2.size) (by omega)).mono ?_
 rintro e w3 ⟨r,rfl,hr,L⟩;have hB3:=hB2.trans (L.mono hB2.size);have he3:=he2.below L he2.lt;have hr3:=Rd.below hr2 (L.mono hB2.size);have Z:=aL (Tc hr);clear hr L hB2 he2 hr2;have HX1:=aL (show l.data.toList=[]->X=U from λh=>D.out.trans (av λq=>q.1 h))
 have Qc:=aL (show l.data.toList≠[]->r.isSome=true->((r.getD En.zero).k !=2)=false->X=U from λ_ Q I=>D.out.trans (av λh=>by
  have h3:=h.2;rw[Z.out,Q,Bool.true_and]at h3;simp at I h3;exact h3 I))
 have HX3:=aL (show l.data.toList≠[]->r.isSome=false->X=Tr.dR U ⟨l,2,⟨#[]⟩,false⟩from λh0 Q=>D.out.trans (aM ⟨h0,by rw[Z.out,Q];rfl⟩))
 have HX4:=aL (show l.data.toList≠[]->((r.getD En.zero).k !=2)=true->X=Tr.dR U ⟨l,2,⟨#[]⟩,false⟩from λh0 Q=>D.out.trans (aM ⟨h0,by rw[Z.out];simp at Q ⊢;intro _;exact Q⟩))
 clear Z D;generalize r.getD En.zero=d at Qc HX4;generalize r.isSome=ok at Qc HX3;obtain⟨dp,dk,dt,f_⟩:=d;simp only[En.agg,En.cells];dsimp only at Qc HX4;have V:=hB3.alloc hB3.size (.cells #[dp,dk,dt,f_] 45);have he4:=he3.alloc (.cells #[dp,dk,dt,f_] 45);have hd4:=ai.new w3 45 [dp,dk,dt,f_];have hr4:aC (w3.alloc (.cells #[dp,dk,dt,f_] 45)) w A U:=Rd.alloc hr3 hB3.size _;clear hB3 he3 hr3;have cI:∀W,aC W W A U->l.data.toList≠[]->Calls prog 50 #[.slice A U.length c,.agg #[l,(2:Int),Qs.e,false]] W (nX (Tr.dR U ⟨l,2,⟨#[]⟩,false⟩) W):=λW Q I=>
  ih A c U ⟨l,2,⟨#[]⟩,false⟩ W Q (H.out.more (by omega)) (by omega) I hDL (by show l.size<_;omega) (by show(0:Nat)<4294967281;decide)
 go_upto_region 3 with fail
 generalize w3.alloc (.cells #[dp,dk,dt,f_] 45)=w4 at*;generalize w3.heap.size=gd at*;have z:=hd4.four;have hcn:∃S:Bool,S=(!l.toList.isEmpty&&(!ok||(dk !=2))):=⟨_,rfl⟩
 obtain⟨S,g⟩:=hcn;have HXF:Hid (S=false->X=U):=aL (λh=>by
  rw[g]at h
  rcases aG l with⟨hE,g1,Y⟩|⟨hE,g1,Y⟩
  ·exact HX1.out hE
  rw[Y]at h
  cases ok
  ·simp at h
  exact Qc.out hE rfl (by simpa using h))
 have HXT:Hid (S=true->l.data.toList≠[]/\X=Tr.dR U ⟨l,2,⟨#[]⟩,false⟩):=aL (λh=>by
  rw[g]at h
  rcases aG l with⟨hE,g1,Y⟩|⟨hE,g1,Y⟩
  ·rw[Y]at h;simp at h
  rw[Y]at h
  cases ok
  ·exact⟨hE,HX3.out hE rfl⟩
  exact⟨hE,HX4.out hE (by simpa using h)⟩)
 clear HX1 Qc HX3 HX4
 go_cut [33] (λbv wx=>bv= .bool S/\wx=w4)
 case first=>
  rcases aG l with⟨hE,g1,Y⟩|⟨hE,g1,Y⟩
  ·go_wp2
   go_meet
   case rel=>exact⟨by rw[g,Y];rfl,rfl⟩
  rcases tk:(dk !=2)with _|_<;>cases ok
  ·go_wp2
   go_meet
   case rel=>exact⟨by rw[g,Y];rfl,rfl⟩
  ·go_wp2
   go_meet
   case rel=>exact⟨by rw[g,Y,tk];rfl,rfl⟩
  ·go_wp2
   go_meet
   case rel=>exact⟨by rw[g,Y];rfl,rfl⟩
  go_wp2;go_meet
  case rel=>exact⟨by rw[g,Y,tk];rfl,rfl⟩
 case rest=>
 obtain⟨rfl,rfl⟩:=hcut;clear z g;go_upto_if 33 with fail
 go_cut [0] (λv wx=>∃A2 c2,v= .slice A2 X.length c2/\aC wx wx A2 X/\ai wx w 45 [i,E,N,eo]/\Below w w wx/\(0<X.length->∀b,A2=some b->b.block≠w.heap.size))
 case first=>
  cases S
  ·have O:=aL (HXF.out rfl)
   clear HXF HXT;go_wp2;go_meet
   case rel=>exact⟨A,c,by rw[O.out],by rw[O.out];exact Rd.more hr4 V.size,he4,V,λhn b L=>by
    rw[O.out]at hn;obtain⟨b2,o2,e2,hlt2,_⟩:=hr4.2 hn;rw[L]at e2;injection e2 with e2;subst e2
    show b2≠w.heap.size
    omega⟩
  have O:=aL (HXT.out rfl);clear HXF HXT;go_wp2_with fail;refine(cI _ (Rd.more hr4 V.size) O.out.1).mono ?_
  rintro e w5 ⟨v5,rfl,xg,L⟩;obtain⟨A5,c5,rfl,hc5,Td⟩:=ag.rd xg;go_wp2;go_meet
  case rel=>exact⟨A5,c5,by rw[O.out.2],by rw[O.out.2];exact Td,he4.below L he4.lt,V.trans (L.mono V.size),λ_ b hb2=>by
   subst hb2;have Q:=(gH xg b.block rfl).1;have I:=he4.lt
   omega⟩
 case rest=>
 clear hr4 he4 V cI HXF HXT;obtain⟨A2,c2,rfl,hrX,Jo,dh,hnb⟩:=hcut;generalize wc=w5 at*;obtain⟨hxs,hxm,hxl⟩:=HXO.out;have Ue:=aL hxs;have HXM:=aL hxm;clear hxs hxm HXO;obtain⟨e0,e1,e2,e3,ef,ez⟩:=Jo.four;go_wp2_with fail;clear e0 e1 e2 e3 ef ez;refine(a_ A2 c2 X i w5 hrX (by omega)).mono ?_
 rintro e w6 ⟨r2,rfl,hr,L⟩;have pI:=dh.trans (L.mono dh.size);have J4:=Jo.below L Jo.lt;have hr6:aC w6 w6 A2 X:=(Rd.below hrX L).more L.size;clear L dh Jo hrX;have HN:=aL (show r2.isSome=false->G=Tr.ins ⟨i,E,N,eo⟩ X from λh=>by
  rw[HX.out];refine Tr.GG (hr.symm.trans ?_)
  cases r2
  ·rfl
  cases h)
 have HO:=aL (show r2.isSome=true->E≠2->G=Tr.ins ⟨i,E,N,eo⟩ X from λh I=>by
  rw[HX.out]
  cases r2 with
  |none=>cases h
  |some y=>exact Tr.Dc hr.symm I)
 have Z:=aL (show r2.isSome=true->E=2->G=Tr.ins ⟨i,E,N,(r2.getD En.zero).o||(r2.getD En.zero).k==4⟩ X from λh I=>by
  rw[HX.out]
  cases r2 with
  |none=>cases h
  |some y=>exact Tr.MX hr.symm I)
 clear hr HX;generalize r2.getD En.zero=y at Z;generalize r2.isSome=ok2 at HN HO Z;obtain⟨yp,yk,yt,yo⟩:=y;simp only[En.agg,En.cells];dsimp only at Z;have jV:=pI.alloc pI.size (.cells #[yp,yk,yt,yo] 45);have OJ:=J4.alloc (.cells #[yp,yk,yt,yo] 45);have QJ:=ai.new w6 45 [yp,yk,yt,yo];have Uk:aC (w6.alloc (.cells #[yp,yk,yt,yo] 45)) (w6.alloc (.cells #[yp,yk,yt,yo] 45)).heap.size A2 X:=(Rd.alloc hr6 aR _).more (by simp)
 have hgy:w.heap.size<w6:=J4.lt;clear pI J4 hr6;go_upto_region 6 with fail
 generalize w6.alloc (.cells #[yp,yk,yt,yo] 45)=w7 at*;generalize w6.heap.size=gy at*;have fin:∀(q:Bool) (W:World),aC W W A2 X->Below w w W->Calls prog 87 #[.slice A2 X.length c2,.agg #[i,E,N,q]] W λe w'=>∃v,e= .returned v/\ag w' w v (Tr.ins ⟨i,E,N,q⟩ X)/\Below w w w':=λq W Q I=>
  (mM A2 c2 X ⟨i,E,N,q⟩ W Q HXM.out Ue.out Z_ (by omega)).mono λe w' ⟨v,k1,k2,k3⟩=>⟨v,k1,own_base k2 I.size,I.trans (k3.mono I.size)⟩
 obtain⟨e0,e1,e2,e3,ef,ez⟩:=OJ.four;have x:=QJ.four
 cases ok2
 ·have HF:=aL (HN.out rfl)
  clear HN HO Z;go_wp2_with fail;refine(fin eo w7 Uk jV).mono ?_
  rintro e w8 ⟨v8,rfl,K,M⟩;go_wp2;go_ret;exact⟨_,rfl,by rw[HF.out];exact K,M⟩
 rcases tk:(E==2)with _|_
 ·have HF:=aL (HO.out rfl (by simpa using tk))
  clear HN HO Z;go_wp2_with fail;refine(fin eo w7 Uk jV).mono ?_
  rintro e w8 ⟨v8,rfl,K,M⟩;go_wp2;go_ret;exact⟨_,rfl,by rw[HF.out];exact K,M⟩
 have Ku:=aL (Z.out rfl (by simpa using tk))
 clear HN HO Z;have Qk:∀q:Bool,aC (w7.setCell ⟨w.heap.size,3,none⟩ (.bool q)) (w7.setCell ⟨w.heap.size,3,none⟩ (.bool q)).heap.size A2 X:=λq=>⟨Uk.1,λhn=>by
  obtain⟨b,o,e,hlt,hc⟩:=Uk.2 hn;refine⟨b,o,e,by simpa using hlt,λj u hu=> ?_⟩
  have hne:b≠w.heap.size:=hnb hn _ e;exact(lc (a:=⟨b,o+j,none⟩) (mh w7 ⟨w.heap.size,3,none⟩ (.bool q) b hne)).trans (hc j u hu)⟩
 have sK:∀q:Bool,Below w w (w7.setCell ⟨w.heap.size,3,none⟩ (.bool q)):=λq=>jV.setCell (p:=⟨w.heap.size,3,none⟩) aR (.bool q)
 have Zp:∀q:Bool,ai (w7.setCell ⟨w.heap.size,3,none⟩ (.bool q)) w 45 [i,E,N,q]:=λq=>OJ.bY 3 (.bool q)
 have F:=λq=>fin q _ (Qk q) (sK q)
 clear fin Qk sK hnb;have HE8:=aL Zp;clear Zp
 cases yo
 ·rcases ty:(yk==4)with _|_
  focus
   have HF:Hid (G=Tr.ins ⟨i,E,N,false⟩ X):=aL (by rw[Ku.out,ty];rfl)
   have m:=(HE8.out false).four;have cF:=F false
  rotate_left
  focus
   have HF:Hid (G=Tr.ins ⟨i,E,N,true⟩ X):=aL (by rw[Ku.out,ty];rfl)
   have m:=(HE8.out true).four;have cF:=F true
  all_goals
   clear F Ku;go_wp2_with fail;refine cF.mono ?_
   rintro e w8 ⟨v8,rfl,K,M⟩;go_wp2;go_ret;exact⟨_,rfl,by rw[HF.out];exact K,M⟩
 have HF:Hid (G=Tr.ins ⟨i,E,N,true⟩ X):=aL (by rw[Ku.out];rfl)
 have m:=(HE8.out true).four;have cF:=F true;clear F Ku;go_wp2_with fail;refine cF.mono ?_
 rintro e w8 ⟨v8,rfl,K,M⟩;go_wp2;go_ret;exact⟨_,rfl,by rw[HF.out];exact K,M⟩
theorem nH(A AB:Option Addr)(c cB:Nat)(U B:List En)(s:ByteArray)(w:World)(hr:aC w w A U)(hB:aC w w AB B)(hok:Tr.Ok U 700000)(hlB:B.length<=1000000)(hs0:s.data.toList≠[])(hsz:s.size<=80):Calls prog 54 #[.slice A U.length c,.slice AB B.length cB,s] w (nX (Tr.dD B U s) w):=by
 have Z:=fF U s;have hul:=hok.len;have D:Hid (Tr.Ok (Tr.outside U s) 700000):=aL ⟨Tr.aY hok.FI _,λx hx=>hok.ne x (List.mem_filter.1 hx).1,λx hx=>hok.sm x (List.mem_filter.1 hx).1,by omega⟩
 have Xo:=aL hs0;clear hok hs0;unfold nX;obtain⟨u,a⟩:∃u,u=Tr.dD B U s.data.toList:=⟨_,rfl⟩;rw[<-a];unfold Tr.dD at a;rw[zq]at a;have cW:=λW h=>eY A c U s W h (by omega) (by omega)
 obtain⟨b,q⟩:∃b,b=Tr.outside U s.data.toList:=⟨_,rfl⟩;rw[<-q]at D a Z;simp only[<-q]at cW;clear q;have HR:=aL a;clear a;go_enter func54,ntmps54;go_wp2_with fail;refine(cW w hr).mono ?_
 rintro e w1 ⟨v1,rfl,t,k⟩;obtain⟨n,L,rfl,hc1,N⟩:=ag.rd t;have E:=Rd.below hB k;clear hr cW;go_wp2_with fail;refine(a_ AB cB B s w1 (Rd.more E k.size) (by omega)).mono ?_
 rintro e z ⟨r,rfl,M,j⟩;have i:=k.trans (j.mono k.size);have F:aC z z n b:=(Rd.below N j).more j.size;have Q:ag z w (.slice n b.length L) b:=own_below t j aR;have g:Hid (u=if r.isSome=true/\Tr.hides b s.data.toList=false then Tr.dR b ⟨s,4,⟨#[]⟩,false⟩else b):=aL (by rw[HR.out,M];rfl)
 clear HR M N t k j hB E;generalize r.getD En.zero=y;generalize r.isSome=ok at*;obtain⟨G,O,K,H⟩:=y;simp only[En.agg,En.cells];have m:=i.alloc i.size (.cells #[G,O,K,H] 45);have v:aC (z.alloc (.cells #[G,O,K,H] 45)) (z.alloc (.cells #[G,O,K,H] 45)).heap.size n b:=(Rd.alloc F aR _).more (by simp)
 have p:ag (z.alloc (.cells #[G,O,K,H] 45)) w (.slice n b.length L) b:=aH Q _;clear i F Q;go_upto_region 3 with fail
 generalize z.alloc (.cells #[G,O,K,H] 45)=w3 at*
 cases ok
 ·have I:=aL (g.out.trans (av λh=>by cases h.1))
  clear g;go_wp2;go_ret;exact⟨_,rfl,by rw[I.out];exact p,m⟩
 go_wp2_with fail;refine(uM n L b s w3 v (by omega) (by omega)).mono ?_
 rintro e S ⟨rfl,o⟩;have l:=m.trans (o.mono m.size);have Y:aC S S n b:=(Rd.below v o).more o.size;have dI:ag S w (.slice n b.length L) b:=own_below p o aR;clear o m v p
 rcases V:Tr.hides b s with _|_
 ·have I:=aL (g.out.trans (aM ⟨by first|rfl|trivial,V⟩))
  clear g V;go_wp2_with fail;refine(mO s.size n L b ⟨s,4,⟨#[]⟩,false⟩ S Y (D.out.more (by omega)) (by omega) Xo.out (uE (af s)) (by show s.size<_;omega) (by show(0:Nat)<4294967281;decide)).mono ?_
  rintro e w5 ⟨v5,rfl,xg,o⟩;go_wp2;go_ret;exact⟨_,rfl,by rw[I.out];exact own_base xg l.size,l.trans (o.mono l.size)⟩
 have I:=aL (g.out.trans (av λh=>by rw[V]at h;cases h.2))
 clear g V;go_wp2;go_ret;exact⟨_,rfl,by rw[I.out];exact dI,l⟩
theorem zW(A A' AV:Option Addr)(c c' cV:Nat)(u:Un)(V:List En)(w:World):Calls prog 49 #[.agg #[.slice A u.U.length c,.slice A' u.L.length c'],.slice AV V.length cV] w λe w'=>(if 80<V.length then e= .returned (.tuple #[.agg #[(),()],(5:Int)])else e= .returned (.tuple #[.agg #[.slice AV V.length cV,.slice A' u.L.length c'],(0:Int)]))/\Below w w w':=by
 obtain⟨U,L⟩:=u;dsimp only;have a:=((aa w w).alloc aR (.cells #[.slice A U.length c,.slice A' L.length c'] 33));have h:=a.alloc a.size (.cells #[(),()] 33);have g:=a.alloc a.size (.cells #[.slice AV V.length cV,.slice A' L.length c'] 33);clear a
 rcases i:decide ((80:Int)<(V.length:Int))with _|_
 ·have b:¬80<V.length:=by have:=j6 i;omega
  simp only[av b];clear b;go_enter func49,ntmps49;go_wp2_with fail;refine aD (v:= .tuple #[.agg #[.slice AV V.length cV,.slice A' L.length c'],(0:Int)]) ?_ rfl ⟨rfl,g⟩
  simp[results,results49,go_sem]
 have b:80<V.length:=by have:=iA i;omega
 simp only[aM b];clear b;go_enter func49,ntmps49;go_wp2_with fail;refine aD (v:= .tuple #[.agg #[(),()],(5:Int)]) ?_ rfl ⟨rfl,h⟩
 simp[results,results49,go_sem]
end Go.Proofs.YtjppfhgkanbemabGreatDoor
