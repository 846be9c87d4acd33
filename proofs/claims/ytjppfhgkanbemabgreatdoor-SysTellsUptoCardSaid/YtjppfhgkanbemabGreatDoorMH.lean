/- A part of the proof of SysTells: MH. -/
import Derived.Test.YtjppfhgkanbemabGreatDoorME
import Derived.BigQuiet
import Derived.Test.YtjppfhgkanbemabGreatDoorMC
import Derived.Test.YtjppfhgkanbemabGreatDoorMB
import Derived.Test.YtjppfhgkanbemabGreatDoorMI
set_option maxHeartbeats 8000000
set_option maxRecDepth 100000
set_option linter.all false
namespace Go.Proofs.YtjppfhgkanbemabGreatDoor
open Tryz
open Go.RowKit Go.Shelf Go.Sort
theorem vJ(l:List En)(k:Nat)(hk:k<l.length)(x:En):((((En.flat l).set (k*4) (.string x.p)).set (k*4+1) (.int .i64 x.k)).set (k*4+2) (.string x.t)).set (k*4+3) (.bool x.o)=En.flat (l.set k x):=by
 induction l generalizing k with
 |nil=>simp at hk
 |cons y r ih=>
  cases k with
  |zero=>rfl
  |succ k=>
   have h:=ih k (by simpa using hk)
   have e:(k+1)*4=k*4+4:=by omega
   rw[e]
   show _=y.cells++En.flat (r.set k x)
   rw[<-h]
   rfl
theorem MR{l:List En}{x:En}{k:Nat}(hk:k<l.length)(h1:∀t (h:t<l.length),t<k->Pt.cmp l[t].P x.P<0)(he:l[k].P=x.P):Tr.ins x l=l.set k x:=by
 induction l generalizing k with
 |nil=>simp at hk
 |cons y r ih=>
  cases k with
  |zero=>
   have a:y.P=x.P:=he;rw[Tr.ins,av (by rw[a,Pt.dB];omega),aM a];rfl
  |succ k=>
   have:=h1 0 (by simp) (by omega)
   rw[Tr.ins,aM (by simpa using this),ih (k:=k) (by simpa using hk) (λt h b=>h1 (t+1) (by simpa using h) (by omega)) (by simpa using he)]
   rfl
theorem ji{t:List En}{d:Pt.Bs}(h:(Tr.get t d).isSome=false):Tr.bg t d=6:=by
 unfold Tr.bg
 rcases g:Tr.get t d with _|x
 ·rfl
 rw[g]at h;cases h
theorem jk{t:List En}{d:Pt.Bs}{r:Option En}(hr:r=Tr.get t d)(h:r.isSome=true)(hk:((r.getD En.zero).k !=2)=true):Tr.bg t d=10:=by
 unfold Tr.bg;rw[<-hr]
 cases r with
 |none=>cases h
 |some x=>exact aM (by simpa using hk)
theorem lU{t:List En}{d:Pt.Bs}{r:Option En}(hr:r=Tr.get t d)(h:r.isSome=true)(hk:((r.getD En.zero).k !=2)=false):Tr.bg t d=0:=by
 unfold Tr.bg;rw[<-hr]
 cases r with
 |none=>cases h
 |some x=>exact av (by simpa using hk)
theorem dP{l m:List En}{x:En}{e:Int}{v:Value}(h:Tr.put l x=(m,e)):Ending.returned (.tuple #[v,e])= .returned (.tuple #[v,.int .i64 (Tr.put l x).2]):=by rw[h]
theorem iW{l:List En}{x:En}{e:Int}(h:Tr.putErr l x=e)(he:e≠0):Tr.put l x=([],e):=by unfold Tr.put;rw[h,aM he]
theorem jG{l m:List En}{x:En}(h:Tr.putErr l x=0)(hm:Tr.ins x l=m):Tr.put l x=(m,0):=by unfold Tr.put;rw[h,av (by simp),hm]
def Eh(l:List En)(x:En)(w:World)(e:Ending)(w':World):Prop:=
 ∃v,e= .returned (.tuple #[v,.int .i64 (Tr.put l x).2])/\ag w' w v (Tr.put l x).1/\Below w w w'
theorem put_any(A:Option Addr)(c:Nat)(l:List En)(xp:ByteArray)(xk:Int)(xt:ByteArray)(xo:Bool)(w:World)(hl:aC w w A l)(hc:l.length<=c)(hs:Sm l)(hxp:xp.size<4294967281)(hxt:xt.size<4294967281)(hn:l.length<=2305843009213693952):Calls prog 45 #[.slice A l.length c,.agg #[xp,xk,xt,xo]] w (Eh l ⟨xp,xk,xt,xo⟩ w):=by
 obtain⟨x,hx⟩:∃x:En,x=⟨xp,xk,xt,xo⟩:=⟨_,rfl⟩;have HX:=aL hx;rw[<-hx];have c1:=λW h=>oM A c l W h hc hs hn
 obtain⟨pt,hpt⟩:∃pr,pr=Tr.wrong l false:=⟨_,rfl⟩;rw[<-hpt]at c1;have HT:=aL hpt.symm;have HS:=aL hs;obtain⟨y,y'⟩:=pt;clear hpt hs hx;dsimp only at c1;have N:=(aa w w).alloc aR (.cells #[xp,xk,xt,xo] 45);have hx0:=ai.new w 45 [xp,xk,xt,xo];unfold Eh;go_enter func45,ntmps45;go_wp2_with fail;generalize w.alloc (.cells #[xp,xk,xt,xo] 45)=w0 at*;refine(c1 w0 ((hl.below N).more N.size)).mono ?_
 rintro e w1 ⟨rfl,j⟩;have hB1:=N.trans (j.mono N.size);have hx1:=hx0.below j hx0.lt;clear j N hx0 c1;have hB2:=hB1.alloc hB1.size (.cells #[y,y'] 51);have hq2:=ai.new w1 51 [y,y'];have Q:=hx1.alloc (.cells #[y,y'] 51);clear hB1 hx1
 rcases ty:(y !=0)with _|_
 rotate_left
 ·have a:Hid (Tr.put l x=([],y)):=aL (iW (by unfold Tr.putErr;rw[HT.out,aM (by simpa using ty)]) (by simpa using ty))
  go_wp2_with fail;generalize w1.alloc (.cells #[y,y'] 51)=w2 at*;generalize w1.heap.size=g1 at*;have v:=hq2.two
  go_quiet (fail)
  go_wp2;go_ret2;exact⟨_,dP a.out,by rw[a.out];exact ag.nil _ _,below_drewN hB2 _⟩
 have Z:Hid ((Tr.wrong l false).1=0):=aL (by rw[HT.out];simpa using ty)
 have xA:=((Tr.az l false).1 Z.out).1;have RT:=aL ((Tr.az l false).1 Z.out).2;go_wp2_with fail;generalize w1.alloc (.cells #[y,y'] 51)=w2 at*;clear hq2;obtain⟨x0,x1,x2,x3,I,xz⟩:=Q.four;have cE:=Ci w 0 ⟨xp,xk,xt,xo⟩ false w2 ⟨x0,x1,x2,x3⟩ xz hxp hxt;rw[<-HX.out]at cE;have Bd:=aL (show Tr.entry x false≠0->Tr.put l x=([],Tr.entry x false)from λh=>iW (by unfold Tr.putErr;rw[av (by simp[Z.out]),aM h]) h)
 have HE2:=aL (show Tr.entry x false=0->∀e,(if Tr.bg l (Pt.ah x.P)≠0 then Tr.bg l (Pt.ah x.P)else Tr.eF l x)=e->Tr.putErr l x=e from λh e he=>by unfold Tr.putErr;rw[av (by simp[Z.out]),av (by simp[h]),he])
 have QT:=aL (show Tr.entry x false=0->x.P≠[]from λh=>Tr.clean_ne (Tr.entry_clean h))
 generalize Tr.entry x false=z at cE Bd HE2 QT;refine cE.mono ?_
 rintro e w3 ⟨rfl,j⟩;have hB3:=hB2.trans (j.mono hB2.size);have V:=Q.below j Q.lt;clear j hB2 Q cE x0 x1 x2 x3 I xz;obtain⟨x0,x1,x2,x3,I,xz⟩:=V.four
 rcases tz:(z !=0)with _|_
 rotate_left
 ·have a:=aL (Bd.out (by simpa using tz))
  go_wp2;go_ret2;exact⟨_,dP a.out,by rw[a.out];exact ag.nil _ _,hB3⟩
 have hz0:z=0:=by simpa using tz
 have U:=aL (HE2.out hz0);have HP3:=aL (QT.out hz0);clear Bd HE2 QT hz0;go_wp2_with fail;refine(jC xp _ (by omega)).mono ?_
 rintro e w4 ⟨rfl,hD⟩;have L:=hB3.trans (hD.below (B:=w.heap.size));have hx4:=V.below (hD.below (B:=w3.heap.size)) V.lt;clear hD hB3 V x0 x1 x2 x3 I xz;obtain⟨sd,hsd⟩:∃sd:ByteArray,sd=⟨(Pt.ah xp).toArray⟩:=⟨_,rfl⟩;have hsl:sd.data.toList=Pt.ah xp.data.toList:=by rw[hsd]
 have hst:Pt.str (Pt.ah xp)= .string sd:=by rw[hsd];rfl
 obtain⟨sn,hsn⟩:∃sn,Pt.str (Pt.nameOf xp)= .string sn:=⟨_,rfl⟩;rw[hst,hsn];have Xk:x.P=xp.data.toList:=by rw[HX.out];rfl
 have hxk:x.k=xk:=by rw[HX.out]
 have Y:sd.size<xp.size:=by have:=Tr.aI HP3.out;rw[Xk,<-hsl,af,af]at this;exact this
 have HD:=aL (show Pt.ah x.P=sd.data.toList by rw[Xk,hsl])
 clear hsd hsl hst hsn;go_wp2_with fail;refine(get_any A c l sd w4 ((hl.below L).more L.size) HS.out (by omega) hn).mono ?_
 rintro e w5 ⟨r,rfl,hr,j⟩;have dh:=L.trans (j.mono L.size);have hx5:=hx4.below j hx4.lt;have HR:=aL (hr.2 (.inl RT.out.2.1));clear hr j L hx4;have HN:=aL (show r.isSome=false->Tr.put l x=([],6)from λh=>iW (U.out _ (by rw[HD.out,ji (by rw[<-HR.out];exact h)];rfl)) (by decide))
 have HK:=aL (show r.isSome=true->((r.getD En.zero).k !=2)=true->Tr.put l x=([],10)from λh h2=>iW (U.out _ (by rw[HD.out,jk HR.out h h2];rfl)) (by decide))
 have HG:=aL (show r.isSome=true->((r.getD En.zero).k !=2)=false->∀e,Tr.eF l x=e->Tr.putErr l x=e from λh h2 e he=>U.out _ (by rw[HD.out,lU HR.out h h2,he];rfl))
 clear HR U HD;generalize r.getD En.zero=d at HN HK HG;generalize r.isSome=ok at HN HK HG;obtain⟨dp,dk,dt,f_⟩:=d;simp only[En.agg,En.cells];dsimp only at HN HK HG;have t:=dh.alloc dh.size (.cells #[dp,dk,dt,f_] 45);have hx6:=hx5.alloc (.cells #[dp,dk,dt,f_] 45);clear dh
 cases ok
 ·have a:=aL (HN.out rfl)
  go_wp2;go_ret2;exact⟨_,dP a.out,by rw[a.out];exact ag.nil _ _,t⟩
 rcases tk:(dk !=2)with _|_
 rotate_left
 ·have a:=aL (HK.out rfl tk)
  go_wp2;go_ret2;exact⟨_,dP a.out,by rw[a.out];exact ag.nil _ _,t⟩
 have G:=aL (HG.out rfl tk);clear HN HK HG;obtain⟨x0,x1,x2,x3,I,xz⟩:=hx6.four;go_wp2_with fail;generalize w5.alloc (.cells #[dp,dk,dt,f_] 45)=w6 at*;clear hx5 x0 x1 x2 x3 I xz;refine(l_ A c l xp w6 ((hl.below t).more t.size) HS.out hxp hn).mono ?_
 rintro e w7 ⟨k,b,rfl,O,j⟩;rw[<-Xk]at O;have H:=t.trans (j.mono t.size);have hx7:=hx6.below j hx6.lt;clear j t hx6;go_wp2_with fail;refine(gX A c l w7 ((hl.below H).more H.size) (by omega)).mono ?_
 rintro e w8 ⟨v8,rfl,i,j⟩;have p:=H.trans (j.mono H.size);have Xl:=hx7.below j hx7.lt;have i:ag w8 w v8 l:=own_base i H.size;clear j H hx7;obtain⟨x0,x1,x2,x3,I,xz⟩:=Xl.four;have hkl:=O.1;have S:=l7 O RT.out.2.1 HP3.out
 cases b
 ·have hgn:=S.2 rfl
  have n:Tr.ins x l=dE l k x:=QK hkl (O.2.2 RT.out.2.1).1 (O.2.2 RT.out.2.1).2.1 ((O.2.2 RT.out.2.1).2.2 rfl);have HK5:=aL (show l.length=80->Tr.put l x=([],5)from λh=>iW (G.out 5 (by unfold Tr.eF;rw[hgn];exact aM h)) (by decide))
  have m:=aL (show l.length≠80->Tr.put l x=(dE l k x,0)from λh=>jG (G.out 0 (by unfold Tr.eF;rw[hgn];exact av h)) n)
  clear hgn n O S G
  by_cases h80:l.length=80
  ·have a:=aL (HK5.out h80)
   have Xm:(l.length:Int)=80:=by omega
   clear h80;go_wp2;go_ret2;exact⟨_,dP a.out,by rw[a.out];exact ag.nil _ _,p⟩
  have a:=aL (m.out h80);have Xm:¬(l.length:Int)=80:=by omega
  clear h80;go_wp2_with fail;have Jm:=ai.new w8 45 [xp,xk,xt,xo];have E:=p.alloc p.size (.cells #[xp,xk,xt,xo] 45);have oh:ag _ w v8 l:=aH i (.cells #[xp,xk,xt,xo] 45);have Wl:Hid (x.cells=[.string xp,.int .i64 xk,.string xt,.bool xo]):=aL (by rw[HX.out];rfl)
  rcases aB i with⟨M,hv0⟩|⟨g,cap,M,hbg,hgz,hcap⟩
  focus
   subst M;have e0:l=[]:=List.length_eq_zero_iff.1 hv0;subst e0;have ek:k=0:=by simpa using hkl
   subst ek;refine(wZ w8 x _ (by rw[Wl.out];exact Jm)).mono ?_
   rintro e w9 ⟨v9,rfl,F,sZ⟩;have HF:=aL (And.intro (show ag w9 w v9 (dE [] 0 x)from own_base F E.size) (below_grown E sZ E.size (λq e=>by cases e)))
  rotate_left
  focus
   subst M;refine(wY w g cap w8 k l x _ oh (by rw[Wl.out];exact Jm) (by omega) hkl (by omega) E.size).mono ?_
   rintro e w9 ⟨v9,rfl,F,sZ,_⟩;have HF:=aL (And.intro F (below_grown E sZ E.size (λq e=>by injection e with e;subst e;exact hbg)))
  all_goals
   clear F sZ oh E Jm;go_wp2;go_ret2;exact⟨_,dP a.out,by rw[a.out];exact HF.out.1,HF.out.2⟩
 obtain⟨Y,hke⟩:=O.2.1 rfl;have K:=S.1 rfl;have n:Tr.ins x l=l.set k x:=MR Y (O.2.2 RT.out.2.1).1 hke;have D:=aL (show((l[k].k==2) !=(xk==2))=true->Tr.put l x=([],7)from λh=>iW (G.out 7 (by
  unfold Tr.eF;rw[K];refine aM ?_;rw[hxk];simpa using h)) (by decide))
 have m:=aL (show((l[k].k==2) !=(xk==2))=false->Tr.put l x=(l.set k x,0)from λh=>jG (G.out 0 (by
  unfold Tr.eF;rw[K];refine av ?_;rw[hxk];simpa using h)) n)
 clear K n S hke O G;obtain⟨bb,o,rfl,hbb,h0,h1,h2,h3⟩:=aC.at_ (hl.below p) Y
 generalize l[k]=zz at h0 h1 h2 h3 D m;obtain⟨zp,zk,zt,zo⟩:=zz;dsimp only at h0 h1 h2 h3 D m
 rcases aB i with⟨_,hv0⟩|⟨g,cap,M,hbg,hgz,hcap⟩
 ·omega
 subst M;have hfl:(En.flat l).length=l.length*4:=eU l;have c0:∃u,w8.cell? ⟨g,k*4,none⟩=some u:=⟨_,(i.cellAt _ (by omega)).trans (bA (by omega))⟩
 have c1:∃u,w8.cell? ⟨g,k*4+1,none⟩=some u:=⟨_,(i.cellAt _ (by omega)).trans (bA (by omega))⟩
 have c2:∃u,w8.cell? ⟨g,k*4+2,none⟩=some u:=⟨_,(i.cellAt _ (by omega)).trans (bA (by omega))⟩
 have c3:∃u,w8.cell? ⟨g,k*4+3,none⟩=some u:=⟨_,(i.cellAt _ (by omega)).trans (bA (by omega))⟩
 obtain⟨u0,c0⟩:=c0;obtain⟨u1,c1⟩:=c1;obtain⟨u2,c2⟩:=c2;obtain⟨u3,c3⟩:=c3;have fz:∀q,w8.frozen? ⟨g,q,none⟩=false:=λq=>i.frozenAt q
 obtain⟨o4,g4⟩:=t_ i (k*4) (.string xp) (.int .i64 xk) (.string xt) (.bool xo);have ef:=vJ l k Y ⟨xp,xk,xt,xo⟩;dsimp only at ef;rw[ef,<-HX.out]at o4;have UC:=aL (And.intro (show ag _ w (.slice g l.length cap) (l.set k x)by unfold ag;rw[zm];exact o4) (below_grown p g4 p.size (λq e=>by injection e with e;subst e;exact hbg)))
 clear hfl o4 g4 ef
 rcases ta:(zk==2)with _|_<;>rcases tb:(xk==2)with _|_
 focus
  have a:=aL (m.out (by rw[ta,tb];rfl))
 rotate_left
 focus
  have a:=aL (D.out (by rw[ta,tb];rfl))
  clear D m;go_wp2_with fail
  go_quiet (fail)
  go_wp2;go_ret2;exact⟨_,dP a.out,by rw[a.out];exact ag.nil _ _,below_drewN p _⟩
 focus
  have a:=aL (D.out (by rw[ta,tb];rfl))
  clear D m;go_wp2_with fail
  go_quiet (fail)
  go_wp2;go_ret2;exact⟨_,dP a.out,by rw[a.out];exact ag.nil _ _,below_drewN p _⟩
 focus
  have a:=aL (m.out (by rw[ta,tb];rfl))
 all_goals
  clear D m;go_wp2_with fail
  go_quiet (fail)
  go_wp2;go_ret2;exact⟨_,dP a.out,by rw[a.out];exact UC.out.1,below_drewN UC.out.2 nq⟩
theorem kL{l m:List En}{p:Pt.Bs}{e:Int}{v:Value}(h:Tr.remove l p=(m,e)):Ending.returned (.tuple #[v,e])= .returned (.tuple #[v,.int .i64 (Tr.remove l p).2]):=by rw[h]
theorem oN{l:List En}{p:Pt.Bs}{e:Int}(h:Tr.removeErr l p=e)(he:e≠0):Tr.remove l p=([],e):=by unfold Tr.remove;rw[h,aM he]
theorem Gu{l m:List En}{p:Pt.Bs}(h:Tr.removeErr l p=0)(hm:Tr.without l p=m):Tr.remove l p=(m,0):=by unfold Tr.remove;rw[h,av (by simp),hm]
def Ei(l:List En)(p:Pt.Bs)(w:World)(e:Ending)(w':World):Prop:=
 ∃v,e= .returned (.tuple #[v,.int .i64 (Tr.remove l p).2])/\ag w' w v (Tr.remove l p).1/\Below w w w'
theorem J3(A:Option Addr)(c:Nat)(l:List En)(p:ByteArray)(w:World)(hl:aC w w A l)(hc:l.length<=c)(hs:Sm l)(hp:p.size<4294967281)(hn:l.length<=2305843009213693952):Calls prog 51 #[.slice A l.length c,p] w (Ei l p w):=by
 have c1:=λW h=>oM A c l W h hc hs hn
 obtain⟨pt,S⟩:∃pr,pr=Tr.wrong l false:=⟨_,rfl⟩;rw[<-S]at c1;have HT:=aL S.symm;have HS:=aL hs;obtain⟨y,y'⟩:=pt;clear S hs;dsimp only at c1;have Q:=aa w w;unfold Ei;go_enter func51,ntmps51;go_wp2_with fail;refine(c1 w hl).mono ?_
 rintro e w1 ⟨rfl,v⟩;have H:=Q.trans (v.mono Q.size);clear v Q c1;have r:=H.alloc H.size (.cells #[y,y'] 51);have hq2:=ai.new w1 51 [y,y'];clear H
 rcases ty:(y !=0)with _|_
 rotate_left
 ·have m:Hid (Tr.remove l p.data.toList=([],y)):=aL (oN (by unfold Tr.removeErr;rw[HT.out,aM (by simpa using ty)]) (by simpa using ty))
  go_wp2_with fail;generalize w1.alloc (.cells #[y,y'] 51)=w2 at*;generalize w1.heap.size=g1 at*;have z:=hq2.two
  go_quiet (fail)
  go_wp2;go_ret2;exact⟨_,kL m.out,by rw[m.out];exact ag.nil _ _,below_drewN r _⟩
 have L:Hid ((Tr.wrong l false).1=0):=aL (by rw[HT.out];simpa using ty)
 have xA:=((Tr.az l false).1 L.out).1;have RT:=aL ((Tr.az l false).1 L.out).2;have D:=aL (show∀e,(if p.data.toList=[]\/Tr.get l p.data.toList=none then 6 else if Tr.full l p.data.toList=true then 11 else 0)=e->Tr.removeErr l p.data.toList=e from λe he=>by unfold Tr.removeErr;rw[av (by simp[L.out]),he])
 go_wp2_with fail;generalize w1.alloc (.cells #[y,y'] 51)=w2 at*;clear hq2;refine(l_ A c l p w2 ((hl.below r).more r.size) HS.out hp hn).mono ?_
 rintro e V ⟨k,b,rfl,hf,v⟩;have i:=r.trans (v.mono r.size);clear v r
 cases b
 ·have m:Hid (Tr.remove l p.data.toList=([],6)):=aL (oN (D.out 6 (by
   by_cases Z:p.data.toList=[]
   ·exact aM (.inl Z)
   exact aM (.inr ((l7 hf RT.out.2.1 Z).2 rfl)))) (by decide))
  clear hf D;go_wp2;go_ret2;exact⟨_,kL m.out,by rw[m.out];exact ag.nil _ _,i⟩
 obtain⟨u,B⟩:=hf.2.1 rfl;have E:p.data.toList≠[]:=λh=>Tr.bu RT.out (cz u) (B.trans h)
 have G:=(l7 hf RT.out.2.1 E).1 rfl;have a:=Tr.NY RT.out.2.1 u (by rw[B];exact E)
 rw[B]at a;have F:=aL (show Tr.full l p.data.toList=true->Tr.remove l p.data.toList=([],11)from λh=>oN (D.out 11 (by rw[av (by rw[G];simp[E]),aM h])) (by decide))
 have n:=aL (show Tr.full l p.data.toList=false->Tr.remove l p.data.toList=(um l k,0)from λh=>Gu (D.out 0 (by rw[av (by rw[G];simp[E]),av (by rw[h];decide)])) (JU RT.out.2.1 u B))
 clear G E B hf D;have hw1:IntKind.i64.wrap ((k:Int)+1)=(k:Int)+1:=lm _ (by omega)
 by_cases h1:k+1<l.length
 ·rw[dif_pos h1]at a
  have h1':(k:Int)+1<(l.length:Int):=by omega
  obtain⟨bb,o,rfl,hbb,Z,h2,h3,h4⟩:=aC.at_ (hl.below i) h1
  have t:=λW=>lQ l[k+1].p p W (by omega)
  unfold En.P at a;rw[<-a]at t;generalize l[k+1]=zz at Z h2 h3 h4 a t;clear a;obtain⟨zp,zk,zt,zo⟩:=zz;dsimp only at Z h2 h3 h4 t;generalize Tr.full l p.data.toList=fu at t F n
  cases fu
  ·have m:=aL (n.out rfl)
   clear F n;go_wp2_with fail;refine(t V).mono ?_
   rintro e V ⟨rfl,rfl⟩;go_wp2_with fail;refine(gX _ c l V ((hl.below i).more i.size) (by omega)).mono ?_
   rintro e Y ⟨v4,rfl,j,v⟩;have x:=i.trans (v.mono i.size);have j:ag Y w v4 l:=own_base j i.size;clear v;go_wp2_with fail
   rcases aB j with⟨_,hv0⟩|⟨g,M,I,O,hgz,hcap⟩
   ·omega
   subst I;refine(w_ w g M k l Y j u (by omega)).mono ?_
   rintro e w5 ⟨v5,rfl,K,U⟩;have N:=below_grown x U x.size (λq e=>by injection e with e;subst e;exact O)
   go_wp2;go_ret2;exact⟨_,kL m.out,by rw[m.out];exact K,N⟩
  have m:=aL (F.out rfl);clear F n;go_wp2_with fail;refine(t V).mono ?_
  rintro e V ⟨rfl,rfl⟩;go_wp2;go_ret2;exact⟨_,kL m.out,by rw[m.out];exact ag.nil _ _,i⟩
 rw[dif_neg h1]at a;have h1':¬((k:Int)+1<(l.length:Int)):=by omega
 have m:=aL (n.out a);clear F n a;go_wp2_with fail;refine(gX _ c l V ((hl.below i).more i.size) (by omega)).mono ?_
 rintro e Y ⟨v4,rfl,j,v⟩;have x:=i.trans (v.mono i.size);have j:ag Y w v4 l:=own_base j i.size;clear v;go_wp2_with fail
 rcases aB j with⟨_,hv0⟩|⟨g,M,I,O,hgz,hcap⟩
 ·omega
 subst I;refine(w_ w g M k l Y j u (by omega)).mono ?_
 rintro e w5 ⟨v5,rfl,K,U⟩;have N:=below_grown x U x.size (λq e=>by injection e with e;subst e;exact O)
 go_wp2;go_ret2;exact⟨_,kL m.out,by rw[m.out];exact K,N⟩
theorem CZ{l:List En}{p:Pt.Bs}{k:Nat}(hk:k<l.length)(h:Pt.ah l[k].P=p):Tr.names (l.take (k+1)) p=Tr.names (l.take k) p++[Pt.nameOf l[k].P]:=by
 unfold Tr.names;rw[aF hk];rw[j3,vQ,List.filter_cons_of_pos (by simpa using h)];rfl
theorem Gv{l:List En}{p:Pt.Bs}{k:Nat}(hk:k<l.length)(h:Pt.ah l[k].P≠p):Tr.names (l.take (k+1)) p=Tr.names (l.take k) p:=by
 unfold Tr.names;rw[aF hk];rw[j3,vQ,List.filter_cons_of_neg (by simpa using h)];simp
theorem Gw(l:List En)(p:Pt.Bs):(Tr.names l p).length<=l.length:=by
 unfold Tr.names;rw[ib];exact ko _ _
theorem uq{l:List En}{p:Pt.Bs}{e:Int}(h:Tr.bg l p=e)(he:e≠0):Tr.list l p=([],e):=by unfold Tr.list;rw[h,aM he]
theorem list_good{l:List En}{p:Pt.Bs}(h:Tr.bg l p=0):Tr.list l p=(Tr.names l p,0):=by unfold Tr.list;rw[h,av (by simp)]
theorem nV{l:List En}{m:List Pt.Bs}{p:Pt.Bs}{e:Int}{v:Value}(h:Tr.list l p=(m,e)):Ending.returned (.tuple #[v,e])= .returned (.tuple #[v,.int .i64 (Tr.list l p).2]):=by rw[h]
theorem aT.nil(w:World)(base:Nat):aT w base (.slice none 0 0) []:=jN _ _ _ _
def oO(l:List En)(p:Pt.Bs)(w:World)(e:Ending)(w':World):Prop:=
 ∃v,e= .returned (.tuple #[v,.int .i64 (Tr.list l p).2])/\aT w' w v (Tr.list l p).1/\Below w w w'
theorem Gx(A:Option Addr)(c:Nat)(l:List En)(p:ByteArray)(w:World)(hl:aC w w A l)(hs:Sm l)(hsrt:Tr.Srt l)(hp:p.size<4294967281)(hn:l.length<=4000000):Calls prog 108 #[.slice A l.length c,p] w (oO l p w):=by
 obtain⟨i0,hi,hz0,hz1,hz2⟩:=lw jB;have HS:=aL hs;clear hs;have I:=aa w w;unfold oO;go_enter func108,ntmps108;go_wp2_with fail;refine(get_any A c l p w hl HS.out hp (by omega)).mono ?_
 rintro e w5 ⟨r,rfl,hr,Y⟩;have G:=I.trans (Y.mono I.size);have Z:=aL (hr.2 (.inl hsrt));clear hr Y I;have t:=aL (show r.isSome=false->Tr.list l p.data.toList=([],6)from λh=>uq (ji (by rw[<-Z.out];exact h)) (by decide))
 have S:=aL (show r.isSome=true->((r.getD En.zero).k !=2)=true->Tr.list l p.data.toList=([],10)from λh D=>uq (jk Z.out h D) (by decide))
 have N:=aL (show r.isSome=true->((r.getD En.zero).k !=2)=false->Tr.list l p.data.toList=(Tr.names l p,0)from λh D=>list_good (lU Z.out h D))
 clear Z;generalize r.getD En.zero=d at t S N;generalize r.isSome=ok at t S N;obtain⟨dp,dk,dt,V⟩:=d;simp only[En.agg,En.cells];dsimp only at t S N;have u:=G.alloc G.size (.cells #[dp,dk,dt,V] 45);clear G
 cases ok
 ·have x:=aL (t.out rfl)
  go_wp2;go_ret2;exact⟨_,nV x.out,by rw[x.out];exact aT.nil _ _,u⟩
 rcases tk:(dk !=2)with _|_
 rotate_left
 ·have x:=aL (S.out rfl tk)
  go_wp2;go_ret2;exact⟨_,nV x.out,by rw[x.out];exact aT.nil _ _,u⟩
 have x:=aL (N.out rfl tk);clear t S N;go_wp2_with fail;generalize w5.alloc (.cells #[dp,dk,dt,V] 45)=w6 at*
 go_loopw [8,28] (λv i wr=>∃k:Nat,k<=l.length/\i= .int .i64 k/\aT wr w v (Tr.names (l.take k) p)/\Below w w wr) (λ_ i _=>l.length- (intOf i).toNat)
 case atStart=>exact⟨0,bL _,rfl,aT.nil _ _,u⟩
 case round=>
  obtain⟨k,hk,rfl,a,W⟩:=hrel;clear u
  by_cases j:k<l.length
  ·obtain⟨b,o,rfl,Y,h0,h1,D,h3⟩:=(aC.at_ (hl.below W) j)
   have F:=aL (CZ (p:=p.data.toList) j);have y:=aL (Gv (p:=p.data.toList) j);have hle:(Tr.names (l.take k) p).length<=k:=eT (Gw _ _) (by rw[bR];omega)
   have Q:=(HS.out.at_ j).1
   unfold En.P at F y;generalize l[k]=z at h0 h1 D h3 F y Q;obtain⟨n,yk,yt,yo⟩:=z;dsimp only at h0 h1 D h3 F y Q;go_wp2_with fail;refine(jC n _ (by omega)).mono ?_
   rintro e w8 ⟨rfl,hD⟩;have m:=(W.alloc W.size (.cells #[n,yk,yt,yo] 45)).trans (hD.below (B:=w.heap.size));have E:aT w8 w u8 _:=own_below (aH a (.cells #[n,yk,yt,yo] 45)) (hD.below (B:=(wr.alloc (.cells #[n,yk,yt,yo] 45)).heap.size)) aR;clear hD h0 h1 D h3 Y W a;obtain⟨K,H⟩:∃K:ByteArray,K=⟨(Pt.ah n).toArray⟩:=⟨_,rfl⟩;have O:K.data.toList=Pt.ah n.data.toList:=by rw[H]
   have M:Pt.str (Pt.ah n)= .string K:=by rw[H];rfl
   obtain⟨sn,L⟩:∃sn,sn=(⟨(Pt.nameOf n).toArray⟩:ByteArray):=⟨_,rfl⟩;have g:Pt.str (Pt.nameOf n)= .string sn:=by rw[L];rfl
   rw[<-O]at F y;have HSN:=aL g.symm;rw[M,g];clear H M L O g
   rcases tq:(K.toList==p.toList)with _|_
   ·have t:=aL (y.out (by rw[aj]at tq;simpa using tq))
    clear F y;go_wp2;go_roundw
    case rel=>exact⟨k+1,by omega,by go_num,by rw[t.out];exact E,m⟩
    case measure=>simp[intOf];omega
   have t:=aL (F.out (by rw[aj]at tq;simpa using tq))
   clear F y
   go_wp2_with (at_builtin;go_must (refine ax w8 rfl _ _ _ rfl w 9 i0 _ 1 16 underlying41 hi hz0 hz1 hz2 rfl (by decide) u8 _ _ rfl E [.string sn] rfl rfl (by simp[Value.oneCell']) (by omega) (by decide) m.size _ rfl ?_);intro v9 w9 U sZ _)
   go_roundw
   case rel=>exact⟨k+1,by omega,by go_num,aT.snoc U t.out HSN.out,m.grown sZ m.size (λq e'=>(gH E q e').1)⟩
   case measure=>simp[intOf];omega
  obtain rfl:k=l.length:=by omega
  rw[gN]at a;go_wp2;go_ret2;exact⟨_,nV x.out,by rw[x.out];exact a,W⟩
theorem OE(x y:En)(hx:x.p.size<4294967281)(hy:y.p.size<4294967281)(W:World):Calls prog 96 #[.agg x.cells.toArray,.agg y.cells.toArray] W λe w'=>e= .returned (.int .i64 (Pt.cmp x.P y.P))/\Gr W w':=by
 obtain⟨g,i,m,k⟩:=x;obtain⟨c,j,l,o⟩:=y;simp only[En.cells];dsimp only at hx hy;go_enter func96,ntmps96;go_wp2_with fail;refine(JP g c _ hx hy).mono ?_
 rintro e r ⟨rfl,q,b,rfl⟩;go_wp2;go_ret;refine⟨rfl,?_⟩
 obtain⟨n,a,h⟩:=((Gr.refl W).alloc (.cells #[g,i,m,k] 45)).alloc (.cells #[c,j,l,o] 45);rw[h];exact⟨n+q,a++b,by show grow (grow ((W.drewN n).drewN q) a) b=_;rw[grow_grow,World.drewN_drewN]⟩
theorem iF{m n:Int}(h:m=n):Ending.returned (.int .i64 n)= .returned (.int .i64 m):=by rw[h]
theorem OG(A:Option Addr)(c:Nat)(l:List En)(s d:ByteArray)(w:World)(hl:aC w w A l)(hs:Sm l)(hsrt:Tr.Srt l)(hsz:s.size<4294967281)(hdz:d.size<4294967281)(hn:l.length<=4000000):Calls prog 94 #[.slice A l.length c,s,d] w λe w'=>e= .returned (.int .i64 (Tr.bM l s d))/\Below w w w':=by
 have HS:=aL hs;have O:=aL hsrt;clear hs hsrt;obtain⟨M,hM⟩:∃M,M=Tr.bM l s d.data.toList:=⟨_,rfl⟩;rw[<-hM];unfold Tr.bM at hM;have a:=aL hM;clear hM;have hB0:=aa w w;go_enter func94,ntmps94;go_wp2_with fail;refine(get_any A c l s w hl HS.out hsz (by omega)).mono ?_
 rintro e w1 ⟨r,rfl,Y,i⟩;have hB1:=hB0.trans (i.mono hB0.size);have u:=aL (Y.2 (.inl O.out));clear Y i hB0;have Xn:=aL (show r.isSome=false->M=6 from λh=>by
  rw[a.out,aM (.inl (by rw[<-u.out];exact Option.not_isSome_iff_eq_none.1 (by rw[h];decide)))])
 have ZZ:=aL (show s.data.toList=[]->M=6 from λh=>by rw[a.out,aM (.inr h)])
 have N:=aL (show r.isSome=true->s.data.toList≠[]->M=if Pt.clean d.data.toList=false then 7 else if s.data.toList=d.data.toList then 0 else if Pt.under d s.data.toList=true then 8 else
   if Tr.bg l (Pt.ah d)≠0 then Tr.bg l (Pt.ah d)else Tr.iV l (r.getD En.zero) d from λh h0=>by
  rw[a.out,av,<-u.out];rintro(V|V)
  ·rw[<-u.out]at V;rw[V]at h;cases h
  ·exact h0 V)
 clear a u;generalize r.getD En.zero=x at N;generalize r.isSome=ok at Xn N;obtain⟨xp,o,xt,xo⟩:=x;simp only[En.agg,En.cells];have F:=hB1.alloc hB1.size (.cells #[xp,o,xt,xo] 45);have Z:=ai.new w1 45 [xp,o,xt,xo];clear hB1
 cases ok
 ·have b:=aL (Xn.out rfl)
  go_wp2;go_ret;exact⟨iF b.out,F⟩
 rcases aG s with⟨hE,g1,g2⟩|⟨hE,g1,g2⟩
 ·have b:=aL (ZZ.out hE)
  clear hE;go_wp2;go_ret;exact⟨iF b.out,F⟩
 have a:=aL (N.out rfl hE);clear hE Xn ZZ N;go_wp2_with fail;generalize w1.alloc (.cells #[xp,o,xt,xo] 45)=w2 at*;generalize w1.heap.size=gx at*;refine(clean_any d w2 (by omega)).mono ?_
 rintro e w3 ⟨rfl,i⟩;have D:=F.trans (i.mono F.size);have hx3:=Z.below i Z.lt;clear i F Z
 rcases tc:Pt.clean d with _|_
 ·have b:=aL (a.out.trans (aM tc))
  clear a;go_wp2;go_ret;exact⟨iF b.out,D⟩
 have a:=aL (a.out.trans (av (by rw[tc];decide)))
 have HDN:=aL (Tr.clean_ne tc)
 rcases te:(s.toList==d.toList)with _|_
 rotate_left
 ·have b:=aL (a.out.trans (aM (by rw[aj]at te;simpa using te)))
  clear a;go_wp2;go_ret;exact⟨iF b.out,D⟩
 have a:=aL (a.out.trans (av (by rw[aj]at te;simpa using te)))
 go_wp2_with fail;refine(lQ d s w3 (by omega)).mono ?_
 rintro e w3 ⟨rfl,rfl⟩
 rcases tu:Pt.under d s with _|_
 rotate_left
 ·have b:=aL (a.out.trans (aM tu))
  clear a;go_wp2;go_ret;exact⟨iF b.out,D⟩
 have a:=aL (a.out.trans (av (by rw[tu];decide)))
 go_wp2_with fail;refine(jC d _ (by omega)).mono ?_
 rintro e w4 ⟨rfl,hD⟩;have E:=D.trans (hD.below (B:=w.heap.size));have hx4:=hx3.below (hD.below (B:=w3.heap.size)) hx3.lt;clear hD D hx3;obtain⟨sd,hsd⟩:∃sd:ByteArray,sd=⟨(Pt.ah d).toArray⟩:=⟨_,rfl⟩;have hsl:sd.data.toList=Pt.ah d.data.toList:=by rw[hsd]
 have hst:Pt.str (Pt.ah d)= .string sd:=by rw[hsd];rfl
 obtain⟨sn,hsn⟩:∃sn,Pt.str (Pt.nameOf d)= .string sn:=⟨_,rfl⟩;rw[hst,hsn];have hlt:sd.size<d.size:=by have:=Tr.aI HDN.out;rw[<-hsl,af,af]at this;exact this
 have a:=aL a.out;rw[<-hsl]at a;clear hsd hsl hst hsn;go_wp2_with fail;refine(get_any A c l sd w4 ((hl.below E).more E.size) HS.out (by omega) (by omega)).mono ?_
 rintro e w5 ⟨r2,rfl,Y,i⟩;have dh:=E.trans (i.mono E.size);have hx5:=hx4.below i hx4.lt;have u:=aL (Y.2 (.inl O.out));clear Y i E hx4;have K:=aL (show r2.isSome=false->M=6 from λh=>by rw[a.out,ji (by rw[<-u.out];exact h)];rfl)
 have HK:=aL (show r2.isSome=true->((r2.getD En.zero).k !=2)=true->M=10 from λh h2=>by rw[a.out,jk u.out h h2];rfl)
 have G:=aL (show r2.isSome=true->((r2.getD En.zero).k !=2)=false->M=Tr.iV l ⟨xp,o,xt,xo⟩ d.data.toList from λh h2=>by rw[a.out,lU u.out h h2];rfl)
 clear u a;generalize r2.getD En.zero=y at K HK G;generalize r2.isSome=ok at K HK G;obtain⟨dp,dk,dt,f_⟩:=y;simp only[En.agg,En.cells];dsimp only at K HK G;have n:=dh.alloc dh.size (.cells #[dp,dk,dt,f_] 45);have hx6:=hx5.alloc (.cells #[dp,dk,dt,f_] 45);clear dh hx5
 cases ok
 ·have b:=aL (K.out rfl)
  go_wp2;go_ret;exact⟨iF b.out,n⟩
 rcases tk:(dk !=2)with _|_
 rotate_left
 ·have b:=aL (HK.out rfl tk)
  go_wp2;go_ret;exact⟨iF b.out,n⟩
 have a:=aL (G.out rfl tk);clear K HK G;go_wp2_with fail;generalize w5.alloc (.cells #[dp,dk,dt,f_] 45)=w6 at*;refine(get_any A c l d w6 ((hl.below n).more n.size) HS.out hdz (by omega)).mono ?_
 rintro e w7 ⟨U,rfl,Y,i⟩;have jV:=n.trans (i.mono n.size);have hx7:=hx6.below i hx6.lt;have u:=aL (Y.2 (.inl O.out));clear Y i n hx6;have K:=aL (show U.isSome=false->M=0 from λh=>by
  rw[a.out];unfold Tr.iV;rw[<-u.out];cases U with
  |none=>rfl
  |some _=>cases h)
 have G:=aL (show U.isSome=true->M=if o≠2/\(U.getD En.zero).k=2 then 9 else if o=2/\(U.getD En.zero).k≠2 then 10 else if(Tr.list l d).2=0/\(Tr.list l d).1≠[]then 11 else 0 from λh=>by
  rw[a.out];unfold Tr.iV;rw[<-u.out];cases U with
  |none=>cases h
  |some _=>rfl)
 clear u a;generalize U.getD En.zero=y at G;generalize U.isSome=ok at K G;obtain⟨yp,t,yt,yo⟩:=y;simp only[En.agg,En.cells];dsimp only at G;have j:=jV.alloc jV.size (.cells #[yp,t,yt,yo] 45);have Xl:=hx7.alloc (.cells #[yp,t,yt,yo] 45);have hy8:=ai.new w7 45 [yp,t,yt,yo]
 cases ok
 ·have b:=aL (K.out rfl)
  go_wp2;go_ret;exact⟨iF b.out,j⟩
 have a:=aL (G.out rfl);clear K G jV hx7;have p:=λW h=>Gx A c l d W h HS.out O.out hdz hn
 unfold oO at p;generalize Tr.list l d.data.toList=L at a p;have z:=Xl.four;have q:=hy8.four;clear Xl hy8
 rcases S:(o==2)with _|_<;>rcases H:(t==2)with _|_
 focus
  have Q:(o !=2)=true:=by simp[bne,S]
  have I:(t !=2)=true:=by simp[bne,H]
  have ry:=aL (show¬(o≠2/\t=2)from λh=>by rw[h.2]at H;cases H)
  have HC2:=aL (show¬(o=2/\t≠2)from λh=>by rw[h.1]at S;cases S)
 rotate_left
 focus
  have Q:(o !=2)=true:=by simp[bne,S]
  have I:(t !=2)=false:=by simp[bne,H]
  have b:=aL (a.out.trans (aM ⟨by simpa using Q,by simpa using H⟩))
  clear a p;go_wp2;go_ret;exact⟨iF b.out,j⟩
 focus
  have Q:(o !=2)=false:=by simp[bne,S]
  have I:(t !=2)=true:=by simp[bne,H]
  have b:=aL (a.out.trans ((av (λh=>by rw[h.2]at H;cases H)).trans (aM ⟨by simpa using S,by simpa using I⟩)))
  clear a p;go_wp2;go_ret;exact⟨iF b.out,j⟩
 focus
  have Q:(o !=2)=false:=by simp[bne,S]
  have I:(t !=2)=false:=by simp[bne,H]
  have ry:=aL (show¬(o≠2/\t=2)from λh=>h.1 (by simpa using S))
  have HC2:=aL (show¬(o=2/\t≠2)from λh=>h.2 (by simpa using H))
 all_goals
  have a:=aL (a.out.trans ((av (λh=>ry.out h)).trans (av (λh=>HC2.out h))))
  clear ry HC2;go_wp2_with fail;generalize w7.alloc (.cells #[yp,t,yt,yo] 45)=w8 at*;refine(p w8 ((hl.below j).more j.size)).mono ?_
  rintro e w9 ⟨v,rfl,ho,i⟩;have jv:=j.trans (i.mono j.size);clear i j p;obtain⟨m,er⟩:=L;dsimp only at ho a ⊢;obtain⟨A2,c2,hv⟩:∃A2 c2,v= .slice A2 m.length c2:=by
   rcases aB ho with⟨V,h2⟩|⟨g,cap,V,_,_,_⟩
   ·exact⟨none,0,by rw[V,h2]⟩
   exact⟨_,_,V⟩
  subst hv;clear ho
  rcases tl:(er==0)with _|_
  ·have b:=aL (a.out.trans (av (λh=>by rw[h.1]at tl;cases tl)))
   clear a;go_wp2;go_ret;exact⟨iF b.out,jv⟩
  by_cases hm:m.length=0
  ·have b:=aL (a.out.trans (av (λh=>h.2 (List.length_eq_zero_iff.1 hm))))
   have hm':¬((0:Int)<(m.length:Int)):=by omega
   clear a hm;go_wp2;go_ret;exact⟨iF b.out,jv⟩
  have b:=aL (a.out.trans (aM ⟨by simpa using tl,λh=>hm (by rw[h];rfl)⟩))
  have hm':(0:Int)<(m.length:Int):=by omega
  clear a hm;go_wp2;go_ret;exact⟨iF b.out,jv⟩
theorem OH{l:List En}{s d:Pt.Bs}{k:Nat}(hk:k<l.length)(h:Tr.stays s d l[k]=true):Tr.movedL (l.take (k+1)) s d=Tr.movedL (l.take k) s d++[Tr.dH s d l[k]]:=by
 unfold Tr.movedL;rw[aF hk,j3,vQ,List.filter_cons_of_pos h];rfl
theorem QU{l:List En}{s d:Pt.Bs}{k:Nat}(hk:k<l.length)(h:¬Tr.stays s d l[k]=true):Tr.movedL (l.take (k+1)) s d=Tr.movedL (l.take k) s d:=by
 unfold Tr.movedL;rw[aF hk,j3,vQ,List.filter_cons_of_neg h];simp
theorem Gy(l:List En)(s d:Pt.Bs):(Tr.movedL l s d).length<=l.length:=by
 unfold Tr.movedL;rw[ib];exact ko _ _
theorem OI{l:List En}{s d:Pt.Bs}{k:Nat}(hk:k<l.length)(h:Tr.stays s d l[k]=true):Tr.dH s d l[k]∈Tr.movedL l s d:=by
 unfold Tr.movedL;exact List.mem_map_of_mem (List.mem_filter.2 ⟨cz hk,h⟩)
theorem qg{l:List En}{s d:Pt.Bs}{e:Int}(h:Tr.moveErr l s d=e)(he:e≠0):Tr.move l s d=([],e):=by unfold Tr.move;rw[h,aM he]
theorem mr{l m:List En}{s d:Pt.Bs}{e:Int}{v:Value}(h:Tr.move l s d=(m,e)):Ending.returned (.tuple #[v,e])= .returned (.tuple #[v,.int .i64 (Tr.move l s d).2]):=by rw[h]
theorem QV(d:ByteArray):(⟨d.data.toList.toArray⟩:ByteArray)=d:=ik (by simp)
theorem jW{s d y:ByteArray}:(⟨(d.data.toList++y.data.toList.drop s.data.toList.length).toArray⟩:ByteArray)=d++y.extract s.size y.size:=ik (by
 rw[ByteArray.data_append,Array.toList_append,Fx,af,fI (by rw[gM,af];exact aR)])
def MS(l:List En)(s d:Pt.Bs)(w:World)(e:Ending)(w':World):Prop:=
 ∃v,e= .returned (.tuple #[v,.int .i64 (Tr.move l s d).2])/\ag w' w v (Tr.move l s d).1/\Below w w w'
theorem move_any(A:Option Addr)(c:Nat)(l:List En)(s d:ByteArray)(w:World)(hl:aC w w A l)(hc:l.length<=c)(hs:Sm l)(hsz:s.size<4294967281)(hdz:d.size<4294967281)(hn:l.length<=2305843009213693952):Calls prog 55 #[.slice A l.length c,s,d] w (MS l s d w):=by
 obtain⟨i0,hi,hz0,hz1,hz2⟩:=lw jD;have c1:=λW h=>oM A c l W h hc hs hn
 obtain⟨pt,hpt⟩:∃pr,pr=Tr.wrong l false:=⟨_,rfl⟩;rw[<-hpt]at c1;have HT:=aL hpt.symm;have HS:=aL hs;obtain⟨y,y'⟩:=pt;clear hpt hs;dsimp only at c1;have hB0:=aa w w;unfold MS;go_enter func55,ntmps55;go_wp2_with fail;refine(c1 w hl).mono ?_
 rintro e w1 ⟨rfl,hb⟩;have hB1:=hB0.trans (hb.mono hB0.size);clear hb hB0 c1;have V:=hB1.alloc hB1.size (.cells #[y,y'] 51);have hq2:=ai.new w1 51 [y,y'];clear hB1
 rcases ty:(y !=0)with _|_
 rotate_left
 ·have L:Hid (Tr.move l s d.data.toList=([],y)):=aL (qg (by unfold Tr.moveErr;rw[HT.out,aM (by simpa using ty)]) (by simpa using ty))
  go_wp2_with fail;generalize w1.alloc (.cells #[y,y'] 51)=w2 at*;generalize w1.heap.size=g1 at*;have Z:=hq2.two
  go_quiet (fail)
  go_wp2;go_ret2;exact⟨_,mr L.out,by rw[L.out];exact ag.nil _ _,below_drewN V _⟩
 have HT0:Hid ((Tr.wrong l false).1=0):=aL (by rw[HT.out];simpa using ty)
 have xA:=((Tr.az l false).1 HT0.out).1;have RT:=aL ((Tr.az l false).1 HT0.out).2;go_wp2_with fail;generalize w1.alloc (.cells #[y,y'] 51)=w2 at*;clear hq2;have cM:=OG A c l s d w2 ((hl.below V).more V.size) HS.out RT.out.2.1 hsz hdz (by omega)
 have Bd:=aL (show Tr.bM l s d.data.toList≠0->Tr.move l s d.data.toList=([],Tr.bM l s d)from λh=>qg (by unfold Tr.moveErr;rw[av (by simp[HT0.out]),aM h]) h)
 have HE2:=aL (show Tr.bM l s d.data.toList=0->Tr.moveErr l s d.data.toList=if(Tr.movedL l s d).any (λe=> !Pt.clean e.P)=true then 4 else 0 from λh=>by unfold Tr.moveErr;rw[av (by simp[HT0.out]),av (by simp[h])])
 have QT:=aL (show Tr.bM l s d.data.toList=0->(Tr.movedL l s d).Pairwise λx y=>x.P≠y.P from λh=>Tr.yh RT.out h)
 have HE4:=aL (show Tr.bM l s d.data.toList=0->s.data.toList≠[]from λh=>by obtain⟨_,_,h,_⟩:=Tr.iO h;exact h)
 generalize Tr.bM l s d.data.toList=z at cM Bd HE2 QT HE4;refine cM.mono ?_
 rintro e w3 ⟨rfl,hb⟩;have hB3:=V.trans (hb.mono V.size);clear hb V cM
 rcases tz:(z !=0)with _|_
 rotate_left
 ·have L:=aL (Bd.out (by simpa using tz))
  go_wp2;go_ret2;exact⟨_,mr L.out,by rw[L.out];exact ag.nil _ _,hB3⟩
 have HER:=aL (HE2.out (by simpa using tz))
 have Qb:=aL (QT.out (by simpa using tz))
 have Xo:=aL (HE4.out (by simpa using tz))
 clear Bd HE2 QT HE4;go_wp2
 go_loopw [10,29] (λv i wr=>∃k:Nat,k<=l.length/\i= .int .i64 k/\ag wr w v (Tr.movedL (l.take k) s d)/\Hid (∀e∈Tr.movedL (l.take k) s d,Pt.clean e.P=true)/\Below w w wr) (λ_ i _=>l.length- (intOf i).toNat)
 case atStart=>exact⟨0,bL _,rfl,ag.nil _ _,aL (λ_ h=>nomatch h),hB3⟩
 case round=>
  obtain⟨k,hk,rfl,B,HC,Q⟩:=hrel;clear hB3
  by_cases hlt:k<l.length
  ·obtain⟨b,o,rfl,hb,h0,h1,h2,h3⟩:=(aC.at_ (hl.below Q) hlt)
   have HY:=aL (OH (s:=s.data.toList) (d:=d.data.toList) hlt);have K:=aL (QU (s:=s.data.toList) (d:=d.data.toList) hlt);have n:=aL (show Tr.stays s d l[k]=true->Pt.clean (Tr.dH s d l[k]).P=false->Tr.move l s d.data.toList=([],4)from λh h2=>qg (by
    rw[HER.out,aM];exact List.any_eq_true.2 ⟨_,OI hlt h,by rw[h2];rfl⟩) (by decide))
   have hle:(Tr.movedL (l.take k) s d).length<=k:=eT (Gy _ _ _) (by rw[bR];omega)
   have hzz:=(HS.out.at_ hlt).1
   generalize l[k]=z at h0 h1 h2 h3 HY K n hzz;obtain⟨a,t,u,r⟩:=z;dsimp only at h0 h1 h2 h3 hzz
   rcases te:(a.toList==s.toList)with _|_
   rotate_left
   ·have hq:a.data.toList=s.data.toList:=by rw[aj]at te;simpa using te
    have HP:Hid (Tr.dH s d ⟨a,t,u,r⟩=⟨d,t,u,r⟩):=aL (by
     unfold Tr.dH;rw[aM (show(⟨a,t,u,r⟩:En).P=_ from hq),QV])
    have O:Hid (Tr.stays s d ⟨a,t,u,r⟩=true):=aL (Tr.stays_iff.2 (.inl (.inl hq)));clear hq;go_wp2_with fail;clear h0 h1 h2 h3 hb;have H:=ai.new wr 45 [d,t,u,r];have F:=Q.alloc Q.size (.cells #[d,t,u,r] 45);have I:ag _ w u10 _:=aH B (.cells #[d,t,u,r] 45);clear Q B;generalize wr.alloc (.cells #[d,t,u,r] 45)=w5 at*;refine(clean_any d w5 (by omega)).mono ?_
    rintro e w6 ⟨rfl,E⟩;have D:=F.trans (E.mono F.size);have uk:=H.below E H.lt;have N:ag w6 w u10 _:=own_below I E aR;clear E F H I;have j:=uk.four
    rcases tc:Pt.clean d with _|_
    ·have L:=aL (n.out O.out (by rw[HP.out];exact tc))
     clear n HY K;go_wp2;go_ret2;exact⟨_,mr L.out,by rw[L.out];exact ag.nil _ _,D⟩
    have U:=aL (HY.out O.out);rw[HP.out]at U;have uu:=aL (show∀e∈Tr.movedL (l.take (k+1)) s d,Pt.clean e.P=true from λe G=>by
     rw[U.out]at G
     rcases List.mem_append.1 G with G|G
     ·exact HC.out e G
     rw[List.mem_singleton.1 G];exact tc)
    clear n HY K
    go_wp2_with (at_builtin;go_must (refine ax w6 rfl _ _ _ rfl w 45 i0 _ 4 48 underlying30 hi hz0 hz1 hz2 rfl (by decide) u10 _ _ rfl N [d,t,u,r] rfl rfl (by simp[Value.oneCell']) (by omega) (by decide) D.size _ rfl ?_);intro v9 w9 M S _)
    go_roundw
    case rel=>exact⟨k+1,by omega,by go_num,ag.snoc (y:=⟨d,t,u,r⟩) M U.out,uu,D.grown S D.size (λq e'=>(gH N q e').1)⟩
    case measure=>simp[intOf];omega
   have hq:¬a.data.toList=s.data.toList:=by rw[aj]at te;simpa using te
   go_wp2_with fail;refine(lQ a s _ (by omega)).mono ?_
   rintro e w' ⟨rfl,rfl⟩
   rcases tu:Pt.under a s with _|_
   rotate_left
   ·have hlen:s.size<a.size:=by
     have:=Tr.lN Xo.out tu;rw[af,af]at this;exact this
    obtain⟨Y,Jn⟩:∃Y,Y=d++a.extract s.size a.size:=⟨_,rfl⟩;have hnz:Y.size<=140737488355328:=by rw[Jn];simp;omega
    have HP:Hid (Tr.dH s d ⟨a,t,u,r⟩=⟨Y,t,u,r⟩):=aL (by
     unfold Tr.dH;rw[av (show¬(⟨a,t,u,r⟩:En).P=_ from hq),aM (show Pt.under (⟨a,t,u,r⟩:En).P _=true from tu),Jn,<-jW];rfl)
    have O:Hid (Tr.stays s d ⟨a,t,u,r⟩=true):=aL (Tr.stays_iff.2 (.inl (.inr tu)));have hle2:s.size<=a.size:=nL hlen;clear hq;go_wp2_with fail;clear h0 h1 h2 h3 hb;rw[<-Jn];clear Jn;have H:=ai.new wr 45 [.string Y,t,u,r];have F:=Q.alloc Q.size (.cells #[.string Y,t,u,r] 45);have I:ag _ w u10 _:=aH B (.cells #[.string Y,t,u,r] 45);clear Q B;generalize wr.alloc (.cells #[.string Y,t,u,r] 45)=w5 at*;refine(clean_any Y w5 (by omega)).mono ?_
    rintro e w6 ⟨rfl,E⟩;have D:=F.trans (E.mono F.size);have uk:=H.below E H.lt;have N:ag w6 w u10 _:=own_below I E aR;clear E F H I;have j:=uk.four
    rcases tc:Pt.clean Y with _|_
    ·have L:=aL (n.out O.out (by rw[HP.out];exact tc))
     clear n HY K;go_wp2;go_ret2;exact⟨_,mr L.out,by rw[L.out];exact ag.nil _ _,D⟩
    have U:=aL (HY.out O.out);rw[HP.out]at U;have uu:=aL (show∀e∈Tr.movedL (l.take (k+1)) s d,Pt.clean e.P=true from λe G=>by
     rw[U.out]at G
     rcases List.mem_append.1 G with G|G
     ·exact HC.out e G
     rw[List.mem_singleton.1 G];exact tc)
    clear n HY K
    go_wp2_with (at_builtin;go_must (refine ax w6 rfl _ _ _ rfl w 45 i0 _ 4 48 underlying30 hi hz0 hz1 hz2 rfl (by decide) u10 _ _ rfl N [.string Y,t,u,r] rfl rfl (by simp[Value.oneCell']) (by omega) (by decide) D.size _ rfl ?_);intro v9 w9 M S _)
    go_roundw
    case rel=>exact⟨k+1,by omega,by go_num,ag.snoc (y:=⟨Y,t,u,r⟩) M U.out,uu,D.grown S D.size (λq e'=>(gH N q e').1)⟩
    case measure=>simp[intOf];omega
   have HP:Hid (Tr.dH s d ⟨a,t,u,r⟩=⟨a,t,u,r⟩):=aL (by
    unfold Tr.dH;rw[av (show¬(⟨a,t,u,r⟩:En).P=_ from hq),av (show¬Pt.under (⟨a,t,u,r⟩:En).P _=true by show¬Pt.under a _=true;rw[tu];decide)])
   rcases td:(a.toList==d.toList)with _|_
   rotate_left
   ·have U:=aL (K.out (λh=>by
     rcases Tr.stays_iff.1 h with(h|h)|h
     ·exact hq h
     ·have h:Pt.under a s.data.toList=true:=h
      rw[tu]at h;cases h
     exact h (by show a.data.toList=_;rw[aj]at td;simpa using td)))
    have F:=Q.alloc Q.size (.cells #[a,t,u,r] 45);have I:ag _ w u10 _:=aH B (.cells #[a,t,u,r] 45);clear HY K n hq;go_wp2;go_roundw
    case rel=>exact⟨k+1,by omega,by go_num,by rw[U.out];exact I,by rw[U.out];exact HC,F⟩
    case measure=>simp[intOf];omega
   have O:Hid (Tr.stays s d ⟨a,t,u,r⟩=true):=aL (Tr.stays_iff.2 (.inr (by
    show a.data.toList≠_
    rw[aj]at td;simpa using td)))
   clear hq;go_wp2_with fail;clear h0 h1 h2 h3 hb;have H:=ai.new wr 45 [a,t,u,r];have F:=Q.alloc Q.size (.cells #[a,t,u,r] 45);have I:ag _ w u10 _:=aH B (.cells #[a,t,u,r] 45);clear Q B;generalize wr.alloc (.cells #[a,t,u,r] 45)=w5 at*;refine(clean_any a w5 (by omega)).mono ?_
   rintro e w6 ⟨rfl,E⟩;have D:=F.trans (E.mono F.size);have uk:=H.below E H.lt;have N:ag w6 w u10 _:=own_below I E aR;clear E F H I;have j:=uk.four
   rcases tc:Pt.clean a with _|_
   ·have L:=aL (n.out O.out (by rw[HP.out];exact tc))
    clear n HY K;go_wp2;go_ret2;exact⟨_,mr L.out,by rw[L.out];exact ag.nil _ _,D⟩
   have U:=aL (HY.out O.out);rw[HP.out]at U;have uu:=aL (show∀e∈Tr.movedL (l.take (k+1)) s d,Pt.clean e.P=true from λe G=>by
    rw[U.out]at G
    rcases List.mem_append.1 G with G|G
    ·exact HC.out e G
    rw[List.mem_singleton.1 G];exact tc)
   clear n HY K
   go_wp2_with (at_builtin;go_must (refine ax w6 rfl _ _ _ rfl w 45 i0 _ 4 48 underlying30 hi hz0 hz1 hz2 rfl (by decide) u10 _ _ rfl N [a,t,u,r] rfl rfl (by simp[Value.oneCell']) (by omega) (by decide) D.size _ rfl ?_);intro v9 w9 M S _)
   go_roundw
   case rel=>exact⟨k+1,by omega,by go_num,ag.snoc (y:=⟨a,t,u,r⟩) M U.out,uu,D.grown S D.size (λq e'=>(gH N q e').1)⟩
   case measure=>simp[intOf];omega
  obtain rfl:k=l.length:=by omega
  rw[gN]at B HC;have L:Hid (Tr.move l s d.data.toList=(Tr.sortL (Tr.movedL l s d),0)):=aL (by
   unfold Tr.move;rw[HER.out,av (show¬(Tr.movedL l s d).any (λe=> !Pt.clean e.P)=true from λh=>by
    obtain⟨e,G,h2⟩:=List.any_eq_true.1 h;rw[HC.out e G]at h2;cases h2),av (by simp)])
  have HU:=aL (λ(m:List En) hp h=>Tr.NZ (m:=m) Qb.out hp h)
  have lG:Hid (∀e∈Tr.movedL l s d,e.p.size<4294967281):=aL (λe G=>by
   have:=Tr.bV (HC.out e G);have h2:e.P.length=e.p.size:=af e.p
   omega)
  have hle0:=Gy l s d;clear HER Qb HC;generalize Tr.movedL l s d.data.toList=out at*
  rcases aB B with⟨hv,h0⟩|⟨g,cap,hv,hbg,_,_⟩
  ·subst hv
   have e0:out=[]:=List.length_eq_zero_iff.1 h0;subst e0;go_wp2_with fail;refine(CB _ _).mono ?_
   rintro e w9 ⟨rfl,rfl⟩;go_wp2;go_ret2;exact⟨_,mr L.out,by rw[L.out];exact ag.nil _ _,Q⟩
  subst hv;have eg:∀args w,(callFunc 96 args).run prog w= .ok (.enter 96 args) w:=enters_of func96 (by kernel_rfl) rfl
  have cS:=Cj 96 eg (λx y hx hy W=>OE x y hx hy W) w g cap out wr B lG.out (by omega)
  go_wp2_with fail;refine cS.mono ?_
  rintro e w9 ⟨rfl,m,hp,hsm,oh,S⟩;have hm:=HU.out m hp hsm;go_wp2;go_ret2;exact⟨_,mr L.out,by rw[L.out,<-hm];show ag _ _ _ m;rw[<-hp.length_eq]at oh ⊢;exact oh,Q.grown S Q.size (λq e'=>by cases e';exact hbg)⟩
theorem o6(A:Option Addr)(c:Nat)(l:List En)(p:ByteArray)(w:World)(hl:aC w w A l)(hs:Sm l)(hn:l.length<=4000000):Calls prog 91 #[.slice A l.length c,p] w λe w'=>∃v,e= .returned v/\aT w' w v (Tr.names l p)/\Below w w w':=by
 obtain⟨i0,hi,N,W,Z⟩:=lw jB;have HS:=aL hs;clear hs;have G:=aa w w;go_enter func91,ntmps91;go_wp2
 go_loopw [5,12] (λv i wr=>∃k:Nat,k<=l.length/\i= .int .i64 k/\aT wr w v (Tr.names (l.take k) p)/\Below w w wr) (λ_ i _=>l.length- (intOf i).toNat)
 case atStart=>exact⟨0,bL _,rfl,aT.nil _ _,G⟩
 case round=>
  obtain⟨k,hk,rfl,a,I⟩:=hrel;clear G
  by_cases h:k<l.length
  ·obtain⟨b,o,rfl,hb,O,V,M,h3⟩:=(aC.at_ (hl.below I) h)
   have t:=aL (CZ (p:=p.data.toList) h);have n:=aL (Gv (p:=p.data.toList) h);have hle:(Tr.names (l.take k) p).length<=k:=eT (Gw _ _) (by rw[bR];omega)
   have F:=(HS.out.at_ h).1
   unfold En.P at t n;generalize l[k]=z at O V M h3 t n F;obtain⟨m,yk,Y,S⟩:=z;dsimp only at O V M h3 t n F;go_wp2_with fail;refine(dw m _ (by omega)).mono ?_
   rintro e w8 ⟨rfl,Q⟩;have j:=(I.alloc I.size (.cells #[m,yk,Y,S] 45)).trans (Q.below (B:=w.heap.size));have r:aT w8 w u5 _:=own_below (aH a (.cells #[m,yk,Y,S] 45)) (Q.below (B:=(wr.alloc (.cells #[m,yk,Y,S] 45)).heap.size)) aR;clear Q O V M h3 hb I a;obtain⟨x,u⟩:∃x:ByteArray,x=⟨(Pt.ah m).toArray⟩:=⟨_,rfl⟩;have E:x.data.toList=Pt.ah m.data.toList:=by rw[u]
   have D:Pt.str (Pt.ah m)= .string x:=by rw[u];rfl
   obtain⟨L,y⟩:∃L,L=(⟨(Pt.nameOf m).toArray⟩:ByteArray):=⟨_,rfl⟩;have g:Pt.str (Pt.nameOf m)= .string L:=by rw[y];rfl
   rw[<-E]at t n;have U:=aL g.symm;rw[D,g];clear u D y E g
   rcases K:(x.toList==p.toList)with _|_
   ·have HN:=aL (n.out (by rw[aj]at K;simpa using K))
    clear t n;go_wp2;go_roundw
    case rel=>exact⟨k+1,by omega,by go_num,by rw[HN.out];exact r,j⟩
    case measure=>simp[intOf];omega
   have HN:=aL (t.out (by rw[aj]at K;simpa using K))
   clear t n
   go_wp2_with (at_builtin;go_must (refine ax w8 rfl _ _ _ rfl w 9 i0 _ 1 16 underlying41 hi N W Z rfl (by decide) u5 _ _ rfl r [.string L] rfl rfl (by simp[Value.oneCell']) (by omega) (by decide) j.size _ rfl ?_);intro v9 w9 H sZ _)
   go_roundw
   case rel=>exact⟨k+1,by omega,by go_num,aT.snoc H HN.out U.out,j.grown sZ j.size (λq e'=>(gH r q e').1)⟩
   case measure=>simp[intOf];omega
  obtain rfl:k=l.length:=by omega
  rw[gN]at a;go_wp2;go_ret;exact⟨_,rfl,a,I⟩
theorem aT.form{w:World}{b:Nat}{v:Value}{l:List Pt.Bs}(h:aT w b v l):∃A c,v= .slice A l.length c/\bH w w A l:=by
 rcases aB h with⟨a,e⟩|⟨g,c,a,_⟩
 ·subst a
  have:l=[]:=List.length_eq_zero_iff.1 e;subst this;exact⟨_,_,rfl,Rd.nil⟩
 subst a;exact⟨_,_,rfl,Rd.iK h⟩
theorem IG(A:Option Addr)(c:Nat)(l:List En)(p:ByteArray)(w:World)(hl:aC w w A l)(hs:Sm l)(hn:l.length<=4000000):Calls prog 103 #[.slice A l.length c,p] w (oO l p w):=by
 have I:=aL hs;clear hs;have i:=aa w w;unfold oO;go_enter func103,ntmps103;go_wp2_with fail;refine(a_ A c l p w hl (by omega)).mono ?_
 rintro e K ⟨r,rfl,F,j⟩;have g:=i.trans (j.mono i.size);have t:=aL F;clear F j i;have n:=aL (show r.isSome=false->Tr.list l p.data.toList=([],6)from λh=>uq (ji (by rw[<-t.out];exact h)) (by decide))
 have o:=aL (show r.isSome=true->((r.getD En.zero).k !=2)=true->Tr.list l p.data.toList=([],10)from λh u=>uq (jk t.out h u) (by decide))
 have m:=aL (show r.isSome=true->((r.getD En.zero).k !=2)=false->Tr.list l p.data.toList=(Tr.names l p,0)from λh u=>list_good (lU t.out h u))
 clear t;generalize r.getD En.zero=d at n o m;generalize r.isSome=ok at n o m;obtain⟨D,z,E,q⟩:=d;simp only[En.agg,En.cells];dsimp only at n o m;have a:=g.alloc g.size (.cells #[D,z,E,q] 45);clear g
 cases ok
 ·have b:=aL (n.out rfl)
  go_wp2;go_ret2;exact⟨_,nV b.out,by rw[b.out];exact aT.nil _ _,a⟩
 rcases B:(z !=2)with _|_
 rotate_left
 ·have b:=aL (o.out rfl B)
  go_wp2;go_ret2;exact⟨_,nV b.out,by rw[b.out];exact aT.nil _ _,a⟩
 have b:=aL (m.out rfl B);clear n o m;go_wp2_with fail;generalize K.alloc (.cells #[D,z,E,q] 45)=G at*;refine(o6 A c l p G ((hl.below a).more a.size) I.out hn).mono ?_
 rintro e H ⟨v,rfl,y,j⟩;have x:=a.trans (j.mono a.size);have y:aT H w v _:=own_base y a.size;clear j;go_wp2;go_ret2;exact⟨_,nV b.out,by rw[b.out];exact y,x⟩
theorem Bq(A B:Option Addr)(c d:Nat)(l m:List Pt.Bs)(w:World)(hl:bH w w A l)(hm:bH w w B m)(hbl:l.length<=9223372036854775807)(he:l=m):Calls prog 62 #[.slice A l.length c,.slice B m.length d] w λe w'=>e= .returned (.bool true)/\Below w w w':=by
 subst he;go_enter func62,ntmps62;go_wp2
 go_loopw [13] (λi wr=>∃k:Nat,k<=l.length/\i= .int .i64 k/\Below w w wr) (λi _=>l.length- (intOf i).toNat)
 case atStart=>exact⟨0,bL _,rfl,aa _ _⟩
 case round=>
  obtain⟨k,u,rfl,a⟩:=hrel
  by_cases b:k<l.length
  ·obtain⟨z,D,rfl,hbl,q⟩:=bH.at_ (Rd.below hl a) b
   obtain⟨v,x,rfl,r,p⟩:=bH.at_ (Rd.below hm a) b
   obtain⟨o,h⟩:∃o,Pt.str l[k]= .string o:=⟨_,rfl⟩;rw[h]at q p;clear h;go_wp2_with fail;refine eO (by kernel_rfl) (by kernel_rfl) ?_
   repeat(first|go_big_quiet_step (fail)|quiet_step (fail))
   refine ic ?_
   intro y j;obtain⟨t,g⟩:=j;subst g;have n:=below_drewN a t;go_wp2;go_roundw
   case rel=>exact⟨k+1,b,by go_num,n⟩
   case measure=>simp[intOf];omega
  go_wp2;go_ret;exact⟨rfl,a⟩
theorem KU(A:Option Addr)(c:Nat)(l:List En)(xp:ByteArray)(xk:Int)(xt:ByteArray)(xo:Bool)(w:World)(hl:aC w w A l)(hc:l.length<=c)(hs:Sm l)(hxp:xp.size<4294967281)(hxt:xt.size<4294967281)(hn:l.length<=2305843009213693952):Calls prog 48 #[.slice A l.length c,.agg #[xp,xk,xt,xo]] w (Eh l ⟨xp,xk,xt,xo⟩ w):=by
 obtain⟨x,hx⟩:∃x:En,x=⟨xp,xk,xt,xo⟩:=⟨_,rfl⟩;have HX:=aL hx;rw[<-hx];have c1:=λW h=>fP A c l false W h hc hs hn
 obtain⟨pt,hpt⟩:∃pr,pr=Tr.wrong l false:=⟨_,rfl⟩;rw[<-hpt]at c1;have HT:=aL hpt.symm;have HS:=aL hs;obtain⟨y,y'⟩:=pt;clear hpt hs hx;dsimp only at c1;have I:=(aa w w).alloc aR (.cells #[xp,xk,xt,xo] 45);have hx0:=ai.new w 45 [xp,xk,xt,xo];unfold Eh;go_enter func48,ntmps48;go_wp2_with fail;generalize w.alloc (.cells #[xp,xk,xt,xo] 45)=w0 at*;refine(c1 w0 ((hl.below I).more I.size)).mono ?_
 rintro e w1 ⟨rfl,g⟩;have Z:=I.trans (g.mono I.size);have hx1:=hx0.below g hx0.lt;clear g I hx0 c1;have Q:=Z.alloc Z.size (.cells #[y,y'] 51);have hq2:=ai.new w1 51 [y,y'];have L:=hx1.alloc (.cells #[y,y'] 51);clear Z hx1
 rcases ty:(y !=0)with _|_
 rotate_left
 ·have a:Hid (Tr.put l x=([],y)):=aL (iW (by unfold Tr.putErr;rw[HT.out,aM (by simpa using ty)]) (by simpa using ty))
  go_wp2_with fail;generalize w1.alloc (.cells #[y,y'] 51)=w2 at*;generalize w1.heap.size=g1 at*;have q:=hq2.two
  go_quiet (fail)
  go_wp2;go_ret2;exact⟨_,dP a.out,by rw[a.out];exact ag.nil _ _,below_drewN Q _⟩
 have O:Hid ((Tr.wrong l false).1=0):=aL (by rw[HT.out];simpa using ty)
 have xA:=((Tr.az l false).1 O.out).1;have RT:=aL ((Tr.az l false).1 O.out).2;have v:=L.four;go_wp2_with fail;generalize w1.alloc (.cells #[y,y'] 51)=w2 at*;clear hq2;have cE:=uK ⟨xp,xk,xt,xo⟩ false w2 hxp hxt;have hre:Tr.entry (⟨xp,xk,xt,xo⟩:En) false=Tr.entry x false:=by rw[HX.out]
 rw[hre]at cE;clear hre;dsimp only at cE;have Bd:=aL (show Tr.entry x false≠0->Tr.put l x=([],Tr.entry x false)from λh=>iW (by unfold Tr.putErr;rw[av (by simp[O.out]),aM h]) h)
 have HE2:=aL (show Tr.entry x false=0->∀e,(if Tr.bg l (Pt.ah x.P)≠0 then Tr.bg l (Pt.ah x.P)else Tr.eF l x)=e->Tr.putErr l x=e from λh e he=>by unfold Tr.putErr;rw[av (by simp[O.out]),av (by simp[h]),he])
 have QT:=aL (show Tr.entry x false=0->x.P≠[]from λh=>Tr.clean_ne (Tr.entry_clean h))
 generalize Tr.entry x false=z at cE Bd HE2 QT;refine cE.mono ?_
 rintro e w3 ⟨rfl,g⟩;have hB3:=Q.trans (g.mono Q.size);have N:=L.below g L.lt;clear g Q L cE v;have v:=N.four
 rcases tz:(z !=0)with _|_
 rotate_left
 ·have a:=aL (Bd.out (by simpa using tz))
  go_wp2;go_ret2;exact⟨_,dP a.out,by rw[a.out];exact ag.nil _ _,hB3⟩
 have hz0:z=0:=by simpa using tz
 have M:=aL (HE2.out hz0);have HP3:=aL (QT.out hz0);clear Bd HE2 QT hz0;go_wp2_with fail;refine(dw xp _ (by omega)).mono ?_
 rintro e w4 ⟨rfl,hD⟩;have F:=hB3.trans (hD.below (B:=w.heap.size));have hx4:=N.below (hD.below (B:=w3.heap.size)) N.lt;clear hD hB3 N v;obtain⟨Y,hsd⟩:∃Y:ByteArray,Y=⟨(Pt.ah xp).toArray⟩:=⟨_,rfl⟩;have hsl:Y.data.toList=Pt.ah xp.data.toList:=by rw[hsd]
 have hst:Pt.str (Pt.ah xp)= .string Y:=by rw[hsd];rfl
 obtain⟨sn,hsn⟩:∃sn,Pt.str (Pt.nameOf xp)= .string sn:=⟨_,rfl⟩;rw[hst,hsn];have Xk:x.P=xp.data.toList:=by rw[HX.out];rfl
 have hxk:x.k=xk:=by rw[HX.out]
 have hlt:Y.size<xp.size:=by have:=Tr.aI HP3.out;rw[Xk,<-hsl,af,af]at this;exact this
 have HD:=aL (show Pt.ah x.P=Y.data.toList by rw[Xk,hsl])
 clear hsd hsl hst hsn;go_wp2_with fail;refine(a_ A c l Y w4 ((hl.below F).more F.size) hn).mono ?_
 rintro e w5 ⟨r,rfl,hr,g⟩;have dh:=F.trans (g.mono F.size);have hx5:=hx4.below g hx4.lt;have K:=aL hr;clear hr g F hx4;have HN:=aL (show r.isSome=false->Tr.put l x=([],6)from λh=>iW (M.out _ (by rw[HD.out,ji (by rw[<-K.out];exact h)];rfl)) (by decide))
 have HK:=aL (show r.isSome=true->((r.getD En.zero).k !=2)=true->Tr.put l x=([],10)from λh G=>iW (M.out _ (by rw[HD.out,jk K.out h G];rfl)) (by decide))
 have HG:=aL (show r.isSome=true->((r.getD En.zero).k !=2)=false->∀e,Tr.eF l x=e->Tr.putErr l x=e from λh G e he=>M.out _ (by rw[HD.out,lU K.out h G,he];rfl))
 clear K M HD;generalize r.getD En.zero=d at HN HK HG;generalize r.isSome=ok at HN HK HG;obtain⟨dp,dk,dt,f_⟩:=d;simp only[En.agg,En.cells];dsimp only at HN HK HG;have n:=dh.alloc dh.size (.cells #[dp,dk,dt,f_] 45);have U:=hx5.alloc (.cells #[dp,dk,dt,f_] 45);clear dh
 cases ok
 ·have a:=aL (HN.out rfl)
  go_wp2;go_ret2;exact⟨_,dP a.out,by rw[a.out];exact ag.nil _ _,n⟩
 rcases tk:(dk !=2)with _|_
 rotate_left
 ·have a:=aL (HK.out rfl tk)
  go_wp2;go_ret2;exact⟨_,dP a.out,by rw[a.out];exact ag.nil _ _,n⟩
 have H:=aL (HG.out rfl tk);clear HN HK HG;have v:=U.four;go_wp2_with fail;generalize w5.alloc (.cells #[dp,dk,dt,f_] 45)=w6 at*;clear hx5 v;refine(a_ A c l xp w6 ((hl.below n).more n.size) hn).mono ?_
 rintro e w7 ⟨E,rfl,hr,g⟩;rw[<-Xk]at hr;have jV:=n.trans (g.mono n.size);have hx7:=U.below g U.lt;have K:=aL hr;clear hr g n U;have j:=aL (show E.isSome=true->(((E.getD En.zero).k==2) !=(xk==2))=true->Tr.put l x=([],7)from λh G=>iW (H.out 7 (by
  unfold Tr.eF;rw[<-K.out];cases E with
  |none=>cases h
  |some y=>exact aM (by rw[hxk];simpa using G))) (by decide))
 have i:=aL (show E.isSome=true->(((E.getD En.zero).k==2) !=(xk==2))=false->Tr.put l x=(Tr.ins x l,0)from λh G=>jG (H.out 0 (by
  unfold Tr.eF;rw[<-K.out];cases E with
  |none=>cases h
  |some y=>exact av (by rw[hxk];simpa using G))) rfl)
 have u:=aL (show E.isSome=false->l.length=80->Tr.put l x=([],5)from λh G=>iW (H.out 5 (by
  unfold Tr.eF;rw[<-K.out];cases E with
  |none=>exact aM G
  |some y=>cases h)) (by decide))
 have m:=aL (show E.isSome=false->l.length≠80->Tr.put l x=(Tr.ins x l,0)from λh G=>jG (H.out 0 (by
  unfold Tr.eF;rw[<-K.out];cases E with
  |none=>exact av G
  |some y=>cases h)) rfl)
 clear K H;generalize E.getD En.zero=y3 at j i;generalize E.isSome=ok at j i u m;obtain⟨yp,yk,yt,yo⟩:=y3;simp only[En.agg,En.cells];dsimp only at j i;have b:=jV.alloc jV.size (.cells #[yp,yk,yt,yo] 45);have Xl:=hx7.alloc (.cells #[yp,yk,yt,yo] 45);have hy8:=ai.new w7 45 [yp,yk,yt,yo];have V:=λW h=>mM A c l x W h HS.out RT.out.2.1 (by rw[HX.out];exact hxp) (by omega)
 have hcw:(Value.agg #[x.p,x.k,x.t,x.o])= .agg #[xp,xk,xt,xo]:=by rw[HX.out]
 rw[hcw]at V;clear hcw;have v:=Xl.four;obtain⟨y0,y1,y2,y3,yfr,yz⟩:=hy8.four
 cases ok
 ·by_cases S:l.length=80
  ·have a:=aL (u.out rfl S)
   have Xm:(80:Int)<=(l.length:Int):=by omega
   clear S j i u m V;go_wp2;go_ret2;exact⟨_,dP a.out,by rw[a.out];exact ag.nil _ _,b⟩
  have a:=aL (m.out rfl S);have Xm:¬((80:Int)<=(l.length:Int)):=by omega
  clear S j i u m;go_wp2_with fail;generalize w7.alloc (.cells #[yp,yk,yt,yo] 45)=w8 at*;refine(V w8 ((hl.below b).more b.size)).mono ?_
  rintro e w9 ⟨v9,rfl,D,g⟩;have jv:=b.trans (g.mono b.size);have D:ag w9 w v9 _:=own_base D b.size;clear g V;go_wp2;go_ret2;exact⟨_,dP a.out,by rw[a.out];exact D,jv⟩
 rcases ta:(yk==2)with _|_<;>rcases tb:(xk==2)with _|_
 focus
  have a:=aL (i.out rfl (by rw[ta,tb];rfl))
 rotate_left
 focus
  have a:=aL (j.out rfl (by rw[ta,tb];rfl))
  clear j i u m V;go_wp2;go_ret2;exact⟨_,dP a.out,by rw[a.out];exact ag.nil _ _,b⟩
 focus
  have a:=aL (j.out rfl (by rw[ta,tb];rfl))
  clear j i u m V;go_wp2;go_ret2;exact⟨_,dP a.out,by rw[a.out];exact ag.nil _ _,b⟩
 focus
  have a:=aL (i.out rfl (by rw[ta,tb];rfl))
 all_goals
  clear j i u m;go_wp2_with fail;generalize w7.alloc (.cells #[yp,yk,yt,yo] 45)=w8 at*;refine(V w8 ((hl.below b).more b.size)).mono ?_
  rintro e w9 ⟨v9,rfl,D,g⟩;have jv:=b.trans (g.mono b.size);have D:ag w9 w v9 _:=own_base D b.size;clear g V;go_wp2;go_ret2;exact⟨_,dP a.out,by rw[a.out];exact D,jv⟩
theorem eY(A:Option Addr)(c:Nat)(l:List En)(p:ByteArray)(w:World)(hl:aC w w A l)(hp:p.size<4294967281)(hn:l.length<=1000000):Calls prog 92 #[.slice A l.length c,p] w λe w'=>∃v,e= .returned v/\ag w' w v (Tr.outside l p)/\Below w w w':=by
 obtain⟨i0,hi,L,O,S⟩:=lw jD;have G:=aa w w;go_enter func92,ntmps92;go_wp2
 go_loopw [5,10] (λv i wr=>∃k:Nat,k<=l.length/\i= .int .i64 k/\ag wr w v (Tr.outside (l.take k) p)/\Below w w wr) (λ_ i _=>l.length- (intOf i).toNat)
 case atStart=>exact⟨0,bL _,rfl,ag.nil _ _,G⟩
 case round=>
  obtain⟨k,hk,rfl,a,I⟩:=hrel;clear G
  by_cases n:k<l.length
  ·obtain⟨b,o,rfl,hb,M,N,K,V⟩:=(aC.at_ (hl.below I) n)
   have r:=aL (FM (p:=p.data.toList) n);have m:=aL (Jz (p:=p.data.toList) n);have hle:(Tr.outside (l.take k) p).length<=k:=eT (fF _ _) (by rw[bR];omega)
   unfold En.P at r m;generalize l[k]=z at M N K V r m;obtain⟨g,D,u,t⟩:=z;dsimp only at M N K V r m;have Q:=ai.new wr 45 [g,D,u,t];have h:=I.alloc I.size (.cells #[g,D,u,t] 45);have j:ag _ w u5 _:=aH a (.cells #[g,D,u,t] 45)
   rcases B:(g.toList==p.toList)with _|_
   rotate_left
   ·have W:(g.toList !=p.toList)=false:=by rw[bne,B];rfl
    have F:=aL (m.out (.inl (by rw[aj]at B;simpa using B)))
    clear r m;go_wp2;go_roundw
    case rel=>exact⟨k+1,by omega,by go_num,by rw[F.out];exact j,h⟩
    case measure=>simp[intOf];omega
   have W:(g.toList !=p.toList)=true:=by rw[bne,B];rfl
   have E:¬g.data.toList=p.data.toList:=by rw[aj]at B;simpa using B
   have U:=aL E;clear E;go_wp2_with fail;refine(iC g p _ (by omega)).mono ?_
   rintro e w' ⟨rfl,rfl⟩;clear M N K V hb I a;generalize wr.alloc (.cells #[g,D,u,t] 45)=w5 at*;generalize wr.heap.size=gy at*;have x:=Q.four
   rcases Z:Pt.under g p with _|_
   rotate_left
   ·have F:=aL (m.out (.inr Z))
    clear r m;go_wp2;go_roundw
    case rel=>exact⟨k+1,by omega,by go_num,by rw[F.out];exact j,h⟩
    case measure=>simp[intOf];omega
   have F:=aL (r.out U.out Z);clear r m
   go_wp2_with (at_builtin;go_must (refine ax w5 rfl _ _ _ rfl w 45 i0 _ 4 48 underlying30 hi L O S rfl (by decide) u5 _ _ rfl j [g,D,u,t] rfl rfl (by simp[Value.oneCell']) (by omega) (by decide) h.size _ rfl ?_);intro v9 w9 H Y _)
   go_roundw
   case rel=>exact⟨k+1,by omega,by go_num,ag.snoc (y:=⟨g,D,u,t⟩) H F.out,h.grown Y h.size (λq e'=>(gH j q e').1)⟩
   case measure=>simp[intOf];omega
  obtain rfl:k=l.length:=by omega
  rw[gN]at a;go_wp2;go_ret;exact⟨_,rfl,a,I⟩
theorem Bv(A:Option Addr)(c:Nat)(l:List En)(p:ByteArray)(w:World)(hl:aC w w A l)(hc:l.length<=c)(hs:Sm l)(hp:p.size<4294967281)(hn:l.length<=2305843009213693952):Calls prog 53 #[.slice A l.length c,p] w (Ei l p w):=by
 have V:=λW h=>fP A c l false W h hc hs hn
 obtain⟨pt,B⟩:∃pr,pr=Tr.wrong l false:=⟨_,rfl⟩;rw[<-B]at V;have HT:=aL B.symm;have HS:=aL hs;obtain⟨y,S⟩:=pt;clear B hs;dsimp only at V;have z:=aa w w;unfold Ei;go_enter func53,ntmps53;go_wp2_with fail;refine(V w hl).mono ?_
 rintro e O ⟨rfl,j⟩;have t:=z.trans (j.mono z.size);clear j z V;have i:=t.alloc t.size (.cells #[y,S] 51);have N:=ai.new O 51 [y,S];clear t
 rcases ty:(y !=0)with _|_
 rotate_left
 ·have b:Hid (Tr.remove l p.data.toList=([],y)):=aL (oN (by unfold Tr.removeErr;rw[HT.out,aM (by simpa using ty)]) (by simpa using ty))
  go_wp2_with fail;generalize O.alloc (.cells #[y,S] 51)=w2 at*;generalize O.heap.size=g1 at*;have q:=N.two
  go_quiet (fail)
  go_wp2;go_ret2;exact⟨_,kL b.out,by rw[b.out];exact ag.nil _ _,below_drewN i _⟩
 have u:Hid ((Tr.wrong l false).1=0):=aL (by rw[HT.out];simpa using ty)
 have xA:=((Tr.az l false).1 u.out).1;have RT:=aL ((Tr.az l false).1 u.out).2;have k:=aL (show∀e,(if p.data.toList=[]\/Tr.get l p.data.toList=none then 6 else if Tr.full l p.data.toList=true then 11 else 0)=e->Tr.removeErr l p.data.toList=e from λe he=>by unfold Tr.removeErr;rw[av (by simp[u.out]),he])
 go_wp2_with fail;generalize O.alloc (.cells #[y,S] 51)=w2 at*;clear N;refine(a_ A c l p w2 ((hl.below i).more i.size) hn).mono ?_
 rintro e w3 ⟨r,rfl,hr,j⟩;have G:=i.trans (j.mono i.size);have U:=aL hr;clear j i hr;have HN:=aL (show r.isSome=false->Tr.remove l p.data.toList=([],6)from λh=>oN (k.out 6 (aM (.inr (by rw[<-U.out];exact Option.not_isSome_iff_eq_none.1 (by rw[h];decide))))) (by decide))
 have HZ:=aL (show p.data.toList=[]->Tr.remove l p.data.toList=([],6)from λh=>oN (k.out 6 (aM (.inl h))) (by decide))
 have F:=aL (show r.isSome=true->p.data.toList≠[]->Tr.full l p.data.toList=true->Tr.remove l p.data.toList=([],11)from λh Z Q=>oN (k.out 11 (by rw[av (λh3=>h3.elim Z (λI=>by rw[<-U.out]at I;rw[I]at h;cases h)),aM Q])) (by decide))
 have v:=aL (show r.isSome=true->p.data.toList≠[]->Tr.full l p.data.toList=false->Tr.remove l p.data.toList=(Tr.outside l p,0)from λh Z Q=>Gu (k.out 0 (by rw[av (λh3=>h3.elim Z (λI=>by rw[<-U.out]at I;rw[I]at h;cases h)),av (by rw[Q];decide)])) (o8 Q).symm)
 have K:=aL (show p.data.toList≠[]->Tr.full l p.data.toList= !(Tr.names l p).isEmpty from λh=>Tr.Jy RT.out h)
 clear U k;generalize r.getD En.zero=d at*;generalize r.isSome=ok at HN F v;obtain⟨dp,dk,dt,L⟩:=d;simp only[En.agg,En.cells];have a:=G.alloc G.size (.cells #[dp,dk,dt,L] 45);clear G
 cases ok
 ·have b:=aL (HN.out rfl)
  go_wp2;go_ret2;exact⟨_,kL b.out,by rw[b.out];exact ag.nil _ _,a⟩
 rcases aG p with⟨x,g1,g2⟩|⟨x,g1,g2⟩
 ·have b:=aL (HZ.out x)
  clear x;go_wp2;go_ret2;exact⟨_,kL b.out,by rw[b.out];exact ag.nil _ _,a⟩
 have E:=aL (F.out rfl x);have D:=aL (v.out rfl x);have m:=aL (K.out x);clear x HZ HN F v K;go_wp2_with fail;generalize w3.alloc (.cells #[dp,dk,dt,L] 45)=w4 at*;refine(o6 A c l p w4 ((hl.below a).more a.size) HS.out (by omega)).mono ?_
 rintro e w5 ⟨v5,rfl,H,j⟩;have g:=a.trans (j.mono a.size);clear j a;obtain⟨A5,c5,rfl,_⟩:=aT.form H;clear H
 rcases n:Tr.names l p with _|⟨n0,nr⟩
 ·have b:=aL (D.out (by rw[m.out,n];rfl))
  rw[show([]:List Pt.Bs).length=0 from rfl]
  clear E D m n;go_wp2_with fail;refine(eY A c l p w5 ((hl.below g).more g.size) hp (by omega)).mono ?_
  rintro e w6 ⟨v6,rfl,o,j⟩;have pI:=g.trans (j.mono g.size);have o:ag w6 w v6 _:=own_base o g.size;clear j;go_wp2;go_ret2;exact⟨_,kL b.out,by rw[b.out];exact o,pI⟩
 have b:=aL (E.out (by rw[m.out,n];rfl))
 obtain⟨M,Y⟩:∃M,M=(n0::nr).length:=⟨_,rfl⟩;have hpos:(0:Int)<(M:Int):=by rw[Y,gL];omega
 rw[<-Y];clear E D m n Y;go_wp2;go_ret2;exact⟨_,kL b.out,by rw[b.out];exact ag.nil _ _,g⟩
def zX(l:List En)(s d:Pt.Bs)(w:World)(e:Ending)(w':World):Prop:=
 ∃A' c',e= .returned (.tuple #[.slice A' (Tr.move l s d).1.length c',.int .i64 (Tr.move l s d).2])/\(Tr.move l s d).1.length<=c'/\aC w' w' A' (Tr.move l s d).1/\Below w w w'
theorem II(A:Option Addr)(c:Nat)(l:List En)(s d:ByteArray)(w:World)(hl:aC w w A l)(hc:l.length<=c)(hs:Sm l)(hsz:s.size<4294967281)(hdz:d.size<4294967281)(hn:l.length<=1048576):Calls prog 57 #[.slice A l.length c,s,d] w (zX l s d w):=by
 obtain⟨i0,hi,hz0,hz1,hz2⟩:=lw jD;have c1:=λW h=>fP A c l false W h hc hs (by omega)
 obtain⟨pt,hpt⟩:∃pr,pr=Tr.wrong l false:=⟨_,rfl⟩;rw[<-hpt]at c1;have HT:=aL hpt.symm;have HS:=aL hs;obtain⟨y,y'⟩:=pt;clear hpt hs;dsimp only at c1;have hB0:=aa w w;unfold zX;go_enter func57,ntmps57;go_wp2_with fail;refine(c1 w hl).mono ?_
 rintro e w1 ⟨rfl,D⟩;have hB1:=hB0.trans (D.mono hB0.size);clear D hB0 c1;have hB2:=hB1.alloc hB1.size (.cells #[y,y'] 51);have hq2:=ai.new w1 51 [y,y'];clear hB1
 rcases ty:(y !=0)with _|_
 rotate_left
 ·have a:Hid (Tr.move l s d.data.toList=([],y)):=aL (qg (by unfold Tr.moveErr;rw[HT.out,aM (by simpa using ty)]) (by simpa using ty))
  go_wp2_with fail;generalize w1.alloc (.cells #[y,y'] 51)=w2 at*;generalize w1.heap.size=g1 at*;have m:=hq2.two
  go_quiet (fail)
  go_wp2;go_ret2;exact⟨none,0,by rw[a.out];rfl,by rw[a.out];exact bL _,by rw[a.out];exact Rd.nil,below_drewN hB2 _⟩
 have HT0:Hid ((Tr.wrong l false).1=0):=aL (by rw[HT.out];simpa using ty)
 have xA:=((Tr.az l false).1 HT0.out).1;have RT:=aL ((Tr.az l false).1 HT0.out).2;go_wp2_with fail;generalize w1.alloc (.cells #[y,y'] 51)=w2 at*;clear hq2;obtain⟨M,hM⟩:∃M,M=Tr.bM l s d.data.toList:=⟨_,rfl⟩;have HV:=aL (show∀e,M=e->e≠0->Tr.move l s d.data.toList=([],e)from λe h h0=>qg (by unfold Tr.moveErr;rw[av (by simp[HT0.out]),<-hM,h,aM h0]) h0)
 have Tf:=aL (show M=0->s.data.toList=d.data.toList->Tr.move l s d.data.toList=(l,0)from λh h2=>by rw[<-h2];exact Tr.N8 HT0.out (by rw[h2]at hM ⊢;exact hM.symm.trans h))
 have NI:=aL (show M=0->∀x∈l,Tr.mv s x.P->Pt.clean (Tr.dH s d x).P=false->Tr.move l s d.data.toList=([],4)from λh x hx hm hc=>Tr.FO HT0.out (hM.symm.trans h) hx hm hc)
 have ES:=aL (show M=0->s.data.toList≠d.data.toList->(∀e∈Tr.au l s d,Pt.clean e.P=true)->Tr.move l s d.data.toList=(Tr.aV (Tr.au l s d) (Tr.outside (Tr.outside l s) d),0)from λh h2 h3=>Tr.tK HT0.out (hM.symm.trans h) h2 h3)
 unfold Tr.bM at hM;have S:=aL hM;clear hM;have zD:=hB2;refine(a_ A c l s w2 ((hl.below zD).more zD.size) (by omega)).mono ?_
 rintro e WB ⟨r,rfl,hr,D⟩;have ER:=zD.trans (D.mono zD.size);have HR:=aL hr;clear hr D zD;have Xn:=aL (show r.isSome=false->M=6 from λh=>by
  rw[S.out,aM (.inl (by rw[<-HR.out];exact Option.not_isSome_iff_eq_none.1 (by rw[h];decide)))])
 have ZZ:=aL (show s.data.toList=[]->M=6 from λh=>by rw[S.out,aM (.inr h)])
 have Yt:=aL (show r.isSome=true->s.data.toList≠[]->M=if Pt.clean d.data.toList=false then 7 else if s.data.toList=d.data.toList then 0 else if Pt.under d s.data.toList=true then 8 else
   if Tr.bg l (Pt.ah d)≠0 then Tr.bg l (Pt.ah d)else Tr.iV l (r.getD En.zero) d from λh h0=>by
  rw[S.out,av,<-HR.out];rintro(Z|Z)
  ·rw[<-HR.out]at Z;rw[Z]at h;cases h
  ·exact h0 Z)
 clear S HR;generalize r.getD En.zero=x at Yt;generalize r.isSome=ok at Xn Yt;obtain⟨xp,xk,xt,xo⟩:=x;simp only[En.agg,En.cells];have IJ:=ER.alloc ER.size (.cells #[xp,xk,xt,xo] 45);have YB:=ai.new WB 45 [xp,xk,xt,xo];clear ER
 cases ok
 ·have a:=aL (HV.out _ (Xn.out rfl) (by decide))
  go_wp2;go_ret2;exact⟨none,0,by rw[a.out];rfl,by rw[a.out];exact bL _,by rw[a.out];exact Rd.nil,IJ⟩
 rcases aG s with⟨hE,g1,g2⟩|⟨hE,g1,g2⟩
 ·have a:=aL (HV.out _ (ZZ.out hE) (by decide))
  clear hE;go_wp2;go_ret2;exact⟨none,0,by rw[a.out];rfl,by rw[a.out];exact bL _,by rw[a.out];exact Rd.nil,IJ⟩
 have S:=aL (Yt.out rfl hE);have Xo:=aL hE;clear hE Xn ZZ Yt;go_wp2_with fail;generalize WB.alloc (.cells #[xp,xk,xt,xo] 45)=w12 at*;generalize WB.heap.size=gx at*;refine(iD d w12 hdz).mono ?_
 rintro e w13 ⟨rfl,D⟩;have KW:=IJ.trans (D.mono IJ.size);have YC:=YB.below D YB.lt;clear D IJ YB
 rcases tc:Pt.clean d with _|_
 ·have a:=aL (HV.out _ (S.out.trans (aM tc)) (by decide))
  clear S;go_wp2;go_ret2;exact⟨none,0,by rw[a.out];rfl,by rw[a.out];exact bL _,by rw[a.out];exact Rd.nil,KW⟩
 have S:=aL (S.out.trans (av (by rw[tc];decide)))
 have HDN:=aL (Tr.clean_ne tc);have adG:d.size<=80:=by have Z:=Tr.bV tc;rw[af]at Z;exact Z
 rcases te:(s.toList==d.toList)with _|_
 rotate_left
 ·have a:=aL (Tf.out (S.out.trans (aM (by rw[aj]at te;simpa using te))) (by rw[aj]at te;simpa using te))
  clear S;go_wp2;go_ret2;exact⟨A,c,by rw[a.out]<;>rfl,by rw[a.out];exact hc,by rw[a.out];exact(hl.below KW).more KW.size,KW⟩
 have S:=aL (S.out.trans (av (by rw[aj]at te;simpa using te)))
 have HSD:=aL (show s.data.toList≠d.data.toList by rw[aj]at te;simpa using te)
 go_wp2_with fail;refine(iC d s w13 (by omega)).mono ?_
 rintro e w13 ⟨rfl,rfl⟩
 rcases tu:Pt.under d s with _|_
 rotate_left
 ·have a:=aL (HV.out _ (S.out.trans (aM tu)) (by decide))
  clear S;go_wp2;go_ret2;exact⟨none,0,by rw[a.out];rfl,by rw[a.out];exact bL _,by rw[a.out];exact Rd.nil,KW⟩
 have S:=aL (S.out.trans (av (by rw[tu];decide)))
 go_wp2_with fail;refine(dw d _ (by omega)).mono ?_
 rintro e w14 ⟨rfl,hD⟩;have Ti:=KW.trans (hD.below (B:=w.heap.size));have YD:=YC.below (hD.below (B:=w13.heap.size)) YC.lt;clear hD KW YC;obtain⟨sd,hsd⟩:∃sd:ByteArray,sd=⟨(Pt.ah d).toArray⟩:=⟨_,rfl⟩;have hsl:sd.data.toList=Pt.ah d.data.toList:=by rw[hsd]
 have hst:Pt.str (Pt.ah d)= .string sd:=by rw[hsd];rfl
 obtain⟨sn,hsn⟩:∃sn,Pt.str (Pt.nameOf d)= .string sn:=⟨_,rfl⟩;rw[hst,hsn];have hlt:sd.size<d.size:=by have:=Tr.aI HDN.out;rw[<-hsl,af,af]at this;exact this
 have S:=aL S.out;rw[<-hsl]at S;clear hsd hsl hst hsn;go_wp2_with fail;refine(a_ A c l sd w14 ((hl.below Ti).more Ti.size) (by omega)).mono ?_
 rintro e w15 ⟨r2,rfl,hr,D⟩;have YE:=Ti.trans (D.mono Ti.size);have aa3:=YD.below D YD.lt;have HR:=aL hr;clear hr D Ti YD;have HN:=aL (show r2.isSome=false->M=6 from λh=>by rw[S.out,ji (by rw[<-HR.out];exact h)];rfl)
 have HK:=aL (show r2.isSome=true->((r2.getD En.zero).k !=2)=true->M=10 from λh h2=>by rw[S.out,jk HR.out h h2];rfl)
 have HG:=aL (show r2.isSome=true->((r2.getD En.zero).k !=2)=false->M=Tr.iV l ⟨xp,xk,xt,xo⟩ d.data.toList from λh h2=>by rw[S.out,lU HR.out h h2];rfl)
 clear HR S;generalize r2.getD En.zero=y at HN HK HG;generalize r2.isSome=ok at HN HK HG;obtain⟨dp,dk,dt,f_⟩:=y;simp only[En.agg,En.cells];dsimp only at HN HK HG;have KX:=YE.alloc YE.size (.cells #[dp,dk,dt,f_] 45);have hx16:=aa3.alloc (.cells #[dp,dk,dt,f_] 45);clear YE aa3
 cases ok
 ·have a:=aL (HV.out _ (HN.out rfl) (by decide))
  go_wp2;go_ret2;exact⟨none,0,by rw[a.out];rfl,by rw[a.out];exact bL _,by rw[a.out];exact Rd.nil,KX⟩
 rcases tk:(dk !=2)with _|_
 rotate_left
 ·have a:=aL (HV.out _ (HK.out rfl tk) (by decide))
  go_wp2;go_ret2;exact⟨none,0,by rw[a.out];rfl,by rw[a.out];exact bL _,by rw[a.out];exact Rd.nil,KX⟩
 have S:=aL (HG.out rfl tk);clear HN HK HG;go_wp2_with fail;generalize w15.alloc (.cells #[dp,dk,dt,f_] 45)=w16 at*;refine(a_ A c l d w16 ((hl.below KX).more KX.size) (by omega)).mono ?_
 rintro e w17 ⟨r3,rfl,hr,D⟩;have VA:=KX.trans (D.mono KX.size);have YF:=hx16.below D hx16.lt;have HR:=aL hr;clear hr D KX hx16;have HN:=aL (show r3.isSome=false->M=0 from λh=>by
  rw[S.out];unfold Tr.iV;rw[<-HR.out];cases r3 with
  |none=>rfl
  |some _=>cases h)
 have HG:=aL (show r3.isSome=true->M=if xk≠2/\(r3.getD En.zero).k=2 then 9 else if xk=2/\(r3.getD En.zero).k≠2 then 10 else if Tr.names l d.data.toList≠[]then 11 else 0 from λh=>by
  rw[S.out];unfold Tr.iV;rw[<-HR.out];cases r3 with
  |none=>cases h
  |some y0=>
   dsimp only[Option.getD];have h5:=Tr.JD RT.out HDN.out HR.out.symm
   by_cases h6:Tr.names l d.data.toList=[]
   ·rw[av (c:=(Tr.list l d).2=0/\_) (λh=>h5.1 h h6),av (c:=Tr.names l d.data.toList≠[]) (λh=>h h6)]
   ·rw[aM (c:=(Tr.list l d).2=0/\_) (h5.2 h6),aM (c:=Tr.names l d.data.toList≠[]) h6])
 clear HR S;generalize r3.getD En.zero=y at HG;generalize r3.isSome=ok at HN HG;obtain⟨F,u,G,E⟩:=y;simp only[En.agg,En.cells];dsimp only at HG;have O:=VA.alloc VA.size (.cells #[F,u,G,E] 45);have aa4:=YF.alloc (.cells #[F,u,G,E] 45);have aa5:=ai.new w17 45 [F,u,G,E]
 cases ok
 ·have KZ:=aL (HN.out rfl)
  clear HN HG VA YF;go_wp2_with fail;generalize w17.alloc (.cells #[F,u,G,E] 45)=w18 at*;refine(eY A c l s w18 ((hl.below O).more O.size) hsz (by omega)).mono ?_
  rintro e Rh ⟨v20,rfl,Es,D⟩;have ET:=O.trans (D.mono O.size);clear D O;obtain⟨A20,c20,rfl,_,Tj⟩:=ag.rd Es;clear Es;have acD:=fF l s;go_wp2_with fail;refine(eY A20 c20 _ d Rh Tj hdz (by omega)).mono ?_
  rintro e w21 ⟨v21,rfl,EU,D⟩;have Tm:=ET.trans (D.mono ET.size);have EU:ag w21 w v21 _:=own_base EU ET.size;clear D ET Tj;have acE:=fF (Tr.outside l s) d;have HGM:=aL (ES.out KZ.out HSD.out);have Ql:=aL (NI.out KZ.out);have VB:=aL (show Tr.Srt (Tr.outside (Tr.outside l s) d)/\Sm (Tr.outside (Tr.outside l s) d)from⟨Tr.aY (Tr.aY RT.out.2.1 _) _,λe H=>HS.out e ((List.mem_filter.1 (List.mem_filter.1 H).1).1)⟩)
  clear ES NI Tf HV KZ;generalize Tr.outside (Tr.outside l s) d.data.toList=B0 at*;go_wp2
  go_loopw [16,99] (λv i wr=>∃k:Nat,k<=l.length/\i= .int .i64 k/\ag wr w v (Tr.aV (Tr.au (l.take k) s d) B0)/\Hid (∀e∈Tr.au (l.take k) s d,Pt.clean e.P=true/\e.t.size<4294967281)/\Below w w wr) (λ_ i _=>l.length- (intOf i).toNat)
  case atStart=>exact⟨0,bL _,rfl,EU,aL (λ_ h=>nomatch h),Tm⟩
  case round=>
   obtain⟨k,hk,rfl,n,HC,hB⟩:=hrel;clear Tm EU
   by_cases hlt:k<l.length
   ·obtain⟨b,o,rfl,D,h0,Z,h2,h3⟩:=(aC.at_ (hl.below hB) hlt)
    have HY:=aL (Tr.oI (s:=s.data.toList) (d:=d.data.toList) hlt);have qi:=aL (Tr.qP (s:=s.data.toList) (d:=d.data.toList) hlt);have j:=aL (Ql.out l[k] (cz hlt));have hle:(Tr.au (l.take k) s d).length<=k:=eT (Tr.BJ _ _ _) (by rw[bR];omega)
    have hzz:=Tr.bV (Tr.entry_clean (RT.out.1 _ (cz hlt)));have VC:=(HS.out.at_ hlt).2
    generalize l[k]=z at h0 Z h2 h3 HY qi j hzz VC;obtain⟨F,u,G,E⟩:=z;have hzz:F.size<=80:=by rw[<-af];exact hzz
    dsimp only at h0 Z h2 h3 VC
    rcases te:(F.toList==s.toList)with _|_
    rotate_left
    ·have hq:F.data.toList=s.data.toList:=by rw[aj]at te;simpa using te
     have hle2:s.size<=F.size:=by
      have:=om List.length hq;rw[af,af]at this;omega
     have HST:Hid (Tr.mv s (⟨F,u,G,E⟩:En).P):=aL (.inl hq);obtain⟨g,I⟩:∃g,g=d++F.extract s.size F.size:=⟨_,rfl⟩;have hnz:g.size<4294967281:=by rw[I];simp;omega
     have HP:Hid (Tr.dH s d ⟨F,u,G,E⟩=⟨g,u,G,E⟩):=aL (by
      refine Tr.qO ?_ rfl rfl rfl
      rw[Tr.yg HST.out,I,<-jW];rfl)
     clear hq;go_wp2_with fail;clear h0 Z h2 h3 D;rw[<-I];clear I;have rM:=ai.new wr 45 [.string g,u,G,E];have N:=hB.alloc hB.size (.cells #[.string g,u,G,E] 45);have Q:ag _ w u16 _:=aH n (.cells #[.string g,u,G,E] 45);clear hB n;generalize wr.alloc (.cells #[.string g,u,G,E] 45)=w5 at*;refine(iD g w5 (by omega)).mono ?_
     rintro e w6 ⟨rfl,L⟩;have K:=N.trans (L.mono N.size);have uk:=rM.below L rM.lt;have nz:ag w6 w u16 _:=own_below Q L aR;clear L N rM Q;obtain⟨y0,y1,y2,y3,yfr,yz⟩:=uk.four
     rcases tc:Pt.clean g with _|_
     ·have a:=aL (j.out HST.out (by rw[HP.out];exact tc))
      clear j HY qi;go_wp2;go_ret2;exact⟨none,0,by rw[a.out];rfl,by rw[a.out];exact bL _,by rw[a.out];exact Rd.nil,K⟩
     have HN:=aL (HY.out HST.out);rw[HP.out]at HN;have uu:=aL (show∀e∈Tr.au (l.take (k+1)) s d,Pt.clean e.P=true/\e.t.size<4294967281 from λe H=>by
      rw[HN.out]at H
      rcases List.mem_append.1 H with H|H
      ·exact HC.out e H
      rw[List.mem_singleton.1 H];exact⟨tc,VC⟩)
     clear j HY qi;obtain⟨A6,c6,hv6,hc6,Tn⟩:=ag.rd nz;subst hv6;have Y:Sm (Tr.aV (Tr.au (l.take k) s d) B0):=λe H=>by
      rcases Tr.iP H with h|h
      ·have Z:=Tr.bV (HC.out e h).1
       have h2:e.P.length=e.p.size:=af e.p;exact⟨by omega,(HC.out e h).2⟩
      exact VB.out.2 e h
     have V:Tr.Srt (Tr.aV (Tr.au (l.take k) s d) B0):=Tr.fD VB.out.1;have U:(Tr.aV (Tr.au (l.take k) s d) B0).length<=4000000:=by
      have Z:=Tr.iy (Tr.au (l.take k) s d) B0;omega
     have cW:=mM A6 c6 _ ⟨g,u,G,E⟩ w6 Tn Y V (by have Z:=Tr.bV tc;rw[af]at Z;show g.size<_;omega) U
     dsimp only at cW;have Qj:Hid (Tr.ins ⟨g,u,G,E⟩ (Tr.aV (Tr.au (l.take k) s d) B0)=Tr.aV (Tr.au (l.take (k+1)) s d) B0):=aL (by rw[HN.out,Tr.je])
     rw[Qj.out]at cW;clear Y V U nz;go_wp2_with fail;refine cW.mono ?_
     rintro e w9 ⟨v9,rfl,oh,D⟩;have jv:=K.trans (D.mono K.size);have oh:ag w9 w v9 _:=own_base oh K.size;clear D cW;go_wp2;go_roundw
     case rel=>exact⟨k+1,by omega,by go_num,oh,uu,jv⟩
     case measure=>simp[intOf];omega
    have hq:¬F.data.toList=s.data.toList:=by rw[aj]at te;simpa using te
    go_wp2_with fail;refine(iC F s _ (by omega)).mono ?_
    rintro e w' ⟨rfl,rfl⟩
    rcases tu:Pt.under F s with _|_
    rotate_left
    ·have hlen:s.size<F.size:=by
      have:=Tr.lN Xo.out tu;rw[af,af]at this;exact this
     have hle2:s.size<=F.size:=nL hlen;have HST:Hid (Tr.mv s (⟨F,u,G,E⟩:En).P):=aL (.inr tu);obtain⟨g,I⟩:∃g,g=d++F.extract s.size F.size:=⟨_,rfl⟩;have hnz:g.size<4294967281:=by rw[I];simp;omega
     have HP:Hid (Tr.dH s d ⟨F,u,G,E⟩=⟨g,u,G,E⟩):=aL (by
      refine Tr.qO ?_ rfl rfl rfl
      rw[Tr.yg HST.out,I,<-jW];rfl)
     clear hq;go_wp2_with fail;clear h0 Z h2 h3 D;rw[<-I];clear I;have rM:=ai.new wr 45 [.string g,u,G,E];have N:=hB.alloc hB.size (.cells #[.string g,u,G,E] 45);have Q:ag _ w u16 _:=aH n (.cells #[.string g,u,G,E] 45);clear hB n;generalize wr.alloc (.cells #[.string g,u,G,E] 45)=w5 at*;refine(iD g w5 (by omega)).mono ?_
     rintro e w6 ⟨rfl,L⟩;have K:=N.trans (L.mono N.size);have uk:=rM.below L rM.lt;have nz:ag w6 w u16 _:=own_below Q L aR;clear L N rM Q;obtain⟨y0,y1,y2,y3,yfr,yz⟩:=uk.four
     rcases tc:Pt.clean g with _|_
     ·have a:=aL (j.out HST.out (by rw[HP.out];exact tc))
      clear j HY qi;go_wp2;go_ret2;exact⟨none,0,by rw[a.out];rfl,by rw[a.out];exact bL _,by rw[a.out];exact Rd.nil,K⟩
     have HN:=aL (HY.out HST.out);rw[HP.out]at HN;have uu:=aL (show∀e∈Tr.au (l.take (k+1)) s d,Pt.clean e.P=true/\e.t.size<4294967281 from λe H=>by
      rw[HN.out]at H
      rcases List.mem_append.1 H with H|H
      ·exact HC.out e H
      rw[List.mem_singleton.1 H];exact⟨tc,VC⟩)
     clear j HY qi;obtain⟨A6,c6,hv6,hc6,Tn⟩:=ag.rd nz;subst hv6;have Y:Sm (Tr.aV (Tr.au (l.take k) s d) B0):=λe H=>by
      rcases Tr.iP H with h|h
      ·have Z:=Tr.bV (HC.out e h).1
       have h2:e.P.length=e.p.size:=af e.p;exact⟨by omega,(HC.out e h).2⟩
      exact VB.out.2 e h
     have V:Tr.Srt (Tr.aV (Tr.au (l.take k) s d) B0):=Tr.fD VB.out.1;have U:(Tr.aV (Tr.au (l.take k) s d) B0).length<=4000000:=by
      have Z:=Tr.iy (Tr.au (l.take k) s d) B0;omega
     have cW:=mM A6 c6 _ ⟨g,u,G,E⟩ w6 Tn Y V (by have Z:=Tr.bV tc;rw[af]at Z;show g.size<_;omega) U
     dsimp only at cW;have Qj:Hid (Tr.ins ⟨g,u,G,E⟩ (Tr.aV (Tr.au (l.take k) s d) B0)=Tr.aV (Tr.au (l.take (k+1)) s d) B0):=aL (by rw[HN.out,Tr.je])
     rw[Qj.out]at cW;clear Y V U nz;go_wp2_with fail;refine cW.mono ?_
     rintro e w9 ⟨v9,rfl,oh,D⟩;have jv:=K.trans (D.mono K.size);have oh:ag w9 w v9 _:=own_base oh K.size;clear D cW;go_wp2;go_roundw
     case rel=>exact⟨k+1,by omega,by go_num,oh,uu,jv⟩
     case measure=>simp[intOf];omega
    have HN:=aL (qi.out (λh=>h.elim hq (λh=>by
     have h:Pt.under F s.data.toList=true:=h;rw[tu]at h;cases h)))
    have N:=hB.alloc hB.size (.cells #[F,u,G,E] 45);have Q:ag _ w u16 _:=aH n (.cells #[F,u,G,E] 45);clear HY qi j hq;go_wp2;go_roundw
    case rel=>exact⟨k+1,by omega,by go_num,by rw[HN.out];exact Q,by rw[HN.out];exact HC,N⟩
    case measure=>simp[intOf];omega
   obtain rfl:k=l.length:=by omega
   rw[gN]at n HC;have a:=aL (HGM.out (λe H=>(HC.out e H).1))
   obtain⟨A6,c6,hv6,hc6,Tn⟩:=ag.rd n;subst hv6;clear n HGM Ql;go_wp2;go_ret2;exact⟨A6,c6,by rw[a.out]<;>rfl,by rw[a.out];exact hc6,by rw[a.out];exact Tn,hB⟩
 have S:=aL (HG.out rfl);clear HN HG VA YF;have q:=aa4.four;obtain⟨y0,y1,y2,y3,yfr,yz⟩:=aa5.four;clear aa4 aa5
 rcases ta:(xk==2)with _|_<;>rcases tb:(u==2)with _|_
 focus
  have ta2:(xk !=2)=true:=by simp[bne,ta]
  have tb2:(u !=2)=true:=by simp[bne,tb]
  have HMN:=aL (S.out.trans ((av (λh=>by rw[h.2]at tb;cases tb)).trans (av (λh=>by rw[h.1]at ta;cases ta))))
 rotate_left
 focus
  have ta2:(xk !=2)=true:=by simp[bne,ta]
  have tb2:(u !=2)=false:=by simp[bne,tb]
  have a:=aL (HV.out _ (S.out.trans (aM ⟨by simpa using ta2,by simpa using tb⟩)) (by decide))
  clear S;go_wp2;go_ret2;exact⟨none,0,by rw[a.out];rfl,by rw[a.out];exact bL _,by rw[a.out];exact Rd.nil,O⟩
 focus
  have ta2:(xk !=2)=false:=by simp[bne,ta]
  have tb2:(u !=2)=true:=by simp[bne,tb]
  have a:=aL (HV.out _ (S.out.trans ((av (λh=>by rw[h.2]at tb;cases tb)).trans (aM ⟨by simpa using ta,by simpa using tb2⟩))) (by decide))
  clear S;go_wp2;go_ret2;exact⟨none,0,by rw[a.out];rfl,by rw[a.out];exact bL _,by rw[a.out];exact Rd.nil,O⟩
 focus
  have ta2:(xk !=2)=false:=by simp[bne,ta]
  have tb2:(u !=2)=false:=by simp[bne,tb]
  have HMN:=aL (S.out.trans ((av (λh=>h.1 (by simpa using ta))).trans (av (λh=>h.2 (by simpa using tb)))))
 all_goals
  clear S;go_wp2_with fail;generalize w17.alloc (.cells #[F,u,G,E] 45)=w18 at*;refine(o6 A c l d w18 ((hl.below O).more O.size) HS.out (by omega)).mono ?_
  rintro e w19 ⟨v5,rfl,Q,D⟩;have PL:=O.trans (D.mono O.size);clear D O;obtain⟨A5,c5,rfl,_⟩:=aT.form Q;clear Q
  rcases hnm:Tr.names l d with _|⟨n0,nr⟩
  ·have KZ:=aL (HMN.out.trans (av (λh=>h hnm)))
   rw[show([]:List Pt.Bs).length=0 from rfl]
   clear HMN hnm;go_wp2_with fail;refine(eY A c l s w19 ((hl.below PL).more PL.size) hsz (by omega)).mono ?_
   rintro e Rh ⟨v20,rfl,Es,D⟩;have ET:=PL.trans (D.mono PL.size);clear D PL;obtain⟨A20,c20,rfl,_,Tj⟩:=ag.rd Es;clear Es;have acD:=fF l s;go_wp2_with fail;refine(eY A20 c20 _ d Rh Tj hdz (by omega)).mono ?_
   rintro e w21 ⟨v21,rfl,EU,D⟩;have Tm:=ET.trans (D.mono ET.size);have EU:ag w21 w v21 _:=own_base EU ET.size;clear D ET Tj;have acE:=fF (Tr.outside l s) d;have HGM:=aL (ES.out KZ.out HSD.out);have Ql:=aL (NI.out KZ.out);have VB:=aL (show Tr.Srt (Tr.outside (Tr.outside l s) d)/\Sm (Tr.outside (Tr.outside l s) d)from⟨Tr.aY (Tr.aY RT.out.2.1 _) _,λe H=>HS.out e ((List.mem_filter.1 (List.mem_filter.1 H).1).1)⟩)
   clear ES NI Tf HV KZ;generalize Tr.outside (Tr.outside l s) d.data.toList=B0 at*;go_wp2
   go_loopw [16,99] (λv i wr=>∃k:Nat,k<=l.length/\i= .int .i64 k/\ag wr w v (Tr.aV (Tr.au (l.take k) s d) B0)/\Hid (∀e∈Tr.au (l.take k) s d,Pt.clean e.P=true/\e.t.size<4294967281)/\Below w w wr) (λ_ i _=>l.length- (intOf i).toNat)
   case atStart=>exact⟨0,bL _,rfl,EU,aL (λ_ h=>nomatch h),Tm⟩
   case round=>
    obtain⟨k,hk,rfl,n,HC,hB⟩:=hrel;clear Tm EU
    by_cases hlt:k<l.length
    ·obtain⟨b,o,rfl,D,h0,Z,h2,h3⟩:=(aC.at_ (hl.below hB) hlt)
     have HY:=aL (Tr.oI (s:=s.data.toList) (d:=d.data.toList) hlt);have qi:=aL (Tr.qP (s:=s.data.toList) (d:=d.data.toList) hlt);have j:=aL (Ql.out l[k] (cz hlt));have hle:(Tr.au (l.take k) s d).length<=k:=eT (Tr.BJ _ _ _) (by rw[bR];omega)
     have hzz:=Tr.bV (Tr.entry_clean (RT.out.1 _ (cz hlt)));have VC:=(HS.out.at_ hlt).2
     generalize l[k]=z at h0 Z h2 h3 HY qi j hzz VC;obtain⟨F,u,G,E⟩:=z;have hzz:F.size<=80:=by rw[<-af];exact hzz
     dsimp only at h0 Z h2 h3 VC
     rcases te:(F.toList==s.toList)with _|_
     rotate_left
     ·have hq:F.data.toList=s.data.toList:=by rw[aj]at te;simpa using te
      have hle2:s.size<=F.size:=by
       have:=om List.length hq;rw[af,af]at this;omega
      have HST:Hid (Tr.mv s (⟨F,u,G,E⟩:En).P):=aL (.inl hq);obtain⟨g,I⟩:∃g,g=d++F.extract s.size F.size:=⟨_,rfl⟩;have hnz:g.size<4294967281:=by rw[I];simp;omega
      have HP:Hid (Tr.dH s d ⟨F,u,G,E⟩=⟨g,u,G,E⟩):=aL (by
       refine Tr.qO ?_ rfl rfl rfl
       rw[Tr.yg HST.out,I,<-jW];rfl)
      clear hq;go_wp2_with fail;clear h0 Z h2 h3 D;rw[<-I];clear I;have rM:=ai.new wr 45 [.string g,u,G,E];have N:=hB.alloc hB.size (.cells #[.string g,u,G,E] 45);have Q:ag _ w u16 _:=aH n (.cells #[.string g,u,G,E] 45);clear hB n;generalize wr.alloc (.cells #[.string g,u,G,E] 45)=w5 at*;refine(iD g w5 (by omega)).mono ?_
      rintro e w6 ⟨rfl,L⟩;have K:=N.trans (L.mono N.size);have uk:=rM.below L rM.lt;have nz:ag w6 w u16 _:=own_below Q L aR;clear L N rM Q;obtain⟨y0,y1,y2,y3,yfr,yz⟩:=uk.four
      rcases tc:Pt.clean g with _|_
      ·have a:=aL (j.out HST.out (by rw[HP.out];exact tc))
       clear j HY qi;go_wp2;go_ret2;exact⟨none,0,by rw[a.out];rfl,by rw[a.out];exact bL _,by rw[a.out];exact Rd.nil,K⟩
      have HN:=aL (HY.out HST.out);rw[HP.out]at HN;have uu:=aL (show∀e∈Tr.au (l.take (k+1)) s d,Pt.clean e.P=true/\e.t.size<4294967281 from λe H=>by
       rw[HN.out]at H
       rcases List.mem_append.1 H with H|H
       ·exact HC.out e H
       rw[List.mem_singleton.1 H];exact⟨tc,VC⟩)
      clear j HY qi;obtain⟨A6,c6,hv6,hc6,Tn⟩:=ag.rd nz;subst hv6;have Y:Sm (Tr.aV (Tr.au (l.take k) s d) B0):=λe H=>by
       rcases Tr.iP H with h|h
       ·have Z:=Tr.bV (HC.out e h).1
        have h2:e.P.length=e.p.size:=af e.p;exact⟨by omega,(HC.out e h).2⟩
       exact VB.out.2 e h
      have V:Tr.Srt (Tr.aV (Tr.au (l.take k) s d) B0):=Tr.fD VB.out.1;have U:(Tr.aV (Tr.au (l.take k) s d) B0).length<=4000000:=by
       have Z:=Tr.iy (Tr.au (l.take k) s d) B0;omega
      have cW:=mM A6 c6 _ ⟨g,u,G,E⟩ w6 Tn Y V (by have Z:=Tr.bV tc;rw[af]at Z;show g.size<_;omega) U
      dsimp only at cW;have Qj:Hid (Tr.ins ⟨g,u,G,E⟩ (Tr.aV (Tr.au (l.take k) s d) B0)=Tr.aV (Tr.au (l.take (k+1)) s d) B0):=aL (by rw[HN.out,Tr.je])
      rw[Qj.out]at cW;clear Y V U nz;go_wp2_with fail;refine cW.mono ?_
      rintro e w9 ⟨v9,rfl,oh,D⟩;have jv:=K.trans (D.mono K.size);have oh:ag w9 w v9 _:=own_base oh K.size;clear D cW;go_wp2;go_roundw
      case rel=>exact⟨k+1,by omega,by go_num,oh,uu,jv⟩
      case measure=>simp[intOf];omega
     have hq:¬F.data.toList=s.data.toList:=by rw[aj]at te;simpa using te
     go_wp2_with fail;refine(iC F s _ (by omega)).mono ?_
     rintro e w' ⟨rfl,rfl⟩
     rcases tu:Pt.under F s with _|_
     rotate_left
     ·have hlen:s.size<F.size:=by
       have:=Tr.lN Xo.out tu;rw[af,af]at this;exact this
      have hle2:s.size<=F.size:=nL hlen;have HST:Hid (Tr.mv s (⟨F,u,G,E⟩:En).P):=aL (.inr tu);obtain⟨g,I⟩:∃g,g=d++F.extract s.size F.size:=⟨_,rfl⟩;have hnz:g.size<4294967281:=by rw[I];simp;omega
      have HP:Hid (Tr.dH s d ⟨F,u,G,E⟩=⟨g,u,G,E⟩):=aL (by
       refine Tr.qO ?_ rfl rfl rfl
       rw[Tr.yg HST.out,I,<-jW];rfl)
      clear hq;go_wp2_with fail;clear h0 Z h2 h3 D;rw[<-I];clear I;have rM:=ai.new wr 45 [.string g,u,G,E];have N:=hB.alloc hB.size (.cells #[.string g,u,G,E] 45);have Q:ag _ w u16 _:=aH n (.cells #[.string g,u,G,E] 45);clear hB n;generalize wr.alloc (.cells #[.string g,u,G,E] 45)=w5 at*;refine(iD g w5 (by omega)).mono ?_
      rintro e w6 ⟨rfl,L⟩;have K:=N.trans (L.mono N.size);have uk:=rM.below L rM.lt;have nz:ag w6 w u16 _:=own_below Q L aR;clear L N rM Q;obtain⟨y0,y1,y2,y3,yfr,yz⟩:=uk.four
      rcases tc:Pt.clean g with _|_
      ·have a:=aL (j.out HST.out (by rw[HP.out];exact tc))
       clear j HY qi;go_wp2;go_ret2;exact⟨none,0,by rw[a.out];rfl,by rw[a.out];exact bL _,by rw[a.out];exact Rd.nil,K⟩
      have HN:=aL (HY.out HST.out);rw[HP.out]at HN;have uu:=aL (show∀e∈Tr.au (l.take (k+1)) s d,Pt.clean e.P=true/\e.t.size<4294967281 from λe H=>by
       rw[HN.out]at H
       rcases List.mem_append.1 H with H|H
       ·exact HC.out e H
       rw[List.mem_singleton.1 H];exact⟨tc,VC⟩)
      clear j HY qi;obtain⟨A6,c6,hv6,hc6,Tn⟩:=ag.rd nz;subst hv6;have Y:Sm (Tr.aV (Tr.au (l.take k) s d) B0):=λe H=>by
       rcases Tr.iP H with h|h
       ·have Z:=Tr.bV (HC.out e h).1
        have h2:e.P.length=e.p.size:=af e.p;exact⟨by omega,(HC.out e h).2⟩
       exact VB.out.2 e h
      have V:Tr.Srt (Tr.aV (Tr.au (l.take k) s d) B0):=Tr.fD VB.out.1;have U:(Tr.aV (Tr.au (l.take k) s d) B0).length<=4000000:=by
       have Z:=Tr.iy (Tr.au (l.take k) s d) B0;omega
      have cW:=mM A6 c6 _ ⟨g,u,G,E⟩ w6 Tn Y V (by have Z:=Tr.bV tc;rw[af]at Z;show g.size<_;omega) U
      dsimp only at cW;have Qj:Hid (Tr.ins ⟨g,u,G,E⟩ (Tr.aV (Tr.au (l.take k) s d) B0)=Tr.aV (Tr.au (l.take (k+1)) s d) B0):=aL (by rw[HN.out,Tr.je])
      rw[Qj.out]at cW;clear Y V U nz;go_wp2_with fail;refine cW.mono ?_
      rintro e w9 ⟨v9,rfl,oh,D⟩;have jv:=K.trans (D.mono K.size);have oh:ag w9 w v9 _:=own_base oh K.size;clear D cW;go_wp2;go_roundw
      case rel=>exact⟨k+1,by omega,by go_num,oh,uu,jv⟩
      case measure=>simp[intOf];omega
     have HN:=aL (qi.out (λh=>h.elim hq (λh=>by
      have h:Pt.under F s.data.toList=true:=h;rw[tu]at h;cases h)))
     have N:=hB.alloc hB.size (.cells #[F,u,G,E] 45);have Q:ag _ w u16 _:=aH n (.cells #[F,u,G,E] 45);clear HY qi j hq;go_wp2;go_roundw
     case rel=>exact⟨k+1,by omega,by go_num,by rw[HN.out];exact Q,by rw[HN.out];exact HC,N⟩
     case measure=>simp[intOf];omega
    obtain rfl:k=l.length:=by omega
    rw[gN]at n HC;have a:=aL (HGM.out (λe H=>(HC.out e H).1))
    obtain⟨A6,c6,hv6,hc6,Tn⟩:=ag.rd n;subst hv6;clear n HGM Ql;go_wp2;go_ret2;exact⟨A6,c6,by rw[a.out]<;>rfl,by rw[a.out];exact hc6,by rw[a.out];exact Tn,hB⟩
  have a:=aL (HV.out _ (HMN.out.trans (aM (by rw[hnm];exact List.cons_ne_nil _ _))) (by decide))
  obtain⟨MM,hMM⟩:∃MM,MM=(n0::nr).length:=⟨_,rfl⟩;have hpos:(0:Int)<(MM:Int):=by rw[hMM,gL];omega
  rw[<-hMM];clear HMN hnm hMM;go_wp2;go_ret2;exact⟨none,0,by rw[a.out];rfl,by rw[a.out];exact bL _,by rw[a.out];exact Rd.nil,PL⟩
end Go.Proofs.YtjppfhgkanbemabGreatDoor
