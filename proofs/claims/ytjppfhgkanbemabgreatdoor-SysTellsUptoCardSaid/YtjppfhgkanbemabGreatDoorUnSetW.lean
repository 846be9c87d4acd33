/- A part of the proof of SysTells: UnSetW. -/
import Derived.Test.YtjppfhgkanbemabGreatDoorMI
import Derived.Test.YtjppfhgkanbemabGreatDoorMH
import Derived.BigRegion
import Derived.Deep.RegionWith
set_option maxHeartbeats 8000000
set_option maxRecDepth 100000
set_option linter.all false
namespace Go.Proofs.YtjppfhgkanbemabGreatDoor
open Tryz
open Go.RowKit Go.Shelf Go.Sort
theorem Tr.xO:∀(n:Nat) {U:List En} {e:En},Tr.Srt U->(∀x∈U,x.P≠[])->e.P≠[]->Sm U->e.p.size<4294967281->e.t.size<4294967281->Sm (Tr.jL n U e)
 |0,U,e,hU,_,_,hs,h1,h2=>λx hx=>by
  rcases(Tr.dG hU x).1 hx with rfl|⟨h,_⟩
  ·have hp:(Tr.adj U e).p=e.p:=by unfold Tr.adj;split<;>(try split)<;>rfl
   rw[hp,Tr.Qq];exact⟨h1,h2⟩
  ·exact hs x h
 |n+1,U,e,hU,hn,he,hs,h1,h2=>λx hx=>by
  unfold Tr.jL at hx;have hp:∀X,(Tr.adj X e).p=e.p:=λX=>by unfold Tr.adj;split<;>(try split)<;>rfl
  by_cases a:Pt.ah e.P≠[]/\Tr.jA U (Pt.ah e.P)=false
  ·rw[aM a]at hx
   obtain⟨b,_⟩:=Tr.tX n (U:=U) (e:=Tr.eP (Pt.ah e.P)) hU hn a.1
   rcases(Tr.dG b x).1 hx with rfl|⟨h,_⟩
   ·rw[hp,Tr.Qq];exact⟨h1,h2⟩
   ·refine Tr.xO n (e:=Tr.eP (Pt.ah e.P)) hU hn a.1 hs ?_ (by show(0:Nat)<4294967281;decide) x h
    have c:=Tr.aI he;have g:e.P.length=e.p.size:=af e.p
    show(Pt.ah e.P).length<_
    omega
  ·rw[av a]at hx
   rcases(Tr.dG hU x).1 hx with rfl|⟨h,_⟩
   ·rw[hp,Tr.Qq];exact⟨h1,h2⟩
   ·exact hs x h
theorem QY{U:List En}{d:Pt.Bs}{r:Option En}(h:r=Tr.get U d):Tr.jA U d=(r.isSome&&(r.getD En.zero).k==2):=by
 unfold Tr.jA;rw[<-h];cases r<;>rfl
structure lV(g:Nat)(row row':Option Nat)(w w':World):Prop where
 os:w'.os=w.os
 tape:w'.tape=w.tape
 output:w'.output=w.output
 size:w.heap.size<=w'.heap.size
 block:∀k,k<w.heap.size->k≠g->some k≠row->w'.heap[k]? =w.heap[k]?
 at_:∀k,row'=some k->row=some k\/w.heap.size<=k
theorem lV.of{g:Nat}{row:Option Nat}{w w':World}{B:Nat}(h:Below B w w')(hB:w.heap.size<=B):lV g row row w w':=⟨h.os,h.tape,h.output,h.size,λk a _ _=>h.block k (by omega),λ_ h=> .inl h⟩
theorem lV.set(g:Nat)(row:Option Nat)(w:World)(i:Nat)(u:Value):lV g row row w (w.setCell ⟨g,i,none⟩ u):=
 ⟨rfl,rfl,rfl,by simp,λk _ a _=>mh w ⟨g,i,none⟩ u k a,λ_ h=> .inl h⟩
theorem lV.trans{g:Nat}{r1 r2 r3:Option Nat}{a b c:World}(h:lV g r1 r2 a b)(k:lV g r2 r3 b c):lV g r1 r3 a c:=
 ⟨k.os.trans h.os,k.tape.trans h.tape,k.output.trans h.output,eT h.size k.size,λi l j m=>by
  have n:some i≠r2:=λe=>by
   rcases h.at_ i e.symm with e|e
   ·exact m e.symm
   ·omega
  exact(k.block i (bE l h.size) j n).trans (h.block i l j m),λi e=>by
  rcases k.at_ i e with e|e
  ·exact h.at_ i e
  ·exact .inr (eT h.size e)⟩
theorem lV.grown{g:Nat}{w w':World}{row row':Option Nat}(h:w.grownBy w' row)(ha:∀k,row'=some k->row=some k\/w.heap.size<=k):lV g row row' w w':=⟨h.os,h.tape,h.output,h.size,λk a _ b=>h.block k a b,ha⟩
theorem lV.sJ{g B:Nat}{row row':Option Nat}{w w':World}(h:lV g row row' w w')(hB:B<=w.heap.size)(hr:∀k,row=some k->B<=k):bC B g w w':=
 ⟨h.os,h.tape,h.output,h.size,λk b a=>h.block k (by omega) a (λe=>by have:=hr k e.symm;omega)⟩
theorem lV.fresh{g:Nat}{row row':Option Nat}{w w':World}(h:lV g row row' w w'){p:Addr}(hp:w.heap.size<=p.block)(u:Value):lV g row row' w (w'.setCell p u):=
 ⟨h.os,h.tape,h.output,by simpa using h.size,λk b a c=>(mh w' p u k (by omega)).trans (h.block k b a c),h.at_⟩
theorem lV.drew{g:Nat}{row row':Option Nat}{w w':World}(h:lV g row row' w w'):lV g row row' w w'.drew:=⟨h.os,h.tape,h.output,h.size,h.block,h.at_⟩
theorem lV.drewN{g:Nat}{row row':Option Nat}{w w':World}(h:lV g row row' w w')(n:Nat):lV g row row' w (w'.drewN n):=⟨h.os,h.tape,h.output,h.size,h.block,h.at_⟩
theorem ai.Wn{w w':World}{g k:Nat}{row row':Option Nat}{t:TypeId}{cs:List Value}(h:ai w k t cs)(hb:lV g row row' w w')(hg:k≠g)(hr:some k≠row):ai w' k t cs:=(hb.block k h.lt hg hr).trans h
theorem nK{w:World}{base:Nat}{e:TypeId}{size n:Nat}{v:Value}{xs:List Value}(h:w.ownsRow base e size v n xs):∀k,v.ownBlock=some k->base<=k:=λk a=>(gH h k a).1
theorem Tr.GG{U:List En}{e:En}(h:Tr.get U e.P=none):Tr.set1 U e=Tr.ins e U:=by
 unfold Tr.set1 Tr.adj;rw[h]
theorem Tr.MX{U:List En}{e y:En}(h:Tr.get U e.P=some y)(hk:e.k=2):Tr.set1 U e=Tr.ins ⟨e.p,e.k,e.t,y.o||y.k==4⟩ U:=by
 unfold Tr.set1 Tr.adj;rw[h];dsimp only;rw[aM hk]
theorem Tr.Dc{U:List En}{e y:En}(h:Tr.get U e.P=some y)(hk:e.k≠2):Tr.set1 U e=Tr.ins e U:=by
 unfold Tr.set1 Tr.adj;rw[h];dsimp only;rw[av hk]
def zl(gc base:Nat)(x1 x2 x3 vU:Value)(U':List En)(w:World)(r:Ending)(w':World):Prop:=
 r= .returned (.tuple #[])/\∃v',ai w' gc 90 [v',x1,x2,x3]/\ag w' base v' U'/\lV gc vU.ownBlock v'.ownBlock w w'
theorem set_any:∀(n gc base:Nat) (x1 x2 x3 vU:Value) (U:List En) (e:En) (w:World),ai w gc 90 [vU,x1,x2,x3]->ag w base vU U->gc<base->base<=w.heap.size->Tr.Srt U->(∀x∈U,x.P≠[])->Sm U->e.P≠[]->e.P.length<=n->e.p.size<4294967281->e.t.size<4294967281->U.length+n<=900000->
  Calls prog 46 #[.pointer gc,e.agg] w (zl gc base x1 x2 x3 vU (Tr.dR U e) w):=by
 intro n
 induction n with
 |zero=>
  intro gc base x1 x2 x3 vU U e w _ _ _ _ _ _ _ S h2;exact absurd (List.length_eq_zero_iff.1 (Nat.le_zero.1 h2)) S
 |succ n ih=>
 intro gc base x1 x2 x3 vU U e w hc0 ho0 hgb hbw hsrt QZ hsm Z9 hen Z_ het hlen;have UJ:=aL hsrt;have Qb:=aL QZ;have lG:=aL hsm;have V:=aL Z9;have Xv:=aL hen;clear hsrt QZ hsm Z9 hen;unfold zl;have HX:=aL (Tr.Me U e);obtain⟨F,hres⟩:∃F,F=Tr.dR U e:=⟨_,rfl⟩;rw[<-hres]at HX;rw[<-hres];clear hres;obtain⟨X,hX⟩:∃X,X=if Pt.ah e.P≠[]/\Tr.jA U (Pt.ah e.P)=false then Tr.dR U (Tr.eP (Pt.ah e.P))else U:=⟨_,rfl⟩
 rw[<-hX]at HX;have HXL:Hid (X.length<=900000):=aL (by
  rw[hX]
  split
  ·have S:=Tr.xM U (Tr.eP (Pt.ah e.P))
   have h2:=Tr.aI V.out;have h3:=Xv.out;rw[Tr.lD]at S;omega
  omega)
 have Z:Hid (Tr.Srt X/\Sm X):=aL (by
  rw[hX]
  split
  ·rename_i hc
   refine⟨(Tr.tY (e:=Tr.eP (Pt.ah e.P)) UJ.out Qb.out hc.1).1,Tr.xO _ (e:=Tr.eP (Pt.ah e.P)) UJ.out Qb.out hc.1 lG.out ?_ (by show(0:Nat)<4294967281;decide)⟩
   have h2:=Tr.aI V.out;have a1:e.P.length=e.p.size:=af e.p
   show(Pt.ah e.P).length<_
   omega
  exact⟨UJ.out,lG.out⟩)
 have l:=aL hX;clear hX;obtain⟨a,c,i,j⟩:=e;have hPe:(⟨a,c,i,j⟩:En).P=a.data.toList:=rfl;rw[hPe]at l V Xv;dsimp only at Z_ het;simp only[En.agg,En.cells];have hge:w.heap.size=w.heap.size:=rfl;have hb1:=lV.of (g:=gc) (row:=vU.ownBlock) ((aa w w).alloc aR (.cells #[a,c,i,j] 45)) aR;have hc1:=hc0.alloc (.cells #[a,c,i,j] 45);have ho1:ag _ base vU U:=aH ho0 (.cells #[a,c,i,j] 45);have he1:=ai.new w 45 [a,c,i,j];have hvo:some w.heap.size≠vU.ownBlock:=own_ne ho0 (.inr aR);have hvb:=nK ho0;clear hc0 ho0;obtain⟨rU,Q⟩:∃rU,rU=vU.ownBlock:=⟨_,rfl⟩;rw[<-Q]at hb1 hvo hvb ⊢;go_enter func46,ntmps46;go_upto_region 1 with fail
 have hs1:base<=(w.alloc (.cells #[a,c,i,j] 45)).heap.size:=eT hbw hb1.size;generalize w.alloc (.cells #[a,c,i,j] 45)=w1 at*;obtain⟨e0,e1,e2,e3,ef,ez⟩:=he1.four;go_wp2_with fail;clear e0 e1 e2 e3 ef ez;refine(jC a _ (by omega)).mono ?_
 rintro e w2 ⟨rfl,hD⟩;have hb2:=hb1.trans (lV.of (hD.below (B:=w1.heap.size)) aR);have hc2:=hc1.below (hD.below (B:=w1.heap.size)) hc1.lt;have he2:=he1.below (hD.below (B:=w1.heap.size)) he1.lt;have ho2:ag w2 base vU U:=own_below ho1 (hD.below (B:=w1.heap.size)) aR;have hs2:=eT hs1 (hD.below (B:=w1.heap.size)).size;clear hD hb1 hc1 he1 ho1 hs1;obtain⟨H,hsd⟩:∃H:ByteArray,H=⟨(Pt.ah a).toArray⟩:=⟨_,rfl⟩;have hsl:H.data.toList=Pt.ah a.data.toList:=by rw[hsd]
 have hst:Pt.str (Pt.ah a)= .string H:=by rw[hsd];rfl
 obtain⟨sn,hsn⟩:∃sn,Pt.str (Pt.nameOf a)= .string sn:=⟨_,rfl⟩;rw[hst,hsn];have hlt:H.size<a.size:=by have:=Tr.aI V.out;rw[<-hsl,af,af]at this;exact this
 have l:=aL l.out;rw[<-hsl]at l;have Xw:Tr.eP (Pt.ah a)=⟨H,2,⟨#[]⟩,false⟩:=by rw[hsd];rfl
 have hDL:(Pt.ah a).length<=n:=by have:=Tr.aI V.out;have:=Xv.out;omega
 rw[<-hsl]at Xw hDL;rw[Xw]at l;have hse:H=⟨(H.data.toList).toArray⟩:=by simp
 clear hsd hsl hst hsn Xw;have hgw:w.heap.size≠gc:=by omega
 go_upto_if 17 with fail
 go_cut [] (λwx=>∃v,ai wx gc 90 [v,x1,x2,x3]/\ag wx base v X/\ai wx w 45 [a,c,i,j]/\lV gc rU v.ownBlock w wx/\some w.heap.size≠v.ownBlock)
 case first=>
  obtain⟨A,cU,hvU,hcU,hrd⟩:=ag.rd ho2;have hb2:lV gc rU vU.ownBlock w w2:=by rw[<-Q];exact hb2
  subst hvU;obtain⟨k0,k1,k2,k3,kf,kz⟩:=hc2.four
  rcases aG H with⟨hE,g1,g2⟩|⟨hE,g1,g2⟩
  ·have HXU:Hid (X=U):=aL (l.out.trans (av λh=>h.1 hE))
   clear l hE;have hbb:(!H.toList.isEmpty)=false:=by rw[g2];rfl
   rw[hbb];go_wp2;go_meet
   case rel=>exact⟨_,hc2,by rw[HXU.out];exact ho2,he2,hb2,by rw[<-Q];exact hvo⟩
  have HEE:=aL hE;clear hE;have hbb:(!H.toList.isEmpty)=true:=by rw[g2];rfl
  rw[hbb];go_wp2_with fail;clear k0 k1 k2 k3 kf kz;refine(get_any A cU U H w2 hrd lG.out (by omega) (by omega)).mono ?_
  rintro e w3 ⟨r,rfl,hr,hb⟩;have hb3:=hb2.trans (lV.of hb aR);have hc3:=hc2.below hb hc2.lt;have he3:=he2.below hb he2.lt;have ho3:ag w3 base (.slice A U.length cU) U:=own_below ho2 hb aR;have hs3:=eT hs2 hb.size;have HD:=aL (QY (hr.2 (.inl UJ.out)));clear hr hb hb2 hc2 he2 ho2 hs2 hrd;have N:=aL (show r.isSome=true->((r.getD En.zero).k !=2)=false->X=U from λS h2=>l.out.trans (av λh=>by
   have h3:=h.2;rw[HD.out,S,Bool.true_and]at h3;simp at h2 h3;exact h3 h2))
  have Qc:=aL (show r.isSome=false->X=Tr.dR U ⟨H,2,⟨#[]⟩,false⟩from λS=>l.out.trans (aM ⟨HEE.out,by rw[HD.out,S];rfl⟩))
  have HX3:=aL (show((r.getD En.zero).k !=2)=true->X=Tr.dR U ⟨H,2,⟨#[]⟩,false⟩from λS=>l.out.trans (aM ⟨HEE.out,by rw[HD.out];simp at S ⊢;intro _;exact S⟩))
  clear HD l;generalize r.getD En.zero=d at N HX3;generalize r.isSome=ok at N Qc;obtain⟨dp,dk,dt,M⟩:=d;simp only[En.agg,En.cells];dsimp only at N Qc HX3;have hb4:=hb3.trans (lV.of ((aa w3 w3).alloc aR (.cells #[dp,dk,dt,M] 45)) aR);have hc4:=hc3.alloc (.cells #[dp,dk,dt,M] 45);have he4:=he3.alloc (.cells #[dp,dk,dt,M] 45);have dI:ag _ base (.slice A U.length cU) U:=aH ho3 (.cells #[dp,dk,dt,M] 45);have hs4:base<=(w3.alloc (.cells #[dp,dk,dt,M] 45)).heap.size:=by rw[bX];omega
  have hv4:some w.heap.size≠(Value.slice A U.length cU).ownBlock:=by rw[<-Q];exact hvo
  clear hb3 hc3 he3 ho3;have cI:∀W,ai W gc 90 [.slice A U.length cU,x1,x2,x3]->ag W base (.slice A U.length cU) U->base<=W.heap.size->Calls prog 46 #[.pointer gc,.agg #[H,(2:Int),Qs.e,false]] W (zl gc base x1 x2 x3 (.slice A U.length cU) (Tr.dR U ⟨H,2,⟨#[]⟩,false⟩) W):=λW S h2 h3=>
   ih gc base x1 x2 x3 (.slice A U.length cU) U ⟨H,2,⟨#[]⟩,false⟩ W S h2 hgb h3 UJ.out Qb.out lG.out HEE.out hDL (by show H.size<_;omega) (by show(0:Nat)<4294967281;decide) (by omega)
  cases ok
  ·have Wl:=aL (Qc.out rfl)
   clear N Qc HX3;go_wp2_with fail;clear hs3;generalize w3.alloc (.cells #[dp,dk,dt,M] 45)=w4 at*;refine(cI w4 hc4 dI hs4).mono ?_
   rintro e w5 ⟨rfl,v5,G,L,u⟩;go_wp2;go_meet
   case rel=>exact⟨v5,G,by rw[Wl.out];exact L,he4.Wn u hgw hv4,hb4.trans u,λe=>by
    rcases u.at_ _ e.symm with h|h
    ·exact hv4 h.symm
    have:=he4.lt;omega⟩
  rcases tk:(dk !=2)with _|_
  ·have Wl:=aL (N.out rfl tk)
   clear N Qc HX3 cI;go_wp2;go_meet
   case rel=>exact⟨_,hc4,by rw[Wl.out];exact dI,he4,hb4,hv4⟩
  have Wl:=aL (HX3.out tk);clear N Qc HX3;go_wp2_with fail;clear hs3;generalize w3.alloc (.cells #[dp,dk,dt,M] 45)=w4 at*;refine(cI w4 hc4 dI hs4).mono ?_
  rintro e w5 ⟨rfl,v5,G,L,u⟩;go_wp2;go_meet
  case rel=>exact⟨v5,G,by rw[Wl.out];exact L,he4.Wn u hgw hv4,hb4.trans u,λe=>by
   rcases u.at_ _ e.symm with h|h
   ·exact hv4 h.symm
   have:=he4.lt;omega⟩
 case rest=>
  clear hb2 hc2 ho2 he2 hs2 l;obtain⟨v,G,L,Jo,u,aab⟩:=hcut;generalize wc=wA at*;have hs5:w.heap.size<=wA.heap.size:=u.size;obtain⟨A,cX,hvX,hcX,hrd⟩:=ag.rd L;subst hvX;obtain⟨k0,k1,k2,k3,kf,kz⟩:=G.four;obtain⟨e0,e1,e2,e3,ef,ez⟩:=Jo.four;have hxl:=HXL.out;go_upto_region 6 with fail
  go_cut [8,9] (λkv bv wx=>∃(k:Nat) (b:Bool),kv= .int .i64 k/\bv= .bool b/\oK X a k b/\ai wx gc 90 [.slice A X.length cX,x1,x2,x3]/\ag wx base (.slice A X.length cX) X/\ai wx w 45 [a,c,i,j]/\lV gc rU (Value.slice A X.length cX).ownBlock w wx)
  case first=>
   go_region_held3 (λW=>W.cell? gc=some (.slice A X.length cX)/\W.cell? w.heap.size=some (.string a)) (first|exact⟨k0,e0⟩|exact hS6|go_keep) (first|(go_at_call 40;refine(l_ A cX X a _ (by exact hrd) Z.out.2 Z_ (by omega)).mono ?_;rintro e E ⟨k,b,rfl,hf,hb⟩;have hS6:E.cell? gc=some (.slice A X.length cX)/\E.cell? w.heap.size=some (.string a):=⟨(hb.cell (p:=gc) G.lt).trans k0,(hb.cell (p:=w.heap.size) Jo.lt).trans e0⟩))
   all_goals
    go_wp2;go_meet
    case rel=>
     have hb':Below wA wA E:=((aa _ wA).drew).trans hb;exact⟨k,b,rfl,rfl,hf,G.below hb' G.lt,own_below L hb' aR,Jo.below hb' Jo.lt,u.trans (lV.of hb' aR)⟩
  case rest=>
   clear k0 k1 k2 k3 kf kz e0 e1 e2 e3 ef ez u G Jo L hs5 hrd;obtain⟨k,b,rfl,rfl,hf,hc6,m,J4,hb6⟩:=hcut;generalize wc=E at*;have hs6:w.heap.size<=E.heap.size:=hb6.size;have hkl:=hf.1;have hfg:=l7 hf Z.out.1 V.out;obtain⟨k0,k1,k2,k3,kf,kz⟩:=hc6.four;obtain⟨e0,e1,e2,e3,ef,ez⟩:=J4.four;have adt:=nK m
   cases b
   ·have HR:Hid (F=dE X k ⟨a,c,i,j⟩):=aL (by
     rw[HX.out,Tr.GG (hfg.2 rfl)];exact QK hkl (hf.2.2 Z.out.1).1 (hf.2.2 Z.out.1).2.1 ((hf.2.2 Z.out.1).2.2 rfl))
    clear hf hfg;have hx7:=ai.new E 45 [a,c,i,j];have hb7:=hb6.trans (lV.of ((aa E E).alloc aR (.cells #[a,c,i,j] 45)) aR);have C_:=hc6.alloc (.cells #[a,c,i,j] 45);have pG:ag _ base (.slice A X.length cX) X:=aH m (.cells #[a,c,i,j] 45);have hs7:base<=(E.alloc (.cells #[a,c,i,j] 45)).heap.size:=by rw[bX];omega
    have fM:E.heap.size<(E.alloc (.cells #[a,c,i,j] 45)).heap.size:=by rw[bX];omega
    rcases aB m with⟨D,hv0⟩|⟨g,cap,D,hbg,hgz,hcap⟩
    ·injection D with a1 a2 a3
     subst a1 a3;have e0:X=[]:=List.length_eq_zero_iff.1 hv0;subst e0;have ek0:k=0:=by simpa using hkl
     subst ek0;go_wp2_with fail
     go_region_with (first|(go_at_call 86;refine(wZ E ⟨a,c,i,j⟩ _ (by exact hx7)).mono ?_;rintro e w8 ⟨v8,rfl,z,O⟩;have hc8:ai w8 gc 90 [.slice none ([]:List En).length 0,x1,x2,x3]:=C_.grown (grown_drew O) (by intro h;cases h);obtain⟨k0,k1,k2,k3,kf,kz⟩:=hc8.four;obtain⟨K,I,D,_,_⟩:=ag.rd z;subst D))
     all_goals
      have hb8:=(hb7.trans (lV.grown (g:=gc) (row':=(Value.slice K (dE [] 0 (⟨a,c,i,j⟩:En)).length I).ownBlock) (grown_drew O) (λq e=> .inr (gH z q e).1))).trans (lV.set gc (Value.slice K (dE [] 0 (⟨a,c,i,j⟩:En)).length I).ownBlock w8 0 (.slice K (dE [] 0 (⟨a,c,i,j⟩:En)).length I))
      have oh:ag (w8.setCell ⟨gc,0,none⟩ (.slice K (dE [] 0 (⟨a,c,i,j⟩:En)).length I)) base (.slice K (dE [] 0 (⟨a,c,i,j⟩:En)).length I) F:=by
       rw[HR.out];exact fH (own_base (show ag w8 (E.alloc (.cells #[a,c,i,j] 45)).heap.size (.slice K (dE [] 0 (⟨a,c,i,j⟩:En)).length I) (dE [] 0 ⟨a,c,i,j⟩)from z) hs7) (λe=>by have:=(gH z gc e.symm).1;change (E.alloc (.cells #[a,c,i,j] 45)).heap.size<=gc at this;omega) 0 _
      have Wp:ai (w8.setCell ⟨gc,0,none⟩ (.slice K (dE [] 0 (⟨a,c,i,j⟩:En)).length I)) gc 90 [.slice K (dE [] 0 (⟨a,c,i,j⟩:En)).length I,x1,x2,x3]:=hc8.bY 0 _;clear hb7 C_ pG O z;go_wp2_with fail;refine BS (AR results46 _ _ _) rfl ?_
      exact⟨rfl,_,Wp,oh,hb8⟩
    injection D with a1 a2 a3
    subst a1 a3;have hgg:gc≠g:=by omega
    have adu:g<E:=hgz;go_wp2_with fail
    go_region_with (first|(go_at_call 86;refine(wY base g cX E k X ⟨a,c,i,j⟩ _ (by exact pG) (by exact hx7) (by omega) hkl (by omega) (by exact hs7)).mono ?_;rintro e w8 ⟨v8,rfl,z,O,hat⟩;have hc8:ai w8 gc 90 [.slice g X.length cX,x1,x2,x3]:=C_.grown (grown_drew O) (by intro h;injection h with h;exact hgg h);obtain⟨k0,k1,k2,k3,kf,kz⟩:=hc8.four;obtain⟨K,I,D,_,_⟩:=ag.rd z;subst D))
    all_goals
     have hvv:some gc≠(Value.slice K (dE X k (⟨a,c,i,j⟩:En)).length I).ownBlock:=own_ne z (.inl hgb);have hb8:=(hb7.trans (lV.grown (g:=gc) (row':=(Value.slice K (dE X k (⟨a,c,i,j⟩:En)).length I).ownBlock) (grown_drew O) (λq e=>by
      rcases hat with h|h
      ·rw[h]at e;exact .inl e
      rw[h]at e;injection e with e;exact .inr (uE e)))).trans (lV.set gc (Value.slice K (dE X k (⟨a,c,i,j⟩:En)).length I).ownBlock w8 0 (.slice K (dE X k (⟨a,c,i,j⟩:En)).length I))
     have oh:ag (w8.setCell ⟨gc,0,none⟩ (.slice K (dE X k (⟨a,c,i,j⟩:En)).length I)) base (.slice K (dE X k (⟨a,c,i,j⟩:En)).length I) F:=by
      rw[HR.out];exact fH z hvv 0 _
     have Wp:ai (w8.setCell ⟨gc,0,none⟩ (.slice K (dE X k (⟨a,c,i,j⟩:En)).length I)) gc 90 [.slice K (dE X k (⟨a,c,i,j⟩:En)).length I,x1,x2,x3]:=hc8.bY 0 _;clear hb7 C_ pG O z hat;go_wp2_with fail;refine BS (AR results46 _ _ _) rfl ?_
     exact⟨rfl,_,Wp,oh,hb8⟩
   obtain⟨hlt,hke⟩:=hf.2.1 rfl;have hget:=hfg.1 rfl
   rcases aB m with⟨D,hv0⟩|⟨g,cap,D,hbg,hgz,hcap⟩
   ·exact absurd hv0 (by omega)
   injection D with a1 a2 a3
   subst a1 a3;have hgg:gc≠g:=by omega
   have hvg:g≠w.heap.size:=λh=>aab (by rw[h];rfl)
   have hge:w.heap.size≠g:=λh=>hvg h.symm
   obtain⟨f0,f1,f2,f3⟩:=uj X k hlt;have r0:=(m.cellAt (k*4+0) (by omega)).trans f0
   have r1:=(m.cellAt (k*4+1) (by omega)).trans f1
   have r2:=(m.cellAt (k*4+2) (by omega)).trans f2
   have r3:=(m.cellAt (k*4+3) (by omega)).trans f3
   simp only[tQ]at r0;clear f0 f1 f2 f3;have rf:∀q,E.frozen? ⟨g,q,none⟩=false:=λq=>m.frozenAt q
   have hset:∀eo':Bool,Tr.ins ⟨a,c,i,eo'⟩ X=X.set k ⟨a,c,i,eo'⟩:=λeo'=>MR (x:=⟨a,c,i,eo'⟩) hlt (hf.2.2 Z.out.1).1 hke
   have HD:=aL (show c=2->F=X.set k ⟨a,c,i,X[k].o||X[k].k==4⟩from λh=>by rw[HX.out,Tr.MX hget h];exact hset _)
   have HN:=aL (show c≠2->F=X.set k ⟨a,c,i,j⟩from λh=>by rw[HX.out,Tr.Dc hget h];exact hset _)
   clear hset hget hfg hke hf HX;generalize X[k]=zz at r0 r1 r2 r3 HD HN;obtain⟨zp,zk,zt,zo⟩:=zz;dsimp only at r0 r1 r2 r3 HD HN;have key:∀(wq:World) (qo:Bool),ag wq base (.slice g X.length cX) X->ai wq gc 90 [.slice g X.length cX,x1,x2,x3]->lV gc rU (some g) w wq->F=X.set k ⟨a,c,i,qo⟩->
     ∃v',ai ((((wq.setCell ⟨g,k*4,none⟩ (.string a)).setCell ⟨g,k*4+1,none⟩ (.int .i64 c)).setCell ⟨g,k*4+2,none⟩ (.string i)).setCell ⟨g,k*4+3,none⟩ (.bool qo)) gc 90 [v',x1,x2,x3]/\ag ((((wq.setCell ⟨g,k*4,none⟩ (.string a)).setCell ⟨g,k*4+1,none⟩ (.int .i64 c)).setCell ⟨g,k*4+2,none⟩ (.string i)).setCell ⟨g,k*4+3,none⟩ (.bool qo)) base v' F/\lV gc rU v'.ownBlock w ((((wq.setCell ⟨g,k*4,none⟩ (.string a)).setCell ⟨g,k*4+1,none⟩ (.int .i64 c)).setCell ⟨g,k*4+2,none⟩ (.string i)).setCell ⟨g,k*4+3,none⟩ (.bool qo)):=λwq qo S h2 h3 h4=>by
    obtain⟨o4,g4⟩:=t_ S (k*4) (.string a) (.int .i64 c) (.string i) (.bool qo);have ef:=vJ X k hlt ⟨a,c,i,qo⟩;dsimp only at ef;rw[ef]at o4;refine⟨.slice g X.length cX,(((h2.far (p:=⟨g,_,none⟩) hgg _).far (p:=⟨g,_,none⟩) hgg _).far (p:=⟨g,_,none⟩) hgg _).far (p:=⟨g,_,none⟩) hgg _,?_,?_⟩
    ·rw[h4];unfold ag;rw[zm];exact o4
    ·exact h3.trans (lV.grown g4 (λq e=> .inl e))
   have HK:=aL key;clear key
   rcases tk:(c==2)with _|_
   ·have HF:=aL (HK.out E j m hc6 hb6 (HN.out (by simpa using tk)))
    clear HN HD HK;go_wp2_with fail
    go_region
    all_goals
     go_wp2_with fail;refine BS (AR results46 _ _ _) rfl ?_
     obtain⟨v',f1,f2,f3⟩:=HF.out;exact⟨rfl,v',f1,f2,f3.drew⟩
   have HS:=aL (λq:Bool=>HK.out (E.setCell ⟨w.heap.size,3,none⟩ (.bool q)) q (fH m aab 3 (.bool q)) (hc6.far (p:=⟨w.heap.size,3,none⟩) (λh=>hgw h.symm) (.bool q)) (hb6.fresh (p:=⟨w.heap.size,3,none⟩) aR (.bool q)))
   have Y:=aL (HD.out (by simpa using tk))
   have OJ:∀q:Bool,ai (E.setCell ⟨w.heap.size,3,none⟩ (.bool q)) w 45 [a,c,i,q]:=λq=>J4.bY 3 (.bool q)
   clear HN HD HK
   cases zo
   ·rcases tz:(zk==4)with _|_
    ·have HF:=aL (HS.out false (by rw[Y.out,tz];rfl))
     clear HS Y;have y:=(OJ false).four;clear OJ;go_wp2_with fail
     go_region
     all_goals
      go_wp2_with fail;refine BS (AR results46 _ _ _) rfl ?_
      obtain⟨v',f1,f2,f3⟩:=HF.out;exact⟨rfl,v',f1,f2,f3.drew⟩
    have HF:=aL (HS.out true (by rw[Y.out,tz];rfl))
    clear HS Y;have y:=(OJ true).four;clear OJ;go_wp2_with fail
    go_region
    all_goals
     go_wp2_with fail;refine BS (AR results46 _ _ _) rfl ?_
     obtain⟨v',f1,f2,f3⟩:=HF.out;exact⟨rfl,v',f1,f2,f3.drew⟩
   have HF:=aL (HS.out true (by rw[Y.out];rfl))
   clear HS Y;have y:=(OJ true).four;clear OJ;go_wp2_with fail
   go_region
   all_goals
    go_wp2_with fail;refine BS (AR results46 _ _ _) rfl ?_
    obtain⟨v',f1,f2,f3⟩:=HF.out;exact⟨rfl,v',f1,f2,f3.drew⟩
end Go.Proofs.YtjppfhgkanbemabGreatDoor
