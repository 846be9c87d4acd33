/- A part of the proof of SysTells: RB. -/
import Derived.Test.YtjppfhgkanbemabGreatDoorRA
set_option maxHeartbeats 8000000
set_option maxRecDepth 100000
set_option linter.all false
namespace Go.Proofs.YtjppfhgkanbemabGreatDoor
open Tryz
open Go.RowKit Go.Shelf Go.Sort
theorem EW{XX:Nat->Prop}{w0 w:World}{A A' AV:Option Addr}{c c' cV:Nat}{u:Un}{V:List En}(h1:Off XX w0 λw=>bT w w A A' c c' u)(hX:∀k,XX k->k<w0.heap.size)(hb:Below w0 w0 w)(h2:ag w w0 (.slice AV V.length cV) V):Off XX w λw=>bT w w AV A' cV c' ⟨V,u.L⟩:=by
 obtain⟨o,n,h,m,j⟩:=ag.off h2 hX;injection h with i p l
 subst i l;have g:=h1.on (Fr.of (X:=XX) hb) (Sub.refl _ _);intro b e a;exact⟨j b e a,m,(g b e a).low,(g b e a).nil⟩
def dZ(XX:Nat->Prop)(r:Un×Int)(w:World)(e:Ending)(w':World):Prop:=
 ∃A A' c c',e= .returned (.tuple #[.agg #[.slice A r.1.U.length c,.slice A' r.1.L.length c'],r.2])/\Off XX w' (λw=>bT w w A A' c c' r.1)/\Below w w w'
theorem dZ.none{XX:Nat->Prop}{w w':World}{e:Int}(h:Below w w w'):dZ XX (Un.zero,e) w (.returned (.tuple #[.agg #[(),()],e])) w':=
 ⟨_,_,_,_,rfl,Off.always λ_=>⟨Rd.nil,aR,jc.nil _ _ _,λ_=>rfl⟩,h⟩
theorem K_{u:Un}{V:List En}(h:80<V.length):Tr.fin u V=(Un.zero,5):=by unfold Tr.fin;rw[aM h]
theorem EX{u:Un}{V:List En}(h:¬80<V.length):Tr.fin u V=(⟨V,u.L⟩,0):=by unfold Tr.fin;rw[av h]
theorem qC(XX:Nat->Prop)(A A':Option Addr)(c c':Nat)(u:Un)(xp:ByteArray)(xk:Int)(xt:ByteArray)(xo:Bool)(w:World)(hu:Off XX w λw=>bT w w A A' c c' u)(hN:∀k,XX k->k<w.heap.size)(hs:iR u)(hxp:xp.size<4294967281)(hxt:xt.size<4294967281):Calls prog 21 #[.agg #[.slice A u.U.length c,.slice A' u.L.length c'],.agg #[xp,xk,xt,xo]] w (dZ XX (Tr.putU u ⟨xp,xk,xt,xo⟩) w):=by
 have HS:=aL hs;have Ul:=aL hu;have HXN:=aL hN;have HU:Hid (bT w w A A' c c' u):=aL hu.here;clear hs hu hN;obtain⟨R,hR⟩:∃R,R=Tr.putU u ⟨xp,xk,xt,xo⟩:=⟨_,rfl⟩;rw[<-hR];have O:=aL (Tr.parts (u:=u));have Z:Hid ((Tr.seenU u).2≠0->R=(Un.zero,(Tr.seenU u).2)):=aL (λh=>hR.trans (Tr.GR rfl h))
 have Y:Hid ((Tr.seenU u).2=0->(Tr.put (Tr.seenU u).1 ⟨xp,xk,xt,xo⟩).2≠0->R=(Un.zero,(Tr.put (Tr.seenU u).1 ⟨xp,xk,xt,xo⟩).2)):=aL (λh h2=>hR.trans (Tr.Nc h rfl h2))
 have I:Hid ((Tr.seenU u).2=0->(Tr.put (Tr.seenU u).1 ⟨xp,xk,xt,xo⟩).2=0->R=Tr.fin u (Tr.dR u.U ⟨xp,xk,xt,xo⟩)/\(⟨xp,xk,xt,xo⟩:En).P≠[]/\xp.size<=80):=aL (λh h2=>⟨hR.trans (Tr.Nh h h2),Tr.M_ h2⟩)
 clear hR;have j:=((aa w w).alloc aR (.cells #[.slice A u.U.length c,.slice A' u.L.length c'] 33));have n:=ai.new w 33 [.slice A u.U.length c,.slice A' u.L.length c'];have j:=j.alloc j.size (.cells #[xp,xk,xt,xo] 45);have n:=n.alloc (.cells #[xp,xk,xt,xo] 45);have t:=ai.new (w.alloc (.cells #[.slice A u.U.length c,.slice A' u.L.length c'] 33)) 45 [xp,xk,xt,xo];have j:=j.alloc j.size (.cells #[(),()] 33);have n:=n.alloc (.cells #[(),()] 33);have t:=t.alloc (.cells #[(),()] 33);have K:=ai.new ((w.alloc (.cells #[.slice A u.U.length c,.slice A' u.L.length c'] 33)).alloc (.cells #[xp,xk,xt,xo] 45)) 33 [(),()];have hsz0:(((w.alloc (.cells #[.slice A u.U.length c,.slice A' u.L.length c'] 33)).alloc (.cells #[xp,xk,xt,xo] 45)).alloc (.cells #[(),()] 33)).heap.size=w.heap.size+3:=by simp only[bX]
 simp only[bX]at K t;go_enter func21,ntmps21;go_upto_region 1 with fail
 generalize (((w.alloc (.cells #[.slice A u.U.length c,.slice A' u.L.length c'] 33)).alloc (.cells #[xp,xk,xt,xo] 45)).alloc (.cells #[(),()] 33))=w0 at*;have cS:=λW h=>lJ A A' c c' u W h HS.out
 unfold kM at cS;have Q:=aL (λh:(Tr.seenU u).2=0=>Tr.rC (Tr.jb.1 h))
 obtain⟨T,hT⟩:∃T,T=Tr.seenU u:=⟨_,rfl⟩;rw[<-hT]at O Z Y I Q;simp only[<-hT]at cS;clear hT;obtain⟨S,se⟩:=T;dsimp only at cS O Z Y I Q;obtain⟨q0,q1,qf,qz⟩:=n.two;go_wp2_with fail;clear q0 q1 qf qz;refine(cS w0 ((HU.out.below j).more j.size)).mono ?_
 rintro e w4 ⟨v4,rfl,dI,D⟩;have N:=j.trans (D.mono j.size);have hq4:=n.below D n.lt;have jY:=K.below D K.lt;have H:=t.below D t.lt;clear D j n K t cS;obtain⟨AS,cS,rfl,hcS,Em⟩:=ag.rd dI;clear dI
 cases te:se !=0
 rotate_left
 ·have M:=aL (Z.out (by simpa using te))
  have z:=jY.two;go_wp2_with fail;refine aD (v:= .tuple #[.agg #[(),()],se]) ?_ rfl ?_
  ·simp[results,results21,go_sem,z]
  rw[M.out];exact dZ.none ((N.setCell (p:=(w.heap.size+1+1:Nat)) (by show w.heap.size<=w.heap.size+1+1;omega) (.slice none 0 0)).setCell (p:=⟨w.heap.size+1+1,1,none⟩) (by show w.heap.size<=w.heap.size+1+1;omega) (.slice none 0 0))
 have F:se=0:=by simpa using te
 have HP:=aL (O.out F);have HN:=aL (Y.out F);have HO:=aL (I.out F);have HMM:=aL (Q.out F);clear O Y I Z Q te;subst F;obtain⟨e0,e1,e2,e3,ef,ez⟩:=H.four;go_wp2_with fail;clear e0 e1 e2 e3 ef ez;refine(KU AS cS S xp xk xt xo w4 Em hcS (Tr.bn HP.out.sr) hxp hxt (by have:=HP.out.sl;omega)).mono ?_
 rintro e r ⟨v5,rfl,_,D⟩;have o:=N.trans (D.mono N.size);have l:=hq4.below D hq4.lt;have i:=jY.below D jY.lt;have g:=H.below D H.lt;clear D N hq4 jY H Em;generalize (Tr.put S ⟨xp,xk,xt,xo⟩).2=pe at*
 cases tp:pe !=0
 rotate_left
 ·have M:=aL (HN.out (by simpa using tp))
  have z:=i.two;go_wp2_with fail;refine aD (v:= .tuple #[.agg #[(),()],pe]) ?_ rfl ?_
  ·simp[results,results21,go_sem,z]
  rw[M.out];exact dZ.none ((o.setCell (p:=(w.heap.size+1+1:Nat)) (by show w.heap.size<=w.heap.size+1+1;omega) (.slice none 0 0)).setCell (p:=⟨w.heap.size+1+1,1,none⟩) (by show w.heap.size<=w.heap.size+1+1;omega) (.slice none 0 0))
 have M:=aL (HO.out (by simpa using tp)).1
 have E:=(HO.out (by simpa using tp)).2
 clear HN HO;have hul:=HP.out.ul;have Bz:Hid (Tr.Ok u.U 80):=aL ⟨HP.out.ur.2.1,λy hy=>Tr.bu HP.out.ur hy,Tr.bn HP.out.ur,HP.out.ul⟩
 have adm:=E.2;have hqz:=l.lt;have hn1:¬w.heap.size=w.heap.size+1+1:=by omega
 have hn2:¬w.heap.size+1+1=w.heap.size:=by omega
 have hrU:aC r r A u.U:=((HU.out.below o).more o.size).up;obtain⟨q0,q1,qf,qz⟩:=l.two;obtain⟨e0,e1,e2,e3,ef,ez⟩:=g.four;have z:=i.two;obtain⟨V,hV⟩:∃V,V=Tr.dR u.U ⟨xp,xk,xt,xo⟩:=⟨_,rfl⟩;rw[<-hV]at M;have G:=λAV cV W=>zW A A' AV c c' cV u V W
 by_cases B:80<V.length
 ·have HRR:=aL (M.out.trans (K_ B))
  simp only[aM B]at G;clear M B;go_wp2_with fail
  go_region_held3 (λW=>W.cell? w.heap.size=some (.slice A u.U.length c)/\W.cell? ⟨w.heap.size,1,none⟩=some (.slice A' u.L.length c')/\W.cell? (w.heap.size+1:Nat)=some (.string xp)/\W.cell? ⟨w.heap.size+1,1,none⟩=some (.int .i64 xk)/\W.cell? ⟨w.heap.size+1,2,none⟩=some (.string xt)/\W.cell? ⟨w.heap.size+1,3,none⟩=some (.bool xo))
   (first|exact⟨q0,q1,e0,e1,e2,e3⟩|exact hS6|exact hS7|go_keep)
   (first|(go_at_call 50;refine(mO xp.size A c u.U ⟨xp,xk,xt,xo⟩ _ (by exact hrU) (Bz.out.more (by omega)) (by omega) E.1 (uE (af xp)) hxp hxt).mono ?_;rintro e m ⟨v6,rfl,x,hb6⟩;obtain⟨A6,c6,hv6,_,_⟩:=ag.rd x;subst hv6;rw[<-hV]at x;have b:Below r r m:=((aa _ r).drew).trans hb6;have hS6:m.cell? w.heap.size=some (.slice A u.U.length c)/\m.cell? ⟨w.heap.size,1,none⟩=some (.slice A' u.L.length c')/\m.cell? (w.heap.size+1:Nat)=some (.string xp)/\m.cell? ⟨w.heap.size+1,1,none⟩=some (.int .i64 xk)/\m.cell? ⟨w.heap.size+1,2,none⟩=some (.string xt)/\m.cell? ⟨w.heap.size+1,3,none⟩=some (.bool xo):=⟨(b.cell (p:=w.heap.size) l.lt).trans q0,(b.cell (p:=⟨w.heap.size,1,none⟩) l.lt).trans q1,(b.cell (p:=(w.heap.size+1:Nat)) g.lt).trans e0,(b.cell (p:=⟨w.heap.size+1,1,none⟩) g.lt).trans e1,(b.cell (p:=⟨w.heap.size+1,2,none⟩) g.lt).trans e2,(b.cell (p:=⟨w.heap.size+1,3,none⟩) g.lt).trans e3⟩)|(go_at_call 49;(try rw[<-hV]);refine(G A6 c6 m).mono ?_;rintro e q ⟨rfl,hb7⟩;have a:Below r r q:=b.trans (hb7.mono b.size);have hS7:q.cell? w.heap.size=some (.slice A u.U.length c)/\q.cell? ⟨w.heap.size,1,none⟩=some (.slice A' u.L.length c')/\q.cell? (w.heap.size+1:Nat)=some (.string xp)/\q.cell? ⟨w.heap.size+1,1,none⟩=some (.int .i64 xk)/\q.cell? ⟨w.heap.size+1,2,none⟩=some (.string xt)/\q.cell? ⟨w.heap.size+1,3,none⟩=some (.bool xo):=⟨(a.cell (p:=w.heap.size) l.lt).trans q0,(a.cell (p:=⟨w.heap.size,1,none⟩) l.lt).trans q1,(a.cell (p:=(w.heap.size+1:Nat)) g.lt).trans e0,(a.cell (p:=⟨w.heap.size+1,1,none⟩) g.lt).trans e1,(a.cell (p:=⟨w.heap.size+1,2,none⟩) g.lt).trans e2,(a.cell (p:=⟨w.heap.size+1,3,none⟩) g.lt).trans e3⟩;have z:=(i.below a i.lt).two))
  all_goals
   have fM:=i.below a i.lt;have jV:=o.trans (a.mono o.size);have z:=fM.two;go_wp2_with fail;refine aD (v:= .tuple #[.agg #[(),()],(5:Int)]) ?_ rfl ?_
   ·simp[results,results21,go_sem,z]
   rw[HRR.out];exact dZ.none ((jV.setCell (p:=(w.heap.size+1+1:Nat)) (by show w.heap.size<=w.heap.size+1+1;omega) (.slice none 0 0)).setCell (p:=⟨w.heap.size+1+1,1,none⟩) (by show w.heap.size<=w.heap.size+1+1;omega) (.slice none 0 0))
 have HRR:=aL (M.out.trans (EX B));simp only[av B]at G;clear M B;go_wp2_with fail
 go_region_held3 (λW=>W.cell? w.heap.size=some (.slice A u.U.length c)/\W.cell? ⟨w.heap.size,1,none⟩=some (.slice A' u.L.length c')/\W.cell? (w.heap.size+1:Nat)=some (.string xp)/\W.cell? ⟨w.heap.size+1,1,none⟩=some (.int .i64 xk)/\W.cell? ⟨w.heap.size+1,2,none⟩=some (.string xt)/\W.cell? ⟨w.heap.size+1,3,none⟩=some (.bool xo))
  (first|exact⟨q0,q1,e0,e1,e2,e3⟩|exact hS6|exact hS7|go_keep)
  (first|(go_at_call 50;refine(mO xp.size A c u.U ⟨xp,xk,xt,xo⟩ _ (by exact hrU) (Bz.out.more (by omega)) (by omega) E.1 (uE (af xp)) hxp hxt).mono ?_;rintro e m ⟨v6,rfl,x,hb6⟩;obtain⟨A6,c6,hv6,_,_⟩:=ag.rd x;subst hv6;rw[<-hV]at x;have b:Below r r m:=((aa _ r).drew).trans hb6;have hS6:m.cell? w.heap.size=some (.slice A u.U.length c)/\m.cell? ⟨w.heap.size,1,none⟩=some (.slice A' u.L.length c')/\m.cell? (w.heap.size+1:Nat)=some (.string xp)/\m.cell? ⟨w.heap.size+1,1,none⟩=some (.int .i64 xk)/\m.cell? ⟨w.heap.size+1,2,none⟩=some (.string xt)/\m.cell? ⟨w.heap.size+1,3,none⟩=some (.bool xo):=⟨(b.cell (p:=w.heap.size) l.lt).trans q0,(b.cell (p:=⟨w.heap.size,1,none⟩) l.lt).trans q1,(b.cell (p:=(w.heap.size+1:Nat)) g.lt).trans e0,(b.cell (p:=⟨w.heap.size+1,1,none⟩) g.lt).trans e1,(b.cell (p:=⟨w.heap.size+1,2,none⟩) g.lt).trans e2,(b.cell (p:=⟨w.heap.size+1,3,none⟩) g.lt).trans e3⟩)|(go_at_call 49;(try rw[<-hV]);refine(G A6 c6 m).mono ?_;rintro e q ⟨rfl,hb7⟩;have a:Below r r q:=b.trans (hb7.mono b.size);have hS7:q.cell? w.heap.size=some (.slice A u.U.length c)/\q.cell? ⟨w.heap.size,1,none⟩=some (.slice A' u.L.length c')/\q.cell? (w.heap.size+1:Nat)=some (.string xp)/\q.cell? ⟨w.heap.size+1,1,none⟩=some (.int .i64 xk)/\q.cell? ⟨w.heap.size+1,2,none⟩=some (.string xt)/\q.cell? ⟨w.heap.size+1,3,none⟩=some (.bool xo):=⟨(a.cell (p:=w.heap.size) l.lt).trans q0,(a.cell (p:=⟨w.heap.size,1,none⟩) l.lt).trans q1,(a.cell (p:=(w.heap.size+1:Nat)) g.lt).trans e0,(a.cell (p:=⟨w.heap.size+1,1,none⟩) g.lt).trans e1,(a.cell (p:=⟨w.heap.size+1,2,none⟩) g.lt).trans e2,(a.cell (p:=⟨w.heap.size+1,3,none⟩) g.lt).trans e3⟩;have z:=(i.below a i.lt).two))
 all_goals
  have fM:=i.below a i.lt;have jV:=o.trans (a.mono o.size);have z:=fM.two;go_wp2_with fail;have hgz:w.heap.size+1+1<r:=i.lt;have pG:ag q r (.slice A6 V.length c6) V:=own_below x hb7 aR;have hne:some (w.heap.size+1+1)≠(Value.slice A6 V.length c6).ownBlock:=own_ne pG (.inl hgz);refine aD (v:= .tuple #[.agg #[.slice A6 V.length c6,.slice A' u.L.length c'],(0:Int)]) ?_ rfl ?_
  ·simp[results,results21,go_sem,z,hV]
  rw[HRR.out,<-hV];have jv:=((jV.setCell (p:=(w.heap.size+1+1:Nat)) (by show w.heap.size<=w.heap.size+1+1;omega) (.slice A6 V.length c6)).setCell (p:=⟨w.heap.size+1+1,1,none⟩) (by show w.heap.size<=w.heap.size+1+1;omega) (.slice A' u.L.length c'))
  exact⟨_,_,_,_,rfl,EW Ul.out HXN.out jv (own_base (fH (fH pG hne 0 _) hne 1 _) o.size),jv⟩
theorem IK(XX:Nat->Prop)(A A':Option Addr)(c c':Nat)(u:Un)(s:ByteArray)(w:World)(hu:Off XX w λw=>bT w w A A' c c' u)(hN:∀k,XX k->k<w.heap.size)(hs:iR u)(hsz:s.size<4294967281):Calls prog 24 #[.agg #[.slice A u.U.length c,.slice A' u.L.length c'],s] w (dZ XX (Tr.removeU u s) w):=by
 have HS:=aL hs;have Ul:=aL hu;have HXN:=aL hN;have HU:Hid (bT w w A A' c c' u):=aL hu.here;clear hs hu hN;obtain⟨R,hR⟩:∃R,R=Tr.removeU u s.data.toList:=⟨_,rfl⟩;rw[<-hR];have Y:=aL (Tr.parts (u:=u));have Eo:Hid ((Tr.seenU u).2≠0->R=(Un.zero,(Tr.seenU u).2)):=aL (λh=>hR.trans (Tr.GU rfl h))
 have UN:Hid ((Tr.seenU u).2=0->(Tr.remove (Tr.seenU u).1 s).2≠0->R=(Un.zero,(Tr.remove (Tr.seenU u).1 s).2)):=aL (λh h2=>hR.trans (Tr.Nj h rfl h2))
 have I:Hid ((Tr.seenU u).2=0->(Tr.remove (Tr.seenU u).1 s).2=0->R=Tr.fin u (Tr.dD (Tr.ay u) u.U s)/\s.data.toList≠[]/\s.size<=80):=aL (λh h2=>⟨hR.trans (Tr.Nk h h2),Tr.Nb h2⟩)
 clear hR;have j:=((aa w w).alloc aR (.cells #[.slice A u.U.length c,.slice A' u.L.length c'] 33));have q:=ai.new w 33 [.slice A u.U.length c,.slice A' u.L.length c'];have j:=j.alloc j.size (.cells #[(),()] 33);have q:=q.alloc (.cells #[(),()] 33);have K:=ai.new (w.alloc (.cells #[.slice A u.U.length c,.slice A' u.L.length c'] 33)) 33 [(),()];have hsz0:((w.alloc (.cells #[.slice A u.U.length c,.slice A' u.L.length c'] 33)).alloc (.cells #[(),()] 33)).heap.size=w.heap.size+2:=by simp only[bX]
 simp only[bX]at K;go_enter func24,ntmps24;go_upto_region 1 with fail
 generalize ((w.alloc (.cells #[.slice A u.U.length c,.slice A' u.L.length c'] 33)).alloc (.cells #[(),()] 33))=w0 at*;have cS:=λW h=>lJ A A' c c' u W h HS.out
 unfold kM at cS;have Z:=aL (λh:(Tr.seenU u).2=0=>Tr.rC (Tr.jb.1 h))
 obtain⟨T,hT⟩:∃T,T=Tr.seenU u:=⟨_,rfl⟩;rw[<-hT]at Y Eo UN I Z;simp only[<-hT]at cS;clear hT;obtain⟨S,se⟩:=T;dsimp only at cS Y Eo UN I Z;obtain⟨F,G,qf,qz⟩:=q.two;go_wp2_with fail;clear F G qf qz;refine(cS w0 ((HU.out.below j).more j.size)).mono ?_
 rintro e w4 ⟨v4,rfl,dI,n⟩;have Q:=j.trans (n.mono j.size);have hq4:=q.below n q.lt;have jY:=K.below n K.lt;clear n j q K cS;obtain⟨AS,cS,rfl,hcS,Em⟩:=ag.rd dI;clear dI
 cases te:se !=0
 rotate_left
 ·have N:=aL (Eo.out (by simpa using te))
  have z:=jY.two;go_wp2_with fail;refine aD (v:= .tuple #[.agg #[(),()],se]) ?_ rfl ?_
  ·simp[results,results24,go_sem,z]
  rw[N.out];exact dZ.none ((Q.setCell (p:=(w.heap.size+1:Nat)) (by show w.heap.size<=w.heap.size+1;omega) (.slice none 0 0)).setCell (p:=⟨w.heap.size+1,1,none⟩) (by show w.heap.size<=w.heap.size+1;omega) (.slice none 0 0))
 have E:se=0:=by simpa using te
 have HP:=aL (Y.out E);have HN:=aL (UN.out E);have HO:=aL (I.out E);have HMM:=aL (Z.out E);clear Y UN I Eo Z te;subst E;go_wp2_with fail;refine(Bv AS cS S s w4 Em hcS (Tr.bn HP.out.sr) hsz (by have:=HP.out.sl;omega)).mono ?_
 rintro e w5 ⟨v5,rfl,_,n⟩;have x:=Q.trans (n.mono Q.size);have hq5:=hq4.below n hq4.lt;have O:=jY.below n jY.lt;clear n Q hq4 jY Em;generalize (Tr.remove S s).2=pe at*
 cases tp:pe !=0
 rotate_left
 ·have N:=aL (HN.out (by simpa using tp))
  have z:=O.two;go_wp2_with fail;refine aD (v:= .tuple #[.agg #[(),()],pe]) ?_ rfl ?_
  ·simp[results,results24,go_sem,z]
  rw[N.out];exact dZ.none ((x.setCell (p:=(w.heap.size+1:Nat)) (by show w.heap.size<=w.heap.size+1;omega) (.slice none 0 0)).setCell (p:=⟨w.heap.size+1,1,none⟩) (by show w.heap.size<=w.heap.size+1;omega) (.slice none 0 0))
 have N:=aL (HO.out (by simpa using tp)).1
 have D:=(HO.out (by simpa using tp)).2
 clear HN HO;have hul:=HP.out.ul;have Bz:Hid (Tr.Ok u.U 80):=aL ⟨HP.out.ur.2.1,λy hy=>Tr.bu HP.out.ur hy,Tr.bn HP.out.ur,HP.out.ul⟩
 have B:=D.2;obtain⟨F,G,qf,qz⟩:=hq5.two;have cM:=lI A' c' u.L w5 ((HU.out.below x).more x.size).low (λl hl=>HS.out.1 l (oo _ hl))
 unfold gW at cM;rw[HMM.out]at cM;dsimp only at cM;go_wp2_with fail;clear F G qf qz;refine cM.mono ?_
 rintro e o ⟨vB,rfl,hoB,n⟩;have m:=x.trans (n.mono x.size);have g:=hq5.below n hq5.lt;have i:=O.below n O.lt;clear n x hq5 O cM;obtain⟨AB,cB,rfl,hcB,Wq⟩:=ag.rd hoB;clear hoB;have hqz:=g.lt;have hn1:¬w.heap.size=w.heap.size+1:=by omega
 have hn2:¬w.heap.size+1=w.heap.size:=by omega
 have hrU:aC o o A u.U:=((HU.out.below m).more m.size).up;obtain⟨F,G,qf,qz⟩:=g.two;have z:=i.two;obtain⟨V,hV⟩:∃V,V=Tr.dD (Tr.ay u) u.U s.data.toList:=⟨_,rfl⟩;rw[<-hV]at N;have H:=λAV cV W=>zW A A' AV c c' cV u V W
 by_cases t:80<V.length
 ·have HRR:=aL (N.out.trans (K_ t))
  simp only[aM t]at H;clear N t;go_wp2_with fail
  go_region_held3 (λW=>W.cell? w.heap.size=some (.slice A u.U.length c)/\W.cell? ⟨w.heap.size,1,none⟩=some (.slice A' u.L.length c'))
   (first|exact⟨F,G⟩|exact hS6|exact hS7|go_keep)
   (first|(go_at_call 54;refine(nH A AB c cB u.U (Tr.ay u) s _ (by exact hrU) (by exact Wq) (Bz.out.more (by omega)) (by have:=HP.out.bl;omega) D.1 B).mono ?_;rintro e M ⟨v6,rfl,r,hb6⟩;obtain⟨A6,c6,hv6,_,_⟩:=ag.rd r;subst hv6;rw[<-hV]at r;have b:Below o o M:=((aa _ o).drew).trans hb6;have hS6:M.cell? w.heap.size=some (.slice A u.U.length c)/\M.cell? ⟨w.heap.size,1,none⟩=some (.slice A' u.L.length c'):=⟨(b.cell (p:=w.heap.size) g.lt).trans F,(b.cell (p:=⟨w.heap.size,1,none⟩) g.lt).trans G⟩)|(go_at_call 49;(try rw[<-hV]);refine(H A6 c6 M).mono ?_;rintro e w7 ⟨rfl,hb7⟩;have a:Below o o w7:=b.trans (hb7.mono b.size);have hS7:w7.cell? w.heap.size=some (.slice A u.U.length c)/\w7.cell? ⟨w.heap.size,1,none⟩=some (.slice A' u.L.length c'):=⟨(a.cell (p:=w.heap.size) g.lt).trans F,(a.cell (p:=⟨w.heap.size,1,none⟩) g.lt).trans G⟩;have z:=(i.below a i.lt).two))
  all_goals
   have fM:=i.below a i.lt;have jV:=m.trans (a.mono m.size);have z:=fM.two;go_wp2_with fail;refine aD (v:= .tuple #[.agg #[(),()],(5:Int)]) ?_ rfl ?_
   ·simp[results,results24,go_sem,z]
   rw[HRR.out];exact dZ.none ((jV.setCell (p:=(w.heap.size+1:Nat)) (by show w.heap.size<=w.heap.size+1;omega) (.slice none 0 0)).setCell (p:=⟨w.heap.size+1,1,none⟩) (by show w.heap.size<=w.heap.size+1;omega) (.slice none 0 0))
 have HRR:=aL (N.out.trans (EX t));simp only[av t]at H;clear N t;go_wp2_with fail
 go_region_held3 (λW=>W.cell? w.heap.size=some (.slice A u.U.length c)/\W.cell? ⟨w.heap.size,1,none⟩=some (.slice A' u.L.length c'))
  (first|exact⟨F,G⟩|exact hS6|exact hS7|go_keep)
  (first|(go_at_call 54;refine(nH A AB c cB u.U (Tr.ay u) s _ (by exact hrU) (by exact Wq) (Bz.out.more (by omega)) (by have:=HP.out.bl;omega) D.1 B).mono ?_;rintro e M ⟨v6,rfl,r,hb6⟩;obtain⟨A6,c6,hv6,_,_⟩:=ag.rd r;subst hv6;rw[<-hV]at r;have b:Below o o M:=((aa _ o).drew).trans hb6;have hS6:M.cell? w.heap.size=some (.slice A u.U.length c)/\M.cell? ⟨w.heap.size,1,none⟩=some (.slice A' u.L.length c'):=⟨(b.cell (p:=w.heap.size) g.lt).trans F,(b.cell (p:=⟨w.heap.size,1,none⟩) g.lt).trans G⟩)|(go_at_call 49;(try rw[<-hV]);refine(H A6 c6 M).mono ?_;rintro e w7 ⟨rfl,hb7⟩;have a:Below o o w7:=b.trans (hb7.mono b.size);have hS7:w7.cell? w.heap.size=some (.slice A u.U.length c)/\w7.cell? ⟨w.heap.size,1,none⟩=some (.slice A' u.L.length c'):=⟨(a.cell (p:=w.heap.size) g.lt).trans F,(a.cell (p:=⟨w.heap.size,1,none⟩) g.lt).trans G⟩;have z:=(i.below a i.lt).two))
 all_goals
  have fM:=i.below a i.lt;have jV:=m.trans (a.mono m.size);have z:=fM.two;go_wp2_with fail;have hgz:w.heap.size+1<o:=i.lt;have pG:ag w7 o (.slice A6 V.length c6) V:=own_below r hb7 aR;have hne:some (w.heap.size+1)≠(Value.slice A6 V.length c6).ownBlock:=own_ne pG (.inl hgz);refine aD (v:= .tuple #[.agg #[.slice A6 V.length c6,.slice A' u.L.length c'],(0:Int)]) ?_ rfl ?_
  ·simp[results,results24,go_sem,z,hV]
  rw[HRR.out,<-hV];have jv:=((jV.setCell (p:=(w.heap.size+1:Nat)) (by show w.heap.size<=w.heap.size+1;omega) (.slice A6 V.length c6)).setCell (p:=⟨w.heap.size+1,1,none⟩) (by show w.heap.size<=w.heap.size+1;omega) (.slice A' u.L.length c'))
  exact⟨_,_,_,_,rfl,EW Ul.out HXN.out jv (own_base (fH (fH pG hne 0 _) hne 1 _) m.size),jv⟩
theorem EY(XX:Nat->Prop)(A A':Option Addr)(c c':Nat)(u:Un)(s d:ByteArray)(w:World)(hu:Off XX w λw=>bT w w A A' c c' u)(hN:∀k,XX k->k<w.heap.size)(hs:iR u)(hsz:s.size<4294967281)(hdz:d.size<4294967281):Calls prog 26 #[.agg #[.slice A u.U.length c,.slice A' u.L.length c'],s,d] w (dZ XX (Tr.moveU u s d) w):=by
 have HS:=aL hs;have Ul:=aL hu;have HXN:=aL hN;have HU:Hid (bT w w A A' c c' u):=aL hu.here;clear hs hu hN;obtain⟨R,hR⟩:∃R,R=Tr.moveU u s d.data.toList:=⟨_,rfl⟩;rw[<-hR];have UM:=aL (Tr.parts (u:=u));have Eo:Hid ((Tr.seenU u).2≠0->R=(Un.zero,(Tr.seenU u).2)):=aL (λh=>hR.trans (Tr.Dh rfl h))
 have UN:Hid ((Tr.seenU u).2=0->(Tr.move (Tr.seenU u).1 s d).2≠0->R=(Un.zero,(Tr.move (Tr.seenU u).1 s d).2)):=aL (λh h2=>hR.trans (Tr.GX h rfl h2))
 have UO:Hid ((Tr.seenU u).2=0->(Tr.move (Tr.seenU u).1 s d).2=0->R=Tr.fin u (if s.data.toList=d.data.toList then u.U else Tr.fQ (Tr.dD (Tr.ay u) (if(Tr.get (Tr.seenU u).1 d).isSome then Tr.dD (Tr.ay u) u.U d else u.U) s) (Tr.au (Tr.seenU u).1 s d))/\(Tr.Right false (Tr.seenU u).1->Tr.J6 (Tr.seenU u).1 s d)):=aL (λh h2=>⟨hR.trans (Tr.GY h h2),λhr=>Tr.Wv hr h2⟩)
 clear hR;have M:=((aa w w).alloc aR (.cells #[.slice A u.U.length c,.slice A' u.L.length c'] 33));have hq0:=ai.new w 33 [.slice A u.U.length c,.slice A' u.L.length c'];have M:=M.alloc M.size (.cells #[(),()] 33);have hq0:=hq0.alloc (.cells #[(),()] 33);have hz0:=ai.new (w.alloc (.cells #[.slice A u.U.length c,.slice A' u.L.length c'] 33)) 33 [(),()];have hsz0:((w.alloc (.cells #[.slice A u.U.length c,.slice A' u.L.length c'] 33)).alloc (.cells #[(),()] 33)).heap.size=w.heap.size+2:=by simp only[bX]
 simp only[bX]at hz0;go_enter func26,ntmps26;go_upto_region 1 with fail
 generalize ((w.alloc (.cells #[.slice A u.U.length c,.slice A' u.L.length c'] 33)).alloc (.cells #[(),()] 33))=w0 at*;have cS:=λW h=>lJ A A' c c' u W h HS.out
 unfold kM at cS;have NJ:=aL (λh:(Tr.seenU u).2=0=>Tr.rC (Tr.jb.1 h))
 obtain⟨T,hT⟩:∃T,T=Tr.seenU u:=⟨_,rfl⟩;rw[<-hT]at UM Eo UN UO NJ;simp only[<-hT]at cS;clear hT;obtain⟨S,se⟩:=T;dsimp only at cS UM Eo UN UO NJ;have q:=hq0.two;go_wp2_with fail;clear q;refine(cS w0 ((HU.out.below M).more M.size)).mono ?_
 rintro e w4 ⟨v4,rfl,dI,a⟩;have hB4:=M.trans (a.mono M.size);have hq4:=hq0.below a hq0.lt;have jY:=hz0.below a hz0.lt;clear a M hq0 hz0 cS;obtain⟨AS,cS,rfl,hcS,Em⟩:=ag.rd dI;clear dI
 cases te:se !=0
 rotate_left
 ·have HF:=aL (Eo.out (by simpa using te))
  have x:=jY.two;go_wp2_with fail;refine aD (v:= .tuple #[.agg #[(),()],se]) ?_ rfl ?_
  ·simp[results,results26,go_sem,x]
  rw[HF.out];exact dZ.none ((hB4.setCell (p:=(w.heap.size+1:Nat)) (by show w.heap.size<=w.heap.size+1;omega) (.slice none 0 0)).setCell (p:=⟨w.heap.size+1,1,none⟩) (by show w.heap.size<=w.heap.size+1;omega) (.slice none 0 0))
 have hse:se=0:=by simpa using te
 have HP:=aL (UM.out hse);have HN:=aL (UN.out hse);have HO:=aL (UO.out hse);have HMM:=aL (NJ.out hse);clear UM UN UO Eo NJ te;subst hse;go_wp2_with fail;refine(II AS cS S s d w4 Em hcS (Tr.bn HP.out.sr) hsz hdz (by have:=HP.out.sl;omega)).mono ?_
 rintro e w5 ⟨A5,c5,rfl,_,_,a⟩;have Z:=hB4.trans (a.mono hB4.size);have hq5:=hq4.below a hq4.lt;have jo:=jY.below a jY.lt;have Ri:aC w5 w5 AS S:=(Rd.below Em a).more a.size;clear a hB4 hq4 jY Em;generalize (Tr.move S s d).2=pe at*
 cases tp:pe !=0
 rotate_left
 ·have HF:=aL (HN.out (by simpa using tp))
  have x:=jo.two;go_wp2_with fail;refine aD (v:= .tuple #[.agg #[(),()],pe]) ?_ rfl ?_
  ·simp[results,results26,go_sem,x]
  rw[HF.out];exact dZ.none ((Z.setCell (p:=(w.heap.size+1:Nat)) (by show w.heap.size<=w.heap.size+1;omega) (.slice none 0 0)).setCell (p:=⟨w.heap.size+1,1,none⟩) (by show w.heap.size<=w.heap.size+1;omega) (.slice none 0 0))
 have Ea:=aL (HO.out (by simpa using tp)).1
 have HM:=aL ((HO.out (by simpa using tp)).2 HP.out.sr)
 clear HN HO;have hul:=HP.out.ul;have Bz:Hid (Tr.Ok u.U 80):=aL ⟨HP.out.ur.2.1,λy hy=>Tr.bu HP.out.ur hy,Tr.bn HP.out.ur,HP.out.ul⟩
 cases Di:s.toList==d.toList
 rotate_left
 ·have HF:Hid (R=(u,0)):=aL (by rw[Ea.out,aM (by rw[aj]at Di;simpa using Di),EX (by omega)])
  have q:=hq5.two;have x:=jo.two;go_wp2_with fail;refine aD (v:= .tuple #[.agg #[.slice A u.U.length c,.slice A' u.L.length c'],(0:Int)]) ?_ rfl ?_
  ·simp[results,results26,go_sem,x]
  rw[HF.out];have E:=((Z.setCell (p:=(w.heap.size+1:Nat)) (by show w.heap.size<=w.heap.size+1;omega) (.slice A u.U.length c)).setCell (p:=⟨w.heap.size+1,1,none⟩) (by show w.heap.size<=w.heap.size+1;omega) (.slice A' u.L.length c'))
  exact⟨A,A',c,c',rfl,Ul.out.on (Fr.of (X:=XX) E) (Sub.refl _ _),E⟩
 have Qe:=aL (Ea.out);rw[av (show¬s.data.toList=d.data.toList by rw[aj]at Di;simpa using Di)]at Qe
 clear Ea;have q:=hq5.two;have cM:=lI A' c' u.L w5 ((HU.out.below Z).more Z.size).low (λl hl=>HS.out.1 l (oo _ hl))
 unfold gW at cM;rw[HMM.out]at cM;dsimp only at cM;go_wp2_with fail;clear q;refine cM.mono ?_
 rintro e w8 ⟨vB,rfl,hoB,a⟩;have sK:=Z.trans (a.mono Z.size);have hq8:=hq5.below a hq5.lt;have uy:=jo.below a jo.lt;have YH:aC w8 w8 AS S:=(Rd.below Ri a).more a.size;clear a Z hq5 jo cM Ri;obtain⟨AB,cB,rfl,hcB,Wq⟩:=ag.rd hoB;clear hoB;have q:=hq8.two;go_wp2_with fail;clear q;refine(a_ AS cS S d w8 YH (by have:=HP.out.sl;omega)).mono ?_
 rintro e w9 ⟨r,rfl,hr,a⟩;have E:=sK.trans (a.mono sK.size);have Zn:=hq8.below a hq8.lt;have N:=uy.below a uy.lt;have aa7:aC w9 w9 AS S:=(Rd.below YH a).more a.size;have aa8:aC w9 w9 AB (Tr.ay u):=(Rd.below Wq a).more a.size;clear a sK hq8 uy YH Wq;rw[<-hr]at Qe;clear hr;generalize r.isSome=b at*;generalize r.getD En.zero=y at*;obtain⟨j,n,o,m⟩:=y;simp only[En.agg,En.cells];have H:=E.alloc E.size (.cells #[j,n,o,m] 45);have hq10:=Zn.alloc (.cells #[j,n,o,m] 45);have xG:=N.alloc (.cells #[j,n,o,m] 45);have WU:aC (w9.alloc (.cells #[j,n,o,m] 45)) (w9.alloc (.cells #[j,n,o,m] 45)).heap.size AS S:=(Rd.alloc aa7 aR _).more (by simp)
 have hrB10:aC (w9.alloc (.cells #[j,n,o,m] 45)) (w9.alloc (.cells #[j,n,o,m] 45)).heap.size AB (Tr.ay u):=(Rd.alloc aa8 aR _).more (by simp)
 clear E Zn N aa7 aa8;obtain⟨U1,XE⟩:∃U1,U1=if b=true then Tr.dD (Tr.ay u) u.U d else u.U:=⟨_,rfl⟩
 have Rj:=aL XE;rw[<-XE]at Qe;clear XE;have YI:Hid (Tr.Ok U1 161):=aL (by
  rw[Rj.out]
  split
  ·exact Tr.xQ _ Bz.out HM.out.d0 HM.out.dl
  exact Bz.out.more (by omega))
 have hbl:(Tr.ay u).length<=1000000:=by have:=HP.out.bl;omega
 have HBL:=aL hbl;clear hbl;go_upto_region 12 with fail
 generalize w9.alloc (.cells #[j,n,o,m] 45)=w10 at*;generalize w9.heap.size=gy at*;have Q:aC w10 w10 A u.U:=((HU.out.below H).more H.size).up;go_upto_if 57 with fail
 go_cut [14] (λv wx=>∃A1 c1,v= .slice A1 U1.length c1/\aC wx wx A1 U1/\Below w10 w10 wx)
 case first=>
  cases b
  ·go_wp2
   go_meet
   case rel=>exact⟨A,c,by rw[Rj.out];rfl,by rw[Rj.out];exact Q,aa _ _⟩
  go_wp2_with fail;refine(nH A AB c cB u.U (Tr.ay u) d w10 Q hrB10 (Bz.out.more (by omega)) HBL.out HM.out.d0 HM.out.dl).mono ?_
  rintro e K ⟨v11,rfl,acF,Yw⟩;obtain⟨A11,c11,rfl,aaX,Yx⟩:=ag.rd acF;go_wp2;go_meet
  case rel=>exact⟨A11,c11,by rw[Rj.out];rfl,by rw[Rj.out];exact Yx,Yw⟩
 case rest=>
 clear Q Rj;obtain⟨A1,c1,rfl,hr1,a⟩:=hcut;generalize wc=K at*;have ER:=H.trans (a.mono H.size);have hq11:=hq10.below a hq10.lt;have Bl:=xG.below a xG.lt;have WV:aC K K AS S:=(Rd.below WU a).more a.size;have WW:aC K K AB (Tr.ay u):=(Rd.below hrB10 a).more a.size;clear a H hq10 xG WU hrB10;have J7:Hid (Tr.Ok (Tr.dD (Tr.ay u) U1 s) 242):=aL (Tr.xQ _ YI.out HM.out.s0 HM.out.sl);go_wp2_with fail;refine(nH A1 AB c1 cB U1 (Tr.ay u) s K hr1 WW (YI.out.more (by omega)) HBL.out HM.out.s0 HM.out.sl).mono ?_
 rintro e w12 ⟨v12,rfl,VE,a⟩;have IJ:=ER.trans (a.mono ER.size);have hq12:=hq11.below a hq11.lt;have Tu:=Bl.below a Bl.lt;have WX:aC w12 w12 AS S:=(Rd.below WV a).more a.size;have YJ:=a.size;have aa9:w.heap.size+1<K:=Bl.lt;generalize K.heap.size=bs at VE aa9 YJ;clear a ER hq11 Bl WV WW hr1 HBL;obtain⟨U2,Qd⟩:∃U2,U2=Tr.dD (Tr.ay u) U1 s.data.toList:=⟨_,rfl⟩;rw[<-Qd]at J7 VE Qe;clear Qd YI;have Rn:Hid (∀k,k<=S.length->Tr.Ok (Tr.fQ U2 (Tr.au (S.take k) s d)) 7000):=aL (λk hk=>by
  have hml:(Tr.au (S.take k) s d).length<=80:=by
   unfold Tr.au;rw[ib];refine eT (ko _ _) ?_
   rw[bR];have:=HP.out.sl;omega
  refine(Tr.J5 J7.out λe he=>HM.out.mv e ?_).more (by omega)
  obtain⟨y,hy,h1,h2⟩:=Tr.dm.1 he;exact Tr.dm.2 ⟨y,xV hy,h1,h2⟩)
 clear J7 Bz;have hSl:S.length<=80:=HP.out.sl;go_wp2
 go_loopw [14,68] (λv i wr=>∃(k:Nat),k<=S.length/\i= .int .i64 k/\ag wr bs v (Tr.fQ U2 (Tr.au (S.take k) s d))/\Below w12 w12 wr/\Below w w wr) (λ_ i _=>S.length- (intOf i).toNat)
 case atStart=>exact⟨0,bL _,rfl,VE,aa _ _,IJ⟩
 case round=>
  clear VE;obtain⟨k,hk,rfl,I,B,hB⟩:=hrel
  by_cases G:k<S.length
  ·obtain⟨b2,o2,hA,hbb,h0,h1,h2,h3⟩:=aC.at_ ((Rd.below WX B).more B.size) G
   subst hA;have VF:=aL (Rn.out k hk);have hkl:=VF.out.len;have HY:=aL (Tr.oI (s:=s.data.toList) (d:=d.data.toList) G);have qi:=aL (Tr.qP (s:=s.data.toList) (d:=d.data.toList) G);have OT:=aL (show Tr.mv s S[k].P->(Tr.dH s d S[k]).P≠[]/\(Tr.dH s d S[k]).p.size<=80/\(Tr.dH s d S[k]).t.size<4294967281 from λh=>HM.out.mv _ (Tr.dm.2 ⟨S[k],cz G,h,rfl⟩))
   have hzz:=(Sm.at_ (Tr.bn HP.out.sr) G).1
   generalize S[k]=z at h0 h1 h2 h3 HY qi OT hzz;obtain⟨j,n,o,m⟩:=z;dsimp only at h0 h1 h2 h3 hzz;obtain⟨LK,XG⟩:∃LK,LK=Tr.fQ U2 (Tr.au (S.take k) s d):=⟨_,rfl⟩;have Qg:=aL XG;rw[<-XG]at I VF hkl;clear XG;have Fb:=aL (Rf (s:=s) (d:=d) (y:=j) n o m)
   cases Ro:j.toList==s.toList
   rotate_left
   ·have hq:j.data.toList=s.data.toList:=by rw[aj]at Ro;simpa using Ro
    have J8:Hid (Tr.mv s j):=aL (.inl hq);have hle2:s.size<=j.size:=by rw[<-af s,<-af j,hq];exact aR
    clear hq;have Rt:=aL (Fb.out J8.out);have HN:=aL (HY.out J8.out);have O:=aL (OT.out J8.out);rw[Rt.out]at HN O;obtain⟨g,Jn⟩:∃g,g=d++j.extract s.size j.size:=⟨_,rfl⟩;rw[<-Jn]at HN O;clear HY qi OT Fb Rt;obtain⟨AK,cK,rfl,hcK,hrK⟩:=ag.rd I;have YK:aC (wr.alloc (.cells #[.string g,n,o,m] 45)) (wr.alloc (.cells #[.string g,n,o,m] 45)).heap.size AK LK:=(Rd.alloc hrK aR _).more (by simp)
    have Y:=B.trans ((aa wr wr).alloc aR (.cells #[.string g,n,o,m] 45)|>.mono B.size)
    have hBw:=hB.alloc hB.size (.cells #[.string g,n,o,m] 45);have hyw:=ai.new wr 45 [.string g,n,o,m];go_wp2_with fail
    try rw[<-Jn]
    refine(mO g.size AK cK LK ⟨g,n,o,m⟩ (wr.alloc (.cells #[.string g,n,o,m] 45)) YK (VF.out.more (by have h8:g.size<=80:=O.out.2.1;omega)) (by have h8:g.size<=80:=O.out.2.1;omega) O.out.1 (uE (af g)) (by show g.size<4294967281;have h8:g.size<=80:=O.out.2.1;omega) O.out.2.2).mono ?_
    rintro e Rh ⟨v20,rfl,D,F⟩;have D:ag Rh bs v20 _:=own_base D (eT YJ Y.size);go_wp2;go_roundw
    case rel=>exact⟨k+1,G,by go_num,by rw[HN.out,Tr.mZ,<-Qg.out];exact D,Y.trans (F.mono Y.size),hBw.trans (F.mono hBw.size)⟩
    case measure=>simp[intOf];omega
   have hq:¬j.data.toList=s.data.toList:=by rw[aj]at Ro;simpa using Ro
   go_wp2_with fail;refine(iC j s _ (by omega)).mono ?_
   rintro e w' ⟨rfl,rfl⟩
   cases tu:Pt.under j s
   rotate_left
   ·have J8:Hid (Tr.mv s j):=aL (.inr tu)
    have hle2:s.size<=j.size:=by
     have:=Tr.lN HM.out.s0 tu;rw[af,af]at this;omega
    clear hq;have Rt:=aL (Fb.out J8.out);have HN:=aL (HY.out J8.out);have O:=aL (OT.out J8.out);rw[Rt.out]at HN O;obtain⟨g,Jn⟩:∃g,g=d++j.extract s.size j.size:=⟨_,rfl⟩;rw[<-Jn]at HN O;clear HY qi OT Fb Rt;obtain⟨AK,cK,rfl,hcK,hrK⟩:=ag.rd I;have YK:aC (wr.alloc (.cells #[.string g,n,o,m] 45)) (wr.alloc (.cells #[.string g,n,o,m] 45)).heap.size AK LK:=(Rd.alloc hrK aR _).more (by simp)
    have Y:=B.trans ((aa wr wr).alloc aR (.cells #[.string g,n,o,m] 45)|>.mono B.size)
    have hBw:=hB.alloc hB.size (.cells #[.string g,n,o,m] 45);have hyw:=ai.new wr 45 [.string g,n,o,m];go_wp2_with fail
    try rw[<-Jn]
    refine(mO g.size AK cK LK ⟨g,n,o,m⟩ (wr.alloc (.cells #[.string g,n,o,m] 45)) YK (VF.out.more (by have h8:g.size<=80:=O.out.2.1;omega)) (by have h8:g.size<=80:=O.out.2.1;omega) O.out.1 (uE (af g)) (by show g.size<4294967281;have h8:g.size<=80:=O.out.2.1;omega) O.out.2.2).mono ?_
    rintro e Rh ⟨v20,rfl,D,F⟩;have D:ag Rh bs v20 _:=own_base D (eT YJ Y.size);go_wp2;go_roundw
    case rel=>exact⟨k+1,G,by go_num,by rw[HN.out,Tr.mZ,<-Qg.out];exact D,Y.trans (F.mono Y.size),hBw.trans (F.mono hBw.size)⟩
    case measure=>simp[intOf];omega
   have HN:=aL (qi.out (show¬(j.data.toList=s.data.toList\/Pt.under j s.data.toList=true)from λh=>h.elim hq (λh=>by rw[tu]at h;cases h)))
   clear HY qi OT hq;go_wp2;go_roundw
   case rel=>exact⟨k+1,G,by go_num,by rw[HN.out,<-Qg.out];exact aH I _,B.trans ((aa _ _).alloc B.size _),hB.alloc hB.size _⟩
   case measure=>simp[intOf];omega
  obtain rfl:k=S.length:=by omega
  rw[gN]at I;obtain⟨V,hV⟩:∃V,V=Tr.fQ U2 (Tr.au S s d):=⟨_,rfl⟩;have HF:=Qe;rw[<-hV]at HF I;clear hV Qe Rn;obtain⟨AV,cV,rfl,hcV,hrV⟩:=ag.rd I;have Zn:=hq12.below B hq12.lt;have N:=Tu.below B Tu.lt;have E:=hB;clear B hq12 Tu IJ hB WX;generalize wr=w9 at*;have cDn:=zW A A' AV c c' cV u V w9;have q:=Zn.two
  by_cases h80:80<V.length
  ·have HRR:=aL (HF.out.trans (K_ h80))
   simp only[aM h80]at cDn;clear HF h80;go_wp2_with fail;clear q;refine cDn.mono ?_
   rintro e w7 ⟨rfl,a⟩;have fM:=N.below a N.lt;have jV:=E.trans (a.mono E.size);have x:=fM.two;go_wp2_with fail;refine aD (v:= .tuple #[.agg #[(),()],(5:Int)]) ?_ rfl ?_
   ·simp[results,results26,go_sem,x]
   rw[HRR.out];exact dZ.none ((jV.setCell (p:=(w.heap.size+1:Nat)) (by show w.heap.size<=w.heap.size+1;omega) (.slice none 0 0)).setCell (p:=⟨w.heap.size+1,1,none⟩) (by show w.heap.size<=w.heap.size+1;omega) (.slice none 0 0))
  have HRR:=aL (HF.out.trans (EX h80));simp only[av h80]at cDn;clear HF h80;go_wp2_with fail;clear q;refine cDn.mono ?_
  rintro e w7 ⟨rfl,a⟩;have fM:=N.below a N.lt;have jV:=E.trans (a.mono E.size);have x:=fM.two;go_wp2_with fail;have hgz:w.heap.size+1<w9:=N.lt;have pG:ag w7 bs (.slice AV V.length cV) V:=own_below I a aR;have hne:some (w.heap.size+1)≠(Value.slice AV V.length cV).ownBlock:=own_ne pG (.inl aa9);refine aD (v:= .tuple #[.agg #[.slice AV V.length cV,.slice A' u.L.length c'],(0:Int)]) ?_ rfl ?_
  ·simp[results,results26,go_sem,x]
  rw[HRR.out];have sK:=((jV.setCell (p:=(w.heap.size+1:Nat)) (by show w.heap.size<=w.heap.size+1;omega) (.slice AV V.length cV)).setCell (p:=⟨w.heap.size+1,1,none⟩) (by show w.heap.size<=w.heap.size+1;omega) (.slice A' u.L.length c'))
  exact⟨_,_,_,_,rfl,EW Ul.out HXN.out sK (own_base (fH (fH pG hne 0 _) hne 1 _) (by omega)),sK⟩
def qE(p:Rl)(r:Rw)(x:Un×Int)(w:World)(e:Ending)(w':World):Prop:=
 e= .returned (.int .i64 (Rw.set r x).2)/\aO w' p (Rw.set r x).1/\Fr (λk=>k=p.g) w w'
theorem kD(p:Rl)(r:Rw)(A A':Option Addr)(c c':Nat)(x:Un×Int)(w:World)(h:aO w p r)(hu:x.2=0->Off p.X w λw=>bT w w A A' c c' x.1)(hs:x.2=0->iR x.1):Calls prog 59 #[.pointer p.g,.agg #[.slice A x.1.U.length c,.slice A' x.1.L.length c'],x.2] w (qE p r x w):=by
 obtain⟨u,err⟩:=x;dsimp only at hu hs ⊢;unfold qE;have HU:=aL hu;have HS:=aL hs;have HA:=aL h;clear hu hs;have D:Hid (err≠0->Rw.set r (u,err)=(r,err)):=aL (λO=>by unfold Rw.set;rw[aM O])
 have F:Hid (err=0->Rw.set r (u,err)=({r with u:=u,T:=(Tr.seenU u).1},(Tr.seenU u).2)):=aL (λO=>by unfold Rw.set;rw[av (by simp[O])])
 generalize Rw.set r (u,err)=R at*;have a:=(aa w w).alloc aR (.cells #[.slice A u.U.length c,.slice A' u.L.length c'] 33);have l:=ai.new w 33 [.slice A u.U.length c,.slice A' u.L.length c'];go_enter func59,ntmps59;go_upto_region 1 with fail
 generalize w.alloc (.cells #[.slice A u.U.length c,.slice A' u.L.length c'] 33)=K at*
 cases te:err==0
 ·have o:=aL (D.out (by simpa using te))
  go_wp2;go_ret;exact⟨by rw[o.out];rfl,by rw[o.out];exact HA.out.below a,Fr.of a⟩
 have I:err=0:=by simpa using te
 have o:=aL (F.out I);have G:=aL (HU.out I);have N:=aL (HS.out I);clear D F HU HS te;subst I;have y:=λW h=>lJ A A' c c' u W h N.out
 unfold kM at y;generalize Tr.seenU u=sp at y o;obtain⟨S,se⟩:=sp;dsimp only at y o;obtain⟨AU,AL,AT,cU,cL,cT,b,_,_,_⟩:=h.box;have m:=b.below a b.lt;have hgs:p.g<w:=b.lt;clear h;have z:=m.top;have q:=l.two;have v:¬w.heap.size=p.g:=by omega
 have hne2:¬p.g=w.heap.size:=by omega
 go_upto_region 3 with fail
 have n:ai ((K.setCell ⟨p.g,0,none⟩ (.slice A u.U.length c)).setCell ⟨p.g,1,none⟩ (.slice A' u.L.length c')) p.g 107 (.slice A u.U.length c:: .slice A' u.L.length c':: .slice AT r.T.length cT::p.vO::p.vD::mJ r.fds):=(m.bY 0 _).bY 1 _;have H:=(l.far (p:=p.g) v (.slice A u.U.length c)).far (p:=⟨p.g,1,none⟩) v (.slice A' u.L.length c');have i:Fr (λk=>k=p.g) w ((K.setCell ⟨p.g,0,none⟩ (.slice A u.U.length c)).setCell ⟨p.g,1,none⟩ (.slice A' u.L.length c')):=((Fr.of a).at_ 0 _).at_ 1 _
 clear z q a l m b;generalize (K.setCell ⟨p.g,0,none⟩ (.slice A u.U.length c)).setCell ⟨p.g,1,none⟩ (.slice A' u.L.length c')=w2 at*;have j:Sub w (λk=>k=p.g) p.X:=λ_ _ e=> .inl (.inl e)
 have q:=H.two;go_wp2_with fail;clear q;refine(y w2 ((G.out.on (i.wide j) (Sub.refl _ _)).here)).mono ?_
 rintro e M ⟨v3,rfl,B,Q⟩;have Y:=i.bf Q;have E:=n.below Q n.lt;obtain⟨A3,c3,rfl,hc3,Z⟩:=ag.off B (X:=p.X) λk hk=>bE (HA.out.mX hk) i.size
 clear Q B n H i y;have z:=E.top;go_wp2;go_ret;have V:ai (M.setCell ⟨p.g,2,none⟩ (.slice A3 S.length c3)) p.g 107 (.slice A u.U.length c:: .slice A' u.L.length c':: .slice A3 S.length c3::p.vO::p.vD::mJ r.fds):=E.bY 2 _;have t:Fr (λk=>k=p.g) w (M.setCell ⟨p.g,2,none⟩ (.slice A3 S.length c3)):=Y.at_ 2 _
 refine⟨by rw[o.out];rfl,?_,t⟩
 rw[o.out];exact HA.out.XM t V (G.out.on (t.wide j) (Sub.refl _ _)) (Z.on (Fr.set M (.inl (.inl rfl)) _) (Sub.refl _ _)) hc3
theorem Rw.nY{r:Rw}{i:Nat}(hi:i<r.objs.length):Rw.obAt r i=r.objs[i]:=by
 unfold Rw.obAt;rw[bi,bA hi];rfl
theorem Rw.oV{r:Rw}{i:Nat}(h:(Rw.obAt r i).p.data.toList=[]):Rw.textOf r i=(Rw.obAt r i).t:=aM h
theorem Rw.sQ{r:Rw}{i:Nat}(h:¬(Rw.obAt r i).p.data.toList=[]):Rw.textOf r i=((Tr.get r.T (Rw.obAt r i).p.data.toList).getD En.zero).t:=by
 unfold Rw.textOf;rw[av (show¬(Rw.obAt r i).P=[]from h)]
 show(match Tr.get r.T (Rw.obAt r i).p.data.toList with|some e=>e.t|none=>Sy.noE)=_
 cases Tr.get r.T (Rw.obAt r i).p.data.toList<;>rfl
theorem h_(p:Rl)(r:Rw)(i:Nat)(w:World)(h:aO w p r)(hl:i<r.objs.length)(hT:r.T.length<=2000000):Calls prog 126 #[.pointer p.g,i] w λe w'=>e= .returned (.string (Rw.textOf r i))/\Below w w w':=by
 obtain⟨AU,AL,F,cU,cL,M,_,_,O,N,_,_,u,_,_,m⟩:=h.cells;obtain⟨b,c,A,cl,hv,V,hbg,K,f1,_,_,_,_⟩:=h.ob hl;rw[hv]at N;have u:aC w w F r.T:=u.here;have x:=Rw.oV (r:=r) (i:=i);have B:=Rw.sQ (r:=r) (i:=i);rw[Rw.nY hl]at x B;obtain⟨R,E⟩:∃R,R=Rw.textOf r i:=⟨_,rfl⟩;rw[<-E]at x B;rw[<-E];replace x:=aL x;replace B:=aL B;have Nw:(0:Int)<=(i:Int):=gD _;have ib2:(i:Int)<(r.objs.length:Int):=by omega
 clear E h hv;generalize r.objs[i]=o at*;generalize r.objs.length=n at*;obtain⟨I,t,l⟩:=o;dsimp only at K f1 x B;generalize r.T=T at*;generalize p.g=g at*;go_enter func126,ntmps126
 rcases aG I with⟨Q,e1,e2⟩|⟨Q,e1,e2⟩
 ·have L:=aL (x.out Q)
  go_wp2;go_ret;exact⟨by rw[L.out];rfl,aa _ _⟩
 have L:=aL (B.out Q);have cG:=λW h=>a_ F M T I W h (by omega)
 clear x B;have E:∀W,Below w w W->aC W W F T:=λW q=>(Rd.below u q).more q.size
 have D:Below w w w.drew:=(aa _ w).drew;have v:Below w w (w.alloc (.cells #[Qs.e,(0:Int),Qs.e,false] 45)).drew:=((aa _ w).alloc aR _).drew;have Z:ai (w.alloc (.cells #[Qs.e,(0:Int),Qs.e,false] 45)).drew w 45 [Qs.e,(0:Int),Qs.e,false]:=ai.new w _ _;have hn1:¬w.heap.size=g:=by omega
 have hn2:¬w.heap.size=b:=by omega
 have hn3:¬g=w.heap.size:=by omega
 have hn4:¬b=w.heap.size:=by omega
 go_upto_region 3 with fail
 go_region_held3 (λW=>W.cell? ⟨g,2,none⟩=some (.slice F T.length M)/\W.cell? ⟨g,3,none⟩=some (.slice b n c)/\W.cell? ⟨b,i*3,none⟩=some (.string I))
  (first|exact⟨O,N,K⟩|exact G|exact hS7|go_keep)
  (first|(go_at_call 43;refine(cG w.drew (E _ D)).mono ?_;rintro e j ⟨r,rfl,S,k⟩;obtain⟨y,H⟩:∃y,y=r.getD En.zero:=⟨_,rfl⟩;rw[<-H];obtain⟨yp,yk,Y,yo⟩:=y;simp only[En.agg,En.cells];have a:Below w w j:=D.trans (k.mono D.size);have G:j.cell? ⟨g,2,none⟩=some (.slice F T.length M)/\j.cell? ⟨g,3,none⟩=some (.slice b n c)/\j.cell? ⟨b,i*3,none⟩=some (.string I):=⟨(a.cell (p:=⟨g,2,none⟩) m).trans O,(a.cell (p:=⟨g,3,none⟩) m).trans N,(a.cell (p:=⟨b,i*3,none⟩) V).trans K⟩)|(go_at_call 43;refine(cG (w.alloc (.cells #[Qs.e,(0:Int),Qs.e,false] 45)).drew (E _ v)).mono ?_;rintro e j ⟨r,rfl,S,k⟩;obtain⟨y,H⟩:∃y,y=r.getD En.zero:=⟨_,rfl⟩;rw[<-H];obtain⟨yp,yk,Y,yo⟩:=y;simp only[En.agg,En.cells];have a:Below w w j:=v.trans (k.mono v.size);have G:j.cell? ⟨g,2,none⟩=some (.slice F T.length M)/\j.cell? ⟨g,3,none⟩=some (.slice b n c)/\j.cell? ⟨b,i*3,none⟩=some (.string I):=⟨(a.cell (p:=⟨g,2,none⟩) m).trans O,(a.cell (p:=⟨g,3,none⟩) m).trans N,(a.cell (p:=⟨b,i*3,none⟩) V).trans K⟩;have z:=(Z.below k Z.lt).four))
 all_goals
  have U:Hid (R=Y):=aL (by rw[L.out,<-S,<-H])
  clear H S L;go_wp2;go_ret;refine⟨by rw[U.out];rfl,?_⟩
  first|exact a.alloc a.size _|exact(((a.setCell (p:=w.heap.size) aR _).setCell (p:=⟨w.heap.size,1,none⟩) aR _).setCell (p:=⟨w.heap.size,2,none⟩) aR _).setCell (p:=⟨w.heap.size,3,none⟩) aR _
def Tv(p:Rl)(r:Rw×Int)(w:World)(e:Ending)(w':World):Prop:=
 e= .returned (.int .i64 r.2)/\aO w' p r.1/\Fr p.C w w'
theorem qE.rel{p:Rl}{r:Rw}{x:Un×Int}{w w':World}{e:Ending}(h:qE p r x w e w'):Tv p (Rw.set r x) w e w':=⟨h.1,h.2.1,h.2.2.wide λ_ _ e=> .inl e⟩
theorem Rw.PM(r:Rw)(i:Nat)(s:ByteArray):Sy.fileEn (Rw.obAt r i).P s=⟨(Rw.obAt r i).p,1,s,false⟩:=rfl
theorem Dz(p:Rl)(r:Rw)(i:Nat)(s:ByteArray)(w:World)(h:aO w p r)(hl:i<r.objs.length)(hu:iR r.u)(hT:r.T.length<=2000000)(hpz:(Rw.obAt r i).p.size<=1000000)(hsz:s.size<=1000000)(hsm:(Tr.putU r.u (Sy.fileEn (Rw.obAt r i).P s)).2=0->iR (Tr.putU r.u (Sy.fileEn (Rw.obAt r i).P s)).1):Calls prog 128 #[.pointer p.g,i,s] w (Tv p (Rw.put r i s) w):=by
 obtain⟨AU,AL,AT,cU,cL,cT,g0,g1,_,g3,_,G,_,_,_,y⟩:=h.cells;obtain⟨b,c,A,cl,Z,fz,hbg,N,f1,_,_,_,ff⟩:=h.ob hl;have Q:=h_ p r i w h hl hT;have HA:=aL h;have HV:=aL Z;have D:=aL G;have O:=aL hu;rw[Z]at g3;unfold Tv;obtain⟨R,E⟩:∃R,R=Rw.put r i s:=⟨_,rfl⟩;rw[<-E];unfold Rw.put at E;rw[Rw.PM]at E hsm;have j:=aL E;have m:=aL hsm;clear E h G hsm Z hu;rw[Rw.nY hl]at j m hpz;have Nw:(0:Int)<=(i:Int):=gD _;have ib2:(i:Int)<(r.objs.length:Int):=by omega
 generalize r.objs[i]=o at*;generalize hnn:r.objs.length=n at*;have HNN:=aL hnn;clear hnn;obtain⟨F,t,l⟩:=o;have hP:(⟨F,t,l⟩:Ob).P=F.data.toList:=rfl;rw[hP]at j;dsimp only at N f1 j m hpz;clear hP;go_enter func128,ntmps128
 rcases aG F with⟨S,e1,e2⟩|⟨S,e1,e2⟩
 ·have v:=aL (j.out.trans (aM S))
  clear j;go_wp2;go_ret;have L:Fr (λk=>p.vO.ownBlock=some k) w (w.setCell ⟨b,i*3+1,none⟩ (.string s)):=Fr.set (X:=λk=>p.vO.ownBlock=some k) w (by rw[HV.out];rfl) _
  refine⟨by rw[v.out];rfl,?_,L.wide λ_ _ e=> .inr (.inl e)⟩
  rw[v.out];exact HA.out.set1 (by rw[HNN.out];exact HV.out) i s
 have j:=aL (j.out.trans (av S));obtain⟨tx,z⟩:∃tx,tx=Rw.textOf r i:=⟨_,rfl⟩;rw[<-z]at j Q;clear z;go_wp2_with fail;refine Q.mono ?_
 rintro e H ⟨rfl,a⟩;have x:=aL (HA.out.below a);have g0:=(a.cell (p:=p.g) y).trans g0;have g1:=(a.cell (p:=⟨p.g,1,none⟩) y).trans g1;have g3:=(a.cell (p:=⟨p.g,3,none⟩) y).trans g3;have N:=(a.cell (p:=⟨b,i*3,none⟩) fz).trans N;have Y:=aL (D.out.on (Fr.of (X:=p.X) a) (Sub.refl _ _))
 cases I:s.toList==tx.toList
 rotate_left
 ·have v:=aL (j.out.trans (aM (by rw[aj]at I;simpa using I)))
  clear j;go_wp2;go_ret;exact⟨by rw[v.out];rfl,by rw[v.out];exact x.out,Fr.of a⟩
 have v:=aL (j.out.trans (av (by rw[aj]at I;simpa using I)))
 clear j Q D;have cP:=λW q q2=>qC p.X AU AL cU cL r.u F 1 s false W q q2 O.out (by omega) (by omega)
 generalize Tr.putU r.u ⟨F,1,s,false⟩=q at cP v m;go_upto_region 6 with fail
 go_region_with (first|(go_at_call 21;refine(cP _ (Y.out.on (Fr.of (X:=p.X) (aa _ H).drew) (Sub.refl _ _)) (λk hk=>x.out.mX hk)).mono ?_;rintro e w6 ⟨A6,U,c6,V,rfl,K,B⟩)|(go_at_call 59;refine(kD p r A6 U c6 V q w6 (x.out.below (((aa _ H).drew).trans B)) (λ_=>K) m.out).mono ?_;rintro e w7 ⟨rfl,iU,M⟩))
 all_goals
  go_wp2;go_ret;exact⟨by rw[v.out];rfl,by rw[v.out];exact iU,(((Fr.of a:Fr p.C w H).bf ((aa _ H).drew)).bf B).trans M λ_ _ e=> .inl e⟩
namespace Rw
open Tryz
def jP(r:Rw)(q:Pt.Bs)(k:Nat):Rw:={r with objs:=r.objs.mapIdx λi o=>if i<k/\o.P=q then{o with t:=textOf r i,p:=Sy.noE}else o}
theorem La(r:Rw)(q:Pt.Bs):jP r q 0=r:=by
 unfold jP;have e:(r.objs.mapIdx λi o=>if i<0/\o.P=q then{o with t:=textOf r i,p:=Sy.noE}else o)=r.objs:=by
  apply lv
  intro j;rw[j5]
  cases r.objs[j]? <;>simp
 rw[e]
theorem PN(r:Rw)(q:Pt.Bs):jP r q r.objs.length=gone r q:=by
 unfold jP gone;have e:(r.objs.mapIdx λi o=>if i<r.objs.length/\o.P=q then{o with t:=textOf r i,p:=Sy.noE}else o)=r.objs.mapIdx λi o=>if o.P=q then{o with t:=textOf r i,p:=Sy.noE}else o:=by
  apply lv
  intro j;rw[j5,j5]
  rcases iB j r.objs.length with h|h
  ·rw[bA h];simp[h]
  rw[j4 h];rfl
 rw[e]
theorem rJ(r:Rw)(q:Pt.Bs)(k:Nat):(jP r q k).objs.length=r.objs.length:=by unfold jP;simp
theorem IL{r:Rw}{q:Pt.Bs}{k:Nat}(hk:k<r.objs.length):obAt (jP r q k) k=r.objs[k]:=by
 rw[nY (by rw[rJ];exact hk)]
 unfold jP;simp
theorem Lc{r:Rw}{q:Pt.Bs}{k:Nat}(hk:k<r.objs.length):textOf (jP r q k) k=textOf r k:=by
 unfold textOf;rw[IL hk,nY hk]
 rfl
theorem Ld{r:Rw}{q:Pt.Bs}{k:Nat}(hk:k<r.objs.length)(h:r.objs[k].P≠q):jP r q (k+1)=jP r q k:=by
 unfold jP
 congr 1
 apply lv
 intro j;rw[j5,j5]
 rcases iB j r.objs.length with a|a
 ·rw[bA a]
  by_cases e:j=k
  ·subst e;simp[h]
  have:(j<k+1)↔j<k:=by omega
  simp[this]
 rw[j4 a];rfl
theorem PO{r:Rw}{q:Pt.Bs}{k:Nat}(hk:k<r.objs.length)(h:r.objs[k].P=q):jP r q (k+1)=setOb (setOb (jP r q k) k λo=>{o with t:=textOf r k}) k λo=>{o with p:=Sy.noE}:=by
 unfold jP setOb;dsimp only
 congr 1
 apply lv
 intro j;rw[mR,mR,j5,j5]
 rcases iB j r.objs.length with a|a
 ·rw[bA a]
  by_cases e:j=k
  ·subst e;simp[h]
  have:(j<k+1)↔j<k:=by omega
  simp[this,Fy e]
 rw[j4 a];rfl
end Rw
theorem zZ(p:Rl)(r:Rw)(pa:ByteArray)(w:World)(h:aO w p r)(hT:r.T.length<=2000000)(hn:r.objs.length<=2000000):Calls prog 102 #[.pointer p.g,pa] w λe w'=>e= .returned (.tuple #[])/\aO w' p (Rw.gone r pa)/\Fr p.C w w':=by
 have hA:=aL h;obtain⟨_,_,_,_,_,_,_,_,_,t,_,_,_,_,_,v⟩:=h.cells;obtain⟨AO,cO,m⟩:∃A c,p.vO= .slice A r.objs.length c:=by
  obtain⟨vs,h1⟩:=h.own;exact iI h1
 rw[m]at t;have HV:=aL m;clear h m;go_enter func102,ntmps102;go_wp2_with fail;clear t v
 go_loopw [10] (λj wr=>∃k:Nat,k<=r.objs.length/\j= .int .i64 k/\Hid (aO wr p (Rw.jP r pa k))/\Fr p.C w wr) (λj _=>r.objs.length- (intOf j).toNat)
 case atStart=>exact⟨0,bL _,rfl,aL (by rw[Rw.La];exact hA.out),Fr.refl _ _⟩
 case round=>
  obtain⟨k,hk,rfl,l,V⟩:=hrel
  by_cases i:k<r.objs.length
  ·have n:k<(Rw.jP r pa k).objs.length:=by rw[Rw.rJ];exact i
   have y:=λW q=>h_ p _ k W q n hT
   rw[Rw.Lc i]at y;obtain⟨_,_,_,_,_,_,_,_,_,t,_,_,_,_,_,v⟩:=l.out.cells;obtain⟨b,c,A,cl,m,M,Z,D,E,_,_,_,ff⟩:=l.out.ob n;rw[Rw.rJ]at m;rw[m]at t;rw[<-Rw.nY n,Rw.IL i]at D E;have S:=aL m;have G:=aL (Rw.Ld (r:=r) (q:=pa.data.toList) i);have F:=aL (Rw.PO (r:=r) (q:=pa.data.toList) i);have Nw:(0:Int)<=(k:Int):=gD _;have ib2:(k:Int)<(r.objs.length:Int):=by omega
   clear m;obtain⟨tx,B⟩:∃tx,tx=Rw.textOf r k:=⟨_,rfl⟩;rw[<-B]at F y;clear B;obtain⟨o,ho⟩:∃o,o=r.objs[k]:=⟨_,rfl⟩;rw[<-ho]at D E G F;clear ho;obtain⟨I,ot,ol⟩:=o;have hP:(⟨I,ot,ol⟩:Ob).P=I.data.toList:=rfl;rw[hP]at G F;dsimp only at D E;clear hP;obtain⟨q,N⟩:∃q,q=Rw.jP r pa k:=⟨_,rfl⟩;have O:Hid (q.objs.length=r.objs.length):=aL (by rw[N,Rw.rJ])
   rw[<-N]at l G F y;clear N
   cases H:I.toList==pa.toList
   ·have HS:=aL (G.out λq=>by rw[aj]at H;simp[q]at H)
    clear y;go_wp2;go_roundw
    case rel=>exact⟨k+1,i,by go_num,aL (by rw[HS.out];exact l.out),V⟩
    case measure=>simp[intOf];omega
   have HS:=aL (F.out (by rw[aj]at H;simpa using H))
   have x:Below wr wr wr.drew:=(aa _ wr).drew;have K:=aL (l.out.below x);go_upto_region 4 with fail
   go_region_held3 (λW=>W.cell? ⟨p.g,3,none⟩=some (.slice b r.objs.length c))
    (first|exact t|exact Y|go_keep)
    (first|(go_at_call 126;refine(y _ K.out).mono ?_;rintro e z ⟨rfl,Q⟩;have a:Below wr wr z:=x.trans (Q.mono x.size);have Y:z.cell? ⟨p.g,3,none⟩=some (.slice b r.objs.length c):=(a.cell (p:=⟨p.g,3,none⟩) v).trans t;have ff6:∀j,z.frozen? ⟨b,j,none⟩=false:=(λj=>(World.frozen?_of_block (a.block b M)).trans (ff j));have f16:z.cell? ⟨b,k*3+1,none⟩=some (.string ot):=(a.cell (p:=⟨b,k*3+1,none⟩) M).trans E;have f06:z.cell? ⟨b,k*3,none⟩=some (.string I):=(a.cell (p:=⟨b,k*3,none⟩) M).trans D))
   all_goals
    have U:=l.out.below a;have L:=V.bf a;have hne1:¬p.g=b:=λe=>Z e.symm
    clear t D E ff y;go_wp2;go_roundw
    case rel=>
     have u:p.vO= .slice b q.objs.length c:=by rw[O.out];exact S.out
     have h9:=(U.set1 u k tx).set0 (by rw[u];unfold Rw.setOb;rw[gP]) k ⟨#[]⟩
     refine⟨k+1,i,by go_num,aL ?_,?_⟩
     ·rw[HS.out];exact h9
     have hc:p.C b:= .inr (.inl (by rw[u];rfl))
     exact Fr.setCell (X:=p.C) (Fr.setCell (X:=p.C) L (p:=⟨b,k*3+1,none⟩) hc _) (p:=⟨b,k*3,none⟩) hc _
    case measure=>simp[intOf];omega
  have ek:k=r.objs.length:=by omega
  subst ek;rw[Rw.PN]at l;go_wp2_with fail;refine BS (AR results102 _ _ _) rfl ?_
  exact⟨rfl,l.out,V⟩
end Go.Proofs.YtjppfhgkanbemabGreatDoor
