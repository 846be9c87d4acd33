/- A part of the proof of SysTells: RwOpen. -/
import Derived.Test.YtjppfhgkanbemabGreatDoorRC
set_option maxHeartbeats 8000000
set_option maxRecDepth 100000
set_option linter.all false
namespace Go.Proofs.YtjppfhgkanbemabGreatDoor
open Tryz
open Go.RowKit Go.Shelf Go.Sort
theorem LC(p:Rl)(r:Rw)(c:Ca)(w:World)(h:aO w p r)(hk:jr r)(hcs:jK c)(ho0:0<=c.owner)(dI:c.owner<4):Calls prog 99 #[.pointer p.g,.agg #[c.kind,c.owner,c.fd,c.n,c.m,c.path,c.to,c.text,c.alone]] w (iJ p (Rw.callOpen r c) w):=by
 obtain⟨R,hR⟩:∃R,R=Rw.callOpen r c:=⟨_,rfl⟩;rw[<-hR];obtain⟨ck,co,cf,l,cm,U,ct,cx,ca⟩:=c;unfold Rw.callOpen at hR;dsimp only at hR ho0 dI hcs ⊢;obtain⟨Q,rfl⟩:∃m:Nat,co=m:=⟨co.toNat,by omega⟩
 rw[mH]at hR;have M:=aL hR;have HK:=aL hk;have hcp:U.size<=1048576:=hcs.1;have kZ:Q<4:=by omega
 have hga:w.heap.size<=w.heap.size+1:=by omega
 have hgs:p.g<w:=h.bz h.rH;have uu:=aL (λk (hk:p.C k)=>h.bz hk)
 have hbg:p.g≠w.heap.size:=by omega
 have EG:w.heap.size≠p.g:=by omega
 have hB0:=((aa w w).alloc aR (.cells #[ck,Q,cf,l,cm,U,ct,cx,ca] 24)).alloc (((aa w w).alloc aR (.cells #[ck,Q,cf,l,cm,U,ct,cx,ca] 24)).size) (.cells #[(0:Int),(0:Int),Qs.e,()] 43);have hA0:=(h.below ((aa w w).alloc aR (.cells #[ck,Q,cf,l,cm,U,ct,cx,ca] 24))).plus (.cells #[(0:Int),(0:Int),Qs.e,()] 43);have hz0:=ai.new (w.alloc (.cells #[ck,Q,cf,l,cm,U,ct,cx,ca] 24)) 43 [(0:Int),(0:Int),Qs.e,()];have hc0:=(ai.new w 24 [ck,Q,cf,l,cm,U,ct,cx,ca]).alloc (.cells #[(0:Int),(0:Int),Qs.e,()] 43);rw[bX]at hA0 hz0;clear hR hk hcs h ho0 dI;go_enter func99,ntmps99;go_upto_region 1 with fail
 generalize (w.alloc (.cells #[ck,Q,cf,l,cm,U,ct,cx,ca] 24)).alloc (.cells #[(0:Int),(0:Int),Qs.e,()] 43)=w0 at*;have z:=hz0.four;obtain⟨c0,c1,c2,j,c4,c5,c6,c7,c8⟩:=hc0.nine;obtain⟨bad,hbad⟩:∃x,x=Sy.dX l:=⟨_,rfl⟩;have HBAD:=aL hbad;have WY:Hid (bad=false->1<=l/\l<=63):=aL λh=>by
  rcases si (l<1\/63<l)with q|q
  ·rw[hbad,wB q]at h;cases h
  omega
 have HR0:=aL M.out;rw[<-hbad]at HR0;clear hbad M;go_upto_region 2 with fail
 go_cut [55]from 16 to 54 (λv S=>v= .bool bad/\w0=S)
 case first=>
  cases u1:decide (l<1)
  rotate_left
  ·have N:Hid (bad=true):=aL (HBAD.out.trans (wB (.inl (iA u1))))
   go_wp2;go_meet
   case rel=>exact⟨by rw[N.out],rfl⟩
  cases u2:decide (63<l)
  rotate_left
  ·have N:Hid (bad=true):=aL (HBAD.out.trans (wB (.inr (iA u2))))
   go_wp2;go_meet
   case rel=>exact⟨by rw[N.out],rfl⟩
  have hn1:1<=l:=by have:=j6 u1;omega
  have hn2:l<=63:=by have:=j6 u2;omega
  have N:=aL (HBAD.out.trans (TL hn1 hn2));have YO:∀W:World,W.cell? ⟨w.heap.size,3,none⟩=some (.int .i64 l)->Calls prog 124 #[(1:Int),.pointer w] W λe w'=>e= .returned (.bool (Sy.bit l 0))/\w'=W:=λW q=>lK w l 0 W q (by omega) hn2
  have YP:∀W:World,W.cell? ⟨w.heap.size,3,none⟩=some (.int .i64 l)->Calls prog 124 #[(2:Int),.pointer w] W λe w'=>e= .returned (.bool (Sy.bit l 1))/\w'=W:=λW q=>lK w l 1 W q (by omega) hn2
  have YQ:∀W:World,W.cell? ⟨w.heap.size,3,none⟩=some (.int .i64 l)->Calls prog 124 #[(4:Int),.pointer w] W λe w'=>e= .returned (.bool (Sy.bit l 2))/\w'=W:=λW q=>lK w l 2 W q (by omega) hn2
  have I:∀W:World,W.cell? ⟨w.heap.size,3,none⟩=some (.int .i64 l)->Calls prog 124 #[(8:Int),.pointer w] W λe w'=>e= .returned (.bool (Sy.bit l 3))/\w'=W:=λW q=>lK w l 3 W q (by omega) hn2
  have G:∀W:World,W.cell? ⟨w.heap.size,3,none⟩=some (.int .i64 l)->Calls prog 124 #[(16:Int),.pointer w] W λe w'=>e= .returned (.bool (Sy.bit l 4))/\w'=W:=λW q=>lK w l 4 W q (by omega) hn2
  have H:∀W:World,W.cell? ⟨w.heap.size,3,none⟩=some (.int .i64 l)->Calls prog 124 #[(32:Int),.pointer w] W λe w'=>e= .returned (.bool (Sy.bit l 5))/\w'=W:=λW q=>lK w l 5 W q (by omega) hn2
  generalize Sy.bit l 0=b0 at*;generalize Sy.bit l 1=b1 at*;generalize Sy.bit l 2=b2 at*;generalize Sy.bit l 3=b3 at*;generalize Sy.bit l 4=b4 at*;generalize Sy.bit l 5=b5 at*
  cases b0
  cases b1
  rotate_left
  cases b4
  rotate_left
  cases b3
  rotate_left
  rotate_left
  cases b1
  cases b2
  cases b5
  cases b4
  rotate_left
  cases b3
  iterate 4 rotate_left
  cases b4
  rotate_left
  cases b3
  all_goals
   go_wp2_with (go_at_call 124;first|(with_reducible change Calls _ _ #[Value.int .i64 1,_] _ _;refine(YO _ j).mono ?_;rintro e B ⟨rfl,rfl⟩)|(with_reducible change Calls _ _ #[Value.int .i64 2,_] _ _;refine(YP _ j).mono ?_;rintro e B ⟨rfl,rfl⟩)|(with_reducible change Calls _ _ #[Value.int .i64 4,_] _ _;refine(YQ _ j).mono ?_;rintro e B ⟨rfl,rfl⟩)|(with_reducible change Calls _ _ #[Value.int .i64 8,_] _ _;refine(I _ j).mono ?_;rintro e B ⟨rfl,rfl⟩)|(with_reducible change Calls _ _ #[Value.int .i64 16,_] _ _;refine(G _ j).mono ?_;rintro e B ⟨rfl,rfl⟩)|(with_reducible change Calls _ _ #[Value.int .i64 32,_] _ _;refine(H _ j).mono ?_;rintro e B ⟨rfl,rfl⟩))
   go_meet
   case rel=>exact⟨by rw[N.out];rfl,rfl⟩
 case rest=>
 obtain⟨rfl,rfl⟩:=hcut;clear HBAD
 rcases bad with _|_
 rotate_left
 ·have HF:Hid (R=(r,.no 8)):=aL (HR0.out.trans (aM rfl))
  clear HR0;go_wp2_with fail;refine(aA 8 _).mono ?_
  rintro e9 w9 ⟨rfl,E⟩;have Y:=hA0.below E;have pg:=hz0.below E hz0.lt;have K:=(Fr.of hB0:Fr p.C w w0).bf E;clear z c0 c1 c2 j c4 c5 c6 c7 c8;have z:=pg.four;go_wp2_with fail;refine aD (v:= .agg #[(8:Int),(0:Int),Qs.e,()]) ?_ rfl ?_
  ·simp[results,results99,go_sem,z]
  rw[HF.out];exact aZ (a:=(.no 8)) hga Y rfl rfl K (Sub.refl _ _) rfl
 have HN:=aL (WY.out rfl);have M:=aL (HR0.out.trans (av (by decide)))
 clear HR0 WY;have hn1:1<=l:=HN.out.1;have hn2:l<=63:=HN.out.2;have Pv:=λ(W:World) (q:aO W (p.plus (w.heap.size+1)) r)=>q.free HK.out kZ
 have Ju:=aL (λk=>HK.out.uI (k:=k) kZ)
 generalize Rw.free r Q=fr at Pv M Ju;go_wp2_with fail;refine(Pv w0 hA0).mono ?_
 rintro e w4 ⟨rfl,rfl⟩
 rcases fr with _|k
 ·have HF:Hid (R=(r,.no 5)):=aL M.out
  have tl:((((none:Option Nat).getD 8:Nat):Int)==8)=true:=rfl;clear M;go_wp2_with fail;refine(aA 5 _).mono ?_
  rintro e9 w9 ⟨rfl,E⟩;have Y:=hA0.below E;have pg:=hz0.below E hz0.lt;have K:=(Fr.of hB0:Fr p.C w w0).bf E;clear z c0 c1 c2 j c4 c5 c6 c7 c8;have z:=pg.four;go_wp2_with fail;refine aD (v:= .agg #[(5:Int),(0:Int),Qs.e,()]) ?_ rfl ?_
  ·simp[results,results99,go_sem,z]
  rw[HF.out];exact aZ (a:=(.no 5)) hga Y rfl rfl K (Sub.refl _ _) rfl
 have hk9:=Ju.out k rfl;have M:=aL (show R=if(Sy.find r.T U (!Sy.bit l 4)).2≠0 then(r,.no (Sy.find r.T U (!Sy.bit l 4)).2)else
   if(Rw.openSet r l (Sy.find r.T U (!Sy.bit l 4)).1).2≠0 then((Rw.openSet r l (Sy.find r.T U (!Sy.bit l 4)).1).1,.no (Rw.openSet r l (Sy.find r.T U (!Sy.bit l 4)).1).2)else
   (Rw.setFd {(Rw.opened (Rw.openSet r l (Sy.find r.T U (!Sy.bit l 4)).1).1 (Sy.find r.T U (!Sy.bit l 4)).1).1 with des:=(Rw.opened (Rw.openSet r l (Sy.find r.T U (!Sy.bit l 4)).1).1 (Sy.find r.T U (!Sy.bit l 4)).1).1.des++[⟨(Rw.opened (Rw.openSet r l (Sy.find r.T U (!Sy.bit l 4)).1).1 (Sy.find r.T U (!Sy.bit l 4)).1).2,l,0⟩]} Q k (some (Rw.opened (Rw.openSet r l (Sy.find r.T U (!Sy.bit l 4)).1).1 (Sy.find r.T U (!Sy.bit l 4)).1).1.des.length),.num k)from M.out)
 rw[show(((some k:Option Nat).getD 8:Nat):Int)=(k:Int)from rfl]
 have tl:((k:Int)==8)=false:=by simp only[fq];omega
 clear Pv Ju;have I:∀W:World,W.cell? ⟨w.heap.size,3,none⟩=some (.int .i64 l)->Calls prog 124 #[(8:Int),.pointer w] W λe w'=>e= .returned (.bool (Sy.bit l 3))/\w'=W:=λW q=>lK w l 3 W q (by omega) hn2
 have G:∀W:World,W.cell? ⟨w.heap.size,3,none⟩=some (.int .i64 l)->Calls prog 124 #[(16:Int),.pointer w] W λe w'=>e= .returned (.bool (Sy.bit l 4))/\w'=W:=λW q=>lK w l 4 W q (by omega) hn2
 have H:∀W:World,W.cell? ⟨w.heap.size,3,none⟩=some (.int .i64 l)->Calls prog 124 #[(32:Int),.pointer w] W λe w'=>e= .returned (.bool (Sy.bit l 5))/\w'=W:=λW q=>lK w l 5 W q (by omega) hn2
 have cF:=λ(W:World) (q:aO W (p.plus (w.heap.size+1)) r)=>kC _ r U (!Sy.bit l 4) W q HK.out.right (by have:=HK.out.tl;omega) (by omega)
 unfold iL at cF;have Yg:=aL (fO (T:=r.T) (q:=U.data.toList) (fo:= !Sy.bit l 4));generalize Sy.find r.T U (!Sy.bit l 4)=fr at cF M Yg;obtain⟨ra,re⟩:=fr;dsimp only at cF M Yg;simp only[dV]at cF;have uN:=aL (dF ra);obtain⟨rs,hrs⟩:∃rs,rs=Sy.bytesOf ra:=⟨_,rfl⟩;have zY:=aL hrs;rw[<-hrs]at Yg uN;simp only[<-hrs]at cF;clear hrs;generalize hb4:Sy.bit l 4=b4 at G cF;go_upto_region 7 with fail
 go_cut [7,8]from 64 to 73 (λv7 v8 S=>v7= .string rs/\v8= .int .i64 re/\Below w0 w0 S)
 case first=>
  go_region_held3 (λW=>W.cell? ⟨w.heap.size,5,none⟩=some (.string U)/\W.cell? ⟨w.heap.size,3,none⟩=some (.int .i64 l)) (first|exact⟨c5,j⟩|exact hS6|go_keep) (first|(go_at_call 124;refine(G _ (by first|exact j|exact hS6.2)).mono ?_;rintro e B ⟨rfl,rfl⟩)|(go_at_call 101;refine(cF _ (hA0.below (aa _ _).drew)).mono ?_;rintro e w6 ⟨rfl,hb⟩;have Z:=(aa w0 w0).drew.trans hb;have hS6:w6.cell? ⟨w.heap.size,5,none⟩=some (.string U)/\w6.cell? ⟨w.heap.size,3,none⟩=some (.int .i64 l):=⟨(Z.cell (p:=⟨w.heap.size,5,none⟩) hc0.lt).trans c5,(Z.cell (p:=⟨w.heap.size,3,none⟩) hc0.lt).trans j⟩))
  all_goals
   go_wp2;go_meet
   case rel=>exact⟨rfl,rfl,Z⟩
 case rest=>
 obtain⟨rfl,rfl,hb⟩:=hcut;have hA1:=hA0.below hb;have hz1:=hz0.below hb hz0.lt;have hc1:=hc0.below hb hc0.lt;have hB1:=hB0.trans (hb.mono hB0.size);clear z c0 c1 c2 j c4 c5 c6 c7 c8 hA0 hz0 hc0 hb hB0 cF;generalize wc=w1 at*;have z:=hz1.four;obtain⟨c0,c1,c2,j,c4,c5,c6,c7,c8⟩:=hc1.nine
 cases te:re !=0
 rotate_left
 ·have HF:=aL (M.out.trans (aM (by simpa using te)))
  clear M;go_wp2_with fail;refine(aA re _).mono ?_
  rintro e9 w9 ⟨rfl,E⟩;have Y:=hA1.below E;have pg:=hz1.below E hz1.lt;have K:=(Fr.of hB1:Fr p.C w w1).bf E;clear z c0 c1 c2 j c4 c5 c6 c7 c8;have z:=pg.four;go_wp2_with fail;refine aD (v:= .agg #[re,(0:Int),Qs.e,()]) ?_ rfl ?_
  ·simp[results,results99,go_sem,z]
  rw[HF.out];exact aZ (a:=(.no re)) hga Y rfl rfl K (Sub.refl _ _) rfl
 obtain rfl:re=0:=by simpa using te
 have M:=aL (M.out.trans (av (by decide)))
 have hrl:=Yg.out rfl;clear Yg te;obtain⟨_,_,AT,_,_,cT,_,_,gT,_,_,_,pq,_,_,nM⟩:=hA1.cells;have pq:aC w1 w1 AT r.T:=pq.here;have cG:=λW q=>a_ AT cT r.T rs W q (by have:=HK.out.tl;omega)
 go_wp2_with fail;refine(cG w1 pq).mono ?_
 rintro e w2 ⟨gr,rfl,hr,hb⟩;have vM:=aL hr;have hA2:=hA1.below hb;have hz2:=hz1.below hb hz1.lt;have hc2:=hc1.below hb hc1.lt;have hB2:=hB1.trans (hb.mono hB1.size);clear z c0 c1 c2 j c4 c5 c6 c7 c8 gT pq nM hA1 hz1 hc1 hb hB1 cG hr;obtain⟨y,hy⟩:∃y,y=gr.getD En.zero:=⟨_,rfl⟩;rw[<-hy];have HY:=aL hy;clear hy;obtain⟨dp,dk,dt,f_⟩:=y;simp only[En.agg,En.cells];have hb3:Below w2 w2 (w2.alloc (.cells #[dp,dk,dt,f_] 45)):=(aa _ w2).alloc aR (.cells #[dp,dk,dt,f_] 45);have hA3:=hA2.below hb3;have V:=hz2.below hb3 hz2.lt;have hc3:=hc2.below hb3 hc2.lt;have hB3:=hB2.trans (hb3.mono hB2.size);have hd3:=ai.new w2 45 [dp,dk,dt,f_];have hx3:w.heap.size+1<w2:=hz2.lt;go_upto_region 11 with fail
 generalize w2.alloc (.cells #[dp,dk,dt,f_] 45)=w3 at*;generalize w2.heap.size=gd at*;clear hA2 hB2 hz2 hc2 hb3;obtain⟨d0,d1,d2,d3,df,dz⟩:=hd3.four;have z:=V.four;obtain⟨c0,c1,c2,j,c4,c5,c6,c7,c8⟩:=hc3.nine;have vX:Hid (gr=none->Rw.openSet r l ra=if Sy.bit l 3=false then(r,6)else Rw.set r (Tr.putU r.u ⟨rs,1,⟨#[]⟩,false⟩)):=aL (λhr=>by
  unfold Rw.openSet;have e1:(⟨rs,1,⟨#[]⟩,false⟩:En)=Sy.fileEn ra Sy.noE:=by rw[zY.out];rfl
  rw[<-uN.out,<-vM.out,hr,uN.out,e1])
 have L:Hid (∀e,gr=some e->Rw.openSet r l ra=if b4=true then(r,7)else if e.k=2 then(r,9)else if Sy.bit l 5=true/\e.t.data.toList≠[]then Rw.set r (Tr.putU r.u ⟨rs,1,⟨#[]⟩,false⟩)else(r,0)):=aL (λe hr=>by
  rw[<-hb4];unfold Rw.openSet;have e1:(⟨rs,1,⟨#[]⟩,false⟩:En)=Sy.fileEn ra Sy.noE:=by rw[zY.out];rfl
  rw[<-uN.out,<-vM.out,hr,uN.out,e1])
 obtain⟨q,hq⟩:∃q,q=Rw.openSet r l ra:=⟨_,rfl⟩;rw[<-hq]at vX L M;clear vM;have HQ:=aL hq;clear hq;generalize hb3:Sy.bit l 3=b3 at I vX;generalize hb5:Sy.bit l 5=b5 at H L
 go_cut [93]from 87 to 92 (λv S=>v= .bool (!gr.isSome&& !b3)/\w3=S)
 case first=>
  rcases gr with _|d
  ·(go_wp2_with (go_at_call 124;refine(I _ j).mono ?_;rintro e B ⟨rfl,rfl⟩);go_meet;case rel=>exact⟨rfl,rfl⟩)
  (go_wp2_with (go_at_call 124;refine(I _ j).mono ?_;rintro e B ⟨rfl,rfl⟩);go_meet;case rel=>exact⟨rfl,rfl⟩)
 case rest=>
 obtain⟨rfl,rfl⟩:=hcut
 cases t93:!gr.isSome&& !b3
 rotate_left
 ·obtain⟨rfl,rfl⟩:gr=none/\b3=false:=by rcases gr with _|d<;>rcases b3 with _|_<;>simp_all
  have HS:=aL ((vX.out rfl).trans (aM rfl));have HF:Hid (R=(r,.no 6)):=aL (M.out.trans (by rw[HS.out];exact aM (by decide:(6:Int)≠0)))
  clear M vX L;go_wp2_with fail;refine(aA 6 _).mono ?_
  rintro e9 w9 ⟨rfl,E⟩;have Y:=hA3.below E;have pg:=V.below E V.lt;have K:=(Fr.of hB3:Fr p.C w w3).bf E;clear z c0 c1 c2 j c4 c5 c6 c7 c8;have z:=pg.four;go_wp2_with fail;refine aD (v:= .agg #[(6:Int),(0:Int),Qs.e,()]) ?_ rfl ?_
  ·simp[results,results99,go_sem,z]
  rw[HF.out];exact aZ (a:=(.no 6)) hga Y rfl rfl K (Sub.refl _ _) rfl
 go_upto_region 13 with fail
 go_cut [99]from 95 to 98 (λv S=>v= .bool (gr.isSome&&b4)/\w3=S)
 case first=>
  rcases gr with _|d
  ·(go_wp2_with (go_at_call 124;refine(G _ j).mono ?_;rintro e B ⟨rfl,rfl⟩);go_meet;case rel=>exact⟨rfl,rfl⟩)
  (go_wp2_with (go_at_call 124;refine(G _ j).mono ?_;rintro e B ⟨rfl,rfl⟩);go_meet;case rel=>exact⟨rfl,rfl⟩)
 case rest=>
 obtain⟨rfl,rfl⟩:=hcut
 cases t99:gr.isSome&&b4
 rotate_left
 ·obtain⟨d,rfl⟩:∃d,gr=some d:=by rcases gr with _|d<;>simp_all
  obtain rfl:b4=true:=by simpa using t99
  have HS:=aL ((L.out _ rfl).trans (aM rfl));have HF:Hid (R=(r,.no 7)):=aL (M.out.trans (by rw[HS.out];exact aM (by decide:(7:Int)≠0)))
  clear M vX L;go_wp2_with fail;refine(aA 7 _).mono ?_
  rintro e9 w9 ⟨rfl,E⟩;have Y:=hA3.below E;have pg:=V.below E V.lt;have K:=(Fr.of hB3:Fr p.C w w3).bf E;clear z c0 c1 c2 j c4 c5 c6 c7 c8;have z:=pg.four;go_wp2_with fail;refine aD (v:= .agg #[(7:Int),(0:Int),Qs.e,()]) ?_ rfl ?_
  ·simp[results,results99,go_sem,z]
  rw[HF.out];exact aZ (a:=(.no 7)) hga Y rfl rfl K (Sub.refl _ _) rfl
 go_upto_region 15 with fail
 go_cut [106]from 101 to 105 (λv S=>v= .bool (gr.isSome&&(dk==2))/\w3=S)
 case first=>
  rcases gr with _|d
  ·(go_wp2;go_meet;case rel=>exact⟨rfl,rfl⟩)
  (go_wp2;go_meet;case rel=>exact⟨rfl,rfl⟩)
 case rest=>
 obtain⟨rfl,rfl⟩:=hcut
 cases t106:(gr.isSome&&(dk==2))
 rotate_left
 ·obtain⟨d,rfl⟩:∃d,gr=some d:=by rcases gr with _|d<;>simp_all
  obtain rfl:d=⟨dp,dk,dt,f_⟩:=HY.out.symm;obtain rfl:b4=false:=by simpa using t99
  obtain rfl:dk=2:=by simpa using t106
  have HS:=aL (((L.out _ rfl).trans (av (by decide))).trans (aM rfl))
  have HF:Hid (R=(r,.no 9)):=aL (M.out.trans (by rw[HS.out];exact aM (by decide:(9:Int)≠0)))
  clear M vX L;go_wp2_with fail;refine(aA 9 _).mono ?_
  rintro e9 w9 ⟨rfl,E⟩;have Y:=hA3.below E;have pg:=V.below E V.lt;have K:=(Fr.of hB3:Fr p.C w w3).bf E;clear z c0 c1 c2 j c4 c5 c6 c7 c8;have z:=pg.four;go_wp2_with fail;refine aD (v:= .agg #[(9:Int),(0:Int),Qs.e,()]) ?_ rfl ?_
  ·simp[results,results99,go_sem,z]
  rw[HF.out];exact aZ (a:=(.no 9)) hga Y rfl rfl K (Sub.refl _ _) rfl
 obtain⟨v18,D⟩:∃v,v=(!gr.isSome||(b5&& !decide (dt.data.toList=[]))):=⟨_,rfl⟩
 go_upto_region 17 with fail
 go_cut [118]from 108 to 117 (λv S=>v= .bool v18/\w3=S)
 case first=>
  rcases gr with _|d
  ·have e18:v18=true:=D
   subst e18;clear D
   (go_wp2_with (go_at_call 124;refine(H _ j).mono ?_;rintro e B ⟨rfl,rfl⟩);go_meet;case rel=>exact⟨rfl,rfl⟩)
  rcases b5 with _|_
  ·have e18:v18=false:=D
   subst e18;clear D
   (go_wp2_with (go_at_call 124;refine(H _ j).mono ?_;rintro e B ⟨rfl,rfl⟩);go_meet;case rel=>exact⟨rfl,rfl⟩)
  rcases aG dt with⟨hE,e1,e2⟩|⟨hE,e1,e2⟩
  focus
   have e18:v18=false:=D.trans (by simp[hE])
  rotate_left
  focus
   have e18:v18=true:=D.trans (by simp[hE])
  all_goals
   subst e18;clear D
   (go_wp2_with (go_at_call 124;refine(H _ j).mono ?_;rintro e B ⟨rfl,rfl⟩);go_meet;case rel=>exact⟨rfl,rfl⟩)
 case rest=>
 obtain⟨rfl,rfl⟩:=hcut;have YR:Hid (v18=true->q=Rw.set r (Tr.putU r.u ⟨rs,1,⟨#[]⟩,false⟩)):=aL (λh=>by
  rcases gr with _|d
  ·exact(vX.out rfl).trans (av (by rintro rfl;cases t93))
  obtain rfl:d=⟨dp,dk,dt,f_⟩:=HY.out.symm;refine((L.out _ rfl).trans (av (by rintro rfl;cases t99))).trans ((av (by simpa using t106)).trans (aM ?_))
  rw[h]at D
  simpa using D)
 have abf:Hid (v18=false->q=(r,0)):=aL (λh=>by
  rcases gr with _|d
  ·rw[h]at D;cases D
  obtain rfl:d=⟨dp,dk,dt,f_⟩:=HY.out.symm;refine((L.out _ rfl).trans (av (by rintro rfl;cases t99))).trans ((av (by simpa using t106)).trans (av ?_))
  rw[h]at D;intro ⟨g1,g2⟩;rw[g1]at D;simp[g2]at D)
 clear vX L D t93 t99 t106 HY d0 d1 d2 d3 df dz hd3;obtain⟨AU,AL,_,cU,cL,_,g0,g1,_,_,_,hrU,_,_,_,KG⟩:=hA3.cells;have cP:=λW q q2=>qC (p.plus (w.heap.size+1)).X AU AL cU cL r.u rs 1 ⟨#[]⟩ false W q q2 HK.out.us (by omega) (by decide)
 have lG:=aL (HK.out.put ⟨rs,1,⟨#[]⟩,false⟩);generalize Tr.putU r.u ⟨rs,1,⟨#[]⟩,false⟩=pu at cP YR lG;have Jm:w.heap.size+1≠p.g:=by omega
 have YS:w.heap.size≠p.g:=EG;go_upto_if 118 with fail
 go_cut [11]from 119 to 133 (λ_ S=>aO S (p.plus (w.heap.size+1)) q.1/\ai S (w.heap.size+1) 43 [(0:Int),(0:Int),Qs.e,()]/\ai S w 24 [ck,Q,cf,l,cm,U,ct,cx,ca]/\Fr p.C w S/\q.2=0)
 case first=>
  rcases v18 with _|_
  ·obtain rfl:=abf.out rfl
   go_wp2;go_meet
   case rel=>exact⟨hA3,V,hc3,Fr.of hB3,by first|trivial|rfl⟩
  obtain rfl:=YR.out rfl
  cases te:((Rw.set r pu).2 !=0)
  ·go_wp2_with (first|(go_at_call 21;refine(cP w3 hrU λk hk=>hA3.mX hk).mono ?_;rintro e w6 ⟨A6,xC,c6,OM,rfl,uB,Z⟩)|(go_at_call 59;refine(kD (p.plus (w.heap.size+1)) r A6 xC c6 OM pu w6 (hA3.below Z) (λ_=>uB) lG.out).mono ?_;rintro e w7 ⟨rfl,iU,lh⟩;have fM:=(V.below Z V.lt).fr lh Jm;have C_:=(hc3.below Z hc3.lt).fr lh YS;have rV:Fr p.C w w7:=((Fr.of hB3:Fr p.C w w3).bf Z).trans lh λ_ _ e=>e▸(.inl rfl:p.C p.g)))
   go_meet
   case rel=>exact⟨iU,fM,C_,rV,by simpa using te⟩
  have HF:=aL (M.out.trans (aM (by simpa using te)))
  clear M
  go_wp2_with (first|(go_at_call 21;refine(cP w3 hrU λk hk=>hA3.mX hk).mono ?_;rintro e w6 ⟨A6,xC,c6,OM,rfl,uB,Z⟩)|(go_at_call 59;refine(kD (p.plus (w.heap.size+1)) r A6 xC c6 OM pu w6 (hA3.below Z) (λ_=>uB) lG.out).mono ?_;rintro e w7 ⟨rfl,iU,lh⟩;have fM:=(V.below Z V.lt).fr lh Jm;have C_:=(hc3.below Z hc3.lt).fr lh YS;have rV:Fr p.C w w7:=((Fr.of hB3:Fr p.C w w3).bf Z).trans lh λ_ _ e=>e▸(.inl rfl:p.C p.g))|(go_at_call 98;refine(aA _ _).mono ?_;rintro e w8 ⟨rfl,hb8⟩;have z:=(fM.below hb8 fM.lt).four))
  refine aD (v:= .agg #[.int .i64 (Rw.set r pu).2,(0:Int),Qs.e,()]) ?_ rfl ?_
  ·simp[results,results99,go_sem,z]
  rw[HF.out];exact aZ (a:=(.no (Rw.set r pu).2)) hga (iU.below hb8) rfl rfl (rV.bf hb8) (Sub.refl _ _) rfl
 case rest=>
 obtain⟨lH,jo,hc5,Qi,hq0⟩:=hcut;generalize wc=w5 at*;clear YR abf cP lG hA3 hB3 V hc3 z c0 c1 c2 j c4 c5 c6 c7 c8 g0 g1 hrU KG I G H hb3 hb4 hb5;have M:=aL (M.out.trans (av (λh=>h hq0)))
 have IZ:Hid (q.1.objs=r.objs/\q.1.des=r.des/\q.1.fds=r.fds):=aL (by rw[HQ.out];exact Rw.openSet_keeps r l ra)
 clear hq0;obtain⟨F,Td⟩:∃x,x=q.1:=⟨_,rfl⟩;rw[<-Td]at lH M IZ;clear Td HQ;have hol:F.objs.length<=1000:=by rw[IZ.out.1];exact HK.out.ol
 have hdl:F.des.length<=1000:=by rw[IZ.out.2.1];exact HK.out.dl
 have YT:Hid ((∀x∈F.fds,x.length=8)/\F.fds.length=4):=aL (by rw[IZ.out.2.2];exact⟨HK.out.fdr,HK.out.fdl⟩)
 clear IZ;obtain⟨vs,hov⟩:=lH.own;obtain⟨AO,cO,DK⟩:=iI hov;clear hov;have DK:p.vO= .slice AO F.objs.length cO:=DK;have NL:=aL DK;obtain⟨_,_,_,_,_,_,_,_,_,g3,_,_,_,_,_,acI⟩:=lH.cells;have g3:w5.cell? ⟨p.g,3,none⟩=some p.vO:=g3;rw[DK]at g3;clear DK;have HZ5:=aL jo;have ZB:=aL hc5;have VR:=aL Qi;clear jo hc5 Qi;go_wp2
 go_loopw [12,139] (λv i S=>∃kk:Nat,kk<=F.objs.length/\i= .int .i64 kk/\v= .int .i64 (PE (Rw.lastP (F.objs.take kk) ra 0 none))/\Hid (aO S (p.plus (w.heap.size+1)) F)/\Hid (ai S (w.heap.size+1) 43 [(0:Int),(0:Int),Qs.e,()])/\Hid (ai S w 24 [ck,Q,cf,l,cm,U,ct,cx,ca])/\Hid (Fr p.C w S)) (λ_ i _=>F.objs.length- (intOf i).toNat)
 case atStart=>exact⟨0,bL _,rfl,rfl,aL lH,HZ5,ZB,VR⟩
 case round=>
  clear lH HZ5 ZB VR g3 acI;obtain⟨kk,hkk,rfl,rfl,HA,HZ,HC,VR⟩:=hrel
  by_cases hlt:kk<F.objs.length
  ·obtain⟨b,c,A,cl,hv,fz,adL,f0,f1,f2,_,_,ff⟩:=HA.out.ob hlt
   have hv:p.vO= .slice b F.objs.length c:=hv;have hAO:AO=some ⟨b,0,none⟩/\cO=c:=by
    have e:=NL.out.symm.trans hv;injection e with e1 e2 e3
    exact⟨e1,e3⟩
   obtain⟨rfl,rfl⟩:=hAO;clear hv;have Nw:(0:Int)<=(kk:Int):=gD _;have ib2:(kk:Int)<(F.objs.length:Int):=by omega
   have hlt1:decide ((kk:Int)<(F.objs.length:Int))=true:=fw ib2;obtain⟨o,ho⟩:∃o,o=F.objs[kk]:=⟨_,rfl⟩;have Jp:Hid (Rw.lastP (F.objs.take (kk+1)) ra 0 none=if o.P=rs.data.toList then some kk else Rw.lastP (F.objs.take kk) ra 0 none):=aL (by rw[uN.out,ho];exact Lu hlt ra)
   rw[<-ho]at f0 f1 f2;clear ho;obtain⟨op,ot,ol⟩:=o;dsimp only at f0 f1 f2;have hbx:=(aa wr wr).alloc aR (.cells #[op,ot,.slice A ol.length cl] 138);have HAx:=aL (HA.out.below hbx);have HZx:=aL (HZ.out.below hbx HZ.out.lt);have HCx:=aL (HC.out.below hbx HC.out.lt);have HFx:=aL (VR.out.bf hbx);have d0:(wr.alloc (.cells #[op,ot,.slice A ol.length cl] 138)).cell? wr.heap.size=some (.string op):=(ai.new wr 138 [op,ot,.slice A ol.length cl]).cell 0;obtain⟨la,hla⟩:∃x,x=Rw.lastP (F.objs.take kk) ra 0 none:=⟨_,rfl⟩;rw[<-hla];rw[<-hla]at Jp;clear hla;go_upto_region 25 with fail
   clear f0 f1 f2 ff HA HZ HC VR hbx;generalize wr.alloc (.cells #[op,ot,.slice A ol.length cl] 138)=w6 at*;generalize wr.heap.size=gd at*
   cases t1:op.toList==rs.toList
   ·have HS:=aL (Jp.out.trans (av λq=>by
     have q:op.data.toList=rs.data.toList:=q;rw[aj]at t1;simp[q]at t1))
    go_wp2;go_roundw
    case rel=>exact⟨kk+1,hlt,by go_num,by rw[HS.out],HAx,HZx,HCx,HFx⟩
    case measure=>simp[intOf];omega
   have HS:=aL (Jp.out.trans (aM (show op.data.toList=rs.data.toList by rw[aj]at t1;simpa using t1)))
   go_wp2;go_roundw
   case rel=>exact⟨kk+1,hlt,by go_num,by rw[HS.out];rfl,HAx,HZx,HCx,HFx⟩
   case measure=>simp[intOf];omega
  obtain rfl:kk=F.objs.length:=by omega
  clear hkk hlt;obtain⟨la,hla⟩:∃x,x=Rw.lastP (F.objs.take F.objs.length) ra 0 none:=⟨_,rfl⟩;rw[<-hla];rw[gN]at hla;have Ju:=aL (IY F.objs ra 0 none);rw[<-hla]at Ju;have YU:Hid (la=none->Rw.opened F ra=({F with objs:=F.objs++[⟨Sy.bytesOf ra,Sy.noE,[]⟩]},F.objs.length)):=aL (λh=>by unfold Rw.opened;rw[<-hla,h])
  have YV:Hid (∀i,la=some i->Rw.opened F ra=(F,i)):=aL (λi h=>by unfold Rw.opened;rw[<-hla,h])
  clear hla;obtain⟨r6,hr6⟩:∃x,x=Rw.opened F ra:=⟨_,rfl⟩;rw[<-hr6]at M YU YV;clear hr6;obtain⟨c0,c1,c2,j,c4,c5,c6,c7,c8⟩:=HC.out.nine;go_upto_if 151 with fail
  go_cut [12]from 152 to 167 (λv S=>∃v6:Value,v= .int .i64 (r6.2:Int)/\aO S (Rl.plus {p with vO:=v6} (w.heap.size+1)) r6.1/\ai S (w.heap.size+1) 43 [(0:Int),(0:Int),Qs.e,()]/\ai S w 24 [ck,Q,cf,l,cm,U,ct,cx,ca]/\Fr p.C w S/\Sub w (Rl.C {p with vO:=v6}) p.C/\r6.1.des=F.des/\r6.1.fds=F.fds)
  case first=>
   rcases la with _|i
   ·obtain rfl:=YU.out rfl
    obtain⟨vs,hl,hov,hve⟩:=HA.out.obs;have hov:wr.ownsRow 0 138 3 p.vO F.objs.length (dY F.objs vs):=hov;obtain⟨_,_,_,_,_,_,_,_,_,g3,_,_,_,_,_,hgs⟩:=HA.out.cells;have g3:wr.cell? ⟨p.g,3,none⟩=some p.vO:=g3;have YW:p.vO.ownBlock≠some p.g:=HA.out.g_O;rw[NL.out]at g3 hov YW;obtain⟨i0,hif,hy0,hy1,hy2⟩:=lw VP;have hfz:∀i,wr.frozen? ⟨p.g,i,none⟩=false:=by obtain⟨cs,hb⟩:=HA.out.blk;exact hb.frozen
    have hg3:∀w3,wr.grownBy w3 (Value.slice AO F.objs.length cO).ownBlock->w3.cell? ⟨p.g,3,none⟩=some (.slice AO F.objs.length cO)/\w3.frozen? ⟨p.g,3,none⟩=false/\p.g<w3:=λw3 hg=>by
     obtain⟨cs,hb⟩:=HA.out.blk;have hb3:=ai.grown hb hg λe=>YW e.symm
     exact⟨(lc (hg.block p.g hgs λe=>YW e.symm)).trans g3,hb3.frozen 3,bE hgs hg.size⟩
    go_wp2_with (at_builtin;go_must (refine ax wr rfl _ _ _ rfl 0 138 i0 _ 3 56 underlying102 hif hy0 hy1 hy2 rfl (by decide) (.slice AO F.objs.length cO) _ _ rfl hov [.string rs,Qs.e,()] rfl rfl (by simp[Value.oneCell']) (by omega) (by decide) (bL _) _ rfl ?_);intro v3 w3 Bo LD at3;obtain⟨A3,j,rfl⟩:=jl Bo;obtain⟨g3,gf3,gz3⟩:=hg3 w3 LD)
    go_meet
    case rel=>
     rw[<-NL.out]at LD at3;obtain⟨nG,uH,hS6⟩:=HA.out.Wy hl hve Bo LD at3;have uH:Fr p.C wr _:=uH.wide λk hk e=>e
     refine⟨.slice A3 (F.objs.length+1) j,rfl,?_,HZ.out.fr uH (λq=> ?_),HC.out.fr uH (λq=> ?_),VR.out.trans uH (Sub.refl _ _),?_,by first|trivial|rfl,by first|trivial|rfl⟩
     ·rw[<-zY.out];exact nG
     ·exact absurd (uu.out _ q) (by omega)
     ·exact absurd (uu.out _ q) (by omega)
     ·exact λk hk q=>hS6 k (bE hk VR.out.size) q
   obtain rfl:=YV.out _ rfl;have tn:decide ((i:Int)<0)=false:=bN (by omega)
   go_wp2;go_meet
   case rel=>exact⟨p.vO,rfl,HA.out,HZ.out,HC.out,VR.out,Sub.refl _ _,by first|trivial|rfl,by first|trivial|rfl⟩
  case rest=>
  obtain⟨v6,rfl,nG,kW,hc6,uH,hS6,hD6,VS⟩:=hcut;generalize wc=w6 at*;clear YU YV Ju HA HZ HC VR c0 c1 c2 j c4 c5 c6 c7 c8 NL;obtain⟨at6,U5⟩:∃x,x=r6.2:=⟨_,rfl⟩;obtain⟨O,Uk⟩:∃x,x=r6.1:=⟨_,rfl⟩;have M:=aL M.out;rw[<-U5,<-Uk]at M;rw[<-U5];rw[<-Uk]at nG hD6 VS;clear U5 Uk;have adM:O.des.length<=1000:=by rw[hD6];exact hdl
  have YX:∀x∈O.fds,x.length=8:=by rw[VS];exact YT.out.1
  have acJ:O.fds.length=4:=by rw[VS];exact YT.out.2
  have HF:Hid (R=({Rw.setFd O Q k (some O.des.length)with des:=O.des++[⟨at6,l,0⟩]},.num k)):=aL M.out
  clear M hD6 VS YT hdl;obtain⟨AD,cD,rX⟩:=iI nG.des;have rX:p.vD= .slice AD O.des.length cD:=rX;have iU:=nG.setFd YX (o:=Q) (k:=k) hk9 (some O.des.length);rw[show tC (some O.des.length)= .int .i64 (O.des.length:Int)from rfl,show(Rl.plus {p with vO:=v6} (w.heap.size+1)).g=p.g from rfl]at iU
  have fM:=kW.far (p:=⟨p.g,5+Q*8+k,none⟩) Jm (.int .i64 (O.des.length:Int));have C_:=hc6.far (p:=⟨p.g,5+Q*8+k,none⟩) YS (.int .i64 (O.des.length:Int));have rV:Fr p.C w (w6.setCell ⟨p.g,5+Q*8+k,none⟩ (.int .i64 (O.des.length:Int))):=Fr.setCell uH (p:=⟨p.g,5+Q*8+k,none⟩) (.inl rfl) _;have h1:Q<O.fds.length:=by rw[acJ];exact kZ
  have h2:k<O.fds[Q].length:=by rw[YX _ (cz h1)];exact hk9
  have hcf:=nG.xY YX h1 h2;rw[show(Rl.plus {p with vO:=v6} (w.heap.size+1)).g=p.g from rfl]at hcf
  have TM:∀q,w6.frozen? ⟨p.g,q,none⟩=false:=by obtain⟨cs,hb⟩:=nG.blk;exact hb.frozen
  obtain⟨_,_,_,_,_,_,_,_,_,_,WZ,_,_,_,_,hgo⟩:=nG.cells;have g4:w6.cell? ⟨p.g,4,none⟩=some p.vD:=WZ;have YY:p.g<w6:=hgo;rw[rX]at g4;clear WZ hgo;obtain⟨_,_,_,_,_,_,_,_,_,_,WZ,_,_,_,_,_⟩:=iU.cells;have g47:(w6.setCell ⟨p.g,5+Q*8+k,none⟩ (.int .i64 (O.des.length:Int))).cell? ⟨p.g,4,none⟩=some p.vD:=WZ;rw[rX]at g47;clear WZ;have hK7:((w6.setCell ⟨p.g,5+Q*8+k,none⟩ (.int .i64 (O.des.length:Int))).drew).cell? ⟨w.heap.size,1,none⟩=some (.int .i64 Q)/\((w6.setCell ⟨p.g,5+Q*8+k,none⟩ (.int .i64 (O.des.length:Int))).drew).cell? ⟨p.g,4,none⟩=some (.slice AD O.des.length cD):=⟨C_.nine.2.1,g47⟩;have ie1:(0:Int)<=(Q:Int):=gD _;have ie2:(Q:Int)<4:=by omega
  have ie3:(0:Int)<=(k:Int):=gD _;have ie4:(k:Int)<8:=by omega
  obtain⟨c0,c1,c2,j,c4,c5,c6,c7,c8⟩:=hc6.nine;go_upto_region 31 with fail
  go_cut []from 168 to 180 (λS=>S=(w6.setCell ⟨p.g,5+Q*8+k,none⟩ (.int .i64 (O.des.length:Int))).drew)
  case first=>
   go_region_held3 (λW=>W.cell? ⟨w.heap.size,1,none⟩=some (.int .i64 Q)/\W.cell? ⟨p.g,4,none⟩=some (.slice AD O.des.length cD)) (first|exact⟨c1,g4⟩|exact hK7|go_keep) (fail)
   all_goals
    go_wp2;go_meet
    case rel=>first|trivial|rfl
  case rest=>
  obtain rfl:=hcut;have vN:=iU.below (aa _ _).drew;have uy:=fM.drew;have hc8:=C_.drew;have xn:=rV.bf (aa _ _).drew;clear c0 c1 c2 j c4 c5 c6 c7 c8 hcf TM g4 g47 hK7 nG kW hc6 uH iU fM C_ rV h1 h2 YY;generalize (w6.setCell ⟨p.g,5+Q*8+k,none⟩ (.int .i64 (O.des.length:Int))).drew=w8 at*;obtain⟨c0,c1,c2,j,c4,c5,c6,c7,c8⟩:=hc8.nine;obtain⟨_,_,_,_,_,_,_,_,_,_,WZ,_,_,_,gfo,hgo⟩:=vN.cells;have g4:w8.cell? ⟨p.g,4,none⟩=some p.vD:=WZ;have VN:p.g<w8:=hgo;have ZF:∀i,w8.frozen? ⟨p.g,i,none⟩=false:=gfo;clear WZ gfo hgo;have hod:w8.ownsRow 0 142 3 p.vD O.des.length (iY O.des):=vN.des;have VT:p.vD.ownBlock≠some p.g:=vN.g_D;have I4:=aL rX;rw[rX]at g4 hod VT;clear rX;obtain⟨i0,hif,hy0,hy1,hy2⟩:=lw VQ;have hg4:∀w3,w8.drew.grownBy w3 (Value.slice AD O.des.length cD).ownBlock->w3.cell? ⟨p.g,4,none⟩=some (.slice AD O.des.length cD)/\w3.frozen? ⟨p.g,4,none⟩=false/\p.g<w3:=λw3 hg=>⟨(lc (hg.block p.g VN λe=>VT e.symm)).trans g4,(World.frozen?_of_block (a:=⟨p.g,4,none⟩) (hg.block p.g VN λe=>VT e.symm)).trans (ZF 4),bE VN hg.size⟩
  have hmo:prog.follows .mixedOrders=true:=by kernel_rfl
  go_upto_region 32 with fail
  go_region_law (refine qQ w8.drew rfl _ _ _ rfl 0 142 i0 _ 3 24 underlying103 hif hy0 hy1 hy2 rfl (by decide) (.slice AD O.des.length cD) _ _ rfl hod [.int .i64 (at6:Int),l,(0:Int)] rfl rfl (by simp[Value.oneCell']) (by omega) (by decide) (bL _) _ rfl ?_;intro v9 w9 xJ LG at9;obtain⟨A9,c9,rfl⟩:=jl xJ;obtain⟨g9,gf9,gz9⟩:=hg4 w9 LG)
  all_goals
   clear c0 c1 c2 j c4 c5 c6 c7 c8;rw[<-I4.out]at LG at9;obtain⟨Y,K,hS9⟩:=aO.WA (x:=⟨at6,l,0⟩) (vN.below (aa _ _).drew) xJ LG at9;have K:Fr (Rl.C {p with vO:=v6}) w8.drew (w9.setCell ⟨p.g,4,none⟩ (.slice A9 (O.des.length+1) c9)):=K
   have pg:=ai.Yo (p:={p with vO:=v6}) uy.drew (vN.below (aa _ _).drew) K
   have z:=pg.four;go_wp2_with fail;refine aD (v:= .agg #[(0:Int),k,Qs.e,()]) ?_ rfl ?_
   ·simp[results,results99,go_sem,z]
   rw[HF.out];exact aZ (p':={p with vO:=v6,vD:= .slice A9 (O.des.length+1) c9}) (a:=⟨0,(k:Int),⟨#[]⟩,[]⟩) hga Y rfl rfl ((xn.bf (aa _ _).drew).trans K hS6) (λi hi hz=>hS6 i hi (hS9 i (bE hi xn.size) hz)) rfl
end Go.Proofs.YtjppfhgkanbemabGreatDoor
