/- A part of the proof of SysTells: RC. -/
import Derived.Test.YtjppfhgkanbemabGreatDoorRB
import Derived.Test.YtjppfhgkanbemabGreatDoorSC
import Derived.Test.YtjppfhgkanbemabGreatDoorLC
set_option maxHeartbeats 3000000
set_option maxRecDepth 100000
set_option linter.all false
namespace Go.Proofs.YtjppfhgkanbemabGreatDoor
open Tryz
open Go.RowKit Go.Shelf Go.Sort
theorem Tq(p:Rl)(r:Rw)(c:Ca)(w:World)(h:aO w p r)(hk:jr r)(hcs:jK c)(h0:c.kind=6\/c.kind=10)(ho0:0<=c.owner)(dI:c.owner<4):Calls prog 60 #[.pointer p.g,.agg #[c.kind,c.owner,c.fd,c.n,c.m,c.path,c.to,c.text,c.alone]] w (iJ p (Rw.create r c) w):=by
 obtain⟨R,hR⟩:∃R,R=Rw.create r c:=⟨_,rfl⟩;rw[<-hR];obtain⟨b,co,cf,cn,cm,O,Q,cx,ca⟩:=c;unfold Rw.create at hR;dsimp only at hR h0 ho0 dI hcs ⊢;have A:=aL hR;have HK:=aL hk;have hcp:O.size<=1048576:=hcs.1;have Vf:Q.size<=1048576:=hcs.2.1;have o0:decide (co<0)=false:=bN (by omega)
 have o1:decide (3<co)=false:=bN (by omega)
 have k1:(b==1)=false:=by rcases h0 with h|h<;>(rw[h];rfl)
 have k11:(b==11)=false:=by rcases h0 with h|h<;>(rw[h];rfl)
 have k12:(b==12)=false:=by rcases h0 with h|h<;>(rw[h];rfl)
 have kA:decide (b<1)=false:=bN (by omega)
 have kB:decide (16<b)=false:=bN (by omega)
 have hga:w.heap.size<=w.heap.size+1:=by omega
 have hgs:p.g<w:=h.bz h.rH;have hB0:=((aa w w).alloc aR (.cells #[b,co,cf,cn,cm,O,Q,cx,ca] 24)).alloc (((aa w w).alloc aR (.cells #[b,co,cf,cn,cm,O,Q,cx,ca] 24)).size) (.cells #[(0:Int),(0:Int),Qs.e,()] 43);have hA0:=(h.below ((aa w w).alloc aR (.cells #[b,co,cf,cn,cm,O,Q,cx,ca] 24))).plus (.cells #[(0:Int),(0:Int),Qs.e,()] 43);have G:=ai.new (w.alloc (.cells #[b,co,cf,cn,cm,O,Q,cx,ca] 24)) 43 [(0:Int),(0:Int),Qs.e,()];have hc0:=(ai.new w 24 [b,co,cf,cn,cm,O,Q,cx,ca]).alloc (.cells #[(0:Int),(0:Int),Qs.e,()] 43);rw[bX]at hA0 G;have HKD:Hid (b=6\/b=10):=aL h0;have hkk:((b==6)=true/\(b==10)=false)\/((b==6)=false/\(b==10)=true):=by rcases h0 with h|h<;>(rw[h];decide)
 clear hR hk hcs h h0 ho0 dI;go_enter func60,ntmps60;go_upto_region 1 with fail
 generalize (w.alloc (.cells #[b,co,cf,cn,cm,O,Q,cx,ca] 24)).alloc (.cells #[(0:Int),(0:Int),Qs.e,()] 43)=w0 at*;have x:=G.four;obtain⟨c0,c1,Y,c3,c4,c5,K,c7,c8⟩:=hc0.nine
 rcases hkk with⟨k6,k10⟩|⟨k6,k10⟩
 all_goals
  have cF:=kC _ r O false w0 hA0 HK.out.right (by have:=HK.out.tl;omega) (by omega)
  unfold iL at cF;have I:=aL (fO (T:=r.T) (q:=O.data.toList) (fo:=false));generalize Sy.find r.T O false=fr at cF A I;obtain⟨ra,re⟩:=fr;dsimp only at cF A I;rw[dV]at cF;have M:=aL (dF ra);obtain⟨j,hrs⟩:∃j,j=Sy.bytesOf ra:=⟨_,rfl⟩;have H:=aL hrs;rw[<-hrs]at cF I M;clear hrs;go_wp2_with fail;refine cF.mono ?_
  rintro e w1 ⟨rfl,D⟩;have hA1:=hA0.below D;have t:=G.below D G.lt;have hc1:=hc0.below D hc0.lt;have B:=hB0.trans (D.mono hB0.size);clear x c0 c1 Y c3 c4 c5 K c7 c8 hA0 G hc0 D hB0 cF;have x:=t.four;obtain⟨c0,c1,Y,c3,c4,c5,K,c7,c8⟩:=hc1.nine
  cases te:re !=0
  rotate_left
  ·have HF:=aL (A.out.trans (aM (by simpa using te)))
   clear A;go_wp2_with fail;refine(aA re _).mono ?_
   rintro e9 w9 ⟨rfl,o⟩;have oq:=hA1.below o;have pg:=t.below o t.lt;have jv:=B.trans (o.mono B.size);clear x c0 c1 Y c3 c4 c5 K c7 c8;have x:=pg.four;go_wp2_with fail;refine aD (v:= .agg #[re,(0:Int),Qs.e,()]) ?_ rfl ?_
   ·simp[results,results60,go_sem,x]
   rw[HF.out];exact aZ (a:=(.no re)) hga oq rfl rfl (Fr.of jv) (Sub.refl _ _) rfl
  obtain rfl:re=0:=by simpa using te
  have A:=aL (A.out.trans (av (by decide)))
  have hrl:=I.out rfl;clear I te;obtain⟨_,_,AT,_,_,cT,_,_,gT,_,_,_,pq,_,_,nM⟩:=hA1.cells;have pq:aC w1 w1 AT r.T:=pq.here;have cG:=λW q=>a_ AT cT r.T j W q (by have:=HK.out.tl;omega)
  go_wp2_with fail;refine(cG w1 pq).mono ?_
  rintro e w2 ⟨gr,rfl,hr,D⟩;have vM:=aL hr;have hA2:=hA1.below D;have hz2:=t.below D t.lt;have hc2:=hc1.below D hc1.lt;have hB2:=B.trans (D.mono B.size);clear x c0 c1 Y c3 c4 c5 K c7 c8 gT pq nM hA1 t hc1 D B cG hr;obtain⟨y,hy⟩:∃y,y=gr.getD En.zero:=⟨_,rfl⟩;rw[<-hy];have HY:=aL hy;clear hy;obtain⟨dp,dk,dt,Z⟩:=y;simp only[En.agg,En.cells];have L:Below w2 w2 (w2.alloc (.cells #[dp,dk,dt,Z] 45)):=(aa _ w2).alloc aR (.cells #[dp,dk,dt,Z] 45);have hA3:=hA2.below L;have l:=hz2.below L hz2.lt;have hc3:=hc2.below L hc2.lt;have F:=hB2.trans (L.mono hB2.size);have hd3:=ai.new w2 45 [dp,dk,dt,Z];have hx3:w.heap.size+1<w2:=hz2.lt;go_upto_region 20 with fail
  generalize w2.alloc (.cells #[dp,dk,dt,Z] 45)=V at*;generalize w2.heap.size=gd at*;clear hA2 hB2 hz2 hc2 L;have z:=hd3.four;have x:=l.four;obtain⟨c0,c1,Y,c3,c4,c5,K,c7,c8⟩:=hc3.nine
  rcases gr with _|d
  rotate_left
  ·have HF:Hid (R=(r,.no 7)):=aL (by rw[A.out,<-M.out,<-vM.out];rfl)
   clear A;go_wp2_with fail;refine(aA 7 _).mono ?_
   rintro e9 w9 ⟨rfl,o⟩;have oq:=hA3.below o;have pg:=l.below o l.lt;have jv:=F.trans (o.mono F.size);clear x c0 c1 Y c3 c4 c5 K c7 c8;have x:=pg.four;go_wp2_with fail;refine aD (v:= .agg #[(7:Int),(0:Int),Qs.e,()]) ?_ rfl ?_
   ·simp[results,results60,go_sem,x]
   rw[HF.out];exact aZ (a:=(.no 7)) hga oq rfl rfl (Fr.of jv) (Sub.refl _ _) rfl
  have A:=aL (A.out.trans (av (by rw[<-M.out,<-vM.out];simp)))
  clear HY vM z hd3;have e0:(⟨j,2,⟨#[]⟩,false⟩:En)=⟨Sy.bytesOf ra,2,Sy.noE,false⟩:=by rw[H.out];rfl
  have e1:(⟨j,3,Q,false⟩:En)=⟨Sy.bytesOf ra,3,Q,false⟩:=by rw[H.out]
  obtain⟨⟨ek,et⟩,i⟩:∃y:Int×ByteArray,y=if b=10 then(3,Q)else(2,⟨#[]⟩):=⟨_,rfl⟩
  have HE2:Hid (Sy.jF ⟨b,co,cf,cn,cm,O,Q,cx,ca⟩ ra=⟨j,ek,et,false⟩):=aL (by
   unfold Sy.jF;dsimp only;rw[<-e0,<-e1]
   by_cases q:b=10
   ·rw[aM q]at i ⊢;injection i with a1 N;rw[a1,N]
   rw[av q]at i ⊢;injection i with a1 N;rw[a1,N])
  have acb:et.size<=1048576:=by
   by_cases q:b=10
   ·rw[aM q]at i;injection i with a1 N;rw[N];omega
   rw[av q]at i;injection i with a1 N;rw[N];decide
  have YG:=aL i;clear e0 e1 i;have U:Below V V (V.alloc (.cells #[.string j,(2:Int),Qs.e,false] 45)):=(aa _ V).alloc aR (.cells #[.string j,(2:Int),Qs.e,false] 45);have mY:=hA3.below U;have mY:=hA3.plus (.cells #[.string j,(2:Int),Qs.e,false] 45);have jY:=l.below U l.lt;have hB4:=F.trans (U.mono F.size);have he4:=ai.new V 45 [.string j,(2:Int),Qs.e,false];have hc4:=hc3.below U hc3.lt;have hx5:w.heap.size+1<V:=l.lt;have hx6:¬w.heap.size=V.heap.size:=by omega
  have hx7:¬V.heap.size=w.heap.size:=by omega
  go_upto_region 26 with fail
  clear x c0 c1 Y c3 c4 c5 K c7 c8;generalize V.alloc (.cells #[.string j,(2:Int),Qs.e,false] 45)=w4 at*;generalize V.heap.size=ge at*;clear hA3 F l hc3 U;obtain⟨e0,e1,e2,e3,ef,ez⟩:=he4.four;have x:=jY.four;obtain⟨c0,c1,Y,c3,c4,c5,K,c7,c8⟩:=hc4.nine;go_upto_if 94 with fail
  go_cut [] (λwx=>aO wx (p.plus (w.heap.size+1)) r/\Below w w wx/\ai wx (w.heap.size+1) 43 [(0:Int),(0:Int),Qs.e,()]/\ai wx ge 45 [.string j,ek,et,false])
  case first=>
   first
   |(
     have q:b≠10:=by simpa using k10
     have a:=YG.out;rw[av q]at a;injection a with a1 N
     subst a1 N;go_wp2;go_meet
     case rel=>exact⟨mY.pop (p.plus (w.heap.size+1)).e λ_ q=> .inl q,hB4,jY,he4⟩)
   |(
     have q:b=10:=by simpa using k10
     have a:=YG.out;rw[aM q]at a;injection a with a1 N
     subst a1 N;go_wp2;go_meet
     case rel=>
      have S:=((((mY.late 0 (.string j)).late 1 (.int .i64 3)).late 2 (.string et)).late 3 (.bool false)).pop (p.plus (w.heap.size+1)).e λ_ q=> .inl q
      exact⟨S,(((hB4.setCell (p:=ge) (by show w.heap.size<=ge;omega) _).setCell (p:=⟨ge,1,none⟩) (by show w.heap.size<=ge;omega) _).setCell (p:=⟨ge,2,none⟩) (by show w.heap.size<=ge;omega) _).setCell (p:=⟨ge,3,none⟩) (by show w.heap.size<=ge;omega) _,ai.acr jY (by omega) _ _ _ _,(((he4.bY 0 (.string j)).bY 1 (.int .i64 3)).bY 2 (.string et)).bY 3 (.bool false)⟩)
  case rest=>
  obtain⟨S,dh,jo,Jo⟩:=hcut;generalize wc=w5 at*;clear e0 e1 e2 e3 ef ez x c0 c1 Y c3 c4 c5 K c7 c8 mY hB4 jY he4 hc4 YG;obtain⟨AU,AL,_,cU,cL,_,g0,g1,_,_,_,hrU,_,_,_,acd⟩:=S.cells;obtain⟨e0,e1,e2,e3,ef,ez⟩:=Jo.four;have cP:=λW q q2=>qC (p.plus (w.heap.size+1)).X AU AL cU cL r.u j ek et false W q q2 HK.out.us (by omega) (by omega)
  have lG:=aL (HK.out.put ⟨j,ek,et,false⟩);have HF:=aL A.out;rw[HE2.out]at HF;clear A HE2;generalize Tr.putU r.u ⟨j,ek,et,false⟩=q at cP HF lG;have hbd:Below w5 w5 w5.drew:=(aa _ w5).drew;have Jm:w.heap.size+1≠p.g:=by omega
  go_upto_region 28 with fail
  go_region_with (first|(go_at_call 21;refine(cP w5.drew (hrU.on (Fr.of (X:=(p.plus (w.heap.size+1)).X) hbd) (Sub.refl _ _)) λk hk=>S.mX hk).mono ?_;rintro e w6 ⟨A6,xC,K,OM,rfl,uB,hb6⟩;have E:Below w5 w5 w6:=hbd.trans hb6)|(go_at_call 59;refine(kD (p.plus (w.heap.size+1)) r A6 xC K OM q w6 (S.below E) (λ_=>uB) lG.out).mono ?_;rintro e w7 ⟨rfl,iU,lh⟩;have fM:=(jo.below E jo.lt).fr lh Jm)|(go_at_call 98;refine(aA _ _).mono ?_;rintro e w8 ⟨rfl,hb8⟩;have x:=(fM.below hb8 fM.lt).four))
  all_goals
   have xn:Fr p.C w w8:=(((Fr.of dh:Fr p.C w w5).bf E).trans lh λ_ _ e=>e▸(.inl rfl:p.C p.g)).bf hb8
   go_wp2_with fail;refine aD (v:= .agg #[.int .i64 (Rw.set r q).2,(0:Int),Qs.e,()]) ?_ rfl ?_
   ·simp[results,results60,go_sem,x]
   rw[HF.out];exact aZ (a:=(.no (Rw.set r q).2)) hga (iU.below hb8) rfl rfl xn (Sub.refl _ _) rfl
theorem Tt(p:Rl)(r:Rw)(c:Ca)(w:World)(h:aO w p r)(hk:jr r)(hcs:jK c)(h0:c.kind=11\/c.kind=12)(ho0:0<=c.owner)(dI:c.owner<4):Calls prog 60 #[.pointer p.g,.agg #[c.kind,c.owner,c.fd,c.n,c.m,c.path,c.to,c.text,c.alone]] w (iJ p (r,Rw.tell r c) w):=by
 obtain⟨R,hR⟩:∃R,R=Rw.tell r c:=⟨_,rfl⟩;rw[<-hR];obtain⟨b,co,cf,cn,cm,M,ct,cx,ca⟩:=c;unfold Rw.tell at hR;dsimp only at hR h0 ho0 dI hcs ⊢;have u:=aL hR;have HK:=aL hk;have hcp:M.size<=1048576:=hcs.1;have Vf:ct.size<=1048576:=hcs.2.1;have o0:decide (co<0)=false:=bN (by omega)
 have o1:decide (3<co)=false:=bN (by omega)
 have k1:(b==1)=false:=by rcases h0 with h|h<;>(rw[h];rfl)
 have k6:(b==6)=false:=by rcases h0 with h|h<;>(rw[h];rfl)
 have k10:(b==10)=false:=by rcases h0 with h|h<;>(rw[h];rfl)
 have k7:(b==7)=false:=by rcases h0 with h|h<;>(rw[h];rfl)
 have k8:(b==8)=false:=by rcases h0 with h|h<;>(rw[h];rfl)
 have k9:(b==9)=false:=by rcases h0 with h|h<;>(rw[h];rfl)
 have kA:decide (b<1)=false:=bN (by omega)
 have kB:decide (16<b)=false:=bN (by omega)
 have Q:w.heap.size<=w.heap.size+1:=by omega
 have hgs:p.g<w:=h.bz h.rH;have hB0:=((aa w w).alloc aR (.cells #[b,co,cf,cn,cm,M,ct,cx,ca] 24)).alloc (((aa w w).alloc aR (.cells #[b,co,cf,cn,cm,M,ct,cx,ca] 24)).size) (.cells #[(0:Int),(0:Int),Qs.e,()] 43);have O:=(h.below ((aa w w).alloc aR (.cells #[b,co,cf,cn,cm,M,ct,cx,ca] 24))).plus (.cells #[(0:Int),(0:Int),Qs.e,()] 43);have G:=ai.new (w.alloc (.cells #[b,co,cf,cn,cm,M,ct,cx,ca] 24)) 43 [(0:Int),(0:Int),Qs.e,()];have S:=(ai.new w 24 [b,co,cf,cn,cm,M,ct,cx,ca]).alloc (.cells #[(0:Int),(0:Int),Qs.e,()] 43);rw[bX]at O G;have hkk:((b==11)=true/\(b==12)=false/\Hid (b=11))\/((b==11)=false/\(b==12)=true/\Hid (b≠11)):=by rcases h0 with h|h<;>(rw[h];first|exact .inl ⟨rfl,rfl,aL rfl⟩|exact .inr ⟨rfl,rfl,aL (by decide)⟩)
 clear hR hk hcs h h0 ho0 dI;go_enter func60,ntmps60;go_upto_region 1 with fail
 generalize (w.alloc (.cells #[b,co,cf,cn,cm,M,ct,cx,ca] 24)).alloc (.cells #[(0:Int),(0:Int),Qs.e,()] 43)=w0 at*;have j:=G.four;have z:=S.nine
 rcases hkk with⟨k11,k12,YG⟩|⟨k11,k12,YG⟩
 all_goals
  have cF:=kC _ r M true w0 O HK.out.right (by have:=HK.out.tl;omega) (by omega)
  unfold iL at cF;have H:=aL (fO (T:=r.T) (q:=M.data.toList) (fo:=true));generalize Sy.find r.T M true=fr at cF u H;obtain⟨ra,re⟩:=fr;dsimp only at cF u H;rw[dV]at cF;have t:=aL (dF ra);obtain⟨rs,hrs⟩:∃rs,rs=Sy.bytesOf ra:=⟨_,rfl⟩;have zY:=aL hrs;rw[<-hrs]at cF H t;clear hrs;go_wp2_with fail;refine cF.mono ?_
  rintro e w1 ⟨rfl,l⟩;have U:=O.below l;have A:=G.below l G.lt;have Z:=S.below l S.lt;have B:=hB0.trans (l.mono hB0.size);clear j z O G S l hB0 cF;have j:=A.four;have z:=Z.nine
  cases te:re !=0
  rotate_left
  ·have N:=aL (u.out.trans (aM (by simpa using te)))
   clear u;go_wp2_with fail;refine(aA re _).mono ?_
   rintro e9 w9 ⟨rfl,o⟩;have oq:=U.below o;have pg:=A.below o A.lt;have jv:=B.trans (o.mono B.size);clear j z;have j:=pg.four;go_wp2_with fail;refine aD (v:= .agg #[re,(0:Int),Qs.e,()]) ?_ rfl ?_
   ·simp[results,results60,go_sem,j]
   rw[N.out];exact aZ (a:=(.no re)) Q oq rfl rfl (Fr.of jv) (Sub.refl _ _) rfl
  obtain rfl:re=0:=by simpa using te
  have u:=aL (u.out.trans (av (by decide)))
  have hrl:=H.out rfl;clear H te;obtain⟨_,_,AT,_,_,cT,_,_,gT,_,_,_,i,_,_,L⟩:=U.cells;have i:aC w1 w1 AT r.T:=i.here;have cG:=λW q=>a_ AT cT r.T rs W q (by have:=HK.out.tl;omega)
  go_wp2_with fail;refine(cG w1 i).mono ?_
  rintro e w2 ⟨gr,rfl,hr,l⟩;have Y:=aL hr;have hA2:=U.below l;have V:=A.below l A.lt;have hc2:=Z.below l Z.lt;have hB2:=B.trans (l.mono B.size);clear j z gT i L U A Z l B cG hr;obtain⟨y,hy⟩:∃y,y=gr.getD En.zero:=⟨_,rfl⟩;rw[<-hy];have HY:=aL hy;clear hy;obtain⟨dp,dk,dt,E⟩:=y;simp only[En.agg,En.cells];have I:Below w2 w2 (w2.alloc (.cells #[dp,dk,dt,E] 45)):=(aa _ w2).alloc aR (.cells #[dp,dk,dt,E] 45);have K:=hA2.below I;have D:=V.below I V.lt;have hc3:=hc2.below I hc2.lt;have F:=hB2.trans (I.mono hB2.size);have hd3:=ai.new w2 45 [dp,dk,dt,E];have hx3:w.heap.size+1<w2:=V.lt;go_upto_region 20 with fail
  generalize w2.alloc (.cells #[dp,dk,dt,E] 45)=w3 at*;generalize w2.heap.size=gd at*;clear hA2 hB2 V hc2 I;have x:=hd3.four;have j:=D.four;have z:=hc3.nine
  first
  |(
    have N:=aL (u.out.trans (aM YG.out));clear u HY Y x hd3;obtain⟨_,_,AT,_,_,cT,_,_,gT,_,_,_,i,_,_,L⟩:=K.cells;have i:aC w3 w3 AT r.T:=i.here;have cL:=IG AT cT r.T rs w3 i (Tr.bn HK.out.right) (by have:=HK.out.tl;omega)
    unfold oO at cL;rw[t.out]at cL;generalize Tr.list r.T ra=q at cL N;obtain⟨ql,qe⟩:=q;dsimp only at cL N;go_wp2_with fail;refine cL.mono ?_
    rintro e w5 ⟨v,rfl,ho,l⟩;have lH:=K.below l;have jo:=D.below l D.lt;have dh:=F.trans (l.mono F.size);obtain⟨Aq,cq,rfl,hcq,_,Js⟩:=aT.off ho (X:=(p.plus (w.heap.size+1)).X) λk hk=>K.mX hk
    clear j z gT i L l cL ho;have j:=jo.four;go_wp2_with fail;refine aD (v:= .agg #[qe,(0:Int),Qs.e,.slice Aq ql.length cq]) ?_ rfl ?_
    ·simp[results,results60,go_sem,j]
    rw[N.out];exact Vy (p:=p) (p':=p) (a:=⟨qe,0,⟨#[]⟩,ql⟩) Q lH rfl rfl (Fr.of dh) (Sub.refl _ _) ⟨Aq,cq,rfl,Js⟩)
  |(
    have u:=aL (u.out.trans (av YG.out))
    rcases gr with _|d
    ·have N:Hid (R= .no 6):=aL (by rw[u.out,<-t.out,<-Y.out])
     clear u;go_wp2_with fail;refine(aA 6 _).mono ?_
     rintro e9 w9 ⟨rfl,o⟩;have oq:=K.below o;have pg:=D.below o D.lt;have jv:=F.trans (o.mono F.size);clear j z;have j:=pg.four;go_wp2_with fail;refine aD (v:= .agg #[(6:Int),(0:Int),Qs.e,()]) ?_ rfl ?_
     ·simp[results,results60,go_sem,j]
     rw[N.out];exact aZ (a:=(.no 6)) Q oq rfl rfl (Fr.of jv) (Sub.refl _ _) rfl
    obtain rfl:d=⟨dp,dk,dt,E⟩:=HY.out.symm;have N:Hid (R=⟨0,dk,dt,[]⟩):=aL (by rw[u.out,<-t.out,<-Y.out])
    clear u HY Y;go_wp2_with fail;refine aD (v:= .agg #[(0:Int),dk,dt,()]) ?_ rfl ?_
    ·simp[results,results60,go_sem,j]
    rw[N.out];exact aZ (a:=⟨0,dk,dt,[]⟩) Q K rfl rfl (Fr.of F) (Sub.refl _ _) rfl)
theorem Tz(p:Rl)(r:Rw)(c:Ca)(w:World)(h:aO w p r)(hk:jr r)(hcs:jK c)(h0:c.kind=7\/c.kind=8)(ho0:0<=c.owner)(dI:c.owner<4):Calls prog 60 #[.pointer p.g,.agg #[c.kind,c.owner,c.fd,c.n,c.m,c.path,c.to,c.text,c.alone]] w (iJ p (Rw.remove r c) w):=by
 obtain⟨R,hR⟩:∃R,R=Rw.remove r c:=⟨_,rfl⟩;rw[<-hR];obtain⟨o,co,cf,cn,cm,cp,ct,cx,ca⟩:=c;unfold Rw.remove at hR;dsimp only at hR h0 ho0 dI hcs ⊢;have HR:=aL hR;have HK:=aL hk;have hcp:cp.size<=1048576:=hcs.1;have Vf:ct.size<=1048576:=hcs.2.1;have o0:decide (co<0)=false:=bN (by omega)
 have o1:decide (3<co)=false:=bN (by omega)
 have k1:(o==1)=false:=by rcases h0 with h|h<;>(rw[h];rfl)
 have k6:(o==6)=false:=by rcases h0 with h|h<;>(rw[h];rfl)
 have k10:(o==10)=false:=by rcases h0 with h|h<;>(rw[h];rfl)
 have k11:(o==11)=false:=by rcases h0 with h|h<;>(rw[h];rfl)
 have k12:(o==12)=false:=by rcases h0 with h|h<;>(rw[h];rfl)
 have kA:decide (o<1)=false:=bN (by omega)
 have kB:decide (16<o)=false:=bN (by omega)
 have E:w.heap.size<=w.heap.size+1:=by omega
 have hgs:p.g<w:=h.bz h.rH;have hB0:=((aa w w).alloc aR (.cells #[o,co,cf,cn,cm,cp,ct,cx,ca] 24)).alloc (((aa w w).alloc aR (.cells #[o,co,cf,cn,cm,cp,ct,cx,ca] 24)).size) (.cells #[(0:Int),(0:Int),Qs.e,()] 43);have hA0:=(h.below ((aa w w).alloc aR (.cells #[o,co,cf,cn,cm,cp,ct,cx,ca] 24))).plus (.cells #[(0:Int),(0:Int),Qs.e,()] 43);have S:=ai.new (w.alloc (.cells #[o,co,cf,cn,cm,cp,ct,cx,ca] 24)) 43 [(0:Int),(0:Int),Qs.e,()];have hc0:=(ai.new w 24 [o,co,cf,cn,cm,cp,ct,cx,ca]).alloc (.cells #[(0:Int),(0:Int),Qs.e,()] 43);rw[bX]at hA0 S;have hkd:=h0;have acG:((o==7)=true/\(o==8)=false)\/((o==7)=false/\(o==8)=true):=by rcases h0 with h|h<;>(rw[h];decide)
 have HKD:=aL hkd;clear hR hk hcs h h0 ho0 dI hkd;go_enter func60,ntmps60;go_upto_region 1 with fail
 generalize (w.alloc (.cells #[o,co,cf,cn,cm,cp,ct,cx,ca] 24)).alloc (.cells #[(0:Int),(0:Int),Qs.e,()] 43)=w0 at*;have j:=S.four;have z:=hc0.nine
 rcases acG with⟨k7,k8⟩|⟨k7,k8⟩
 all_goals
  have cF:=kC _ r cp false w0 hA0 HK.out.right (by have:=HK.out.tl;omega) (by omega)
  unfold iL at cF;have V:=aL (fO (T:=r.T) (q:=cp.data.toList) (fo:=false));generalize Sy.find r.T cp false=fr at cF HR V;obtain⟨ra,re⟩:=fr;dsimp only at cF HR V;rw[dV]at cF;have uN:=aL (dF ra);obtain⟨D,hrs⟩:∃D,D=Sy.bytesOf ra:=⟨_,rfl⟩;have zY:=aL hrs;rw[<-hrs]at cF V uN;clear hrs;go_wp2_with fail;refine cF.mono ?_
  rintro e w1 ⟨rfl,O⟩;have hA1:=hA0.below O;have K:=S.below O S.lt;have hc1:=hc0.below O hc0.lt;have N:=hB0.trans (O.mono hB0.size);clear j z hA0 S hc0 O hB0 cF;have j:=K.four;have z:=hc1.nine
  cases te:re !=0
  rotate_left
  ·have H:=aL (HR.out.trans (aM (by simpa using te)))
   clear HR;go_wp2_with fail;refine(aA re _).mono ?_
   rintro e9 w9 ⟨rfl,b⟩;have l:=hA1.below b;have A:=K.below b K.lt;have t:=N.trans (b.mono N.size);clear j z;have j:=A.four;go_wp2_with fail;refine aD (v:= .agg #[re,(0:Int),Qs.e,()]) ?_ rfl ?_
   ·simp[results,results60,go_sem,j]
   rw[H.out];exact aZ (a:=(.no re)) E l rfl rfl (Fr.of t) (Sub.refl _ _) rfl
  obtain rfl:re=0:=by simpa using te
  have HR:=aL (HR.out.trans (av (by decide)))
  have hrl:=V.out rfl;clear V te;obtain⟨_,_,AT,_,_,cT,_,_,gT,_,_,_,pq,_,_,nM⟩:=hA1.cells;have pq:aC w1 w1 AT r.T:=pq.here;have cG:=λW q=>a_ AT cT r.T D W q (by have:=HK.out.tl;omega)
  go_wp2_with fail;refine(cG w1 pq).mono ?_
  rintro e w2 ⟨gr,rfl,hr,O⟩;have vM:=aL hr;have hA2:=hA1.below O;have hz2:=K.below O K.lt;have hc2:=hc1.below O hc1.lt;have hB2:=N.trans (O.mono N.size);clear j z gT pq nM hA1 K hc1 O N cG hr;obtain⟨y,hy⟩:∃y,y=gr.getD En.zero:=⟨_,rfl⟩;rw[<-hy];have HY:=aL hy;clear hy;obtain⟨dp,F,dt,Q⟩:=y;simp only[En.agg,En.cells];have Y:Below w2 w2 (w2.alloc (.cells #[dp,F,dt,Q] 45)):=(aa _ w2).alloc aR (.cells #[dp,F,dt,Q] 45);have G:=hA2.below Y;have i:=hz2.below Y hz2.lt;have hc3:=hc2.below Y hc2.lt;have B:=hB2.trans (Y.mono hB2.size);have hd3:=ai.new w2 45 [dp,F,dt,Q];have hx3:w.heap.size+1<w2:=hz2.lt;go_upto_region 20 with fail
  generalize w2.alloc (.cells #[dp,F,dt,Q] 45)=w3 at*;generalize w2.heap.size=gd at*;clear hA2 hB2 hz2 hc2 Y;have x:=hd3.four;have j:=i.four;have z:=hc3.nine
  rcases gr with _|d
  ·have H:Hid (R=(r,.no 6)):=aL (by rw[HR.out,<-uN.out,<-vM.out])
   clear HR;go_wp2_with fail;refine(aA 6 _).mono ?_
   rintro e9 w9 ⟨rfl,b⟩;have l:=G.below b;have A:=i.below b i.lt;have t:=B.trans (b.mono B.size);clear j z;have j:=A.four;go_wp2_with fail;refine aD (v:= .agg #[(6:Int),(0:Int),Qs.e,()]) ?_ rfl ?_
   ·simp[results,results60,go_sem,j]
   rw[H.out];exact aZ (a:=(.no 6)) E l rfl rfl (Fr.of t) (Sub.refl _ _) rfl
  obtain rfl:d=⟨dp,F,dt,Q⟩:=HY.out.symm;rw[<-uN.out,<-vM.out]at HR;have HR1:Hid (R=if o=7/\F≠2 then(r,.no 10)else if o=8/\F=2 then(r,.no 9)else if D.data.toList=[]then(r,.no 8)else if(Tr.removeU r.u D).2≠0 then(r,.no (Tr.removeU r.u D).2)else((Rw.set (Rw.gone r D) (Tr.removeU r.u D)).1,.no (Rw.set (Rw.gone r D) (Tr.removeU r.u D)).2)):=HR
  clear HY vM HR
  by_cases q7:o=7/\F≠2
  ·first
   |exact absurd q7.1 (by simpa using k7)
   |(
     have H:=aL (HR1.out.trans (aM q7));have k2:(F !=2)=true:=by simp[q7.2]
     clear HR1 q7;go_wp2_with fail;refine(aA 10 _).mono ?_
     rintro e9 w9 ⟨rfl,b⟩;have l:=G.below b;have A:=i.below b i.lt;have t:=B.trans (b.mono B.size);clear j z;have j:=A.four;go_wp2_with fail;refine aD (v:= .agg #[(10:Int),(0:Int),Qs.e,()]) ?_ rfl ?_
     ·simp[results,results60,go_sem,j]
     rw[H.out];exact aZ (a:=(.no 10)) E l rfl rfl (Fr.of t) (Sub.refl _ _) rfl)
  have HR2:=aL (HR1.out.trans (av q7));clear HR1
  by_cases q8:o=8/\F=2
  ·first
   |exact absurd q8.1 (by simpa using k8)
   |(
     have H:=aL (HR2.out.trans (aM q8));have k2:(F==2)=true:=by simp[q8.2]
     clear HR2 q7 q8;go_wp2_with fail;refine(aA 9 _).mono ?_
     rintro e9 w9 ⟨rfl,b⟩;have l:=G.below b;have A:=i.below b i.lt;have t:=B.trans (b.mono B.size);clear j z;have j:=A.four;go_wp2_with fail;refine aD (v:= .agg #[(9:Int),(0:Int),Qs.e,()]) ?_ rfl ?_
     ·simp[results,results60,go_sem,j]
     rw[H.out];exact aZ (a:=(.no 9)) E l rfl rfl (Fr.of t) (Sub.refl _ _) rfl)
  have I:=aL (HR2.out.trans (av q8));clear HR2;have k2:((o==7)=true->(F !=2)=false)/\((o==8)=true->(F==2)=false):=⟨λq=>by
   by_cases e:F=2
   ·simp[e]
   ·exact absurd ⟨by simpa using q,e⟩ q7,λq=>by
   by_cases e:F=2
   ·exact absurd ⟨by simpa using q,e⟩ q8
   simp[e]⟩
  clear q7 q8
  first
  |(have k2:=k2.1 k7)
  |(have k2:=k2.2 k8)
  obtain⟨AU,AL,_,cU,cL,_,g0,g1,_,_,_,hrU,_,_,_,KG⟩:=G.cells;have cRm:=λW q q2=>IK (p.plus (w.heap.size+1)).X AU AL cU cL r.u D W q q2 HK.out.us (by omega)
  have lG:=aL (HK.out.rem D);have Vg:=λW q=>zZ (p.plus (w.heap.size+1)) r D W q (by have:=HK.out.tl;omega) (by have:=HK.out.ol;omega)
  generalize Tr.removeU r.u D.data.toList=q at cRm I lG;obtain⟨sl,hsl⟩:∃sl,sl=Rw.gone r D.data.toList:=⟨_,rfl⟩;rw[<-hsl]at Vg I;clear hsl
  rcases aG D with⟨hE,e1,e2⟩|⟨hE,e1,e2⟩
  ·have H:=aL (I.out.trans (aM hE))
   clear I hE;go_wp2_with fail;refine(aA 8 _).mono ?_
   rintro e9 w9 ⟨rfl,b⟩;have l:=G.below b;have A:=i.below b i.lt;have t:=B.trans (b.mono B.size);clear j z;have j:=A.four;go_wp2_with fail;refine aD (v:= .agg #[(8:Int),(0:Int),Qs.e,()]) ?_ rfl ?_
   ·simp[results,results60,go_sem,j]
   rw[H.out];exact aZ (a:=(.no 8)) E l rfl rfl (Fr.of t) (Sub.refl _ _) rfl
  have HR4:=aL (I.out.trans (av hE));clear hE I;go_wp2_with fail;refine(cRm w3 hrU λk hk=>G.mX hk).mono ?_
  rintro e w4 ⟨A6,xC,Vm,SG,rfl,hO4,hb6⟩;have mY:=G.below hb6;have hB4:=B.trans (hb6.mono B.size);have jY:=i.below hb6 i.lt;have hc4:=hc3.below hb6 hc3.lt;have M:Below w4 w4 (w4.alloc (.cells #[.slice A6 q.1.U.length Vm,.slice xC q.1.L.length SG] 33)):=(aa _ w4).alloc aR _;have lH:=mY.below M;have Js:=hO4.on (Fr.of (X:=(p.plus (w.heap.size+1)).X) M) (Sub.refl _ _);have dh:=hB4.trans (M.mono hB4.size);have jo:=jY.below M jY.lt;have hc5:=hc4.below M hc4.lt;have Pq:=ai.new w4 33 [.slice A6 q.1.U.length Vm,.slice xC q.1.L.length SG];have Zw:∀k,p.C k->k<w4.heap.size:=λk hk=>mY.bz hk
  have adH:p.g<w4:=mY.bz mY.rH;clear x j z hd3 g0 g1 hrU KG;go_upto_region 40 with fail
  generalize w4.alloc (.cells #[.slice A6 q.1.U.length Vm,.slice xC q.1.L.length SG] 33)=w5 at*;generalize w4.heap.size=gu at*;clear mY hO4 hB4 jY M hb6 hc4;have Z:=Pq.two;have j:=jo.four;have z:=hc5.nine
  cases tq:q.2 !=0
  rotate_left
  ·have H:=aL (HR4.out.trans (aM (by simpa using tq)))
   go_wp2_with fail;refine(aA q.2 _).mono ?_
   rintro e9 w9 ⟨rfl,b⟩;have l:=lH.below b;have A:=jo.below b jo.lt;have t:=dh.trans (b.mono dh.size);clear j z;have j:=A.four;go_wp2_with fail;refine aD (v:= .agg #[q.2,(0:Int),Qs.e,()]) ?_ rfl ?_
   ·simp[results,results60,go_sem,j]
   rw[H.out];exact aZ (a:=(.no q.2)) E l rfl rfl (Fr.of t) (Sub.refl _ _) rfl
  have hq0:q.2=0:=by simpa using tq
  have H:=aL (HR4.out.trans (av (by rw[hq0];decide)))
  clear HR4;have HQ0:=aL hq0;clear hq0;go_wp2_with fail;refine(Vg w5 lH).mono ?_
  rintro e w6 ⟨rfl,nG,uH⟩;have AA:=Off.mine (C:=p.C) Js uH λk hk=> .inl hk
  have kW:=jo.Yo lH uH;have SC:=Pq.fr uH λhc=>by have:=Zw _ hc;omega
  have rV:Fr p.C w w6:=(Fr.of dh:Fr p.C w w5).trans uH (Sub.refl _ _);clear j z Z;have Z:=SC.two;have j:=kW.four;have cS:=kD (p.plus (w.heap.size+1)) sl A6 xC Vm SG q w6 nG (λ_=>AA) lG.out
  go_wp2_with fail;refine cS.mono ?_
  rintro e w7 ⟨rfl,iU,lh⟩;have fM:=kW.fr lh (show w.heap.size+1≠p.g by omega)
  go_wp2_with fail;refine(aA _ _).mono ?_
  rintro e w8 ⟨rfl,hb8⟩;have vN:=iU.below hb8;have uy:=fM.below hb8 fM.lt;have xn:Fr p.C w w8:=(rV.trans lh λ_ _ e=>e▸(.inl rfl:p.C p.g)).bf hb8
  clear j Z;have j:=uy.four;go_wp2_with fail;refine aD (v:= .agg #[.int .i64 (Rw.set sl q).2,(0:Int),Qs.e,()]) ?_ rfl ?_
  ·simp[results,results60,go_sem,j]
  rw[H.out];exact aZ (a:=(.no (Rw.set sl q).2)) E vN rfl rfl xn (Sub.refl _ _) rfl
theorem Rw.Ad{r:Rw}{d:Nat}(h:d<r.des.length):Rw.deAt r d=r.des[d]:=by
 unfold Rw.deAt;rw[bi,bA h];rfl
theorem Rw.wz{r:Rw}{i:Nat}(h:i<r.objs.length):Rw.obAt r i=r.objs[i]:=by
 unfold Rw.obAt;rw[bi,bA h];rfl
theorem Rw.zQ(r:Rw)(d:Nat)(n:Int):Rw.setDe r d (λx=>{x with at_:=x.at_+n})=Rw.setDe r d (λx=>{x with at_:=(Rw.deAt r d).at_+n}):=by
 unfold Rw.setDe
 congr 1
 apply lv
 intro k;rw[mR,mR]
 by_cases e:d=k
 ·subst e
  rcases iB d r.des.length with h|h
  ·rw[Rw.Ad h,bA h];simp
  rw[j4 h];rfl
 simp[e]
theorem Rw.n_(r:Rw)(i:Nat)(f:Ob->Ob):(Rw.setOb r i f).objs.length=r.objs.length:=by unfold Rw.setOb;exact gP _ _ _
theorem Rw.VI(r:Rw)(i:Nat)(f:List Lk->List Lk):Rw.setOb r i (λx=>{x with l:=f x.l})=Rw.setOb r i (λx=>{x with l:=f (Rw.obAt r i).l}):=by
 unfold Rw.setOb
 congr 1
 apply lv
 intro k;rw[mR,mR]
 by_cases e:i=k
 ·subst e
  rcases iB i r.objs.length with h|h
  ·rw[Rw.wz h,bA h];simp
  rw[j4 h];rfl
 simp[e]
theorem Rw.PT(r:Rw)(i:Nat):Rw.setOb (Rw.setOb (Rw.setOb r i λo=>{o with p:=⟨#[]⟩}) i λo=>{o with t:=⟨#[]⟩}) i (λo=>{o with l:=[]})=Rw.setOb r i λ_=>Rw.zob:=by
 unfold Rw.setOb;dsimp only
 congr 1
 apply lv
 intro k;simp only[mR]
 by_cases e:i=k
 ·subst e
  cases r.objs[i]? with
  |none=>rfl
  |some o=>simp;rfl
 simp[e]
theorem Lk.Lr{L:List Lk}{k:Nat}(hk:k<L.length){o:Int}:(L[k].o≠o->Lk.leave (L.take (k+1)) o=Lk.leave (L.take k) o++[L[k]])/\(L[k].o=o->Lk.leave (L.take (k+1)) o=Lk.leave (L.take k) o):=by
 unfold Lk.leave;rw[aF hk,j3]
 constructor
 ·intro h;simp[h]
 intro h;simp[h]
theorem Ls{w w':World}{base:Nat}{v:Value}{l:List Lk}(h:aW w base v l)(hb:Below w w w'):aW w' base v l:=jJ h (X:=λ_=>False) (Fr.of hb) λ_ _ e=>e
theorem Rw.VJ(r:Rw)(x:Un×Int):(Rw.set r x).1.des=r.des:=by unfold Rw.set;split<;>rfl
theorem Rw.VK{r:Rw}{i:Nat}{x:ByteArray}:(Rw.put r i x).1.des=r.des:=by
 unfold Rw.put
 split
 ·rfl
 split
 ·rfl
 exact Rw.VJ _ _
namespace jr
open Tryz
variable {r:Rw}
theorem shut(hk:jr r)(o k:Nat):(Rw.setFd r o k none).fds.length=4/\(∀x∈(Rw.setFd r o k none).fds,x.length=8)/\∀x∈(Rw.setFd r o k none).fds,∀d,some d∈x->d<r.des.length:=by
 refine⟨by show(r.fds.modify _ _).length=4;rw[gP];exact hk.fdl,λx b=> ?_,λx b d c=> ?_⟩
 ·rcases Sy.qZ (show x∈r.fds.modify o _ from b)with h|⟨y,a,rfl⟩
  ·exact hk.fdr x h
  rw[zm];exact hk.fdr y a
 rcases Sy.qZ (show x∈r.fds.modify o _ from b)with h|⟨y,a,rfl⟩
 ·exact hk.fdd x h d c
 rcases List.mem_or_eq_of_mem_set c with h|h
 ·exact hk.fdd y a d h
 cases h
theorem fdAt(hk:jr r){o k:Nat}(ho:o<4)(h8:k<8):∃(h1:o<r.fds.length) (h2:k<r.fds[o].length),Rw.fdAt r o k=r.fds[o][k]:=by
 have h1:o<r.fds.length:=by rw[hk.fdl];exact ho
 have h2:k<r.fds[o].length:=by rw[hk.fdr _ (cz h1)];exact h8
 refine⟨h1,h2,?_⟩
 unfold Rw.fdAt;rw[bi,bi,bA h1,qD,bA h2];rfl
theorem ZL(hk:jr r){o k d:Nat}(ho:o<4)(h8:k<8)(h:Rw.fdAt r o k=some d):d<r.des.length:=by
 obtain⟨a,b,e⟩:=hk.fdAt ho h8;rw[e]at h;exact hk.fdd _ (cz a) d (h▸cz b)
theorem ZM(hk:jr r){d:Nat}(h:d<r.des.length):(Rw.deAt r d).o<r.objs.length/\0<=(Rw.deAt r d).at_/\(Rw.deAt r d).at_<=1000/\0<=(Rw.deAt r d).fl/\(Rw.deAt r d).fl<=63:=by
 rw[Rw.Ad h];exact hk.de _ (cz h)
theorem obF(hk:jr r){i:Nat}(h:i<r.objs.length):Sy.xB 1000 (Rw.obAt r i):=by
 rw[Rw.wz h];exact hk.ob _ (cz h)
theorem uI(hk:jr r){o k:Nat}(ho:o<4)(h:Rw.free r o=some k):k<8:=by
 have b:o<r.fds.length:=by rw[hk.fdl];exact ho
 unfold Rw.free at h;rw[bi,bA b,qD,wm]at h;obtain⟨a,_⟩:=h;rw[hk.fdr _ (cz b)]at a;exact a
end jr
theorem DJ{w:World}{lo:Nat}{v:Value}{l:List Lk}(h:aW w lo v l){X:Nat->Prop}(hx:∀k,X k->k<lo):∃A c,v= .slice A l.length c/\l.length<=c/\Off X w λw=>dJ w w A l:=xR h hx
theorem slice_inj{b b' n n' c c':Nat}(h:Value.slice b n c=Value.slice b' n' c'):b=b':=by
 injection h with h
 injection h with h
 injection h
namespace aO
open Tryz
variable {w:World} {p:Rl} {r:Rw}
theorem VL(h:aO w p r)(hk:jr r){o k:Nat}(ho:o<4)(h8:k<8):w.cell? ⟨p.g,5+o*8+k,none⟩=some (tC (Rw.fdAt r o k)):=by
 obtain⟨a,b,e⟩:=hk.fdAt ho h8;rw[e];exact h.xY hk.fdr a b
theorem dec(h:aO w p r){d:Nat}(hd:d<r.des.length):∃b c,p.vD= .slice (some ⟨b,0,none⟩) r.des.length c/\b<w.heap.size/\b≠p.g/\w.cell? ⟨b,d*3,none⟩=some (.int .i64 (Rw.deAt r d).o)/\w.cell? ⟨b,d*3+1,none⟩=some (.int .i64 (Rw.deAt r d).fl)/\w.cell? ⟨b,d*3+2,none⟩=some (.int .i64 (Rw.deAt r d).at_)/\∀j,w.frozen? ⟨b,j,none⟩=false:=by
 rw[Rw.Ad hd];exact h.de hd
theorem obc(h:aO w p r){i:Nat}(hi:i<r.objs.length):∃b c A cl,p.vO= .slice (some ⟨b,0,none⟩) r.objs.length c/\b<w.heap.size/\b≠p.g/\w.cell? ⟨b,i*3,none⟩=some (.string (Rw.obAt r i).p)/\w.cell? ⟨b,i*3+1,none⟩=some (.string (Rw.obAt r i).t)/\w.cell? ⟨b,i*3+2,none⟩=some (.slice A (Rw.obAt r i).l.length cl)/\
  Off p.X w (λw=>dJ w w A (Rw.obAt r i).l)/\(Rw.obAt r i).l.length<=cl/\∀j,w.frozen? ⟨b,j,none⟩=false:=by
 rw[Rw.wz hi];exact h.ob hi
theorem frO{b c:Nat}(h:aO w p r)(hv:p.vO= .slice b r.objs.length c):∀j,w.frozen? ⟨b,j,none⟩=false:=by
 obtain⟨e,a⟩:=h.own;rw[hv]at a;exact a.frozenAt
theorem Um{b c:Nat}(h:aO w p r)(hv:p.vD= .slice b r.des.length c):∀j,w.frozen? ⟨b,j,none⟩=false:=by
 have a:=h.des;rw[hv]at a;exact a.frozenAt
theorem abd{b b' n n' c c':Nat}(h:aO w p r)(hv:p.vO= .slice b n c)(hd:p.vD= .slice b' n' c'):b≠b':=λe=>h.O_D b (by rw[hv];rfl) (by rw[hd,e];rfl)
theorem ZN{g b n c:Nat}(h:aO w (p.plus g) r)(hv:p.vD= .slice b n c):b≠g:=λe=>h.ce b (.inr (.inr (by show p.vD.ownBlock=_;rw[hv];rfl))) (.inr e)
theorem neO{g b n c:Nat}(h:aO w (p.plus g) r)(hv:p.vO= .slice b n c):b≠g:=λe=>h.ce b (.inr (.inl (by show p.vO.ownBlock=_;rw[hv];rfl))) (.inr e)
theorem free(h:aO w p r)(hk:jr r){o:Nat}(ho:o<4):Calls prog 125 #[.pointer p.g,o] w λe w'=>e= .returned (.int .i64 (((Rw.free r o).getD 8:Nat):Int))/\w=w':=by
 have a:o<r.fds.length:=by rw[hk.fdl];exact ho
 have e:r.fds.getD o []=r.fds[o]:=by rw[bi,bA a];rfl
 unfold Rw.free;rw[e];exact KQ p.g o r.fds[o] w ho (hk.fdr _ (cz a)) λk b=>h.xY hk.fdr a b
end aO
theorem IM(l:List Lk)(x:Lk):rG l x (Lk.take l x).1 (Lk.take l x).2:=by
 unfold rG Lk.take
 by_cases a:(Lk.wrong l).1=0
 ·rw[av (by simp[a])]
  by_cases b:(Lk.wrong [x]).1=0
  ·rw[av (by simp[b])]
   by_cases c:(Lk.meets l x).isSome=true
   ·rw[aM c];exact .inr (.inr (.inl ⟨a,b,c,rfl,rfl⟩))
   rw[av c];refine .inr (.inr (.inr ⟨a,b,by simpa using c,_,Lk.vW _,Lk.ED _,?_⟩))
   by_cases e:40<(Lk.tidy (Lk.sort (Lk.cut l x++[x]))).length
   ·rw[aM e];exact .inl ⟨e,rfl,rfl⟩
   rw[av e];exact .inr ⟨by omega,rfl,rfl⟩
  rw[aM b];exact .inr (.inl ⟨a,b,rfl,rfl⟩)
 rw[aM a];exact .inl ⟨a,rfl,rfl⟩
theorem IP(l:List Lk)(x:Lk):uG l x (Lk.free l x).1 (Lk.free l x).2:=by
 unfold uG Lk.free
 by_cases a:(Lk.wrong l).1=0
 ·rw[av (by simp[a])]
  by_cases b:(Lk.wrong [x]).1=0
  ·rw[av (by simp[b])]
   refine .inr (.inr ⟨a,b,?_⟩)
   by_cases c:40<(Lk.cut l x).length
   ·rw[aM c];exact .inl ⟨c,rfl,rfl⟩
   rw[av c];exact .inr ⟨by omega,rfl,rfl⟩
  rw[aM b];exact .inr (.inl ⟨a,b,rfl,rfl⟩)
 rw[aM a];exact .inl ⟨a,rfl,rfl⟩
theorem IQ{l m:List Lk}{x:Lk}{err:Int}(h:nZ l x (Lk.way x.a) m err):Lk.take l x=(m,err):=by
 obtain⟨a,b⟩:=take_set (IM l x) h;rw[<-a,<-b]
theorem IU{l m:List Lk}{x:Lk}{err:Int}(h:nZ l x 0 m err):Lk.free l x=(m,err):=by
 obtain⟨a,b⟩:=TF (IP l x) h;rw[<-a,<-b]
namespace Rw
open Tryz
def ZO(a b:Pt.Bs)(o:Ob):Ob:=if o.P=a\/Pt.under o.P a=true then{o with p:=Sy.bytesOf (b++o.P.drop a.length)}else o
def d_(r:Rw)(a b:Pt.Bs)(k:Nat):Rw:={r with objs:=r.objs.mapIdx λi o=>if i<k then ZO a b o else o}
theorem E5(r:Rw)(a b:Pt.Bs):d_ r a b 0=r:=by
 unfold d_;have e:(r.objs.mapIdx λi o=>if i<0 then ZO a b o else o)=r.objs:=by
  apply lv
  intro j;rw[j5]
  cases r.objs[j]? <;>simp
 rw[e]
theorem IV(r:Rw)(a b:Pt.Bs):d_ r a b r.objs.length=follow r a b:=by
 unfold d_ follow;have e:(r.objs.mapIdx λi o=>if i<r.objs.length then ZO a b o else o)=r.objs.map λo=>if o.P=a\/Pt.under o.P a=true then{o with p:=Sy.bytesOf (b++o.P.drop a.length)}else o:=by
  apply lv
  intro j;rw[j5,pE]
  rcases iB j r.objs.length with h|h
  ·rw[bA h];simp[h,ZO]
  rw[j4 h];rfl
 rw[e]
theorem nI(r:Rw)(a b:Pt.Bs)(k:Nat):(d_ r a b k).objs.length=r.objs.length:=by unfold d_;simp
theorem Lt{r:Rw}{a b:Pt.Bs}{k:Nat}(hk:k<r.objs.length):obAt (d_ r a b k) k=r.objs[k]:=by
 rw[nY (by rw[nI];exact hk)]
 unfold d_;simp
theorem E8{r:Rw}{a b:Pt.Bs}{k:Nat}(hk:k<r.objs.length)(h:¬(r.objs[k].P=a\/Pt.under r.objs[k].P a=true)):d_ r a b (k+1)=d_ r a b k:=by
 unfold d_
 congr 1
 apply lv
 intro j;rw[j5,j5]
 rcases iB j r.objs.length with c|c
 ·rw[bA c]
  by_cases e:j=k
  ·subst e;simp[ZO,h]
  have:(j<k+1)↔j<k:=by omega
  simp[this]
 rw[j4 c];rfl
theorem IW{r:Rw}{a b:Pt.Bs}{k:Nat}(hk:k<r.objs.length)(h:r.objs[k].P=a\/Pt.under r.objs[k].P a=true)(v:ByteArray)(hv:v=Sy.bytesOf (b++r.objs[k].P.drop a.length)):d_ r a b (k+1)=setOb (d_ r a b k) k λo=>{o with p:=v}:=by
 unfold d_ setOb;dsimp only
 congr 1
 apply lv
 intro j;rw[mR,j5,j5]
 rcases iB j r.objs.length with c|c
 ·rw[bA c]
  by_cases e:j=k
  ·subst e;simp[ZO,h,hv]
  have:(j<k+1)↔j<k:=by omega
  simp[this,Fy e]
 rw[j4 c];rfl
theorem TG(r:Rw)(q:Pt.Bs):(gone r q).objs.length=r.objs.length:=by unfold gone;simp
theorem VM{r:Rw}{q:Pt.Bs}{B:Nat}(h:∀o∈r.objs,o.p.size<=B):∀o∈(gone r q).objs,o.p.size<=B:=λo a=>by
 unfold gone at a;obtain⟨i,b,rfl⟩:=mq a;rw[uW]
 split
 ·exact bL _
 ·exact h _ (cz _)
end Rw
theorem PU(op rs ts:ByteArray):ts++op.extract rs.size op.size=Sy.bytesOf (ts.data.toList++op.data.toList.drop rs.data.toList.length):=by
 refine sS ?_
 rw[gQ,mF];have a:op.data.toList.length=op.size:=af op;rw[fI (l:=op.data.toList) (i:=op.size) (by omega),af]
 rfl
theorem TI{op rs:ByteArray}(h:op.data.toList=rs.data.toList\/Pt.under op rs.data.toList=true)(hr:¬rs.data.toList=[]):rs.size<=op.size:=by
 rw[<-af rs,<-af op]
 rcases h with h|h
 ·rw[h];exact aR
 obtain⟨r,hr⟩:=(Pt.under_iff hr).1 h;rw[hr,bq];omega
theorem TJ(p:Rl)(r:Rw)(c:Ca)(w:World)(h:aO w p r)(hk:jr r)(hcs:jK c)(h0:c.kind=9)(ho0:0<=c.owner)(dI:c.owner<4):Calls prog 60 #[.pointer p.g,.agg #[c.kind,c.owner,c.fd,c.n,c.m,c.path,c.to,c.text,c.alone]] w (iJ p (Rw.rename r c) w):=by
 obtain⟨R,hR⟩:∃R,R=Rw.rename r c:=⟨_,rfl⟩;rw[<-hR];obtain⟨V,co,cf,cn,cm,cp,ct,cx,ca⟩:=c;unfold Rw.rename at hR;dsimp only at hR h0 ho0 dI hcs ⊢;have HR:=aL hR;have HK:=aL hk;have hcp:cp.size<=1048576:=hcs.1;have Vf:ct.size<=1048576:=hcs.2.1;have o0:decide (co<0)=false:=bN (by omega)
 have o1:decide (3<co)=false:=bN (by omega)
 have k1:(V==1)=false:=by rw[h0];rfl
 have k6:(V==6)=false:=by rw[h0];rfl
 have k10:(V==10)=false:=by rw[h0];rfl
 have k7:(V==7)=false:=by rw[h0];rfl
 have k8:(V==8)=false:=by rw[h0];rfl
 have k9:(V==9)=true:=by rw[h0];rfl
 have k11:(V==11)=false:=by rw[h0];rfl
 have k12:(V==12)=false:=by rw[h0];rfl
 have kA:decide (V<1)=false:=bN (by omega)
 have kB:decide (16<V)=false:=bN (by omega)
 have hga:w.heap.size<=w.heap.size+1:=by omega
 have hgs:p.g<w:=h.bz h.rH;have hB0:=((aa w w).alloc aR (.cells #[V,co,cf,cn,cm,cp,ct,cx,ca] 24)).alloc (((aa w w).alloc aR (.cells #[V,co,cf,cn,cm,cp,ct,cx,ca] 24)).size) (.cells #[(0:Int),(0:Int),Qs.e,()] 43);have hA0:=(h.below ((aa w w).alloc aR (.cells #[V,co,cf,cn,cm,cp,ct,cx,ca] 24))).plus (.cells #[(0:Int),(0:Int),Qs.e,()] 43);have hz0:=ai.new (w.alloc (.cells #[V,co,cf,cn,cm,cp,ct,cx,ca] 24)) 43 [(0:Int),(0:Int),Qs.e,()];have hc0:=(ai.new w 24 [V,co,cf,cn,cm,cp,ct,cx,ca]).alloc (.cells #[(0:Int),(0:Int),Qs.e,()] 43);rw[bX]at hA0 hz0;clear hR hk hcs h h0 ho0 dI;go_enter func60,ntmps60;go_upto_region 1 with fail
 generalize (w.alloc (.cells #[V,co,cf,cn,cm,cp,ct,cx,ca] 24)).alloc (.cells #[(0:Int),(0:Int),Qs.e,()] 43)=w0 at*;have z:=hz0.four;obtain⟨c0,c1,c2,c3,c4,c5,c6,c7,c8⟩:=hc0.nine;have cF:=kC _ r cp false w0 hA0 HK.out.right (by have:=HK.out.tl;omega) (by omega)
 unfold iL at cF;have E:=aL (fO (T:=r.T) (q:=cp.data.toList) (fo:=false));generalize Sy.find r.T cp false=fr at cF HR E;obtain⟨ra,re⟩:=fr;dsimp only at cF HR E;rw[dV]at cF;have uN:=aL (dF ra);obtain⟨rs,hrs⟩:∃rs,rs=Sy.bytesOf ra:=⟨_,rfl⟩;have zY:=aL hrs;rw[<-hrs]at cF E uN;clear hrs;go_wp2_with fail;refine cF.mono ?_
 rintro e w1 ⟨rfl,K⟩;have hA1:=hA0.below K;have hz1:=hz0.below K hz0.lt;have hc1:=hc0.below K hc0.lt;have hB1:=hB0.trans (K.mono hB0.size);clear z c0 c1 c2 c3 c4 c5 c6 c7 c8 hA0 hz0 hc0 K hB0 cF;have z:=hz1.four;obtain⟨c0,c1,c2,c3,c4,c5,c6,c7,c8⟩:=hc1.nine
 cases te:re !=0
 rotate_left
 ·have HF:=aL (HR.out.trans (aM (by simpa using te)))
  clear HR;go_wp2_with fail;refine(aA re _).mono ?_
  rintro e9 w9 ⟨rfl,i⟩;have B:=hA1.below i;have D:=hz1.below i hz1.lt;have I:=hB1.trans (i.mono hB1.size);clear z c0 c1 c2 c3 c4 c5 c6 c7 c8;have z:=D.four;go_wp2_with fail;refine aD (v:= .agg #[re,(0:Int),Qs.e,()]) ?_ rfl ?_
  ·simp[results,results60,go_sem,z]
  rw[HF.out];exact aZ (a:=(.no re)) hga B rfl rfl (Fr.of I) (Sub.refl _ _) rfl
 obtain rfl:re=0:=by simpa using te
 have HR:=aL (HR.out.trans (av (by decide)))
 have hrl:=E.out rfl;clear E te;obtain⟨_,_,AT,_,_,cT,_,_,gT,_,_,_,pq,_,_,nM⟩:=hA1.cells;have pq:aC w1 w1 AT r.T:=pq.here;have cG:=λW q=>a_ AT cT r.T rs W q (by have:=HK.out.tl;omega)
 go_wp2_with fail;refine(cG w1 pq).mono ?_
 rintro e w2 ⟨gr,rfl,hr,K⟩;have vM:=aL hr;have hA2:=hA1.below K;have hz2:=hz1.below K hz1.lt;have hc2:=hc1.below K hc1.lt;have hB2:=hB1.trans (K.mono hB1.size);clear z c0 c1 c2 c3 c4 c5 c6 c7 c8 gT pq nM hA1 hz1 hc1 K hB1 cG hr;obtain⟨y,hy⟩:∃y,y=gr.getD En.zero:=⟨_,rfl⟩;rw[<-hy];have HY:=aL hy;clear hy;obtain⟨dp,dk,dt,f_⟩:=y;simp only[En.agg,En.cells];have hb3:Below w2 w2 (w2.alloc (.cells #[dp,dk,dt,f_] 45)):=(aa _ w2).alloc aR (.cells #[dp,dk,dt,f_] 45);have hA3:=hA2.below hb3;have hz3:=hz2.below hb3 hz2.lt;have hc3:=hc2.below hb3 hc2.lt;have hB3:=hB2.trans (hb3.mono hB2.size);have hd3:=ai.new w2 45 [dp,dk,dt,f_];have hx3:w.heap.size+1<w2:=hz2.lt;go_upto_region 20 with fail
 generalize w2.alloc (.cells #[dp,dk,dt,f_] 45)=w3 at*;generalize w2.heap.size=gd at*;clear hA2 hB2 hz2 hc2 hb3;have d:=hd3.four;have z:=hz3.four;obtain⟨c0,c1,c2,c3,c4,c5,c6,c7,c8⟩:=hc3.nine;clear HY vM d hd3;have cF:=kC _ r ct false w3 hA3 HK.out.right (by have:=HK.out.tl;omega) (by omega)
 unfold iL at cF;have E:=aL (fO (T:=r.T) (q:=ct.data.toList) (fo:=false));generalize Sy.find r.T ct false=fr at cF HR E;obtain⟨ta,Di⟩:=fr;dsimp only at cF HR E;rw[dV]at cF;have YM:=aL (dF ta);obtain⟨l,hts⟩:∃rs,rs=Sy.bytesOf ta:=⟨_,rfl⟩;have abe:=aL hts;rw[<-hts]at cF E YM;clear hts;go_wp2_with fail;refine cF.mono ?_
 rintro e w4 ⟨rfl,K⟩;have mY:=hA3.below K;have H:=hz3.below K hz3.lt;have hc4:=hc3.below K hc3.lt;have Q:=hB3.trans (K.mono hB3.size);clear z c0 c1 c2 c3 c4 c5 c6 c7 c8 hA3 hz3 hc3 K hB3 cF;have z:=H.four;obtain⟨c0,c1,c2,c3,c4,c5,c6,c7,c8⟩:=hc4.nine
 cases te:Di !=0
 rotate_left
 ·have HF:=aL (HR.out.trans (aM (by simpa using te)))
  clear HR;go_wp2_with fail;refine(aA Di _).mono ?_
  rintro e9 w9 ⟨rfl,i⟩;have B:=mY.below i;have D:=H.below i H.lt;have I:=Q.trans (i.mono Q.size);clear z c0 c1 c2 c3 c4 c5 c6 c7 c8;have z:=D.four;go_wp2_with fail;refine aD (v:= .agg #[Di,(0:Int),Qs.e,()]) ?_ rfl ?_
  ·simp[results,results60,go_sem,z]
  rw[HF.out];exact aZ (a:=(.no Di)) hga B rfl rfl (Fr.of I) (Sub.refl _ _) rfl
 obtain rfl:Di=0:=by simpa using te
 have HR2:=aL (HR.out.trans (av (by decide)))
 have hrl2:=E.out rfl;clear te HR E;have HR3:Hid (R=if rs.data.toList=[]\/l.data.toList=[]then(r,.no 8)else if(Tr.moveU r.u rs l).2≠0 then(r,.no (Tr.moveU r.u rs l).2)else((Rw.set (Rw.follow (if rs.data.toList≠l.data.toList then Rw.gone r l else r) rs l) (Tr.moveU r.u rs l)).1,.no (Rw.set (Rw.follow (if rs.data.toList≠l.data.toList then Rw.gone r l else r) rs l) (Tr.moveU r.u rs l)).2)):=aL (by rw[uN.out,YM.out];exact HR2.out)
 clear HR2 uN YM zY abe
 rcases aG rs with⟨hE,e1,e2⟩|⟨hE,e1,e2⟩
 ·have HF:=aL (HR3.out.trans (aM (.inl hE)))
  clear HR3 hE;go_wp2_with fail;refine(aA 8 _).mono ?_
  rintro e9 w9 ⟨rfl,i⟩;have B:=mY.below i;have D:=H.below i H.lt;have I:=Q.trans (i.mono Q.size);clear z c0 c1 c2 c3 c4 c5 c6 c7 c8;have z:=D.four;go_wp2_with fail;refine aD (v:= .agg #[(8:Int),(0:Int),Qs.e,()]) ?_ rfl ?_
  ·simp[results,results60,go_sem,z]
  rw[HF.out];exact aZ (a:=(.no 8)) hga B rfl rfl (Fr.of I) (Sub.refl _ _) rfl
 have Bd:=aL hE
 rcases aG l with⟨hE2,e3,e4⟩|⟨hE2,e3,e4⟩
 ·have HF:=aL (HR3.out.trans (aM (.inr hE2)))
  clear HR3 hE2 hE;go_wp2_with fail;refine(aA 8 _).mono ?_
  rintro e9 w9 ⟨rfl,i⟩;have B:=mY.below i;have D:=H.below i H.lt;have I:=Q.trans (i.mono Q.size);clear z c0 c1 c2 c3 c4 c5 c6 c7 c8;have z:=D.four;go_wp2_with fail;refine aD (v:= .agg #[(8:Int),(0:Int),Qs.e,()]) ?_ rfl ?_
  ·simp[results,results60,go_sem,z]
  rw[HF.out];exact aZ (a:=(.no 8)) hga B rfl rfl (Fr.of I) (Sub.refl _ _) rfl
 have HR4:=aL (HR3.out.trans (av λq=>q.elim hE hE2))
 clear HR3 hE hE2;obtain⟨AU,AL,_,cU,cL,_,g0,g1,_,_,_,hrU,_,_,_,SE⟩:=mY.cells;have cMv:=λW q q2=>EY (p.plus (w.heap.size+1)).X AU AL cU cL r.u rs l W q q2 HK.out.us (by omega) (by omega)
 have lG:=aL (HK.out.mov rs l);have Vg:=λW q=>zZ (p.plus (w.heap.size+1)) r l W q (by have:=HK.out.tl;omega) (by have:=HK.out.ol;omega)
 generalize Tr.moveU r.u rs l.data.toList=q at cMv HR4 lG;obtain⟨F,hsl⟩:∃F,F=if rs.data.toList≠l.data.toList then Rw.gone r l else r:=⟨_,rfl⟩
 have Jt:=aL hsl;rw[<-hsl]at HR4;clear hsl;have HSN:Hid (F.objs.length=r.objs.length):=aL (by
  rw[Jt.out]
  split
  ·exact Rw.TG _ _
  rfl)
 have HSZ:Hid (∀o∈F.objs,o.p.size<=100000):=aL (by
  have h1:∀o∈r.objs,o.p.size<=100000:=λo ho=>by have:=(HK.out.ob o ho).1;omega
  rw[Jt.out]
  split
  ·exact Rw.VM h1
  exact h1)
 go_upto_region 50 with fail
 go_wp2_with fail;refine(cMv w4 hrU λk hk=>mY.mX hk).mono ?_
 rintro e w5 ⟨A6,S,O,N,rfl,Js,hb6⟩;have lH:=mY.below hb6;have dh:=Q.trans (hb6.mono Q.size);have jo:=H.below hb6 H.lt;have hb5:Below w5 w5 (w5.alloc (.cells #[.slice A6 q.1.U.length O,.slice S q.1.L.length N] 33)):=(aa _ w5).alloc aR _;have nG:=lH.below hb5;have AA:=Js.on (Fr.of (X:=(p.plus (w.heap.size+1)).X) hb5) (Sub.refl _ _);have pI:=dh.trans (hb5.mono dh.size);have kW:=jo.below hb5 jo.lt;have SC:=ai.new w5 33 [.slice A6 q.1.U.length O,.slice S q.1.L.length N];have hC5:∀k,p.C k->k<w5.heap.size:=λk hk=>lH.bz hk
 clear z c0 c1 c2 c3 c4 c5 c6 c7 c8 g0 g1 hrU SE e1 e2 e3 e4 hc4;go_upto_region 51 with fail
 generalize w5.alloc (.cells #[.slice A6 q.1.U.length O,.slice S q.1.L.length N] 33)=w6 at*;generalize w5.heap.size=gu at*;clear lH Js dh jo hb5 hb6;have x:=SC.two;have z:=kW.four
 cases tq:q.2 !=0
 rotate_left
 ·have HF:=aL (HR4.out.trans (aM (by simpa using tq)))
  clear HR4;have hc6:=kW;go_wp2_with fail;refine(aA q.2 _).mono ?_
  rintro e9 w9 ⟨rfl,i⟩;have B:=nG.below i;have D:=kW.below i kW.lt;have I:=pI.trans (i.mono pI.size);clear z;have z:=D.four;go_wp2_with fail;refine aD (v:= .agg #[q.2,(0:Int),Qs.e,()]) ?_ rfl ?_
  ·simp[results,results60,go_sem,z]
  rw[HF.out];exact aZ (a:=(.no q.2)) hga B rfl rfl (Fr.of I) (Sub.refl _ _) rfl
 have Ea:=aL (HR4.out.trans (av (by
  have q0:q.2=0:=by simpa using tq
  simp[q0])))
 clear HR4;go_upto_if 194 with fail
 clear tq
 go_cut [] (λwx=>aO wx (p.plus (w.heap.size+1)) F/\Off (p.plus (w.heap.size+1)).X wx (λw=>bT w w A6 S O N q.1)/\ai wx (w.heap.size+1) 43 [(0:Int),(0:Int),Qs.e,()]/\ai wx gu 33 [.slice A6 q.1.U.length O,.slice S q.1.L.length N]/\Fr p.C w wx)
 case first=>
  cases tl:rs.toList==l.toList
  ·have hs:=Jt.out.trans (aM (λq=>by rw[aj]at tl;simp[q]at tl))
   have HS:=aL hs;clear hs;go_wp2_with fail;refine(Vg w6 nG).mono ?_
   rintro e w7 ⟨rfl,iU,Y⟩;go_wp2;go_meet
   case rel=>exact⟨by rw[HS.out];exact iU,Off.mine (C:=p.C) AA Y λk hk=> .inl hk,kW.Yo nG Y,SC.fr Y λhc=>by have:=hC5 gu hc;omega,(Fr.of pI:Fr p.C w w6).trans Y (Sub.refl _ _)⟩
  have hs:=Jt.out.trans (av (λq=>q (by rw[aj]at tl;simpa using tl)))
  have HS:=aL hs;clear hs;go_wp2;go_meet
  case rel=>exact⟨by rw[HS.out];exact nG,AA,kW,SC,Fr.of pI⟩
 case rest=>
 obtain⟨iU,hO7,fM,hu7,Y⟩:=hcut;generalize wc=w7 at*;clear x z nG AA kW SC pI;obtain⟨AO,cO,hv⟩:∃A c,p.vO= .slice A F.objs.length c:=by
  obtain⟨vs,h1⟩:=iU.own;exact iI h1
 obtain⟨_,_,_,_,_,_,_,_,_,g3,_,_,_,_,_,nM⟩:=iU.cells;rw[show(p.plus (w.heap.size+1)).vO=p.vO from rfl,hv]at g3
 have HV:=aL hv;have hnl:F.objs.length<=1000:=by rw[HSN.out];exact HK.out.ol
 clear hv;go_upto_region 55 with fail
 go_wp2_with fail;clear g3 nM
 go_loopw [203] (λj wr=>∃k:Nat,k<=F.objs.length/\j= .int .i64 k/\Hid (aO wr (p.plus (w.heap.size+1)) (Rw.d_ F rs l k))/\Hid (Off (p.plus (w.heap.size+1)).X wr (λw=>bT w w A6 S O N q.1))/\Hid (ai wr (w.heap.size+1) 43 [(0:Int),(0:Int),Qs.e,()])/\Hid (ai wr gu 33 [.slice A6 q.1.U.length O,.slice S q.1.L.length N])/\Fr p.C w wr) (λj _=>F.objs.length- (intOf j).toNat)
 case atStart=>exact⟨0,bL _,rfl,aL (by rw[Rw.E5];exact iU),aL hO7,aL fM,aL hu7,Y⟩
 case round=>
  clear iU hO7 fM hu7 Y;obtain⟨k,hk,rfl,HW,HO,HZ,HU,hF⟩:=hrel
  by_cases Z:k<F.objs.length
  ·have hkl:k<(Rw.d_ F rs l k).objs.length:=by rw[Rw.nI];exact Z
   obtain⟨bO,c2,Al,cl,hv2,fz,hbg,f0,f1,f2,_,_,ff⟩:=HW.out.obc hkl;rw[Rw.nI]at hv2;rw[show(p.plus (w.heap.size+1)).vO=p.vO from rfl]at hv2
   have e9:=HV.out.symm.trans hv2;injection e9 with ea eb ec
   subst ea ec;clear eb;rw[Rw.Lt Z]at f0 f1 f2;have HM:=aL (Rw.E8 (a:=rs.data.toList) (b:=l.data.toList) Z);have HH:=aL (Rw.IW (a:=rs.data.toList) (b:=l.data.toList) Z);have hoz:=HSZ.out _ (cz Z);obtain⟨o,ho⟩:∃o,o=F.objs[k]:=⟨_,rfl⟩;rw[<-ho]at f0 f1 f2 HM HH hoz;clear ho;obtain⟨op,ot,ol⟩:=o;have hP:(⟨op,ot,ol⟩:Ob).P=op.data.toList:=rfl;rw[hP]at HM HH;dsimp only at f0 f1 f2 hoz;clear hP;have Nw:(0:Int)<=(k:Int):=gD _;have ib2:(k:Int)<(F.objs.length:Int):=by omega
   obtain⟨qq,hqq⟩:∃q,q=Rw.d_ F rs l k:=⟨_,rfl⟩;have HQL:Hid (qq.objs.length=F.objs.length):=aL (by rw[hqq,Rw.nI])
   rw[<-hqq]at HW HM HH;clear hqq;have M:Below wr wr (wr.alloc (.cells #[op,ot,.slice Al ol.length cl] 138)):=(aa _ wr).alloc aR _;have HW8:=aL (HW.out.below M);have HO8:=aL (HO.out.on (Fr.of (X:=(p.plus (w.heap.size+1)).X) M) (Sub.refl _ _));have XN:=aL (HZ.out.below M HZ.out.lt);have HU8:=aL (HU.out.below M HU.out.lt);have xn:=hF.bf M;have Rk:=ai.new wr 138 [op,ot,.slice Al ol.length cl];have f08:=(M.cell (p:=⟨bO,k*3,none⟩) fz).trans f0;have adJ:=bE fz M.size;have IX:wr.heap.size≠bO:=by omega
   have adK:bO≠wr.heap.size:=by omega
   go_upto_region 58 with fail
   clear f0 f1 f2 ff HW HO HZ HU hF M;generalize wr.alloc (.cells #[op,ot,.slice Al ol.length cl] 138)=w8 at*;generalize wr.heap.size=gb at*;obtain⟨o0,o1,o2,of_,oz⟩:=Rk.three;have WJ:=iC op rs w8 (by omega)
   have HFT:=aL (PU op rs l);have Zl:=aL (TI (op:=op) (rs:=rs));obtain⟨un,hun⟩:∃un,un=Pt.under op rs.data.toList:=⟨_,rfl⟩;rw[<-hun]at WJ HM HH Zl;clear hun;obtain⟨t1,ht1⟩:∃t,t=(op.toList==rs.toList):=⟨_,rfl⟩;have HT1:Hid (op.data.toList=rs.data.toList↔t1=true):=aL (by rw[ht1,aj,p9])
   have ht:=ht1.symm;clear ht1
   by_cases G:t1=true\/un=true
   rotate_left
   ·have a1:t1=false:=by cases t1;rfl;exact absurd (.inl rfl) G
    have a2:un=false:=by cases un;rfl;exact absurd (.inr rfl) G
    subst a1 a2;have HS:=aL (HM.out λq=>q.elim (λq=>by cases HT1.out.1 q) λq=>by cases q)
    clear HM HH G
    go_wp2_with (go_at_call 58;refine WJ.mono ?_;rintro e w9 ⟨rfl,rfl⟩)
    go_roundw
    case rel=>exact⟨k+1,Z,by go_num,aL (by rw[HS.out];exact HW8.out),HO8,XN,HU8,xn⟩
    case measure=>simp[intOf];omega
   have hq:op.data.toList=rs.data.toList\/un=true:=G.imp_left HT1.out.2;have HS:=aL (HH.out hq _ rfl);have hle:=Zl.out hq Bd.out;clear HM HH Zl hq;rw[<-HFT.out]at HS;have k2:¬(9223372036854775807<l.size+(op.size-rs.size)):=by omega
   have i1:(0:Int)<=(rs.size:Int):=gD _;have i2:(rs.size:Int)<=(op.size:Int):=by omega
   have XV:(p.plus (w.heap.size+1)).vO= .slice bO qq.objs.length cO:=by rw[HQL.out];exact HV.out
   have ff8:=HW8.out.frO XV;obtain⟨_,_,_,_,_,_,_,_,_,g38,_,_,_,_,_,VN⟩:=HW8.out.cells;rw[show(p.plus (w.heap.size+1)).vO=p.vO from rfl,HV.out]at g38
   have B:=HW8.out.set0 XV k (l++op.extract rs.size op.size);have ZP:p.C bO:= .inr (.inl (by show p.vO.ownBlock=_;rw[HV.out];rfl))
   have Ff:Fr p.C w8 (w8.setCell ⟨bO,k*3,none⟩ (.string (l++op.extract rs.size op.size))):=Fr.setCell (Fr.refl _ _) (p:=⟨bO,k*3,none⟩) ZP _;have hgu:gu≠bO:=λe=>by have:=hC5 bO ZP;omega
   have acH:w.heap.size+1≠bO:=λe=>HW8.out.neO XV e.symm
   have HO9:=aL (Off.mine (C:=p.C) HO8.out Ff λk hk=> .inl hk)
   have HZ9:=aL (XN.out.far (p:=⟨bO,k*3,none⟩) acH (.string (l++op.extract rs.size op.size)));have HU9:=aL (HU8.out.far (p:=⟨bO,k*3,none⟩) hgu (.string (l++op.extract rs.size op.size)));have lW:=xn.trans Ff (Sub.refl _ _);have sZ:p.g≠bO:=λe=>hbg e.symm
   have tt:(t1=true/\True)\/(t1=false/\un=true):=by cases t1;exact .inr ⟨rfl,G.resolve_left (by decide)⟩;exact .inl ⟨rfl,trivial⟩
   clear G
   rcases tt with⟨rfl,-⟩|⟨rfl,rfl⟩
   all_goals
    go_upto_region 59 with(go_at_call 58;refine WJ.mono ?_;rintro e w9 ⟨rfl,rfl⟩)
    go_region_held3 (λW=>W.cell? ⟨p.g,3,none⟩=some (.slice bO F.objs.length cO)/\W.cell? gb=some (.string op)) (first|go_keep|exact⟨g38,o0⟩) (fail)
    all_goals
     go_wp2;go_roundw
     case rel=>exact⟨k+1,Z,by go_num,aL (by rw[HS.out];exact B.below (aa _ _).drew),aL (HO9.out.on (Fr.of (X:=(p.plus (w.heap.size+1)).X) (aa _ _).drew) (Sub.refl _ _)),aL HZ9.out.drew,aL HU9.out.drew,lW.bf (aa _ _).drew⟩
     case measure=>simp[intOf];omega
  have ek:k=F.objs.length:=by omega
  subst ek;rw[Rw.IV]at HW;obtain⟨sf,hsf⟩:∃sf,sf=Rw.follow F rs l.data.toList:=⟨_,rfl⟩;have HF:=aL Ea.out;rw[<-hsf]at HW HF;clear hsf Ea;have x:=HU.out.two;have cS:=kD (p.plus (w.heap.size+1)) sf A6 S O N q wr HW.out (λ_=>HO.out) lG.out
  have hlt1:decide ((F.objs.length:Int)<(F.objs.length:Int))=false:=bN (by omega)
  go_wp2_with fail;refine cS.mono ?_
  rintro e w9 ⟨rfl,B,Ff⟩;have D:=HZ.out.fr Ff (show w.heap.size+1≠p.g by omega)
  go_wp2_with fail;refine(aA _ _).mono ?_
  rintro e w10 ⟨rfl,YN⟩;have hA10:=B.below YN;have xG:=D.below YN D.lt;have TK:Fr p.C w w10:=(hF.trans Ff λ_ _ e=>e▸(.inl rfl:p.C p.g)).bf YN
  clear x;have z:=xG.four;go_wp2_with fail;refine aD (v:= .agg #[.int .i64 (Rw.set sf q).2,(0:Int),Qs.e,()]) ?_ rfl ?_
  ·simp[results,results60,go_sem,z]
  rw[HF.out];exact aZ (a:=(.no (Rw.set sf q).2)) hga hA10 rfl rfl TK (Sub.refl _ _) rfl
theorem VO:∀m:Fin 64,∀k:Fin 6,(bits .and .i64 ((m.1:Nat):Int) ((2^k.1:Nat):Int)==((2^k.1:Nat):Int))=Sy.bit ((m.1:Nat):Int) k.1:=by decide+kernel
theorem has_is{n:Int}(h0:0<=n)(h1:n<=63)(k:Fin 6):(bits .and .i64 n ((2^k.1:Nat):Int)==((2^k.1:Nat):Int))=Sy.bit n k.1:=by
 obtain⟨m,rfl⟩:∃m:Nat,n=m:=⟨n.toNat,by omega⟩
 exact VO ⟨m,by omega⟩ k
theorem PW:∀m:Fin 64,1<=m.1->Sy.dX ((m.1:Nat):Int)=((!Sy.bit ((m.1:Nat):Int) 0&& !Sy.bit ((m.1:Nat):Int) 1)||(!Sy.bit ((m.1:Nat):Int) 1&&(Sy.bit ((m.1:Nat):Int) 2||Sy.bit ((m.1:Nat):Int) 5))||(Sy.bit ((m.1:Nat):Int) 4&& !Sy.bit ((m.1:Nat):Int) 3)):=by decide+kernel
theorem TL{n:Int}(h0:1<=n)(h1:n<=63):Sy.dX n=((!Sy.bit n 0&& !Sy.bit n 1)||(!Sy.bit n 1&&(Sy.bit n 2||Sy.bit n 5))||(Sy.bit n 4&& !Sy.bit n 3)):=by
 obtain⟨m,rfl⟩:∃m:Nat,n=m:=⟨n.toNat,by omega⟩
 exact PW ⟨m,by omega⟩ (by show 1<=m;omega)
theorem wB{n:Int}(h:n<1\/63<n):Sy.dX n=true:=by
 unfold Sy.dX
 rcases h with h|h
 ·rw[fw h];rfl
 rw[fw h];simp
theorem lK(g:Nat)(n:Int)(k:Fin 6)(w:World)(h:w.cell? ⟨g,3,none⟩=some (.int .i64 n))(h0:0<=n)(h1:n<=63):Calls prog 124 #[.int .i64 ((2^k.1:Nat):Int),.pointer g] w λe w'=>e= .returned (.bool (Sy.bit n k.1))/\w'=w:=by
 rw[<-has_is h0 h1 k];go_enter func124,ntmps124;go_wp2;go_ret;exact⟨rfl,rfl⟩
theorem Ae:∀(l:List Ob) (x:Ob) (p:Pt.Bs) (i:Nat) (a:Option Nat),Rw.lastP (l++[x]) p i a=if x.P=p then some (i+l.length)else Rw.lastP l p i a
 |[],x,p,i,a=>rfl
 |o::r,x,p,i,a=>by
  show Rw.lastP (r++[x]) p (i+1) _=_
  rw[Ae r x p (i+1)]
  show(if x.P=p then some (i+1+r.length)else _)=if x.P=p then some (i+(r.length+1))else _
  rw[show i+1+r.length=i+(r.length+1)by omega]
  rfl
theorem Lu{l:List Ob}{k:Nat}(hk:k<l.length)(p:Pt.Bs):Rw.lastP (l.take (k+1)) p 0 none=if l[k].P=p then some k else Rw.lastP (l.take k) p 0 none:=by
 rw[aF hk,Ae,bR,mE,qd (by omega)]
theorem IY:∀(l:List Ob) (p:Pt.Bs) (i:Nat) (a:Option Nat) (x:Nat),Rw.lastP l p i a=some x->(∀y,a=some y->y<i)->x<i+l.length
 |[],_,i,_,x,h,ha=>by have:=ha x h;show x<i+0;omega
 |o::r,p,i,a,x,h,ha=>by
  have:=IY r p (i+1) _ x h (λy b=>by
   split at b
   ·injection b with b;omega
   ·have:=ha y b;omega)
  show x<i+(r.length+1)
  omega
theorem VP:(prog.info? 138).map (λi=>(i.zero,i.size,i.bytes))=some (some (.agg #[Qs.e,Qs.e,()]),3,56):=by kernel_rfl
theorem VQ:(prog.info? 142).map (λi=>(i.zero,i.size,i.bytes))=some (some (.agg #[(0:Int),(0:Int),(0:Int)]),3,24):=by kernel_rfl
theorem obs_snoc{l:List Ob}{vs:List Value}(h:vs.length=l.length)(a:Ob)(v:Value):dY (l++[a]) (vs++[v])=dY l vs++[.string a.p,.string a.t,v]:=by
 unfold dY;rw[List.zip_append h.symm,List.flatMap_append]
 rfl
theorem rqs_snoc(l:List Rq)(a:Rq):iY (l++[a])=iY l++[.int .i64 a.o,.int .i64 a.fl,.int .i64 a.at_]:=by
 unfold iY;rw[List.flatMap_append]
 rfl
theorem Rw.openSet_keeps(r:Rw)(n:Int)(p:Pt.Bs):(Rw.openSet r n p).1.objs=r.objs/\(Rw.openSet r n p).1.des=r.des/\(Rw.openSet r n p).1.fds=r.fds:=by
 have h:∀x,(Rw.set r x).1.objs=r.objs/\(Rw.set r x).1.des=r.des/\(Rw.set r x).1.fds=r.fds:=λx=>by unfold Rw.set;split<;>exact⟨rfl,rfl,rfl⟩
 unfold Rw.openSet
 split
 ·split
  ·exact⟨rfl,rfl,rfl⟩
  exact h _
 split
 ·exact⟨rfl,rfl,rfl⟩
 split
 ·exact⟨rfl,rfl,rfl⟩
 split
 ·exact h _
 exact⟨rfl,rfl,rfl⟩
theorem aO.Wy{w w3:World}{p:Rl}{r:Rw}(h:aO w p r){x:ByteArray}{vs:List Value}{v3:Value}(hl:vs.length=r.objs.length)(hv:∀k (h:k<r.objs.length),∃A c,vs[k]? =some (.slice A r.objs[k].l.length c)/\Off p.X w (λw=>dJ w w.heap.size A r.objs[k].l)/\r.objs[k].l.length<=c)(Bo:w3.ownsRow 0 138 3 v3 (r.objs.length+1) (dY r.objs vs++[.string x,.string ⟨#[]⟩,.slice none 0 0]))(LD:w.grownBy w3 p.vO.ownBlock)(at3:v3.ownBlock=p.vO.ownBlock\/v3.ownBlock=some (w.heap.size+1)):aO (w3.setCell ⟨p.g,3,none⟩ v3) {p with vO:=v3} {r with objs:=r.objs++[⟨x,⟨#[]⟩,[]⟩]}/\Fr p.C w (w3.setCell ⟨p.g,3,none⟩ v3)/\Sub w (Rl.C {p with vO:=v3}) p.C:=by
 have b:Fr (λk=>k=p.g\/p.vO.ownBlock=some k) w (w3.setCell ⟨p.g,3,none⟩ v3):=(Fr.grown (X:=λk=>k=p.g\/p.vO.ownBlock=some k) LD λk a=> .inr a).setCell (p:=⟨p.g,3,none⟩) (.inl rfl) v3
 have n:∀k,v3.ownBlock=some k->p.vO.ownBlock=some k\/w.heap.size<=k:=λk a=>by
  rcases at3 with e|e
  ·exact .inl (e▸a)
  rw[e]at a;injection a with a;right;omega
 have z:p.g<w.heap.size:=h.bz h.rH;have t:Sub w (λk=>k=p.g\/p.vO.ownBlock=some k) p.C:=λk _ e=>e.elim .inl λe=> .inr (.inl e)
 have j:Sub w (Rl.C {p with vO:=v3}) p.C:=λk a x=>by
  rcases x with x|x|x
  ·exact .inl x
  ·rcases n k x with y|y
   ·exact .inr (.inl y)
   omega
  exact .inr (.inr x)
 have i:Sub w (Rl.X {p with vO:=v3}) p.X:=λk a x=>x.elim (λx=> .inl (j k a x)) .inr
 have o:Sub w (λk=>k=p.g\/p.vO.ownBlock=some k) p.X:=λk a e=> .inl (t k a e)
 refine⟨h.newObs b n (λF D=>(ai.grown D LD λe=>h.g_O e.symm).bY 3 v3) ⟨vs++[.slice none 0 0],by simp[hl],?_,λk a=> ?_⟩,b.wide t,j⟩
 ·rw[obs_snoc hl,bq]
  exact ownsRow_setCell_other Bo (λe=>by
   rcases at3 with q|q
   ·rw[q]at e;exact h.g_O e
   rw[q]at e;injection e with e;have e:w.heap.size+1=p.g:=e;omega) v3
 rcases iB k r.objs.length with m|m
 ·obtain⟨A,c,u,E,v⟩:=hv k m
  refine⟨A,c,?_,?_,?_⟩
  ·rw[l6 (by omega)]
   simp only[nE m];exact u
  ·simp only[nE m]
   exact E.on (b.wide o) i
  simp only[nE m];exact v
 have B:k=r.objs.length:=by simp at a;omega
 subst B;refine⟨none,0,?_,?_,?_⟩
 ·rw[kr (by omega),hl,Bb];simp
 ·simp only[nW aR,Bb]
  exact Off.always λ_=>Rd.nil
 simp
theorem aO.WA{w w3:World}{p:Rl}{r:Rw}(h:aO w p r){x:Rq}{v3:Value}(Bo:w3.ownsRow 0 142 3 v3 (r.des.length+1) (iY r.des++[.int .i64 x.o,.int .i64 x.fl,.int .i64 x.at_]))(LD:w.grownBy w3 p.vD.ownBlock)(at3:v3.ownBlock=p.vD.ownBlock\/v3.ownBlock=some (w.heap.size+1)):aO (w3.setCell ⟨p.g,4,none⟩ v3) {p with vD:=v3} {r with des:=r.des++[x]}/\Fr p.C w (w3.setCell ⟨p.g,4,none⟩ v3)/\Sub w (Rl.C {p with vD:=v3}) p.C:=by
 have b:Fr (λk=>k=p.g\/p.vD.ownBlock=some k) w (w3.setCell ⟨p.g,4,none⟩ v3):=(Fr.grown (X:=λk=>k=p.g\/p.vD.ownBlock=some k) LD λk a=> .inr a).setCell (p:=⟨p.g,4,none⟩) (.inl rfl) v3
 have c:∀k,v3.ownBlock=some k->p.vD.ownBlock=some k\/w.heap.size<=k:=λk a=>by
  rcases at3 with e|e
  ·exact .inl (e▸a)
  rw[e]at a;injection a with a;right;omega
 have j:p.g<w:=h.bz h.rH;have m:Sub w (λk=>k=p.g\/p.vD.ownBlock=some k) p.C:=λk _ e=>e.elim .inl λe=> .inr (.inr e)
 have i:Sub w (Rl.C {p with vD:=v3}) p.C:=λk a x=>by
  rcases x with x|x|x
  ·exact .inl x
  ·exact .inr (.inl x)
  rcases c k x with y|y
  ·exact .inr (.inr y)
  omega
 refine⟨h.newDes b c (λn l=>(ai.grown l LD λe=>h.g_D e.symm).bY 4 v3) ?_,b.wide m,i⟩
 rw[rqs_snoc,bq]
 exact ownsRow_setCell_other Bo (λe=>by
  rcases at3 with q|q
  ·rw[q]at e;exact h.g_D e
  rw[q]at e;injection e with e;have e:w.heap.size+1=p.g:=e;omega) v3
end Go.Proofs.YtjppfhgkanbemabGreatDoor
