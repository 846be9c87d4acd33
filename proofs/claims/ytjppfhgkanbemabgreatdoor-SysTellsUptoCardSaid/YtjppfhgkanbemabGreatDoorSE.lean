/- A part of the proof of SysTells: SE. -/
import Derived.Test.YtjppfhgkanbemabGreatDoorSC
set_option maxHeartbeats 8000000
set_option maxRecDepth 100000
set_option linter.all false
namespace Go.Proofs.YtjppfhgkanbemabGreatDoor
open Tryz
open Go.RowKit Go.Shelf Go.Sort
theorem KF(p:Pl)(s:St)(b o:Nat)(c:Ca)(w:World)(h:aQ w p s)(hk:Sy.Ok s)(hc:lu w b o c)(hcs:jK c):Calls prog 64 #[.pointer p.gs,.pointer (some ⟨b,o,none⟩)] w (mD p (Sy.create s c) w):=by
 have HK:=aL hk;have hA:=aL h;have hgs0:p.gs<w:=h.bz h.jq;have hcp:=hcs.1;have Vf:=hcs.2.1;obtain⟨R,hR⟩:∃R,R=Sy.create s c:=⟨_,rfl⟩;rw[<-hR];unfold Sy.create at hR;dsimp only at hR;have m:=aL hR;clear hR h hk hcs;have hA0:=hA.out.plus (.cells #[(0:Int),(0:Int),Qs.e,()] 43);have Z:=(aa w w).alloc aR (.cells #[(0:Int),(0:Int),Qs.e,()] 43);have I:=ai.new w 43 [(0:Int),(0:Int),Qs.e,()];have hc0:=hc.below Z;have hcw:¬b=w.heap.size:=λe=>by have:=hc.1;omega
 go_enter func64,ntmps64;go_upto_region 1 with fail
 generalize w.alloc (.cells #[(0:Int),(0:Int),Qs.e,()] 43)=w0 at*;have vP:=aL hc0;obtain⟨G,V,z2,M,zf,zz⟩:=I.four;obtain⟨i,c0,c1,c2,c3,c4,c5,E,c7,c8⟩:=vP.out;have cF:=j_ _ s c.path false w0 hA0 HK.out (by omega)
 unfold iL at cF;have x:=aL (fO (T:=s.T) (q:=c.path.data.toList) (fo:=false));generalize Sy.find s.T c.path false=r at cF m x;obtain⟨ra,re⟩:=r;dsimp only at cF m x;rw[dV]at cF;have Ya:=aL (dF ra);obtain⟨g,hrs⟩:∃g,g=Sy.bytesOf ra:=⟨_,rfl⟩;have WI:=aL hrs;rw[<-hrs]at cF x Ya;clear hrs;go_wp2_with fail;refine cF.mono ?_
 rintro e w1 ⟨rfl,n⟩;have Q:=hA0.below n;have hz1:=I.below n I.lt;have ry:=aL (vP.out.below n);have F:=Z.trans (n.mono Z.size);clear G V z2 M zf zz i c0 c1 c2 c3 c4 c5 E c7 c8 hA0 I n Z cF hc0 vP;obtain⟨G,V,z2,M,zf,zz⟩:=hz1.four;obtain⟨i,c0,c1,c2,c3,c4,c5,E,c7,c8⟩:=ry.out
 cases te:re !=0
 rotate_left
 ·have HF:=aL (m.out.trans (aM (by simpa using te)))
  clear m;go_wp2_with fail;refine aD (v:= .agg #[re,(0:Int),Qs.e,()]) ?_ rfl ?_
  ·simp[results,results64,go_sem,G,V,z2,M]
  rw[HF.out];exact aN (a:=(.no re)) aR Q rfl rfl (Fr.of F) (Sub.refl _ _) rfl
 obtain rfl:re=0:=by simpa using te
 have m:=aL (m.out.trans (av (by decide)))
 have hrl:=x.out rfl;clear x te;obtain⟨AT,cT,g2,pq,Np,hgs⟩:=Q.seen;have htl:=HK.out.tl;have hx1:¬p.gs=w.heap.size:=by omega
 have cG:=get_any AT cT s.T g w1 pq (Tr.bn HK.out.right) (by omega) (by omega)
 go_wp2_with fail;refine cG.mono ?_
 rintro e w2 ⟨r,rfl,hr,n⟩;have B:=aL (hr.2 (.inl HK.out.right.2.1));have B:=aL (B.out);have hA2:=Q.below n;have Y:=hz1.below n hz1.lt;have hB2:=F.trans (n.mono F.size);have HC2:=aL (ry.out.below n);clear G V z2 M zf zz i c0 c1 c2 c3 c4 c5 E c7 c8 g2 pq Np hgs Q hz1 n F cG hr ry;obtain⟨y,hy⟩:∃y,y=r.getD En.zero:=⟨_,rfl⟩;rw[<-hy];have HY:=aL hy;clear hy;obtain⟨dp,dk,dt,l⟩:=y;simp only[En.agg,En.cells];have hA3:=hA2.below ((aa _ w2).alloc aR (.cells #[dp,dk,dt,l] 45));have H:=hB2.alloc hB2.size (.cells #[dp,dk,dt,l] 45);have hz3:=Y.alloc (.cells #[dp,dk,dt,l] 45);have hd3:=ai.new w2 45 [dp,dk,dt,l];have L:=aL (HC2.out.below ((aa _ w2).alloc aR (.cells #[dp,dk,dt,l] 45)));have hx3:¬w2.heap.size=w.heap.size:=by have:=Y.lt;omega
 have hx4:w.heap.size<w2:=Y.lt;go_upto_region 5 with fail
 generalize w2.alloc (.cells #[dp,dk,dt,l] 45)=w3 at*;generalize w2.heap.size=gd at*;clear hA2 hB2 Y HC2;have z:=hd3.four;obtain⟨G,V,z2,M,zf,zz⟩:=hz3.four;obtain⟨i,c0,c1,c2,c3,c4,c5,E,c7,c8⟩:=L.out
 rcases r with _|d
 rotate_left
 ·have HF:Hid (R=(s,.no 7)):=aL (by rw[m.out,<-Ya.out,<-B.out];rfl)
  clear m;go_wp2_with fail;refine aD (v:= .agg #[(7:Int),(0:Int),Qs.e,()]) ?_ rfl ?_
  ·simp[results,results64,go_sem,G,V,z2,M]
  rw[HF.out];exact aN (a:=(.no 7)) aR hA3 rfl rfl (Fr.of H) (Sub.refl _ _) rfl
 have m:=aL (m.out.trans (av (by rw[<-Ya.out,<-B.out];simp)))
 clear HY B z hd3;have e0:(⟨g,2,⟨#[]⟩,false⟩:En)=⟨Sy.bytesOf ra,2,Sy.noE,false⟩:=by rw[WI.out];rfl
 have e1:(⟨g,3,c.to,false⟩:En)=⟨Sy.bytesOf ra,3,c.to,false⟩:=by rw[WI.out]
 have HE:Hid (Sy.jF c ra=if c.kind=10 then⟨g,3,c.to,false⟩else⟨g,2,⟨#[]⟩,false⟩):=aL (by unfold Sy.jF;rw[<-e0,<-e1])
 clear e0 e1 WI;have mY:=hA3.plus (.cells #[.string g,(2:Int),Qs.e,false] 45);have hB4:=H.alloc H.size (.cells #[.string g,(2:Int),Qs.e,false] 45);have jY:=hz3.alloc (.cells #[.string g,(2:Int),Qs.e,false] 45);have S:=ai.new w3 45 [.string g,(2:Int),Qs.e,false];have Zv:=aL (L.out.below ((aa _ w3).alloc aR (.cells #[.string g,(2:Int),Qs.e,false] 45)));have hx5:w.heap.size<w3:=zz;have hx6:b<w3:=L.out.lt;go_upto_region 8 with fail
 clear G V z2 M zf zz i c0 c1 c2 c3 c4 c5 E c7 c8;generalize w3.alloc (.cells #[.string g,(2:Int),Qs.e,false] 45)=w4 at*;generalize w3.heap.size=O at*;clear hA3 H hz3 L;have hx7:O≠b:=by omega
 have Xl:b≠O:=by omega
 obtain⟨e0,e1,e2,e3,ef,ez⟩:=S.four;obtain⟨i,c0,c1,c2,c3,c4,c5,E,c7,c8⟩:=Zv.out;obtain⟨ek,het,U⟩:∃(y:Int×ByteArray),(c.kind=10->y=(3,c.to))/\(c.kind≠10->y=(2,⟨#[]⟩)):=by
  by_cases q:c.kind=10
  ·exact⟨(3,c.to),λ_=>rfl,λh=>absurd q h⟩
  exact⟨(2,⟨#[]⟩),λh=>absurd h q,λ_=>rfl⟩
 obtain⟨ek,et⟩:=ek;have HE2:Hid (Sy.jF c ra=⟨g,ek,et,false⟩):=aL (by
  rw[HE.out]
  by_cases q:c.kind=10
  ·have:=het q;injection this with N A;rw[aM q,N,A]
  have:=U q;injection this with N A;rw[av q,N,A])
 have acb:et.size<=1048576:=by
  by_cases q:c.kind=10
  ·have:=het q;injection this with N A;rw[A];omega
  have:=U q;injection this with N A;rw[A];decide
 clear HE;go_upto_if 40 with fail
 go_cut [] (λwx=>aQ wx (p.plus w) s/\Below w w wx/\ai wx w 43 [(0:Int),(0:Int),Qs.e,()]/\ai wx O 45 [.string g,ek,et,false])
 case first=>
  cases tk:c.kind==10
  ·have q:=U (by simpa using tk)
   injection q with N A
   subst N A;go_wp2;go_meet
   case rel=>exact⟨mY.pop (p.plus w).e λ_ q=> .inl q,hB4,jY,S⟩
  have q:=het (by simpa using tk)
  injection q with N A
  subst N A;clear het U;go_upto_region 9 with fail
  go_region_held3 (λW=>W.cell? ⟨b,o+6,none⟩=some (.string c.to)) (first|go_keep|exact E) (fail)
  all_goals
   go_wp2;go_meet
   case rel=>
    have j:=((mY.late 1 (.int .i64 3)).late 2 (.string c.to)).pop (p.plus w).e λ_ q=> .inl q
    have dh:=(hB4.setCell (p:=⟨O,1,none⟩) (nL hx5) (.int .i64 3)).setCell (p:=⟨O,2,none⟩) (nL hx5) (.string c.to);have K:=(jY.far (p:=⟨O,1,none⟩) (show w.heap.size≠O by omega) (.int .i64 3)).far (p:=⟨O,2,none⟩) (show w.heap.size≠O by omega) (.string c.to)
    have Jo:=(S.bY 1 (.int .i64 3)).bY 2 (.string c.to);exact⟨j.below (aa _ _).drew,dh.drew,K.drew,Jo.drew⟩
 case rest=>
  obtain⟨j,dh,K,Jo⟩:=hcut;generalize wc=D at*;clear e0 e1 e2 e3 ef ez i c0 c1 c2 c3 c4 c5 E c7 c8 mY hB4 jY S Zv;obtain⟨AU,AL,cU,cL,g0,g1,hrU⟩:=j.un;have acd:p.gs<D:=j.bz j.jq;obtain⟨e0,e1,e2,e3,ef,ez⟩:=Jo.four;have cP:=λW q=>zx AU AL cU cL s.u g ek et false W q (dU HK.out.1) (by omega) (by omega)
  have lG:=aL (Ew HK.out ⟨g,ek,et,false⟩);have HF:=aL m.out;rw[HE2.out]at HF;clear m HE2;generalize Tr.putU s.u ⟨g,ek,et,false⟩=q at cP HF lG;have hU:∀W,Below D D W->bT W W AU AL cU cL s.u:=λW b=>(hrU.below b).more b.size
  have hbd:Below D D D.drew:=(aa _ D).drew;have Jm:w.heap.size≠p.gs:=by omega
  go_upto_region 10 with fail
  go_region_with (first|(go_at_call 20;refine(cP D.drew (hU _ hbd)).mono ?_;rintro e w6 ⟨A6,xC,E,OM,rfl,uB,hb6⟩;have t:Below D D w6:=hbd.trans hb6)|(go_at_call 31;refine(jZ (p.plus w) s A6 xC E OM q w6 (j.below t) (λ_=>gZ.off uB λk hk=>j.mX hk) lG.out).mono ?_;rintro e w7 ⟨rfl,iU,lh⟩;obtain⟨G,V,z2,M,zf,zz⟩:=((K.below t K.lt).fr lh Jm).four))
  all_goals
   have rV:Fr p.C w w7:=((Fr.of dh:Fr p.C w D).bf t).trans lh λ_ _ e=>e▸(.inl rfl:p.C p.gs)
   go_wp2_with fail;refine aD (v:= .agg #[.int .i64 (Sy.set s q).2,(0:Int),Qs.e,()]) ?_ rfl ?_
   ·simp[results,results64,go_sem,G,V,z2,M]
   rw[HF.out];exact aN (a:=(.no (Sy.set s q).2)) aR iU rfl rfl rV (Sub.refl _ _) rfl
theorem Po{s:St}(h:Sy.Ok s)(q:Pt.Bs)(h0:(Tr.removeU s.u q).2=0):iR (Tr.removeU s.u q).1:=dU ((Tr.removeU_tree h.1 q).2 h0).1
theorem Off.lose{w w':World}{p:Pl}{P:World->Prop}(h:Off p.X w P)(hf:Fr p.C w w'):Off p.X w' P:=h.on (hf.wide λ_ _ e=>Pl.cx e) (Sub.refl _ _)
theorem EF(p:Pl)(s:St)(n b o:Nat)(c:Ca)(w:World)(h:aQ w p s)(hi:Sy.In n s)(hn:n<=1000)(hk:Sy.Ok s)(hc:lu w b o c)(hcs:jK c)(hkd:c.kind=7\/c.kind=8):Calls prog 65 #[.pointer p.gs,.pointer (some ⟨b,o,none⟩)] w (mD p (Sy.remove s c) w):=by
 have HK:=aL hk;have HI:=aL hi;have hA:=aL h;have hgs0:p.gs<w:=h.bz h.jq;have hcp:=hcs.1;obtain⟨R,hR⟩:∃R,R=Sy.remove s c:=⟨_,rfl⟩;rw[<-hR];unfold Sy.remove at hR;dsimp only at hR;have K:=aL hR;clear hR h hk hcs hi;have hA0:=hA.out.plus (.cells #[(0:Int),(0:Int),Qs.e,()] 43);have hB0:=(aa w w).alloc aR (.cells #[(0:Int),(0:Int),Qs.e,()] 43);have S:=ai.new w 43 [(0:Int),(0:Int),Qs.e,()];have hc0:=hc.below hB0;go_enter func65,ntmps65;go_upto_region 1 with fail
 generalize w.alloc (.cells #[(0:Int),(0:Int),Qs.e,()] 43)=w0 at*;have vP:=aL hc0;have x:=S.four;obtain⟨H,c0,c1,c2,c3,c4,c5,c6,c7,c8⟩:=vP.out;have cF:=j_ _ s c.path false w0 hA0 HK.out (by omega)
 unfold iL at cF;have E:=aL (fO (T:=s.T) (q:=c.path.data.toList) (fo:=false));generalize Sy.find s.T c.path false=r at cF K E;obtain⟨ra,re⟩:=r;dsimp only at cF K E;rw[dV]at cF;have Ya:=aL (dF ra);obtain⟨g,hrs⟩:∃g,g=Sy.bytesOf ra:=⟨_,rfl⟩;have WI:=aL hrs;rw[<-hrs]at cF E Ya;clear hrs;go_wp2_with fail;refine cF.mono ?_
 rintro e w1 ⟨rfl,D⟩;have Z:=hA0.below D;have hz1:=S.below D S.lt;have ry:=aL (vP.out.below D);have M:=hB0.trans (D.mono hB0.size);clear x H c0 c1 c2 c3 c4 c5 c6 c7 c8 hA0 S D hB0 cF hc0 vP;have x:=hz1.four;obtain⟨H,c0,c1,c2,c3,c4,c5,c6,c7,c8⟩:=ry.out
 cases te:re !=0
 rotate_left
 ·have A:=aL (K.out.trans (aM (by simpa using te)))
  clear K;go_wp2_with fail;refine aD (v:= .agg #[re,(0:Int),Qs.e,()]) ?_ rfl ?_
  ·simp[results,results65,go_sem,x]
  rw[A.out];exact aN (a:=(.no re)) aR Z rfl rfl (Fr.of M) (Sub.refl _ _) rfl
 obtain rfl:re=0:=by simpa using te
 have K:=aL (K.out.trans (av (by decide)))
 have hrl:=E.out rfl;clear E te;obtain⟨AT,cT,g2,pq,Np,hgs⟩:=Z.seen;have htl:=HK.out.tl;have hx1:¬p.gs=w.heap.size:=by omega
 have cG:=get_any AT cT s.T g w1 pq (Tr.bn HK.out.right) (by omega) (by omega)
 go_wp2_with fail;refine cG.mono ?_
 rintro e w2 ⟨r,rfl,hr,D⟩;have G:=aL (hr.2 (.inl HK.out.right.2.1));have G:=aL (G.out);have hA2:=Z.below D;have hz2:=hz1.below D hz1.lt;have hB2:=M.trans (D.mono M.size);have HC2:=aL (ry.out.below D);clear x H c0 c1 c2 c3 c4 c5 c6 c7 c8 g2 pq Np hgs Z hz1 D M cG hr ry;obtain⟨y,hy⟩:∃y,y=r.getD En.zero:=⟨_,rfl⟩;rw[<-hy];have HY:=aL hy;clear hy;obtain⟨dp,j,dt,l⟩:=y;simp only[En.agg,En.cells];have i:=hA2.below ((aa _ w2).alloc aR (.cells #[dp,j,dt,l] 45));have t:=hB2.alloc hB2.size (.cells #[dp,j,dt,l] 45);have hz3:=hz2.alloc (.cells #[dp,j,dt,l] 45);have hd3:=ai.new w2 45 [dp,j,dt,l];have HC3:=aL (HC2.out.below ((aa _ w2).alloc aR (.cells #[dp,j,dt,l] 45)));have hx3:¬w2.heap.size=w.heap.size:=by have:=hz2.lt;omega
 have hx4:w.heap.size<w2:=hz2.lt;go_upto_region 5 with fail
 generalize w2.alloc (.cells #[dp,j,dt,l] 45)=w3 at*;generalize w2.heap.size=gd at*;clear hA2 hB2 hz2 HC2;have z:=hd3.four;have x:=hz3.four;obtain⟨H,c0,c1,c2,c3,c4,c5,c6,c7,c8⟩:=HC3.out
 rcases r with _|d
 ·have A:Hid (R=(s,.no 6)):=aL (by rw[K.out,<-Ya.out,<-G.out])
  clear K;go_wp2_with fail;refine aD (v:= .agg #[(6:Int),(0:Int),Qs.e,()]) ?_ rfl ?_
  ·simp[results,results65,go_sem,x]
  rw[A.out];exact aN (a:=(.no 6)) aR i rfl rfl (Fr.of t) (Sub.refl _ _) rfl
 obtain rfl:d=⟨dp,j,dt,l⟩:=HY.out.symm;rw[<-Ya.out,<-G.out]at K;have Y:Hid (R=if c.kind=7/\j≠2 then(s,.no 10)else if c.kind=8/\j=2 then(s,.no 9)else if g.data.toList=[]then(s,.no 8)else if(Tr.removeU s.u g).2≠0 then(s,.no (Tr.removeU s.u g).2)else((Sy.set (Sy.lose s g) (Tr.removeU s.u g)).1,.no (Sy.set (Sy.lose s g) (Tr.removeU s.u g)).2)):=aL K.out
 clear HY G K
 by_cases q7:c.kind=7/\j≠2
 ·have A:=aL (Y.out.trans (aM q7))
  have k7:(c.kind==7)=true:=by simp[q7.1]
  have k2:(j !=2)=true:=by simp[q7.2]
  clear Y q7 hkd;go_wp2_with fail;refine aD (v:= .agg #[(10:Int),(0:Int),Qs.e,()]) ?_ rfl ?_
  ·simp[results,results65,go_sem,x]
  rw[A.out];exact aN (a:=(.no 10)) aR i rfl rfl (Fr.of t) (Sub.refl _ _) rfl
 have V:=aL (Y.out.trans (av q7));clear Y
 by_cases q8:c.kind=8/\j=2
 ·have A:=aL (V.out.trans (aM q8))
  have k7:(c.kind==7)=false:=by simp[q8.1]
  have k8:(c.kind==8)=true:=by simp[q8.1]
  have k2:(j==2)=true:=by simp[q8.2]
  clear V q7 q8 hkd;go_wp2_with fail;refine aD (v:= .agg #[(9:Int),(0:Int),Qs.e,()]) ?_ rfl ?_
  ·simp[results,results65,go_sem,x]
  rw[A.out];exact aN (a:=(.no 9)) aR i rfl rfl (Fr.of t) (Sub.refl _ _) rfl
 have B:=aL (V.out.trans (av q8));clear V;have hkk:((c.kind==7)=true/\(j !=2)=false/\(c.kind==8)=false)\/((c.kind==7)=false/\(c.kind==8)=true/\(j==2)=false):=by
  rcases hkd with q|q
  ·left
   refine⟨by simp[q],?_,by simp[q]⟩
   by_cases e:j=2
   ·simp[e]
   exact absurd ⟨q,e⟩ q7
  right
  refine⟨by simp[q],by simp[q],?_⟩
  by_cases e:j=2
  ·exact absurd ⟨q,e⟩ q8
  simp[e]
 clear q7 q8 hkd;obtain⟨AU,AL,cU,cL,g0,g1,hrU⟩:=i.un;have KG:p.gs<w3:=i.bz i.jq;have cRm:=λW q=>GV AU AL cU cL s.u g W q (dU HK.out.1) (by omega)
 have lG:=aL (Po HK.out g);have Vg:=λW q=>Hu (p.plus w) s n g W q HI.out hn HK.out
 generalize Tr.removeU s.u g.data.toList=q at cRm B lG;obtain⟨sl,hsl⟩:∃sl,sl=Sy.lose s g.data.toList:=⟨_,rfl⟩;rw[<-hsl]at Vg B;clear hsl;have HEM:Hid ((g.toList=[]->g.data.toList=[])/\(¬g.toList=[]->¬g.data.toList=[])):=aL (by rw[kg];exact⟨id,id⟩)
 rcases hkk with⟨k7,k2,k8⟩|⟨k7,k8,k2⟩
 all_goals
  rcases aG g with⟨hE,e1,e2⟩|⟨hE,e1,e2⟩
  ·have A:=aL (B.out.trans (aM hE))
   clear B hE HEM;go_wp2_with fail;refine aD (v:= .agg #[(8:Int),(0:Int),Qs.e,()]) ?_ rfl ?_
   ·simp[results,results65,go_sem,x]
   rw[A.out];exact aN (a:=(.no 8)) aR i rfl rfl (Fr.of t) (Sub.refl _ _) rfl
  have N:=aL (B.out.trans (av hE));clear hE HEM B;go_wp2_with fail;refine(cRm w3 hrU).mono ?_
  rintro e w4 ⟨A6,xC,Q,O,rfl,uB,hb6⟩;have mY:=i.below hb6;have hO4:=gZ.off uB λk hk=>i.mX hk
  have hB4:=t.trans (hb6.mono t.size);have jY:=hz3.below hb6 hz3.lt;have I:Below w4 w4 (w4.alloc (.cells #[.slice A6 q.1.U.length Q,.slice xC q.1.L.length O] 33)):=(aa _ w4).alloc aR _;have lH:=mY.below I;have Js:=hO4.on (Fr.of (X:=(p.plus w).X) I) (Sub.refl _ _);have dh:=hB4.trans (I.mono hB4.size);have jo:=jY.below I jY.lt;have Pq:=ai.new w4 33 [.slice A6 q.1.U.length Q,.slice xC q.1.L.length O];have Zw:∀k,p.C k->k<w4.heap.size:=λk hk=>mY.bz hk
  clear z x H c0 c1 c2 c3 c4 c5 c6 c7 c8 hd3 g0 g1 hrU KG;go_upto_region 14 with fail
  generalize w4.alloc (.cells #[.slice A6 q.1.U.length Q,.slice xC q.1.L.length O] 33)=w5 at*;generalize w4.heap.size=gu at*;clear mY hO4 hB4 jY I hb6 uB;have m:=Pq.two;have x:=jo.four
  cases tq:q.2 !=0
  rotate_left
  ·have A:=aL (N.out.trans (aM (by simpa using tq)))
   clear N;go_wp2_with fail;refine aD (v:= .agg #[q.2,(0:Int),Qs.e,()]) ?_ rfl ?_
   ·simp[results,results65,go_sem,x]
   rw[A.out];exact aN (a:=(.no q.2)) aR lH rfl rfl (Fr.of dh) (Sub.refl _ _) rfl
  have q0:q.2=0:=by simpa using tq
  have A:=aL (N.out.trans (av (by simp[q0])))
  clear N q0;go_upto_region 16 with fail
  clear tq;go_wp2_with fail;refine(Vg w5 lH).mono ?_
  rintro e w6 ⟨rfl,nG,F⟩;have AA:=Js.lose F;have SC:=Pq.fr F λhc=>by have:=Zw gu hc;omega
  have kW:=jo.Jr lH F;have ace:Fr p.C w w6:=(Fr.of dh:Fr p.C w w5).trans F.xm (Sub.refl _ _);clear m x lH Js jo Pq dh F;have m:=SC.two;go_wp2_with fail;refine(jZ (p.plus w) sl A6 xC Q O q w6 nG (λ_=>AA) lG.out).mono ?_
  rintro e w7 ⟨rfl,iU,lh⟩;have fM:=kW.fr lh (show¬w.heap.size=p.gs by omega)
  have rV:Fr p.C w w7:=ace.trans lh λ_ _ e=>e▸(.inl rfl:p.C p.gs)
  clear m;have x:=fM.four;go_wp2_with fail;refine aD (v:= .agg #[.int .i64 (Sy.set sl q).2,(0:Int),Qs.e,()]) ?_ rfl ?_
  ·simp[results,results65,go_sem,x]
  rw[A.out];exact aN (a:=(.no (Sy.set sl q).2)) aR iU rfl rfl rV (Sub.refl _ _) rfl
theorem Vh{s:St}(h:Sy.Ok s)(a b:Pt.Bs)(h0:(Tr.moveU s.u a b).2=0):iR (Tr.moveU s.u a b).1:=dU ((Tr.moveU_tree h.1 a b).2 h0).1
theorem Ir(op rs ts:ByteArray):ts++op.extract rs.size op.size=Sy.bytesOf (ts.data.toList++op.data.toList.drop rs.data.toList.length):=by
 refine sS ?_
 rw[gQ,mF];have a:op.data.toList.length=op.size:=af op;rw[fI (l:=op.data.toList) (i:=op.size) (by omega),af]
 rfl
theorem KH{op rs:ByteArray}(h:op.data.toList=rs.data.toList\/(Pt.under op rs.data.toList=true/\op.data.toList≠[]))(hr:¬rs.data.toList=[]):rs.size<=op.size:=by
 rw[<-af rs,<-af op]
 rcases h with h|⟨h,_⟩
 ·rw[h];exact aR
 obtain⟨r,hr⟩:=(Pt.under_iff hr).1 h;rw[hr,bq];omega
theorem KI(p:Pl)(s:St)(n b o:Nat)(c:Ca)(w:World)(h:aQ w p s)(hi:Sy.In n s)(hn:n<=1000)(hk:Sy.Ok s)(hc:lu w b o c)(hcs:jK c):Calls prog 66 #[.pointer p.gs,.pointer (some ⟨b,o,none⟩)] w (mD p (Sy.rename s c) w):=by
 have HK:=aL hk;have HI:=aL hi;have hA:=aL h;have hgs0:p.gs<w:=h.bz h.jq;have hcp:=hcs.1;have hct:=hcs.2.1;obtain⟨R,hR⟩:∃R,R=Sy.rename s c:=⟨_,rfl⟩;rw[<-hR];unfold Sy.rename at hR;dsimp only at hR;have Z:=aL hR;clear hR h hk hcs hi;have hA0:=hA.out.plus (.cells #[(0:Int),(0:Int),Qs.e,()] 43);have hB0:=(aa w w).alloc aR (.cells #[(0:Int),(0:Int),Qs.e,()] 43);have hz0:=ai.new w 43 [(0:Int),(0:Int),Qs.e,()];have hc0:=hc.below hB0;go_enter func66,ntmps66;go_upto_region 1 with fail
 generalize w.alloc (.cells #[(0:Int),(0:Int),Qs.e,()] 43)=w0 at*;have vP:=aL hc0;clear hc0;have z:=hz0.four;obtain⟨hcb,c0,c1,c2,c3,c4,c5,c6,c7,c8⟩:=vP.out;have S:=j_ (p.plus w) s c.path false w0 hA0 HK.out (by omega)
 unfold iL at S;have E:=aL (fO (T:=s.T) (q:=c.path.data.toList) (fo:=false));generalize Sy.find s.T c.path false=r at S Z E;obtain⟨ra,re⟩:=r;dsimp only at S Z E;rw[dV]at S;have Yb:=aL (dF ra);obtain⟨rs,hrs⟩:∃x,x=Sy.bytesOf ra:=⟨_,rfl⟩;rw[<-hrs]at S E Yb;clear hrs;go_wp2_with fail;refine S.mono ?_
 rintro e w1 ⟨rfl,hb⟩;have hA1:=hA0.below hb;have hz1:=hz0.below hb hz0.lt;have ry:=aL (vP.out.below hb);have hB1:=hB0.trans (hb.mono hB0.size);clear z hcb c0 c1 c2 c3 c4 c5 c6 c7 c8 hA0 hz0 hb hB0 S vP;have z:=hz1.four;obtain⟨hcb,c0,c1,c2,c3,c4,c5,c6,c7,c8⟩:=ry.out
 cases te:re !=0
 rotate_left
 ·have HF:=aL (Z.out.trans (aM (by simpa using te)))
  clear Z;go_wp2_with fail;refine aD (v:= .agg #[re,(0:Int),Qs.e,()]) ?_ rfl ?_
  ·simp[results,results66,go_sem,z]
  rw[HF.out];exact aN (a:=(.no re)) aR hA1 rfl rfl (Fr.of hB1) (Sub.refl _ _) rfl
 obtain rfl:re=0:=by simpa using te
 have HR1:=aL (Z.out.trans (av (by decide)))
 clear te Z;have adB:=E.out rfl;clear E;have S:=j_ (p.plus w) s c.to false w1 hA1 HK.out (by omega)
 unfold iL at S;have F:=aL (fO (T:=s.T) (q:=c.to.data.toList) (fo:=false));generalize Sy.find s.T c.to false=r at S HR1 F;obtain⟨ta,Di⟩:=r;dsimp only at S HR1 F;rw[dV]at S;have Yc:=aL (dF ta);obtain⟨g,hrs⟩:∃x,x=Sy.bytesOf ta:=⟨_,rfl⟩;rw[<-hrs]at S F Yc;clear hrs;go_wp2_with fail;refine S.mono ?_
 rintro e w2 ⟨rfl,hb⟩;have G:=hA1.below hb;have hz2:=hz1.below hb hz1.lt;have HC2:=aL (ry.out.below hb);have hB2:=hB1.trans (hb.mono hB1.size);clear z hcb c0 c1 c2 c3 c4 c5 c6 c7 c8 hA1 hz1 hb hB1 S ry;have z:=hz2.four;obtain⟨hcb,c0,c1,c2,c3,c4,c5,c6,c7,c8⟩:=HC2.out
 cases te:Di !=0
 rotate_left
 ·have HF:=aL (HR1.out.trans (aM (by simpa using te)))
  clear HR1;go_wp2_with fail;refine aD (v:= .agg #[Di,(0:Int),Qs.e,()]) ?_ rfl ?_
  ·simp[results,results66,go_sem,z]
  rw[HF.out];exact aN (a:=(.no Di)) aR G rfl rfl (Fr.of hB2) (Sub.refl _ _) rfl
 obtain rfl:Di=0:=by simpa using te
 have HR2:=aL (HR1.out.trans (av (by decide)))
 clear te HR1;have hrl2:=F.out rfl;clear F;have HR3:Hid (R=if rs.data.toList=[]\/g.data.toList=[]then(s,.no 8)else if(Tr.moveU s.u rs g).2≠0 then(s,.no (Tr.moveU s.u rs g).2)else((Sy.set (Sy.follow (if rs.data.toList≠g.data.toList then Sy.lose s g else s) rs g) (Tr.moveU s.u rs g)).1,.no (Sy.set (Sy.follow (if rs.data.toList≠g.data.toList then Sy.lose s g else s) rs g) (Tr.moveU s.u rs g)).2)):=aL (by rw[Yb.out,Yc.out];exact HR2.out)
 clear HR2 Yb Yc
 rcases aG rs with⟨N,e1,e2⟩|⟨N,e1,e2⟩
 ·have HF:=aL (HR3.out.trans (aM (.inl N)))
  clear HR3 N;go_wp2_with fail;refine aD (v:= .agg #[(8:Int),(0:Int),Qs.e,()]) ?_ rfl ?_
  ·simp[results,results66,go_sem,z]
  rw[HF.out];exact aN (a:=(.no 8)) aR G rfl rfl (Fr.of hB2) (Sub.refl _ _) rfl
 have Bd:=aL N
 rcases aG g with⟨hE2,e3,e4⟩|⟨hE2,e3,e4⟩
 ·have HF:=aL (HR3.out.trans (aM (.inr hE2)))
  clear HR3 hE2 N;go_wp2_with fail;refine aD (v:= .agg #[(8:Int),(0:Int),Qs.e,()]) ?_ rfl ?_
  ·simp[results,results66,go_sem,z]
  rw[HF.out];exact aN (a:=(.no 8)) aR G rfl rfl (Fr.of hB2) (Sub.refl _ _) rfl
 have HR4:=aL (HR3.out.trans (av λq=>q.elim N hE2))
 clear HR3 N hE2;obtain⟨AU,AL,cU,cL,g0,g1,hrU⟩:=G.un;have SE:p.gs<w2:=G.bz G.jq;have cMv:=λW q=>OQ AU AL cU cL s.u rs g W q (dU HK.out.1) (by omega) (by omega)
 have lG:=aL (Vh HK.out rs g);have Vg:=λW q=>Hu (p.plus w) s n g W q HI.out hn HK.out
 have HLI:=aL (HI.out.lose HK.out g);generalize Tr.moveU s.u rs g.data.toList=q at cMv HR4 lG;obtain⟨l,hsl⟩:∃l,l=if rs.data.toList≠g.data.toList then Sy.lose s g else s:=⟨_,rfl⟩
 have Jt:=aL hsl;rw[<-hsl]at HR4;clear hsl;have HIS:Hid (Sy.In n l):=aL (by
  rw[Jt.out]
  split
  ·exact HLI.out
  exact HI.out)
 go_upto_region 9 with fail
 go_wp2_with fail;refine(cMv w2 hrU).mono ?_
 rintro e w4 ⟨A6,K,I,H,rfl,uB,hb6⟩;have mY:=G.below hb6;have hO4:=gZ.off uB λk hk=>G.mX hk
 have hB4:=hB2.trans (hb6.mono hB2.size);have jY:=hz2.below hb6 hz2.lt;have hb5:Below w4 w4 (w4.alloc (.cells #[.slice A6 q.1.U.length I,.slice K q.1.L.length H] 33)):=(aa _ w4).alloc aR _;have lH:=mY.below hb5;have Js:=hO4.on (Fr.of (X:=(p.plus w).X) hb5) (Sub.refl _ _);have dh:=hB4.trans (hb5.mono hB4.size);have jo:=jY.below hb5 jY.lt;have Pq:=ai.new w4 33 [.slice A6 q.1.U.length I,.slice K q.1.L.length H];have Zw:∀k,p.C k->k<w4.heap.size:=λk hk=>mY.bz hk
 clear z hcb c0 c1 c2 c3 c4 c5 c6 c7 c8 g0 g1 hrU SE e1 e2 e3 e4;go_upto_region 10 with fail
 generalize w4.alloc (.cells #[.slice A6 q.1.U.length I,.slice K q.1.L.length H] 33)=w5 at*;generalize w4.heap.size=gu at*;clear mY hO4 hB4 jY hb5 hb6 uB;have m:=Pq.two;have z:=jo.four
 cases tq:q.2 !=0
 rotate_left
 ·have HF:=aL (HR4.out.trans (aM (by simpa using tq)))
  clear HR4;go_wp2_with fail;refine aD (v:= .agg #[q.2,(0:Int),Qs.e,()]) ?_ rfl ?_
  ·simp[results,results66,go_sem,z]
  rw[HF.out];exact aN (a:=(.no q.2)) aR lH rfl rfl (Fr.of dh) (Sub.refl _ _) rfl
 have Ea:=aL (HR4.out.trans (av (by
  have q0:q.2=0:=by simpa using tq
  simp[q0])))
 clear HR4;go_upto_if 60 with fail
 clear tq
 go_cut [] (λwx=>aQ wx (p.plus w) l/\Off (p.plus w).X wx (λw=>bT w w A6 K I H q.1)/\ai wx w 43 [(0:Int),(0:Int),Qs.e,()]/\ai wx gu 33 [.slice A6 q.1.U.length I,.slice K q.1.L.length H]/\Fr p.C w wx)
 case first=>
  cases tl:rs.toList==g.toList
  ·have hs:=Jt.out.trans (aM (λq=>by rw[aj]at tl;simp[q]at tl))
   have HS:=aL hs;clear hs;go_wp2_with fail;refine(Vg w5 lH).mono ?_
   rintro e w6 ⟨rfl,t,O⟩;go_wp2;go_meet
   case rel=>exact⟨by rw[HS.out];exact t,Js.lose O,jo.Jr lH O,Pq.fr O λhc=>by have:=Zw gu hc;omega,(Fr.of dh:Fr p.C w w5).trans O.xm (Sub.refl _ _)⟩
  have hs:=Jt.out.trans (av (λq=>q (by rw[aj]at tl;simpa using tl)))
  have HS:=aL hs;clear hs;go_wp2;go_meet
  case rel=>exact⟨by rw[HS.out];exact lH,Js,jo,Pq,Fr.of dh⟩
 case rest=>
 obtain⟨t,AA,kW,SC,O⟩:=hcut;generalize wc=w6 at*;clear m z lH Js jo Pq dh;have HS6:=aL t;have g3:=t.zF;have hgs:p.gs<w6:=t.bz t.jq;obtain⟨A,cc,hv,hcc⟩:=t.uC;rw[show(p.plus w).v=p.v from rfl]at hv g3
 rw[show(p.plus w).gs=p.gs from rfl]at g3
 rw[hv]at g3;have hfl:=HIS.out.fl;go_upto_region 15 with fail
 clear g3 hgs
 go_loopw [69] (λj wr=>∃k:Nat,k<=l.files.length/\j= .int .i64 k/\Hid (aQ wr (p.plus w) (Sy.part (Sy.jH rs g) (l.files.take k) l))/\Hid (Off (p.plus w).X wr (λw=>bT w w A6 K I H q.1))/\Hid (ai wr w 43 [(0:Int),(0:Int),Qs.e,()])/\Hid (ai wr gu 33 [.slice A6 q.1.U.length I,.slice K q.1.L.length H])/\Fr p.C w wr) (λj _=>l.files.length- (intOf j).toNat)
 case atStart=>exact⟨0,bL _,rfl,aL (by rw[F4,Sy.Gs];exact t),aL AA,aL kW,aL SC,O⟩
 case round=>
  clear t AA kW SC O;obtain⟨k,hk,rfl,HW,HO,HZ,HU,hF⟩:=hrel
  by_cases M:k<l.files.length
  ·obtain⟨i,hi⟩:∃i,i=l.files[k]:=⟨_,rfl⟩
   have hil:i<l.obs.length:=hi▸HIS.out.fsub _ (cz M);have Y:i∉l.files.take k:=hi▸Sy.MQ HIS.out.fnd M;have HTK:Hid (l.files.take (k+1)=l.files.take k++[i]):=aL (by rw[hi,aF M])
   obtain⟨fb,fo,Kr,hbb,h0⟩:=HW.out.fileAt (show(p.plus w).v=_ from hv) M
   change wr.cell? ⟨fb,fo+k,none⟩=some (.pointer (p.f l.files[k]:Nat))at h0
   rw[<-hi]at h0;clear hi;subst Kr;have hob:=HW.out.ob i (by rw[Sy.kV];exact hil)
   rw[Sy.qc hil Y]at hob;obtain⟨Al,cl,hbl,hOl,hcl⟩:=hob;have HOL:=aL hOl;clear hOl;have hsz:=(HIS.out.obAt i).1;have vM:Hid (∀o,o=Sy.obAt l i->¬(o.P=rs.data.toList\/(Pt.under o.P rs.data.toList=true/\o.P≠[]))->Sy.part (Sy.jH rs g) (l.files.take k) l=Sy.part (Sy.jH rs g) (l.files.take (k+1)) l):=aL λo ho hq=>by
    rw[HTK.out];refine Sy.CX Y hil ?_
    unfold Sy.jH;rw[<-ho,av hq]
   have HG1:Hid (∀o,o=Sy.obAt l i->(o.P=rs.data.toList\/(Pt.under o.P rs.data.toList=true/\o.P≠[]))->∀v,v=Sy.bytesOf (g.data.toList++o.P.drop rs.data.toList.length)->Sy.setOb (Sy.part (Sy.jH rs g) (l.files.take k) l) i (λx=>{x with p:=v})=Sy.part (Sy.jH rs g) (l.files.take (k+1)) l):=aL λo ho hq v hvv=>by
    rw[HTK.out];refine Sy.Gt Y hil ?_
    unfold Sy.jH;rw[<-ho,aM hq,hvv]
   have HOB:Hid (Sy.obAt (Sy.part (Sy.jH rs g) (l.files.take k) l) i=Sy.obAt l i):=aL (Sy.qc hil Y);obtain⟨ob,V⟩:∃ob,ob=Sy.obAt l i:=⟨_,rfl⟩;have B:=aL (vM.out ob V);have D:=aL (HG1.out ob V);rw[<-V]at hbl HOL hcl HOB hsz;clear V vM HG1;obtain⟨op,ot,ol⟩:=ob;rw[show(⟨op,ot,ol⟩:Ob).P=op.data.toList from rfl]at B D
   dsimp only at hbl HOL hcl hsz;obtain⟨sq,hsq⟩:∃q,q=Sy.part (Sy.jH rs g) (l.files.take k) l:=⟨_,rfl⟩;have hql:i<sq.obs.length:=by rw[hsq,Sy.kV];exact hil
   rw[<-hsq]at HW B D HOB;clear hsq;obtain⟨gf,hgf⟩:∃gf,gf=p.f i:=⟨_,rfl⟩;have HGF:=aL hgf;have hbl:ai wr gf 149 [op,ot,.slice Al ol.length cl]:=by rw[hgf];exact hbl
   rw[<-hgf]at h0;clear hgf;have y:=hbl.three;have WJ:=lQ op rs wr (by omega)
   have HFT:=aL (Ir op rs g);have Q:=aL (KH (op:=op) (rs:=rs))
   cases t1:op.toList==rs.toList
   focus
    obtain⟨un,hun⟩:∃un,un=Pt.under op rs.data.toList:=⟨_,rfl⟩;rw[<-hun]at WJ B D Q;clear hun;have hne:¬op.data.toList=rs.data.toList:=λq=>by rw[aj]at t1;simp[q]at t1
    rcases aG op with⟨N,e1,e2⟩|⟨N,e1,e2⟩
    ·have HS:=aL (B.out λq=>q.elim hne λq=>q.2 N)
     clear B D Q HFT hne N;have e3:un=true\/un=false:=by cases un<;>simp
     have t1':(([]:List UInt8)==rs.toList)=false:=by rw[<-e1];exact t1
     have r1:¬rs.toList=[]:=λq=>Bd.out (by rw[kg]at q;exact q)
     have r3:¬([]:List UInt8)=rs.toList:=λq=>r1 q.symm
     rcases e3 with rfl|rfl
     all_goals
      go_wp2_with (go_at_call 56;refine WJ.mono ?_;rintro e wr ⟨rfl,rfl⟩)
      go_roundw
      case rel=>exact⟨k+1,M,by go_num,aL (by rw[<-HS.out];exact HW.out),HO,HZ,HU,hF⟩
      case measure=>simp[intOf];omega
    cases un
    ·have HS:=aL (B.out λq=>q.elim hne λq=>by cases q.1)
     clear B D Q HFT hne N
     go_wp2_with (go_at_call 56;refine WJ.mono ?_;rintro e wr ⟨rfl,rfl⟩)
     go_roundw
     case rel=>exact⟨k+1,M,by go_num,aL (by rw[<-HS.out];exact HW.out),HO,HZ,HU,hF⟩
     case measure=>simp[intOf];omega
    have HS:=aL (D.out (.inr ⟨rfl,N⟩) _ rfl);have hle:=Q.out (.inr ⟨rfl,N⟩) Bd.out;clear B D Q hne N
   rotate_left
   focus
    have hq:op.data.toList=rs.data.toList:=by rw[aj]at t1;simpa using t1
    have HS:=aL (D.out (.inl hq) _ rfl);have hle:=Q.out (.inl hq) Bd.out;clear B D Q hq
   all_goals
    rw[<-HFT.out]at HS;have k2:¬(9223372036854775807<g.size+(op.size-rs.size)):=by omega
    have i1:(0:Int)<=(rs.size:Int):=gD _;have i2:(rs.size:Int)<=(op.size:Int):=by omega
    go_wp2_with (go_at_call 56;refine WJ.mono ?_;rintro e wr ⟨rfl,rfl⟩)
    go_roundw
    case rel=>
     have Ff:Fr (λk=>k=gf) wr (wr.setCell ⟨gf,0,none⟩ (.string (g++op.extract rs.size op.size))):=(Fr.refl (λk=>k=gf) wr).at_ 0 _
     have hcf:p.C gf:=by rw[HGF.out];exact HW.out.Fe hql
     have hgu:¬gu=gf:=λe=>by have:=Zw gf hcf;omega
     have hfC:Fr p.C wr (wr.setCell ⟨gf,0,none⟩ (.string (g++op.extract rs.size op.size))):=Ff.wide λ_ _ e=>e▸hcf
     refine⟨k+1,M,by go_num,aL ?_,aL (HO.out.lose hfC),aL (HZ.out.Jr HW.out hfC),aL (HU.out.far (p:=gf) hgu _),hF.trans hfC (Sub.refl _ _)⟩
     rw[<-HS.out];refine HW.out.setOb hql (by rw[show Pl.f (p.plus w) i=gf from HGF.out.symm];exact Ff) _ ?_
     rw[HOB.out,show Pl.f (p.plus w) i=gf from HGF.out.symm]
     exact⟨Al,cl,hbl.bY 0 _,HOL.out.lose hfC,hcl⟩
    case measure=>simp[intOf];omega
  have ek:k=l.files.length:=by omega
  subst ek;rw[gN,<-Sy.follow_eq]at HW;obtain⟨sf,hsf⟩:∃sf,sf=Sy.follow l rs g.data.toList:=⟨_,rfl⟩;have HF:=aL Ea.out;rw[<-hsf]at HW HF;clear hsf Ea;have hu9:=HU.out;have pg:=HZ.out;have m:=hu9.two;go_wp2_with fail;refine(jZ (p.plus w) sf A6 K I H q wr HW.out (λ_=>HO.out) lG.out).mono ?_
  rintro e w7 ⟨rfl,iU,lh⟩;have fM:=pg.fr lh (show¬w.heap.size=p.gs by omega)
  have rV:Fr p.C w w7:=hF.trans lh λ_ _ e=>e▸(.inl rfl:p.C p.gs)
  clear m;have z:=fM.four;go_wp2_with fail;refine aD (v:= .agg #[.int .i64 (Sy.set sf q).2,(0:Int),Qs.e,()]) ?_ rfl ?_
  ·simp[results,results66,go_sem,z]
  rw[HF.out];exact aN (a:=(.no (Sy.set sf q).2)) aR iU rfl rfl rV (Sub.refl _ _) rfl
end Go.Proofs.YtjppfhgkanbemabGreatDoor
