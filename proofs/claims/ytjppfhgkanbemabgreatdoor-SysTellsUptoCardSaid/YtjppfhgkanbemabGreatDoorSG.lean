/- A part of the proof of SysTells: SG. -/
import Derived.Test.YtjppfhgkanbemabGreatDoorSF
import Derived.Test.YtjppfhgkanbemabGreatDoorSE
set_option maxHeartbeats 8000000
set_option maxRecDepth 100000
set_option linter.all false
namespace Go.Proofs.YtjppfhgkanbemabGreatDoor
open Tryz
open Go.RowKit Go.Shelf Go.Sort
theorem Sy.uI{n:Nat}{s:St}(h:Sy.In n s){o k:Nat}(ho:o<4)(hf:Sy.free s o=some k):k<8:=by
 unfold Sy.free at hf;rw[wm]at hf;obtain⟨b,_⟩:=hf;have a:o<s.fds.length:=by rw[h.fdl];exact ho
 have c:=h.fdr _ (cz a);rw[bi,bA a]at b;have e:s.fds[o].length=8:=c;simp only[qD]at b;omega
theorem use_any(p:Pl)(s:St)(n b o:Nat)(c:Ca)(w:World)(h:aQ w p s)(hi:Sy.In n s)(hn:n<=999)(hk:Sy.Ok s)(hc:lu w b o c)(hcb2:¬p.C b)(hcs:jK c)(ho0:0<=c.owner)(dI:c.owner<4):Calls prog 68 #[.pointer p.gs,.pointer (some ⟨b,o,none⟩)] w (mD p (Sy.use s c) w):=by
 have hA:=aL h;have HI:=aL hi;have HK:=aL hk;have HCS:=aL hcs;have hgs0:p.gs<w:=h.bz h.jq;obtain⟨u,Vj⟩:∃m:Nat,c.owner=m:=⟨c.owner.toNat,by omega⟩
 have E:u<4:=by omega
 obtain⟨R,hR⟩:∃R,R=Sy.use s c:=⟨_,rfl⟩;rw[<-hR];unfold Sy.use at hR;rw[Vj,mH]at hR;have i:=aL hR;clear hR h hi hk hcs;have Q:=hA.out.plus (.cells #[(0:Int),(0:Int),Qs.e,()] 43);have hB0:=(aa w w).alloc aR (.cells #[(0:Int),(0:Int),Qs.e,()] 43);have hz0:=ai.new w 43 [(0:Int),(0:Int),Qs.e,()];have hc0:=hc.below hB0;have hcw:¬b=w.heap.size:=λe=>by have:=hc.1;omega
 go_enter func68,ntmps68;go_upto_region 1 with fail
 generalize w.alloc (.cells #[(0:Int),(0:Int),Qs.e,()] 43)=w0 at*;have vP:=aL hc0;have z:=hz0.four;obtain⟨G,c0,V,c2,c3,c4,c5,c6,c7,c8⟩:=vP.out;rw[Vj]at V;have Zz:=aL Vj;clear Vj
 by_cases hf0:c.fd<0\/8<=c.fd
 ·have y:=aL (i.out.trans (aM hf0))
  have tn:decide (c.fd<0)=true\/(decide (c.fd<0)=false/\decide (8<=c.fd)=true):=by
   rcases si (c.fd<0)with q|q
   ·exact .inl (fw q)
   exact .inr ⟨bN q,fw (hf0.resolve_left q)⟩
  clear i hf0
  rcases tn with tn|⟨tn,tm⟩
  all_goals
   refine eO (by kernel_rfl) (by kernel_rfl) ?_
   repeat(first|go_big_quiet_step (fail)|quiet_step (fail))
   refine ic ?_
   intro w1 O;obtain⟨H,g⟩:=O;have L:aQ w1 (p.plus w) s:=by rw[g];exact Q.below (below_drewN (aa _ _) H)
   have Z:Below w w w1:=by rw[g];exact below_drewN hB0 H
   have B:=hz0.drewN H;rw[<-g]at B;have ry:Hid (lu w1 b o c):=aL (by rw[g];exact vP.out.below (below_drewN (aa _ _) H))
   clear g;clear z;have z:=B.four;go_wp2_with fail;refine aD (v:= .agg #[(6:Int),(0:Int),Qs.e,()]) ?_ rfl ?_
   ·simp[results,results68,go_sem,z]
   rw[y.out];exact aN (a:=(.no 6)) aR L rfl rfl (Fr.of Z) (Sub.refl _ _) rfl
 have i:=aL (i.out.trans (av hf0));obtain⟨km,hkm⟩:∃m:Nat,c.fd=m:=⟨c.fd.toNat,by omega⟩
 have hk8:km<8:=by omega
 rw[hkm]at c2;have i:=aL i.out;rw[hkm,mH]at i;have HKM:=aL hkm;clear hkm;have tn:decide ((km:Int)<0)=false:=bN (by omega)
 have tm:decide (8<=(km:Int))=false:=bN (by omega)
 have Nw:(0:Int)<=(u:Int):=gD _;have ib2:(u:Int)<4:=by omega
 have WL:(0:Int)<=(km:Int):=gD _;have WM:(km:Int)<8:=by omega
 have N:=Q.fds HI.out E hk8;rw[<-Nat.add_assoc]at N;have hgz:p.gs<w0:=Q.bz Q.jq;have hnil:=λ(W:World) (p:Option Addr)=>Ii (P:=prog) W p underlying67
 clear hf0;obtain⟨fo,hfo⟩:∃x,x=Sy.fdAt s u km:=⟨_,rfl⟩;rw[<-hfo]at N i;rw[show(Pl.D (p.plus w))=p.D from rfl,show(Pl.gs (p.plus w))=p.gs from rfl]at N
 cases fo with
 |none=>
  clear hfo;have y:Hid (R=(s,.no 6)):=aL i.out;rw[show sN p.D none= .pointer none from rfl]at N
  refine eO (by kernel_rfl) (by kernel_rfl) ?_
  repeat(first|go_big_quiet_step (fail)|quiet_step (fail))
  refine ic ?_
  intro w1 O;obtain⟨H,g⟩:=O;have L:aQ w1 (p.plus w) s:=by rw[g];exact Q.below (below_drewN (aa _ _) H)
  have Z:Below w w w1:=by rw[g];exact below_drewN hB0 H
  have B:=hz0.drewN H;rw[<-g]at B;have ry:Hid (lu w1 b o c):=aL (by rw[g];exact vP.out.below (below_drewN (aa _ _) H))
  clear g;clear z;have z:=B.four;go_wp2_with fail;refine aD (v:= .agg #[(6:Int),(0:Int),Qs.e,()]) ?_ rfl ?_
  ·simp[results,results68,go_sem,z]
  rw[y.out];exact aN (a:=(.no 6)) aR L rfl rfl (Fr.of Z) (Sub.refl _ _) rfl
 |some d=>
  rw[show sN p.D (some d)= .pointer (p.d d:Nat)from rfl]at N
  have Ny:=aL hfo.symm;clear hfo;have l:d<s.des.length:=HI.out.fdAt Ny.out;refine eO (by kernel_rfl) (by kernel_rfl) ?_
  repeat(first|go_big_quiet_step (fail)|quiet_step (fail))
  refine ic ?_
  intro w1 O;obtain⟨H,g⟩:=O;have L:aQ w1 (p.plus w) s:=by rw[g];exact Q.below (below_drewN (aa _ _) H)
  have Z:Below w w w1:=by rw[g];exact below_drewN hB0 H
  have B:=hz0.drewN H;rw[<-g]at B;have ry:Hid (lu w1 b o c):=aL (by rw[g];exact vP.out.below (below_drewN (aa _ _) H))
  clear z;have hfd1:w1.cell? ⟨p.gs,4+u*8+km,none⟩=some (.pointer (p.d d:Nat)):=by rw[g];exact N
  have sV:=L.bz L.jq;have z:=B.four;clear G c0 V c2 c3 c4 c5 c6 c7 c8 g N hgz Q hB0 hz0 vP;obtain⟨G,c0,V,c2,c3,c4,c5,c6,c7,c8⟩:=ry.out;rw[Zz.out]at V;rw[HKM.out]at c2;go_upto_region 3 with fail
  refine eO (by kernel_rfl) (by kernel_rfl) ?_
  repeat(first|go_big_quiet_step (fail)|quiet_step (fail))
  refine ic ?_
  intro t O;obtain⟨H,g⟩:=O;have j:aQ t (p.plus w) s:=by rw[g];exact L.below (below_drewN (aa _ _) H)
  have I:Below w w t:=by rw[g];exact below_drewN Z H
  have M:=B.drewN H;rw[<-g]at M;have HC2:Hid (lu t b o c):=aL (by rw[g];exact ry.out.below (below_drewN (aa _ _) H))
  clear z G c0 V c2 c3 c4 c5 c6 c7 c8 g hfd1 sV L Z B ry hnil tn tm;have z:=M.four;obtain⟨G,c0,V,c2,c3,c4,c5,c6,c7,c8⟩:=HC2.out;rw[Zz.out]at V;rw[HKM.out]at c2;go_upto_region 4 with fail
  have i:Hid (R=if c.kind=2 then Sy.callClose s u km d else if c.kind=13 then Sy.callDup s u d else if c.kind=5 then Sy.callSeek s d c.n else if c.kind=14\/c.kind=15 then Sy.callLock s c (Sy.deAt s d).o else if c.kind=3 then Sy.callRead s c d else Sy.callWrite s c d):=aL i.out
  cases t2:c.kind==2
  rotate_left
  ·
   have y:=aL (i.out.trans (aM (by simpa using t2)))
   have Y:=λW q=>Bj (p.plus w) s n u km d W q HI.out hn E hk8 Ny.out
   generalize Sy.callClose s u km d=r at Y y;clear i;go_upto_region 6 with fail
   have acf:=M.drew;have aaE:=j.below (aa _ t).drew;have acg:=aL (HC2.out.below (aa _ t).drew);have hcw2:¬w.heap.size=b:=λe=>hcw e.symm
   go_region_held3 (λW=>W.cell? ⟨b,o+1,none⟩=some (.int .i64 u)/\W.cell? ⟨b,o+2,none⟩=some (.int .i64 km)) (first|exact⟨V,c2⟩|exact hS7|go_keep) (first|(go_at_call 109;refine(Y t.drew aaE).mono ?_;intro e w6 hS;obtain⟨Aq,cq,rfl,K,A⟩:=iT aR ((Fr.of I:Fr p.C w t).bf (aa _ t).drew) hS;have z:=(acf.Jr aaE K).four;have hS7:w6.cell? ⟨b,o+1,none⟩=some (.int .i64 u)/\w6.cell? ⟨b,o+2,none⟩=some (.int .i64 km):=by(obtain⟨_,_,q1,q2,_⟩:=acg.out.fr K hcb2;rw[Zz.out]at q1;rw[HKM.out]at q2;exact⟨q1,q2⟩)))
   all_goals
    go_wp2_with fail;refine aD (v:= .agg #[r.2.err,r.2.n,r.2.text,.slice Aq r.2.names.length cq]) ?_ rfl ?_
    ·simp[results,results68,go_sem,z]
    rw[y.out];exact A
  have i:=aL (i.out.trans (av (by simpa using t2)))
  cases t13:c.kind==13
  rotate_left
  ·
   have i:=aL (i.out.trans (aM (by simpa using t13)))
   unfold Sy.callDup at i;have Pv:=Dp (p.plus w) s n u t j HI.out E;have Ju:=aL (λk=>Sy.uI (k:=k) HI.out E)
   generalize Sy.free s u=fr at Pv i Ju;have hD:ai t (p.d d) 147 [ptr (p.F.getD (Sy.deAt s d).o 0),.int .i64 (Sy.deAt s d).fl,.int .i64 (Sy.deAt s d).at_,.int .i64 (Sy.deAt s d).refs]:=j.de d l
   have hdb:=(HI.out.deAt l).2.2.2;go_wp2_with fail;refine Pv.mono ?_
   rintro e t ⟨rfl,rfl⟩
   cases fr with
   |none=>
    have y:Hid (R=(s,.no 5)):=aL i.out;have tl:decide (He none<0)=true:=rfl;simp only[He]at tl ⊢;go_wp2_with fail;refine aD (v:= .agg #[(5:Int),(0:Int),Qs.e,()]) ?_ rfl ?_
    ·simp[results,results68,go_sem,z]
    rw[y.out];exact aN (a:=(.no 5)) aR j rfl rfl (Fr.of I) (Sub.refl _ _) rfl
   |some k=>
    have hk9:=Ju.out k rfl;have y:Hid (R=(Sy.setDe (Sy.setFd s u k (some d)) d (λx=>{x with refs:=x.refs+1}),.num k)):=aL i.out
    have tl:decide (((k:Nat):Int)<0)=false:=bN (by omega)
    have ic1:(0:Int)<=(k:Int):=gD _;have ic2:(k:Int)<8:=by omega
    have hbg:p.gs≠b:=λe=>hcb2 (.inl e.symm)
    have EG:b≠p.gs:=λe=>hcb2 (.inl e)
    simp only[He];have hA3:=j.setFd (o:=u) (k:=k) ⟨HI.out.fdl,HI.out.fdr⟩ E hk9 (some d);rw[show sN (p.plus w).D (some d)= .pointer (p.d d:Nat)from rfl,<-Nat.add_assoc,show(p.plus w).gs=p.gs from rfl]at hA3
    have hz3:=M.far (p:=⟨p.gs,4+u*8+k,none⟩) (show w.heap.size≠p.gs by omega) (.pointer (p.d d:Nat))
    have hD3:=ai.far hD (p:=⟨p.gs,4+u*8+k,none⟩) (λe=>j.OX l e.symm) (.pointer (p.d d:Nat))
    have hF3:Fr p.C w (t.setCell ⟨p.gs,4+u*8+k,none⟩ (.pointer (p.d d:Nat))):=Fr.setCell (Fr.of I) (p:=⟨p.gs,4+u*8+k,none⟩) (.inl rfl) _;have hcf:t.cell? ⟨p.gs,4+u*8+k,none⟩=some (sN p.D (Sy.fdAt s u k)):=by have:=j.fds HI.out E hk9;rw[<-Nat.add_assoc]at this;exact this
    have SE:∀q,t.frozen? ⟨p.gs,q,none⟩=false:=by obtain⟨cs,hb⟩:=j.blk;exact hb.frozen
    go_upto_region 11 with fail
    go_region_held3 (λW=>W.cell? ⟨b,o+1,none⟩=some (.int .i64 u)) (first|go_keep|exact V) (fail)
    all_goals
     have hA3:=hA3.below (aa _ _).drew;have hz3:=hz3.drew;have hD3:=ai.drew hD3;have hF3:=hF3.bf (aa _ _).drew;generalize (t.setCell ⟨p.gs,4+u*8+k,none⟩ (.pointer (p.d d:Nat))).drew=w3 at*;clear z G c0 V c2 c3 c4 c5 c6 c7 c8 hcf SE;have Yd:ai w3 (p.d d) 147 [ptr (p.F.getD (Sy.deAt s d).o 0),.int .i64 (Sy.deAt s d).fl,.int .i64 (Sy.deAt s d).at_,.int .i64 (Sy.deAt s d).refs]:=hD3
     clear hD hD3;generalize hdd:Sy.deAt s d=de at*;obtain⟨di,Jv,dat,S⟩:=de;dsimp only at Yd hdb;obtain⟨d0,d1,d2,d3,df,dz⟩:=Yd.four;have hwr:IntKind.i64.wrap (S+1)=S+1:=lm _ (by omega)
     have Ku:=aL hdd;clear hdd;go_upto_region 13 with fail
     have Ff:Fr (λk=>k=p.d d) w3 (w3.setCell ⟨p.d d,3,none⟩ (.int .i64 (S+1))):=(Fr.refl (λk=>k=p.d d) w3).at_ 3 _
     have mY:=hA3.setDe (d:=d) l Ff (λx=>{x with refs:=x.refs+1}) (by
      rw[show Sy.deAt (Sy.setFd s u k (some d)) d=⟨di,Jv,dat,S⟩from Ku.out]
      exact Yd.bY 3 _)
     have jY:=hz3.far (p:=⟨p.d d,3,none⟩) (λe=>by have h1:=hA.out.bz (hA.out.Kq l);have e:w.heap.size=p.d d:=e;omega) (.int .i64 (S+1))
     have hF4:Fr p.C w (w3.setCell ⟨p.d d,3,none⟩ (.int .i64 (S+1))):=hF3.setCell (p:=⟨p.d d,3,none⟩) (hA.out.Kq l) _;generalize w3.setCell ⟨p.d d,3,none⟩ (.int .i64 (S+1))=w4 at*;clear d0 d1 d2 d3 df dz;have z:=jY.four;go_wp2_with fail;refine aD (v:= .agg #[(0:Int),k,Qs.e,()]) ?_ rfl ?_
     ·simp[results,results68,go_sem,z]
     rw[y.out];exact aN (a:=⟨0,((k:Nat):Int),⟨#[]⟩,[]⟩) aR mY rfl rfl hF4 (Sub.refl _ _) rfl
  have i:=aL (i.out.trans (av (by simpa using t13)))
  cases t5:c.kind==5
  rotate_left
  ·
   have i:=aL (i.out.trans (aM (by simpa using t5)))
   unfold Sy.callSeek at i
   by_cases hr:c.n<0\/1000<c.n
   ·have y:=aL (i.out.trans (aM hr))
    have tn:decide (c.n<0)=true\/(decide (c.n<0)=false/\decide (1000<c.n)=true):=by
     rcases si (c.n<0)with q|q
     ·exact .inl (fw q)
     ·exact .inr ⟨bN q,fw (hr.resolve_left q)⟩
    clear i hr
    rcases tn with tn|⟨tn,tm⟩
    all_goals
     go_wp2_with fail;refine aD (v:= .agg #[(3:Int),(0:Int),Qs.e,()]) ?_ rfl ?_
     ·simp[results,results68,go_sem,z]
     rw[y.out];exact aN (a:=(.no 3)) aR j rfl rfl (Fr.of I) (Sub.refl _ _) rfl
   have y:=aL (i.out.trans (av hr));have tn:decide (c.n<0)=false:=bN λq=>hr (.inl q)
   have tm:decide (1000<c.n)=false:=bN λq=>hr (.inr q)
   clear hr i;have hD:ai t (p.d d) 147 [ptr (p.F.getD (Sy.deAt s d).o 0),.int .i64 (Sy.deAt s d).fl,.int .i64 (Sy.deAt s d).at_,.int .i64 (Sy.deAt s d).refs]:=j.de d l
   obtain⟨d0,d1,d2,d3,df,dz⟩:=ai.four hD;go_upto_region 18 with fail
   have Ff:Fr (λk=>k=p.d d) t (t.setCell ⟨p.d d,2,none⟩ (.int .i64 c.n)):=(Fr.refl (λk=>k=p.d d) t).at_ 2 _
   have mY:=j.setDe (d:=d) l Ff (λx=>{x with at_:=c.n}) (ai.bY hD 2 _)
   have jY:=M.far (p:=⟨p.d d,2,none⟩) (λe=>by have h1:=hA.out.bz (hA.out.Kq l);have e:w.heap.size=p.d d:=e;omega) (.int .i64 c.n)
   have hF4:Fr p.C w (t.setCell ⟨p.d d,2,none⟩ (.int .i64 c.n)):=Fr.setCell (Fr.of I) (p:=⟨p.d d,2,none⟩) (hA.out.Kq l) _;clear d0 d1 d2 d3 df dz z G c0 V c2 c3 c4 c5 c6 c7 c8;generalize t.setCell ⟨p.d d,2,none⟩ (.int .i64 c.n)=w4 at*;have z:=jY.four;go_wp2_with fail;refine aD (v:= .agg #[(0:Int),(0:Int),Qs.e,()]) ?_ rfl ?_
   ·simp[results,results68,go_sem,z]
   rw[y.out];exact aN (a:= .ok) aR mY rfl rfl hF4 (Sub.refl _ _) rfl
  have i:=aL (i.out.trans (av (by simpa using t5)))
  have hD:ai t (p.d d) 147 [ptr (p.F.getD (Sy.deAt s d).o 0),.int .i64 (Sy.deAt s d).fl,.int .i64 (Sy.deAt s d).at_,.int .i64 (Sy.deAt s d).refs]:=j.de d l
  obtain⟨d0,d1,d2,d3,df,dz⟩:=ai.four hD;have hdo:=(HI.out.deAt l).1;have HDO:=aL (show p.F.getD (Sy.deAt s d).o 0=p.f (Sy.deAt s d).o from rfl)
  rw[HDO.out]at d0;unfold ptr at d0;clear hD HDO
  by_cases U:c.kind=14\/c.kind=15
  ·
   have y:=aL (i.out.trans (aM U));have tk:(c.kind==14)=true\/((c.kind==14)=false/\(c.kind==15)=true):=by
    rcases U with q|q
    ·exact .inl (by simp[q])
    ·exact .inr ⟨by simp[q],by simp[q]⟩
   have Y:=λW q hcw=>Pm (p.plus w) s n (Sy.deAt s d).o b o c W q HI.out hdo hcw
   rw[show Pl.f (p.plus w) (Sy.deAt s d).o=p.f (Sy.deAt s d).o from rfl]at Y
   generalize Sy.callLock s c (Sy.deAt s d).o=r at Y y;clear i U
   rcases tk with tk|⟨tk,tl⟩
   all_goals
    go_wp2_with fail;refine(Y t j HC2.out).mono ?_
    intro e w6 hS;obtain⟨Aq,cq,rfl,K,A⟩:=iT aR (Fr.of I:Fr p.C w t) hS;clear z G c0 V c2 c3 c4 c5 c6 c7 c8 d0 d1 d2 d3 df dz;have z:=(M.Jr j K).four;go_wp2_with fail;refine aD (v:= .agg #[r.2.err,r.2.n,r.2.text,.slice Aq r.2.names.length cq]) ?_ rfl ?_
    ·simp[results,results68,go_sem,z]
    rw[y.out];exact A
  have i:=aL (i.out.trans (av U));have t14:(c.kind==14)=false:=by simp only[fq];exact λq=>U (.inl q)
  have t15:(c.kind==15)=false:=by simp only[fq];exact λq=>U (.inr q)
  clear U
  cases t3:c.kind==3
  rotate_left
  ·
   have y:=aL (i.out.trans (aM (by simpa using t3)))
   have Y:=Ey (p.plus w) s n d b o c t j HI.out (by omega) HK.out l HC2.out
   rw[show Pl.d (p.plus w) d=p.d d from rfl]at Y
   generalize Sy.callRead s c d=r at Y y;clear i;go_wp2_with fail;refine Y.mono ?_
   intro e w6 hS;obtain⟨Aq,cq,rfl,K,A⟩:=iT aR (Fr.of I:Fr p.C w t) hS;clear z G c0 V c2 c3 c4 c5 c6 c7 c8 d0 d1 d2 d3 df dz;have z:=(M.Jr j K).four;go_wp2_with fail;refine aD (v:= .agg #[r.2.err,r.2.n,r.2.text,.slice Aq r.2.names.length cq]) ?_ rfl ?_
   ·simp[results,results68,go_sem,z]
   rw[y.out];exact A
  have y:=aL (i.out.trans (av (by simpa using t3)))
  have Y:=Bg (p.plus w) s n d b o c t j HI.out (by omega) HK.out l HC2.out hcb2 HCS.out
  rw[show Pl.d (p.plus w) d=p.d d from rfl]at Y
  generalize Sy.callWrite s c d=r at Y y;clear i;go_wp2_with fail;refine Y.mono ?_
  intro e w6 hS;obtain⟨Aq,cq,rfl,K,A⟩:=iT aR (Fr.of I:Fr p.C w t) hS;clear z G c0 V c2 c3 c4 c5 c6 c7 c8 d0 d1 d2 d3 df dz;have z:=(M.Jr j K).four;go_wp2_with fail;refine aD (v:= .agg #[r.2.err,r.2.n,r.2.text,.slice Aq r.2.names.length cq]) ?_ rfl ?_
  ·simp[results,results68,go_sem,z]
  rw[y.out];exact A
theorem Vk:∀m:Fin 64,1<=m.1->Sy.dX ((m.1:Nat):Int)=((bits .and .i64 ((m.1:Nat):Int) 3==0)||((bits .and .i64 ((m.1:Nat):Int) 36 !=0)&&(bits .and .i64 ((m.1:Nat):Int) 2==0))||((bits .and .i64 ((m.1:Nat):Int) 16 !=0)&&(bits .and .i64 ((m.1:Nat):Int) 8==0))):=by decide+kernel
theorem Ye{n:Int}(h0:1<=n)(h1:n<=63):Sy.dX n=((bits .and .i64 n 3==0)||((bits .and .i64 n 36 !=0)&&(bits .and .i64 n 2==0))||((bits .and .i64 n 16 !=0)&&(bits .and .i64 n 8==0))):=by
 obtain⟨m,rfl⟩:∃m:Nat,n=m:=⟨n.toNat,by omega⟩
 exact Vk ⟨m,by omega⟩ (by show 1<=m;omega)
theorem EH{n:Int}(h:n<1\/63<n):Sy.dX n=true:=by
 unfold Sy.dX
 rcases h with h|h
 ·rw[fw h];rfl
 rw[fw h];simp
theorem Yf{n:Int}(h:Sy.dX n=false):1<=n/\n<=63:=by
 rcases si (n<1\/63<n)with q|q
 ·rw[EH q]at h;cases h
 omega
theorem xW.plus{p:Pl}{ga:Nat}{r:St×Nat}{w w':World}{e:Ending}(h:xW (p.plus ga) r w e w'):∃p3:Pl,e= .returned (.pointer (p3.f r.2:Nat))/\aQ w' (p3.plus ga) r.1/\p3.gs=p.gs/\p3.e=p.e/\Fr p.C w w'/\Sub w p3.C p.C:=by
 obtain⟨i,m,o,j,g,l,n⟩:=h;refine⟨{i with e:=p.e},m,?_,j,rfl,l,n⟩
 have k:i=({i with e:=p.e}:Pl).plus ga:=by
  obtain⟨a,b,c,d,q⟩:=i;dsimp only at g;subst g
  rfl
 exact k▸o
theorem KJ(s:St)(q:Pt.Bs):(Sy.opened s q).1.fds=s.fds/\(Sy.opened s q).1.des=s.des:=by
 unfold Sy.opened
 split<;>exact⟨rfl,rfl⟩
theorem EI(p:Pl)(s:St)(n b o:Nat)(c:Ca)(w:World)(h:aQ w p s)(hi:Sy.In n s)(hn:n<=999)(hk:Sy.Ok s)(hc:lu w b o c)(hcb2:¬p.C b)(hcs:jK c)(ho0:0<=c.owner)(dI:c.owner<4):Calls prog 63 #[.pointer p.gs,.pointer (some ⟨b,o,none⟩)] w (mD p (Sy.callOpen s c) w):=by
 have HK:=aL hk;have HI:=aL hi;have hA:=aL h;have HCW:=aL hc;have hgs0:p.gs<w:=h.bz h.jq;have hcp:=hcs.1;obtain⟨U,Vj⟩:∃m:Nat,c.owner=m:=⟨c.owner.toNat,by omega⟩
 have kZ:U<4:=by omega
 have Nw:(0:Int)<=(U:Int):=gD _;have ib2:(U:Int)<4:=by omega
 obtain⟨R,hR⟩:∃R,R=Sy.callOpen s c:=⟨_,rfl⟩;rw[<-hR];unfold Sy.callOpen at hR;rw[Vj,mH]at hR;have HR0:=aL hR;clear hR h hk hcs hi;have hA0:=hA.out.plus (.cells #[(0:Int),(0:Int),Qs.e,()] 43);have hB0:=(aa w w).alloc aR (.cells #[(0:Int),(0:Int),Qs.e,()] 43);have hz0:=ai.new w 43 [(0:Int),(0:Int),Qs.e,()];have hc0:=hc.below hB0;have hcw:¬b=w.heap.size:=λe=>by have:=hc.1;omega
 go_enter func63,ntmps63;go_upto_region 1 with fail
 generalize w.alloc (.cells #[(0:Int),(0:Int),Qs.e,()] 43)=w0 at*;have vP:=aL hc0;clear hc0 hc;have j:=hz0.four;obtain⟨hcb,c0,c1,c2,c3,c4,c5,c6,c7,c8⟩:=vP.out;rw[Vj]at c1;have Zz:=aL Vj;clear Vj;obtain⟨g,hfl⟩:∃g,g=c.n:=⟨_,rfl⟩;rw[<-hfl]at HR0 c3;have Yg:=aL hfl;clear hfl ho0 dI;obtain⟨bad,hbad⟩:∃x,x=Sy.dX g:=⟨_,rfl⟩;have S:=aL hbad;rw[<-hbad]at HR0;clear hbad;go_upto_region 2 with fail
 go_cut [45] (λv wx=>v= .bool bad/\w0=wx)
 case first=>
  cases u1:decide (g<1)
  rotate_left
  ·have B:Hid (bad=true):=aL (S.out.trans (EH (.inl (iA u1))))
   go_wp2;go_meet
   case rel=>exact⟨by rw[B.out],rfl⟩
  cases u2:decide (63<g)
  rotate_left
  ·have B:Hid (bad=true):=aL (S.out.trans (EH (.inr (iA u2))))
   go_wp2;go_meet
   case rel=>exact⟨by rw[B.out],rfl⟩
  have B:=aL (S.out.trans (Ye (n:=g) (by have:=j6 u1;omega) (by have:=j6 u2;omega)))
  cases vA:bits BinOp.and IntKind.i64 g 3==0
  rotate_left
  ·go_wp2
   go_meet
   case rel=>exact⟨by rw[B.out];simp[vA],rfl⟩
  cases vB:bits BinOp.and IntKind.i64 g 36 !=0
  ·cases vD:bits BinOp.and IntKind.i64 g 16 !=0
   ·go_wp2
    go_meet
    case rel=>exact⟨by rw[B.out];simp[vA,vB,vD],rfl⟩
   cases vE:bits BinOp.and IntKind.i64 g 8==0
   ·go_wp2
    go_meet
    case rel=>exact⟨by rw[B.out];simp[vA,vB,vD,vE],rfl⟩
   go_wp2;go_meet
   case rel=>exact⟨by rw[B.out];simp[vA,vB,vD,vE],rfl⟩
  cases vC:bits BinOp.and IntKind.i64 g 2==0
  rotate_left
  ·go_wp2
   go_meet
   case rel=>exact⟨by rw[B.out];simp[vA,vB,vC],rfl⟩
  cases vD:bits BinOp.and IntKind.i64 g 16 !=0
  ·go_wp2
   go_meet
   case rel=>exact⟨by rw[B.out];simp[vA,vB,vC,vD],rfl⟩
  cases vE:bits BinOp.and IntKind.i64 g 8==0
  ·go_wp2
   go_meet
   case rel=>exact⟨by rw[B.out];simp[vA,vB,vC,vD,vE],rfl⟩
  go_wp2;go_meet
  case rel=>exact⟨by rw[B.out];simp[vA,vB,vC,vD,vE],rfl⟩
 case rest=>
 obtain⟨rfl,rfl⟩:=hcut
 cases bad
 rotate_left
 ·have HF:=aL (HR0.out.trans (aM rfl))
  clear HR0;go_wp2_with fail;refine aD (v:= .agg #[(8:Int),(0:Int),Qs.e,()]) ?_ rfl ?_
  ·simp[results,results63,go_sem,j]
  rw[HF.out];exact aN (a:=(.no 8)) aR hA0 rfl rfl (Fr.of hB0) (Sub.refl _ _) rfl
 have F:=aL (HR0.out.trans (av (by decide)))
 clear HR0;obtain⟨hn1,hn2⟩:=Yf S.out.symm;clear S;have Pv:=Dp (p.plus w) s n U w0 hA0 HI.out kZ;have Ju:=aL (λk=>Sy.uI (k:=k) HI.out kZ)
 generalize Sy.free s U=fr at Pv F Ju;go_wp2_with fail;refine Pv.mono ?_
 rintro e w0 ⟨rfl,rfl⟩
 cases fr with
 |none=>
  have HF:Hid (R=(s,.no 5)):=aL F.out;have tl:decide (He none<0)=true:=rfl;clear F;simp only[He]at tl ⊢;go_wp2_with fail;refine aD (v:= .agg #[(5:Int),(0:Int),Qs.e,()]) ?_ rfl ?_
  ·simp[results,results63,go_sem,j]
  rw[HF.out];exact aN (a:=(.no 5)) aR hA0 rfl rfl (Fr.of hB0) (Sub.refl _ _) rfl
 |some k=>
  have hk8:=Ju.out k rfl;have tl:decide (((k:Nat):Int)<0)=false:=bN (by omega)
  have ic1:(0:Int)<=(k:Int):=gD _;have ic2:(k:Int)<8:=by omega
  simp only[He];have hfo:(bits BinOp.and IntKind.i64 g 16==0)= !Sy.bit g 4:=qw (by omega) hn2 4
  dsimp only at F;obtain⟨fo,Yh⟩:∃fo,fo= !Sy.bit g 4:=⟨_,rfl⟩;rw[<-Yh]at hfo F;have HFO:=aL Yh;clear Yh Pv Ju;have cF:=j_ (p.plus w) s c.path fo w0 hA0 HK.out (by omega)
  unfold iL at cF;have N:=aL (fO (T:=s.T) (q:=c.path.data.toList) (fo:=fo));generalize Sy.find s.T c.path fo=r at cF F N;obtain⟨ra,re⟩:=r;dsimp only at cF F N;rw[dV]at cF;have I:=aL (dF ra);obtain⟨rs,hrs⟩:∃x,x=Sy.bytesOf ra:=⟨_,rfl⟩;have WI:=aL hrs;rw[<-hrs]at cF N I;clear hrs;go_wp2_with fail;refine cF.mono ?_
  rintro e w1 ⟨rfl,V⟩;have hA1:=hA0.below V;have hz1:=hz0.below V hz0.lt;have hB1:=hB0.trans (V.mono hB0.size);clear j hcb c0 c1 c2 c3 c4 c5 c6 c7 c8 hA0 hz0 V hB0 cF vP tl hfo;have j:=hz1.four
  cases te:re !=0
  rotate_left
  ·have HF:=aL (F.out.trans (aM (by simpa using te)))
   clear F;go_wp2_with fail;refine aD (v:= .agg #[re,(0:Int),Qs.e,()]) ?_ rfl ?_
   ·simp[results,results63,go_sem,j]
   rw[HF.out];exact aN (a:=(.no re)) aR hA1 rfl rfl (Fr.of hB1) (Sub.refl _ _) rfl
  obtain rfl:re=0:=by simpa using te
  have HR2:=aL (F.out.trans (av (by decide)))
  clear te F;have hrl:=N.out rfl;clear N;obtain⟨AT,cT,g2,pq,Np,hgs⟩:=hA1.seen;have htl:=HK.out.tl;have hx1:¬p.gs=w.heap.size:=by omega
  have cG:=get_any AT cT s.T rs w1 pq (Tr.bn HK.out.right) (by omega) (by omega)
  go_wp2_with fail;refine cG.mono ?_
  rintro e w2 ⟨r,rfl,hr,V⟩;have vM:=aL (hr.2 (.inl HK.out.right.2.1));have hA2:=hA1.below V;have hz2:=hz1.below V hz1.lt;have hB2:=hB1.trans (V.mono hB1.size);clear j g2 pq Np hgs hA1 hz1 V hB1 cG hr;obtain⟨y,hy⟩:∃y,y=r.getD En.zero:=⟨_,rfl⟩;rw[<-hy];have HY:=aL hy;clear hy;obtain⟨dp,dk,dt,f_⟩:=y;simp only[En.agg,En.cells];have A:=hA2.below ((aa _ w2).alloc aR (.cells #[dp,dk,dt,f_] 45));have O:=hB2.alloc hB2.size (.cells #[dp,dk,dt,f_] 45);have G:=hz2.alloc (.cells #[dp,dk,dt,f_] 45);have hd3:=ai.new w2 45 [dp,dk,dt,f_];have hx3:¬w2.heap.size=w.heap.size:=by have:=hz2.lt;omega
  go_upto_block 0 with fail
  generalize w2.alloc (.cells #[dp,dk,dt,f_] 45)=w3 at*;generalize w2.heap.size=gd at*;clear hA2 hB2 hz2;have z:=hd3.four;have vX:Hid (r=none->Sy.openSet s g ra=if Sy.bit g 3=false then(s,6)else Sy.set s (Tr.putU s.u ⟨rs,1,⟨#[]⟩,false⟩)):=aL (λhr=>by
   unfold Sy.openSet;have e1:(⟨rs,1,⟨#[]⟩,false⟩:En)=Sy.fileEn ra Sy.noE:=by rw[WI.out];rfl
   rw[<-I.out,<-vM.out,hr,I.out,e1])
  have Vl:Hid (∀e,r=some e->Sy.openSet s g ra=if Sy.bit g 4=true then(s,7)else if e.k=2 then(s,9)else if Sy.bit g 5=true/\e.t.data.toList≠[]then Sy.set s (Tr.putU s.u ⟨rs,1,⟨#[]⟩,false⟩)else(s,0)):=aL (λe hr=>by
   unfold Sy.openSet;have e1:(⟨rs,1,⟨#[]⟩,false⟩:En)=Sy.fileEn ra Sy.noE:=by rw[WI.out];rfl
   rw[<-I.out,<-vM.out,hr,I.out,e1])
  have HOI:=aL (Sy.openSet_in HI.out g ra);have HOG:=aL (Sy.uo HK.out g ra);obtain⟨q,hq⟩:∃q,q=Sy.openSet s g ra:=⟨_,rfl⟩;rw[<-hq]at vX Vl HR2 HOI HOG;clear hq vM;obtain⟨AU,AL,cU,cL,g0,g1,hrU⟩:=A.un;have KG:p.gs<w3:=A.bz A.jq;have cP:=λW q=>zx AU AL cU cL s.u rs 1 ⟨#[]⟩ false W q (dU HK.out.1) (by omega) (by decide)
  have lG:=aL (Ew HK.out ⟨rs,1,⟨#[]⟩,false⟩);generalize Tr.putU s.u ⟨rs,1,⟨#[]⟩,false⟩=pu at cP vX Vl lG
  go_cut [8] (λv wx=>v= .int .i64 q.2/\aQ wx (p.plus w) q.1/\ai wx w 43 [(0:Int),(0:Int),Qs.e,()]/\Fr p.C w wx)
  case first=>
   have E:(bits BinOp.and IntKind.i64 g 8==0)= !Sy.bit g 3:=qw (by omega) hn2 3
   have Z:(bits BinOp.and IntKind.i64 g 16 !=0)=Sy.bit g 4:=Eu (by omega) hn2 4
   have H:(bits BinOp.and IntKind.i64 g 32 !=0)=Sy.bit g 5:=Eu (by omega) hn2 5
   rcases r with _|d
   ·have i:=vX.out rfl
    cases b3:Sy.bit g 3
    ·have K:=aL (i.trans (aM b3))
     rw[b3]at E;clear i Z H b3;have E:(bits BinOp.and IntKind.i64 g 8==0)=true:=E;go_wp2;go_meet
     case rel=>exact⟨by rw[K.out],by rw[K.out];exact A,G,Fr.of O⟩
    ·have K:=aL (i.trans (av (by simp[b3])))
     rw[b3]at E;clear i Z H b3;have E:(bits BinOp.and IntKind.i64 g 8==0)=false:=E
     go_wp2_with (first|(go_at_call 20;refine(cP w3 hrU).mono ?_;rintro e l ⟨A6,xC,Vm,SG,rfl,uB,Y⟩)|(go_at_call 31;refine(jZ (p.plus w) s A6 xC Vm SG pu l (A.below Y) (λ_=>gZ.off uB λk hk=>A.mX hk) lG.out).mono ?_;rintro e w7 ⟨rfl,iU,lh⟩))
     go_meet
     case rel=>exact⟨by rw[K.out],by rw[K.out];exact iU,(G.below Y G.lt).fr lh (show¬w.heap.size=p.gs by omega),((Fr.of O:Fr p.C w w3).bf Y).trans lh λ_ _ e=>e▸(.inl rfl:p.C p.gs)⟩
   ·obtain rfl:d=⟨dp,dk,dt,f_⟩:=HY.out.symm
    have i:=Vl.out _ rfl;dsimp only at i
    cases b4:Sy.bit g 4
    rotate_left
    ·have K:=aL (i.trans (aM b4))
     rw[b4]at Z;clear i E H b4;go_wp2;go_meet
     case rel=>exact⟨by rw[K.out],by rw[K.out];exact A,G,Fr.of O⟩
    have M:=i.trans (av (by simp[b4]))
    rw[b4]at Z
    cases k2:dk==2
    rotate_left
    ·have K:=aL (M.trans (aM (by simpa using k2)))
     clear M i E H b4;go_wp2;go_meet
     case rel=>exact⟨by rw[K.out],by rw[K.out];exact A,G,Fr.of O⟩
    have L:=M.trans (av (by simpa using k2))
    cases b5:Sy.bit g 5
    ·have K:=aL (L.trans (av (by simp[b5])))
     rw[b5]at H;clear L M i E b4 b5;go_wp2;go_meet
     case rel=>exact⟨by rw[K.out],by rw[K.out];exact A,G,Fr.of O⟩
    rw[b5]at H
    rcases aG dt with⟨hE,e1,e2⟩|⟨hE,e1,e2⟩
    ·have K:=aL (L.trans (av λq=>q.2 hE))
     clear L M i E b4 b5 hE;go_wp2;go_meet
     case rel=>exact⟨by rw[K.out],by rw[K.out];exact A,G,Fr.of O⟩
    ·have K:=aL (L.trans (aM ⟨b5,hE⟩))
     clear L M i E b4 b5 hE
     go_wp2_with (first|(go_at_call 20;refine(cP w3 hrU).mono ?_;rintro e l ⟨A6,xC,Vm,SG,rfl,uB,Y⟩)|(go_at_call 31;refine(jZ (p.plus w) s A6 xC Vm SG pu l (A.below Y) (λ_=>gZ.off uB λk hk=>A.mX hk) lG.out).mono ?_;rintro e w7 ⟨rfl,iU,lh⟩))
     go_meet
     case rel=>exact⟨by rw[K.out],by rw[K.out];exact iU,(G.below Y G.lt).fr lh (show¬w.heap.size=p.gs by omega),((Fr.of O:Fr p.C w w3).bf Y).trans lh λ_ _ e=>e▸(.inl rfl:p.C p.gs)⟩
  case rest=>
  obtain⟨rfl,lH,jo,Qi⟩:=hcut;generalize wc=w5 at*;clear vX Vl cP lG A O G hd3 z g0 g1 hrU KG HY;have hsz5:w.heap.size<=w5.heap.size:=Qi.size;have j:=jo.four
  cases tq:q.2 !=0
  rotate_left
  ·have HF:=aL (HR2.out.trans (aM (by simpa using tq)))
   clear HR2;go_wp2_with fail;refine aD (v:= .agg #[q.2,(0:Int),Qs.e,()]) ?_ rfl ?_
   ·simp[results,results63,go_sem,j]
   rw[HF.out];exact aN (a:=(.no q.2)) aR lH rfl rfl Qi (Sub.refl _ _) rfl
  have HR3:=aL (HR2.out.trans (av (by
   have q0:q.2=0:=by simpa using tq
   simp[q0])))
  clear HR2;go_upto_region 23 with fail
  clear tq j;obtain⟨s5,hs5⟩:∃x,x=q.1:=⟨_,rfl⟩;rw[<-hs5]at lH HR3 HOI;clear hs5 HOG;have cO:=λW Q=>open_any (p.plus w) s5 n rs W Q HOI.out (by omega)
  have ZA:=aL (HOI.out.opened (p:=ra) (by have h:=hrl;rw[WI.out]at h;exact h))
  rw[I.out]at cO;have HOF:=aL (KJ s5 ra);generalize Sy.opened s5 ra=op at cO HR3 ZA HOF;obtain⟨so,io⟩:=op;dsimp only at cO HR3 ZA HOF;have ZB:=aL (HCW.out.fr Qi hcb2);obtain⟨hcb,c0,c1,c2,c3,c4,c5,c6,c7,c8⟩:=ZB.out;rw[Zz.out]at c1;rw[<-Yg.out]at c3;have adC:¬b=p.gs:=λe=>hcb2 (.inl e)
  have adi:¬p.gs=b:=λe=>hcb2 (.inl e.symm)
  have hbd:Below w5 w5 w5.drew:=(aa _ w5).drew;have S6:∀l,Fr p.C w5.drew l->l.cell? ⟨b,o+1,none⟩=some (.int .i64 U)/\b<l:=λl hf=>by
   obtain⟨q0,_,q1,_⟩:=(ZB.out.below hbd).fr hf hcb2;rw[Zz.out]at q1;exact⟨q1,q0⟩
  have G6:∀l (p3:Pl),aQ l (p3.plus w) so->p3.gs=p.gs->l.cell? ⟨p.gs,4+U*8+k,none⟩=some (sN p3.D (Sy.fdAt so U k))/\(∀q,l.frozen? ⟨p.gs,q,none⟩=false)/\p.gs<l:=λl p3 h6 hg=>by
   have h1:=h6.fds ZA.out.1 kZ hk8;rw[<-Nat.add_assoc,show(p3.plus w).gs=p3.gs from rfl,hg]at h1
   obtain⟨cs,V⟩:=h6.blk;have V:ai l p3.gs 71 cs:=V;rw[hg]at V;exact⟨h1,V.frozen,V.lt⟩
  go_region_held3 (λW=>W.cell? ⟨b,o+1,none⟩=some (.int .i64 U)) (first|exact c1|exact(S6 l uH).1|go_keep) (first|(go_at_call 106;refine(cO w5.drew (lH.below hbd)).mono ?_;intro e l hO;obtain⟨p3,rfl,nG,hg3,he3,uH,hS6⟩:=hO.plus;obtain⟨g6,gf6,gl6⟩:=G6 l p3 nG hg3;have Be:=(S6 l uH).2))
  all_goals
   have iU:=nG.WA ZA.out.1 ⟨io,g,0,1⟩;have kW:=(jo.below hbd jo.lt).Jr (lH.below hbd) uH;have fM:=kW.alloc (.cells #[.pointer (p3.f io:Nat),.int .i64 g,(0:Int),(1:Int)] 147);have rV:Fr p.C w (l.alloc (.cells #[.pointer (p3.f io:Nat),.int .i64 g,(0:Int),(1:Int)] 147)):=((Qi.bf hbd).trans uH (Sub.refl _ _)).bf ((aa _ l).alloc aR _);have KL:w.heap.size<=l.heap.size:=eT hsz5 uH.size;have vN:=iU.setFd (o:=U) (k:=k) ⟨by show so.fds.length=4;exact ZA.out.1.fdl,ZA.out.1.fdr⟩ kZ hk8 (some so.des.length)
   have hval:sN (Pl.D {(p3.plus w)with D:=(p3.plus w).D++[l.heap.size]}) (some so.des.length)= .pointer l.heap.size:=by
    show ptr ((p3.D++[l.heap.size]).getD so.des.length 0)=_
    rw[<-show p3.D.length=so.des.length from nG.dl,Sy.uz];rfl
   rw[hval,<-Nat.add_assoc,show(Pl.gs {(p3.plus w)with D:=(p3.plus w).D++[l.heap.size]})=p3.gs from rfl,hg3]at vN
   have uy:=fM.far (p:=⟨p.gs,4+U*8+k,none⟩) (show w.heap.size≠p.gs by omega) (.pointer l)
   have xn:=rV.setCell (p:=⟨p.gs,4+U*8+k,none⟩) (.inl rfl) (.pointer l);have hS8:Sub w (Pl.C {p3 with gs:=p.gs,D:=p3.D++[l.heap.size]}) p.C:=λk hk hc=>by
    rcases hc with hc|hc|hc|hc
    ·exact .inl hc
    ·exact hS6 k (bE hk hsz5) (.inr (.inl hc))
    ·rcases List.mem_append.1 hc with hc|hc
     ·exact hS6 k (bE hk hsz5) (.inr (.inr (.inl hc)))
     ·rw[eD]at hc;omega
    ·exact hS6 k (bE hk hsz5) (.inr (.inr (.inr hc)))
   have HF:Hid (R=(Sy.setFd {so with des:=so.des++[⟨io,g,0,1⟩]} U k (some so.des.length),.num k)):=aL HR3.out
   have hsw:=World.setCell_alloc_past (w:=l) (.cells #[.pointer (p3.f io:Nat),.int .i64 g,(0:Int),(1:Int)] 147) p.gs (4+U*8+k) (.pointer l) gl6;have aaF:aQ ((l.alloc (.cells #[.pointer (p3.f io:Nat),.int .i64 g,(0:Int),(1:Int)] 147)).setCell ⟨p.gs,4+U*8+k,none⟩ (.pointer l)) _ _:=vN;rw[hsw]at aaF uy xn;clear HR3 hcb c0 c1 c2 c3 c4 c5 c6 c7 c8 g6 gf6 gl6 S6 G6 Be hsw vN;generalize (l.setCell ⟨p.gs,4+U*8+k,none⟩ (.pointer l)).alloc (.cells #[.pointer (p3.f io:Nat),.int .i64 g,(0:Int),(1:Int)] 147)=w8 at*;have j:=uy.four;go_wp2_with fail;refine aD (v:= .agg #[(0:Int),k,Qs.e,()]) ?_ rfl ?_
   ·simp[results,results63,go_sem,j]
   rw[HF.out];exact aN (p:=p) (p':={p3 with gs:=p.gs,D:=p3.D++[l.heap.size]}) (a:= .num k) aR aaF he3 rfl xn hS8 rfl
theorem Sy.Px{s:St}{c:Ca}(h:c.kind<1\/16<c.kind):Sy.call s c=(s,.no 1):=by unfold Sy.call;rw[aM h]
theorem Sy.KO{s:St}{c:Ca}(h:¬(c.kind<1\/16<c.kind))(h2:c.owner<0\/4<=c.owner):Sy.call s c=(s,.no 3):=by unfold Sy.call;rw[av h,aM h2]
theorem SH(p:Pl)(s:St)(n b o:Nat)(c:Ca)(w:World)(h:aQ w p s)(hi:Sy.In n s)(hn:n<=999)(hk:Sy.Ok s)(hc:lu w b o c)(hcb2:¬p.C b)(hcs:jK c):Calls prog 32 #[.pointer p.gs,.pointer (some ⟨b,o,none⟩)] w (mD p (Sy.call s c) w):=by
 have hA:=aL h;obtain⟨R,hR⟩:∃R,R=Sy.call s c:=⟨_,rfl⟩;rw[<-hR];have x:=aL hR;clear hR;have k:=hA.out.plus (.cells #[(0:Int),(0:Int),Qs.e,()] 43);have t:=(aa w w).alloc aR (.cells #[(0:Int),(0:Int),Qs.e,()] 43);have y:=ai.new w 43 [(0:Int),(0:Int),Qs.e,()];have hc0:=hc.below t;have HK:=aL hk;have HI:=aL hi;have E:=aL hcs;clear h hi hk hcs;go_enter func32,ntmps32;go_upto_region 1 with fail
 generalize w.alloc (.cells #[(0:Int),(0:Int),Qs.e,()] 43)=F at*;have A:=aL hc0;clear hc0;have z:=y.four;obtain⟨B,S,U,V,Y,c4,Z,c6,Q,M⟩:=A.out
 by_cases D:c.kind<1\/16<c.kind
 ·have m:=aL (x.out.trans (Sy.Px D))
  have L:decide (c.kind<1)=true\/(decide (c.kind<1)=false/\decide (16<c.kind)=true):=by
   rcases si (c.kind<1)with q|q
   ·exact .inl (fw q)
   exact .inr ⟨bN q,fw (D.resolve_left q)⟩
  clear x
  rcases L with L|⟨L,tm⟩
  all_goals
   go_wp2_with fail;refine aD (v:= .agg #[(1:Int),(0:Int),Qs.e,()]) ?_ rfl ?_
   ·simp[results,results32,go_sem,z]
   rw[m.out];exact aN (a:=(.no 1)) aR k rfl rfl (Fr.of t) (Sub.refl _ _) rfl
 have tn1:decide (c.kind<1)=false:=bN λq=>D (.inl q)
 have tn2:decide (16<c.kind)=false:=bN λq=>D (.inr q)
 by_cases K:c.owner<0\/4<=c.owner
 ·have m:=aL (x.out.trans (Sy.KO D K))
  have L:decide (c.owner<0)=true\/(decide (c.owner<0)=false/\decide (4<=c.owner)=true):=by
   rcases si (c.owner<0)with q|q
   ·exact .inl (fw q)
   exact .inr ⟨bN q,fw (K.resolve_left q)⟩
  clear x
  rcases L with L|⟨L,tm⟩
  all_goals
   go_wp2_with fail;refine aD (v:= .agg #[(3:Int),(0:Int),Qs.e,()]) ?_ rfl ?_
   ·simp[results,results32,go_sem,z]
   rw[m.out];exact aN (a:=(.no 3)) aR k rfl rfl (Fr.of t) (Sub.refl _ _) rfl
 have tn3:decide (c.owner<0)=false:=bN λq=>K (.inl q)
 have tn4:decide (4<=c.owner)=false:=bN λq=>K (.inr q)
 have ho0:0<=c.owner:=by omega
 have dI:c.owner<4:=by omega
 have j:=aL (And.intro ho0 dI);have HKR:=aL (show 1<=c.kind/\c.kind<=16 by omega)
 clear D K ho0 dI
 by_cases g:c.kind=1
 ·have m:=aL (x.out.trans (Sy.Ou g j.out.1 j.out.2))
  have u:=EI (p.plus w) s n b o c F k HI.out hn HK.out A.out hcb2 E.out j.out.1 j.out.2;generalize Sy.callOpen s c=r at u m;clear x;have W:(c.kind==1)=true:=by simp[g]
  have O:(c.kind==6)=false:=by simp[g]
  have t10:(c.kind==10)=false:=by simp[g]
  have N:(c.kind==7)=false:=by simp[g]
  have t8:(c.kind==8)=false:=by simp[g]
  have t9:(c.kind==9)=false:=by simp[g]
  have t11:(c.kind==11)=false:=by simp[g]
  have t12:(c.kind==12)=false:=by simp[g]
  clear g;go_wp2_with fail;refine u.mono ?_
  intro e w6 I;obtain⟨G,H,rfl,l,i⟩:=iT aR (Fr.of t:Fr p.C w F) I;clear z B S U V Y c4 Z c6 Q M;have z:=(y.Jr k l).four;go_wp2_with fail;refine aD (v:= .agg #[r.2.err,r.2.n,r.2.text,.slice G r.2.names.length H]) ?_ rfl ?_
  ·simp[results,results32,go_sem,z]
  rw[m.out];exact i
 have W:(c.kind==1)=false:=by simp only[fq];exact λq=>g q
 have HN1:=aL g;clear g
 by_cases g:c.kind=6\/c.kind=10
 ·have m:=aL (x.out.trans (Sy.F_ g j.out.1 j.out.2))
  have u:=KF (p.plus w) s b o c F k HK.out A.out E.out;generalize Sy.create s c=r at u m;clear x
  rcases g with g|g
  focus
   have W:(c.kind==1)=false:=by simp[g]
   have O:(c.kind==6)=true:=by simp[g]
   have t10:(c.kind==10)=false:=by simp[g]
  rotate_left
  focus
   have W:(c.kind==1)=false:=by simp[g]
   have O:(c.kind==6)=false:=by simp[g]
   have t10:(c.kind==10)=true:=by simp[g]
  all_goals
   have N:(c.kind==7)=false:=by simp[g]
   have t8:(c.kind==8)=false:=by simp[g]
   have t9:(c.kind==9)=false:=by simp[g]
   have t11:(c.kind==11)=false:=by simp[g]
   have t12:(c.kind==12)=false:=by simp[g]
   clear g;go_wp2_with fail;refine u.mono ?_
   intro e w6 I;obtain⟨G,H,rfl,l,i⟩:=iT aR (Fr.of t:Fr p.C w F) I;clear z B S U V Y c4 Z c6 Q M;have z:=(y.Jr k l).four;go_wp2_with fail;refine aD (v:= .agg #[r.2.err,r.2.n,r.2.text,.slice G r.2.names.length H]) ?_ rfl ?_
   ·simp[results,results32,go_sem,z]
   rw[m.out];exact i
 have O:(c.kind==6)=false:=by simp only[fq];exact λq=>g (.inl q)
 have t10:(c.kind==10)=false:=by simp only[fq];exact λq=>g (.inr q)
 have HN6:=aL g;clear g
 by_cases g:c.kind=7\/c.kind=8
 ·have m:=aL (x.out.trans (Sy.Gf g j.out.1 j.out.2))
  have u:=EF (p.plus w) s n b o c F k HI.out (by omega) HK.out A.out E.out g
  generalize Sy.remove s c=r at u m;clear x
  rcases g with g|g
  all_goals
   have W:(c.kind==1)=false:=by simp[g]
   have O:(c.kind==6)=false:=by simp[g]
   have t10:(c.kind==10)=false:=by simp[g]
  focus
   have N:(c.kind==7)=true:=by simp[g]
   have t8:(c.kind==8)=false:=by simp[g]
  rotate_left
  focus
   have N:(c.kind==7)=false:=by simp[g]
   have t8:(c.kind==8)=true:=by simp[g]
  all_goals
   have t9:(c.kind==9)=false:=by simp[g]
   have t11:(c.kind==11)=false:=by simp[g]
   have t12:(c.kind==12)=false:=by simp[g]
   clear g;go_wp2_with fail;refine u.mono ?_
   intro e w6 I;obtain⟨G,H,rfl,l,i⟩:=iT aR (Fr.of t:Fr p.C w F) I;clear z B S U V Y c4 Z c6 Q M;have z:=(y.Jr k l).four;go_wp2_with fail;refine aD (v:= .agg #[r.2.err,r.2.n,r.2.text,.slice G r.2.names.length H]) ?_ rfl ?_
   ·simp[results,results32,go_sem,z]
   rw[m.out];exact i
 have N:(c.kind==7)=false:=by simp only[fq];exact λq=>g (.inl q)
 have t8:(c.kind==8)=false:=by simp only[fq];exact λq=>g (.inr q)
 have HN7:=aL g;clear g
 by_cases g:c.kind=9
 ·have m:=aL (x.out.trans (Sy.Gg g j.out.1 j.out.2))
  have u:=KI (p.plus w) s n b o c F k HI.out (by omega) HK.out A.out E.out
  generalize Sy.rename s c=r at u m;clear x;have W:(c.kind==1)=false:=by simp[g]
  have O:(c.kind==6)=false:=by simp[g]
  have t10:(c.kind==10)=false:=by simp[g]
  have N:(c.kind==7)=false:=by simp[g]
  have t8:(c.kind==8)=false:=by simp[g]
  have t9:(c.kind==9)=true:=by simp[g]
  have t11:(c.kind==11)=false:=by simp[g]
  have t12:(c.kind==12)=false:=by simp[g]
  clear g;go_wp2_with fail;refine u.mono ?_
  intro e w6 I;obtain⟨G,H,rfl,l,i⟩:=iT aR (Fr.of t:Fr p.C w F) I;clear z B S U V Y c4 Z c6 Q M;have z:=(y.Jr k l).four;go_wp2_with fail;refine aD (v:= .agg #[r.2.err,r.2.n,r.2.text,.slice G r.2.names.length H]) ?_ rfl ?_
  ·simp[results,results32,go_sem,z]
  rw[m.out];exact i
 have t9:(c.kind==9)=false:=by simp only[fq];exact λq=>g q
 have HN9:=aL g;clear g
 by_cases g:c.kind=11\/c.kind=12
 ·have m:=aL (x.out.trans (Sy.Ov g j.out.1 j.out.2))
  have u:=RQ (p.plus w) s b o c F k HK.out A.out E.out;generalize (s,Sy.tell s c)=r at u m;clear x
  rcases g with g|g
  all_goals
   have W:(c.kind==1)=false:=by simp[g]
   have O:(c.kind==6)=false:=by simp[g]
   have t10:(c.kind==10)=false:=by simp[g]
   have N:(c.kind==7)=false:=by simp[g]
   have t8:(c.kind==8)=false:=by simp[g]
   have t9:(c.kind==9)=false:=by simp[g]
  focus
   have t11:(c.kind==11)=true:=by simp[g]
   have t12:(c.kind==12)=false:=by simp[g]
  rotate_left
  focus
   have t11:(c.kind==11)=false:=by simp[g]
   have t12:(c.kind==12)=true:=by simp[g]
  all_goals
   clear g;go_wp2_with fail;refine u.mono ?_
   intro e w6 I;obtain⟨G,H,rfl,l,i⟩:=iT aR (Fr.of t:Fr p.C w F) I;clear z B S U V Y c4 Z c6 Q M;have z:=(y.Jr k l).four;go_wp2_with fail;refine aD (v:= .agg #[r.2.err,r.2.n,r.2.text,.slice G r.2.names.length H]) ?_ rfl ?_
   ·simp[results,results32,go_sem,z]
   rw[m.out];exact i
 have t11:(c.kind==11)=false:=by simp only[fq];exact λq=>g (.inl q)
 have t12:(c.kind==12)=false:=by simp only[fq];exact λq=>g (.inr q)
 have ach:=aL g;clear g;have g:(2<=c.kind/\c.kind<=5)\/(13<=c.kind/\c.kind<=16):=by
  have q1:=HN1.out;have q2:=HN6.out;have q3:=HN7.out;have q4:=HN9.out;have q5:=ach.out;have q6:=HKR.out;omega
 have m:=aL (x.out.trans (Sy.yY g j.out.1 j.out.2));have u:=use_any (p.plus w) s n b o c F k HI.out hn HK.out A.out hcb2 E.out j.out.1 j.out.2;generalize Sy.use s c=r at u m;clear x g;go_wp2_with fail;refine u.mono ?_
 intro e w6 I;obtain⟨G,H,rfl,l,i⟩:=iT aR (Fr.of t:Fr p.C w F) I;clear z B S U V Y c4 Z c6 Q M;have z:=(y.Jr k l).four;go_wp2_with fail;refine aD (v:= .agg #[r.2.err,r.2.n,r.2.text,.slice G r.2.names.length H]) ?_ rfl ?_
 ·simp[results,results32,go_sem,z]
 rw[m.out];exact i
end Go.Proofs.YtjppfhgkanbemabGreatDoor
