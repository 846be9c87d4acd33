/- A part of the proof of SysTells: RD. -/
import Derived.Test.YtjppfhgkanbemabGreatDoorRC
set_option maxHeartbeats 3000000
set_option maxRecDepth 100000
set_option linter.all false
namespace Go.Proofs.YtjppfhgkanbemabGreatDoor
open Tryz
open Go.RowKit Go.Shelf Go.Sort
theorem Rw.VU{r:Rw}{c:Ca}(h:c.fd<0\/8<=c.fd):Rw.use r c=(r,.no 6):=by unfold Rw.use;rw[aM h]
theorem Rw.TN{r:Rw}{o k:Nat}{ck cn cm:Int}{cp ct cx:ByteArray}{ca:Bool}(h:Rw.fdAt r o k=none)(h0:0<=(k:Int))(h8:(k:Int)<8):Rw.use r ⟨ck,o,k,cn,cm,cp,ct,cx,ca⟩=(r,.no 6):=by
 unfold Rw.use;rw[av (by show¬((k:Int)<0\/8<=(k:Int));omega)]
 dsimp only;rw[mH,mH,h]
theorem Rw.mQ{r:Rw}{c:Ca}:∀d,Rw.fdAt r c.owner.toNat c.fd.toNat=some d->0<=c.fd->c.fd<8->Rw.use r c=if c.kind=2 then Rw.callClose r c.owner.toNat c.fd.toNat d else if c.kind=13 then Rw.callDup r c.owner.toNat d else if c.kind=5 then Rw.callSeek r d c.n else if c.kind=14\/c.kind=15 then Rw.callLock r c (Rw.deAt r d).o else if c.kind=3 then Rw.callRead r c d else Rw.callWrite r c d:=λd a e b=>by
 unfold Rw.use;rw[av (by omega),a]
theorem LH(p:Rl)(r:Rw)(c:Ca)(w:World)(h:aO w p r)(hk:jr r)(hcs:jK c)(ho0:0<=c.owner)(dI:c.owner<4)(hv:(c.fd<0\/8<=c.fd\/Rw.fdAt r c.owner.toNat c.fd.toNat=none))(h0:True):Calls prog 100 #[.pointer p.g,.agg #[c.kind,c.owner,c.fd,c.n,c.m,c.path,c.to,c.text,c.alone]] w (iJ p (Rw.use r c) w):=by
 obtain⟨R,hR⟩:∃R,R=Rw.use r c:=⟨_,rfl⟩;rw[<-hR];have l:=Rw.mQ (r:=r) (c:=c);obtain⟨V,co,cf,W,S,Y,Z,cx,U⟩:=c;dsimp only at ho0 dI hcs l hv h0 ⊢;obtain⟨B,rfl⟩:∃m:Nat,co=m:=⟨co.toNat,by omega⟩
 have HR:=aL hR;have t:=aL l;have HK:=aL hk;have hcx:cx.size<=1048576:=hcs.2.2;have kZ:B<4:=by omega
 have hga:w.heap.size<=w.heap.size+1:=by omega
 have hgs:p.g<w:=h.bz h.rH;have uu:=aL (λk (hk:p.C k)=>h.bz hk)
 have hbg:p.g≠w.heap.size:=by omega
 have EG:w.heap.size≠p.g:=by omega
 have hB0:=((aa w w).alloc aR (.cells #[V,B,cf,W,S,Y,Z,cx,U] 24)).alloc (((aa w w).alloc aR (.cells #[V,B,cf,W,S,Y,Z,cx,U] 24)).size) (.cells #[(0:Int),(0:Int),Qs.e,()] 43);have o:=(h.below ((aa w w).alloc aR (.cells #[V,B,cf,W,S,Y,Z,cx,U] 24))).plus (.cells #[(0:Int),(0:Int),Qs.e,()] 43);have E:=ai.new (w.alloc (.cells #[V,B,cf,W,S,Y,Z,cx,U] 24)) 43 [(0:Int),(0:Int),Qs.e,()];have I:=(ai.new w 24 [V,B,cf,W,S,Y,Z,cx,U]).alloc (.cells #[(0:Int),(0:Int),Qs.e,()] 43);rw[bX]at o E;have HV:=aL hv;have Ag:=aL h0;clear hR hk hcs h ho0 dI l hv h0;go_enter func100,ntmps100;go_upto_region 1 with fail
 generalize (w.alloc (.cells #[V,B,cf,W,S,Y,Z,cx,U] 24)).alloc (.cells #[(0:Int),(0:Int),Qs.e,()] 43)=w0 at*;have y:=E.four;have z:=I.nine
 by_cases u:cf<0\/8<=cf
 ·have HF:=aL (HR.out.trans (Rw.VU u))
  have tn:decide (cf<0)=true\/(decide (cf<0)=false/\decide (7<cf)=true):=by
   rcases si (cf<0)with q|q
   ·exact .inl (fw q)
   exact .inr ⟨bN q,fw (by have:=u.resolve_left q;omega)⟩
  clear HR u t
  rcases tn with tn|⟨tn,tm⟩
  all_goals
   refine eO (by kernel_rfl) (by kernel_rfl) ?_
   repeat(first|go_big_quiet_step (fail)|quiet_step (fail))
   refine ic ?_
   intro G H;obtain⟨F,b⟩:=H;have L:aO G (p.plus (w.heap.size+1)) r:=by rw[b];exact o.below (below_drewN (aa _ _) F)
   have K:Below w w G:=by rw[b];exact below_drewN hB0 F
   have i:=E.drewN F;have D:=I.drewN F;rw[<-b]at i D;clear b y z;have y:=i.four;have z:=D.nine;go_wp2_with fail;refine(aA 6 _).mono ?_
   rintro e9 w9 ⟨rfl,j⟩;have M:=L.below j;have O:=i.below j i.lt;have N:=(Fr.of K:Fr p.C w G).bf j;clear y;have y:=O.four;go_wp2_with fail;refine aD (v:= .agg #[(6:Int),(0:Int),Qs.e,()]) ?_ rfl ?_
   ·simp[results,results100,go_sem,y]
   rw[HF.out];exact aZ (a:=(.no 6)) hga M rfl rfl N (Sub.refl _ _) rfl
 have hfN:=u;obtain⟨Q,rfl⟩:∃m:Nat,cf=m:=⟨cf.toNat,by omega⟩
 have hk8:Q<8:=by omega
 have tn:decide ((Q:Int)<0)=false:=bN (by omega)
 have tm:decide (7<(Q:Int))=false:=bN (by omega)
 have Nw:(0:Int)<=(B:Int):=gD _;have ib2:(B:Int)<4:=by omega
 have WL:(0:Int)<=(Q:Int):=gD _;have WM:(Q:Int)<8:=by omega
 have hfd:=o.VL HK.out kZ hk8;have hgz:p.g<w0:=o.bz o.rH;clear u;obtain⟨fo,A⟩:∃x,x=Rw.fdAt r B Q:=⟨_,rfl⟩;rw[<-A,show(Rl.plus p (w.heap.size+1)).g=p.g from rfl]at hfd
 rcases fo with _|d
 ·have HF:Hid (R=(r,.no 6)):=aL (HR.out.trans (Rw.TN A.symm (by omega) (by omega)))
  rw[show tC none= .int .i64 (-1)from rfl]at hfd
  clear HR A t;refine eO (by kernel_rfl) (by kernel_rfl) ?_
  repeat(first|go_big_quiet_step (fail)|quiet_step (fail))
  refine ic ?_
  intro G H;obtain⟨F,b⟩:=H;have L:aO G (p.plus (w.heap.size+1)) r:=by rw[b];exact o.below (below_drewN (aa _ _) F)
  have K:Below w w G:=by rw[b];exact below_drewN hB0 F
  have i:=E.drewN F;have D:=I.drewN F;rw[<-b]at i D;clear b y z;have y:=i.four;have z:=D.nine;go_wp2_with fail;refine(aA 6 _).mono ?_
  rintro e9 w9 ⟨rfl,j⟩;have M:=L.below j;have O:=i.below j i.lt;have N:=(Fr.of K:Fr p.C w G).bf j;clear y;have y:=O.four;go_wp2_with fail;refine aD (v:= .agg #[(6:Int),(0:Int),Qs.e,()]) ?_ rfl ?_
  ·simp[results,results100,go_sem,y]
  rw[HF.out];exact aZ (a:=(.no 6)) hga M rfl rfl N (Sub.refl _ _) rfl
 exact absurd (HV.out.resolve_left (λq=>hfN (.inl q))) (λq=>q.elim (λq=>hfN (.inr q)) λq=>by
  have e:Rw.fdAt r B Q=none:=q;rw[e]at A;cases A)
theorem I5(p:Rl)(r:Rw)(c:Ca)(w:World)(h:aO w p r)(hk:jr r)(hcs:jK c)(ho0:0<=c.owner)(dI:c.owner<4)(hv:¬(c.fd<0\/8<=c.fd\/Rw.fdAt r c.owner.toNat c.fd.toNat=none))(h0:c.kind=13\/c.kind=5):Calls prog 100 #[.pointer p.g,.agg #[c.kind,c.owner,c.fd,c.n,c.m,c.path,c.to,c.text,c.alone]] w (iJ p (Rw.use r c) w):=by
 obtain⟨R,hR⟩:∃R,R=Rw.use r c:=⟨_,rfl⟩;rw[<-hR];have B:=Rw.mQ (r:=r) (c:=c);obtain⟨t,co,cf,j,cm,cp,ct,cx,ca⟩:=c;dsimp only at ho0 dI hcs B hv h0 ⊢;obtain⟨i,rfl⟩:∃m:Nat,co=m:=⟨co.toNat,by omega⟩
 have l:=aL hR;have I:=aL B;have HK:=aL hk;have hcx:cx.size<=1048576:=hcs.2.2;have A:i<4:=by omega
 have hga:w.heap.size<=w.heap.size+1:=by omega
 have hgs:p.g<w:=h.bz h.rH;have uu:=aL (λk (hk:p.C k)=>h.bz hk)
 have hbg:p.g≠w.heap.size:=by omega
 have EG:w.heap.size≠p.g:=by omega
 have hB0:=((aa w w).alloc aR (.cells #[t,i,cf,j,cm,cp,ct,cx,ca] 24)).alloc (((aa w w).alloc aR (.cells #[t,i,cf,j,cm,cp,ct,cx,ca] 24)).size) (.cells #[(0:Int),(0:Int),Qs.e,()] 43);have F:=(h.below ((aa w w).alloc aR (.cells #[t,i,cf,j,cm,cp,ct,cx,ca] 24))).plus (.cells #[(0:Int),(0:Int),Qs.e,()] 43);have hz0:=ai.new (w.alloc (.cells #[t,i,cf,j,cm,cp,ct,cx,ca] 24)) 43 [(0:Int),(0:Int),Qs.e,()];have hc0:=(ai.new w 24 [t,i,cf,j,cm,cp,ct,cx,ca]).alloc (.cells #[(0:Int),(0:Int),Qs.e,()] 43);rw[bX]at F hz0;have HV:=aL hv;have Ag:=aL h0;clear hR hk hcs h ho0 dI B hv h0;go_enter func100,ntmps100;go_upto_region 1 with fail
 generalize (w.alloc (.cells #[t,i,cf,j,cm,cp,ct,cx,ca] 24)).alloc (.cells #[(0:Int),(0:Int),Qs.e,()] 43)=w0 at*;have z:=hz0.four;obtain⟨c0,c1,c2,c3,c4,c5,c6,c7,c8⟩:=hc0.nine;have hf0:¬(cf<0\/8<=cf):=λq=>HV.out (q.elim .inl λq=> .inr (.inl q))
 obtain⟨U,rfl⟩:∃m:Nat,cf=m:=⟨cf.toNat,by omega⟩
 have hk8:U<8:=by omega
 have tn:decide ((U:Int)<0)=false:=bN (by omega)
 have tm:decide (7<(U:Int))=false:=bN (by omega)
 have Nw:(0:Int)<=(i:Int):=gD _;have ib2:(i:Int)<4:=by omega
 have WL:(0:Int)<=(U:Int):=gD _;have WM:(U:Int)<8:=by omega
 have Z:=F.VL HK.out A hk8;have hgz:p.g<w0:=F.bz F.rH;clear hf0;obtain⟨fo,Q⟩:∃x,x=Rw.fdAt r i U:=⟨_,rfl⟩;rw[<-Q,show(Rl.plus p (w.heap.size+1)).g=p.g from rfl]at Z
 rcases fo with _|d
 ·exact absurd (.inr (.inr Q.symm)) HV.out
 rw[show tC (some d)= .int .i64 (d:Int)from rfl]at Z
 have Ny:=aL Q.symm;have l:=aL (show R=if t=2 then Rw.callClose r i U d else if t=13 then Rw.callDup r i d else if t=5 then Rw.callSeek r d j else if t=14\/t=15 then Rw.callLock r ⟨t,i,U,j,cm,cp,ct,cx,ca⟩ (Rw.deAt r d).o else if t=3 then Rw.callRead r ⟨t,i,U,j,cm,cp,ct,cx,ca⟩ d else Rw.callWrite r ⟨t,i,U,j,cm,cp,ct,cx,ca⟩ d from l.out.trans (I.out d Q.symm (by omega) (by omega)))
 have td:decide ((d:Int)<0)=false:=bN (by omega)
 have hdl:d<r.des.length:=HK.out.ZL A hk8 Ny.out;clear Q I;refine eO (by kernel_rfl) (by kernel_rfl) ?_
 repeat(first|go_big_quiet_step (fail)|quiet_step (fail))
 refine ic ?_
 intro w1 hw';obtain⟨nq,b⟩:=hw';have hA1:aO w1 (p.plus (w.heap.size+1)) r:=by rw[b];exact F.below (below_drewN (aa _ _) nq)
 have hB1:Below w w w1:=by rw[b];exact below_drewN hB0 nq
 have hz1:=hz0.drewN nq;have hc1:=hc0.drewN nq;rw[<-b]at hz1 hc1;have hfd1:w1.cell? ⟨p.g,5+i*8+U,none⟩=some (.int .i64 (d:Int)):=by rw[b];exact Z
 clear b z c0 c1 c2 c3 c4 c5 c6 c7 c8;have sV:p.g<w1:=hA1.bz hA1.rH;clear Z hgz F hB0 hz0 hc0;have z:=hz1.four;obtain⟨c0,c1,c2,c3,c4,c5,c6,c7,c8⟩:=hc1.nine;go_upto_region 3 with fail
 refine eO (by kernel_rfl) (by kernel_rfl) ?_
 repeat(first|go_big_quiet_step (fail)|quiet_step (fail))
 refine ic ?_
 intro w2 hw';obtain⟨nq,b⟩:=hw';have M:aO w2 (p.plus (w.heap.size+1)) r:=by rw[b];exact hA1.below (below_drewN (aa _ _) nq)
 have hB2:Below w w w2:=by rw[b];exact below_drewN hB1 nq
 have Y:=hz1.drewN nq;have S:=hc1.drewN nq;rw[<-b]at Y S;clear b z c0 c1 c2 c3 c4 c5 c6 c7 c8;clear hfd1 sV hA1 hB1 hz1 hc1 tn tm td;have z:=Y.four;obtain⟨c0,c1,c2,c3,c4,c5,c6,c7,c8⟩:=S.nine;have hdF:=HK.out.ZM hdl;obtain⟨di,hdi⟩:∃y,y=(Rw.deAt r d).o:=⟨_,rfl⟩;obtain⟨Jv,N⟩:∃y,y=(Rw.deAt r d).fl:=⟨_,rfl⟩;obtain⟨dat,H⟩:∃y,y=(Rw.deAt r d).at_:=⟨_,rfl⟩
 rw[<-hdi,<-N,<-H]at hdF;obtain⟨hdo,TP,TQ,E_,Fa⟩:=hdF;have Dv:=aL hdi.symm;have NM:=aL N.symm;have LJ:=aL H.symm;clear hdi N H;have TR:(0:Int)<=(d:Int):=gD _;have TS:(d:Int)<(r.des.length:Int):=by omega
 obtain⟨bD,cD,rX,V,VT,q0,q1,q2,qf⟩:=M.dec hdl;rw[Dv.out]at q0;rw[NM.out]at q1;rw[LJ.out]at q2;obtain⟨_,_,_,_,_,_,_,_,_,_,g4,_,_,_,_,nM⟩:=M.cells;rw[rX]at g4;have cX:=λW q=>h_ (p.plus (w.heap.size+1)) r di W q hdo (by have:=HK.out.tl;omega)
 have htz:=HK.out.tx di;obtain⟨tx,htx⟩:∃tx,tx=Rw.textOf r di:=⟨_,rfl⟩;rw[<-htx]at cX htz;have Ui:=aL htx.symm;clear htx;go_upto_region 4 with fail
 go_wp2_with fail;refine(cX _ M).mono ?_
 rintro e w4 ⟨rfl,L⟩;have u:=M.below L;have E:=Y.below L Y.lt;have hc4:=S.below L S.lt;have hB4:=hB2.trans (L.mono hB2.size);have r0:=(L.cell (p:=⟨bD,d*3,none⟩) V).trans q0;have r1:=(L.cell (p:=⟨bD,d*3+1,none⟩) V).trans q1;have r2:=(L.cell (p:=⟨bD,d*3+2,none⟩) V).trans q2;have I7:=bE V L.size;have BA:bD≠w.heap.size+1:=u.ZN rX;have I4:=aL rX;clear z c0 c1 c2 c3 c4 c5 c6 c7 c8 M Y S hB2 L q0 q1 q2 qf g4 cX nM V rX;have z:=E.four;obtain⟨c0,c1,c2,c3,c4,c5,c6,c7,c8⟩:=hc4.nine;have qf:=u.Um I4.out;go_upto_region 6 with fail
 cases t2:t==2
 rotate_left
 ·exact absurd (show t=2 by simpa using t2) (by have:=Ag.out;omega)
 have l:=aL (l.out.trans (av (by simpa using t2)))
 cases t13:t==13
 rotate_left
 ·have l:=aL (l.out.trans (aM (by simpa using t13)))
  unfold Rw.callDup at l;have Pv:=u.free HK.out A;have Ju:=aL (λk=>HK.out.uI (k:=k) A)
  generalize Rw.free r i=fr at Pv l Ju;go_wp2_with fail;refine Pv.mono ?_
  rintro e w4 ⟨rfl,rfl⟩
  rcases fr with _|k
  ·have HF:Hid (R=(r,.no 5)):=aL l.out
   have tl:((((none:Option Nat).getD 8:Nat):Int)==8)=true:=rfl;clear l;go_wp2_with fail;refine(aA 5 _).mono ?_
   rintro e9 w9 ⟨rfl,D⟩;have oq:=u.below D;have pg:=E.below D E.lt;have lW:=(Fr.of hB4:Fr p.C w w4).bf D;clear z;have z:=pg.four;go_wp2_with fail;refine aD (v:= .agg #[(5:Int),(0:Int),Qs.e,()]) ?_ rfl ?_
   ·simp[results,results100,go_sem,z]
   rw[HF.out];exact aZ (a:=(.no 5)) hga oq rfl rfl lW (Sub.refl _ _) rfl
  have hk9:=Ju.out k rfl;have HF:Hid (R=(Rw.setFd r i k (some d),.num k)):=aL l.out;rw[show(((some k:Option Nat).getD 8:Nat):Int)=(k:Int)from rfl]
  have tl:((k:Int)==8)=false:=by simp only[fq];omega
  have ic1:(0:Int)<=(k:Int):=gD _;have ic2:(k:Int)<8:=by omega
  have G:=u.setFd HK.out.fdr (o:=i) (k:=k) hk9 (some d);rw[show tC (some d)= .int .i64 (d:Int)from rfl,show(Rl.plus p (w.heap.size+1)).g=p.g from rfl]at G
  have O:=E.far (p:=⟨p.g,5+i*8+k,none⟩) (show w.heap.size+1≠p.g by omega) (.int .i64 (d:Int))
  have K:Fr p.C w (w4.setCell ⟨p.g,5+i*8+k,none⟩ (.int .i64 (d:Int))):=Fr.setCell (Fr.of hB4) (p:=⟨p.g,5+i*8+k,none⟩) (.inl rfl) _;have hcf:=u.VL HK.out A hk9;rw[show(Rl.plus p (w.heap.size+1)).g=p.g from rfl]at hcf
  have TM:∀q,w4.frozen? ⟨p.g,q,none⟩=false:=by obtain⟨cs,L⟩:=u.blk;exact L.frozen
  go_upto_region 46 with fail
  go_region_held3 (λW=>W.cell? ⟨w.heap.size,1,none⟩=some (.int .i64 i)) (first|go_keep|exact c1) (fail)
  all_goals
   have G:=G.below (aa _ _).drew;have O:=O.drew;have K:=K.bf (aa _ _).drew;generalize (w4.setCell ⟨p.g,5+i*8+k,none⟩ (.int .i64 (d:Int))).drew=w5 at*;clear z c0 c1 c2 c3 c4 c5 c6 c7 c8 hcf TM;have z:=O.four;go_wp2_with fail;refine aD (v:= .agg #[(0:Int),k,Qs.e,()]) ?_ rfl ?_
   ·simp[results,results100,go_sem,z]
   rw[HF.out];exact aZ (a:=⟨0,(k:Int),⟨#[]⟩,[]⟩) hga G rfl rfl K (Sub.refl _ _) rfl
 have l:=aL (l.out.trans (av (by simpa using t13)))
 cases t5:t==5
 rotate_left
 ·have l:=aL (l.out.trans (aM (by simpa using t5)))
  unfold Rw.callSeek at l
  by_cases hr:j<0\/1000<j
  ·have HF:=aL (l.out.trans (aM hr))
   have tn:decide (j<0)=true\/(decide (j<0)=false/\decide (1000<j)=true):=by
    rcases si (j<0)with q|q
    ·exact .inl (fw q)
    exact .inr ⟨bN q,fw (hr.resolve_left q)⟩
   clear l hr
   rcases tn with tn|⟨tn,tm⟩
   all_goals
    go_wp2_with fail;refine(aA 3 _).mono ?_
    rintro e9 w9 ⟨rfl,D⟩;have oq:=u.below D;have pg:=E.below D E.lt;have lW:=(Fr.of hB4:Fr p.C w w4).bf D;clear z;have z:=pg.four;go_wp2_with fail;refine aD (v:= .agg #[(3:Int),(0:Int),Qs.e,()]) ?_ rfl ?_
    ·simp[results,results100,go_sem,z]
    rw[HF.out];exact aZ (a:=(.no 3)) hga oq rfl rfl lW (Sub.refl _ _) rfl
  have HF:=aL (l.out.trans (av hr));have tn:decide (j<0)=false:=bN λq=>hr (.inl q)
  have tm:decide (1000<j)=false:=bN λq=>hr (.inr q)
  clear hr l;have G:=u.setAt I4.out d j;have O:=E.far (p:=⟨bD,d*3+2,none⟩) (λe=>BA (GA e)) (.int .i64 j)
  have K:Fr p.C w (w4.setCell ⟨bD,d*3+2,none⟩ (.int .i64 j)):=Fr.setCell (Fr.of hB4) (p:=⟨bD,d*3+2,none⟩) (.inr (.inr (by show p.vD.ownBlock=_;rw[show p.vD=_ from I4.out];rfl))) _
  go_upto_region 75 with fail
  clear z c0 c1 c2 c3 c4 c5 c6 c7 c8 r0 r1 r2;generalize w4.setCell ⟨bD,d*3+2,none⟩ (.int .i64 j)=w5 at*;have z:=O.four;go_wp2_with fail;refine aD (v:= .agg #[(0:Int),(0:Int),Qs.e,()]) ?_ rfl ?_
  ·simp[results,results100,go_sem,z]
  rw[HF.out];exact aZ (a:= .ok) hga G rfl rfl K (Sub.refl _ _) rfl
 have l:=aL (l.out.trans (av (by simpa using t5)))
 exact absurd (show¬t=5 by simpa using t5) (by have:=Ag.out;have h13:¬t=13:=(by simpa using t13);omega)
theorem LM(p:Rl)(r:Rw)(c:Ca)(w:World)(h:aO w p r)(hk:jr r)(hcs:jK c)(ho0:0<=c.owner)(dI:c.owner<4)(hv:¬(c.fd<0\/8<=c.fd\/Rw.fdAt r c.owner.toNat c.fd.toNat=none))(h0:c.kind=14\/c.kind=15):Calls prog 100 #[.pointer p.g,.agg #[c.kind,c.owner,c.fd,c.n,c.m,c.path,c.to,c.text,c.alone]] w (iJ p (Rw.use r c) w):=by
 obtain⟨R,hR⟩:∃R,R=Rw.use r c:=⟨_,rfl⟩;rw[<-hR];have F:=Rw.mQ (r:=r) (c:=c);obtain⟨j,co,cf,E,H,cp,ct,cx,O⟩:=c;dsimp only at ho0 dI hcs F hv h0 ⊢;obtain⟨t,rfl⟩:∃m:Nat,co=m:=⟨co.toNat,by omega⟩
 have K:=aL hR;have S:=aL F;have HK:=aL hk;have hcx:cx.size<=1048576:=hcs.2.2;have kZ:t<4:=by omega
 have hga:w.heap.size<=w.heap.size+1:=by omega
 have hgs:p.g<w:=h.bz h.rH;have uu:=aL (λk (hk:p.C k)=>h.bz hk)
 have hbg:p.g≠w.heap.size:=by omega
 have EG:w.heap.size≠p.g:=by omega
 have hB0:=((aa w w).alloc aR (.cells #[j,t,cf,E,H,cp,ct,cx,O] 24)).alloc (((aa w w).alloc aR (.cells #[j,t,cf,E,H,cp,ct,cx,O] 24)).size) (.cells #[(0:Int),(0:Int),Qs.e,()] 43);have N:=(h.below ((aa w w).alloc aR (.cells #[j,t,cf,E,H,cp,ct,cx,O] 24))).plus (.cells #[(0:Int),(0:Int),Qs.e,()] 43);have hz0:=ai.new (w.alloc (.cells #[j,t,cf,E,H,cp,ct,cx,O] 24)) 43 [(0:Int),(0:Int),Qs.e,()];have hc0:=(ai.new w 24 [j,t,cf,E,H,cp,ct,cx,O]).alloc (.cells #[(0:Int),(0:Int),Qs.e,()] 43);rw[bX]at N hz0;have HV:=aL hv;have Ag:=aL h0;clear hR hk hcs h ho0 dI F hv h0;go_enter func100,ntmps100;go_upto_region 1 with fail
 generalize (w.alloc (.cells #[j,t,cf,E,H,cp,ct,cx,O] 24)).alloc (.cells #[(0:Int),(0:Int),Qs.e,()] 43)=w0 at*;have z:=hz0.four;obtain⟨c0,c1,c2,c3,c4,c5,c6,c7,c8⟩:=hc0.nine;have hf0:¬(cf<0\/8<=cf):=λq=>HV.out (q.elim .inl λq=> .inr (.inl q))
 obtain⟨km,rfl⟩:∃m:Nat,cf=m:=⟨cf.toNat,by omega⟩
 have hk8:km<8:=by omega
 have tn:decide ((km:Int)<0)=false:=bN (by omega)
 have tm:decide (7<(km:Int))=false:=bN (by omega)
 have Nw:(0:Int)<=(t:Int):=gD _;have ib2:(t:Int)<4:=by omega
 have WL:(0:Int)<=(km:Int):=gD _;have WM:(km:Int)<8:=by omega
 have hfd:=N.VL HK.out kZ hk8;have hgz:p.g<w0:=N.bz N.rH;clear hf0;obtain⟨fo,hfo⟩:∃x,x=Rw.fdAt r t km:=⟨_,rfl⟩;rw[<-hfo,show(Rl.plus p (w.heap.size+1)).g=p.g from rfl]at hfd
 rcases fo with _|d
 ·exact absurd (.inr (.inr hfo.symm)) HV.out
 rw[show tC (some d)= .int .i64 (d:Int)from rfl]at hfd
 have Ny:=aL hfo.symm;have K:=aL (show R=if j=2 then Rw.callClose r t km d else if j=13 then Rw.callDup r t d else if j=5 then Rw.callSeek r d E else if j=14\/j=15 then Rw.callLock r ⟨j,t,km,E,H,cp,ct,cx,O⟩ (Rw.deAt r d).o else if j=3 then Rw.callRead r ⟨j,t,km,E,H,cp,ct,cx,O⟩ d else Rw.callWrite r ⟨j,t,km,E,H,cp,ct,cx,O⟩ d from K.out.trans (S.out d hfo.symm (by omega) (by omega)))
 have td:decide ((d:Int)<0)=false:=bN (by omega)
 have hdl:d<r.des.length:=HK.out.ZL kZ hk8 Ny.out;clear hfo S;refine eO (by kernel_rfl) (by kernel_rfl) ?_
 repeat(first|go_big_quiet_step (fail)|quiet_step (fail))
 refine ic ?_
 intro w1 hw';obtain⟨nq,b⟩:=hw';have hA1:aO w1 (p.plus (w.heap.size+1)) r:=by rw[b];exact N.below (below_drewN (aa _ _) nq)
 have hB1:Below w w w1:=by rw[b];exact below_drewN hB0 nq
 have hz1:=hz0.drewN nq;have hc1:=hc0.drewN nq;rw[<-b]at hz1 hc1;have hfd1:w1.cell? ⟨p.g,5+t*8+km,none⟩=some (.int .i64 (d:Int)):=by rw[b];exact hfd
 clear b z c0 c1 c2 c3 c4 c5 c6 c7 c8;have sV:p.g<w1:=hA1.bz hA1.rH;clear hfd hgz N hB0 hz0 hc0;have z:=hz1.four;obtain⟨c0,c1,c2,c3,c4,c5,c6,c7,c8⟩:=hc1.nine;go_upto_region 3 with fail
 refine eO (by kernel_rfl) (by kernel_rfl) ?_
 repeat(first|go_big_quiet_step (fail)|quiet_step (fail))
 refine ic ?_
 intro w2 hw';obtain⟨nq,b⟩:=hw';have Y:aO w2 (p.plus (w.heap.size+1)) r:=by rw[b];exact hA1.below (below_drewN (aa _ _) nq)
 have hB2:Below w w w2:=by rw[b];exact below_drewN hB1 nq
 have hz2:=hz1.drewN nq;have hc2:=hc1.drewN nq;rw[<-b]at hz2 hc2;clear b z c0 c1 c2 c3 c4 c5 c6 c7 c8;clear hfd1 sV hA1 hB1 hz1 hc1 tn tm td;have z:=hz2.four;obtain⟨c0,c1,c2,c3,c4,c5,c6,c7,c8⟩:=hc2.nine;have hdF:=HK.out.ZM hdl;obtain⟨A,hdi⟩:∃y,y=(Rw.deAt r d).o:=⟨_,rfl⟩;obtain⟨Jv,Z⟩:∃y,y=(Rw.deAt r d).fl:=⟨_,rfl⟩;obtain⟨dat,Q⟩:∃y,y=(Rw.deAt r d).at_:=⟨_,rfl⟩
 rw[<-hdi,<-Z,<-Q]at hdF;obtain⟨hdo,TP,TQ,E_,Fa⟩:=hdF;have Dv:=aL hdi.symm;have NM:=aL Z.symm;have LJ:=aL Q.symm;clear hdi Z Q;have TR:(0:Int)<=(d:Int):=gD _;have TS:(d:Int)<(r.des.length:Int):=by omega
 obtain⟨V,cD,rX,hbD,VT,q0,q1,q2,qf⟩:=Y.dec hdl;rw[Dv.out]at q0;rw[NM.out]at q1;rw[LJ.out]at q2;obtain⟨_,_,_,_,_,_,_,_,_,_,g4,_,_,_,_,M⟩:=Y.cells;rw[rX]at g4;have cX:=λW q=>h_ (p.plus (w.heap.size+1)) r A W q hdo (by have:=HK.out.tl;omega)
 have htz:=HK.out.tx A;obtain⟨tx,htx⟩:∃tx,tx=Rw.textOf r A:=⟨_,rfl⟩;rw[<-htx]at cX htz;have Ui:=aL htx.symm;clear htx;go_upto_region 4 with fail
 go_wp2_with fail;refine(cX _ Y).mono ?_
 rintro e w4 ⟨rfl,B⟩;have D:=Y.below B;have jY:=hz2.below B hz2.lt;have G:=hc2.below B hc2.lt;have hB4:=hB2.trans (B.mono hB2.size);have r0:=(B.cell (p:=⟨V,d*3,none⟩) hbD).trans q0;have r1:=(B.cell (p:=⟨V,d*3+1,none⟩) hbD).trans q1;have r2:=(B.cell (p:=⟨V,d*3+2,none⟩) hbD).trans q2;have I7:=bE hbD B.size;have BA:V≠w.heap.size+1:=D.ZN rX;have I4:=aL rX;clear z c0 c1 c2 c3 c4 c5 c6 c7 c8 Y hz2 hc2 hB2 B q0 q1 q2 qf g4 cX M hbD rX;have z:=jY.four;obtain⟨c0,c1,c2,c3,c4,c5,c6,c7,c8⟩:=G.nine;have qf:=D.Um I4.out;go_upto_region 6 with fail
 cases t2:j==2
 rotate_left
 ·exact absurd (show j=2 by simpa using t2) (by have:=Ag.out;omega)
 have K:=aL (K.out.trans (av (by simpa using t2)))
 cases t13:j==13
 rotate_left
 ·exact absurd (show j=13 by simpa using t13) (by have:=Ag.out;omega)
 have K:=aL (K.out.trans (av (by simpa using t13)))
 cases t5:j==5
 rotate_left
 ·exact absurd (show j=5 by simpa using t5) (by have:=Ag.out;omega)
 have K:=aL (K.out.trans (av (by simpa using t5)))
 by_cases hkl:j=14\/j=15
 ·have K:=aL (K.out.trans (aM hkl))
  unfold Rw.callLock at K;dsimp only at K;obtain⟨I,cO,AO,cl,DK,hbO,YW,f0,f1,f2,hLO,hlc,ff⟩:=D.obc hdo;have VW:I≠w.heap.size+1:=D.neO DK;obtain⟨_,_,_,_,_,_,_,_,_,g3,_,_,_,_,_,M⟩:=D.cells;rw[DK]at g3;have NL:=aL DK;have hOD:I≠V:=D.abd DK I4.out;have hDO:V≠I:=λe=>hOD e.symm
  have acK:p.g≠I:=λe=>YW e.symm
  clear DK;have hob:=HK.out.obF hdo;have ie1:(0:Int)<=(A:Int):=gD _;have ie2:(A:Int)<(r.objs.length:Int):=by omega
  obtain⟨L,hL⟩:∃L,L=(Rw.obAt r A).l:=⟨_,rfl⟩;have U8:L.length<=40:=by rw[hL];exact hob.2.2
  rw[Dv.out,<-hL]at K;rw[<-hL]at f2 hLO hlc;clear hL hob;have HLO:=aL hLO;clear hLO;obtain⟨cb,hcb⟩:∃x:Bool,x=O:=⟨_,rfl⟩;have Jq:=aL K.out;rw[<-hcb]at Jq;clear K;obtain⟨how,u⟩:∃how:Int,how=if j=15 then 0 else Lk.way cb:=⟨_,rfl⟩
  have cS:=λW q=>Jb AO cl L ⟨t,E,H,cb⟩ how W q hlc (by omega) (by rw[u];split;exact .inl rfl;exact .inr ⟨_,rfl⟩)
  unfold TT at cS;have Jt:Hid (∀m err,nZ L ⟨t,E,H,cb⟩ how m err->(if j=15 then Lk.free L ⟨t,E,H,cb⟩else Lk.take L ⟨t,E,H,cb⟩)=(m,err)):=aL (λm err hq=>by
   rw[u]at hq
   split
   ·rename_i h;rw[aM h]at hq;exact IU hq
   rename_i h;rw[av h]at hq;exact IQ hq)
  dsimp only at cS;have tk:((j==14)=true/\O=false/\how=1)\/((j==14)=true/\O=true/\how=2)\/((j==14)=false/\(j==15)=true/\how=0):=by
   rcases hkl with q|q
   ·cases O
    ·exact .inl ⟨by rw[q];rfl,rfl,by rw[u,av (by omega),hcb];rfl⟩
    exact .inr (.inl ⟨by rw[q];rfl,rfl,by rw[u,av (by omega),hcb];rfl⟩)
   exact .inr (.inr ⟨by rw[q];rfl,by rw[q];rfl,by rw[u,aM q]⟩)
  have S6:∀W,Below w4 w4 W->(W.cell? ⟨p.g,3,none⟩=some (.slice I r.objs.length cO)/\W.cell? ⟨V,d*3,none⟩=some (.int .i64 A)/\W.cell? ⟨I,A*3+2,none⟩=some (.slice AO L.length cl)/\W.cell? ⟨w.heap.size,1,none⟩=some (.int .i64 t)/\W.cell? ⟨w.heap.size,3,none⟩=some (.int .i64 E)/\W.cell? ⟨w.heap.size,4,none⟩=some (.int .i64 H)/\W.cell? ⟨w.heap.size,8,none⟩=some (.bool cb)):=λW B=>⟨(B.cell (p:=⟨p.g,3,none⟩) M).trans g3,(B.cell (p:=⟨V,d*3,none⟩) I7).trans r0,(B.cell (p:=⟨I,A*3+2,none⟩) hbO).trans f2,(B.cell (p:=⟨w.heap.size,1,none⟩) G.lt).trans c1,(B.cell (p:=⟨w.heap.size,3,none⟩) G.lt).trans c3,(B.cell (p:=⟨w.heap.size,4,none⟩) G.lt).trans c4,(B.cell (p:=⟨w.heap.size,8,none⟩) G.lt).trans (by rw[hcb];exact c8)⟩
  clear u hkl hcb
  rcases tk with⟨u1,rfl,rfl⟩|⟨u1,rfl,rfl⟩|⟨u1,u2,rfl⟩
  all_goals
   have hbd:Below w4 w4 w4.drew:=(aa _ w4).drew;go_upto_region 59 with fail
   go_region_held3 (λW=>W.cell? ⟨p.g,3,none⟩=some (.slice I r.objs.length cO)/\W.cell? ⟨V,d*3,none⟩=some (.int .i64 A)/\W.cell? ⟨I,A*3+2,none⟩=some (.slice AO L.length cl)/\W.cell? ⟨w.heap.size,1,none⟩=some (.int .i64 t)/\W.cell? ⟨w.heap.size,3,none⟩=some (.int .i64 E)/\W.cell? ⟨w.heap.size,4,none⟩=some (.int .i64 H)/\W.cell? ⟨w.heap.size,8,none⟩=some (.bool cb)) (first|exact S6 _ (aa _ _)|exact S6 _ hbd|exact S6 _ i|go_keep) (first|(go_at_call 127;refine(cS w4.drew (HLO.out.on (Fr.of (X:=(p.plus (w.heap.size+1)).X) hbd) (Sub.refl _ _)).here).mono ?_;rintro e w6 ⟨v6,m,err,rfl,nz,hs6,hb6⟩;have i:Below w4 w4 w6:=hbd.trans hb6))
   all_goals
    have HS6:=aL (Jt.out m err hs6);have U:=aL Jq.out;rw[HS6.out]at U;dsimp only at U;obtain⟨A6,k6,rfl,hk6,AA⟩:=DJ nz (X:=(p.plus (w.heap.size+1)).X) (λk hk=>D.mX hk)
    have nG:=D.below i;have kW:=jY.below i jY.lt;have pI:=hB4.trans (i.mono hB4.size);have hcc:=G.below i G.lt;have r0:=(i.cell (p:=⟨V,d*3,none⟩) I7).trans r0;have g3:=(i.cell (p:=⟨p.g,3,none⟩) M).trans g3;have acL:=bE hbO i.size;clear z c0 c1 c2 c3 c4 c5 c6 c7 c8 Jt HS6 hs6 cS S6;have z:=kW.four
    cases te:err !=0
    rotate_left
    ·have HF:Hid (R=(r,.no err)):=aL (U.out.trans (by rw[av (by simpa using te)]))
     clear Jq U;go_wp2_with fail;refine(aA err _).mono ?_
     rintro e9 w9 ⟨rfl,Uj⟩;have oq:=nG.below Uj;have pg:=kW.below Uj kW.lt;have lW:=(Fr.of pI:Fr p.C w w6).bf Uj;clear z;have z:=pg.four;go_wp2_with fail;refine aD (v:= .agg #[err,(0:Int),Qs.e,()]) ?_ rfl ?_
     ·simp[results,results100,go_sem,z]
     rw[HF.out];exact aZ (a:=(.no err)) hga oq rfl rfl lW (Sub.refl _ _) rfl
    obtain rfl:err=0:=by simpa using te
    have HF:Hid (R=(Rw.setOb r A λo=>{o with l:=m},.no 0)):=aL (U.out.trans (by rw[aM rfl]))
    have iU:=nG.set2 NL.out hdo AA hk6;have fM:=kW.far (p:=⟨I,A*3+2,none⟩) (λe=>VW (GA e)) (.slice A6 m.length k6)
    have rV:Fr p.C w (w6.setCell ⟨I,A*3+2,none⟩ (.slice A6 m.length k6)):=Fr.setCell (Fr.of pI) (p:=⟨I,A*3+2,none⟩) (.inr (.inl (by show p.vO.ownBlock=_;rw[show p.vO=_ from NL.out];rfl))) _
    have ff6:=nG.frO NL.out;have f26:=(i.cell (p:=⟨I,A*3+2,none⟩) hbO).trans f2;go_upto_region 62 with fail
    go_region_held3 (λW=>W.cell? ⟨V,d*3,none⟩=some (.int .i64 A)/\W.cell? ⟨p.g,3,none⟩=some (.slice I r.objs.length cO)) (first|go_keep|exact⟨r0,g3⟩) (fail)
    all_goals
     have iU:=iU.below (aa _ _).drew;have fM:=fM.drew;have rV:=rV.bf (aa _ _).drew;generalize (w6.setCell ⟨I,A*3+2,none⟩ (.slice A6 m.length k6)).drew=w7 at*;clear z f26 ff6;have z:=fM.four;go_wp2_with fail;refine aD (v:= .agg #[(0:Int),(0:Int),Qs.e,()]) ?_ rfl ?_
     ·simp[results,results100,go_sem,z]
     rw[HF.out];exact aZ (a:=(.no 0)) hga iU rfl rfl rV (Sub.refl _ _) rfl
 exact absurd Ag.out hkl
theorem P5(tx:ByteArray)(a j:Nat):Sy.bytesOf ((tx.data.toList.drop a).take j)++tx.extract (a+j) (a+j+1)=Sy.bytesOf ((tx.data.toList.drop a).take (j+1)):=by
 refine sS ?_
 rw[gQ,mF]
 show(tx.data.toList.drop a).take j++_=(tx.data.toList.drop a).take (j+1)
 rw[show(tx.data.toList.drop a).take (j+1)=(tx.data.toList.drop a).take j++((tx.data.toList.drop a).drop j).take 1 from List.take_add,xS,List.drop_take,show a+j+1- (a+j)=1 by omega]
theorem TV{tx:ByteArray}{a j n:Nat}(h:tx.size<=a+j)(hj:j<=n):(tx.data.toList.drop a).take j=(tx.data.toList.drop a).take n:=by
 have b:tx.data.toList.length=tx.size:=af tx;rw[fI (by rw[gM];omega),fI (by rw[gM];omega)]
theorem LP(p:Rl)(r:Rw)(c:Ca)(w:World)(h:aO w p r)(hk:jr r)(hcs:jK c)(ho0:0<=c.owner)(dI:c.owner<4)(hv:¬(c.fd<0\/8<=c.fd\/Rw.fdAt r c.owner.toNat c.fd.toNat=none))(h0:c.kind=3):Calls prog 100 #[.pointer p.g,.agg #[c.kind,c.owner,c.fd,c.n,c.m,c.path,c.to,c.text,c.alone]] w (iJ p (Rw.use r c) w):=by
 obtain⟨R,hR⟩:∃R,R=Rw.use r c:=⟨_,rfl⟩;rw[<-hR];have M:=Rw.mQ (r:=r) (c:=c);obtain⟨u,co,cf,D,cm,cp,ct,cx,ca⟩:=c;dsimp only at ho0 dI hcs M hv h0 ⊢;obtain⟨K,rfl⟩:∃m:Nat,co=m:=⟨co.toNat,by omega⟩
 have B:=aL hR;have nJ:=aL M;have HK:=aL hk;have hcx:cx.size<=1048576:=hcs.2.2;have kZ:K<4:=by omega
 have hga:w.heap.size<=w.heap.size+1:=by omega
 have hgs:p.g<w:=h.bz h.rH;have uu:=aL (λk (hk:p.C k)=>h.bz hk)
 have hbg:p.g≠w.heap.size:=by omega
 have EG:w.heap.size≠p.g:=by omega
 have hB0:=((aa w w).alloc aR (.cells #[u,K,cf,D,cm,cp,ct,cx,ca] 24)).alloc (((aa w w).alloc aR (.cells #[u,K,cf,D,cm,cp,ct,cx,ca] 24)).size) (.cells #[(0:Int),(0:Int),Qs.e,()] 43);have U:=(h.below ((aa w w).alloc aR (.cells #[u,K,cf,D,cm,cp,ct,cx,ca] 24))).plus (.cells #[(0:Int),(0:Int),Qs.e,()] 43);have hz0:=ai.new (w.alloc (.cells #[u,K,cf,D,cm,cp,ct,cx,ca] 24)) 43 [(0:Int),(0:Int),Qs.e,()];have hc0:=(ai.new w 24 [u,K,cf,D,cm,cp,ct,cx,ca]).alloc (.cells #[(0:Int),(0:Int),Qs.e,()] 43);rw[bX]at U hz0;have HV:=aL hv;have Ag:=aL h0;clear hR hk hcs h ho0 dI M hv h0;go_enter func100,ntmps100;go_upto_region 1 with fail
 generalize (w.alloc (.cells #[u,K,cf,D,cm,cp,ct,cx,ca] 24)).alloc (.cells #[(0:Int),(0:Int),Qs.e,()] 43)=w0 at*;have Z:=hz0.four;have z:=hc0.nine;have hf0:¬(cf<0\/8<=cf):=λq=>HV.out (q.elim .inl λq=> .inr (.inl q))
 obtain⟨km,rfl⟩:∃m:Nat,cf=m:=⟨cf.toNat,by omega⟩
 have hk8:km<8:=by omega
 have tn:decide ((km:Int)<0)=false:=bN (by omega)
 have tm:decide (7<(km:Int))=false:=bN (by omega)
 have Nw:(0:Int)<=(K:Int):=gD _;have ib2:(K:Int)<4:=by omega
 have WL:(0:Int)<=(km:Int):=gD _;have WM:(km:Int)<8:=by omega
 have hfd:=U.VL HK.out kZ hk8;have hgz:p.g<w0:=U.bz U.rH;clear hf0;obtain⟨fo,hfo⟩:∃x,x=Rw.fdAt r K km:=⟨_,rfl⟩;rw[<-hfo,show(Rl.plus p (w.heap.size+1)).g=p.g from rfl]at hfd
 rcases fo with _|d
 ·exact absurd (.inr (.inr hfo.symm)) HV.out
 rw[show tC (some d)= .int .i64 (d:Int)from rfl]at hfd
 have Ny:=aL hfo.symm;have B:=aL (show R=if u=2 then Rw.callClose r K km d else if u=13 then Rw.callDup r K d else if u=5 then Rw.callSeek r d D else if u=14\/u=15 then Rw.callLock r ⟨u,K,km,D,cm,cp,ct,cx,ca⟩ (Rw.deAt r d).o else if u=3 then Rw.callRead r ⟨u,K,km,D,cm,cp,ct,cx,ca⟩ d else Rw.callWrite r ⟨u,K,km,D,cm,cp,ct,cx,ca⟩ d from B.out.trans (nJ.out d hfo.symm (by omega) (by omega)))
 have td:decide ((d:Int)<0)=false:=bN (by omega)
 have hdl:d<r.des.length:=HK.out.ZL kZ hk8 Ny.out;clear hfo nJ;refine eO (by kernel_rfl) (by kernel_rfl) ?_
 repeat(first|go_big_quiet_step (fail)|quiet_step (fail))
 refine ic ?_
 intro w1 F;obtain⟨nq,b⟩:=F;have hA1:aO w1 (p.plus (w.heap.size+1)) r:=by rw[b];exact U.below (below_drewN (aa _ _) nq)
 have hB1:Below w w w1:=by rw[b];exact below_drewN hB0 nq
 have hz1:=hz0.drewN nq;have hc1:=hc0.drewN nq;rw[<-b]at hz1 hc1;have hfd1:w1.cell? ⟨p.g,5+K*8+km,none⟩=some (.int .i64 (d:Int)):=by rw[b];exact hfd
 clear b Z z;have sV:p.g<w1:=hA1.bz hA1.rH;clear hfd hgz U hB0 hz0 hc0;have Z:=hz1.four;have z:=hc1.nine;go_upto_region 3 with fail
 refine eO (by kernel_rfl) (by kernel_rfl) ?_
 repeat(first|go_big_quiet_step (fail)|quiet_step (fail))
 refine ic ?_
 intro w2 F;obtain⟨nq,b⟩:=F;have hA2:aO w2 (p.plus (w.heap.size+1)) r:=by rw[b];exact hA1.below (below_drewN (aa _ _) nq)
 have hB2:Below w w w2:=by rw[b];exact below_drewN hB1 nq
 have hz2:=hz1.drewN nq;have hc2:=hc1.drewN nq;rw[<-b]at hz2 hc2;clear b Z z;clear hfd1 sV hA1 hB1 hz1 hc1 tn tm td;have Z:=hz2.four;have z:=hc2.nine;have hdF:=HK.out.ZM hdl;obtain⟨di,hdi⟩:∃y,y=(Rw.deAt r d).o:=⟨_,rfl⟩;obtain⟨Jv,Ap⟩:∃y,y=(Rw.deAt r d).fl:=⟨_,rfl⟩;obtain⟨dat,hdat⟩:∃y,y=(Rw.deAt r d).at_:=⟨_,rfl⟩
 rw[<-hdi,<-Ap,<-hdat]at hdF;obtain⟨hdo,TP,TQ,E_,Fa⟩:=hdF;have Dv:=aL hdi.symm;have NM:=aL Ap.symm;have LJ:=aL hdat.symm;clear hdi Ap hdat;have TR:(0:Int)<=(d:Int):=gD _;have TS:(d:Int)<(r.des.length:Int):=by omega
 obtain⟨G,cD,rX,hbD,VT,q0,q1,q2,qf⟩:=hA2.dec hdl;rw[Dv.out]at q0;rw[NM.out]at q1;rw[LJ.out]at q2;obtain⟨_,_,_,_,_,_,_,_,_,_,g4,_,_,_,_,nM⟩:=hA2.cells;rw[rX]at g4;have cX:=λW q=>h_ (p.plus (w.heap.size+1)) r di W q hdo (by have:=HK.out.tl;omega)
 have htz:=HK.out.tx di;obtain⟨A,htx⟩:∃A,A=Rw.textOf r di:=⟨_,rfl⟩;rw[<-htx]at cX htz;have Ui:=aL htx.symm;clear htx;go_upto_region 4 with fail
 go_wp2_with fail;refine(cX _ hA2).mono ?_
 rintro e w4 ⟨rfl,hb⟩;have mY:=hA2.below hb;have jY:=hz2.below hb hz2.lt;have hc4:=hc2.below hb hc2.lt;have hB4:=hB2.trans (hb.mono hB2.size);have r0:=(hb.cell (p:=⟨G,d*3,none⟩) hbD).trans q0;have r1:=(hb.cell (p:=⟨G,d*3+1,none⟩) hbD).trans q1;have r2:=(hb.cell (p:=⟨G,d*3+2,none⟩) hbD).trans q2;have I7:=bE hbD hb.size;have BA:G≠w.heap.size+1:=mY.ZN rX;have H:=aL rX;clear Z z hA2 hz2 hc2 hB2 hb q0 q1 q2 qf g4 cX nM hbD rX;have Z:=jY.four;have z:=hc4.nine;have qf:=mY.Um H.out;go_upto_region 6 with fail
 cases t2:u==2
 rotate_left
 ·exact absurd (show u=2 by simpa using t2) (by have:=Ag.out;omega)
 have B:=aL (B.out.trans (av (by simpa using t2)))
 cases t13:u==13
 rotate_left
 ·exact absurd (show u=13 by simpa using t13) (by have:=Ag.out;omega)
 have B:=aL (B.out.trans (av (by simpa using t13)))
 cases t5:u==5
 rotate_left
 ·exact absurd (show u=5 by simpa using t5) (by have:=Ag.out;omega)
 have B:=aL (B.out.trans (av (by simpa using t5)))
 by_cases hkl:u=14\/u=15
 ·exact absurd hkl (by have:=Ag.out;omega)
 have B:=aL (B.out.trans (av hkl));have t14:(u==14)=false:=by simp only[fq];exact λq=>hkl (.inl q)
 have t15:(u==15)=false:=by simp only[fq];exact λq=>hkl (.inr q)
 clear hkl
 cases t3:u==3
 rotate_left
 ·have B:=aL (B.out.trans (aM (by simpa using t3)))
  unfold Rw.callRead at B;dsimp only at B;rw[Rw.zQ,Dv.out,NM.out,LJ.out,Ui.out]at B;have V:(bits BinOp.and IntKind.i64 Jv 1==0)= !Sy.bit Jv 0:=qw E_ Fa 0
  cases tb:Sy.bit Jv 0
  ·have HF:=aL (B.out.trans (aM tb))
   rw[tb]at V;have V:(bits BinOp.and IntKind.i64 Jv 1==0)=true:=V;clear B;go_wp2_with fail;refine(aA 8 _).mono ?_
   rintro e9 w9 ⟨rfl,O⟩;have oq:=mY.below O;have pg:=jY.below O jY.lt;have lW:=(Fr.of hB4:Fr p.C w w4).bf O;clear Z;have Z:=pg.four;go_wp2_with fail;refine aD (v:= .agg #[(8:Int),(0:Int),Qs.e,()]) ?_ rfl ?_
   ·simp[results,results100,go_sem,Z]
   rw[HF.out];exact aZ (a:=(.no 8)) hga oq rfl rfl lW (Sub.refl _ _) rfl
  have B:=aL (B.out.trans (av (by simp[tb])))
  rw[tb]at V;have V:(bits BinOp.and IntKind.i64 Jv 1==0)=false:=V
  by_cases hr:D<0\/1000<D
  ·have HF:=aL (B.out.trans (aM hr))
   have tn:decide (D<0)=true\/(decide (D<0)=false/\decide (1000<D)=true):=by
    rcases si (D<0)with q|q
    ·exact .inl (fw q)
    exact .inr ⟨bN q,fw (hr.resolve_left q)⟩
   clear B hr
   rcases tn with tn|⟨tn,tm⟩
   all_goals
    go_wp2_with fail;refine(aA 3 _).mono ?_
    rintro e9 w9 ⟨rfl,O⟩;have oq:=mY.below O;have pg:=jY.below O jY.lt;have lW:=(Fr.of hB4:Fr p.C w w4).bf O;clear Z;have Z:=pg.four;go_wp2_with fail;refine aD (v:= .agg #[(3:Int),(0:Int),Qs.e,()]) ?_ rfl ?_
    ·simp[results,results100,go_sem,Z]
    rw[HF.out];exact aZ (a:=(.no 3)) hga oq rfl rfl lW (Sub.refl _ _) rfl
  have B:=aL (B.out.trans (av hr));have tn:decide (D<0)=false:=bN λq=>hr (.inl q)
  have tm:decide (1000<D)=false:=bN λq=>hr (.inr q)
  obtain⟨a,rfl⟩:∃m:Nat,dat=m:=⟨dat.toNat,by omega⟩
  obtain⟨I,rfl⟩:∃m:Nat,D=m:=⟨D.toNat,by omega⟩
  have HRR:=aL B.out;rw[mH,mH]at HRR;clear B;have hn1:I<=1000:=by omega
  have ha1:a<=1000:=by omega
  clear hr;have wW:∀x:Int,0<=x->x<=4000->IntKind.i64.wrap x=x:=λx h0 h1=>lm _ (by omega)
  have w1:IntKind.i64.wrap ((a:Int)+(I:Int))=(a:Int)+(I:Int):=wW _ (by omega) (by omega)
  go_upto_region 69 with fail
  go_wp2
  go_loopw [15,16] (λs i wr=>∃j:Nat,s= .string (Sy.bytesOf ((A.data.toList.drop a).take j))/\i= .int .i64 ((a:Int)+j)/\j<=I/\(j=0\/a+j<=A.size)/\Hid (pF w4 wr)) (λ_ i _=>a+I- (intOf i).toNat)
  case atStart=>exact⟨0,rfl,by first|rfl|simp,bL _,.inl rfl,aL (pF.refl _)⟩
  case round=>
   obtain⟨j,rfl,rfl,hj,hj2,L⟩:=hrel;have hAr:aO wr (p.plus (w.heap.size+1)) r:=mY.below (L.out.below (aa _ _));have hBr:Below w w wr:=L.out.below hB4;have Q5:ai wr (w.heap.size+1) 43 [(0:Int),(0:Int),Qs.e,()]:=L.out.blk jY;have hcr:ai wr w 24 [u,K,km,I,cm,cp,ct,cx,ca]:=L.out.blk hc4;have HC:=aL hcr;obtain⟨bD',cD',Jc,acM,acN,p0,p1,p2,pf⟩:=hAr.dec hdl;have e9:=slice_inj (Jc.symm.trans H.out);rw[e9,LJ.out]at p2;rw[e9]at acM pf;clear Z z r0 r1 r2 e9 Jc acN p0 p1 qf;have z:=HC.out.nine
   cases u1:decide (((a:Int)+j)<(a:Int)+(I:Int))
   ·have hjn:=aL (show j=I by have:=j6 u1;omega)
    have u1b:decide ((j:Int)<(I:Int))=false:=bN (by have:=hjn.out;omega)
    have u1c:decide (j<I)=false:=bN (by have:=hjn.out;omega)
    have N:=aL (by rw[hjn.out]:(A.data.toList.drop a).take j=(A.data.toList.drop a).take I)
    obtain⟨l,t⟩:∃l,l=Sy.bytesOf ((A.data.toList.drop a).take j):=⟨_,rfl⟩;have hts:((((A.data.toList.drop a).take I).length:Nat):Int)=(l.size:Int):=by rw[t,<-N.out];rfl
    have htl:l.size<=1000:=by rw[t];show((A.data.toList.drop a).take j).length<=1000;rw[bR];omega
    have HF:Hid (R=(Rw.setDe r d (λx=>{x with at_:=(a:Int)+(l.size:Int)}),⟨0,(l.size:Int),l,[]⟩)):=aL (by rw[HRR.out,hts,t,N.out])
    rw[<-t];clear t hts HRR N;go_upto_region 70 with fail
    refine eO (by kernel_rfl) (by kernel_rfl) ?_
    repeat(first|go_big_quiet_step (fail)|quiet_step (fail))
    refine ic ?_
    intro E F;obtain⟨S,b⟩:=F;have Y:aO E (p.plus (w.heap.size+1)) r:=by rw[b];exact hAr.below (below_drewN (aa _ _) S)
    have dh:Below w w E:=by rw[b];exact below_drewN hBr S
    have Q:=Q5.drewN S;rw[<-b]at Q;have HW5:Hid (pF w4 E):=aL (by rw[b];exact L.out.more S)
    have p2:E.cell? ⟨G,d*3+2,none⟩=some (.int .i64 (a:Int)):=by rw[b];exact p2
    clear b z;have pf5:=Y.Um H.out;have w2:IntKind.i64.wrap ((a:Int)+(l.size:Int))=(a:Int)+(l.size:Int):=wW _ (by omega) (by omega)
    have nG:=Y.setAt H.out d ((a:Int)+(l.size:Int));have kW:=Q.far (p:=⟨G,d*3+2,none⟩) (λe=>BA (GA e)) (.int .i64 ((a:Int)+(l.size:Int)))
    have uH:Fr p.C w (E.setCell ⟨G,d*3+2,none⟩ (.int .i64 ((a:Int)+(l.size:Int)))):=Fr.setCell (Fr.of dh) (p:=⟨G,d*3+2,none⟩) (.inr (.inr (by show p.vD.ownBlock=_;rw[show p.vD=_ from H.out];rfl))) _
    have TW:G<E:=bE I7 (HW5.out.below (aa w4 w4)).size;go_upto_region 74 with fail
    clear p2 pf5;generalize E.setCell ⟨G,d*3+2,none⟩ (.int .i64 ((a:Int)+(l.size:Int)))=w6 at*;have Z:=kW.four;go_wp2_with fail;refine aD (v:= .agg #[(0:Int),l.size,.string l,()]) ?_ rfl ?_
    ·simp[results,results100,go_sem,Z]
    rw[HF.out];exact aZ (a:=⟨0,(l.size:Int),l,[]⟩) hga nG rfl rfl uH (Sub.refl _ _) rfl
   have u1b:decide ((j:Int)<(I:Int))=true:=fw (by have:=iA u1;omega)
   have u1c:decide (j<I)=true:=fw (by have:=iA u1;omega)
   cases u2:decide (((a:Int)+j)<(A.size:Int))
   ·have N:=aL (TV (by have:=j6 u2;omega) hj:(A.data.toList.drop a).take j=(A.data.toList.drop a).take I)
    obtain⟨l,t⟩:∃l,l=Sy.bytesOf ((A.data.toList.drop a).take j):=⟨_,rfl⟩;have hts:((((A.data.toList.drop a).take I).length:Nat):Int)=(l.size:Int):=by rw[t,<-N.out];rfl
    have htl:l.size<=1000:=by rw[t];show((A.data.toList.drop a).take j).length<=1000;rw[bR];omega
    have HF:Hid (R=(Rw.setDe r d (λx=>{x with at_:=(a:Int)+(l.size:Int)}),⟨0,(l.size:Int),l,[]⟩)):=aL (by rw[HRR.out,hts,t,N.out])
    rw[<-t];clear t hts HRR N;go_upto_region 70 with fail
    refine eO (by kernel_rfl) (by kernel_rfl) ?_
    repeat(first|go_big_quiet_step (fail)|quiet_step (fail))
    refine ic ?_
    intro E F;obtain⟨S,b⟩:=F;have Y:aO E (p.plus (w.heap.size+1)) r:=by rw[b];exact hAr.below (below_drewN (aa _ _) S)
    have dh:Below w w E:=by rw[b];exact below_drewN hBr S
    have Q:=Q5.drewN S;rw[<-b]at Q;have HW5:Hid (pF w4 E):=aL (by rw[b];exact L.out.more S)
    have p2:E.cell? ⟨G,d*3+2,none⟩=some (.int .i64 (a:Int)):=by rw[b];exact p2
    clear b z;have pf5:=Y.Um H.out;have w2:IntKind.i64.wrap ((a:Int)+(l.size:Int))=(a:Int)+(l.size:Int):=wW _ (by omega) (by omega)
    have nG:=Y.setAt H.out d ((a:Int)+(l.size:Int));have kW:=Q.far (p:=⟨G,d*3+2,none⟩) (λe=>BA (GA e)) (.int .i64 ((a:Int)+(l.size:Int)))
    have uH:Fr p.C w (E.setCell ⟨G,d*3+2,none⟩ (.int .i64 ((a:Int)+(l.size:Int)))):=Fr.setCell (Fr.of dh) (p:=⟨G,d*3+2,none⟩) (.inr (.inr (by show p.vD.ownBlock=_;rw[show p.vD=_ from H.out];rfl))) _
    have TW:G<E:=bE I7 (HW5.out.below (aa w4 w4)).size;go_upto_region 74 with fail
    clear p2 pf5;generalize E.setCell ⟨G,d*3+2,none⟩ (.int .i64 ((a:Int)+(l.size:Int)))=w6 at*;have Z:=kW.four;go_wp2_with fail;refine aD (v:= .agg #[(0:Int),l.size,.string l,()]) ?_ rfl ?_
    ·simp[results,results100,go_sem,Z]
    rw[HF.out];exact aZ (a:=⟨0,(l.size:Int),l,[]⟩) hga nG rfl rfl uH (Sub.refl _ _) rfl
   have hjl:a+j<A.size:=by have:=iA u2;omega
   have hjn:j<I:=by have:=iA u1;omega
   go_upto_region 70 with fail
   refine eO (by kernel_rfl) (by kernel_rfl) ?_
   repeat(first|go_big_quiet_step (fail)|quiet_step (fail))
   refine ic ?_
   intro E F;obtain⟨S,b⟩:=F;have Y:aO E (p.plus (w.heap.size+1)) r:=by rw[b];exact hAr.below (below_drewN (aa _ _) S)
   have dh:Below w w E:=by rw[b];exact below_drewN hBr S
   have Q:=Q5.drewN S;rw[<-b]at Q;have HW5:Hid (pF w4 E):=aL (by rw[b];exact L.out.more S)
   have p2:E.cell? ⟨G,d*3+2,none⟩=some (.int .i64 (a:Int)):=by rw[b];exact p2
   clear b z;have HEX:Hid (Sy.bytesOf ((A.data.toList.drop a).take j)++A.extract (a+j) (a+j+1)=Sy.bytesOf ((A.data.toList.drop a).take (j+1))):=aL (P5 A a j);have w2:IntKind.i64.wrap ((a:Int)+j+1)=(a:Int)+j+1:=wW _ (by omega) (by omega)
   have hsz:(Sy.bytesOf ((A.data.toList.drop a).take j)).size<=1000:=by show((A.data.toList.drop a).take j).length<=1000;rw[bR];omega
   obtain⟨l,t⟩:∃l,l=Sy.bytesOf ((A.data.toList.drop a).take j):=⟨_,rfl⟩;rw[<-t]at HEX hsz ⊢;clear t;have i1:(0:Int)<=(a:Int)+j:=by omega
   have i2:(a:Int)+j<=(a:Int)+j+1:=by omega
   have i3:(a:Int)+j+1<=(A.size:Int):=by omega
   have e1:((a:Int)+j).toNat=a+j:=by omega
   have e2:((a:Int)+j+1).toNat=a+j+1:=by omega
   have hov:¬9223372036854775807<l.size+(A.extract (a+j) (a+j+1)).size:=by rw[zR];omega
   go_wp2;go_roundw
   case rel=>exact⟨j+1,by rw[<-HEX.out],by go_num,hjn,.inr (by omega),HW5⟩
   case measure=>simp only[intOf];omega
 exact absurd (show¬u=3 by simpa using t3) (by have:=Ag.out;omega)
end Go.Proofs.YtjppfhgkanbemabGreatDoor
