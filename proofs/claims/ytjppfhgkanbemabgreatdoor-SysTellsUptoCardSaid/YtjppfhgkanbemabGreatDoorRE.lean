/- A part of the proof of SysTells: RE. -/
import Derived.Test.YtjppfhgkanbemabGreatDoorRD
import Derived.Lib.ConvBytes
set_option maxHeartbeats 3000000
set_option maxRecDepth 100000
set_option linter.all false
namespace Go.Proofs.YtjppfhgkanbemabGreatDoor
open Tryz
open Go.RowKit Go.Shelf Go.Sort
theorem LU(p:Rl)(r:Rw)(c:Ca)(w:World)(h:aO w p r)(hk:jr r)(hcs:jK c)(ho0:0<=c.owner)(dI:c.owner<4)(hv:¬(c.fd<0\/8<=c.fd\/Rw.fdAt r c.owner.toNat c.fd.toNat=none))(h0:c.kind=2):Calls prog 100 #[.pointer p.g,.agg #[c.kind,c.owner,c.fd,c.n,c.m,c.path,c.to,c.text,c.alone]] w (iJ p (Rw.use r c) w):=by
 obtain⟨R,hR⟩:∃R,R=Rw.use r c:=⟨_,rfl⟩;rw[<-hR];have O:=Rw.mQ (r:=r) (c:=c);obtain⟨I,co,cf,cn,cm,cp,ct,cx,ca⟩:=c;dsimp only at ho0 dI hcs O hv h0 ⊢;obtain⟨u,rfl⟩:∃m:Nat,co=m:=⟨co.toNat,by omega⟩
 have HR:=aL hR;have nJ:=aL O;have HK:=aL hk;have hcx:cx.size<=1048576:=hcs.2.2;have kZ:u<4:=by omega
 have hga:w.heap.size<=w.heap.size+1:=by omega
 have hgs:p.g<w:=h.bz h.rH;have uu:=aL (λk (hk:p.C k)=>h.bz hk)
 have hbg:p.g≠w.heap.size:=by omega
 have EG:w.heap.size≠p.g:=by omega
 have hB0:=((aa w w).alloc aR (.cells #[I,u,cf,cn,cm,cp,ct,cx,ca] 24)).alloc (((aa w w).alloc aR (.cells #[I,u,cf,cn,cm,cp,ct,cx,ca] 24)).size) (.cells #[(0:Int),(0:Int),Qs.e,()] 43);have hA0:=(h.below ((aa w w).alloc aR (.cells #[I,u,cf,cn,cm,cp,ct,cx,ca] 24))).plus (.cells #[(0:Int),(0:Int),Qs.e,()] 43);have hz0:=ai.new (w.alloc (.cells #[I,u,cf,cn,cm,cp,ct,cx,ca] 24)) 43 [(0:Int),(0:Int),Qs.e,()];have hc0:=(ai.new w 24 [I,u,cf,cn,cm,cp,ct,cx,ca]).alloc (.cells #[(0:Int),(0:Int),Qs.e,()] 43);rw[bX]at hA0 hz0;have HV:=aL hv;have Ag:=aL h0;clear hR hk hcs h ho0 dI O hv h0;go_enter func100,ntmps100;go_upto_region 1 with fail
 generalize (w.alloc (.cells #[I,u,cf,cn,cm,cp,ct,cx,ca] 24)).alloc (.cells #[(0:Int),(0:Int),Qs.e,()] 43)=w0 at*;have z:=hz0.four;obtain⟨c0,c1,c2,c3,c4,c5,c6,c7,c8⟩:=hc0.nine;have hf0:¬(cf<0\/8<=cf):=λq=>HV.out (q.elim .inl λq=> .inr (.inl q))
 obtain⟨E,rfl⟩:∃m:Nat,cf=m:=⟨cf.toNat,by omega⟩
 have hk8:E<8:=by omega
 have tn:decide ((E:Int)<0)=false:=bN (by omega)
 have tm:decide (7<(E:Int))=false:=bN (by omega)
 have Nw:(0:Int)<=(u:Int):=gD _;have ib2:(u:Int)<4:=by omega
 have WL:(0:Int)<=(E:Int):=gD _;have WM:(E:Int)<8:=by omega
 have hfd:=hA0.VL HK.out kZ hk8;have hgz:p.g<w0:=hA0.bz hA0.rH;clear hf0;obtain⟨fo,hfo⟩:∃x,x=Rw.fdAt r u E:=⟨_,rfl⟩;rw[<-hfo,show(Rl.plus p (w.heap.size+1)).g=p.g from rfl]at hfd
 rcases fo with _|d
 ·exact absurd (.inr (.inr hfo.symm)) HV.out
 rw[show tC (some d)= .int .i64 (d:Int)from rfl]at hfd
 have Ny:=aL hfo.symm;have HR:=aL (show R=if I=2 then Rw.callClose r u E d else if I=13 then Rw.callDup r u d else if I=5 then Rw.callSeek r d cn else if I=14\/I=15 then Rw.callLock r ⟨I,u,E,cn,cm,cp,ct,cx,ca⟩ (Rw.deAt r d).o else if I=3 then Rw.callRead r ⟨I,u,E,cn,cm,cp,ct,cx,ca⟩ d else Rw.callWrite r ⟨I,u,E,cn,cm,cp,ct,cx,ca⟩ d from HR.out.trans (nJ.out d hfo.symm (by omega) (by omega)))
 have td:decide ((d:Int)<0)=false:=bN (by omega)
 have hdl:d<r.des.length:=HK.out.ZL kZ hk8 Ny.out;clear hfo nJ;refine eO (by kernel_rfl) (by kernel_rfl) ?_
 repeat(first|go_big_quiet_step (fail)|quiet_step (fail))
 refine ic ?_
 intro w1 hw';obtain⟨M,j⟩:=hw';have hA1:aO w1 (p.plus (w.heap.size+1)) r:=by rw[j];exact hA0.below (below_drewN (aa _ _) M)
 have hB1:Below w w w1:=by rw[j];exact below_drewN hB0 M
 have hz1:=hz0.drewN M;have hc1:=hc0.drewN M;rw[<-j]at hz1 hc1;have hfd1:w1.cell? ⟨p.g,5+u*8+E,none⟩=some (.int .i64 (d:Int)):=by rw[j];exact hfd
 clear j z c0 c1 c2 c3 c4 c5 c6 c7 c8;have sV:p.g<w1:=hA1.bz hA1.rH;clear hfd hgz hA0 hB0 hz0 hc0;have z:=hz1.four;obtain⟨c0,c1,c2,c3,c4,c5,c6,c7,c8⟩:=hc1.nine;go_upto_region 3 with fail
 refine eO (by kernel_rfl) (by kernel_rfl) ?_
 repeat(first|go_big_quiet_step (fail)|quiet_step (fail))
 refine ic ?_
 intro w2 hw';obtain⟨M,j⟩:=hw';have hA2:aO w2 (p.plus (w.heap.size+1)) r:=by rw[j];exact hA1.below (below_drewN (aa _ _) M)
 have hB2:Below w w w2:=by rw[j];exact below_drewN hB1 M
 have S:=hz1.drewN M;have hc2:=hc1.drewN M;rw[<-j]at S hc2;clear j z c0 c1 c2 c3 c4 c5 c6 c7 c8;clear hfd1 sV hA1 hB1 hz1 hc1 tn tm td;have z:=S.four;obtain⟨c0,c1,c2,c3,c4,c5,c6,c7,c8⟩:=hc2.nine;have hdF:=HK.out.ZM hdl;obtain⟨t,hdi⟩:∃y,y=(Rw.deAt r d).o:=⟨_,rfl⟩;obtain⟨Jv,Ap⟩:∃y,y=(Rw.deAt r d).fl:=⟨_,rfl⟩;obtain⟨dat,hdat⟩:∃y,y=(Rw.deAt r d).at_:=⟨_,rfl⟩
 rw[<-hdi,<-Ap,<-hdat]at hdF;obtain⟨hdo,TP,TQ,E_,Fa⟩:=hdF;have Dv:=aL hdi.symm;have NM:=aL Ap.symm;have LJ:=aL hdat.symm;clear hdi Ap hdat;have TR:(0:Int)<=(d:Int):=gD _;have TS:(d:Int)<(r.des.length:Int):=by omega
 obtain⟨bD,cD,U,hbD,VT,q0,q1,q2,qf⟩:=hA2.dec hdl;rw[Dv.out]at q0;rw[NM.out]at q1;rw[LJ.out]at q2;obtain⟨_,_,_,_,_,_,_,_,_,_,g4,_,_,_,_,nM⟩:=hA2.cells;rw[U]at g4;have cX:=λW q=>h_ (p.plus (w.heap.size+1)) r t W q hdo (by have:=HK.out.tl;omega)
 have htz:=HK.out.tx t;obtain⟨tx,htx⟩:∃tx,tx=Rw.textOf r t:=⟨_,rfl⟩;rw[<-htx]at cX htz;have Ui:=aL htx.symm;clear htx;go_upto_region 4 with fail
 go_wp2_with fail;refine(cX _ hA2).mono ?_
 rintro e w4 ⟨rfl,H⟩;have mY:=hA2.below H;have jY:=S.below H S.lt;have hc4:=hc2.below H hc2.lt;have hB4:=hB2.trans (H.mono hB2.size);have N:=(H.cell (p:=⟨bD,d*3,none⟩) hbD).trans q0;have r1:=(H.cell (p:=⟨bD,d*3+1,none⟩) hbD).trans q1;have r2:=(H.cell (p:=⟨bD,d*3+2,none⟩) hbD).trans q2;have I7:=bE hbD H.size;have BA:bD≠w.heap.size+1:=mY.ZN U;have I4:=aL U;clear z c0 c1 c2 c3 c4 c5 c6 c7 c8 hA2 S hc2 hB2 H q0 q1 q2 qf g4 cX nM hbD U;have z:=jY.four;obtain⟨c0,c1,c2,c3,c4,c5,c6,c7,c8⟩:=hc4.nine;have qf:=mY.Um I4.out;go_upto_region 6 with fail
 cases t2:I==2
 rotate_left
 ·have HR:=aL (HR.out.trans (aM (by simpa using t2)))
  unfold Rw.callClose at HR;dsimp only at HR;rw[Dv.out,show Rw.setOb (Rw.setFd r u E none) t (λx=>{x with l:=Lk.leave x.l u})=_ from Rw.VI _ _ (λl=>Lk.leave l u)]at HR
  have F:=mY.setFd HK.out.fdr (o:=u) (k:=E) hk8 none;rw[show tC none= .int .i64 (-1)from rfl,show(Rl.plus p (w.heap.size+1)).g=p.g from rfl]at F
  have jo:=jY.far (p:=⟨p.g,5+u*8+E,none⟩) (show w.heap.size+1≠p.g by omega) (.int .i64 (-1))
  have hc5:=hc4.far (p:=⟨p.g,5+u*8+E,none⟩) (show w.heap.size≠p.g by omega) (.int .i64 (-1))
  have Qi:Fr p.C w (w4.setCell ⟨p.g,5+u*8+E,none⟩ (.int .i64 (-1))):=Fr.setCell (Fr.of hB4) (p:=⟨p.g,5+u*8+E,none⟩) (.inl rfl) _;have hcf:=mY.VL HK.out kZ hk8;rw[show(Rl.plus p (w.heap.size+1)).g=p.g from rfl]at hcf
  have TM:∀q,w4.frozen? ⟨p.g,q,none⟩=false:=by obtain⟨cs,H⟩:=mY.blk;exact H.frozen
  have hs5:=HK.out.shut u E;obtain⟨hs1,hs2,hs3⟩:=hs5;have hob:=HK.out.obF hdo;obtain⟨L,hL⟩:∃L,L=(Rw.obAt r t).l:=⟨_,rfl⟩;have U8:L.length<=40:=by rw[hL];exact hob.2.2
  rw[show Rw.obAt (Rw.setFd r u E none) t=Rw.obAt r t from rfl,<-hL]at HR
  have HL:=aL hL;have Zb:d<(Rw.setFd r u E none).des.length:=hdl;have K:t<(Rw.setFd r u E none).objs.length:=hdo;clear hL hob;go_upto_region 31 with fail
  go_region_held3 (λW=>W.cell? ⟨w.heap.size,1,none⟩=some (.int .i64 u)/\W.cell? ⟨w.heap.size,2,none⟩=some (.int .i64 E)) (first|go_keep|exact⟨c1,c2⟩) (fail)
  all_goals
   have F:=F.below (aa _ _).drew;have jo:=jo.drew;have hc5:=hc5.drew;have Qi:=Qi.bf (aa _ _).drew;generalize (w4.setCell ⟨p.g,5+u*8+E,none⟩ (.int .i64 (-1))).drew=w5 at*;clear z c0 c1 c2 c3 c4 c5 c6 c7 c8 hcf TM N r1 r2 qf I7 mY jY hc4 hB4;have HS1:=aL hs1;have HS2:=aL hs2;have HS3:=aL hs3;clear hs1 hs2 hs3;obtain⟨r5,Td⟩:∃x,x=Rw.setFd r u E none:=⟨_,rfl⟩;have HD5:Hid (Rw.deAt r5 d=Rw.deAt r d):=aL (by rw[Td];rfl)
   have HO5:Hid (Rw.obAt r5 t=Rw.obAt r t):=aL (by rw[Td];rfl)
   have HN5:Hid (r5.objs.length=r.objs.length):=aL (by rw[Td];rfl)
   have Xt:Hid (r5.des.length=r.des.length):=aL (by rw[Td];rfl)
   rw[<-Td]at HR F HS1 HS2 HS3 Zb K;clear Td;obtain⟨D,cO,AO,cl,DK,hbO,YW,f0,f1,f2,hLO,hlc,ff⟩:=F.obc K;obtain⟨bD',cD',U,TW,adO,N,r1,r2,qf⟩:=F.dec Zb;have e9:=slice_inj (U.symm.trans I4.out);rw[e9,HD5.out,Dv.out]at N;rw[e9]at TW qf U;clear e9 r1 r2;rw[HO5.out,<-HL.out]at f2 hLO hlc;have VW:D≠w.heap.size+1:=F.neO DK;have acK:D≠w.heap.size:=λe=>by have h1:=uu.out D (.inr (.inl (by show p.vO.ownBlock=_;rw[show p.vO=_ from DK];rfl)));omega
   obtain⟨_,_,_,_,_,_,_,_,_,g3,_,_,_,_,_,nM⟩:=F.cells;rw[DK]at g3;have NL:=aL DK;have hOD:D≠bD:=F.abd DK I4.out;have hDO:bD≠D:=λe=>hOD e.symm
   have adP:p.g≠D:=λe=>YW e.symm
   have HLO:=aL hLO;clear DK hLO;have ie1:(0:Int)<=(t:Int):=gD _;have ie2:(t:Int)<(r5.objs.length:Int):=by omega
   go_upto_region 33 with fail
   refine eO (by kernel_rfl) (by kernel_rfl) ?_
   repeat(first|go_big_quiet_step (fail)|quiet_step (fail))
   refine ic ?_
   intro Y hw';obtain⟨M,j⟩:=hw';have nG:aO Y (p.plus (w.heap.size+1)) r5:=by rw[j];exact F.below (below_drewN (aa _ _) M)
   have uH:Fr p.C w Y:=by rw[j];exact Qi.bf (below_drewN (aa _ _) M)
   have kW:=jo.drewN M;have hc6:=hc5.drewN M;rw[<-j]at kW hc6;have hs6:w5.heap.size<=Y.heap.size:=by rw[j];exact(below_drewN (aa w5 w5) M).size
   have N:Y.cell? ⟨bD,d*3,none⟩=some (.int .i64 t):=by rw[j];exact N
   have g3:Y.cell? ⟨p.g,3,none⟩=some (.slice D r5.objs.length cO):=by rw[j];exact g3
   have acO:Hid (dJ Y Y AO L):=aL (HLO.out.on (Fr.of (X:=(p.plus (w.heap.size+1)).X) (by rw[j];exact below_drewN (aa _ _) M)) (Sub.refl _ _)).here
   have acL:D<Y:=by omega
   have abl:bD<Y:=by omega
   clear j hs6 F Qi jo hc5 f0 f1 f2 ff HLO TW hbO;have HC6:=aL hc6;clear hc6;have YY:p.g<Y:=nG.bz nG.rH;go_wp2
   go_loopw [8,196] (λv i wr=>∃k:Nat,k<=L.length/\i= .int .i64 k/\Hid (aW wr Y v (Lk.leave (L.take k) u))/\Below Y Y wr) (λ_ i _=>L.length- (intOf i).toNat)
   case atStart=>exact⟨0,bL _,rfl,aL (jN _ _ _ _),aa _ _⟩
   case round=>
    obtain⟨k,hk,rfl,HOW,G⟩:=hrel
    by_cases hlt:k<L.length
    ·obtain⟨b,o,hAO,hbl,y0,y1,y2,y3⟩:=dJ.at_ (Rd.below acO.out G) hlt
     subst hAO;have Jp:=aL (Lk.Lr hlt (o:=(u:Int)));generalize L[k]=y at y0 y1 y2 y3 Jp;obtain⟨yo,yf,yt,ya⟩:=y;dsimp only at y0 y1 y2 y3 Jp;have c1:=(HC6.out.below G HC6.out.lt).cell 1;have hb7:=(aa wr wr).alloc aR (.cells #[yo,yf,yt,ya] 166);have jV:=G.trans (hb7.mono G.size);have Zc:=aL (Ls HOW.out hb7);have c17:=(hb7.cell (p:=⟨w.heap.size,1,none⟩) (bE HC6.out.lt G.size)).trans c1;have QJ:=ai.new wr 166 [yo,yf,yt,ya];have hlt1:decide ((k:Int)<(L.length:Int))=true:=fw (by omega)
     go_upto_region 36 with fail
     clear y0 y1 y2 y3 c1 hb7;generalize wr.alloc (.cells #[yo,yf,yt,ya] 166)=w7 at*;generalize wr.heap.size=gy at*;obtain⟨y0,y1,y2,y3,yf',yz⟩:=QJ.four
     cases t1:(yo !=(u:Int))
     ·have HN:Hid (Lk.leave (L.take (k+1)) u=Lk.leave (L.take k) u):=aL (Jp.out.2 (by simpa using t1))
      go_wp2;go_roundw
      case rel=>exact⟨k+1,hlt,by go_num,aL (by rw[HN.out];exact Zc.out),jV⟩
      case measure=>simp[intOf];omega
     have HN:Hid (Lk.leave (L.take (k+1)) u=Lk.leave (L.take k) u++[⟨yo,yf,yt,ya⟩]):=aL (Jp.out.1 (by simpa using t1))
     obtain⟨i0,hi,hz0,hz1,S⟩:=lw oZ;have hle:=Sy.y9 (L.take k) u;have hox:=Zc.out;unfold aW at hox;rw[bR]at hle
     go_wp2_with (at_builtin;go_must (refine ax _ rfl _ _ _ rfl Y 166 i0 _ 4 32 underlying136 hi hz0 hz1 S rfl (by decide) _ _ _ rfl hox [yo,yf,yt,ya] rfl rfl (by simp[Value.oneCell']) (by omega) (by decide) jV.size _ rfl ?_);intro v9 w9 xJ sZ _)
     go_roundw
     case rel=>exact⟨k+1,hlt,by go_num,aL (aW.snoc (y:=⟨yo,yf,yt,ya⟩) xJ HN.out),jV.grown sZ jV.size (λq e'=>(gH Zc.out q e').1)⟩
     case measure=>simp[intOf];omega
    obtain rfl:k=L.length:=by omega
    have Z:=HOW.out;rw[gN]at Z;have hlt1:decide ((L.length:Int)<(L.length:Int))=false:=bN (by omega)
    obtain⟨m,hm⟩:∃m,m=Lk.leave L u:=⟨_,rfl⟩;rw[<-hm]at Z HR;clear hm HOW HL;obtain⟨A7,k7,rfl,hk7,hO7⟩:=DJ Z (X:=(p.plus (w.heap.size+1)).X) (λk hk=>nG.mX hk)
    have iU:=nG.below G;have fM:=kW.below G kW.lt;have rV:=uH.bf G;have N:=(G.cell (p:=⟨bD,d*3,none⟩) abl).trans N;have g3:=(G.cell (p:=⟨p.g,3,none⟩) YY).trans g3;obtain⟨bO',_,_,_,B,acP,_,f0,f1,f2,_,_,ff⟩:=iU.obc K;have e9:=slice_inj (B.symm.trans NL.out);rw[e9]at f2 ff acP;clear e9 B f0 f1 Z;have Q:=iU.set2 NL.out K hO7 hk7;have uy:=fM.far (p:=⟨D,t*3+2,none⟩) (λe=>VW (GA e)) (.slice A7 m.length k7)
    have xn:Fr p.C w (wr.setCell ⟨D,t*3+2,none⟩ (.slice A7 m.length k7)):=Fr.setCell rV (p:=⟨D,t*3+2,none⟩) (.inr (.inl (by show p.vO.ownBlock=_;rw[show p.vO=_ from NL.out];rfl))) _
    obtain⟨r8,Qk⟩:∃x,x=Rw.setOb r5 t λo=>{o with l:=m}:=⟨_,rfl⟩
    have Vz:=aL Qk;rw[<-Qk]at Q HR;clear Qk;go_upto_region 39 with fail
    go_region_held3 (λW=>W.cell? ⟨bD,d*3,none⟩=some (.int .i64 t)/\W.cell? ⟨p.g,3,none⟩=some (.slice D r5.objs.length cO)) (first|go_keep|exact⟨N,g3⟩) (fail)
    all_goals
     have Q:=Q.below (aa _ _).drew;have uy:=uy.drew;have xn:=xn.bf (aa _ _).drew;generalize (wr.setCell ⟨D,t*3+2,none⟩ (.slice A7 m.length k7)).drew=w8 at*;clear N g3 f2 ff iU fM rV hO7;have acQ:d<r8.des.length:=by rw[Vz.out];exact Zb
     have abm:t<r8.objs.length:=by rw[Vz.out];show t<(r5.objs.modify _ _).length;rw[gP];exact K
     have HD8:Hid (Rw.deAt r8 d=Rw.deAt r d):=aL (by rw[Vz.out,<-HD5.out];rfl)
     have hl8:r8.fds.length=4:=by rw[Vz.out];exact HS1.out
     have HF8:Hid (r8.fds=r5.fds/\r8.des=r5.des):=aL (by rw[Vz.out];exact⟨rfl,rfl⟩)
     have cU:=λW q=>Ar (p.plus (w.heap.size+1)) r8 t W q hl8 (by rw[HF8.out.1];exact HS2.out) (by rw[HF8.out.1,HF8.out.2,Xt.out];exact HS3.out)
     obtain⟨bD',cD',Jc,Zd,_,N,_,_,qf8⟩:=Q.dec acQ;have e9:=slice_inj (Jc.symm.trans I4.out);rw[e9,HD8.out,Dv.out]at N;rw[e9]at Zd;clear e9 Jc qf8;obtain⟨us,hus⟩:∃x,x=Rw.used r8 t:=⟨_,rfl⟩;rw[<-hus]at cU HR;clear hus;go_upto_region 40 with fail
     go_wp2_with fail;refine(cU _ Q).mono ?_
     rintro e w9 ⟨rfl,H⟩;have oq:=Q.below H;have pg:=uy.below H uy.lt;have lW:=xn.bf H;have N:=(H.cell (p:=⟨bD,d*3,none⟩) Zd).trans N;have adQ:=bE Zd H.size;clear H Q uy xn cU
     cases us
     rotate_left
     ·have HF:Hid (R=(r8,.ok)):=aL (HR.out.trans (by rw[av (by decide)]))
      have tu:(!true)=false:=rfl;have z:=pg.four;go_wp2_with fail;refine aD (v:= .agg #[(0:Int),(0:Int),Qs.e,()]) ?_ rfl ?_
      ·simp[results,results100,go_sem,z]
      rw[HF.out];exact aZ (a:= .ok) hga oq rfl rfl lW (Sub.refl _ _) rfl
     have HF:Hid (R=(Rw.setOb r8 t λ_=>Rw.zob,.ok)):=aL (HR.out.trans (by rw[aM rfl]))
     have tu:(!false)=true:=rfl;obtain⟨bO',cO',_,_,B,acR,_,f0,f1,f2,_,_,ff⟩:=oq.obc abm;have e9:=slice_inj (B.symm.trans NL.out);rw[e9]at f0 f1 f2 ff acR B;obtain⟨_,_,_,_,_,_,_,_,_,g3,_,_,_,_,_,nM⟩:=oq.cells;rw[B]at g3;have ig2:(t:Int)<(r8.objs.length:Int):=by omega
     have hA10:=(oq.set0 B t ⟨#[]⟩).set1 (by rw[Rw.n_];exact B) t ⟨#[]⟩
     have V:=hA10.set2 (A:=none) (cl:=0) (y:=[]) (by rw[Rw.n_,Rw.n_];exact B) (by rw[Rw.n_,Rw.n_];exact abm) (Off.always λ_=>Rd.nil) aR
     rw[Rw.PT]at V;have hq:D≠w.heap.size+1:=VW;have Bl:=((pg.far (p:=⟨D,t*3,none⟩) (λe=>hq (GA e)) (.string ⟨#[]⟩)).far (p:=⟨D,t*3+1,none⟩) (λe=>hq (GA e)) (.string ⟨#[]⟩)).far (p:=⟨D,t*3+2,none⟩) (λe=>hq (GA e)) (.slice none 0 0)
     have ZP:p.C D:= .inr (.inl (by show p.vO.ownBlock=_;rw[show p.vO=_ from NL.out];rfl))
     have Iq:Fr p.C w (((w9.setCell ⟨D,t*3,none⟩ (.string ⟨#[]⟩)).setCell ⟨D,t*3+1,none⟩ (.string ⟨#[]⟩)).setCell ⟨D,t*3+2,none⟩ (.slice none 0 0)):=((lW.setCell (p:=⟨D,t*3,none⟩) ZP _).setCell (p:=⟨D,t*3+1,none⟩) ZP _).setCell (p:=⟨D,t*3+2,none⟩) ZP _;go_upto_region 41 with fail
     go_region_held3 (λW=>W.cell? ⟨bD,d*3,none⟩=some (.int .i64 t)/\W.cell? ⟨p.g,3,none⟩=some (.slice D r8.objs.length cO')) (first|go_keep|exact⟨N,g3⟩) (fail)
     all_goals
      have V:=V.below (aa _ _).drew;have Bl:=Bl.drew;have Iq:=Iq.bf (aa _ _).drew;generalize (((w9.setCell ⟨D,t*3,none⟩ (.string ⟨#[]⟩)).setCell ⟨D,t*3+1,none⟩ (.string ⟨#[]⟩)).setCell ⟨D,t*3+2,none⟩ (.slice none 0 0)).drew=WB at*;clear N g3 f0 f1 f2 ff;have z:=Bl.four;go_wp2_with fail;refine aD (v:= .agg #[(0:Int),(0:Int),Qs.e,()]) ?_ rfl ?_
      ·simp[results,results100,go_sem,z]
      rw[HF.out];exact aZ (a:= .ok) hga V rfl rfl Iq (Sub.refl _ _) rfl
 exact absurd (show¬I=2 by simpa using t2) (by have:=Ag.out;omega)
theorem NQ:(prog.info? 5).map (λi=>(i.zero,i.size,i.bytes))=some (some (.int .u8 0),1,1):=by kernel_rfl
def b8(b:UInt8):Value:= .int .u8 (b.toNat:Int)
def mV(w:World)(base:Nat)(v:Value)(l:List UInt8):Prop:=
 ∃g cap,v= .slice (some ⟨g,0,none⟩) l.length cap/\base<=g/\g<w.heap.size/\l.length<=cap/\cap<=maxLen/\(∀j (h:j<l.length),w.cell? ⟨g,j,none⟩=some (b8 l[j]))/\(∀j,j<cap->(w.cell? ⟨g,j,none⟩).isSome=true)/\∀j,j<cap->w.frozen? ⟨g,j,none⟩=false
theorem mV.below{w w':World}{base:Nat}{v:Value}{l:List UInt8}(h:mV w base v l)(hb:Below w w w'):mV w' base v l:=by
 obtain⟨g,cap,e,k,b,o,i,n,c,m⟩:=h;refine⟨g,cap,e,k,bE b hb.size,o,i,λj a=>(hb.cell (p:=⟨g,j,none⟩) b).trans (n j a),λj a=> ?_,λj a=> ?_⟩
 ·rw[hb.cell (p:=⟨g,j,none⟩) b];exact c j a
 rw[hb.frozen (p:=⟨g,j,none⟩) b];exact m j a
theorem below_setCells{B:Nat}{w0:World}(b:Nat)(hb:B<=b):∀(vs:List Value) (o:Nat) (w:World),Below B w0 w->Below B w0 (w.setCells b o vs)
 |[],_,_,h=>h
 |_::r,o,_,h=>below_setCells b hb r (o+1) _ (h.setCell (p:=⟨b,o,none⟩) hb _)
theorem setCells_size(b:Nat):∀(vs:List Value) (o:Nat) (w:World),(w.setCells b o vs).heap.size=w.heap.size
 |[],_,_=>rfl
 |v::r,o,w=>by
  show((w.setCell ⟨b,o,none⟩ v).setCells b (o+1) r).heap.size=_
  rw[setCells_size b r];simp
theorem mV.put{w:World}{base:Nat}{l m:List UInt8}{g cap at_ n:Nat}(h1:base<=g)(h2:g<w)(h4:cap<=maxLen)(h5:∀j (h:j<l.length),w.cell? ⟨g,j,none⟩=some (b8 l[j]))(h6:∀j,j<cap->(w.cell? ⟨g,j,none⟩).isSome=true)(h7:∀j,j<cap->w.frozen? ⟨g,j,none⟩=false)(hn:(l.take at_++m++l.drop (at_+m.length)).length=n)(ha:at_<=l.length)(hc:at_+m.length<=cap)(hl:n<=cap):mV (w.setCells g at_ (m.map b8)) base (.slice g n cap) (l.take at_++m++l.drop (at_+m.length)):=by
 have b:∀j,j<(m.map b8).length->(w.cell? ⟨g,at_+j,none⟩).isSome=true:=λj a=>h6 _ (by rw[ib]at a;omega)
 refine⟨g,cap,by rw[hn],h1,by rw[setCells_size];exact h2,by rw[hn];exact hl,h4,λj a=> ?_,λj a=> ?_,λj a=> ?_⟩
 ·by_cases k:j<at_
  ·rw[World.cell?_setCells_out _ _ _ _ _ (λ_ _=> .inl k),h5 j (by omega)]
   congr 2
   rw[nE (by rw[bq,bR];omega),nE (by rw[bR];omega),Cu]
  by_cases o:j<at_+m.length
  ·obtain⟨i,rfl⟩:∃i,j=at_+i:=⟨j-at_,by omega⟩
   rw[World.cell?_setCells_in g (m.map b8) at_ w b i (by rw[ib];omega)]
   congr 1
   rw[List.getElem_map]
   congr 1
   rw[nE (by rw[bq,bR];omega),nW (by rw[bR];omega)]
   congr 1
   rw[bR];omega
  have e:j<l.length:=by
   rw[bq,bq,bR,gM]at a;omega
  rw[World.cell?_setCells_out _ _ _ _ _ (λ_ _=> .inr (by rw[ib];show at_+m.length<=j;omega)),h5 j e]
  congr 2
  rw[nW (by rw[bq,bR];omega),GJ]
  congr 1
  rw[bq,bR];omega
 ·by_cases c:at_<=j/\j<at_+m.length
  ·obtain⟨i,rfl⟩:∃i,j=at_+i:=⟨j-at_,by omega⟩
   rw[World.cell?_setCells_in g (m.map b8) at_ w b i (by rw[ib];omega)];rfl
  rw[World.cell?_setCells_out _ _ _ _ _ (λ_ _=>by rw[ib];show j<at_\/at_+m.length<=j;omega)];exact h6 j a
 rw[World.frozen?_setCells];exact h7 j a
theorem wC(g j:Nat):(g:Addr).add j=⟨g,j,none⟩:=by unfold Addr.add;split<;>simp_all
theorem LV(w:World)(C:Array Value)(t:TypeId)(j:Nat):(w.alloc (.cells C t)).frozen? ⟨w.heap.size,j,none⟩=false:=by
 have h:=(ai.new w t C.toList).frozen j
 rwa [Array.toArray_toList]at h
theorem Jd{w:World}{n k:Nat}{t:TypeId}(h:n<=1000000):grownCap w n k t<=maxLen:=grownCap_le_maxLen w n k t (by unfold maxLen;omega)
theorem DN(w:World)(s:ByteArray)(hs:s.size<=1000000):∃v w',(convert 9 157 (.string s)).run prog w= .ok v w'/\mV w' w v s.data.toList/\Below w w w':=by
 refine⟨_,_,Lib.run_convert_string_bytes w 9 157 5 s underlying9 underlying157 underlying5,?_,?_⟩
 ·have c:=grownCap_ge w s.size 0 5
  have b:(Lib.bytesCells w 5 s).size=grownCap w s.size 0 5:=by
   unfold Lib.bytesCells;rw[Array.size_append,Array.size_map,Array.size_replicate]
   show s.size+_=_
   omega
  refine⟨w.heap.size,_,by rw[af],aR,by rw[Lib.bytesWorld_size];omega,by rw[af];exact c,Jd hs,λj a=> ?_,λj a=> ?_,λj a=> ?_⟩
  ·rw[af]at a
   rw[Lib.bytesWorld_cell w _ s j a];unfold b8;rw[bi,bA (by rw[af];exact a)];rfl
  ·unfold World.cell?
   dsimp only;rw[Lib.bytesWorld_at_new];dsimp only;rw[CR (by rw[b];exact a)];rfl
  unfold World.frozen?;dsimp only;rw[Lib.bytesWorld_at_new];dsimp only;rw[b];simp;omega
 exact⟨rfl,rfl,rfl,by rw[Lib.bytesWorld_size];omega,λk e=>Lib.bytesWorld_at_old w _ s k e⟩
theorem TY{w:World}{base:Nat}{v:Value}{l:List UInt8}(h:mV w base v l)(hb:base<=w.heap.size)(hl:l.length<=1000)(ty:TypeId):∃v' w',(Builtin.append_ #[157,157] ty #[v,.slice w 1 1]).run prog (w.alloc (.cells #[.int .u8 0] 5))= .ok v' w'/\mV w' base v' (l++[0])/\Below base w w':=by
 obtain⟨G,I,q,b,r⟩:=lw NQ;obtain⟨g,cap,rfl,B,M,S,O,E,K,D⟩:=h.below ((aa w w).alloc aR (.cells #[.int .u8 0] 5));have L:Below base w (w.alloc (.cells #[.int .u8 0] 5)):=(aa base w).alloc hb _;have e:∀j u,([.int .u8 0]:List Value)[j]? =some u->(w.alloc (.cells #[.int .u8 0] 5)).cell? ((w.heap.size:Addr).add j)=some u:=λj u a=>by
  match j,a with
  |0,a=>exact((ai.new w 5 [.int .u8 0]).cell 0).trans a
 have o:base<=(w.alloc (.cells #[.int .u8 0] 5)).heap.size:=by rw[bX];omega
 generalize w.alloc (.cells #[.int .u8 0] 5)=W at*
 by_cases t:l.length+1<=cap
 ·have i:=run_storeCells_cells (P:=prog) g l.length [.int .u8 0] 0 W (λj a=>K _ (by simp at a;omega)) (λj a=>D _ (by simp at a;omega)) (by simp[Value.oneCell'])
  have H:=run_firstCells_some (P:=prog) W G.size 1 ⟨w.heap.size,0,none⟩ 1 1 [.int .u8 0] (by rw[b];rfl) e
  refine⟨.slice g (l.length+1) cap,W.setCells g l.length [.int .u8 0],?_,?_,below_setCells g B _ _ _ L⟩
  ·simp only[tQ]at i
   simp[Builtin.append_,u7 underlying157,sizeOf,typeInfo,I,b,Builtin.lenOf,t,Addr.add_lit];rw[b]at H;simp[H,i]
  have:=mV.put (w:=W) (base:=base) (l:=l) (m:=[0]) (g:=g) (cap:=cap) (at_:=l.length) (n:=l.length+1) B M O E K D (by simp) aR t t
  rw[gN,zw (by omega),ky]at this
  exact this
 have N:grownCap W (l.length+1) cap 5<=maxLen:=Jd (by omega)
 have p:=grownCap_ge W (l.length+1) cap 5;have F:cap<=1000:=by omega
 have Q:Builtin.nextslicecap (l.length+1) cap<=100000:=eT (nextslicecap_le (by omega)) (by omega)
 have k:=run_append_grow (P:=prog) W 157 ty 5 G _ underlying157 I q ⟨g,0,none⟩ l.length cap (l.map b8) (by rw[b,ib];omega) (λj u a=>by
  rw[pE]at a
  rcases z:l[j]? with _|x
  ·rw[z]at a;cases a
  rw[z]at a;obtain⟨A,rfl⟩:=List.getElem?_eq_some_iff.1 z;rw[wC];exact(E j A).trans a) ⟨w.heap.size,0,none⟩ 1 1 [.int .u8 0] (by rw[b];rfl) e (by omega) (by omega) (by rw[r];omega)
 refine⟨_,_,k,?_,((L.drew).alloc (by exact o) _)⟩
 have y:((l.map b8).toArray++ #[Value.int .u8 0]++Builtin.zeroCells (Value.int .u8 0).cells (grownCap W (l.length+1) cap 5- (l.length+1))).size=grownCap W (l.length+1) cap 5:=by
  rw[Array.size_append,Array.size_append,size_zeroCells];simp;rw[show(Value.int .u8 0).cells.size=1 from rfl]
  omega
 refine⟨W.heap.size,_,by rw[bq];rfl,o,by rw[bX];show W.heap.size<W.heap.size+1;omega,by rw[bq];exact p,N,λj a=> ?_,λj a=> ?_,λj a=> ?_⟩
 ·rw[show W.heap.size=W.drew.heap.size from rfl,World.cell?_alloc_mark]
  rw[bq]at a;have a:j<l.length+1:=a;rw[Ay (by simp;omega)]
  by_cases c:j<l.length
  ·rw[Ay (by simpa using c),nE c]
   simp[c]
  obtain rfl:j=l.length:=by omega
  rw[Array.getElem?_append_right (by simp),nW (by omega)]
  simp;rfl
 ·rw[show W.heap.size=W.drew.heap.size from rfl,World.cell?_alloc_mark,CR (by rw[y];exact a)];rfl
 rw[show W.heap.size=W.drew.heap.size from rfl]
 exact LV W.drew _ _ j
theorem Ze{a b c:World}{B:Nat}(h:Below B a b)(k:Below B b c)(_:B<=a.heap.size):Below B a c:=h.trans k
def abn:Value->Nat
 | .slice _ n _=>n
 |_=>0
theorem mV.back{w:World}{base:Nat}{v:Value}{l:List UInt8}(h:mV w base v l):(convert 157 9 v).run prog w= .ok (.string ⟨l.toArray⟩) w:=by
 obtain⟨g,cap,rfl,k,e,n,i,b,c,m⟩:=h;exact run_convert_bytes_back w 157 9 5 ⟨g,0,none⟩ cap l underlying157 underlying5 underlying9 λj a=>by rw[wC];exact b j a
theorem mV.len{w:World}{base:Nat}{v:Value}{l:List UInt8}(h:mV w base v l):∃g cap,v= .slice (some ⟨g,0,none⟩) l.length cap/\l.length<=cap/\cap<=maxLen:=by
 obtain⟨g,cap,rfl,c,e,b,a,_⟩:=h;exact⟨g,cap,rfl,b,a⟩
theorem Je:(prog.info? 5).map (·.size)=some 1:=by kernel_rfl
theorem TZ{w:World}{base g cap at_:Nat}{l:List UInt8}(h:mV w base (.slice g l.length cap) l)(s:ByteArray)(ha:at_+s.size<=l.length)(ty:TypeId)(c:Nat):∃v' w',(Builtin.copy_ #[157,9] ty #[.slice (some ⟨g,at_,none⟩) (l.length-at_) c,s]).run prog w= .ok v' w'/\mV w' base (.slice g l.length cap) (l.take at_++s.data.toList++l.drop (at_+s.size))/\Below base w w':=by
 obtain⟨G,r,e,t,y,B,z,A,x,u⟩:=h;injection e with p H D
 injection p with p
 injection p with p
 subst p D;have a:s.data.toList.length=s.size:=af s;have I:(s.data.toList.map b8).length=s.size:=by rw[ib,a]
 have k:=run_storeCells_cells (P:=prog) g at_ (s.data.toList.map b8) 0 w (λj E=>x _ (by omega)) (λj E=>u _ (by omega)) (λv F=>by
  obtain⟨b,_,rfl⟩:=List.mem_map.1 F;rfl)
 have o:Nat.min s.size (l.length-at_)=s.size:=qd (by omega)
 have q:List.take s.size (List.map (λb:UInt8=>Value.int IntKind.u8 (b.toNat:Int)) s)=s.data.toList.map b8:=by
  rw[fI (by rw[ib,a];exact aR)]
  rfl
 refine⟨goInt s.size,w.setCells g at_ (s.data.toList.map b8),?_,?_,below_setCells g t _ _ _ (aa _ _)⟩
 ·simp only[tQ]at k
  cases hq:prog.info? 5 with
  |none=>have:=Je;rw[hq]at this;cases this
  |some i=>
   simp[Builtin.copy_,u7 underlying157,Builtin.lenOf,Builtin.firstCells,sizeOf,typeInfo,hq,o];rw[q,k];simp[Result.andThen]
 have:=mV.put (w:=w) (base:=base) (l:=l) (m:=s.data.toList) (g:=g) (cap:=cap) (at_:=at_) (n:=l.length) t y z A x u (by rw[bq,bq,bR,gM,a];omega) (by omega) (by rw[a];omega) B
 rw[a]at this;exact this
theorem P6(w:World)(n:Nat)(hn:n<=1000):∃w',(Instr.makeSlice 157 (.int .i64 n) (.int .i64 n)).run prog w= .ok (.slice w n n) w'/\mV w' w (.slice w n n) (List.replicate n 0)/\Below w w w':=by
 obtain⟨i,l,g,a,c⟩:=lw NQ;have e:=run_makeSlice (P:=prog) w 157 5 i _ underlying157 l g .i64 .i64 n n (by omega) (rA _) (by rw[a,mH];omega) (by rw[c];omega) (by omega)
 rw[mH,a]at e;have k:madeCells (Value.int .u8 0).cells (n*1)=(List.replicate n (Value.int .u8 0)).toArray:=by
  rw[FJ]
  apply Array.ext
  ·rw[size_madeCells];simp
  intro j o m;simp[madeCells,Value.cells,Nat.mod_one]
 rw[k]at e;have h:=ai.new w 5 (List.replicate n (.int .u8 0));refine⟨_,e,⟨w.heap.size,n,by rw[rT],aR,by rw[bX];omega,by rw[rT];exact aR,by unfold maxLen;omega,λj b=> ?_,λj b=> ?_,λj _=>h.frozen j⟩,(aa _ w).alloc aR _⟩
 ·rw[h.cell j]
  rw[rT]at b;rw[List.getElem?_replicate,aM b,List.getElem_replicate];rfl
 rw[h.cell j,List.getElem?_replicate,aM b];rfl
theorem P7{w:World}{base base':Nat}{l m:List UInt8}{g cap:Nat}{A:Value}(h:mV w base (.slice g l.length cap) l)(k:mV w base' A m)(ty:TypeId):∃v' w',(Builtin.copy_ #[157,157] ty #[.slice g l.length cap,A]).run prog w= .ok v' w'/\mV w' base (.slice g l.length cap) (m.take l.length++l.drop m.length)/\Below base w w':=by
 obtain⟨Q,t,e,u,B,I,D,E,z,y⟩:=h;injection e with o S K
 injection o with o
 injection o with o
 subst o K;obtain⟨q,c,rfl,M,V,O,W,F,U,N⟩:=k;have hlen:((m.take l.length).map b8).length=Nat.min m.length l.length:=by rw[ib,bR,Nat.min_comm]
 have H:=run_copy_cells (P:=prog) w 157 157 5 (ty:=ty) g 0 l.length cap ⟨q,0,none⟩ m.length c ((m.take l.length).map b8) underlying157 Je hlen (λj v a=>by
  rw[pE]at a
  rcases p:(m.take l.length)[j]? with _|x
  ·rw[p]at a;cases a
  ·rw[p]at a
   obtain⟨r,rfl⟩:=List.getElem?_eq_some_iff.1 p;rw[bR]at r;rw[wC,Cu]at*;exact(F j (by omega)).trans a) (λj a=>by rw[mE];exact z j (by rw[hlen]at a;have:=Nat.min_le_right m.length l.length;have G:Nat.min m.length l.length=min m.length l.length:=rfl;omega)) (λj a=>by rw[mE];exact y j (by rw[hlen]at a;have:=Nat.min_le_right m.length l.length;have G:Nat.min m.length l.length=min m.length l.length:=rfl;omega)) (λv L=>by
  obtain⟨b,_,rfl⟩:=List.mem_map.1 L;rfl)
 refine⟨_,_,H,?_,below_setCells g u _ _ _ (aa _ _)⟩
 have i:(m.take l.length).length=min l.length m.length:=bR;have:=mV.put (w:=w) (base:=base) (l:=l) (m:=m.take l.length) (g:=g) (cap:=cap) (at_:=0) (n:=l.length) u B D E z y (by rw[bq,bq,bR,gM,i];omega) (bL _) (by omega) I
 rw[F4,vv,mE,i]at this;have e:l.drop (min l.length m.length)=l.drop m.length:=by
  rcases Nat.le_total m.length l.length with q|q
  ·rw[Nat.min_eq_right q]
  rw[qd q,zw aR,zw q]
 rw[e]at this;exact this
theorem LW(p:Rl)(r:Rw)(c:Ca)(w:World)(h:aO w p r)(hk:jr r)(hcs:jK c)(ho0:0<=c.owner)(dI:c.owner<4)(hv:¬(c.fd<0\/8<=c.fd\/Rw.fdAt r c.owner.toNat c.fd.toNat=none))(h0:c.kind=16):Calls prog 100 #[.pointer p.g,.agg #[c.kind,c.owner,c.fd,c.n,c.m,c.path,c.to,c.text,c.alone]] w (iJ p (Rw.use r c) w):=by
 obtain⟨R,hR⟩:∃R,R=Rw.use r c:=⟨_,rfl⟩;rw[<-hR];have F:=Rw.mQ (r:=r) (c:=c);obtain⟨l,co,cf,A,cm,cp,ct,cx,ca⟩:=c;dsimp only at ho0 dI hcs F hv h0 ⊢;obtain⟨E,rfl⟩:∃m:Nat,co=m:=⟨co.toNat,by omega⟩
 have i:=aL hR;have Z:=aL F;have HK:=aL hk;have hcx:cx.size<=1048576:=hcs.2.2;have kZ:E<4:=by omega
 have hga:w.heap.size<=w.heap.size+1:=by omega
 have hgs:p.g<w:=h.bz h.rH;have uu:=aL (λk (hk:p.C k)=>h.bz hk)
 have hbg:p.g≠w.heap.size:=by omega
 have EG:w.heap.size≠p.g:=by omega
 have hB0:=((aa w w).alloc aR (.cells #[l,E,cf,A,cm,cp,ct,cx,ca] 24)).alloc (((aa w w).alloc aR (.cells #[l,E,cf,A,cm,cp,ct,cx,ca] 24)).size) (.cells #[(0:Int),(0:Int),Qs.e,()] 43);have O:=(h.below ((aa w w).alloc aR (.cells #[l,E,cf,A,cm,cp,ct,cx,ca] 24))).plus (.cells #[(0:Int),(0:Int),Qs.e,()] 43);have hz0:=ai.new (w.alloc (.cells #[l,E,cf,A,cm,cp,ct,cx,ca] 24)) 43 [(0:Int),(0:Int),Qs.e,()];have hc0:=(ai.new w 24 [l,E,cf,A,cm,cp,ct,cx,ca]).alloc (.cells #[(0:Int),(0:Int),Qs.e,()] 43);rw[bX]at O hz0;have HV:=aL hv;have U:=aL h0;clear hR hk hcs h ho0 dI F hv h0;go_enter func100,ntmps100;go_upto_region 1 with fail
 generalize (w.alloc (.cells #[l,E,cf,A,cm,cp,ct,cx,ca] 24)).alloc (.cells #[(0:Int),(0:Int),Qs.e,()] 43)=w0 at*;have j:=hz0.four;have z:=hc0.nine;have hf0:¬(cf<0\/8<=cf):=λq=>HV.out (q.elim .inl λq=> .inr (.inl q))
 obtain⟨km,rfl⟩:∃m:Nat,cf=m:=⟨cf.toNat,by omega⟩
 have hk8:km<8:=by omega
 have tn:decide ((km:Int)<0)=false:=bN (by omega)
 have tm:decide (7<(km:Int))=false:=bN (by omega)
 have Nw:(0:Int)<=(E:Int):=gD _;have ib2:(E:Int)<4:=by omega
 have WL:(0:Int)<=(km:Int):=gD _;have WM:(km:Int)<8:=by omega
 have hfd:=O.VL HK.out kZ hk8;have hgz:p.g<w0:=O.bz O.rH;clear hf0;obtain⟨fo,hfo⟩:∃x,x=Rw.fdAt r E km:=⟨_,rfl⟩;rw[<-hfo,show(Rl.plus p (w.heap.size+1)).g=p.g from rfl]at hfd
 rcases fo with _|d
 ·exact absurd (.inr (.inr hfo.symm)) HV.out
 rw[show tC (some d)= .int .i64 (d:Int)from rfl]at hfd
 have Ny:=aL hfo.symm;have i:=aL (show R=if l=2 then Rw.callClose r E km d else if l=13 then Rw.callDup r E d else if l=5 then Rw.callSeek r d A else if l=14\/l=15 then Rw.callLock r ⟨l,E,km,A,cm,cp,ct,cx,ca⟩ (Rw.deAt r d).o else if l=3 then Rw.callRead r ⟨l,E,km,A,cm,cp,ct,cx,ca⟩ d else Rw.callWrite r ⟨l,E,km,A,cm,cp,ct,cx,ca⟩ d from i.out.trans (Z.out d hfo.symm (by omega) (by omega)))
 have td:decide ((d:Int)<0)=false:=bN (by omega)
 have hdl:d<r.des.length:=HK.out.ZL kZ hk8 Ny.out;clear hfo Z;refine eO (by kernel_rfl) (by kernel_rfl) ?_
 repeat(first|go_big_quiet_step (fail)|quiet_step (fail))
 refine ic ?_
 intro w1 hw';obtain⟨nq,b⟩:=hw';have hA1:aO w1 (p.plus (w.heap.size+1)) r:=by rw[b];exact O.below (below_drewN (aa _ _) nq)
 have hB1:Below w w w1:=by rw[b];exact below_drewN hB0 nq
 have hz1:=hz0.drewN nq;have hc1:=hc0.drewN nq;rw[<-b]at hz1 hc1;have hfd1:w1.cell? ⟨p.g,5+E*8+km,none⟩=some (.int .i64 (d:Int)):=by rw[b];exact hfd
 clear b j z;have sV:p.g<w1:=hA1.bz hA1.rH;clear hfd hgz O hB0 hz0 hc0;have j:=hz1.four;have z:=hc1.nine;go_upto_region 3 with fail
 refine eO (by kernel_rfl) (by kernel_rfl) ?_
 repeat(first|go_big_quiet_step (fail)|quiet_step (fail))
 refine ic ?_
 intro w2 hw';obtain⟨nq,b⟩:=hw';have hA2:aO w2 (p.plus (w.heap.size+1)) r:=by rw[b];exact hA1.below (below_drewN (aa _ _) nq)
 have hB2:Below w w w2:=by rw[b];exact below_drewN hB1 nq
 have hz2:=hz1.drewN nq;have hc2:=hc1.drewN nq;rw[<-b]at hz2 hc2;clear b j z;clear hfd1 sV hA1 hB1 hz1 hc1 tn tm td;have j:=hz2.four;have z:=hc2.nine;have hdF:=HK.out.ZM hdl;obtain⟨di,hdi⟩:∃y,y=(Rw.deAt r d).o:=⟨_,rfl⟩;obtain⟨Jv,Ap⟩:∃y,y=(Rw.deAt r d).fl:=⟨_,rfl⟩;obtain⟨dat,Y⟩:∃y,y=(Rw.deAt r d).at_:=⟨_,rfl⟩
 rw[<-hdi,<-Ap,<-Y]at hdF;obtain⟨hdo,TP,TQ,E_,Fa⟩:=hdF;have Dv:=aL hdi.symm;have NM:=aL Ap.symm;have LJ:=aL Y.symm;clear hdi Ap Y;have TR:(0:Int)<=(d:Int):=gD _;have TS:(d:Int)<(r.des.length:Int):=by omega
 obtain⟨bD,cD,rX,hbD,VT,q0,q1,q2,qf⟩:=hA2.dec hdl;rw[Dv.out]at q0;rw[NM.out]at q1;rw[LJ.out]at q2;obtain⟨_,_,_,_,_,_,_,_,_,_,g4,_,_,_,_,nM⟩:=hA2.cells;rw[rX]at g4;have cX:=λW q=>h_ (p.plus (w.heap.size+1)) r di W q hdo (by have:=HK.out.tl;omega)
 have htz:=HK.out.tx di;obtain⟨tx,htx⟩:∃tx,tx=Rw.textOf r di:=⟨_,rfl⟩;rw[<-htx]at cX htz;have Ui:=aL htx.symm;clear htx;go_upto_region 4 with fail
 go_wp2_with fail;refine(cX _ hA2).mono ?_
 rintro e w4 ⟨rfl,hb⟩;have V:=hA2.below hb;have I:=hz2.below hb hz2.lt;have S:=hc2.below hb hc2.lt;have hB4:=hB2.trans (hb.mono hB2.size);have r0:=(hb.cell (p:=⟨bD,d*3,none⟩) hbD).trans q0;have r1:=(hb.cell (p:=⟨bD,d*3+1,none⟩) hbD).trans q1;have r2:=(hb.cell (p:=⟨bD,d*3+2,none⟩) hbD).trans q2;have u:=bE hbD hb.size;have BA:bD≠w.heap.size+1:=V.ZN rX;have I4:=aL rX;clear j z hA2 hz2 hc2 hB2 hb q0 q1 q2 qf g4 cX nM hbD rX;have j:=I.four;have z:=S.nine;have qf:=V.Um I4.out;go_upto_region 6 with fail
 cases t2:l==2
 rotate_left
 ·exact absurd (show l=2 by simpa using t2) (by have:=U.out;omega)
 have i:=aL (i.out.trans (av (by simpa using t2)))
 cases t13:l==13
 rotate_left
 ·exact absurd (show l=13 by simpa using t13) (by have:=U.out;omega)
 have i:=aL (i.out.trans (av (by simpa using t13)))
 cases t5:l==5
 rotate_left
 ·exact absurd (show l=5 by simpa using t5) (by have:=U.out;omega)
 have i:=aL (i.out.trans (av (by simpa using t5)))
 by_cases hkl:l=14\/l=15
 ·exact absurd hkl (by have:=U.out;omega)
 have i:=aL (i.out.trans (av hkl));have t14:(l==14)=false:=by simp only[fq];exact λq=>hkl (.inl q)
 have t15:(l==15)=false:=by simp only[fq];exact λq=>hkl (.inr q)
 clear hkl
 cases t3:l==3
 rotate_left
 ·exact absurd (show l=3 by simpa using t3) (by have:=U.out;omega)
 have i:=aL (i.out.trans (av (by simpa using t3)))
 unfold Rw.callWrite at i;dsimp only at i;rw[Dv.out,NM.out,LJ.out,Ui.out]at i;have Q:(bits BinOp.and IntKind.i64 Jv 2==0)= !Sy.bit Jv 1:=qw E_ Fa 1
 cases tb:Sy.bit Jv 1
 ·have HF:=aL (i.out.trans (aM tb))
  rw[tb]at Q;have Q:(bits BinOp.and IntKind.i64 Jv 2==0)=true:=Q;clear i;go_wp2_with fail;refine(aA 8 _).mono ?_
  rintro e9 w9 ⟨rfl,t⟩;have oq:=V.below t;have pg:=I.below t I.lt;have lW:=(Fr.of hB4:Fr p.C w w4).bf t;clear j;have j:=pg.four;go_wp2_with fail;refine aD (v:= .agg #[(8:Int),(0:Int),Qs.e,()]) ?_ rfl ?_
  ·simp[results,results100,go_sem,j]
  rw[HF.out];exact aZ (a:=(.no 8)) hga oq rfl rfl lW (Sub.refl _ _) rfl
 have i:=aL (i.out.trans (av (by simp[tb])))
 rw[tb]at Q;have Q:(bits BinOp.and IntKind.i64 Jv 2==0)=false:=Q;obtain⟨vb,w5,kc,K,D⟩:=DN w4 tx (by omega)
 have lH:=V.below D;have G:=I.below D I.lt;have hc5:=S.below D S.lt;have dh:=hB4.trans (D.mono hB4.size);have s0:=(D.cell (p:=⟨bD,d*3,none⟩) u).trans r0;have s1:=(D.cell (p:=⟨bD,d*3+1,none⟩) u).trans r1;have s2:=(D.cell (p:=⟨bD,d*3+2,none⟩) u).trans r2;have L:=bE u D.size;have abo:w.heap.size<w4:=S.lt;have Xa:bD<w4:=u;have HA4:=aL V;have HZ4:=aL I;have Zv:=aL S;have HB4:=aL hB4;have HR0:=aL r0;obtain⟨tl,htl⟩:∃tl,tl=tx.data.toList:=⟨_,rfl⟩;have Zf:=aL (show tl.length=tx.size by rw[htl];exact af tx)
 rw[<-htl]at K;rw[<-htl]at i;have HTL:=aL htl;clear htl;obtain⟨gb,cb,rfl,acT,hcb2⟩:=K.len;have Zg:=aL K;have hgm:l=l:=rfl;clear hgm K;go_upto_region 10 with fail
 clear j z r0 r1 r2 kc V I S u qf;have j:=G.four;have z:=hc5.nine;have acU:tl.length<=100:=by have:=Zf.out;omega
 have hpz:=(HK.out.obF hdo).1
 cases t16:l==16
 ·exact absurd (show¬l=16 by simpa using t16) (by have:=U.out;omega)
 have i:=aL (i.out.trans (aM (by simpa using t16)))
 by_cases hr:A<0\/100<A
 ·have HF:=aL (i.out.trans (aM hr))
  have tn:decide (A<0)=true\/(decide (A<0)=false/\decide (100<A)=true):=by
   rcases si (A<0)with q|q
   ·exact .inl (fw q)
   exact .inr ⟨bN q,fw (hr.resolve_left q)⟩
  clear i hr
  rcases tn with tn|⟨tn,tm⟩
  all_goals
   go_wp2_with fail;refine(aA 3 _).mono ?_
   rintro e9 w9 ⟨rfl,t⟩;have oq:=lH.below t;have pg:=G.below t G.lt;have lW:=(Fr.of dh:Fr p.C w w5).bf t;clear j;have j:=pg.four;go_wp2_with fail;refine aD (v:= .agg #[(3:Int),(0:Int),Qs.e,()]) ?_ rfl ?_
   ·simp[results,results100,go_sem,j]
   rw[HF.out];exact aZ (a:=(.no 3)) hga oq rfl rfl lW (Sub.refl _ _) rfl
 have i:=aL (i.out.trans (av hr));have tn:decide (A<0)=false:=bN λq=>hr (.inl q)
 have tm:decide (100<A)=false:=bN λq=>hr (.inr q)
 obtain⟨B,rfl⟩:∃m:Nat,A=m:=⟨A.toNat,by omega⟩
 have hnn:B<=100:=by omega
 have i:=aL i.out;rw[mH]at i;clear hr;obtain⟨w6,km6,abp,H⟩:=P6 w5 B (by omega)
 have nG:=lH.below H;have kW:=G.below H G.lt;have pI:=dh.trans (H.mono dh.size);have s0:=(H.cell (p:=⟨bD,d*3,none⟩) L).trans s0;have abl:=bE L H.size;have hln:(List.replicate B (0:UInt8)).length=B:=rT;have N:mV w6 w5 (.slice w5 (List.replicate B (0:UInt8)).length B) (List.replicate B 0):=by rw[hln];exact abp
 have hcp:=λty=>P7 N (Zg.out.below H) ty
 rw[hln]at hcp;rw[show tl.take B++(List.replicate B 0).drop tl.length=Sy.sized tl B from by unfold Sy.sized;rw[List.drop_replicate]]at hcp
 clear abp N hln;go_upto_region 14 with fail
 clear km6 j z;obtain⟨v7,w7,Uk,N,hb7⟩:=hcp 3
 go_wp2_with (at_builtin;refine Lib.wpList_copy_run _ rfl _ _ 157 157 rfl _ _ rfl rfl Uk ?_)
 have M:Below w5 w5 w7:=H.trans hb7;have iU:=lH.below M;have fM:=G.below M G.lt;have jV:=dh.trans (M.mono dh.size);have s0:=(hb7.cell (p:=⟨bD,d*3,none⟩) L).trans s0;have adR:bD<w7:=bE L M.size;have j:=fM.four;have hbd:Below w7 w7 w7.drew:=(aa _ w7).drew;have kb:=(N.below hbd).back;rw[show(⟨(Sy.sized tl B).toArray⟩:ByteArray)=Sy.bytesOf (Sy.sized tl B)from rfl]at kb
 have abq:(Sy.bytesOf (Sy.sized tl B)).size=B:=by show(Sy.sized tl B).length=B;exact sized_len _ _
 generalize Sy.bytesOf (Sy.sized tl B)=sx at kb abq i;have cP:=λW q=>Dz (p.plus (w.heap.size+1)) r di sx W q hdo HK.out.us (by have:=HK.out.tl;omega) (by omega) (by omega) (HK.out.put _)
 have HF:=aL i.out;clear i;generalize Rw.put r di sx=q at cP HF;go_upto_region 15 with fail
 go_region_with (first|(go_at_call 128;refine(cP _ (iU.below hbd)).mono ?_;rintro e w8 ⟨rfl,vN,xn⟩;have uy:=(fM.below hbd fM.lt).Yo (iU.below hbd) xn)|(go_at_call 98;refine(aA _ _).mono ?_;rintro e w9 ⟨rfl,t⟩;have j:=(uy.below t uy.lt).four))
 all_goals
  have lW:Fr p.C w w9:=(((Fr.of jV:Fr p.C w w7).bf hbd).trans xn (Sub.refl _ _)).bf t;go_wp2_with fail;refine aD (v:= .agg #[q.2,(0:Int),Qs.e,()]) ?_ rfl ?_
  ·simp[results,results100,go_sem,j]
  rw[HF.out];exact aZ (a:=(.no q.2)) hga (vN.below t) rfl rfl lW (Sub.refl _ _) rfl
theorem LX(p:Rl)(r:Rw)(c:Ca)(w:World)(h:aO w p r)(hk:jr r)(hcs:jK c)(ho0:0<=c.owner)(dI:c.owner<4)(hv:¬(c.fd<0\/8<=c.fd\/Rw.fdAt r c.owner.toNat c.fd.toNat=none))(h0:¬(c.kind=2\/c.kind=13\/c.kind=5\/c.kind=14\/c.kind=15\/c.kind=3\/c.kind=16)):Calls prog 100 #[.pointer p.g,.agg #[c.kind,c.owner,c.fd,c.n,c.m,c.path,c.to,c.text,c.alone]] w (iJ p (Rw.use r c) w):=by
 obtain⟨R,hR⟩:∃R,R=Rw.use r c:=⟨_,rfl⟩;rw[<-hR];have Q:=Rw.mQ (r:=r) (c:=c);obtain⟨u,co,cf,cn,cm,cp,ct,cx,ca⟩:=c;dsimp only at ho0 dI hcs Q hv h0 ⊢;obtain⟨O,rfl⟩:∃m:Nat,co=m:=⟨co.toNat,by omega⟩
 have b:=aL hR;have nJ:=aL Q;have HK:=aL hk;have hcx:cx.size<=1048576:=hcs.2.2;have kZ:O<4:=by omega
 have hga:w.heap.size<=w.heap.size+1:=by omega
 have hgs:p.g<w:=h.bz h.rH;have uu:=aL (λk (hk:p.C k)=>h.bz hk)
 have hbg:p.g≠w.heap.size:=by omega
 have EG:w.heap.size≠p.g:=by omega
 have hB0:=((aa w w).alloc aR (.cells #[u,O,cf,cn,cm,cp,ct,cx,ca] 24)).alloc (((aa w w).alloc aR (.cells #[u,O,cf,cn,cm,cp,ct,cx,ca] 24)).size) (.cells #[(0:Int),(0:Int),Qs.e,()] 43);have hA0:=(h.below ((aa w w).alloc aR (.cells #[u,O,cf,cn,cm,cp,ct,cx,ca] 24))).plus (.cells #[(0:Int),(0:Int),Qs.e,()] 43);have hz0:=ai.new (w.alloc (.cells #[u,O,cf,cn,cm,cp,ct,cx,ca] 24)) 43 [(0:Int),(0:Int),Qs.e,()];have hc0:=(ai.new w 24 [u,O,cf,cn,cm,cp,ct,cx,ca]).alloc (.cells #[(0:Int),(0:Int),Qs.e,()] 43);rw[bX]at hA0 hz0;have HV:=aL hv;have Ag:=aL h0;clear hR hk hcs h ho0 dI Q hv h0;go_enter func100,ntmps100;go_upto_region 1 with fail
 generalize (w.alloc (.cells #[u,O,cf,cn,cm,cp,ct,cx,ca] 24)).alloc (.cells #[(0:Int),(0:Int),Qs.e,()] 43)=w0 at*;have Z:=hz0.four;have z:=hc0.nine;have hf0:¬(cf<0\/8<=cf):=λq=>HV.out (q.elim .inl λq=> .inr (.inl q))
 obtain⟨km,rfl⟩:∃m:Nat,cf=m:=⟨cf.toNat,by omega⟩
 have hk8:km<8:=by omega
 have tn:decide ((km:Int)<0)=false:=bN (by omega)
 have tm:decide (7<(km:Int))=false:=bN (by omega)
 have Nw:(0:Int)<=(O:Int):=gD _;have ib2:(O:Int)<4:=by omega
 have WL:(0:Int)<=(km:Int):=gD _;have WM:(km:Int)<8:=by omega
 have hfd:=hA0.VL HK.out kZ hk8;have hgz:p.g<w0:=hA0.bz hA0.rH;clear hf0;obtain⟨fo,hfo⟩:∃x,x=Rw.fdAt r O km:=⟨_,rfl⟩;rw[<-hfo,show(Rl.plus p (w.heap.size+1)).g=p.g from rfl]at hfd
 rcases fo with _|d
 ·exact absurd (.inr (.inr hfo.symm)) HV.out
 rw[show tC (some d)= .int .i64 (d:Int)from rfl]at hfd
 have Ny:=aL hfo.symm;have b:=aL (show R=if u=2 then Rw.callClose r O km d else if u=13 then Rw.callDup r O d else if u=5 then Rw.callSeek r d cn else if u=14\/u=15 then Rw.callLock r ⟨u,O,km,cn,cm,cp,ct,cx,ca⟩ (Rw.deAt r d).o else if u=3 then Rw.callRead r ⟨u,O,km,cn,cm,cp,ct,cx,ca⟩ d else Rw.callWrite r ⟨u,O,km,cn,cm,cp,ct,cx,ca⟩ d from b.out.trans (nJ.out d hfo.symm (by omega) (by omega)))
 have td:decide ((d:Int)<0)=false:=bN (by omega)
 have hdl:d<r.des.length:=HK.out.ZL kZ hk8 Ny.out;clear hfo nJ;refine eO (by kernel_rfl) (by kernel_rfl) ?_
 repeat(first|go_big_quiet_step (fail)|quiet_step (fail))
 refine ic ?_
 intro w1 hw';obtain⟨nq,l⟩:=hw';have hA1:aO w1 (p.plus (w.heap.size+1)) r:=by rw[l];exact hA0.below (below_drewN (aa _ _) nq)
 have hB1:Below w w w1:=by rw[l];exact below_drewN hB0 nq
 have hz1:=hz0.drewN nq;have hc1:=hc0.drewN nq;rw[<-l]at hz1 hc1;have hfd1:w1.cell? ⟨p.g,5+O*8+km,none⟩=some (.int .i64 (d:Int)):=by rw[l];exact hfd
 clear l Z z;have sV:p.g<w1:=hA1.bz hA1.rH;clear hfd hgz hA0 hB0 hz0 hc0;have Z:=hz1.four;have z:=hc1.nine;go_upto_region 3 with fail
 refine eO (by kernel_rfl) (by kernel_rfl) ?_
 repeat(first|go_big_quiet_step (fail)|quiet_step (fail))
 refine ic ?_
 intro w2 hw';obtain⟨nq,l⟩:=hw';have hA2:aO w2 (p.plus (w.heap.size+1)) r:=by rw[l];exact hA1.below (below_drewN (aa _ _) nq)
 have hB2:Below w w w2:=by rw[l];exact below_drewN hB1 nq
 have hz2:=hz1.drewN nq;have hc2:=hc1.drewN nq;rw[<-l]at hz2 hc2;clear l Z z;clear hfd1 sV hA1 hB1 hz1 hc1 tn tm td;have Z:=hz2.four;have z:=hc2.nine;have hdF:=HK.out.ZM hdl;obtain⟨di,hdi⟩:∃y,y=(Rw.deAt r d).o:=⟨_,rfl⟩;obtain⟨B,Ap⟩:∃y,y=(Rw.deAt r d).fl:=⟨_,rfl⟩;obtain⟨dat,hdat⟩:∃y,y=(Rw.deAt r d).at_:=⟨_,rfl⟩
 rw[<-hdi,<-Ap,<-hdat]at hdF;obtain⟨hdo,TP,TQ,E_,Fa⟩:=hdF;have Dv:=aL hdi.symm;have NM:=aL Ap.symm;have LJ:=aL hdat.symm;clear hdi Ap hdat;have TR:(0:Int)<=(d:Int):=gD _;have TS:(d:Int)<(r.des.length:Int):=by omega
 obtain⟨A,cD,rX,hbD,VT,q0,q1,q2,qf⟩:=hA2.dec hdl;rw[Dv.out]at q0;rw[NM.out]at q1;rw[LJ.out]at q2;obtain⟨_,_,_,_,_,_,_,_,_,_,g4,_,_,_,_,nM⟩:=hA2.cells;rw[rX]at g4;have cX:=λW q=>h_ (p.plus (w.heap.size+1)) r di W q hdo (by have:=HK.out.tl;omega)
 have htz:=HK.out.tx di;obtain⟨tx,htx⟩:∃tx,tx=Rw.textOf r di:=⟨_,rfl⟩;rw[<-htx]at cX htz;have Ui:=aL htx.symm;clear htx;go_upto_region 4 with fail
 go_wp2_with fail;refine(cX _ hA2).mono ?_
 rintro e w4 ⟨rfl,hb⟩;have mY:=hA2.below hb;have Y:=hz2.below hb hz2.lt;have hc4:=hc2.below hb hc2.lt;have hB4:=hB2.trans (hb.mono hB2.size);have r0:=(hb.cell (p:=⟨A,d*3,none⟩) hbD).trans q0;have r1:=(hb.cell (p:=⟨A,d*3+1,none⟩) hbD).trans q1;have r2:=(hb.cell (p:=⟨A,d*3+2,none⟩) hbD).trans q2;have G:=bE hbD hb.size;have BA:A≠w.heap.size+1:=mY.ZN rX;have K:=aL rX;clear Z z hA2 hz2 hc2 hB2 hb q0 q1 q2 qf g4 cX nM hbD rX;have Z:=Y.four;have z:=hc4.nine;have qf:=mY.Um K.out;go_upto_region 6 with fail
 cases t2:u==2
 rotate_left
 ·exact absurd (show u=2 by simpa using t2) (by have:=Ag.out;omega)
 have b:=aL (b.out.trans (av (by simpa using t2)))
 cases t13:u==13
 rotate_left
 ·exact absurd (show u=13 by simpa using t13) (by have:=Ag.out;omega)
 have b:=aL (b.out.trans (av (by simpa using t13)))
 cases t5:u==5
 rotate_left
 ·exact absurd (show u=5 by simpa using t5) (by have:=Ag.out;omega)
 have b:=aL (b.out.trans (av (by simpa using t5)))
 by_cases hkl:u=14\/u=15
 ·exact absurd hkl (by have:=Ag.out;omega)
 have b:=aL (b.out.trans (av hkl));have t14:(u==14)=false:=by simp only[fq];exact λq=>hkl (.inl q)
 have t15:(u==15)=false:=by simp only[fq];exact λq=>hkl (.inr q)
 clear hkl
 cases t3:u==3
 rotate_left
 ·exact absurd (show u=3 by simpa using t3) (by have:=Ag.out;omega)
 have b:=aL (b.out.trans (av (by simpa using t3)))
 unfold Rw.callWrite at b;dsimp only at b;rw[Dv.out,NM.out,LJ.out,Ui.out]at b;have U:(bits BinOp.and IntKind.i64 B 2==0)= !Sy.bit B 1:=qw E_ Fa 1
 cases tb:Sy.bit B 1
 ·have HF:=aL (b.out.trans (aM tb))
  rw[tb]at U;have U:(bits BinOp.and IntKind.i64 B 2==0)=true:=U;clear b;go_wp2_with fail;refine(aA 8 _).mono ?_
  rintro e9 w9 ⟨rfl,t⟩;have I:=mY.below t;have F:=Y.below t Y.lt;have lW:=(Fr.of hB4:Fr p.C w w4).bf t;clear Z;have Z:=F.four;go_wp2_with fail;refine aD (v:= .agg #[(8:Int),(0:Int),Qs.e,()]) ?_ rfl ?_
  ·simp[results,results100,go_sem,Z]
  rw[HF.out];exact aZ (a:=(.no 8)) hga I rfl rfl lW (Sub.refl _ _) rfl
 have b:=aL (b.out.trans (av (by simp[tb])))
 rw[tb]at U;have U:(bits BinOp.and IntKind.i64 B 2==0)=false:=U;obtain⟨vb,w5,kc,V4,E⟩:=DN w4 tx (by omega)
 have lH:=mY.below E;have jo:=Y.below E Y.lt;have hc5:=hc4.below E hc4.lt;have dh:=hB4.trans (E.mono hB4.size);have s0:=(E.cell (p:=⟨A,d*3,none⟩) G).trans r0;have s1:=(E.cell (p:=⟨A,d*3+1,none⟩) G).trans r1;have s2:=(E.cell (p:=⟨A,d*3+2,none⟩) G).trans r2;have TW:=bE G E.size;have abo:w.heap.size<w4:=hc4.lt;have Xa:A<w4:=G;have HA4:=aL mY;have HZ4:=aL Y;have Zv:=aL hc4;have HB4:=aL hB4;have HR0:=aL r0;obtain⟨tl,htl⟩:∃tl,tl=tx.data.toList:=⟨_,rfl⟩;have Zf:=aL (show tl.length=tx.size by rw[htl];exact af tx)
 rw[<-htl]at V4;rw[<-htl]at b;have HTL:=aL htl;clear htl;obtain⟨gb,cb,rfl,acT,hcb2⟩:=V4.len;have Zg:=aL V4;have hgm:u=u:=rfl;clear hgm V4;go_upto_region 10 with fail
 clear Z z r0 r1 r2 kc mY Y hc4 G qf;have Z:=jo.four;have z:=hc5.nine;have acU:tl.length<=100:=by have:=Zf.out;omega
 have hpz:=(HK.out.obF hdo).1
 cases t16:u==16
 rotate_left
 ·exact absurd (show u=16 by simpa using t16) (by have:=Ag.out;omega)
 have b:=aL (b.out.trans (av (by simpa using t16)))
 obtain⟨dn,rfl⟩:∃m:Nat,dat=m:=⟨dat.toNat,by omega⟩
 rw[mH]at b;obtain⟨a,ha⟩:∃a:Nat,a=if Sy.bit B 2=true then tl.length else dn:=⟨_,rfl⟩
 rw[<-ha]at b;have ha1:a<=1000:=by rw[ha];split<;>omega
 have hb4:(bits BinOp.and IntKind.i64 B 4 !=0)=Sy.bit B 2:=Eu E_ Fa 2;have HA9:=aL ha;clear ha;obtain⟨xl,hxl⟩:∃xl,xl=cx.data.toList:=⟨_,rfl⟩;have V5:=aL (show xl.length=cx.size by rw[hxl];exact af cx)
 rw[<-hxl]at b;have HXL:=aL hxl;clear hxl;have tbx:((bits BinOp.and IntKind.i64 B 4 !=0)=false/\Hid (((dn:Nat):Int)=(a:Int)))\/((bits BinOp.and IntKind.i64 B 4 !=0)=true/\Hid (((tl.length:Nat):Int)=(a:Int))):=by
  cases tb2:Sy.bit B 2
  ·exact .inl ⟨by rw[hb4,tb2],aL (by rw[HA9.out,av (by rw[tb2];decide)])⟩
  exact .inr ⟨by rw[hb4,tb2],aL (by rw[HA9.out,aM tb2])⟩
 clear hb4
 rcases tbx with⟨hb4,HH⟩|⟨hb4,HH⟩
 all_goals
  go_upto_region 19 with fail
  rw[HH.out];clear hb4 U HA9;have adS:(cx.size:Int)<=1048576:=by omega
  have wA:IntKind.i64.wrap ((a:Int)+(cx.size:Int))=(a:Int)+(cx.size:Int):=lm _ (by omega)
  by_cases hx0:xl=[]
  ·have hz0':cx.size=0:=by rw[<-V5.out,hx0];rfl
   have HF:=aL (b.out.trans (aM hx0));have tx0:decide ((0:Int)<(cx.size:Int))=false:=bN (by omega)
   have hae:(a:Int)+(cx.size:Int)=(a:Int):=by omega
   have wA:IntKind.i64.wrap ((a:Int)+(cx.size:Int))=(a:Int):=by rw[wA,hae]
   have nG:=lH.setAt K.out d (a:Int);have kW:=jo.far (p:=⟨A,d*3+2,none⟩) (λe=>BA (GA e)) (.int .i64 (a:Int))
   have hc6:=hc5.far (p:=⟨A,d*3+2,none⟩) (show w.heap.size≠A from λe=>by have h1:=uu.out A (.inr (.inr (by show p.vD.ownBlock=_;rw[show p.vD=_ from K.out];rfl)));omega) (.int .i64 (a:Int))
   have uH:Fr p.C w (w5.setCell ⟨A,d*3+2,none⟩ (.int .i64 (a:Int))):=Fr.setCell (Fr.of dh) (p:=⟨A,d*3+2,none⟩) (.inr (.inr (by show p.vD.ownBlock=_;rw[show p.vD=_ from K.out];rfl))) _
   have qf5:=lH.Um K.out;go_upto_region 29 with fail
   clear Z z s0 s1 s2;generalize w5.setCell ⟨A,d*3+2,none⟩ (.int .i64 (a:Int))=w6 at*;have Z:=kW.four;have z:=hc6.nine;have F:((cx.size:Nat):Int)=0:=by omega
   rw[F]at*;go_wp2_with fail;refine aD (v:= .agg #[(0:Int),(0:Int),Qs.e,()]) ?_ rfl ?_
   ·simp[results,results100,go_sem,Z]
   rw[HF.out];exact aZ (a:= .ok) hga nG rfl rfl uH (Sub.refl _ _) rfl
  have b:=aL (b.out.trans (av hx0));have hx1:0<cx.size:=by rw[<-V5.out];exact List.length_pos_iff.2 hx0
  have tx0:decide ((0:Int)<(cx.size:Int))=true:=fw (by omega)
  rw[V5.out]at b
  cases tv:decide ((100:Int)<(a:Int)+(cx.size:Int))
  rotate_left
  ·have HF:=aL (b.out.trans (aM (by have:=iA tv;omega)))
   go_wp2_with fail;refine(aA 4 _).mono ?_
   rintro e9 w9 ⟨rfl,t⟩;have I:=lH.below t;have F:=jo.below t jo.lt;have lW:=(Fr.of dh:Fr p.C w w5).bf t;clear Z;have Z:=F.four;go_wp2_with fail;refine aD (v:= .agg #[(4:Int),(0:Int),Qs.e,()]) ?_ rfl ?_
   ·simp[results,results100,go_sem,Z]
   rw[HF.out];exact aZ (a:=(.no 4)) hga I rfl rfl lW (Sub.refl _ _) rfl
  have hae:a+cx.size<=100:=by have:=j6 tv;omega
  have b:=aL (b.out.trans (av (by omega)))
  obtain⟨M,hM⟩:∃M,M=max (a+cx.size) tl.length:=⟨_,rfl⟩;rw[<-hM]at b;have hM1:a+cx.size<=M:=by omega
  have hM2:tl.length<=M:=by omega
  have hM3:M<=100:=by omega
  have hM4:M=a+cx.size\/M=tl.length:=by omega
  clear hM;have ZB:=aL hc5;go_wp2
  go_loopw [17] (λv wr=>∃j:Nat,tl.length+j<=M/\Hid (mV wr w4 v (tl++List.replicate j 0))/\Below w4 w5 wr) (λv _=>200-abn v)
  case atStart=>exact⟨0,by omega,aL (by rw[List.replicate_zero,ky];exact Zg.out),aa _ _⟩
  case round=>
   obtain⟨j,hj,HBW,hBw⟩:=hrel;obtain⟨gw,cw,rfl,abr,hcw2⟩:=HBW.out.len;have hlj:(tl++List.replicate j (0:UInt8)).length=tl.length+j:=by rw[bq,rT]
   rw[hlj]at abr HBW ⊢;have HLJ:=aL hlj;clear hlj;have HCr:=aL (hc5.below hBw abo);have z:=HCr.out.nine
   cases tj:decide (((tl.length+j:Nat):Int)<(a:Int)+(cx.size:Int))
   all_goals
    have tj':=tj;rw[Int.natCast_add]at tj'
   rotate_left
   ·have hjm:tl.length+(j+1)<=M:=by have:=iA tj;omega
    obtain⟨v9,w9,hr9,D,t⟩:=TY HBW.out (eT E.size hBw.size) (by rw[HLJ.out];omega) 157
    rw[tT,show List.replicate j (0:UInt8)++[0]=List.replicate (j+1) 0 from(List.replicate_succ' ..).symm]at D
    go_wp2_with (at_builtin;refine Lib.wpList_append_run _ rfl _ _ 157 157 rfl _ _ rfl rfl _ _ hr9 ?_)
    obtain⟨g9,k9,hv9,hk9,_⟩:=D.len;subst hv9;go_roundw
    case rel=>exact⟨j+1,hjm,aL D,Ze hBw t E.size⟩
    case measure=>simp only[abn];rw[bq,rT];omega
   have hjM:tl.length+j=M:=by
    have:=j6 tj;omega
   have Qh:Hid (tl++List.replicate j (0:UInt8)=Sy.sized tl M):=aL (by unfold Sy.sized;rw[fI hM2,show M-tl.length=j by omega])
   have hsl:(Sy.sized tl M).length=M:=sized_len _ _;have Ql:=HBW.out;rw[Qh.out]at Ql;have e1:tl.length+j=(Sy.sized tl M).length:=by rw[hsl];exact hjM
   rw[e1]at Ql;rw[e1];clear e1 abr;obtain⟨S,hS⟩:∃S,S=Sy.sized tl M:=⟨_,rfl⟩;rw[<-hS]at Ql hsl b ⊢;have HS:=aL hS;have Jt:=aL hsl;obtain⟨N,hN⟩:∃N,N=S.length:=⟨_,rfl⟩;have hNM:N<=100:=by omega
   have haN:a+cx.size<=N:=by omega
   have hNc:N<=cw:=by obtain⟨_,_,e,h1,_⟩:=Ql.len;injection e with _ _ e3;omega
   have acV:Below w4 wr wr.drew:=(aa _ wr).drew;obtain⟨v9,w9,hr9,D,t⟩:=TZ (Ql.below (aa _ wr).drew) cx (at_:=a) (by omega) 3 (cw-a)
   rw[<-hN]at hr9 D ⊢;have HN:=aL hN;have acW:=aL D;have hac:¬cw=a:=by omega
   have adT:¬a=cw:=by omega
   have i1:(0:Int)<=(a:Int):=gD _;have i2:(a:Int)<=(N:Int):=by omega
   have i3:(N:Int)<=(cw:Int):=by omega
   have e2:((a:Int)).toNat=a:=mH a;clear hS hsl hN D hM1 hM2 hM3 hM4 Ql Qh hj hjM;have hmo:prog.follows .mixedOrders=true:=by kernel_rfl
   go_upto_region 24 with fail
   go_region_law_o (refine step_copy_runI rfl _ _ 157 9 rfl _ _ (by simp[Act.eval]) (by simp[Act.eval]) hr9 ?_)
   have H:Below w4 w4 w9:=((E.trans hBw).trans acV).trans t;have I:=HA4.out.below H;have F:=HZ4.out.below H HZ4.out.lt;have Wp:=Zv.out.below H Zv.out.lt;have jv:=HB4.out.trans (H.mono HB4.out.size);have s0:=(H.cell (p:=⟨A,d*3,none⟩) Xa).trans HR0.out;have hbd:Below w9 w9 w9.drew:=(aa _ w9).drew;have kb:=(acW.out.below hbd).back;obtain⟨sx,hsx⟩:∃sx,sx=Sy.bytesOf (S.take a++xl++S.drop (a+cx.size)):=⟨_,rfl⟩;rw[show(⟨(S.take a++cx.data.toList++S.drop (a+cx.size)).toArray⟩:ByteArray)=sx by rw[hsx,HXL.out];rfl]at kb
   have abq:sx.size<=100:=by
    rw[hsx]
    show(S.take a++xl++S.drop (a+cx.size)).length<=100
    rw[bq,bq,bR,gM,V5.out];have:=HN.out;omega
   have HRW:=aL b.out;rw[<-hsx]at HRW;clear hsx b hr9;have hput:=Rw.VK (r:=r) (i:=di) (x:=sx);have cP:=λW q=>Dz (p.plus (w.heap.size+1)) r di sx W q hdo HK.out.us (by have:=HK.out.tl;omega) (by omega) (by omega) (HK.out.put _)
   generalize Rw.put r di sx=q at cP HRW hput;have Zh:=aL hput;clear hput Z z;go_upto_region 25 with fail
   go_region_with (first|(go_at_call 128;refine(cP _ (I.below hbd)).mono ?_;rintro e w10 ⟨rfl,L,TK⟩;have xG:=(F.below hbd F.lt).Yo (I.below hbd) TK;have UW:=(Wp.below hbd Wp.lt).fr TK λhc=>by have h1:=uu.out _ hc;omega))
   all_goals
    have Iq:Fr p.C w w10:=((Fr.of jv:Fr p.C w w9).bf hbd).trans TK (Sub.refl _ _);have Z:=xG.four;have z:=UW.nine;obtain⟨qr,qe⟩:=q;dsimp only at L Zh HRW
    cases te:qe !=0
    rotate_left
    ·have HF:=aL (HRW.out.trans (aM (by simpa using te)))
     go_wp2_with fail;refine(aA qe _).mono ?_
     rintro e9 w9 ⟨rfl,t⟩;have I:=L.below t;have F:=xG.below t xG.lt;have lW:=Iq.bf t;clear Z;have Z:=F.four;go_wp2_with fail;refine aD (v:= .agg #[qe,(0:Int),Qs.e,()]) ?_ rfl ?_
     ·simp[results,results100,go_sem,Z]
     rw[HF.out];exact aZ (a:=(.no qe)) hga I rfl rfl lW (Sub.refl _ _) rfl
    obtain rfl:qe=0:=by simpa using te
    have HF:=aL (HRW.out.trans (av (by decide)))
    rw[show((a+cx.size:Nat):Int)=(a:Int)+(cx.size:Int)from Int.natCast_add a cx.size]at HF
    have abt:d<qr.des.length:=by rw[Zh.out];exact hdl
    have V:(p.plus (w.heap.size+1)).vD= .slice A qr.des.length cD:=by rw[Zh.out];exact K.out
    have acX:=L.Um V;obtain⟨bD',cD',Jc,abu,_,t0,t1,t2,_⟩:=L.dec abt;have e9:=slice_inj (Jc.symm.trans V);rw[e9]at t2 abu;have acY:=L.setAt V d ((a:Int)+(cx.size:Int));have Tu:=xG.far (p:=⟨A,d*3+2,none⟩) (λe=>BA (GA e)) (.int .i64 ((a:Int)+(cx.size:Int)))
    have hne:w.heap.size≠A:=λe=>by have h1:=uu.out A (.inr (.inr (by show p.vD.ownBlock=_;rw[show p.vD=_ from K.out];rfl)));omega
    have hc12:=UW.far (p:=⟨A,d*3+2,none⟩) hne (.int .i64 ((a:Int)+(cx.size:Int)));have acZ:Fr p.C w (w10.setCell ⟨A,d*3+2,none⟩ (.int .i64 ((a:Int)+(cx.size:Int)))):=Fr.setCell Iq (p:=⟨A,d*3+2,none⟩) (.inr (.inr (by show p.vD.ownBlock=_;rw[show p.vD=_ from K.out];rfl))) _
    clear e9 Jc;go_upto_region 29 with fail
    clear Z z t0 t1 t2 acX;generalize w10.setCell ⟨A,d*3+2,none⟩ (.int .i64 ((a:Int)+(cx.size:Int)))=w12 at*;have Z:=Tu.four;have z:=hc12.nine;go_wp2_with fail;refine aD (v:= .agg #[(0:Int),cx.size,Qs.e,()]) ?_ rfl ?_
    ·simp[results,results100,go_sem,Z]
    rw[HF.out];exact aZ (a:=⟨0,(cx.size:Int),⟨#[]⟩,[]⟩) hga acY rfl rfl acZ (Sub.refl _ _) rfl
theorem P8(p:Rl)(r:Rw)(c:Ca)(w:World)(h:aO w p r)(hk:jr r)(hcs:jK c)(ho0:0<=c.owner)(dI:c.owner<4):Calls prog 100 #[.pointer p.g,.agg #[c.kind,c.owner,c.fd,c.n,c.m,c.path,c.to,c.text,c.alone]] w (iJ p (Rw.use r c) w):=by
 by_cases a:(c.fd<0\/8<=c.fd\/Rw.fdAt r c.owner.toNat c.fd.toNat=none)
 ·exact LH p r c w h hk hcs ho0 dI a trivial
 by_cases j:c.kind=2
 ·exact LU p r c w h hk hcs ho0 dI a j
 by_cases b:c.kind=13\/c.kind=5
 ·exact I5 p r c w h hk hcs ho0 dI a b
 by_cases i:c.kind=14\/c.kind=15
 ·exact LM p r c w h hk hcs ho0 dI a i
 by_cases k:c.kind=3
 ·exact LP p r c w h hk hcs ho0 dI a k
 by_cases e:c.kind=16
 ·exact LW p r c w h hk hcs ho0 dI a e
 exact LX p r c w h hk hcs ho0 dI a (by omega)
end Go.Proofs.YtjppfhgkanbemabGreatDoor
