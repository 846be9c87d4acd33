/- A part of the proof of SysTells: SC. -/
import Derived.Test.YtjppfhgkanbemabGreatDoorMB
import Derived.Test.YtjppfhgkanbemabGreatDoorSyStrs
import Derived.Test.YtjppfhgkanbemabGreatDoorMC
import Derived.Ground.NamesProg
import Derived.Lib.Agree
import Derived.WalkKit
import Derived.WalkSpells
import Derived.WalkLawsBesides
import Derived.Outline
import Derived.Test.YtjppfhgkanbemabGreatDoorSB
import Derived.Test.YtjppfhgkanbemabGreatDoorUA
set_option maxHeartbeats 8000000
set_option maxRecDepth 100000
set_option linter.all false
namespace Go.Proofs.YtjppfhgkanbemabGreatDoor
open Tryz
open Go.RowKit Go.Shelf
theorem RN:Builder.Extra prog lays105_ren where
 sizeBuilder:=by kernel_rfl
 liesBuilder:=by kernel_rfl
 t5:=lays105.t5
 a5:=lays105.a5
 z5:=lays105.z5
 v5:=lays105.v5
 infoByte:=by kernel_rfl
 cellsByte:=by kernel_rfl
 sizeByte:=by kernel_rfl
 neB5:=by decide
theorem aar:lays105_ren.f 105=176:=by kernel_rfl
theorem Kt(c:Nat)(w:World)(hc:c<=1000000):Calls prog 176 #[.string ⟨#[0]⟩,c] w λe w'=>e= .returned (Pt.str (List.replicate c 0))/\Below w w w':=by
 have h:=Any.strings_Repeat lays105 RN ⟨#[0]⟩ c w (by omega) (by show 1*c<=_;omega)
 rw[aar]at h;refine h.mono λe w' ⟨b,a⟩=>⟨?_,a⟩
 rw[b];have e:=Lib.repeatL_replicate 0 1 c;rw[FJ]at e;rw[show(⟨#[0]⟩:ByteArray).data.toList=List.replicate 1 0 from rfl,e]
 rfl
theorem sS{a b:ByteArray}(h:a.data.toList=b.data.toList):a=b:=by
 cases a;cases b
 congr 1
 exact Array.ext' h
theorem Dq(t:ByteArray)(n:Nat)(w:World)(hn:n<=100000)(ht:t.size<=100000):Calls prog 141 #[t,n] w λe w'=>e= .returned (.string (Sy.bytesOf (Sy.sized t n)))/\Below w w w':=by
 have g:t.data.toList.length=t.size:=af t
 rcases iB t.size n with h|h
 ·have j:decide ((n:Int)<=(t.size:Int))=false:=bN (by omega)
  have i:IntKind.i64.wrap ((n:Int)- (t.size:Int))=((n-t.size:Nat):Int):=by rw[lm ((n:Int)- (t.size:Int)) (by omega)];omega
  have c:=Kt (n-t.size) w (by omega)
  have a:Hid ((t++⟨(List.replicate (n-t.size) (0:UInt8)).toArray⟩:ByteArray)=Sy.bytesOf (Sy.sized t n)):=aL (sS (by
   rw[gQ];unfold Sy.sized Sy.bytesOf;rw[fI (by omega),g]))
  unfold Pt.str at c;have b:(⟨(List.replicate (n-t.size) (0:UInt8)).toArray⟩:ByteArray).size<=100000:=by
   show(List.replicate (n-t.size) (0:UInt8)).toArray.size<=100000
   simp;omega
  generalize n-t.size=k at c i a b;generalize (⟨(List.replicate k (0:UInt8)).toArray⟩:ByteArray)=z at c a b;go_enter func141,ntmps141;go_wp2_with fail;refine c.mono ?_
  rintro e m ⟨rfl,l⟩;go_wp2_with fail;refine aD (v:= .string (t++z)) ?_ rfl ?_
  ·simp[results,results141,go_sem]
  exact⟨by rw[<-a.out],l⟩
 have j:decide ((n:Int)<=(t.size:Int))=true:=fw (by omega)
 have a:Hid (t.extract 0 n=Sy.bytesOf (Sy.sized t n)):=aL (sS (by
  unfold Sy.sized Sy.bytesOf;rw[Nat.sub_eq_zero_of_le (by omega)]
  simp[ByteArray.data_extract]))
 go_enter func141,ntmps141;have o:n<=t.size:=h;clear h;go_wp2_with fail;refine aD (v:= .string (t.extract 0 n)) ?_ rfl ?_
 ·simp[results,results141,go_sem]
 exact⟨by rw[<-a.out],aa _ _⟩
open Go.RowKit Go.Shelf Go.Sort
def Ht(p:Pl)(r:St×Int)(w:World)(e:Ending)(w':World):Prop:=
 e= .returned (.int .i64 r.2)/\aQ w' p r.1/\Fr p.C w w'
theorem qp.rel{p:Pl}{s:St}{r:Un×Int}{w w':World}{e:Ending}(h:qp p s r w e w'):Ht p (Sy.set s r) w e w':=⟨h.1,h.2.1,h.2.2.wide λ_ _ e=>e▸(.inl rfl:p.C p.gs)⟩
theorem aQ.un{w:World}{p:Pl}{s:St}(h:aQ w p s):∃AU AL cU cL,w.cell? p.gs=some (.slice AU s.u.U.length cU)/\w.cell? ⟨p.gs,1,none⟩=some (.slice AL s.u.L.length cL)/\bT w w AU AL cU cL s.u:=by
 obtain⟨AU,AL,c,cU,cL,e,a,b,_,_⟩:=h.box;exact⟨AU,AL,cU,cL,a.cell 0,a.cell 1,b.here⟩
theorem Ew{s:St}(h:Sy.Ok s)(e:En)(h0:(Tr.putU s.u e).2=0):iR (Tr.putU s.u e).1:=dU ((Tr.putU_tree h.1 e).2 h0).1
theorem write_any(p:Pl)(s:St)(n i:Nat)(t:ByteArray)(w:World)(h:aQ w p s)(hi:Sy.In n s)(hn:n<=1000)(hk:Sy.Ok s)(hl:i<s.obs.length)(ht:t.size<=1000000):Calls prog 140 #[.pointer p.gs,.pointer (p.f i:Nat),t] w (Ht p (Sy.write s i t) w):=by
 obtain⟨AU,U,cU,Y,g0,g1,D⟩:=h.un;have M:p.gs<w:=h.bz h.jq;have K:=aL h;obtain⟨A,c,O,I,z⟩:=h.ob i hl;have B:=aL I;have hgb:=h.Ko hl;have cT:=uA p s n i w h hi hn hk hl;have L:(Sy.obAt s i).p.size<=80*(n+1):=(hi.obAt i).1;unfold Ht;obtain⟨R,S⟩:∃R,R=Sy.write s i t:=⟨_,rfl⟩;rw[<-S];unfold Sy.write at S;have g:=aL S;clear S hi h I;have r:Hid (Sy.fileEn (Sy.obAt s i).P t=⟨(Sy.obAt s i).p,1,t,false⟩):=aL (by unfold Sy.fileEn;rw[show Sy.bytesOf (Sy.obAt s i).P=(Sy.obAt s i).p from rfl])
 obtain⟨o,ho⟩:∃o,o=Sy.obAt s i:=⟨_,rfl⟩;have HOO:=aL ho;rw[<-ho]at g r O B z L;clear ho;obtain⟨E,ot,l⟩:=o;have hP:(⟨E,ot,l⟩:Ob).P=E.data.toList:=rfl;rw[hP]at g r;rw[r.out]at g;dsimp only at O L B z;obtain⟨f0,f1,f2,ff,fz⟩:=O.three;generalize hgf:p.f i=Q at*;have v:=aL hgf;clear hgf;clear r hP;go_enter func140,ntmps140
 rcases t1:decide ((100:Int)<(t.size:Int))with _|_
 rotate_left
 ·have j:Hid (R=(s,4)):=aL (by rw[g.out,aM (by have:=iA t1;omega)])
  clear g;go_wp2;go_ret;exact⟨by rw[j.out];rfl,by rw[j.out];exact K.out,Fr.refl _ _⟩
 have g:=aL (g.out.trans (av (by have:=j6 t1;omega)))
 have V:t.size<=100:=by have:=j6 t1;omega
 rcases aG E with⟨hE,e1,e2⟩|⟨hE,e1,e2⟩
 ·have j:=aL (g.out.trans (aM hE))
  clear g;go_wp2;go_ret;have m:Fr (λk=>k=Q) w (w.setCell ⟨Q,1,none⟩ (.string t)):=(Fr.refl (λk=>k=Q) w).at_ 1 _
  refine⟨by rw[j.out];rfl,?_,by rw[<-v.out]at m ⊢;exact m.wide λ_ _ e=>e▸K.out.Fe hl⟩
  rw[j.out];refine K.out.setOb hl (by rw[v.out];exact m) (λo=>{o with t:=t}) ?_
  rw[<-HOO.out,v.out];exact⟨A,c,O.bY 1 _,B.out.on (m.wide (X:=p.X) λ_ _ e=>by rw[e,<-v.out];exact Pl.cx (K.out.Fe hl)) (Sub.refl _ _),z⟩
 have g:=aL (g.out.trans (av hE));obtain⟨tx,G⟩:∃tx,tx=Sy.textOf s i:=⟨_,rfl⟩;rw[<-G]at g cT;clear G;go_wp2_with fail;refine cT.mono ?_
 rintro e x ⟨rfl,a⟩;have y:=aL (K.out.below a);have g0:=(a.cell (p:=p.gs) M).trans g0;have g1:=(a.cell (p:=⟨p.gs,1,none⟩) M).trans g1;have f0:=(a.cell (p:=Q) fz).trans f0;have D:bT x x AU U cU Y s.u:=(D.below a).more a.size
 rcases N:(t.toList==tx.toList)with _|_
 rotate_left
 ·have j:=aL (g.out.trans (aM (by rw[aj]at N;simpa using N)))
  clear g;go_wp2;go_ret;exact⟨by rw[j.out];rfl,by rw[j.out];exact y.out,Fr.of a⟩
 have j:=aL (g.out.trans (av (by rw[aj]at N;simpa using N)))
 clear g cT;have cP:=λW q=>zx AU U cU Y s.u E 1 t false W q (dU hk.1) (by omega) (by omega)
 have F:=aL (Ew hk ⟨E,1,t,false⟩);generalize Tr.putU s.u ⟨E,1,t,false⟩=q at cP j F;have hU:∀W,Below x x W->bT W W AU U cU Y s.u:=λW b=>(D.below b).more b.size
 go_upto_region 8 with fail
 go_region_with (first|(go_at_call 20;refine(cP _ (hU _ (aa _ x).drew)).mono ?_;rintro e w6 ⟨A6,xC,c6,OM,rfl,Z,H⟩)|(go_at_call 31;refine(jZ p s A6 xC c6 OM q w6 (y.out.below (((aa _ x).drew).trans H)) (λ_=>gZ.off Z λk hk=>y.out.mX hk) F.out).mono ?_;rintro e w7 ⟨rfl,iU,lh⟩))
 all_goals
  go_wp2;go_ret;exact⟨by rw[j.out];rfl,by rw[j.out];exact iU,(((Fr.of a:Fr p.C w x).bf ((aa _ x).drew)).bf H).trans lh λ_ _ e=>e▸(.inl rfl:p.C p.gs)⟩
theorem mF(x:ByteArray)(i j:Nat):(x.extract i j).data.toList=(x.data.toList.take j).drop i:=by
 rw[ByteArray.data_extract,Array.toList_extract,List.extract_eq_take_drop,List.drop_take]
theorem O4(tx:ByteArray){a n:Int}(h0:0<=a)(hn:0<=n):(tx.extract (min a (tx.size:Int)).toNat tx.size).extract 0 (min n ((tx.size- (min a (tx.size:Int)).toNat:Nat):Int)).toNat=Sy.bytesOf ((tx.data.toList.drop a.toNat).take n.toNat):=by
 refine sS ?_
 rw[mF,mF,xL]
 show _=(tx.data.toList.drop a.toNat).take n.toNat
 have c:tx.data.toList.length=tx.size:=af tx;rw[fI (l:=tx.data.toList) (by omega)]
 have b:tx.data.toList.drop (min a (tx.size:Int)).toNat=tx.data.toList.drop a.toNat:=by
  rcases Int.le_total a (tx.size:Int)with h|h
  ·rw[Int.min_eq_left h]
  rw[Int.min_eq_right h,zw (by omega),zw (by omega)]
 have e:(tx.data.toList.drop a.toNat).length=tx.size- (min a (tx.size:Int)).toNat:=by rw[<-b,gM,c]
 rw[b,<-e]
 rcases Int.le_total n ((tx.data.toList.drop a.toNat).length:Int)with h|h
 ·rw[Int.min_eq_left h]
 rw[Int.min_eq_right h,fI (by omega),fI (by omega)]
theorem RP(tx:ByteArray)(a n:Nat):((tx.data.toList.drop a).take n).length<=tx.size:=by
 rw[bR,gM,af];omega
theorem Ey(p:Pl)(s:St)(n d b o:Nat)(c:Ca)(w:World)(h:aQ w p s)(hi:Sy.In n s)(hn:n<=1000)(hk:Sy.Ok s)(hl:d<s.des.length)(hc:lu w b o c):Calls prog 111 #[.pointer p.gs,.pointer (some ⟨b,o,none⟩),.pointer (p.d d:Nat)] w (mD p (Sy.callRead s c d) w):=by
 have hi0:=hi;have hA:=aL h;have B:=h.de d hl;unfold J_ at B;obtain⟨hdo,hda,aas,_,_,H⟩:=hi.deAt hl;have htz:=hi.textOf hk (Sy.deAt s d).o;have cT:=λW q=>uA p s n (Sy.deAt s d).o W q hi hn hk hdo
 obtain⟨R,hR⟩:∃R,R=Sy.callRead s c d:=⟨_,rfl⟩;rw[<-hR];unfold Sy.callRead at hR;have l:=aL hR;clear hR hi h;obtain⟨Q,I⟩:∃Q,Q=Sy.textOf s (Sy.deAt s d).o:=⟨_,rfl⟩;rw[<-I]at l cT htz;clear I;generalize hdd:Sy.deAt s d=de at*;have Ku:=aL hdd;clear hdd;obtain⟨io,fl,at_,refs⟩:=de
 dsimp only at*;have m:=hA.out.plus (.cells #[(0:Int),(0:Int),Qs.e,()] 43);have i:=(aa w w).alloc aR (.cells #[(0:Int),(0:Int),Qs.e,()] 43);have u:=ai.new w 43 [(0:Int),(0:Int),Qs.e,()];have B:=B.alloc (.cells #[(0:Int),(0:Int),Qs.e,()] 43);have hc:=hc.below i;have L:w.heap.size≠p.d d:=λe=>by have:=ai.lt (hA.out.de d hl);omega
 go_enter func111,ntmps111;go_upto_region 1 with fail
 generalize w.alloc (.cells #[(0:Int),(0:Int),Qs.e,()] 43)=w0 at*;obtain⟨M,d1,d2,d3,df,dz⟩:=B.four;unfold ptr at M;have z:=u.four;obtain⟨r,c0,V,Z,c3,Y,c5,c6,U,S⟩:=hc;have A:(bits BinOp.and IntKind.i64 fl 1==0)= !Sy.bit fl 0:=qw H.1 H.2 0
 rcases tb:Sy.bit fl 0 with _|_
 ·have D:=aL (l.out.trans (aM tb))
  rw[tb]at A;clear l;go_wp2_with fail;refine aD (v:= .agg #[(8:Int),(0:Int),Qs.e,()]) ?_ rfl ?_
  ·simp[results,results111,go_sem,z]
  rw[D.out];exact aN (a:= .no 8) aR m rfl rfl (Fr.of i) (Sub.refl _ _) rfl
 have l:=aL (l.out.trans (av (by simp[tb])))
 rw[tb]at A;have A:(bits BinOp.and IntKind.i64 fl 1==0)=false:=A
 by_cases G:c.n<0\/1000<c.n
 ·have D:=aL (l.out.trans (aM G))
  have tn:decide (c.n<0)=true\/(decide (c.n<0)=false/\decide (1000<c.n)=true):=by
   rcases si (c.n<0)with q|q
   ·exact .inl (fw q)
   exact .inr ⟨bN q,fw (G.resolve_left q)⟩
  clear l G
  rcases tn with tn|⟨tn,tm⟩
  all_goals
   go_wp2_with fail;refine aD (v:= .agg #[(3:Int),(0:Int),Qs.e,()]) ?_ rfl ?_
   ·simp[results,results111,go_sem,z]
   rw[D.out];exact aN (a:= .no 3) aR m rfl rfl (Fr.of i) (Sub.refl _ _) rfl
 have l:=aL (l.out.trans (av G));have tn:decide (c.n<0)=false:=bN λq=>G (.inl q)
 have tm:decide (1000<c.n)=false:=bN λq=>G (.inr q)
 have hn0:0<=c.n:=by omega
 have hn1:c.n<=1000:=by omega
 clear G;go_wp2_with fail;refine(cT w0 (m.pop p.e λ_ q=> .inl q)).mono ?_
 rintro e w1 ⟨rfl,j⟩;have hA1:=m.below j;have K:=u.below j u.lt;have N:=B.below j B.lt;have hc1:=(show lu w0 b o c from⟨r,c0,V,Z,c3,Y,c5,c6,U,S⟩).below j
 have hB1:=i.trans (j.mono i.size);clear M d1 d2 d3 df dz z r c0 V Z c3 Y c5 c6 U S m u B j i cT;obtain⟨M,d1,d2,d3,df,dz⟩:=N.four;unfold ptr at M;have z:=K.four;obtain⟨r,c0,V,Z,c3,Y,c5,c6,U,S⟩:=hc1;have E:=aL (O4 Q (a:=at_) (n:=c.n) hda hn0)
 have F:=aL (RP Q (at_.toNat) c.n.toNat)
 obtain⟨t,ht⟩:∃t,t=(Q.data.toList.drop at_.toNat).take c.n.toNat:=⟨_,rfl⟩
 rw[<-ht]at l E F;clear ht;go_upto_region 8 with fail
 rw[E.out];clear E;obtain⟨g,y⟩:∃g,g=Sy.bytesOf t:=⟨_,rfl⟩;have O:(t.length:Int)=(g.size:Int):=by rw[y];rfl
 have htl:g.size<=100:=by
  have h1:=F.out;have h2:g.size=t.length:=by rw[y];rfl
  omega
 have D:=aL (l.out);rw[<-y]at D ⊢;rw[O]at D;clear O y l F;have hw:IntKind.i64.wrap (at_+(g.size:Int))=at_+(g.size:Int):=lm _ (by omega)
 have hx2:¬p.d d=w.heap.size:=λe=>L e.symm
 have hA2:=hA1.setDe hl ((Fr.refl (λk=>k=p.d d) w1).at_ 2 (.int .i64 (at_+(g.size:Int)))) (λx=>{x with at_:=x.at_+(g.size:Int)}) (by
  rw[Ku.out];exact N.bY 2 _)
 have hz2:=K.far (p:=⟨p.d d,2,none⟩) L (.int .i64 (at_+(g.size:Int)))
 have hF2:Fr p.C w (w1.setCell ⟨p.d d,2,none⟩ (.int .i64 (at_+(g.size:Int)))):=Fr.setCell (Fr.of hB1) (p:=⟨p.d d,2,none⟩) (hA.out.Kq hl) _
 go_upto_region 9 with fail
 clear M d1 d2 d3 df dz z r c0 V Z c3 Y c5 c6 U S;generalize w1.setCell ⟨p.d d,2,none⟩ (.int .i64 (at_+(g.size:Int)))=w2 at*
 have z:=hz2.four;go_wp2_with fail;refine aD (v:= .agg #[(0:Int),.int .i64 (g.size:Int),.string g,()]) ?_ rfl ?_
 ·simp[results,results111,go_sem,z]
 rw[D.out];exact aN (a:=⟨0,(g.size:Int),g,[]⟩) aR hA2 rfl rfl hF2 (Sub.refl _ _) rfl
theorem sized_len(t:Pt.Bs)(n:Nat):(Sy.sized t n).length=n:=by
 unfold Sy.sized;rw[bq,bR,rT];omega
theorem O5(l x:ByteArray){a e:Nat}:(l.extract 0 a++x)++l.extract e l.size=Sy.bytesOf (l.data.toList.take a++x.data.toList++l.data.toList.drop e):=by
 refine sS ?_
 rw[gQ,gQ,mF,mF,xL];have b:l.data.toList.length=l.size:=af l;rw[fI (l:=l.data.toList) (i:=l.size) (by omega)]
 rfl
theorem Bg(p:Pl)(s:St)(n d b o:Nat)(c:Ca)(w:World)(h:aQ w p s)(hi:Sy.In n s)(hn:n<=1000)(hk:Sy.Ok s)(hl:d<s.des.length)(hc:lu w b o c)(hcb2:¬p.C b)(hcs:jK c):Calls prog 112 #[.pointer p.gs,.pointer (some ⟨b,o,none⟩),.pointer (p.d d:Nat)] w (mD p (Sy.callWrite s c d) w):=by
 have HI:=aL hi;have HK:=aL hk;have hA:=aL h;have hd:=h.de d hl;unfold J_ at hd;obtain⟨hdo,hda,aas,_,_,hfb⟩:=hi.deAt hl;have htz:=hi.textOf hk (Sy.deAt s d).o;have cT:=λW q=>uA p s n (Sy.deAt s d).o W q hi hn hk hdo
 have hcx:=hcs.2.2;obtain⟨R,hR⟩:∃R,R=Sy.callWrite s c d:=⟨_,rfl⟩;rw[<-hR];unfold Sy.callWrite at hR;dsimp only at hR;have g:=aL hR;clear hR hi h hk;obtain⟨B,htx⟩:∃B,B=Sy.textOf s (Sy.deAt s d).o:=⟨_,rfl⟩;rw[<-htx]at g cT htz;clear htx;generalize hdd:Sy.deAt s d=de at*;have Ku:=aL hdd;clear hdd;obtain⟨Y,Q,at_,refs⟩:=de
 dsimp only at*;obtain⟨am,rfl⟩:∃m:Nat,at_=m:=⟨at_.toNat,by omega⟩
 have hA0:=hA.out.plus (.cells #[(0:Int),(0:Int),Qs.e,()] 43);have U:=(aa w w).alloc aR (.cells #[(0:Int),(0:Int),Qs.e,()] 43);have hz0:=ai.new w 43 [(0:Int),(0:Int),Qs.e,()];have hc0:=hc.below U;have hd:=hd.alloc (.cells #[(0:Int),(0:Int),Qs.e,()] 43);have hx1:w.heap.size≠p.d d:=λe=>by have:=ai.lt (hA.out.de d hl);omega
 have hx2:¬p.d d=w.heap.size:=λe=>hx1 e.symm
 have hcw:¬b=w.heap.size:=λe=>by have:=hc.1;omega
 go_enter func112,ntmps112;go_upto_region 1 with fail
 generalize w.alloc (.cells #[(0:Int),(0:Int),Qs.e,()] 43)=w0 at*;have vP:=aL hc0;obtain⟨H,d1,Z,d3,df,dz⟩:=hd.four;unfold ptr at H;have z:=hz0.four;have V:(bits BinOp.and IntKind.i64 Q 2==0)= !Sy.bit Q 1:=qw hfb.1 hfb.2 1
 rcases tb:Sy.bit Q 1 with _|_
 ·have L:=aL (g.out.trans (aM tb))
  rw[tb]at V;clear g;go_wp2_with fail;refine aD (v:= .agg #[(8:Int),(0:Int),Qs.e,()]) ?_ rfl ?_
  ·simp[results,results112,go_sem,z]
  rw[L.out];exact aN (a:=(.no 8)) aR hA0 rfl rfl (Fr.of U) (Sub.refl _ _) rfl
 have g:=aL (g.out.trans (av (by simp[tb])))
 rw[tb]at V;have V:(bits BinOp.and IntKind.i64 Q 2==0)=false:=V;go_wp2_with fail;refine(cT w0 (hA0.pop p.e λ_ q=> .inl q)).mono ?_
 rintro e w1 ⟨rfl,I⟩;have D:=hA0.below I;have G:=hz0.below I hz0.lt;have E:=hd.below I hd.lt;have ry:=aL (vP.out.below I);have A:=U.trans (I.mono U.size);clear H d1 Z d3 df dz z hA0 hz0 hd I U cT hc0 vP V;obtain⟨H,d1,Z,d3,df,dz⟩:=E.four;unfold ptr at H;have z:=G.four;obtain⟨O,c0,c1,c2,c3,c4,c5,c6,c7,c8⟩:=ry.out
 rcases t16:(c.kind==16)with _|_
 rotate_left
 ·have g:=aL (g.out.trans (aM (by simpa using t16)))
  by_cases hr:c.n<0\/100<c.n
  ·have L:=aL (g.out.trans (aM hr))
   have tn:decide (c.n<0)=true\/(decide (c.n<0)=false/\decide (100<c.n)=true):=by
    rcases si (c.n<0)with q|q
    ·exact .inl (fw q)
    exact .inr ⟨bN q,fw (hr.resolve_left q)⟩
   clear g hr
   rcases tn with tn|⟨tn,tm⟩
   all_goals
    go_wp2_with fail;refine aD (v:= .agg #[(3:Int),(0:Int),Qs.e,()]) ?_ rfl ?_
    ·simp[results,results112,go_sem,z]
    rw[L.out];exact aN (a:=(.no 3)) aR D rfl rfl (Fr.of A) (Sub.refl _ _) rfl
  have g:=aL (g.out.trans (av hr));obtain⟨m,hm⟩:∃m:Nat,c.n=m:=⟨c.n.toNat,by omega⟩
  rw[hm]at c3 g;have tn:decide ((m:Int)<0)=false:=bN (by omega)
  have tm:decide (100<(m:Int))=false:=bN (by omega)
  have hm1:m<=100:=by omega
  rw[mH]at g;clear hr hm;have cS:=λW=>Dq B m W (by omega) (by omega)
  have M:=sized_len B m;generalize Sy.sized B m=sz at cS g M;obtain⟨tv,htv⟩:∃tv,tv=Sy.bytesOf sz:=⟨_,rfl⟩;have htl:tv.size<=1000000:=by rw[htv];show sz.length<=_;omega
  rw[<-htv]at cS g;clear htv M;have cW:=λW q=>write_any (p.plus w) s n Y tv W q HI.out hn HK.out hdo htl
  unfold Ht at cW;generalize Sy.write s Y tv=q at cW g;have L:=aL g.out;clear g;go_upto_region 7 with fail
  go_region_with (first|(go_at_call 141;refine(cS _).mono ?_;rintro e w6 ⟨rfl,hb6⟩;have r:Below w1 w1 w6:=((aa _ w1).drew).trans hb6;obtain⟨H,d1,Z,d3,df,dz⟩:=(E.below r E.lt).four;unfold ptr at H;obtain⟨O,c0,c1,c2,c3,c4,c5,c6,c7,c8⟩:=ry.out.below r)|(go_at_call 140;refine(cW _ (D.below r)).mono ?_;rintro e y ⟨rfl,u,t⟩;have lW:Fr p.C w y:=((Fr.of A:Fr p.C w w1).bf r).trans t.xm (Sub.refl _ _);have z:=((G.below r G.lt).Jr (D.below r) t.xm).four))
  all_goals
   go_wp2_with fail;refine aD (v:= .agg #[q.2,(0:Int),Qs.e,()]) ?_ rfl ?_
   ·simp[results,results112,go_sem,z]
   rw[L.out];exact aN (a:=(.no q.2)) aR u rfl rfl lW (Sub.refl _ _) rfl
 have g:=aL (g.out.trans (av (by simpa using t16)))
 have hb4:(bits BinOp.and IntKind.i64 Q 4 !=0)=Sy.bit Q 2:=Eu hfb.1 hfb.2 2;obtain⟨i,N⟩:∃i:Nat,i=if Sy.bit Q 2=true then B.data.toList.length else am:=⟨_,rfl⟩
 rw[mH,<-N]at g;have haz:i<=1000:=by
  rw[N]
  split
  ·rw[af];omega
  omega
 obtain⟨ap,hap⟩:∃b,b=Sy.bit Q 2:=⟨_,rfl⟩;rw[<-hap]at N hb4;clear hap;go_upto_if 65 with fail
 go_cut [8] (λv wx=>v= .int .i64 (i:Int)/\w1=wx)
 case first=>
  cases ap
  ·have e:i=am:=N
   go_wp2;go_meet
   case rel=>exact⟨by rw[e],rfl⟩
  have e:(i:Int)=(B.size:Int):=by rw[N];show((B.data.toList.length:Nat):Int)=_;rw[af]
  go_wp2;go_meet
  case rel=>exact⟨by rw[e],rfl⟩
 case rest=>
 obtain⟨rfl,rfl⟩:=hcut;clear N hb4;have hsx:c.text.data.toList.length=c.text.size:=af _;rw[hsx]at g;clear hsx;obtain⟨l,hen⟩:∃e:Nat,e=i+c.text.size:=⟨_,rfl⟩;rw[<-hen]at g;have hwe:IntKind.i64.wrap ((i:Int)+(c.text.size:Int))=(i:Int)+(c.text.size:Int):=lm _ (by omega)
 have aat:(i:Int)+(c.text.size:Int)=(l:Int):=by omega
 have hae:i<=l:=by omega
 have hxe:c.text.size<=l:=by omega
 clear hen;go_upto_region 12 with fail
 try rw[aat]
 clear hwe aat
 rcases tx0:((c.text.size:Int)==0)with _|_
 rotate_left
 ·have hx0:c.text.data.toList=[]:=List.length_eq_zero_iff.1 (by rw[af];simpa using tx0)
  have L:=aL (g.out.trans (aM hx0));clear g;have hA2:=D.setDe hl ((Fr.refl (λk=>k=p.d d) w1).at_ 2 (.int .i64 (i:Int))) (λx=>{x with at_:=(i:Int)}) (by
   rw[Ku.out];exact E.bY 2 _)
  have hz2:=G.far (p:=⟨p.d d,2,none⟩) hx1 (.int .i64 (i:Int));have hF2:Fr p.C w (w1.setCell ⟨p.d d,2,none⟩ (.int .i64 (i:Int))):=Fr.setCell (Fr.of A) (p:=⟨p.d d,2,none⟩) (hA.out.Kq hl) _;go_upto_region 14 with fail
  clear H d1 Z d3 df dz z O c0 c1 c2 c3 c4 c5 c6 c7 c8;generalize w1.setCell ⟨p.d d,2,none⟩ (.int .i64 (i:Int))=w2 at*;have z:=hz2.four;go_wp2_with fail;refine aD (v:= .agg #[(0:Int),(0:Int),Qs.e,()]) ?_ rfl ?_
  ·simp[results,results112,go_sem,z]
  rw[L.out];exact aN (a:= .ok) aR hA2 rfl rfl hF2 (Sub.refl _ _) rfl
 have hx0:¬c.text.data.toList=[]:=λe=>by
  have h1:=om List.length e;rw[af]at h1;simp[h1]at tx0
 have g:=aL (g.out.trans (av hx0))
 rcases te:decide ((100:Int)<(l:Int))with _|_
 rotate_left
 ·have L:=aL (g.out.trans (aM (by have:=iA te;omega)))
  clear g;go_wp2_with fail;refine aD (v:= .agg #[(4:Int),(0:Int),Qs.e,()]) ?_ rfl ?_
  ·simp[results,results112,go_sem,z]
  rw[L.out];exact aN (a:=(.no 4)) aR D rfl rfl (Fr.of A) (Sub.refl _ _) rfl
 have g:=aL (g.out.trans (av (by have:=j6 te;omega)))
 have hez:l<=100:=by have:=j6 te;omega
 have hst:B.data.toList.length=B.size:=af _;rw[hst]at g;clear hst;obtain⟨mx,hmx⟩:∃m:Nat,m=max l B.size:=⟨_,rfl⟩;have hmi:max (l:Int) (B.size:Int)=(mx:Int):=by omega
 have hm1:l<=mx:=by omega
 have hm2:mx<=100:=by omega
 rw[<-hmx]at g;clear hmx;have cS:=λW=>Dq B mx W (by omega) (by omega)
 have M:=sized_len B mx;generalize Sy.sized B mx=sz at cS g M;obtain⟨j,hlv⟩:∃j,j=Sy.bytesOf sz:=⟨_,rfl⟩;have hlz:j.size=mx:=by rw[hlv];exact M
 have hld:sz=j.data.toList:=by rw[hlv];rfl
 rw[<-hlv]at cS;rw[hld]at g;clear hlv M hld;have HWM:=aL (O5 j c.text (a:=i) (e:=l));obtain⟨nw,hnw⟩:∃nw,nw=Sy.bytesOf (j.data.toList.take i++c.text.data.toList++j.data.toList.drop l):=⟨_,rfl⟩;have hnz:nw.size<=1000000:=by
  rw[hnw]
  show(j.data.toList.take i++c.text.data.toList++j.data.toList.drop l).length<=_
  rw[bq,bq,bR,gM,af,af];omega
 rw[<-hnw]at g HWM;clear hnw;have cW:=λW q=>write_any (p.plus w) s n Y nw W q HI.out hn HK.out hdo hnz
 unfold Ht at cW;have S:=Sy.Oz (s:=s) Y nw;generalize Sy.write s Y nw=q at cW g S;go_wp2_with fail;clear te tx0;refine(cS w1).mono ?_
 rintro e w2 ⟨rfl,I⟩;have hA2:=D.below I;have hz2:=G.below I G.lt;have hd2:=E.below I E.lt;have HC2:=aL (ry.out.below I);have hB2:=A.trans (I.mono A.size);clear H d1 Z d3 df dz z O c0 c1 c2 c3 c4 c5 c6 c7 c8 D G E I A cS ry hmi;obtain⟨H,d1,Z,d3,df,dz⟩:=hd2.four;unfold ptr at H;obtain⟨O,c0,c1,c2,c3,c4,c5,c6,c7,c8⟩:=HC2.out;have hq1:i<=j.size:=by omega
 have hq2:l<=j.size:=by omega
 have hq3:j.size<=100:=by omega
 have hWM:=HWM.out;have K:Below w2 w2 w2.drew:=(aa _ w2).drew;have hi1:(0:Int)<=(i:Int):=gD _;have hi2:(i:Int)<=(j.size:Int):=by omega
 have hi3:(0:Int)<=(l:Int):=gD _;have hi4:(l:Int)<=(j.size:Int):=by omega
 have k2:¬(9223372036854775807<min i j.size+c.text.size):=by omega
 have k3:¬(9223372036854775807<min i j.size+c.text.size+(j.size-l)):=by omega
 have k4:¬(9223372036854775807<i+c.text.size):=by omega
 have k5:¬(9223372036854775807<i+c.text.size+(j.size-l)):=by omega
 have k6:¬(9223372036854775807<(j.extract 0 i).size+c.text.size):=by rw[zR];omega
 have k7:¬(9223372036854775807<(j.extract 0 i).size+c.text.size+(j.extract l j.size).size):=by rw[zR,zR];omega
 have k8:¬(9223372036854775807<(j.extract 0 i++c.text).size+(j.extract l j.size).size):=by rw[ByteArray.size_append,zR,zR];omega
 clear hlz;have S7:∀y,aQ y (p.plus w) q.1->Fr (p.plus w).C w2.drew y->(y.cell? (p.d d:Nat)=some (.pointer (p.F.getD Y 0:Nat))/\y.cell? ⟨b,o+7,none⟩=some (.string c.text)):=λy u t=>by
  have Zt:d<q.1.des.length:=by rw[S.1];exact hl
  have h7:=u.de d Zt;rw[show Sy.deAt q.1 d=⟨Y,Q,am,refs⟩from by unfold Sy.deAt;rw[S.1];exact Ku.out]at h7
  have h8:lu y b o c:=(HC2.out.below K).fr t.xm hcb2;obtain⟨_,_,_,_,_,_,_,_,q7,_⟩:=h8;exact⟨ai.cell h7 0,q7⟩
 go_upto_region 18 with fail
 go_region_held3 (λW=>W.cell? (p.d d:Nat)=some (.pointer (p.F.getD Y 0:Nat))/\W.cell? ⟨b,o+7,none⟩=some (.string c.text)) (first|exact⟨H,c7⟩|exact S7 y u t|go_keep) (first|(go_at_call 140;(try rw[hWM]);refine(cW w2.drew (hA2.below K)).mono ?_;rintro e y ⟨rfl,u,t⟩))
 all_goals
  have lW:Fr p.C w y:=((Fr.of hB2:Fr p.C w w2).bf K).trans t.xm (Sub.refl _ _);have fM:=(hz2.below K hz2.lt).Jr (hA2.below K) t.xm
  rcases tq:(q.2 !=0)with _|_
  rotate_left
  ·have L:=aL (g.out.trans (aM (by simpa using tq)))
   clear g;have z:=fM.four;go_wp2_with fail;refine aD (v:= .agg #[q.2,(0:Int),Qs.e,()]) ?_ rfl ?_
   ·simp[results,results112,go_sem,z]
   rw[L.out];exact aN (a:=(.no q.2)) aR u rfl rfl lW (Sub.refl _ _) rfl
  have L:=aL (g.out.trans (av (by simpa using tq)))
  have Zt:d<q.1.des.length:=by rw[S.1];exact hl
  have HD7:Hid (Sy.deAt q.1 d=⟨Y,Q,am,refs⟩):=aL (by unfold Sy.deAt;rw[S.1];exact Ku.out)
  have hd7:ai y (p.d d) 147 [ptr (p.F.getD Y 0),Q,am,refs]:=by
   have h:=u.de d Zt;rw[HD7.out]at h;exact h
  have HC7:=aL ((HC2.out.below K).fr t.xm hcb2);have vN:=u.setDe Zt ((Fr.refl (λk=>k=p.d d) y).at_ 2 (.int .i64 (l:Int))) (λx=>{x with at_:=(l:Int)}) (by
   rw[HD7.out];exact ai.bY hd7 2 _)
  have uy:=fM.far (p:=⟨p.d d,2,none⟩) hx1 (.int .i64 (l:Int));have HC8:=aL (HC7.out.fr ((Fr.refl p.C y).setCell (p:=⟨p.d d,2,none⟩) (hA.out.Kq hl) (.int .i64 (l:Int))) hcb2);have xn:Fr p.C w (y.setCell ⟨p.d d,2,none⟩ (.int .i64 (l:Int))):=lW.setCell (p:=⟨p.d d,2,none⟩) (hA.out.Kq hl) _;clear H d1 Z d3 df dz O c0 c1 c2 c3 c4 c5 c6 c7 c8;obtain⟨H,d1,Z,d3,df,dz⟩:=ai.four hd7;go_upto_region 22 with fail
  clear H d1 Z d3 df dz;generalize y.setCell ⟨p.d d,2,none⟩ (.int .i64 (l:Int))=w8 at*;obtain⟨O,c0,c1,c2,c3,c4,c5,c6,c7,c8⟩:=HC8.out;have z:=uy.four;go_wp2_with fail;refine aD (v:= .agg #[(0:Int),.int .i64 (c.text.size:Int),Qs.e,()]) ?_ rfl ?_
  ·simp[results,results112,go_sem,z]
  rw[L.out];exact aN (a:=(.num (c.text.size:Int))) aR vN rfl rfl xn (Sub.refl _ _) rfl
theorem RQ(p:Pl)(s:St)(b o:Nat)(c:Ca)(w:World)(h:aQ w p s)(hk:Sy.Ok s)(hc:lu w b o c)(hcs:jK c):Calls prog 67 #[.pointer p.gs,.pointer (some ⟨b,o,none⟩)] w (mD p (s,Sy.tell s c) w):=by
 have V:=aL hk;have hA:=aL h;have hgs0:p.gs<w:=h.bz h.jq;have hcp:=hcs.1;obtain⟨R,hR⟩:∃R,R=Sy.tell s c:=⟨_,rfl⟩;rw[<-hR];unfold Sy.tell at hR;dsimp only at hR;have m:=aL hR;clear hR h hk;have O:=hA.out.plus (.cells #[(0:Int),(0:Int),Qs.e,()] 43);have K:=(aa w w).alloc aR (.cells #[(0:Int),(0:Int),Qs.e,()] 43);have E:=ai.new w 43 [(0:Int),(0:Int),Qs.e,()];have Y:=hc.below K;go_enter func67,ntmps67;go_upto_region 1 with fail
 generalize w.alloc (.cells #[(0:Int),(0:Int),Qs.e,()] 43)=w0 at*;have Q:=aL Y;have x:=E.four;obtain⟨B,c0,c1,c2,c3,c4,c5,c6,c7,c8⟩:=Q.out;have N:=j_ _ s c.path true w0 O V.out (by omega)
 unfold iL at N;have u:=aL (fO (T:=s.T) (q:=c.path.data.toList) (fo:=true));generalize Sy.find s.T c.path true=r at N m u;obtain⟨ra,re⟩:=r;dsimp only at N m u;rw[dV]at N;have L:=aL (dF ra);obtain⟨rs,hrs⟩:∃rs,rs=Sy.bytesOf ra:=⟨_,rfl⟩;rw[<-hrs]at N u L;clear hrs;go_wp2_with fail;refine N.mono ?_
 rintro e w1 ⟨rfl,j⟩;have i:=O.below j;have l:=E.below j E.lt;have Z:=aL (Q.out.below j);have g:=K.trans (j.mono K.size);clear x B c0 c1 c2 c3 c4 c5 c6 c7 c8 O E j K N Y Q;have x:=l.four;obtain⟨B,c0,c1,c2,c3,c4,c5,c6,c7,c8⟩:=Z.out
 rcases te:(re !=0)with _|_
 rotate_left
 ·have F:=aL (m.out.trans (aM (by simpa using te)))
  clear m;go_wp2_with fail;refine aD (v:= .agg #[re,(0:Int),Qs.e,()]) ?_ rfl ?_
  ·simp[results,results67,go_sem,x]
  rw[F.out];exact aN (a:=(.no re)) aR i rfl rfl (Fr.of g) (Sub.refl _ _) rfl
 obtain rfl:re=0:=by simpa using te
 have m:=aL (m.out.trans (av (by decide)))
 have hrl:=u.out rfl;clear u te;obtain⟨AT,cT,g2,D,Np,hgs⟩:=i.seen;have htl:=V.out.tl;have hx1:¬p.gs=w.heap.size:=by omega
 rcases tk:(c.kind==11)with _|_
 rotate_left
 ·have F:=aL (m.out.trans (aM (by simpa using tk)))
  clear m;have S:=Gx AT cT s.T rs w1 D (Tr.bn V.out.right) V.out.right.2.1 (by omega) (by omega)
  unfold oO at S;rw[L.out]at S;generalize Tr.list s.T ra=q at S F;obtain⟨ql,qe⟩:=q;dsimp only at S F;go_wp2_with fail;refine S.mono ?_
  rintro e W ⟨v,rfl,ho,j⟩;have I:=i.below j;have t:=l.below j l.lt;have A:=g.trans (j.mono g.size);obtain⟨Aq,cq,rfl,hcq,_,hO2⟩:=aT.off ho (X:=(p.plus w).X) λk hk=>i.mX hk
  clear x B c0 c1 c2 c3 c4 c5 c6 c7 c8 g2 D Np hgs i l j g S ho;have x:=t.four;go_wp2_with fail;refine aD (v:= .agg #[qe,(0:Int),Qs.e,.slice Aq ql.length cq]) ?_ rfl ?_
  ·simp[results,results67,go_sem,x]
  rw[F.out];exact RJ (p:=p) (p':=p) (a:=⟨qe,0,⟨#[]⟩,ql⟩) aR I rfl rfl (Fr.of A) (Sub.refl _ _) ⟨Aq,cq,rfl,hO2⟩
 have m:=aL (m.out.trans (av (by simpa using tk)))
 have cG:=get_any AT cT s.T rs w1 D (Tr.bn V.out.right) (by omega) (by omega)
 go_wp2_with fail;refine cG.mono ?_
 rintro e W ⟨r,rfl,hr,j⟩;have M:=aL (hr.2 (.inl V.out.right.2.1));have M:=aL (M.out);have I:=i.below j;have t:=l.below j l.lt;have A:=g.trans (j.mono g.size);clear x B c0 c1 c2 c3 c4 c5 c6 c7 c8 g2 D Np hgs i l j g cG hr Z tk;obtain⟨y,hy⟩:∃y,y=r.getD En.zero:=⟨_,rfl⟩;rw[<-hy];have HY:=aL hy;clear hy;obtain⟨U,H,G,n⟩:=y;simp only[En.agg,En.cells];have hA3:=I.below ((aa _ W).alloc aR (.cells #[U,H,G,n] 45));have hB3:=A.alloc A.size (.cells #[U,H,G,n] 45);have hz3:=t.alloc (.cells #[U,H,G,n] 45);have hd3:=ai.new W 45 [U,H,G,n];have hx3:¬W.heap.size=w.heap.size:=by have:=t.lt;omega
 go_upto_region 8 with fail
 generalize W.alloc (.cells #[U,H,G,n] 45)=w3 at*;generalize W.heap.size=gd at*;clear I A t;have z:=hd3.four;have x:=hz3.four
 rcases r with _|d
 ·have F:Hid (R= .no 6):=aL (by rw[m.out,<-L.out,<-M.out])
  clear m;go_wp2_with fail;refine aD (v:= .agg #[(6:Int),(0:Int),Qs.e,()]) ?_ rfl ?_
  ·simp[results,results67,go_sem,x]
  rw[F.out];exact aN (a:=(.no 6)) aR hA3 rfl rfl (Fr.of hB3) (Sub.refl _ _) rfl
 obtain rfl:d=⟨U,H,G,n⟩:=HY.out.symm;have F:Hid (R=⟨0,H,G,[]⟩):=aL (by rw[m.out,<-L.out,<-M.out])
 clear m;go_wp2_with fail;refine aD (v:= .agg #[(0:Int),H,G,()]) ?_ rfl ?_
 ·simp[results,results67,go_sem,x]
 rw[F.out];exact aN (a:=⟨0,H,G,[]⟩) aR hA3 rfl rfl (Fr.of hB3) (Sub.refl _ _) rfl
theorem aQ.uC{w:World}{p:Pl}{s:St}(h:aQ w p s):∃A c,p.v= .slice A s.files.length c/\s.files.length<=c:=by
 rcases aB h.files with⟨a,e⟩|⟨g,cap,a,_,_,b⟩
 ·exact⟨none,0,by rw[a,e],by omega⟩
 exact⟨_,cap,a,b⟩
theorem aQ.fileAt{w:World}{p:Pl}{s:St}(h:aQ w p s){A:Option Addr}{c m:Nat}(hv:p.v= .slice A m c){k:Nat}(hk:k<s.files.length):∃b o,A=some ⟨b,o,none⟩/\b<w.heap.size/\w.cell? ⟨b,o+k,none⟩=some (.pointer (p.f s.files[k]:Nat)):=by
 have e:=h.files;obtain⟨r,q,a,_⟩:=h.uC;rw[hv]at a;injection a with g n i
 subst g n i;rw[hv]at e;obtain⟨b,o,rfl,j,l⟩:=(Rd.iK e).2 (by omega)
 exact⟨b,o,rfl,j,l k _ (by rw[pE,bA hk];rfl)⟩
theorem aQ.zF{w:World}{p:Pl}{s:St}(h:aQ w p s):w.cell? ⟨p.gs,3,none⟩=some p.v:=by
 obtain⟨j,b,e,i,c,g,a,_⟩:=h.box;exact a.cell 3
theorem Hu(p:Pl)(s:St)(n:Nat)(pa:ByteArray)(w:World)(h:aQ w p s)(hi:Sy.In n s)(hn:n<=1000)(hk:Sy.Ok s):Calls prog 107 #[.pointer p.gs,pa] w λe w'=>e= .returned (.tuple #[])/\aQ w' p (Sy.lose s pa)/\Fr p.C w w':=by
 rw[Sy.UI];have hA:=aL h;have HI:=aL hi;have HK:=aL hk;have g3:=h.zF;have hgs:p.gs<w:=h.bz h.jq;obtain⟨A,c,hv,hc⟩:=h.uC;rw[hv]at g3;have hfl:=hi.fl;clear h hi hk;go_enter func107,ntmps107;go_wp2_with fail;clear g3 hgs
 go_loopw [11] (λj wr=>∃k:Nat,k<=s.files.length/\j= .int .i64 k/\Hid (aQ wr p (Sy.part (Sy.nU s pa) (s.files.take k) s))/\Fr p.C w wr) (λj _=>s.files.length- (intOf j).toNat)
 case atStart=>exact⟨0,bL _,rfl,aL (by rw[F4,Sy.Gs];exact hA.out),Fr.refl _ _⟩
 case round=>
  obtain⟨k,hk,rfl,y,hF⟩:=hrel
  by_cases l:k<s.files.length
  ·obtain⟨i,hi⟩:∃i,i=s.files[k]:=⟨_,rfl⟩
   have g:i<s.obs.length:=hi▸HI.out.fsub _ (cz l);have a:i∉s.files.take k:=hi▸Sy.MQ HI.out.fnd l;have S:s.files.take (k+1)=s.files.take k++[i]:=by rw[hi,aF l]
   obtain⟨b,o,Kr,hbb,h0⟩:=y.out.fileAt hv l
   change wr.cell? ⟨b,o+k,none⟩=some (.pointer (p.f s.files[k]:Nat))at h0
   rw[<-hi]at h0;have V:=aL S;clear hi S;subst Kr;have W:=y.out.ob i (by rw[Sy.kV];exact g)
   rw[Sy.qc g a]at W;obtain⟨Al,cl,v,Y,L⟩:=W;have F:=aL Y;clear Y;have O:=uA p _ n i wr y.out (Sy.UG HI.out (Sy.QS HI.out HK.out pa)) hn (Sy.UH HK.out) (by rw[Sy.kV];exact g)
   rw[Sy.OC g a]at O;have Q:=aL (HI.out.obAt i).1;have r:Hid (∀o,o=Sy.obAt s i->¬(o.P=pa.data.toList/\pa.data.toList≠[])->Sy.part (Sy.nU s pa) (s.files.take k) s=Sy.part (Sy.nU s pa) (s.files.take (k+1)) s):=aL λo ho I=>by
    rw[V.out];refine Sy.CX a g ?_
    unfold Sy.nU;rw[<-ho,av I]
   have u:Hid (∀o,o=Sy.obAt s i->(o.P=pa.data.toList/\pa.data.toList≠[])->Sy.setOb (Sy.part (Sy.nU s pa) (s.files.take k) s) i (λo=>{o with t:=Sy.textOf s i,p:=Sy.noE})=Sy.part (Sy.nU s pa) (s.files.take (k+1)) s):=aL λo ho I=>by
    rw[V.out];refine Sy.Gt a g ?_
    unfold Sy.nU;rw[<-ho,aM I]
   have E:Sy.obAt (Sy.part (Sy.nU s pa) (s.files.take k) s) i=Sy.obAt s i:=Sy.qc g a;have K:=aL E;clear E;obtain⟨tx,U⟩:∃tx,tx=Sy.textOf s i:=⟨_,rfl⟩;rw[<-U]at u O;clear U;obtain⟨ob,m⟩:∃ob,ob=Sy.obAt s i:=⟨_,rfl⟩;have r:=aL (r.out ob m);have u:=aL (u.out ob m);rw[<-m]at v F L K Q;clear m;obtain⟨op,ot,ol⟩:=ob;have hP:(⟨op,ot,ol⟩:Ob).P=op.data.toList:=rfl;rw[hP]at r u;dsimp only at v F L Q;clear hP;obtain⟨q,I⟩:∃q,q=Sy.part (Sy.nU s pa) (s.files.take k) s:=⟨_,rfl⟩;have M:i<q.obs.length:=by rw[I,Sy.kV];exact g
   rw[<-I]at y r u K;clear I;have z:=v.three;obtain⟨N,G⟩:∃N,N=p.f i:=⟨_,rfl⟩;rw[<-G]at h0 z O;have B:=aL G;clear G
   rcases t1:(op.toList==pa.toList)with _|_
   ·have hs:=r.out λq=>by rw[aj]at t1;simp[q.1]at t1
    have HS:=aL hs;clear hs O;go_wp2;go_roundw
    case rel=>exact⟨k+1,l,by go_num,aL (by rw[<-HS.out];exact y.out),hF⟩
    case measure=>simp[intOf];omega
   rcases aG pa with⟨Z,e1,e2⟩|⟨Z,e1,e2⟩
   ·have HS:=aL (r.out λq=>q.2 Z)
    clear O Z;go_wp2_with fail
    all_goals
     go_roundw
     case rel=>exact⟨k+1,l,by go_num,aL (by rw[<-HS.out];exact y.out),hF⟩
     case measure=>simp[intOf];omega
   have HS:=aL (u.out ⟨by rw[aj]at t1;simpa using t1,Z⟩)
   clear Z;go_wp2_with fail;refine O.mono ?_
   rintro e w1 ⟨rfl,D⟩;have hA1:=y.out.below D;have x:=v.below D v.lt;rw[<-B.out]at x;have hF1:=hF.bf D;clear z h0;have z:=x.three;go_wp2;go_roundw
   case rel=>
    have H:Fr (λk=>k=N) w1 ((w1.setCell ⟨N,1,none⟩ (.string tx)).setCell ⟨N,0,none⟩ (.string ⟨#[]⟩)):=((Fr.refl (λk=>k=N) w1).at_ 1 _).at_ 0 _
    refine⟨k+1,l,by go_num,aL ?_,hF1.trans H λ_ _ e=>by rw[e,B.out];exact y.out.Fe M⟩
    rw[<-HS.out];refine hA1.setOb M (by rw[<-B.out];exact H) _ ?_
    rw[K.out,<-B.out];refine⟨Al,cl,(x.bY 1 _).bY 0 _,?_,L⟩
    exact(F.out.on (Fr.of (X:=p.X) D) (Sub.refl _ _)).on (H.wide (X:=p.X) λ_ _ e=>by rw[e,B.out];exact Pl.cx (y.out.Fe M)) (Sub.refl _ _)
   case measure=>simp[intOf];omega
  have ek:k=s.files.length:=by omega
  subst ek;rw[gN]at y;go_wp2_with fail;refine BS (AR results107 _ _ _) rfl ?_
  exact⟨rfl,y.out,hF⟩
theorem Sy.Kv{s:St}{q:Pt.Bs}{k:Nat}(hk:k<s.files.length)(hno:∀j∈s.files.take k,(Sy.obAt s j).P≠q)(h:(Sy.obAt s s.files[k]).P=q):Sy.opened s q=(s,s.files[k]):=by
 unfold Sy.opened;have e:s.files.find? (λi=>(Sy.obAt s i).P==q)=some s.files[k]:=by
  rw[List.find?_eq_some_iff_getElem];refine⟨by simp[h],k,hk,rfl,λj b=> ?_⟩
  have a:=hno s.files[j] (List.mem_take_iff_getElem.2 ⟨j,by omega,rfl⟩)
  simp[a]
 rw[e]
theorem Sy.H5{s:St}{q:Pt.Bs}(hno:∀j∈s.files,(Sy.obAt s j).P≠q):Sy.opened s q=({s with obs:=s.obs++[⟨Sy.bytesOf q,Sy.noE,[]⟩],files:=s.files++[s.obs.length]},s.obs.length):=by
 unfold Sy.opened;have e:s.files.find? (λi=>(Sy.obAt s i).P==q)=none:=by
  rw[xD];intro j a;simp[hno j a]
 rw[e]
theorem jl{w:World}{base:Nat}{e:TypeId}{size n:Nat}{v:Value}{xs:List Value}(h:w.ownsRow base e size v n xs):∃A c,v= .slice A n c:=by
 rcases aB h with⟨rfl,rfl⟩|⟨g,cap,rfl,_⟩
 ·exact⟨none,0,rfl⟩
 exact⟨_,_,rfl⟩
def xW(p:Pl)(r:St×Nat)(w:World)(e:Ending)(w':World):Prop:=
 ∃p',e= .returned (ptr (p'.f r.2))/\aQ w' p' r.1/\p'.gs=p.gs/\p'.e=p.e/\Fr p.C w w'/\Sub w p'.C p.C
theorem open_any(p:Pl)(s:St)(n:Nat)(pa:ByteArray)(w:World)(h:aQ w p s)(hi:Sy.In n s)(hn:n<=1000):Calls prog 106 #[.pointer p.gs,pa] w (xW p (Sy.opened s pa) w):=by
 obtain⟨i0,hif,hz0,hz1,hz2⟩:=lw UY;have hA:=aL h;have HI:=aL hi;have g3:=h.zF;have hgs:p.gs<w:=h.bz h.jq;obtain⟨A,c,M,B⟩:=h.uC;rw[M]at g3;have hfl:=hi.fl;unfold xW;clear h hi;go_enter func106,ntmps106;go_wp2_with fail;clear g3
 go_loopw [13] (λj wr=>Hid (wr=w)/\∃k:Nat,k<=s.files.length/\j= .int .i64 k/\Hid (∀j∈s.files.take k,(Sy.obAt s j).P≠pa.data.toList)) (λj _=>s.files.length- (intOf j).toNat)
 case atStart=>exact⟨aL rfl,0,bL _,rfl,aL (by simp)⟩
 case round=>
  obtain⟨hh,k,x,rfl,m⟩:=hrel;have l:=aL hh.out;have g:Hid (aQ wr p s):=aL (by rw[l.out];exact hA.out)
  clear hh
  by_cases E:k<s.files.length
  ·obtain⟨i,hi⟩:∃i,i=s.files[k]:=⟨_,rfl⟩
   have hil:i<s.obs.length:=hi▸HI.out.fsub _ (cz E);obtain⟨b,o,Kr,hbb,h0⟩:=g.out.fileAt M E;rw[<-hi]at h0;subst Kr;obtain⟨Al,cl,K,_,_⟩:=g.out.ob i hil;have Y:Hid (∀ob,ob=Sy.obAt s i->ob.P=pa.data.toList->Sy.opened s pa.data.toList=(s,i)):=aL λob ho hq=>by
    have h9:=Sy.Kv E m.out (by rw[<-hi,<-ho];exact hq)
    rw[h9,<-hi]
   have W:Hid (∀ob,ob=Sy.obAt s i->ob.P≠pa.data.toList->∀j∈s.files.take (k+1),(Sy.obAt s j).P≠pa.data.toList):=aL λob ho hq j V=>by
    rw[aF E,gF,eD]at V
    rcases V with V|V
    ·exact m.out j V
    rw[V,<-hi,<-ho];exact hq
   have hsz:=(HI.out.obAt i).1;obtain⟨ob,I⟩:∃ob,ob=Sy.obAt s i:=⟨_,rfl⟩;have Y:=aL (Y.out ob I);have W:=aL (W.out ob I);rw[<-I]at K hsz;clear I hi;obtain⟨op,ot,ol⟩:=ob;rw[show(⟨op,ot,ol⟩:Ob).P=op.data.toList from rfl]at Y W
   dsimp only at K hsz;have z:=K.three;obtain⟨gf,S⟩:∃gf,gf=p.f i:=⟨_,rfl⟩;rw[<-S]at h0 z;have HGF:=aL S;clear S K
   rcases t1:(op.toList==pa.toList)with _|_
   ·have Q:=aL (W.out (λq=>by rw[aj]at t1;simp[q]at t1))
    clear W Y;go_wp2;go_roundw
    case rel=>exact⟨aL l.out,k+1,E,by go_num,Q⟩
    case measure=>simp[intOf];omega
   have Q:=aL (Y.out (by rw[aj]at t1;simpa using t1))
   clear W Y;go_wp2;go_ret;exact⟨p,by rw[Q.out,HGF.out];rfl,by rw[Q.out];exact g.out,rfl,rfl,by rw[l.out];exact Fr.refl _ _,Sub.refl _ _⟩
  have m:=m.out;rw[fI (by omega)]at m
  have Q:=aL (Sy.H5 m);clear m;have hgr:p.gs<wr:=by rw[l.out];exact hgs
  have u:=aL (g.out.Wy HI.out pa);have hF2:Fr p.C w (wr.alloc (.cells #[pa,Qs.e,()] 149)):=by rw[l.out];exact Fr.alloc _ _ _
  have U:Hid (Pl.f {p with F:=p.F++[wr.heap.size]} s.obs.length=wr.heap.size):=aL (by unfold Pl.f;rw[<-g.out.fl];exact Sy.uz _ _)
  have HNC:Hid (∀k,p.C k->k<wr.heap.size):=aL λk x=>g.out.bz x
  have hfr:∀k,k<wr.heap.size->¬p.C k->Pl.C {p with F:=p.F++[wr.heap.size]} k->False:=λk x hn B=>by
   rcases B with B|B|B
   ·exact hn (.inl B)
   ·rcases List.mem_append.1 B with B|B
    ·exact hn (.inr (.inl B))
    rw[eD]at B;omega
   exact hn (.inr (.inr B))
  have HFR:=aL hfr;clear hfr;obtain⟨y,D⟩:∃y,y=wr.heap.size:=⟨_,rfl⟩;have hgl:y<(wr.alloc (.cells #[pa,Qs.e,()] 149)).heap.size:=by rw[D,bX];omega
  have hgg:p.gs<y:=by rw[D];exact hgr
  have ady:w.heap.size=y:=by rw[D,l.out]
  go_upto_region 8 with fail
  rw[<-D]at u U HFR HNC ⊢;clear D hgr;generalize wr.alloc (.cells #[pa,Qs.e,()] 149)=H at*;have g3:H.cell? ⟨p.gs,3,none⟩=some (.slice A s.files.length c):=by have:=u.out.zF;rw[<-M];exact this
  have hg2:p.gs<H:=by omega
  have hown:H.ownsRow 0 144 1 (.slice A s.files.length c) s.files.length (s.files.map λi=>ptr (Pl.f {p with F:=p.F++[y]} i)):=by have:=u.out.files;rw[<-M];exact this
  have hfz:∀i,H.frozen? ⟨p.gs,i,none⟩=false:=by obtain⟨_,_,_,_,_,_,Z,_⟩:=u.out.box;exact Z.frozen
  have O:∀k,p.v.ownBlock=some k->k≠p.gs:=λk x e=>g.out.RF (e▸x)
  rw[M]at O;have N:=aL O;clear O g l;have hg3:∀G,H.grownBy G (Value.slice A s.files.length c).ownBlock->G.cell? ⟨p.gs,3,none⟩=some (.slice A s.files.length c)/\G.frozen? ⟨p.gs,3,none⟩=false/\p.gs<G:=λG hg=>by
   obtain⟨AU,AL,AT,cU,cL,cT,Z,_⟩:=u.out.box;have hb3:=ai.grown Z hg λe=>N.out _ e.symm rfl
   refine⟨?_,hb3.frozen 3,bE hg2 hg.size⟩
   have:=hb3.cell 3;rw[<-M];exact this
  go_wp2_with (at_builtin;go_must (refine ax H rfl _ _ _ rfl 0 144 i0 _ 1 8 underlying66 hif hz0 hz1 hz2 rfl (by decide) (.slice A s.files.length c) _ _ rfl hown [.pointer (some ⟨y,0,none⟩)] rfl rfl (by simp[Value.oneCell']) (by omega) (by decide) (bL _) _ rfl ?_);intro v3 G L a at3;obtain⟨r,t,rfl⟩:=jl L;obtain⟨g3,gf3,gz3⟩:=hg3 G a)
  go_ret;have hq1:Fr (λk=>k=p.gs\/p.v.ownBlock=some k) H (G.setCell ⟨p.gs,3,none⟩ (.slice r (s.files.length+1) t)):=by
   rw[M];exact(Fr.grown (X:=λk=>k=p.gs\/(Value.slice A s.files.length c).ownBlock=some k) a λk x=> .inr x).setCell (p:=⟨p.gs,3,none⟩) (.inl rfl) (.slice r (s.files.length+1) t)
  have hq2:∀k,(Value.slice r (s.files.length+1) t).ownBlock=some k->p.v.ownBlock=some k\/H.heap.size<=k:=λk x=>by
   rw[M]
   rcases at3 with e|e
   ·exact .inl (e▸x)
   rw[e]at x;injection x with x;right;omega
  have hq3:∀cs,ai H p.gs 71 cs->ai (G.setCell ⟨p.gs,3,none⟩ (.slice r (s.files.length+1) t)) p.gs 71 (cs.set 3 (.slice r (s.files.length+1) t)):=λcs Z=>(ai.grown Z a λe=>N.out _ e.symm rfl).bY 3 (.slice r (s.files.length+1) t)
  have hq4:(G.setCell ⟨p.gs,3,none⟩ (.slice r (s.files.length+1) t)).ownsRow 0 144 1 (.slice r (s.files.length+1) t) (s.files++[s.obs.length]).length ((s.files++[s.obs.length]).map λi=>ptr (Pl.f {p with F:=p.F++[y]} i)):=by
   have h3:(G.setCell ⟨p.gs,3,none⟩ (.slice r (s.files.length+1) t)).ownsRow 0 144 1 (.slice r (s.files.length+1) t) (s.files.length+1) ((s.files.map λi=>ptr (Pl.f {p with F:=p.F++[y]} i))++[.pointer (some ⟨y,0,none⟩)]):=ownsRow_setCell_other L (λe=>by
    rcases at3 with q|q
    ·rw[q]at e;exact N.out _ e rfl
    rw[q]at e;injection e with e;have e:H.heap.size+1=p.gs:=e;omega) (.slice r (s.files.length+1) t)
   rw[bq,vQ]
   show World.ownsRow _ _ _ _ _ _ (_++[ptr (Pl.f {p with F:=p.F++[y]} s.obs.length)])
   rw[U.out];exact h3
  have hAq:=u.out.G8 (.slice r (s.files.length+1) t) (s.files++[s.obs.length]) hq1 hq2 hq3 hq4;refine⟨{p with F:=p.F++[y],v:= .slice r (s.files.length+1) t},?_,by rw[Q.out];exact hAq,rfl,rfl,?_,λk x q=> ?_⟩
  ·rw[Q.out]
   show Ending.returned _=Ending.returned (ptr (Pl.f {p with F:=p.F++[y]} s.obs.length))
   rw[U.out];rfl
  ·exact hF2.trans hq1 λk _ q=>q.elim (λe=> .inl e) λe=> .inr (.inr (.inr e))
  rcases q with q|q|q|q
  ·exact .inl q
  ·rcases List.mem_append.1 q with q|q
   ·exact .inr (.inl q)
   rw[eD]at q;omega
  ·exact .inr (.inr (.inl q))
  have q:(Value.slice r (s.files.length+1) t).ownBlock=some k:=q
  rcases hq2 k q with q|q
  ·exact .inr (.inr (.inr q))
  omega
end Go.Proofs.YtjppfhgkanbemabGreatDoor
