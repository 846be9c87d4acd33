/- A part of the proof of SysTells: LC. -/
import Derived.Test.YtjppfhgkanbemabGreatDoorLB
import Derived.Test.YtjppfhgkanbemabGreatDoorMB
import Derived.Deep.QuietTactic
import Derived.BigQuiet
import Derived.Deep.DeepMust
import Derived.Laws.AppendOwnNone
set_option maxHeartbeats 3000000
set_option maxRecDepth 100000
set_option linter.all false
namespace Go.Proofs.YtjppfhgkanbemabGreatDoor
open Tryz
open Go.RowKit
namespace Lk
open Tryz
def aba(o k:Int)(y:Lk):Bool:=y.o==o&&decide (y.f<=k)&&decide (k<y.t)
def way(a:Bool):Int:=bif a then 2 else 1
def how(l:List Lk)(o k:Int):Int:=match l.find? (aba o k)with
 |some y=>way y.a
 |none=>0
end Lk
theorem TA:(prog.info? 3).map (λi=>(i.zero,i.size,i.bytes))=some (some (.int .i64 0),1,8):=by kernel_rfl
def o7(f:Nat->Int):List Value:=(List.range 1001).map λk=>Value.int .i64 (f k)
def upd(f:Nat->Int)(k:Nat)(v:Int):Nat->Int:=λi=>if i=k then v else f i
theorem qF(f:Nat->Int):(o7 f).length=1001:=by unfold o7;rw[ib,Ex]
theorem z_(f:Nat->Int){k:Nat}(h:k<1001):(o7 f)[k]? =some (.int .i64 (f k)):=by
 unfold o7;rw[pE,List.getElem?_range h];rfl
theorem TB(f:Nat->Int)(k:Nat)(v:Int):(o7 f).set k (.int .i64 v)=o7 (upd f k v):=by
 apply lv
 intro i;rw[List.getElem?_set]
 by_cases a:i<1001
 ·rw[z_ _ a,z_ _ a,qF]
  by_cases h:k=i
  ·subst h;rw[aM rfl,aM a];unfold upd;rw[aM rfl]
  rw[av h];unfold upd;rw[av (λe=>h e.symm)]
 rw[j4 (by rw[qF];omega),j4 (by rw[qF];omega),qF]
 by_cases h:k=i
 ·subst h;rw[aM rfl,av a]
 rw[av h]
theorem ai.ZK{w:World}{g:Nat}{f:Nat->Int}(h:ai w g 3 (o7 f)){t:Int}(h0:0<=t)(h1:t<1001):w.cell? ⟨g,t.toNat,none⟩=some (.int .i64 (f t.toNat)):=by
 rw[h.cell];exact z_ f (by omega)
theorem ai.TC{w:World}{g:Nat}{f:Nat->Int}(h:ai w g 3 (o7 f))(t:Int)(v:Int):ai (w.setCell ⟨g,t.toNat,none⟩ (.int .i64 v)) g 3 (o7 (upd f t.toNat v)):=by
 have:=h.bY t.toNat (.int .i64 v);rwa [TB]at this
def part(f:Nat->Int)(x:Lk)(o:Int)(t:Int):Nat->Int:=λk=>if x.o=o/\x.f<=k/\(k:Int)<t then Lk.way x.a else f k
def fA(l:List Lk)(o:Int):Nat->Int:=l.foldl (λf x=>part f x o x.t) λ_=>0
theorem Le(f:Nat->Int)(x:Lk)(o:Int):part f x o x.f=f:=by
 funext k;unfold part;rw[av (by omega)]
theorem Lh(f:Nat->Int){x:Lk}{o:Int}(h:x.o≠o)(t:Int):part f x o t=f:=by
 funext k;unfold part;rw[av (λe=>h e.1)]
theorem PR(f:Nat->Int){x:Lk}{o:Int}(h:x.o=o){t:Int}(h0:0<=t)(hf:x.f<=t):upd (part f x o t) t.toNat (Lk.way x.a)=part f x o (t+1):=by
 funext k
 unfold upd part
 by_cases e:k=t.toNat
 ·rw[aM e,aM (by omega)]
 rw[av e]
 by_cases c:x.o=o/\x.f<=k/\(k:Int)<t
 ·rw[aM c,aM (by omega)]
 rw[av c,av (by omega)]
theorem VG(f:Nat->Int)(k:Nat)(a b:Int):upd (upd f k a) k b=upd f k b:=by
 funext i;unfold upd;split<;>rfl
theorem qG{l:List Lk}{k:Nat}(hk:k<l.length)(o:Int):part (fA (l.take k) o) l[k] o l[k].t=fA (l.take (k+1)) o:=by
 unfold fA;rw[aF hk,EA];rfl
theorem PS:madeCells #[Value.int .i64 0] 1001=(o7 λ_=>0).toArray:=by
 apply Array.ext
 ·rw[size_madeCells,Ev,qF]
 intro i a b;simp[madeCells,o7,Nat.mod_one]
theorem TD:∃C0:Array Value,(∀w:World,(Instr.makeSlice 200 (.int .i64 1001) (.int .i64 1001)).run prog w= .ok (.slice w 1001 1001) (w.alloc (.cells C0 3)))/\C0=(o7 λ_=>0).toArray:=by
 obtain⟨e,g,b,c,a⟩:=lw TA;refine⟨_,λw=> ?_,PS⟩
 have h:=run_make (P:=prog) (w:=w) 200 3 e (.int .i64 0) underlying200 g b .i64 .i64 1001 1001 (by decide) (by decide) (by rw[a];decide) (by decide)
 rw[c,show(1001:Int).toNat=1001 from rfl,FJ]at h
 exact h
theorem DC(A:Option Addr)(c:Nat)(l:List Lk)(o:Int)(w:World)(hl:dJ w w.heap.size A l)(hr:∀x∈l,Lk.range x=false)(hbig:l.length<=1000):Calls prog 161 #[.slice A l.length c,o] w λe w'=>e= .returned (.slice (some ⟨w.heap.size,0,none⟩) 1001 1001)/\ai w' w.heap.size 3 (o7 (fA l o))/\Below w.heap.size w w':=by
 obtain⟨C0,W,G⟩:=TD;have HC:=aL G;clear G;go_enter func161,ntmps161;go_wp2_with fail;clear W;have H:ai (w.alloc (.cells C0 3)) w.heap.size 3 (o7 λ_=>0):=by rw[HC.out];exact ai.new w _ _
 have I:Below w.heap.size w (w.alloc (.cells C0 3)):=(aa _ _).alloc aR _
 go_loopw [12] (λi wr=>∃k:Nat,k<=l.length/\i= .int .i64 k/\Below w.heap.size w wr/\ai wr w.heap.size 3 (o7 (fA (l.take k) o))) (λi _=>l.length- (intOf i).toNat)
 case atStart=>exact⟨0,bL _,rfl,I,H⟩
 case round=>
  obtain⟨k,hk,rfl,K,F⟩:=hrel;clear H I
  by_cases r:k<l.length
  ·obtain⟨bl,ol,rfl,hbl,Q,S,O,V⟩:=(dJ.at_ (hl.below K) r)
   have L:=hr _ (cz r);rw[Lk.bF]at L;obtain⟨_,_,q1,q2,q3⟩:=L;have M:=aL (qG r o);generalize l[k]=x at Q S O V q1 q2 q3 M;obtain⟨g,b,a,j⟩:=x;dsimp only at Q S O V q1 q2 q3;go_wp2_with fail;have y:=ai.new wr 166 [g,b,a,j];have q:=F.alloc (.cells #[g,b,a,j] 166);have v:=K.alloc K.size (.cells #[g,b,a,j] 166);have hgx:w.heap.size<wr.heap.size:=F.lt;have Z:=aL (Le (fA (l.take k) o) ⟨g,b,a,j⟩ o);clear Q S O V F K;generalize wr.alloc (.cells #[g,b,a,j] 166)=w1 at*;generalize wr.heap.size=gx at*;have HG:=aL (rfl:fA (l.take k) o=fA (l.take k) o);generalize fA (l.take k) o=f at q M Z;clear HG;have z:=y.four
   by_cases D:g=o
   ·have Y:(g==o)=true:=by simpa using D
    have HO:=aL D;clear D
    go_loopw [8] (λi E=>∃t:Int,b<=t/\t<=a/\i= .int .i64 t/\Below w.heap.size w E/\ai E gx 166 [g,b,a,j]/\ai E w.heap.size 3 (o7 (part f ⟨g,b,a,j⟩ o t))) (λi _=>(a-intOf i).toNat)
    case atStart=>exact⟨b,rA _,by omega,rfl,v,y,by rw[Z.out];exact q⟩
    case round=>
     obtain⟨t,U,ht2,rfl,B,u,n⟩:=hrel;clear v y q z;have z:=u.four
     by_cases hlt2:t<a
     ·have a1:=n.ZK (t:=t) (by omega) (by omega)
      have a1f:=n.frozen t.toNat;have N:=aL (PR f (x:=⟨g,b,a,j⟩) HO.out (by omega:0<=t) U)
      generalize part f ⟨g,b,a,j⟩ o t t.toNat=old at a1;have m:gx≠w.heap.size:=by omega
      cases j
      ·go_wp2
       go_roundw
       case rel=>exact⟨t+1,by omega,by omega,rfl,B.setCell (p:=⟨w.heap.size,t.toNat,none⟩) aR _,u.far (by exact m) _,by rw[<-N.out];exact n.TC t 1⟩
       case measure=>simp[intOf];omega
      go_wp2;go_roundw
      case rel=>exact⟨t+1,by omega,by omega,rfl,(B.setCell (p:=⟨w.heap.size,t.toNat,none⟩) aR _).setCell (p:=⟨w.heap.size,t.toNat,none⟩) aR _,(u.far (by exact m) _).far (by exact m) _,by rw[<-N.out];have h:=(n.TC t 1).TC t 2;rw[VG]at h;exact h⟩
      case measure=>simp[intOf];omega
     obtain rfl:t=a:=by omega
     go_wp2;go_roundw
     case rel=>exact⟨k+1,by omega,by go_num,B,by rw[<-M.out];exact n⟩
     case measure=>simp[intOf];omega
   have Y:(g==o)=false:=by simpa using D
   have N:=aL (Lh f (x:=⟨g,b,a,j⟩) D a);clear D
   go_loopw [8] (λi E=>i= .int .i64 b/\E=w1) (λ_ _=>0)
   case atStart=>exact⟨rfl,rfl⟩
   case round=>
    obtain⟨rfl,rfl⟩:=hrel;go_wp2;go_roundw
    case rel=>exact⟨k+1,by omega,by go_num,v,by rw[<-M.out,N.out];exact q⟩
    case measure=>simp[intOf];omega
  obtain rfl:k=l.length:=by omega
  rw[gN]at F;go_wp2;go_ret;exact⟨rfl,F,K⟩
structure qH(f:Nat->Int)(o:Int)(k:Nat)(out:List Lk):Prop where
 ok:Lk.Ok out
 mine:∀y∈out,y.o=o/\y.t<=k
 len:out.length<=k
 has:∀(j:Nat) (a:Bool),j<k->(Lk.Has out o j a↔f j=Lk.way a)
 edge:k=0\/k=1000\/f k≠f (k-1)
def pF(w w':World):Prop:=∃n,w'=w.drewN n
theorem pF.refl(w:World):pF w w:=⟨0,rfl⟩
theorem pF.more{w w':World}(h:pF w w')(m:Nat):pF w (w'.drewN m):=by
 obtain⟨n,rfl⟩:=h;exact⟨n+m,by rw[World.drewN_drewN]⟩
theorem pF.blk{w w':World}(h:pF w w'){g:Nat}{t:TypeId}{cs:List Value}(hb:ai w g t cs):ai w' g t cs:=by
 obtain⟨n,rfl⟩:=h;exact hb.drewN n
theorem pF.own{w w':World}(h:pF w w'){base:Nat}{e:TypeId}{size n:Nat}{v:Value}{xs:List Value}(ho:w.ownsRow base e size v n xs):w'.ownsRow base e size v n xs:=by
 obtain⟨m,rfl⟩:=h;exact own_drewN ho m
theorem pF.below{w w':World}(h:pF w w'){B:Nat}{a:World}(hb:Below B a w):Below B a w':=by
 obtain⟨m,rfl⟩:=h;exact below_drewN hb m
theorem EZ{a b:Bool}(h:Lk.way a=Lk.way b):a=b:=by
 cases a<;>cases b<;>first|rfl|(exact absurd h (by decide))
theorem Lj(f:Nat->Int)(o:Int):qH f o 0 []:=
 ⟨Lk.Kw,λ_ h=>(nomatch h),aR,λ_ _ h=>absurd h (l5 _),.inl rfl⟩
theorem DD{f:Nat->Int}{o:Int}{k e:Nat}{out:List Lk}(h:qH f o k out)(hke:k<e)(hs:∀j,k<=j->j<e->f j=f k)(he:e=1000\/f e≠f k)(h0:¬0<f k):qH f o e out:=by
 refine⟨h.ok,λy c=>⟨(h.mine y c).1,?_⟩,by have:=h.len;omega,λj a g=> ?_,?_⟩
 ·have:=(h.mine y c).2;omega
 ·rcases iB j k with b|b
  ·exact h.has j a b
  rw[hs j b g]
  constructor
  ·rintro⟨y,c,_,_,l,_⟩
   have:=(h.mine y c).2;omega
  intro i
  exfalso
  rw[i]at h0
  cases a<;>exact h0 (by decide)
 right
 rcases he with rfl|he
 ·exact .inl rfl
 right
 rw[hs (e-1) (by omega) (by omega)]
 exact he
theorem DF{f:Nat->Int}{o:Int}{k e:Nat}{out:List Lk}(h:qH f o k out)(ho:0<=o/\o<4)(hke:k<e)(he0:e<=1000)(hs:∀j,k<=j->j<e->f j=f k)(he:e=1000\/f e≠f k){a:Bool}(h0:f k=Lk.way a):qH f o e (out++[⟨o,k,e,a⟩]):=by
 have u:Lk.range ⟨o,k,e,a⟩=false:=by rw[Lk.bF];exact⟨ho.1,ho.2,by show(0:Int)<=k;omega,by show(k:Int)<e;omega,by show(e:Int)<=1000;omega⟩
 refine⟨⟨?_,?_⟩,?_,by rw[bq];have:=h.len;simp;omega,λj z E=> ?_,?_⟩
 ·intro x g
  rcases List.mem_append.1 g with g|g
  ·exact h.ok.1 x g
  rw[List.mem_singleton.1 g];exact u
 ·refine List.pairwise_append.2 ⟨h.ok.2,nQ _ _,λy b x g=> ?_⟩
  rw[List.mem_singleton.1 g,Lk.jm];obtain⟨i,n⟩:=h.mine y b;refine⟨by rw[i];exact rA _,λ_=> ?_⟩
  show y.t<(k:Int)\/(y.t=(k:Int)/\y.a≠a)
  rcases Int.lt_or_eq_of_le n with l|m
  ·exact .inl l
  right
  refine⟨m,λF=> ?_⟩
  have q:=h.ok.1 y b;rw[Lk.bF]at q;have G:0<k:=by omega
  have D:Lk.Has out o ((k-1:Nat):Int) y.a:=⟨y,b,i,by omega,by omega,rfl⟩
  have p:=(h.has (k-1) y.a (by omega)).1 D
  rcases h.edge with r|r|r
  ·omega
  ·omega
  exact r (by rw[p,F,h0])
 ·intro y b
  rcases List.mem_append.1 b with b|b
  ·have:=h.mine y b;exact⟨this.1,by omega⟩
  rw[List.mem_singleton.1 b];exact⟨rfl,rA _⟩
 ·rw[Lk.dO]
  rcases iB j k with c|c
  ·rw[<-h.has j z c]
   constructor
   ·rintro(p|⟨y,b,_,v,_,_⟩)
    ·exact p
    rw[List.mem_singleton.1 b]at v;have B:(k:Int)<=j:=v;omega
   exact .inl
  rw[hs j c E,h0]
  constructor
  ·rintro(⟨y,b,_,_,H,_⟩|⟨y,b,_,_,_,w⟩)
   ·have:=(h.mine y b).2;omega
   rw[List.mem_singleton.1 b]at w;rw[<-w]
  intro A;exact .inr ⟨_,List.mem_singleton.2 rfl,rfl,by show(k:Int)<=j;omega,by show(j:Int)<e;omega,EZ A⟩
 right
 rcases he with rfl|he
 ·exact .inl rfl
 right
 rw[hs (e-1) (by omega) (by omega)]
 exact he
theorem uO(g c:Nat)(f:Nat->Int)(o:Int)(w:World)(hb:ai w g 3 (o7 f))(ho:0<=o/\o<4)(hf:∀j,f j=0\/∃a,f j=Lk.way a):Calls prog 162 #[.slice (some ⟨g,0,none⟩) 1001 c,o] w λe w'=>∃v out,e= .returned v/\aW w' w.heap.size v out/\qH f o 1000 out/\Below w.heap.size w w':=by
 obtain⟨U,V,x,z,A⟩:=lw oZ;have hg:=hb.lt;have HF:=aL hf;clear hf;go_enter func162,ntmps162;go_wp2
 go_loopw [5,6] (λv i wr=>∃(k:Nat) (out:List Lk),k<=1000/\i= .int .i64 k/\aW wr w.heap.size v out/\Hid (qH f o k out)/\out.length<=k/\Below w.heap.size w wr) (λ_ i _=>1000- (intOf i).toNat)
 case atStart=>exact⟨0,[],by omega,rfl,jN _ _ _ _,aL (Lj f o),aR,aa _ _⟩
 case round=>
  obtain⟨k,out,hk,rfl,D,L,hlen,hB⟩:=hrel
  by_cases W:k<1000
  ·have M:=hb.below hB hg
   have ak:=M.ZK (t:=(k:Int)) (by omega) (by omega)
   rw[mH]at ak;have HK:=aL (rfl:f k=f k);obtain⟨u,G⟩:∃u,u=f k:=⟨_,rfl⟩;rw[<-G]at ak;have n:=aL G;clear G HK;go_wp2_with fail;obtain⟨wo,rfl⟩:∃wo:World,wo=wr:=⟨_,rfl⟩
   go_loopw [7] (λi wj=>∃e:Nat,k+1<=e/\e<=1000/\i= .int .i64 e/\pF wo wj/\Hid (∀j,k<=j->j<e->f j=f k)) (λi _=>1000- (intOf i).toNat)
   case atStart=>exact⟨k+1,aR,W,by go_num,pF.refl _,aL λj h1 h2=>by rw[show j=k by omega]⟩
   case round=>
    obtain⟨e,he1,p,rfl,S,Q⟩:=hrel
    rename_i wk _
    have O:=S.blk M;have b:=S.own D;have l:=S.below hB;have ak2:=O.ZK (t:=(k:Int)) (by omega) (by omega)
    rw[mH,<-n.out]at ak2;clear ak
    by_cases he3:e<1000
    ·have hd:decide ((e:Int)<1000)=true:=by simp;omega
     have ae:=O.ZK (t:=(e:Int)) (by omega) (by omega)
     rw[mH]at ae;obtain⟨fe,H⟩:∃fe,fe=f e:=⟨_,rfl⟩;rw[<-H]at ae;have I:=aL H;clear H
     rcases ht:(fe==u)with _|_
     ·have N:=aL (show f e≠f k by rw[<-I.out,<-n.out];simpa using ht)
      rcases HF.out k with E|⟨a,ha⟩
      ·obtain rfl:u=0:=n.out.trans E
       have B:=aL (DD L.out (by omega:k<e) Q.out (.inr N.out) (by rw[E];decide))
       clear E;go_wp2_with fail
       go_quiet (fail)
       go_wp2;go_roundw
       case rel=>exact⟨e,out,p,rfl,own_drewN b _,B,by omega,below_drewN l _⟩
       case measure=>simp[intOf];omega
      have B:=aL (DF L.out ho (by omega:k<e) p Q.out (.inr N.out) ha)
      cases a
      ·obtain rfl:u=1:=n.out.trans ha
       clear ha;go_wp2_with fail
       go_quiet (fail)
       go_wp2_with (at_builtin;go_must (refine ax _ rfl _ _ _ rfl w.heap.size 166 U _ 4 32 underlying136 V x z A rfl (by decide) u5 _ _ rfl (own_drewN b _) [o,k,e,false] rfl rfl (by simp[Value.oneCell']) (by omega) (by decide) (below_drewN l _).size _ rfl ?_);intro Y Z m r _)
       go_roundw
       case rel=>exact⟨e,out++[⟨o,k,e,false⟩],p,rfl,aW.snoc (y:=⟨o,k,e,false⟩) m rfl,B,by simp;omega,(below_drewN l _).grown r (below_drewN l _).size (λq F=>(b.lt q F).1)⟩
       case measure=>simp[intOf];omega
      obtain rfl:u=2:=n.out.trans ha;clear ha;go_wp2_with fail
      go_quiet (fail)
      go_wp2_with (at_builtin;go_must (refine ax _ rfl _ _ _ rfl w.heap.size 166 U _ 4 32 underlying136 V x z A rfl (by decide) u5 _ _ rfl (own_drewN b _) [o,k,e,true] rfl rfl (by simp[Value.oneCell']) (by omega) (by decide) (below_drewN l _).size _ rfl ?_);intro Y Z m r _)
      go_roundw
      case rel=>exact⟨e,out++[⟨o,k,e,true⟩],p,rfl,aW.snoc (y:=⟨o,k,e,true⟩) m rfl,B,by simp;omega,(below_drewN l _).grown r (below_drewN l _).size (λq F=>(b.lt q F).1)⟩
      case measure=>simp[intOf];omega
     have SK:=aL (show f e=f k by rw[<-I.out,<-n.out];simpa using ht)
     go_wp2_with fail
     go_quiet (fail)
     go_wp2;go_roundw
     case rel=>exact⟨e+1,by omega,by omega,by go_num,S.more _,aL λj h1 h2=>by
      rcases iB j e with h|h
      ·exact Q.out j h1 h
      rw[show j=e by omega];exact SK.out⟩
     case measure=>simp[intOf];omega
    have hd:decide ((e:Int)<1000)=false:=by simp;omega
    have K:=aL (show e=1000 by omega)
    rcases HF.out k with E|⟨a,ha⟩
    ·obtain rfl:u=0:=n.out.trans E
     have B:=aL (DD L.out (by omega:k<e) Q.out (.inl K.out) (by rw[E];decide))
     clear E;go_wp2_with fail
     go_quiet (fail)
     go_wp2;go_roundw
     case rel=>exact⟨e,out,p,rfl,own_drewN b _,B,by omega,below_drewN l _⟩
     case measure=>simp[intOf];omega
    have B:=aL (DF L.out ho (by omega:k<e) p Q.out (.inl K.out) ha)
    cases a
    ·obtain rfl:u=1:=n.out.trans ha
     clear ha;go_wp2_with fail
     go_quiet (fail)
     go_wp2_with (at_builtin;go_must (refine ax _ rfl _ _ _ rfl w.heap.size 166 U _ 4 32 underlying136 V x z A rfl (by decide) u5 _ _ rfl (own_drewN b _) [o,k,e,false] rfl rfl (by simp[Value.oneCell']) (by omega) (by decide) (below_drewN l _).size _ rfl ?_);intro Y Z m r _)
     go_roundw
     case rel=>exact⟨e,out++[⟨o,k,e,false⟩],p,rfl,aW.snoc (y:=⟨o,k,e,false⟩) m rfl,B,by simp;omega,(below_drewN l _).grown r (below_drewN l _).size (λq F=>(b.lt q F).1)⟩
     case measure=>simp[intOf];omega
    obtain rfl:u=2:=n.out.trans ha;clear ha;go_wp2_with fail
    go_quiet (fail)
    go_wp2_with (at_builtin;go_must (refine ax _ rfl _ _ _ rfl w.heap.size 166 U _ 4 32 underlying136 V x z A rfl (by decide) u5 _ _ rfl (own_drewN b _) [o,k,e,true] rfl rfl (by simp[Value.oneCell']) (by omega) (by decide) (below_drewN l _).size _ rfl ?_);intro Y Z m r _)
    go_roundw
    case rel=>exact⟨e,out++[⟨o,k,e,true⟩],p,rfl,aW.snoc (y:=⟨o,k,e,true⟩) m rfl,B,by simp;omega,(below_drewN l _).grown r (below_drewN l _).size (λq F=>(b.lt q F).1)⟩
    case measure=>simp[intOf];omega
  obtain rfl:k=1000:=by omega
  go_wp2;go_ret;exact⟨_,out,rfl,D,L.out,hB⟩
namespace Lk
open Tryz
end Lk
theorem take_zero{l m:List Lk}{x:Lk}(h:rG l x m 0):Lk.Right l/\Lk.range x=false/\(Lk.meets l x).isSome=false/\m.length<=40/\Lk.Right m/\∀o k a,Lk.Has m o k a↔(Lk.Has l o k a/\¬Lk.In x o k)\/(Lk.In x o k/\a=x.a):=by
 rcases h with⟨h,_,e⟩|⟨_,h,_,e⟩|⟨_,_,_,_,e⟩|⟨q,p,g,u,i,t,h⟩
 ·exact absurd e.symm h
 ·exact absurd e.symm h
 ·cases e
 rcases h with⟨_,_,e⟩|⟨r,rfl,_⟩
 ·cases e
 have c:=((Lk.az l).1 q).2;have b:=(Lk.Dt x).1 ((Lk.az [x]).1 p).2;obtain⟨n,j⟩:=Lk.xw c b g i t;exact⟨c,b,g,r,n,j⟩
theorem xZ(a:Bool):0<Lk.way a:=by cases a<;>decide
theorem Ll(l:List Lk)(o:Int):∀j,fA l o j=0\/∃a,fA l o j=Lk.way a:=by
 have h:∀k,k<=l.length->∀j,fA (l.take k) o j=0\/∃a,fA (l.take k) o j=Lk.way a:=by
  intro k
  induction k with
  |zero=>intro _ j;exact .inl rfl
  |succ k ih=>
   intro b j;rw[<-qG (by omega:k<l.length)]
   unfold part
   split
   ·exact .inr ⟨_,rfl⟩
   ·exact ih (by omega) j
 have:=h l.length aR
 rwa [gN]at this
theorem Ac{l:List Lk}(hl:Lk.Ok l)(o:Int)(j:Nat)(a:Bool):fA l o j=Lk.way a↔Lk.Has l o j a:=by
 have h:∀k,k<=l.length->(fA (l.take k) o j=Lk.way a↔Lk.Has (l.take k) o j a):=by
  intro k
  induction k with
  |zero=>
   intro _
   constructor
   ·intro e
    have i:=xZ a;have p:fA (l.take 0) o j=0:=rfl;omega
   ·rintro⟨y,g,_⟩;simp at g
  |succ k n=>
   intro u;have b:k<l.length:=by omega
   have n:=n (by omega)
   rw[<-qG b,aF b,Lk.dO];unfold part
   by_cases c:l[k].o=o/\l[k].f<=(j:Int)/\(j:Int)<l[k].t
   ·rw[aM c]
    have m:Lk.Has l o j l[k].a:=⟨l[k],cz b,c.1,c.2.1,c.2.2,rfl⟩
    constructor
    ·intro e
     exact .inr ⟨l[k],List.mem_singleton.2 rfl,c.1,c.2.1,c.2.2,EZ e⟩
    ·rintro(⟨y,g,i⟩|⟨y,g,_,_,_,q⟩)
     ·have:=Lk.xu hl m ⟨y,xV g,i⟩
      rw[this]
     ·rw[List.mem_singleton.1 g]at q;rw[q]
   ·rw[av c,n]
    constructor
    ·exact .inl
    ·rintro(i|⟨y,g,i,p,r,_⟩)
     ·exact i
     ·rw[List.mem_singleton.1 g]at i p r;exact absurd ⟨i,p,r⟩ c
 have:=h l.length aR
 rwa [gN]at this
def sW(l:List Lk)(x:Lk)(how:Int)(o:Int):Nat->Int:=λk=>if x.o=o/\x.f<=k/\(k:Int)<x.t then how else fA l o k
structure uP(l:List Lk)(x:Lk)(how:Int)(q:Nat)(out:List Lk):Prop where
 ok:Lk.Ok out
 mine:∀y∈out,y.o<q
 len:out.length<=1000*q
 has:∀(o:Nat) (j:Nat) (a:Bool),o<q->j<1000->(Lk.Has out o j a↔sW l x how o j=Lk.way a)
theorem DI(l:List Lk)(x:Lk)(how:Int):uP l x how 0 []:=
 ⟨Lk.Kw,λ_ h=>(nomatch h),aR,λ_ _ _ h=>absurd h (l5 _)⟩
theorem lg{l:List Lk}{x:Lk}{how:Int}{q:Nat}{out r:List Lk}(h:uP l x how q out)(hr:qH (sW l x how q) q 1000 r):uP l x how (q+1) (out++r):=by
 refine⟨⟨?_,?_⟩,?_,by rw[bq];have:=h.len;have:=hr.len;omega,λo j a n i=> ?_⟩
 ·intro y b
  rcases List.mem_append.1 b with b|b
  ·exact h.ok.1 y b
  exact hr.ok.1 y b
 ·refine List.pairwise_append.2 ⟨h.ok.2,hr.ok.2,λy b z m=> ?_⟩
  rw[Lk.jm];have c:=h.mine y b;have p:=(hr.mine z m).1;exact⟨by omega,λe=>by omega⟩
 ·intro y b
  rcases List.mem_append.1 b with b|b
  ·have:=h.mine y b;omega
  have:=(hr.mine y b).1;omega
 rw[Lk.dO]
 rcases iB o q with g|k
 ·rw[<-h.has o j a g i]
  constructor
  ·rintro(c|⟨y,b,c,_⟩)
   ·exact c
   have:=(hr.mine y b).1;omega
  exact .inl
 obtain rfl:o=q:=by omega
 rw[<-hr.has j a i]
 constructor
 ·rintro(⟨y,b,c,_⟩|c)
  ·have:=h.mine y b;omega
  exact c
 exact .inr
def nZ(l:List Lk)(x:Lk)(how:Int)(m:List Lk)(err:Int):Prop:=
 ((Lk.wrong l).1≠0/\m=[]/\err=(Lk.wrong l).1)\/
 ((Lk.wrong l).1=0/\(Lk.wrong [x]).1≠0/\m=[]/\err=(Lk.wrong [x]).1)\/
 ((Lk.wrong l).1=0/\(Lk.wrong [x]).1=0/\0<how/\(Lk.meets l x).isSome=true/\m=[]/\err=13)\/
 ((Lk.wrong l).1=0/\(Lk.wrong [x]).1=0/\(0<how->(Lk.meets l x).isSome=false)/\∃out,uP l x how 4 out/\((40<out.length/\m=[]/\err=5)\/(out.length<=40/\m=out/\err=0)))
theorem wu{x:Lk}(h:(Lk.wrong [x]).1=0):Lk.range x=false:=((Lk.az [x]).1 h).2.1 x (by simp)
theorem NK{m out l:List Lk}{x:Lk}{how:Int}(hm:Lk.Ok m)(ho:uP l x how 4 out)(h:∀(o j:Nat) (a:Bool),o<4->j<1000->(Lk.Has m o j a↔sW l x how o j=Lk.way a)):m=out:=by
 refine Lk.vT hm ho.ok λo k a=> ?_
 have c:∀{z:List Lk},Lk.Ok z->Lk.Has z o k a->0<=o/\o<4/\0<=k/\k<1000:=by
  rintro z t ⟨y,p,q,n,r,_⟩;have:=t.1 y p;rw[Lk.bF]at this;omega
 have b:0<=o/\o<4/\0<=k/\k<1000->(Lk.Has m o k a↔Lk.Has out o k a):=by
  rintro⟨q,n,r,u⟩;obtain⟨g,rfl⟩:∃g:Nat,o=g:=⟨o.toNat,by omega⟩
  obtain⟨i,rfl⟩:∃i:Nat,k=i:=⟨k.toNat,by omega⟩
  rw[h g i a (by omega) (by omega),ho.has g i a (by omega) (by omega)]
 constructor
 ·intro e;exact(b (c hm e)).1 e
 intro e;exact(b (c ho.ok e)).2 e
theorem TE(x:Lk)(o k:Int):Lk.In x o k↔(x.o=o/\x.f<=k/\k<x.t):=by
 unfold Lk.In
 constructor
 ·rintro⟨a,b⟩;exact⟨a.symm,b⟩
 rintro⟨a,b⟩;exact⟨a.symm,b⟩
theorem Lm{l out:List Lk}{x:Lk}(hl:Lk.Right l)(hx:Lk.range x=false)(ho:uP l x 0 4 out):Lk.cut l x=out:=by
 obtain⟨b,g⟩:=Lk.H9 hl hx;refine NK ((Lk.iH _).1 b).1 ho λo j a _ _=> ?_
 rw[g,TE];unfold sW
 by_cases c:x.o=(o:Int)/\x.f<=(j:Int)/\(j:Int)<x.t
 ·rw[aM c]
  constructor
  ·intro h;exact absurd c h.2
  intro e;have:=xZ a;omega
 rw[av c,Ac ((Lk.iH _).1 hl).1];exact⟨λh=>h.1,λh=>⟨h,c⟩⟩
theorem Lp{l l' out:List Lk}{x:Lk}(hl:Lk.Right l)(hx:Lk.range x=false)(hm:(Lk.meets l x).isSome=false)(hp:l'.Perm (Lk.cut l x++[x]))(hs:l'.Pairwise λx y=>Lk.less y x=false)(ho:uP l x (Lk.way x.a) 4 out):Lk.tidy l'=out:=by
 obtain⟨b,g⟩:=Lk.xw hl hx hm hp hs;refine NK ((Lk.iH _).1 b).1 ho λo j a _ _=> ?_
 rw[g,TE];unfold sW
 by_cases c:x.o=(o:Int)/\x.f<=(j:Int)/\(j:Int)<x.t
 ·rw[aM c]
  constructor
  ·rintro(h|⟨_,h⟩)
   ·exact absurd c h.2
   rw[h]
  intro e;exact .inr ⟨c,(EZ e).symm⟩
 rw[av c,Ac ((Lk.iH _).1 hl).1]
 constructor
 ·rintro(h|h)
  ·exact h.1
  exact absurd h.1 c
 intro h;exact .inl ⟨h,c⟩
theorem take_set{l m m':List Lk}{x:Lk}{err err':Int}(h:rG l x m err)(k:nZ l x (Lk.way x.a) m' err'):m=m'/\err=err':=by
 have j:=xZ x.a
 rcases h with⟨c,rfl,rfl⟩|⟨c,g,rfl,rfl⟩|⟨c,g,n,rfl,rfl⟩|⟨c,g,n,z,r,w,p⟩
 ·rcases k with⟨_,rfl,rfl⟩|⟨b,_⟩|⟨b,_⟩|⟨b,_⟩
  ·exact⟨rfl,rfl⟩
  all_goals exact absurd b c
 ·rcases k with⟨b,_⟩|⟨_,_,rfl,rfl⟩|⟨_,i,_⟩|⟨_,i,_⟩
  ·exact absurd c b
  ·exact⟨rfl,rfl⟩
  all_goals exact absurd i g
 ·rcases k with⟨b,_⟩|⟨_,i,_⟩|⟨_,_,_,_,rfl,rfl⟩|⟨_,_,o,_⟩
  ·exact absurd c b
  ·exact absurd g i
  ·exact⟨rfl,rfl⟩
  rw[o j]at n;cases n
 rcases k with⟨b,_⟩|⟨_,i,_⟩|⟨_,_,_,o,_⟩|⟨_,_,_,u,t,q⟩
 ·exact absurd c b
 ·exact absurd g i
 ·rw[n]at o;cases o
 have e:=Lp ((Lk.az l).1 c).2 (wu g) n r w t;rw[e]at p
 rcases p with⟨y,rfl,rfl⟩|⟨y,rfl,rfl⟩
 ·rcases q with⟨_,rfl,rfl⟩|⟨v,_⟩
  ·exact⟨rfl,rfl⟩
  omega
 rcases q with⟨v,_⟩|⟨_,rfl,rfl⟩
 ·omega
 exact⟨rfl,rfl⟩
theorem TF{l m m':List Lk}{x:Lk}{err err':Int}(h:uG l x m err)(k:nZ l x 0 m' err'):m=m'/\err=err':=by
 rcases h with⟨b,rfl,rfl⟩|⟨b,c,rfl,rfl⟩|⟨b,c,i⟩
 ·rcases k with⟨_,rfl,rfl⟩|⟨a,_⟩|⟨a,_⟩|⟨a,_⟩
  ·exact⟨rfl,rfl⟩
  all_goals exact absurd a b
 ·rcases k with⟨a,_⟩|⟨_,_,rfl,rfl⟩|⟨_,g,_⟩|⟨_,g,_⟩
  ·exact absurd b a
  ·exact⟨rfl,rfl⟩
  all_goals exact absurd g c
 rcases k with⟨a,_⟩|⟨_,g,_⟩|⟨_,_,q,_⟩|⟨_,_,_,o,n,j⟩
 ·exact absurd b a
 ·exact absurd c g
 ·exact absurd q (by decide)
 have e:=Lm ((Lk.az l).1 b).2 (wu c) n;rw[e]at i
 rcases i with⟨r,rfl,rfl⟩|⟨r,rfl,rfl⟩
 ·rcases j with⟨_,rfl,rfl⟩|⟨p,_⟩
  ·exact⟨rfl,rfl⟩
  omega
 rcases j with⟨p,_⟩|⟨_,rfl,rfl⟩
 ·omega
 exact⟨rfl,rfl⟩
theorem ed(x y:Lk)(w:World):Calls prog 160 #[.agg #[x.o,x.f,x.t,x.a],.agg #[y.o,y.f,y.t,y.a]] w λe w'=>e= .returned (.bool (Lk.clash x y))/\Below w w w':=by
 obtain⟨i,h,k,b⟩:=x;obtain⟨l,c,j,g⟩:=y;dsimp only;have r:Below w w ((w.alloc (.cells #[i,h,k,b] 166)).alloc (.cells #[l,c,j,g] 166)):=((aa _ _).alloc aR _).alloc (by simp) _
 have n:ai ((w.alloc (.cells #[i,h,k,b] 166)).alloc (.cells #[l,c,j,g] 166)) w 166 [i,h,k,b]:=(ai.new w _ _).alloc _;have m:ai ((w.alloc (.cells #[i,h,k,b] 166)).alloc (.cells #[l,c,j,g] 166)) (w.heap.size+1) 166 [l,c,j,g]:=by simpa using ai.new (w.alloc (.cells #[i,h,k,b] 166)) 166 [l,c,j,g]
 have q:=n.four;have p:=m.four;have u:Lk.clash ⟨i,h,k,b⟩ ⟨l,c,j,g⟩=(!(i==l)&&(b||g)&&decide (h<j)&&decide (c<k)):=rfl
 rw[u]
 rcases A:(i==l)with _|_<;>rcases b with _|_<;>rcases g with _|_<;>rcases z:decide (h<j)with _|_<;>rcases v:decide (c<k)with _|_
 all_goals go_enter func160,ntmps160
 all_goals go_wp2_with fail
 all_goals go_ret
 all_goals exact⟨rfl,r⟩
theorem kE(g:Nat)(er i:Int)(w:World)(hg:ai w g 3 [i]):Calls prog 188 #[er,.pointer g] w λe w'=>e= .returned (.agg #[er,i])/\Below w w w':=by
 have z:=hg.one;go_enter func188,ntmps188;go_wp2_with fail;refine aD (v:= .agg #[er,i]) ?_ rfl ⟨rfl,?_⟩
 ·simp[results,results188,go_sem]
 have:=(aa w w).alloc aR (.cells #[er,i] 51);exact this
theorem uQ(A:Option Addr)(c:Nat)(l:List Lk)(w:World)(hl:dJ w w A l)(hc:l.length<=c)(hbig:l.length<=9223372036854775807):Calls prog 159 #[.slice A l.length c] w λe w'=>e= .returned (.agg #[.int .i64 (Lk.wrong l).1,.int .i64 (Lk.wrong l).2])/\Below w w w':=by
 by_cases U7:40<l.length
 ·have Hn:Hid (Lk.wrong l=(5,0)):=aM U7
  go_enter func159,ntmps159;go_wp2_with fail;refine aD (v:= .agg #[(5:Int),(0:Int)]) ?_ rfl ⟨by rw[Hn.out],?_⟩
  ·simp[results,results159,go_sem]
  exact(aa _ _).alloc aR _
 have Hn:Hid (Lk.wrong l=Lk.ak [] l):=av U7;go_enter func159,ntmps159;go_wp2
 go_loopw [15] (λi wr=>∃k:Nat,k<=l.length/\i= .int .i64 k/\Hid (Lk.ak [] l=Lk.ak (l.take k) (l.drop k))/\Below w w wr/\ai wr w 51 [(0:Int),(0:Int)]) (λi _=>l.length- (intOf i).toNat)
 case atStart=>exact⟨0,bL _,rfl,rfl,(aa _ _).alloc aR _,ai.new _ _ _⟩
 case round=>
  obtain⟨k,hk,rfl,Hw,H,hr0⟩:=hrel;obtain⟨O,Q,S,L⟩:=hr0.two;have hws:w.heap.size<=wr.heap.size:=H.size
  by_cases hlt:k<l.length
  ·obtain⟨b,o,rfl,hb,h0,h1,h2,h3⟩:=(dJ.at_ (hl.below H) hlt)
   have hbz:b<wr:=bE hb H.size;have hkc:k<=c:=by omega
   generalize hy:l[k]=y at*;obtain⟨p,n,t,u⟩:=y;have Hy:=aL hy;dsimp only at h0 h1 h2 h3
   rcases(show p<0\/0<=p by omega)with d8|d8
   rotate_left
   rcases(show 3<p\/p<=3 by omega)with d9|d9
   rotate_left
   rcases(show n<0\/0<=n by omega)with d10|d10
   rotate_left
   rcases(show 1000<t\/t<=1000 by omega)with d11|d11
   rotate_left
   rcases(show t<=n\/n<t by omega)with d12|d12
   rotate_left;rotate_left
   iterate 5
    ·go_wp2_with fail
     have B:Below w w ((wr.alloc (.cells #[k] 3)).alloc (.cells #[p,n,t,u] 166)):=(H.alloc H.size _).alloc (by simp;omega) _
     have D:ai ((wr.alloc (.cells #[k] 3)).alloc (.cells #[p,n,t,u] 166)) w 51 [(0:Int),(0:Int)]:=(hr0.alloc _).alloc _;have E:ai ((wr.alloc (.cells #[k] 3)).alloc (.cells #[p,n,t,u] 166)) wr 3 [k]:=(ai.new wr _ _).alloc _;have G:ai ((wr.alloc (.cells #[k] 3)).alloc (.cells #[p,n,t,u] 166)) (wr.heap.size+1) 166 [p,n,t,u]:=by
      have h:=ai.new (wr.alloc (.cells #[k] 3)) 166 [p,n,t,u]
      rwa [bX]at h
     generalize (wr.alloc (.cells #[k] 3)).alloc (.cells #[p,n,t,u] 166)=w2 at*;generalize wr.heap.size=g at*;obtain⟨O,Q,S,L⟩:=D.two;have Y:=E.one;have bx:=G.four;have M:Lk.ak [] l=(3,(k:Int)):=(Hw.out.trans (Lk.aX hlt Hy.out (Lk.nC (by simp only[Lk.range,Cq,mI];omega)) (by decide))).trans rfl
     refine(kE g 3 ((k:Int)) _ E).mono ?_
     rintro e w9 ⟨rfl,U⟩;have r9:=D.below U L;have jv:=B.trans (U.mono B.size);have Z:=r9.two;go_wp2_with fail;refine aD (v:= .agg #[(3:Int),.int .i64 ((k:Int))]) ?_ rfl ⟨by rw[Hn.out,M],?_⟩
     ·simp[results,results159,go_sem,Z]
     exact((jv.setCell (by exact aR) _).setCell (by exact aR) _)
   have VV:=aL (show Lk.range ⟨p,n,t,u⟩=false by simp only[Lk.range,mU,nk];omega)
   rcases k with _|m
   ·simp only[FR,tQ]at h0 h1 h2 h3
    go_wp2_with fail;have B:Below w w ((wr.alloc (.cells #[(0:Int)] 3)).alloc (.cells #[p,n,t,u] 166)):=(H.alloc H.size _).alloc (by simp;omega) _
    have D:ai ((wr.alloc (.cells #[(0:Int)] 3)).alloc (.cells #[p,n,t,u] 166)) w 51 [(0:Int),(0:Int)]:=(hr0.alloc _).alloc _;have E:ai ((wr.alloc (.cells #[(0:Int)] 3)).alloc (.cells #[p,n,t,u] 166)) wr 3 [(0:Int)]:=(ai.new wr _ _).alloc _;have G:ai ((wr.alloc (.cells #[(0:Int)] 3)).alloc (.cells #[p,n,t,u] 166)) (wr.heap.size+1) 166 [p,n,t,u]:=by
     have h:=ai.new (wr.alloc (.cells #[(0:Int)] 3)) 166 [p,n,t,u]
     rwa [bX]at h
    generalize (wr.alloc (.cells #[(0:Int)] 3)).alloc (.cells #[p,n,t,u] 166)=w2 at*;generalize wr.heap.size=g at*;obtain⟨O,Q,S,L⟩:=D.two;have Y:=E.one;have bx:=G.four;have I:=aL (Lk.zG l (x:=⟨p,n,t,u⟩));obtain⟨wo,rfl⟩:∃wo:World,wo=w2:=⟨_,rfl⟩
    go_loopw [94] (λj wj=>∃jj:Nat,jj<=0/\j= .int .i64 jj/\Below w w wj/\ai wj w 51 [(0:Int),(0:Int)]/\ai wj g 3 [.int .i64 (0)]/\ai wj (g+1) 166 [p,n,t,u]/\Hid ((l.take jj).any (λz=>Lk.clash z ⟨p,n,t,u⟩)=false)) (λj _=>0- (intOf j).toNat)
    case atStart=>exact⟨0,bL _,rfl,B,D,E,G,aL rfl⟩
    case round=>
     obtain⟨j,hj,rfl,K,V,hk3,hx3,HC⟩:=hrel;obtain⟨O,Q,S,L⟩:=V.two;have Y:=hk3.one;have bx:=hx3.four
     by_cases hjl:j<0
     ·exact absurd hjl (l5 j)
     obtain rfl:j=0:=by omega
     have HN:=aL (Lk.bZ hlt Hy.out (Lk.kY VV.out I.out HC.out));go_wp2;go_roundw
     case rel=>exact⟨0+1,by omega,by go_num,aL (Hw.out.trans HN.out),K,V⟩
     case measure=>simp[intOf];omega
   have hqk:m<l.length:=by omega
   obtain⟨b',o',hA',_,y0,y1,y2,y3⟩:=(dJ.at_ (hl.below H) hqk)
   cases hA'
   generalize hq:l[m]=q at*;have Hq:=aL hq;obtain⟨yo,yf,yt,ya⟩:=q;dsimp only at y0 y1 y2 y3;have ORD:∀r,(decide (p<yo)||((yo==p)&&(decide (n<yt)||((n==yt)&&(u==ya)))))=r->((l.take (m+1)).getLast?.any λy=>Lk.order y ⟨p,n,t,u⟩)=r:=λr h=>Lk.iQ hqk Hq.out (by
    rw[<-h];unfold Lk.order;dsimp only;rw[BEq.comm (a:=yt) (b:=n),BEq.comm (a:=ya) (b:=u)])
   have HO:=aL ORD
   rcases e6:decide (p<yo)with _|_
   ·rcases e7:(yo==p)with _|_
    ·have I8:=aL (HO.out false (by simp only[e6,e7];rfl))
     go_wp2_with fail;have B:Below w w ((wr.alloc (.cells #[.int .i64 ((m:Int)+1)] 3)).alloc (.cells #[p,n,t,u] 166)):=(H.alloc H.size _).alloc (by simp;omega) _
     have D:ai ((wr.alloc (.cells #[.int .i64 ((m:Int)+1)] 3)).alloc (.cells #[p,n,t,u] 166)) w 51 [(0:Int),(0:Int)]:=(hr0.alloc _).alloc _;have E:ai ((wr.alloc (.cells #[.int .i64 ((m:Int)+1)] 3)).alloc (.cells #[p,n,t,u] 166)) wr 3 [.int .i64 ((m:Int)+1)]:=(ai.new wr _ _).alloc _;have G:ai ((wr.alloc (.cells #[.int .i64 ((m:Int)+1)] 3)).alloc (.cells #[p,n,t,u] 166)) (wr.heap.size+1) 166 [p,n,t,u]:=by
      have h:=ai.new (wr.alloc (.cells #[.int .i64 ((m:Int)+1)] 3)) 166 [p,n,t,u]
      rwa [bX]at h
     replace B:=B.alloc B.size (.cells #[yo,yf,yt,ya] 166);replace D:=D.alloc (.cells #[yo,yf,yt,ya] 166);replace E:=E.alloc (.cells #[yo,yf,yt,ya] 166);replace G:=G.alloc (.cells #[yo,yf,yt,ya] 166);generalize ((wr.alloc (.cells #[.int .i64 ((m:Int)+1)] 3)).alloc (.cells #[p,n,t,u] 166)).alloc (.cells #[yo,yf,yt,ya] 166)=w2 at*;generalize wr.heap.size=g at*;obtain⟨O,Q,S,L⟩:=D.two;have Y:=E.one;have bx:=G.four;have I:=aL (I8.out);obtain⟨wo,rfl⟩:∃wo:World,wo=w2:=⟨_,rfl⟩
     go_loopw [94] (λj wj=>∃jj:Nat,jj<=(m+1)/\j= .int .i64 jj/\Below w w wj/\ai wj w 51 [(0:Int),(0:Int)]/\ai wj g 3 [.int .i64 (((m:Int)+1))]/\ai wj (g+1) 166 [p,n,t,u]/\Hid ((l.take jj).any (λz=>Lk.clash z ⟨p,n,t,u⟩)=false)) (λj _=>(m+1)- (intOf j).toNat)
     case atStart=>exact⟨0,bL _,rfl,B,D,E,G,aL rfl⟩
     case round=>
      obtain⟨j,hj,rfl,K,V,hk3,hx3,HC⟩:=hrel;obtain⟨O,Q,S,L⟩:=V.two;have Y:=hk3.one;have bx:=hx3.four
      by_cases hjl:j<(m+1)
      ·have hjn:j<l.length:=by omega
       obtain⟨b',o',hA',_,z0,z1,z2,z3⟩:=(dJ.at_ (hl.below K) hjn)
       cases hA'
       have HS:=aL (show(l.take (j+1)).any (λz=>Lk.clash z ⟨p,n,t,u⟩)=Lk.clash l[j] ⟨p,n,t,u⟩by rw[aF hjn,AJ,HC.out];simp)
       have HM:=aL (show l[j]∈l.take ((m+1))by rw[xc];exact⟨j,by omega,rfl⟩)
       generalize l[j]=z at z0 z1 z2 z3 HS HM;obtain⟨zo,zf,zt,za⟩:=z;dsimp only at z0 z1 z2 z3
       rcases N:Lk.clash ⟨zo,zf,zt,za⟩ ⟨p,n,t,u⟩with _|_
       ·have HF:=aL (HS.out.trans N)
        have c:=λW=>ed ⟨p,n,t,u⟩ ⟨zo,zf,zt,za⟩ W
        rw[Lk.fG,N]at c;dsimp only at c;go_wp2_with fail;refine(c _).mono ?_
        rintro e w4 ⟨rfl,F⟩;have q3:=K.alloc K.size (.cells #[zo,zf,zt,za] 166);have hB4:=q3.trans (F.mono q3.size);have hr4:=(V.alloc (.cells #[zo,zf,zt,za] 166)).below F (by simp;omega)
        have hk4:=(hk3.alloc (.cells #[zo,zf,zt,za] 166)).below F (by simp;omega)
        have hx4:=(hx3.alloc (.cells #[zo,zf,zt,za] 166)).below F (by simp;omega)
        go_wp2;go_roundw
        case rel=>exact⟨j+1,by omega,by go_num,hB4,hr4,hk4,hx4,HF⟩
        case measure=>simp[intOf];omega
       have HF:=aL (show(l.take ((m+1))).any (λz=>Lk.clash z ⟨p,n,t,u⟩)=true by rw[nu];exact⟨_,HM.out,N⟩)
       have c:=λW=>ed ⟨p,n,t,u⟩ ⟨zo,zf,zt,za⟩ W
       rw[Lk.fG,N]at c;dsimp only at c;go_wp2_with fail;refine(c _).mono ?_
       rintro e w4 ⟨rfl,F⟩;have q3:=K.alloc K.size (.cells #[zo,zf,zt,za] 166);have hB4:=q3.trans (F.mono q3.size);have hr4:=(V.alloc (.cells #[zo,zf,zt,za] 166)).below F (by simp;omega)
       have hk4:=(hk3.alloc (.cells #[zo,zf,zt,za] 166)).below F (by simp;omega)
       obtain⟨O,Q,S,L⟩:=hr4.two;go_wp2_with fail;have M:Lk.ak [] l=(8,((m:Int)+1)):=(Hw.out.trans (Lk.aX hlt Hy.out (Lk.g_ VV.out I.out HF.out) (by decide))).trans rfl
       refine(kE g 8 (((m:Int)+1)) _ hk4).mono ?_
       rintro e w9 ⟨rfl,U⟩;have r9:=hr4.below U L;have jv:=hB4.trans (U.mono hB4.size);have Z:=r9.two;go_wp2_with fail;refine aD (v:= .agg #[(8:Int),.int .i64 (((m:Int)+1))]) ?_ rfl ⟨by rw[Hn.out,M],?_⟩
       ·simp[results,results159,go_sem,Z]
       exact((jv.setCell (by exact aR) _).setCell (by exact aR) _)
      obtain rfl:j=(m+1):=by omega
      have HN:=aL (Lk.bZ hlt Hy.out (Lk.kY VV.out I.out HC.out));go_wp2;go_roundw
      case rel=>exact⟨(m+1)+1,by omega,by go_num,aL (Hw.out.trans HN.out),K,V⟩
      case measure=>simp[intOf];omega
    rcases e8:decide (n<yt)with _|_
    focus
     rcases e9:(n==yt)with _|_
     ·have I8:=aL (HO.out false (by simp only[e6,e7,e8,e9];rfl))
      go_wp2_with fail;have B:Below w w ((wr.alloc (.cells #[.int .i64 ((m:Int)+1)] 3)).alloc (.cells #[p,n,t,u] 166)):=(H.alloc H.size _).alloc (by simp;omega) _
      have D:ai ((wr.alloc (.cells #[.int .i64 ((m:Int)+1)] 3)).alloc (.cells #[p,n,t,u] 166)) w 51 [(0:Int),(0:Int)]:=(hr0.alloc _).alloc _;have E:ai ((wr.alloc (.cells #[.int .i64 ((m:Int)+1)] 3)).alloc (.cells #[p,n,t,u] 166)) wr 3 [.int .i64 ((m:Int)+1)]:=(ai.new wr _ _).alloc _;have G:ai ((wr.alloc (.cells #[.int .i64 ((m:Int)+1)] 3)).alloc (.cells #[p,n,t,u] 166)) (wr.heap.size+1) 166 [p,n,t,u]:=by
       have h:=ai.new (wr.alloc (.cells #[.int .i64 ((m:Int)+1)] 3)) 166 [p,n,t,u]
       rwa [bX]at h
      replace B:=B.alloc B.size (.cells #[yo,yf,yt,ya] 166);replace D:=D.alloc (.cells #[yo,yf,yt,ya] 166);replace E:=E.alloc (.cells #[yo,yf,yt,ya] 166);replace G:=G.alloc (.cells #[yo,yf,yt,ya] 166);generalize ((wr.alloc (.cells #[.int .i64 ((m:Int)+1)] 3)).alloc (.cells #[p,n,t,u] 166)).alloc (.cells #[yo,yf,yt,ya] 166)=w2 at*;generalize wr.heap.size=g at*;obtain⟨O,Q,S,L⟩:=D.two;have Y:=E.one;have bx:=G.four;have I:=aL (I8.out);obtain⟨wo,rfl⟩:∃wo:World,wo=w2:=⟨_,rfl⟩
      go_loopw [94] (λj wj=>∃jj:Nat,jj<=(m+1)/\j= .int .i64 jj/\Below w w wj/\ai wj w 51 [(0:Int),(0:Int)]/\ai wj g 3 [.int .i64 (((m:Int)+1))]/\ai wj (g+1) 166 [p,n,t,u]/\Hid ((l.take jj).any (λz=>Lk.clash z ⟨p,n,t,u⟩)=false)) (λj _=>(m+1)- (intOf j).toNat)
      case atStart=>exact⟨0,bL _,rfl,B,D,E,G,aL rfl⟩
      case round=>
       obtain⟨j,hj,rfl,K,V,hk3,hx3,HC⟩:=hrel;obtain⟨O,Q,S,L⟩:=V.two;have Y:=hk3.one;have bx:=hx3.four
       by_cases hjl:j<(m+1)
       ·have hjn:j<l.length:=by omega
        obtain⟨b',o',hA',_,z0,z1,z2,z3⟩:=(dJ.at_ (hl.below K) hjn)
        cases hA'
        have HS:=aL (show(l.take (j+1)).any (λz=>Lk.clash z ⟨p,n,t,u⟩)=Lk.clash l[j] ⟨p,n,t,u⟩by rw[aF hjn,AJ,HC.out];simp)
        have HM:=aL (show l[j]∈l.take ((m+1))by rw[xc];exact⟨j,by omega,rfl⟩)
        generalize l[j]=z at z0 z1 z2 z3 HS HM;obtain⟨zo,zf,zt,za⟩:=z;dsimp only at z0 z1 z2 z3
        rcases N:Lk.clash ⟨zo,zf,zt,za⟩ ⟨p,n,t,u⟩with _|_
        ·have HF:=aL (HS.out.trans N)
         have c:=λW=>ed ⟨p,n,t,u⟩ ⟨zo,zf,zt,za⟩ W
         rw[Lk.fG,N]at c;dsimp only at c;go_wp2_with fail;refine(c _).mono ?_
         rintro e w4 ⟨rfl,F⟩;have q3:=K.alloc K.size (.cells #[zo,zf,zt,za] 166);have hB4:=q3.trans (F.mono q3.size);have hr4:=(V.alloc (.cells #[zo,zf,zt,za] 166)).below F (by simp;omega)
         have hk4:=(hk3.alloc (.cells #[zo,zf,zt,za] 166)).below F (by simp;omega)
         have hx4:=(hx3.alloc (.cells #[zo,zf,zt,za] 166)).below F (by simp;omega)
         go_wp2;go_roundw
         case rel=>exact⟨j+1,by omega,by go_num,hB4,hr4,hk4,hx4,HF⟩
         case measure=>simp[intOf];omega
        have HF:=aL (show(l.take ((m+1))).any (λz=>Lk.clash z ⟨p,n,t,u⟩)=true by rw[nu];exact⟨_,HM.out,N⟩)
        have c:=λW=>ed ⟨p,n,t,u⟩ ⟨zo,zf,zt,za⟩ W
        rw[Lk.fG,N]at c;dsimp only at c;go_wp2_with fail;refine(c _).mono ?_
        rintro e w4 ⟨rfl,F⟩;have q3:=K.alloc K.size (.cells #[zo,zf,zt,za] 166);have hB4:=q3.trans (F.mono q3.size);have hr4:=(V.alloc (.cells #[zo,zf,zt,za] 166)).below F (by simp;omega)
        have hk4:=(hk3.alloc (.cells #[zo,zf,zt,za] 166)).below F (by simp;omega)
        obtain⟨O,Q,S,L⟩:=hr4.two;go_wp2_with fail;have M:Lk.ak [] l=(8,((m:Int)+1)):=(Hw.out.trans (Lk.aX hlt Hy.out (Lk.g_ VV.out I.out HF.out) (by decide))).trans rfl
        refine(kE g 8 (((m:Int)+1)) _ hk4).mono ?_
        rintro e w9 ⟨rfl,U⟩;have r9:=hr4.below U L;have jv:=hB4.trans (U.mono hB4.size);have Z:=r9.two;go_wp2_with fail;refine aD (v:= .agg #[(8:Int),.int .i64 (((m:Int)+1))]) ?_ rfl ⟨by rw[Hn.out,M],?_⟩
        ·simp[results,results159,go_sem,Z]
        exact((jv.setCell (by exact aR) _).setCell (by exact aR) _)
       obtain rfl:j=(m+1):=by omega
       have HN:=aL (Lk.bZ hlt Hy.out (Lk.kY VV.out I.out HC.out));go_wp2;go_roundw
       case rel=>exact⟨(m+1)+1,by omega,by go_num,aL (Hw.out.trans HN.out),K,V⟩
       case measure=>simp[intOf];omega
     rcases e10:(u==ya)with _|_
     ·have I8:=aL (HO.out false (by simp only[e6,e7,e8,e9,e10];rfl))
      go_wp2_with fail;have B:Below w w ((wr.alloc (.cells #[.int .i64 ((m:Int)+1)] 3)).alloc (.cells #[p,n,t,u] 166)):=(H.alloc H.size _).alloc (by simp;omega) _
      have D:ai ((wr.alloc (.cells #[.int .i64 ((m:Int)+1)] 3)).alloc (.cells #[p,n,t,u] 166)) w 51 [(0:Int),(0:Int)]:=(hr0.alloc _).alloc _;have E:ai ((wr.alloc (.cells #[.int .i64 ((m:Int)+1)] 3)).alloc (.cells #[p,n,t,u] 166)) wr 3 [.int .i64 ((m:Int)+1)]:=(ai.new wr _ _).alloc _;have G:ai ((wr.alloc (.cells #[.int .i64 ((m:Int)+1)] 3)).alloc (.cells #[p,n,t,u] 166)) (wr.heap.size+1) 166 [p,n,t,u]:=by
       have h:=ai.new (wr.alloc (.cells #[.int .i64 ((m:Int)+1)] 3)) 166 [p,n,t,u]
       rwa [bX]at h
      replace B:=B.alloc B.size (.cells #[yo,yf,yt,ya] 166);replace D:=D.alloc (.cells #[yo,yf,yt,ya] 166);replace E:=E.alloc (.cells #[yo,yf,yt,ya] 166);replace G:=G.alloc (.cells #[yo,yf,yt,ya] 166);generalize ((wr.alloc (.cells #[.int .i64 ((m:Int)+1)] 3)).alloc (.cells #[p,n,t,u] 166)).alloc (.cells #[yo,yf,yt,ya] 166)=w2 at*;generalize wr.heap.size=g at*;obtain⟨O,Q,S,L⟩:=D.two;have Y:=E.one;have bx:=G.four;have I:=aL (I8.out);obtain⟨wo,rfl⟩:∃wo:World,wo=w2:=⟨_,rfl⟩
      go_loopw [94] (λj wj=>∃jj:Nat,jj<=(m+1)/\j= .int .i64 jj/\Below w w wj/\ai wj w 51 [(0:Int),(0:Int)]/\ai wj g 3 [.int .i64 (((m:Int)+1))]/\ai wj (g+1) 166 [p,n,t,u]/\Hid ((l.take jj).any (λz=>Lk.clash z ⟨p,n,t,u⟩)=false)) (λj _=>(m+1)- (intOf j).toNat)
      case atStart=>exact⟨0,bL _,rfl,B,D,E,G,aL rfl⟩
      case round=>
       obtain⟨j,hj,rfl,K,V,hk3,hx3,HC⟩:=hrel;obtain⟨O,Q,S,L⟩:=V.two;have Y:=hk3.one;have bx:=hx3.four
       by_cases hjl:j<(m+1)
       ·have hjn:j<l.length:=by omega
        obtain⟨b',o',hA',_,z0,z1,z2,z3⟩:=(dJ.at_ (hl.below K) hjn)
        cases hA'
        have HS:=aL (show(l.take (j+1)).any (λz=>Lk.clash z ⟨p,n,t,u⟩)=Lk.clash l[j] ⟨p,n,t,u⟩by rw[aF hjn,AJ,HC.out];simp)
        have HM:=aL (show l[j]∈l.take ((m+1))by rw[xc];exact⟨j,by omega,rfl⟩)
        generalize l[j]=z at z0 z1 z2 z3 HS HM;obtain⟨zo,zf,zt,za⟩:=z;dsimp only at z0 z1 z2 z3
        rcases N:Lk.clash ⟨zo,zf,zt,za⟩ ⟨p,n,t,u⟩with _|_
        ·have HF:=aL (HS.out.trans N)
         have c:=λW=>ed ⟨p,n,t,u⟩ ⟨zo,zf,zt,za⟩ W
         rw[Lk.fG,N]at c;dsimp only at c;go_wp2_with fail;refine(c _).mono ?_
         rintro e w4 ⟨rfl,F⟩;have q3:=K.alloc K.size (.cells #[zo,zf,zt,za] 166);have hB4:=q3.trans (F.mono q3.size);have hr4:=(V.alloc (.cells #[zo,zf,zt,za] 166)).below F (by simp;omega)
         have hk4:=(hk3.alloc (.cells #[zo,zf,zt,za] 166)).below F (by simp;omega)
         have hx4:=(hx3.alloc (.cells #[zo,zf,zt,za] 166)).below F (by simp;omega)
         go_wp2;go_roundw
         case rel=>exact⟨j+1,by omega,by go_num,hB4,hr4,hk4,hx4,HF⟩
         case measure=>simp[intOf];omega
        have HF:=aL (show(l.take ((m+1))).any (λz=>Lk.clash z ⟨p,n,t,u⟩)=true by rw[nu];exact⟨_,HM.out,N⟩)
        have c:=λW=>ed ⟨p,n,t,u⟩ ⟨zo,zf,zt,za⟩ W
        rw[Lk.fG,N]at c;dsimp only at c;go_wp2_with fail;refine(c _).mono ?_
        rintro e w4 ⟨rfl,F⟩;have q3:=K.alloc K.size (.cells #[zo,zf,zt,za] 166);have hB4:=q3.trans (F.mono q3.size);have hr4:=(V.alloc (.cells #[zo,zf,zt,za] 166)).below F (by simp;omega)
        have hk4:=(hk3.alloc (.cells #[zo,zf,zt,za] 166)).below F (by simp;omega)
        obtain⟨O,Q,S,L⟩:=hr4.two;go_wp2_with fail;have M:Lk.ak [] l=(8,((m:Int)+1)):=(Hw.out.trans (Lk.aX hlt Hy.out (Lk.g_ VV.out I.out HF.out) (by decide))).trans rfl
        refine(kE g 8 (((m:Int)+1)) _ hk4).mono ?_
        rintro e w9 ⟨rfl,U⟩;have r9:=hr4.below U L;have jv:=hB4.trans (U.mono hB4.size);have Z:=r9.two;go_wp2_with fail;refine aD (v:= .agg #[(8:Int),.int .i64 (((m:Int)+1))]) ?_ rfl ⟨by rw[Hn.out,M],?_⟩
        ·simp[results,results159,go_sem,Z]
        exact((jv.setCell (by exact aR) _).setCell (by exact aR) _)
       obtain rfl:j=(m+1):=by omega
       have HN:=aL (Lk.bZ hlt Hy.out (Lk.kY VV.out I.out HC.out));go_wp2;go_roundw
       case rel=>exact⟨(m+1)+1,by omega,by go_num,aL (Hw.out.trans HN.out),K,V⟩
       case measure=>simp[intOf];omega
     have I:=aL (HO.out true (by simp only[e6,e7,e8,e9,e10];rfl))
    rotate_left
    focus
     have I:=aL (HO.out true (by simp only[e6,e7,e8];rfl))
    all_goals
     go_wp2_with fail;have B:Below w w ((wr.alloc (.cells #[.int .i64 ((m:Int)+1)] 3)).alloc (.cells #[p,n,t,u] 166)):=(H.alloc H.size _).alloc (by simp;omega) _
     have D:ai ((wr.alloc (.cells #[.int .i64 ((m:Int)+1)] 3)).alloc (.cells #[p,n,t,u] 166)) w 51 [(0:Int),(0:Int)]:=(hr0.alloc _).alloc _;have E:ai ((wr.alloc (.cells #[.int .i64 ((m:Int)+1)] 3)).alloc (.cells #[p,n,t,u] 166)) wr 3 [.int .i64 ((m:Int)+1)]:=(ai.new wr _ _).alloc _;have G:ai ((wr.alloc (.cells #[.int .i64 ((m:Int)+1)] 3)).alloc (.cells #[p,n,t,u] 166)) (wr.heap.size+1) 166 [p,n,t,u]:=by
      have h:=ai.new (wr.alloc (.cells #[.int .i64 ((m:Int)+1)] 3)) 166 [p,n,t,u]
      rwa [bX]at h
     replace B:=B.alloc B.size (.cells #[yo,yf,yt,ya] 166);replace D:=D.alloc (.cells #[yo,yf,yt,ya] 166);replace E:=E.alloc (.cells #[yo,yf,yt,ya] 166);replace G:=G.alloc (.cells #[yo,yf,yt,ya] 166);generalize ((wr.alloc (.cells #[.int .i64 ((m:Int)+1)] 3)).alloc (.cells #[p,n,t,u] 166)).alloc (.cells #[yo,yf,yt,ya] 166)=w2 at*;generalize wr.heap.size=g at*;obtain⟨O,Q,S,L⟩:=D.two;have Y:=E.one;have bx:=G.four;have M:Lk.ak [] l=(2,((m:Int)+1)):=(Hw.out.trans (Lk.aX hlt Hy.out (Lk.gV VV.out I.out) (by decide))).trans rfl
     refine(kE g 2 (((m:Int)+1)) _ E).mono ?_
     rintro e w9 ⟨rfl,U⟩;have r9:=D.below U L;have jv:=B.trans (U.mono B.size);have Z:=r9.two;go_wp2_with fail;refine aD (v:= .agg #[(2:Int),.int .i64 (((m:Int)+1))]) ?_ rfl ⟨by rw[Hn.out,M],?_⟩
     ·simp[results,results159,go_sem,Z]
     exact((jv.setCell (by exact aR) _).setCell (by exact aR) _)
   have I:=aL (HO.out true (by simp only[e6];rfl))
   go_wp2_with fail;have B:Below w w ((wr.alloc (.cells #[.int .i64 ((m:Int)+1)] 3)).alloc (.cells #[p,n,t,u] 166)):=(H.alloc H.size _).alloc (by simp;omega) _
   have D:ai ((wr.alloc (.cells #[.int .i64 ((m:Int)+1)] 3)).alloc (.cells #[p,n,t,u] 166)) w 51 [(0:Int),(0:Int)]:=(hr0.alloc _).alloc _;have E:ai ((wr.alloc (.cells #[.int .i64 ((m:Int)+1)] 3)).alloc (.cells #[p,n,t,u] 166)) wr 3 [.int .i64 ((m:Int)+1)]:=(ai.new wr _ _).alloc _;have G:ai ((wr.alloc (.cells #[.int .i64 ((m:Int)+1)] 3)).alloc (.cells #[p,n,t,u] 166)) (wr.heap.size+1) 166 [p,n,t,u]:=by
    have h:=ai.new (wr.alloc (.cells #[.int .i64 ((m:Int)+1)] 3)) 166 [p,n,t,u]
    rwa [bX]at h
   replace B:=B.alloc B.size (.cells #[yo,yf,yt,ya] 166);replace D:=D.alloc (.cells #[yo,yf,yt,ya] 166);replace E:=E.alloc (.cells #[yo,yf,yt,ya] 166);replace G:=G.alloc (.cells #[yo,yf,yt,ya] 166);generalize ((wr.alloc (.cells #[.int .i64 ((m:Int)+1)] 3)).alloc (.cells #[p,n,t,u] 166)).alloc (.cells #[yo,yf,yt,ya] 166)=w2 at*;generalize wr.heap.size=g at*;obtain⟨O,Q,S,L⟩:=D.two;have Y:=E.one;have bx:=G.four;have M:Lk.ak [] l=(2,((m:Int)+1)):=(Hw.out.trans (Lk.aX hlt Hy.out (Lk.gV VV.out I.out) (by decide))).trans rfl
   refine(kE g 2 (((m:Int)+1)) _ E).mono ?_
   rintro e w9 ⟨rfl,U⟩;have r9:=D.below U L;have jv:=B.trans (U.mono B.size);have Z:=r9.two;go_wp2_with fail;refine aD (v:= .agg #[(2:Int),.int .i64 (((m:Int)+1))]) ?_ rfl ⟨by rw[Hn.out,M],?_⟩
   ·simp[results,results159,go_sem,Z]
   exact((jv.setCell (by exact aR) _).setCell (by exact aR) _)
  obtain rfl:k=l.length:=by omega
  have M:Lk.ak [] l=(0,0):=by rw[Hw.out,oF];rfl
  go_wp2_with fail;refine aD (v:= .agg #[(0:Int),(0:Int)]) ?_ rfl ⟨by rw[Hn.out,M],?_⟩
  ·simp[results,results159,go_sem,O,Q]
  exact((H.setCell (by exact aR) _).setCell (by exact aR) _)
theorem Y0{w:World}{g B:Nat}{t:TypeId}{x:Lk}(h:ai w g t [x.o,x.f,x.t,x.a])(hg:g<B):dJ w B (some ⟨g,0,none⟩) [x]:=by
 refine⟨rfl,λ_=>⟨g,0,rfl,hg,λj u b=> ?_⟩⟩
 rw[h.cell];rw[mE];exact b
def dR(l:List Lk)(x:Lk)(how:Int)(o:Int)(t:Int):Nat->Int:=λk=>if x.o=o/\x.f<=k/\(k:Int)<t then how else fA l o k
theorem Ah(l:List Lk)(x:Lk)(how o:Int):dR l x how o x.f=fA l o:=by
 funext k;unfold dR;rw[av (by omega)]
theorem I9{l:List Lk}{x:Lk}{how o:Int}:dR l x how o x.t=sW l x how o:=rfl
theorem DL(l:List Lk){x:Lk}(how:Int){o:Int}(h:x.o=o){t:Int}(h0:0<=t)(hf:x.f<=t):upd (dR l x how o t) t.toNat how=dR l x how o (t+1):=by
 funext k
 unfold upd dR
 by_cases e:k=t.toNat
 ·rw[aM e,aM (by omega)]
 rw[av e]
 by_cases c:x.o=o/\x.f<=k/\(k:Int)<t
 ·rw[aM c,aM (by omega)]
 rw[av c,av (by omega)]
theorem Ai(l:List Lk){x:Lk}(how:Int){o:Int}(h:¬x.o=o):sW l x how o=fA l o:=by
 funext k;unfold sW;rw[av (λe=>h e.1)]
theorem I_(l:List Lk)(x:Lk)(how:Int)(h:how=0\/∃a,how=Lk.way a):∀(o:Int) (j:Nat),sW l x how o j=0\/∃a,sW l x how o j=Lk.way a:=by
 intro o j;unfold sW
 split
 ·exact h
 exact Ll l o j
theorem aW.app{w:World}{b:Nat}{v:Value}{l r:List Lk}(h:w.ownsRow b 166 4 v (l.length+r.length) (Lk.flat l++Lk.flat r)):aW w b v (l++r):=by
 unfold aW;rw[nD,bq];exact h
theorem Ja{w:World}{base:Nat}{e:TypeId}{size n:Nat}{v:Value}{xs:List Value}(h:w.ownsRow base e size v n xs){g:Nat}(hg:some g=v.ownBlock):∃c fr,w.heap[g]? =some (.cells c e fr):=by
 obtain⟨_,j|⟨l,k,a,b,_,i,_⟩⟩:=h
 ·rw[j.1]at hg;cases hg
 subst b;have m:l=g:=by simpa[Value.ownBlock]using hg.symm
 subst m;exact⟨_,_,i⟩
theorem ai.NP{w:World}{g:Nat}{t t':TypeId}{cs:List Value}{c:Array Value}{fr:Nat×Nat}(h:ai w g t cs)(k:w.heap[g]? =some (.cells c t' fr))(hne:t≠t'):False:=by
 rw[show w.heap[g]? =_ from h]at k
 injection k with k
 injection k with _ k _
 exact hne k
theorem uS(w:World)(p:Addr)(v:Value):w.grownBy (w.setCell p v) (some p.block):=
 ⟨rfl,rfl,rfl,by simp,λk _ a=>mh _ _ _ k (λe=>a (by rw[e]))⟩
def TT(w:World)(l:List Lk)(x:Lk)(how:Int)(e:Ending)(w':World):Prop:=
 ∃v m err,e= .returned (.tuple #[v,.int .i64 err])/\aW w' w v m/\nZ l x how m err/\Below w w w'
theorem Jb(A:Option Addr)(c:Nat)(l:List Lk)(x:Lk)(how:Int)(w:World)(hl:dJ w w.heap.size A l)(hc:l.length<=c)(hbig:l.length<=9223372036854775807)(abg:how=0\/∃a,how=Lk.way a):Calls prog 127 #[.slice A l.length c,.agg #[x.o,x.f,x.t,x.a],how] w (TT w l x how):=by
 obtain⟨i0,hi,hz0,hz1,hz2⟩:=lw oZ;have HX:=aL (rfl:x=x);obtain⟨E,F,D,H⟩:=x;clear HX;dsimp only;have hB0:Below w.heap.size w (w.alloc (.cells #[E,F,D,H] 166)):=(aa _ _).alloc aR _;have hx0:=ai.new w 166 [E,F,D,H];have hl0:=hl.below hB0;go_enter func127,ntmps127;go_wp2_with fail;generalize w.alloc (.cells #[E,F,D,H] 166)=w0 at*;refine(uQ A c l w0 (hl0.more hB0.size) hc hbig).mono ?_
 rintro e w1 ⟨rfl,hb1⟩;have hB1:=hB0.trans (hb1.mono hB0.size);have hx1:=hx0.below hb1 hx0.lt;have HW:=aL (rfl:Lk.wrong l=Lk.wrong l);obtain⟨e1,he1⟩:∃e1,e1=(Lk.wrong l).1:=⟨_,rfl⟩;rw[<-he1];have Bd:=aL he1;clear he1 HW hb1 hB0 hx0 hl0;generalize (Lk.wrong l).2=p1;have y:=hx1.four
 rcases t1:(e1 !=0)with _|_
 ·have HZ1:=aL (show(Lk.wrong l).1=0 by rw[<-Bd.out];simpa using t1)
  go_wp2_with fail;have hB2:=(hB1.alloc hB1.size (.cells #[.int .i64 e1,p1] 51));have hx2:=hx1.alloc (.cells #[.int .i64 e1,p1] 51);have hy2:=ai.new (w1.alloc (.cells #[.int .i64 e1,p1] 51)) 166 [E,F,D,H];replace hB2:=hB2.alloc hB2.size (.cells #[E,F,D,H] 166);replace hx2:=hx2.alloc (.cells #[E,F,D,H] 166);rw[bX]at hy2;clear hB1 hx1 y;generalize (w1.alloc (.cells #[.int .i64 e1,p1] 51)).alloc (.cells #[E,F,D,H] 166)=w2 at*;generalize w1.heap.size+1=gy at*;refine(uQ (some ⟨gy,0,none⟩) 1 [⟨E,F,D,H⟩] w2 (Y0 hy2 hy2.lt) aR (by simp)).mono ?_
  rintro e w3 ⟨rfl,hb3⟩;have hB3:=hB2.trans (hb3.mono hB2.size);have hx3:=hx2.below hb3 hx2.lt;obtain⟨e2,he2⟩:∃e2,e2=(Lk.wrong [⟨E,F,D,H⟩]).1:=⟨_,rfl⟩;rw[<-he2];have HE2:=aL he2;clear he2 hb3 hB2 hx2 hy2;generalize (Lk.wrong [⟨E,F,D,H⟩]).2=p2;have y:=hx3.four
  rcases t2:(e2 !=0)with _|_
  ·have HZ2:=aL (show(Lk.wrong [⟨E,F,D,H⟩]).1=0 by rw[<-HE2.out];simpa using t2)
   have HL:=aL ((Lk.az l).1 HZ1.out);have hrg:=(Lk.bF _).1 (wu HZ2.out);dsimp only at hrg;have U8:l.length<=40:=HL.out.1;have W_:=aL abg
   rcases abg with h00|⟨a,ha⟩
   ·have ado:how<=0:=by omega
    have HH0:=aL h00;clear h00;go_wp2_with fail;have HV:=aL (I_ l ⟨E,F,D,H⟩ how W_.out);have hB4:=(hB3.alloc hB3.size (.cells #[.int .i64 e2,p2] 51));have hx4:=hx3.alloc (.cells #[.int .i64 e2,p2] 51)
    go_loopw [12,13] (λv i wr=>∃(q:Nat) (B:List Lk),q<=4/\i= .int .i64 q/\aW wr (w.heap.size+1) v B/\Hid (uP l ⟨E,F,D,H⟩ how q B)/\B.length<=1000*q/\ai wr w.heap.size 166 [E,F,D,H]/\Below w.heap.size w wr) (λ_ i _=>4- (intOf i).toNat)
    case atStart=>exact⟨0,[],by omega,rfl,jN _ _ _ _,aL (DI _ _ _),by simp,hx4,hB4⟩
    case round=>
     obtain⟨q,B,hq,rfl,Y,HS,hlen,Z,M⟩:=hrel;clear hB4 hx4 y;have y:=Z.four
     by_cases hq4:q<4
     ·go_wp2_with fail
      refine(DC A c l q _ ((hl.below M).more M.size) HL.out.2.1 (by omega)).mono ?_
      rintro e w6 ⟨rfl,hb6,V⟩;have pI:=M.trans (V.mono M.size);have hx6:=Z.below V Z.lt;have K:=own_below Y V aR;have GM:w.heap.size<wr.heap.size:=Z.lt;clear y Z M Y V;generalize wr.heap.size=g6 at*;have y:=hx6.four;go_wp2_with fail
      by_cases ho:E=q
      ·have ho':((q:Int)==E)=true:=by simpa using ho.symm
       have HO:=aL ho;clear ho
       go_loopw [15] (λi wj=>∃t:Int,F<=t/\t<=D/\i= .int .i64 t/\Below w.heap.size w wj/\aW wj (w.heap.size+1) u12 B/\ai wj w.heap.size 166 [E,F,D,H]/\ai wj g6 3 (o7 (dR l ⟨E,F,D,H⟩ how q t))) (λi _=>(D-intOf i).toNat)
       case atStart=>exact⟨F,rA _,by omega,rfl,pI,K,hx6,by rw[Ah];exact hb6⟩
       case round=>
        obtain⟨t,ht1,ht2,rfl,O,n,N,I⟩:=hrel;clear y pI K hx6 hb6;have y:=N.four
        by_cases hlt2:t<D
        ·have a1:=I.ZK (t:=t) (by omega) (by omega)
         have a1f:=I.frozen t.toNat;have HP:=aL (DL l (x:=⟨E,F,D,H⟩) how HO.out (by omega:0<=t) ht1)
         have Y1:w.heap.size≠g6:=by omega
         have hgo:some g6≠u12.ownBlock:=by
          intro e';obtain⟨q1,q2,q3⟩:=Ja n e';exact ai.NP I q3 (by decide)
         have HGO:=aL hgo;clear hgo;generalize dR l ⟨E,F,D,H⟩ how q t t.toNat=old at a1;go_wp2;go_roundw
         case rel=>exact⟨t+1,by omega,by omega,rfl,O.setCell (p:=⟨g6,t.toNat,none⟩) (by show w.heap.size<=g6;omega) _,World.ownsRow.kept n (uS _ _ _) (.inr (λe'=>HGO.out e'.symm)),N.far Y1 _,by rw[<-HP.out];exact I.TC t how⟩
         case measure=>simp[intOf];omega
        obtain rfl:D=t:=by omega
        rw[I9 (x:=⟨E,F,D,H⟩)]at I;go_wp2_with fail;refine(uO g6 1001 (sW l ⟨E,F,D,H⟩ how q) q _ I (by omega) (HV.out q)).mono ?_
        rintro e w8 ⟨v8,r8,rfl,G,Q,L⟩;have HR:=aL Q;have TU:=Q.len;have U:=O.trans (L.mono O.size);have S:=N.below L N.lt;have m:=own_below n L aR;have IX:some w.heap.size≠u12.ownBlock:=own_ne m (.inl (uR _));clear Q L I N n O
        rcases aB G with⟨rfl,h0⟩|⟨g9,c9,rfl,_,_,_⟩
        ·obtain rfl:r8=[]:=List.length_eq_zero_iff.1 h0
         go_wp2_with (at_builtin;go_must (refine wpList_append_own_none rfl _ _ _ rfl (w.heap.size+1) 166 i0 4 underlying136 hi _ _ _ rfl m rfl ?_))
         go_roundw
         case rel=>exact⟨q+1,B,by omega,by go_num,m,aL (by have h:=lg HS.out HR.out;rwa [ky]at h),by omega,S,U⟩
         case measure=>simp[intOf];omega
        have r:∀j u,(Lk.flat r8)[j]? =some u->w8.cell? ((⟨g9,0,none⟩:Addr).add j)=some u:=λj u hu=>C8 G (g:=g9) rfl j u hu
        have Y2:=aL r;clear r
        go_wp2_with (at_builtin;go_must (refine Cs _ rfl _ _ 136 rfl (w.heap.size+1) 166 i0 _ 4 32 underlying136 hi hz0 hz1 hz2 rfl (by decide) _ _ _ rfl m ⟨g9,0,none⟩ r8.length c9 (Lk.flat r8) rfl (mG r8) Y2.out (λu hu=>qA hu) (by unfold maxLen;omega) (by omega) (by have:=S.lt;omega) ?_);intro v9 w9 xJ sZ _)
        go_roundw
        case rel=>exact⟨q+1,B++r8,by omega,by go_num,aW.app xJ,aL (lg HS.out HR.out),by rw[bq];omega,S.grown sZ IX,U.grown sZ U.size (λk e'=>by have:=(gH m k e').1;omega)⟩
        case measure=>simp[intOf];omega
      have ho':((q:Int)==E)=false:=by simpa using λe=>ho e.symm
      have HP:=aL (Ai l (x:=⟨E,F,D,H⟩) how ho);clear ho;rw[<-HP.out]at hb6;have O:=pI;have N:=hx6;have n:=K;have I:=hb6;clear pI hx6 K hb6
      go_loopw [15] (λi wj=>i= .int .i64 F/\wj=w6) (λ_ _=>0)
      case atStart=>exact⟨rfl,rfl⟩
      case round=>
       obtain⟨rfl,rfl⟩:=hrel;go_wp2_with fail;refine(uO g6 1001 (sW l ⟨E,F,D,H⟩ how q) q _ I (by omega) (HV.out q)).mono ?_
       rintro e w8 ⟨v8,r8,rfl,G,Q,L⟩;have HR:=aL Q;have TU:=Q.len;have U:=O.trans (L.mono O.size);have S:=N.below L N.lt;have m:=own_below n L aR;have IX:some w.heap.size≠u12.ownBlock:=own_ne m (.inl (uR _));clear Q L I N n O
       rcases aB G with⟨rfl,h0⟩|⟨g9,c9,rfl,_,_,_⟩
       ·obtain rfl:r8=[]:=List.length_eq_zero_iff.1 h0
        go_wp2_with (at_builtin;go_must (refine wpList_append_own_none rfl _ _ _ rfl (w.heap.size+1) 166 i0 4 underlying136 hi _ _ _ rfl m rfl ?_))
        go_roundw
        case rel=>exact⟨q+1,B,by omega,by go_num,m,aL (by have h:=lg HS.out HR.out;rwa [ky]at h),by omega,S,U⟩
        case measure=>simp[intOf];omega
       have r:∀j u,(Lk.flat r8)[j]? =some u->w8.cell? ((⟨g9,0,none⟩:Addr).add j)=some u:=λj u hu=>C8 G (g:=g9) rfl j u hu
       have Y2:=aL r;clear r
       go_wp2_with (at_builtin;go_must (refine Cs _ rfl _ _ 136 rfl (w.heap.size+1) 166 i0 _ 4 32 underlying136 hi hz0 hz1 hz2 rfl (by decide) _ _ _ rfl m ⟨g9,0,none⟩ r8.length c9 (Lk.flat r8) rfl (mG r8) Y2.out (λu hu=>qA hu) (by unfold maxLen;omega) (by omega) (by have:=S.lt;omega) ?_);intro v9 w9 xJ sZ _)
       go_roundw
       case rel=>exact⟨q+1,B++r8,by omega,by go_num,aW.app xJ,aL (lg HS.out HR.out),by rw[bq];omega,S.grown sZ IX,U.grown sZ U.size (λk e'=>by have:=(gH m k e').1;omega)⟩
       case measure=>simp[intOf];omega
     obtain rfl:q=4:=by omega
     obtain⟨A9,n9,c9,rfl,hn9⟩:∃A9 n9 c9,u12= .slice A9 n9 c9/\n9=B.length:=by
      rcases aB Y with⟨h1,h2⟩|⟨g9,c9,h1,_⟩
      ·exact⟨_,_,_,h1,h2.symm⟩
      exact⟨_,_,_,h1,rfl⟩
     by_cases U7:40<B.length
     ·go_wp2
      go_ret2;exact⟨.slice none 0 0,[],5,rfl,jN _ _ _ _,.inr (.inr (.inr ⟨HZ1.out,HZ2.out,λh=>absurd h (by omega),B,HS.out,.inl ⟨U7,rfl,rfl⟩⟩)),M⟩
     go_wp2;go_ret2;exact⟨_,B,0,rfl,own_base Y (iN _),.inr (.inr (.inr ⟨HZ1.out,HZ2.out,λh=>absurd h (by omega),B,HS.out,.inr ⟨by omega,rfl,rfl⟩⟩)),M⟩
   have abh:0<how:=by rw[ha];exact xZ a
   clear ha;go_wp2
   go_loopw [35] (λi wr=>∃k:Nat,k<=l.length/\i= .int .i64 k/\Hid ((l.take k).any (λz=>Lk.clash z ⟨E,F,D,H⟩)=false)/\ai wr w.heap.size 166 [E,F,D,H]/\Below w.heap.size w wr) (λi _=>l.length- (intOf i).toNat)
   case atStart=>exact⟨0,bL _,rfl,aL rfl,hx3.alloc _,hB3.alloc hB3.size _⟩
   case round=>
    obtain⟨k,hk,rfl,HC,hx4,hB4⟩:=hrel;clear y hB3 hx3;have y:=hx4.four
    by_cases hlt:k<l.length
    ·obtain⟨b,o,rfl,hbl,z0,z1,z2,z3⟩:=(dJ.at_ (hl.below hB4) hlt)
     have HS:=aL (show(l.take (k+1)).any (λz=>Lk.clash z ⟨E,F,D,H⟩)=Lk.clash l[k] ⟨E,F,D,H⟩by rw[aF hlt,AJ,HC.out];simp)
     have HM:=aL (cz hlt);generalize l[k]=z at z0 z1 z2 z3 HS HM;obtain⟨zo,zf,zt,za⟩:=z;dsimp only at z0 z1 z2 z3
     rcases hcl:Lk.clash ⟨zo,zf,zt,za⟩ ⟨E,F,D,H⟩with _|_
     ·have HF:=aL (HS.out.trans hcl)
      have c:=λW=>ed ⟨E,F,D,H⟩ ⟨zo,zf,zt,za⟩ W
      rw[Lk.fG,hcl]at c;dsimp only at c;clear hcl;go_wp2_with fail;refine(c _).mono ?_
      rintro e w5 ⟨rfl,hb5⟩;have q3:=hB4.alloc hB4.size (.cells #[zo,zf,zt,za] 166);have M:=q3.trans (hb5.mono q3.size);have Z:=(hx4.alloc (.cells #[zo,zf,zt,za] 166)).below hb5 (by simp;omega)
      clear q3 hb5 y z0 z1 z2 z3;go_wp2;go_roundw
      case rel=>exact⟨k+1,by omega,by go_num,HF,Z,M⟩
      case measure=>simp[intOf];omega
     have HF:=aL (show(Lk.meets l ⟨E,F,D,H⟩).isSome=true by unfold Lk.meets;rw[List.find?_isSome];exact⟨_,HM.out,hcl⟩)
     have c:=λW=>ed ⟨E,F,D,H⟩ ⟨zo,zf,zt,za⟩ W
     rw[Lk.fG,hcl]at c;dsimp only at c;clear hcl;go_wp2_with fail;refine(c _).mono ?_
     rintro e w5 ⟨rfl,hb5⟩;have q3:=hB4.alloc hB4.size (.cells #[zo,zf,zt,za] 166);have M:=q3.trans (hb5.mono q3.size);clear q3 hb5 y z0 z1 z2 z3;go_wp2;go_ret2;exact⟨.slice none 0 0,[],13,rfl,jN _ _ _ _,.inr (.inr (.inl ⟨HZ1.out,HZ2.out,abh,HF.out,rfl,rfl⟩)),M⟩
    obtain rfl:k=l.length:=by omega
    have HN:=aL (show(Lk.meets l ⟨E,F,D,H⟩).isSome=false by
     have h:=HC.out;rw[gN]at h;unfold Lk.meets;rw[E9];intro e';rw[List.find?_isSome]at e';obtain⟨z,hz,hz2⟩:=e';rw[GQ]at h;exact h z hz hz2)
    go_wp2_with fail;have HV:=aL (I_ l ⟨E,F,D,H⟩ how W_.out);have hB4:=hB4;have hx4:=hx4
    go_loopw [12,13] (λv i wr=>∃(q:Nat) (B:List Lk),q<=4/\i= .int .i64 q/\aW wr (w.heap.size+1) v B/\Hid (uP l ⟨E,F,D,H⟩ how q B)/\B.length<=1000*q/\ai wr w.heap.size 166 [E,F,D,H]/\Below w.heap.size w wr) (λ_ i _=>4- (intOf i).toNat)
    case atStart=>exact⟨0,[],by omega,rfl,jN _ _ _ _,aL (DI _ _ _),by simp,hx4,hB4⟩
    case round=>
     obtain⟨q,B,hq,rfl,Y,HS,hlen,Z,M⟩:=hrel;clear y;have y:=Z.four
     by_cases hq4:q<4
     ·go_wp2_with fail
      refine(DC A c l q _ ((hl.below M).more M.size) HL.out.2.1 (by omega)).mono ?_
      rintro e w6 ⟨rfl,hb6,V⟩;have pI:=M.trans (V.mono M.size);have hx6:=Z.below V Z.lt;have K:=own_below Y V aR;have GM:w.heap.size<wr.heap.size:=Z.lt;clear y Z M Y V;generalize wr.heap.size=g6 at*;have y:=hx6.four;go_wp2_with fail
      by_cases ho:E=q
      ·have ho':((q:Int)==E)=true:=by simpa using ho.symm
       have HO:=aL ho;clear ho
       go_loopw [15] (λi wj=>∃t:Int,F<=t/\t<=D/\i= .int .i64 t/\Below w.heap.size w wj/\aW wj (w.heap.size+1) u12 B/\ai wj w.heap.size 166 [E,F,D,H]/\ai wj g6 3 (o7 (dR l ⟨E,F,D,H⟩ how q t))) (λi _=>(D-intOf i).toNat)
       case atStart=>exact⟨F,rA _,by omega,rfl,pI,K,hx6,by rw[Ah];exact hb6⟩
       case round=>
        obtain⟨t,ht1,ht2,rfl,O,n,N,I⟩:=hrel;clear y pI K hx6 hb6;have y:=N.four
        by_cases hlt2:t<D
        ·have a1:=I.ZK (t:=t) (by omega) (by omega)
         have a1f:=I.frozen t.toNat;have HP:=aL (DL l (x:=⟨E,F,D,H⟩) how HO.out (by omega:0<=t) ht1)
         have Y1:w.heap.size≠g6:=by omega
         have hgo:some g6≠u12.ownBlock:=by
          intro e';obtain⟨q1,q2,q3⟩:=Ja n e';exact ai.NP I q3 (by decide)
         have HGO:=aL hgo;clear hgo;generalize dR l ⟨E,F,D,H⟩ how q t t.toNat=old at a1;go_wp2;go_roundw
         case rel=>exact⟨t+1,by omega,by omega,rfl,O.setCell (p:=⟨g6,t.toNat,none⟩) (by show w.heap.size<=g6;omega) _,World.ownsRow.kept n (uS _ _ _) (.inr (λe'=>HGO.out e'.symm)),N.far Y1 _,by rw[<-HP.out];exact I.TC t how⟩
         case measure=>simp[intOf];omega
        obtain rfl:D=t:=by omega
        rw[I9 (x:=⟨E,F,D,H⟩)]at I;go_wp2_with fail;refine(uO g6 1001 (sW l ⟨E,F,D,H⟩ how q) q _ I (by omega) (HV.out q)).mono ?_
        rintro e w8 ⟨v8,r8,rfl,G,Q,L⟩;have HR:=aL Q;have TU:=Q.len;have U:=O.trans (L.mono O.size);have S:=N.below L N.lt;have m:=own_below n L aR;have IX:some w.heap.size≠u12.ownBlock:=own_ne m (.inl (uR _));clear Q L I N n O
        rcases aB G with⟨rfl,h0⟩|⟨g9,c9,rfl,_,_,_⟩
        ·obtain rfl:r8=[]:=List.length_eq_zero_iff.1 h0
         go_wp2_with (at_builtin;go_must (refine wpList_append_own_none rfl _ _ _ rfl (w.heap.size+1) 166 i0 4 underlying136 hi _ _ _ rfl m rfl ?_))
         go_roundw
         case rel=>exact⟨q+1,B,by omega,by go_num,m,aL (by have h:=lg HS.out HR.out;rwa [ky]at h),by omega,S,U⟩
         case measure=>simp[intOf];omega
        have r:∀j u,(Lk.flat r8)[j]? =some u->w8.cell? ((⟨g9,0,none⟩:Addr).add j)=some u:=λj u hu=>C8 G (g:=g9) rfl j u hu
        have Y2:=aL r;clear r
        go_wp2_with (at_builtin;go_must (refine Cs _ rfl _ _ 136 rfl (w.heap.size+1) 166 i0 _ 4 32 underlying136 hi hz0 hz1 hz2 rfl (by decide) _ _ _ rfl m ⟨g9,0,none⟩ r8.length c9 (Lk.flat r8) rfl (mG r8) Y2.out (λu hu=>qA hu) (by unfold maxLen;omega) (by omega) (by have:=S.lt;omega) ?_);intro v9 w9 xJ sZ _)
        go_roundw
        case rel=>exact⟨q+1,B++r8,by omega,by go_num,aW.app xJ,aL (lg HS.out HR.out),by rw[bq];omega,S.grown sZ IX,U.grown sZ U.size (λk e'=>by have:=(gH m k e').1;omega)⟩
        case measure=>simp[intOf];omega
      have ho':((q:Int)==E)=false:=by simpa using λe=>ho e.symm
      have HP:=aL (Ai l (x:=⟨E,F,D,H⟩) how ho);clear ho;rw[<-HP.out]at hb6;have O:=pI;have N:=hx6;have n:=K;have I:=hb6;clear pI hx6 K hb6
      go_loopw [15] (λi wj=>i= .int .i64 F/\wj=w6) (λ_ _=>0)
      case atStart=>exact⟨rfl,rfl⟩
      case round=>
       obtain⟨rfl,rfl⟩:=hrel;go_wp2_with fail;refine(uO g6 1001 (sW l ⟨E,F,D,H⟩ how q) q _ I (by omega) (HV.out q)).mono ?_
       rintro e w8 ⟨v8,r8,rfl,G,Q,L⟩;have HR:=aL Q;have TU:=Q.len;have U:=O.trans (L.mono O.size);have S:=N.below L N.lt;have m:=own_below n L aR;have IX:some w.heap.size≠u12.ownBlock:=own_ne m (.inl (uR _));clear Q L I N n O
       rcases aB G with⟨rfl,h0⟩|⟨g9,c9,rfl,_,_,_⟩
       ·obtain rfl:r8=[]:=List.length_eq_zero_iff.1 h0
        go_wp2_with (at_builtin;go_must (refine wpList_append_own_none rfl _ _ _ rfl (w.heap.size+1) 166 i0 4 underlying136 hi _ _ _ rfl m rfl ?_))
        go_roundw
        case rel=>exact⟨q+1,B,by omega,by go_num,m,aL (by have h:=lg HS.out HR.out;rwa [ky]at h),by omega,S,U⟩
        case measure=>simp[intOf];omega
       have r:∀j u,(Lk.flat r8)[j]? =some u->w8.cell? ((⟨g9,0,none⟩:Addr).add j)=some u:=λj u hu=>C8 G (g:=g9) rfl j u hu
       have Y2:=aL r;clear r
       go_wp2_with (at_builtin;go_must (refine Cs _ rfl _ _ 136 rfl (w.heap.size+1) 166 i0 _ 4 32 underlying136 hi hz0 hz1 hz2 rfl (by decide) _ _ _ rfl m ⟨g9,0,none⟩ r8.length c9 (Lk.flat r8) rfl (mG r8) Y2.out (λu hu=>qA hu) (by unfold maxLen;omega) (by omega) (by have:=S.lt;omega) ?_);intro v9 w9 xJ sZ _)
       go_roundw
       case rel=>exact⟨q+1,B++r8,by omega,by go_num,aW.app xJ,aL (lg HS.out HR.out),by rw[bq];omega,S.grown sZ IX,U.grown sZ U.size (λk e'=>by have:=(gH m k e').1;omega)⟩
       case measure=>simp[intOf];omega
     obtain rfl:q=4:=by omega
     obtain⟨A9,n9,c9,rfl,hn9⟩:∃A9 n9 c9,u12= .slice A9 n9 c9/\n9=B.length:=by
      rcases aB Y with⟨h1,h2⟩|⟨g9,c9,h1,_⟩
      ·exact⟨_,_,_,h1,h2.symm⟩
      exact⟨_,_,_,h1,rfl⟩
     by_cases U7:40<B.length
     ·go_wp2
      go_ret2;exact⟨.slice none 0 0,[],5,rfl,jN _ _ _ _,.inr (.inr (.inr ⟨HZ1.out,HZ2.out,λ_=>HN.out,B,HS.out,.inl ⟨U7,rfl,rfl⟩⟩)),M⟩
     go_wp2;go_ret2;exact⟨_,B,0,rfl,own_base Y (iN _),.inr (.inr (.inr ⟨HZ1.out,HZ2.out,λ_=>HN.out,B,HS.out,.inr ⟨by omega,rfl,rfl⟩⟩)),M⟩
  have HZ2:=aL (show(Lk.wrong [⟨E,F,D,H⟩]).1≠0 by rw[<-HE2.out];simpa using t2)
  go_wp2_with fail
  go_quiet (fail)
  go_wp2;go_ret2;exact⟨.slice none 0 0,[],e2,rfl,jN _ _ _ _,.inr (.inl ⟨HZ1.out,HZ2.out,rfl,HE2.out⟩),below_drewN (hB3.alloc hB3.size _) _⟩
 have HZ1:=aL (show(Lk.wrong l).1≠0 by rw[<-Bd.out];simpa using t1)
 go_wp2_with fail
 go_quiet (fail)
 go_wp2;go_ret2;exact⟨.slice none 0 0,[],e1,rfl,jN _ _ _ _,.inl ⟨HZ1.out,rfl,Bd.out⟩,below_drewN (hB1.alloc hB1.size _) _⟩
end Go.Proofs.YtjppfhgkanbemabGreatDoor
