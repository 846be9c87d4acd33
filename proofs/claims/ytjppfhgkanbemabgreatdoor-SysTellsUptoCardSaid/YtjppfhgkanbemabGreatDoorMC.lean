/- A part of the proof of SysTells: MC. -/
import Derived.Test.YtjppfhgkanbemabGreatDoorProg
import Derived.Test.YtjppfhgkanbemabGreatDoorMB
import Derived.Lib.Hide
import Derived.WalkKit
import Derived.LoopTactic
import Derived.Laws.IdiomStrings
import Derived.Below
import Derived.Test.YtjppfhgkanbemabGreatDoorMA
import Derived.Deep.DeepMust
import Derived.Test.YtjppfhgkanbemabGreatDoorStrs
import Derived.Shelf.Strings.Split
import Derived.Shelf.Strings.LastIndex
import Derived.Shelf.Strings.Prefix
import Derived.Shelf.Small.Strs
import Derived.Lib.IndexBytes
import Derived.Lib.IndexLaws
import Derived.Deep.QuietTactic
import Derived.BigQuiet
import Derived.WalkLawsBesides
import Derived.RangeFuncNested
import Derived.RangeFuncBound
import Derived.RangeFuncCalls
import Derived.RangeFuncLeaves
import Derived.Shelf.Abstract
import Derived.Shelf.RegionOpen
import Derived.OwnWalkIn
import Derived.TacticsInMore
import Derived.LoopNIn
import Derived.LoopIn
import Derived.RangeFuncBox
set_option maxHeartbeats 3000000
set_option maxRecDepth 100000
set_option linter.all false
namespace Go.Proofs.YtjppfhgkanbemabGreatDoor
open Tryz
open Go.RowKit
theorem aU{a b:Bool}(h:a=b):Ending.returned (.bool a)= .returned (.bool b):=by rw[h]
theorem BR(s:ByteArray)(k:Nat)(h:k<s.size):s.data.toList.take (k+1)=s.data.toList.take k++[s[k]]:=by
 rw[aF (by simpa using h)];rfl
theorem AQ(s:ByteArray):s.data.toList.take s.size=s.data.toList:=fI (by simp)
theorem af(s:ByteArray):s.data.toList.length=s.size:=by simp
theorem Qw(s:ByteArray)(k:Nat)(h:k<s.size):s[k]∈s.data.toList:=by
 have:s[k]∈s.data.toList.take (k+1):=by rw[BR s k h];simp
 exact xV this
theorem wQ{s:ByteArray}(h:s.size<1):Pt.named s.data.toList=false:=by
 unfold Pt.named;rw[af,bN (show¬1<=s.size by omega)];rfl
theorem yD{s:ByteArray}(h:12<s.size):Pt.named s.data.toList=false:=by
 unfold Pt.named;rw[af,bN (show¬s.size<=12 by omega)];simp
theorem BU{s:ByteArray}(k:Nat)(hk:k<s.size)(h:Pt.letter s[k]=false):Pt.named s.data.toList=false:=by
 unfold Pt.named;have:s.data.toList.all Pt.letter=false:=by
  rw[EB];exact⟨s[k],Qw s k hk,by simp[h]⟩
 rw[this,Cv]
theorem yE{s:ByteArray}(h1:1<=s.size)(h2:s.size<=12)(h:(s.data.toList.take s.size).all Pt.letter=true):Pt.named s.data.toList=true:=by
 unfold Pt.named;rw[AQ]at h;rw[af,fw h1,fw h2,h];rfl
theorem Oc{s:ByteArray}(h1:1<=s.size)(h:(s.data.toList.take s.size).all Pt.letter=true):Pt.named s.data.toList=decide ((s.size:Int)<=12):=by
 rcases iB 12 s.size with a|a
 ·rw[yD a,bN (by omega)]
 rw[yE h1 a h,fw (by omega)]
theorem uf{s:ByteArray}{k:Nat}(hk:k<s.size)(h:(s.data.toList.take k).all Pt.letter=true)(hc:Pt.letter s[k]=true):(s.data.toList.take (k+1)).all Pt.letter=true:=by
 rw[BR s k hk,Db,h];simp[hc]
theorem yF{c:UInt8}(h:(97<=(c.toNat:Int)/\(c.toNat:Int)<=122)\/(48<=(c.toNat:Int)/\(c.toNat:Int)<=57)):Pt.letter c=true:=by
 unfold Pt.letter;rw[Cq,kI,kI,mI,mI,mI,mI];omega
theorem BV{c:UInt8}(h:((c.toNat:Int)<97\/122<(c.toNat:Int))/\((c.toNat:Int)<48\/57<(c.toNat:Int))):Pt.letter c=false:=by
 rw[E9];unfold Pt.letter;rw[Ne,Cq,kI,kI,mI,mI,mI,mI];omega
theorem BX(s:ByteArray)(w:World)(hs:s.size<=maxLen):Calls prog 76 #[s] w λe w'=>e= .returned (.bool (Pt.named s))/\w'=w:=by
 unfold maxLen at hs
 rcases iB s.size 1 with g|g
 ·have E:=aL (wQ g)
  go_enter func76,ntmps76
  go_wp2
  go_ret;exact⟨aU E.out.symm,rfl⟩
 rcases iB 12 s.size with c|c
 ·have E:=aL (yD c)
  go_enter func76,ntmps76
  go_wp2
  go_ret;exact⟨aU E.out.symm,rfl⟩
 go_enter func76,ntmps76
 go_wp2
 go_loop [15] (λi=>∃k:Nat,k<=s.size/\i= .int .i64 k/\(s.data.toList.take k).all Pt.letter=true) (λi=>s.size- (intOf i).toNat)
 case atStart=>exact⟨0,bL _,rfl,rfl⟩
 case round=>
  obtain⟨k,j,rfl,b⟩:=hrel;have h:=aL b
  by_cases a:k<s.size
  ·go_wp2
   all_goals first
    |(
      go_round
      case rel=>exact⟨k+1,by omega,by go_num,uf a h.out (yF (by omega))⟩
      case measure=>simp[intOf];omega)
    |(
      go_ret;exact⟨aU (BU k a (BV (by omega))).symm,rfl⟩)
  obtain rfl:k=s.size:=by omega
  go_wp2
  go_ret;exact⟨aU (yE g c h.out).symm,rfl⟩
theorem AX(s:ByteArray)(w w1:World)(g cap:Nat)(hs:s.size<=9223372036854775807)(hconv:(convert 9 157 (.string s)).run prog w= .ok (.slice g s.size cap) w1)(hC:∀j,(h:j<s.size)->w1.cell? ⟨g,j,none⟩=some (.int .u8 (s[j].toNat:Int))):Calls prog 83 #[s] w λe w'=>e= .returned (.bool (Pt.named s))/\w'=w1:=by
 have q:=aL hC;go_enter func83,ntmps83
 go_wp2
 go_loop [8] (λi=>∃k:Nat,k<=s.size/\i= .int .i64 k/\(s.data.toList.take k).all Pt.letter=true) (λi=>s.size- (intOf i).toNat)
 case atStart=>exact⟨0,bL _,rfl,rfl⟩
 case round=>
  obtain⟨k,t,rfl,b⟩:=hrel;have o:=aL b
  by_cases a:k<s.size
  ·have n:=q.out k a
   rcases m:decide ((s[k].toNat:Int)<=57)with _|_<;>rcases c:decide ((s[k].toNat:Int)<=122)with _|_<;>by_cases p:48<=(s[k].toNat:Int)<;>by_cases r:97<=(s[k].toNat:Int)
   all_goals go_wp2
   all_goals simp only[mI,nk]at m c
   all_goals first
    |(exfalso;omega)
    |(
      go_round
      case rel=>exact⟨k+1,by omega,by go_num,uf a o.out (yF (by omega))⟩
      case measure=>simp[intOf];omega)
    |(
      go_ret;exact⟨aU (BU k a (BV (by omega))).symm,rfl⟩)
  obtain rfl:k=s.size:=by omega
  rcases iB s.size 1 with l|l
  ·have E:=aL (wQ l)
   go_wp2
   go_ret;exact⟨aU E.out.symm,rfl⟩
  go_wp2
  go_ret;exact⟨aU (Oc l o.out).symm,rfl⟩
theorem ug(s:ByteArray)(w:World)(hs:s.size<=maxLen):Calls prog 83 #[s] w λe w'=>e= .returned (.bool (Pt.named s))/\Below w w w':=by
 unfold maxLen at hs;refine(AX s w _ _ _ hs (run_bytes_of_string w 9 157 5 s underlying9 underlying157 underlying5) ?_).mono ?_
 ·intro j h
  show World.cell? (w.drew.alloc _) _=_
  exact(World.cell?_alloc_mark w.drew _ _ _ j).trans (bytesRow_at s _ j h)
 rintro e w' ⟨rfl,rfl⟩;exact⟨rfl,((aa _ w).drew).alloc (by simp) _⟩
theorem jB:(prog.info? 9).map (λi=>(i.zero,i.size,i.bytes))=some (some (.string ByteArray.empty),1,16):=by kernel_rfl
def Pt.str(l:Pt.Bs):Value:= .string ⟨l.toArray⟩
theorem kS(s:ByteArray)(a b:Nat):Value.string (s.extract a b)=Pt.str ((s.data.toList.drop a).take (b-a)):=by
 unfold Pt.str
 congr 1
 apply ByteArray.ext
 apply Array.ext'
 rw[Fx]
def aT(w:World)(base:Nat)(v:Value)(l:List Pt.Bs):Prop:=w.ownsRow base 9 1 v l.length (l.map Pt.str)
def bH(w:World)(B:Nat)(A:Option Addr)(l:List Pt.Bs):Prop:=Rd w B 1 A l.length (l.map Pt.str)
theorem aT.snoc{w:World}{base n:Nat}{v x:Value}{xs:List Value}{l m:List Pt.Bs}{y:Pt.Bs}(h:w.ownsRow base 9 1 v (n+1) (xs++[x]))(e:m=l++[y])(hx':x=Pt.str y)(hn:n=l.length:=by rfl)(hx:xs=l.map Pt.str:=by rfl):aT w base v m:=by
 subst e hn hx hx';unfold aT;rw[vQ,bq];exact h
theorem bH.at_{w:World}{B:Nat}{A:Option Addr}{l:List Pt.Bs}(h:bH w B A l){k:Nat}(hk:k<l.length):∃b o,A=some ⟨b,o,none⟩/\b<B/\w.cell? ⟨b,o+k,none⟩=some (Pt.str l[k]):=by
 obtain⟨b,o,e,c,a⟩:=h.2 (by omega)
 exact⟨b,o,e,c,a k _ (by simp[hk])⟩
theorem pV{w:World}{base:Nat}{e:TypeId}{size n:Nat}{v:Value}{xs:List Value}(h:w.ownsRow base e size v n xs){q:Nat}(hq:v.ownBlock=some q):base<=q:=(h.lt q hq).1
theorem yG{l:Pt.Bs}{a k:Nat}(h:∀j,a<=j->j<k->l[j]? ≠some 47):∀c∈(l.drop a).take (k-a),c≠47:=by
 intro c g e;subst e;obtain⟨i,m,b⟩:=mq g;rw[bR,gM]at m;rw[Cu,GJ]at b;exact h (a+i) (by omega) (by omega) (by rw[bA (by omega),b])
theorem JI{l:Pt.Bs}{a k:Nat}(hk:k<l.length)(ha:a<=k)(h:∀j,a<=j->j<k->l[j]? ≠some 47)(hs:l[k]=47):Pt.split (l.drop a)=(l.drop a).take (k-a)::Pt.split (l.drop (k+1)):=by
 have e:l.drop a=(l.drop a).take (k-a)++47::l.drop (k+1):=by
  have b:=(rR (k-a) (l.drop a)).symm;rw[xS,show a+(k-a)=k by omega,kw hk,hs]at b
  exact b
 have c:=Pt.pJ (yG h) (l.drop (k+1));rw[<-e]at c;exact c
theorem JJ{l:Pt.Bs}{a:Nat}(h:∀j,a<=j->j<l.length->l[j]? ≠some 47):Pt.split (l.drop a)=[l.drop a]:=by
 have b:=yG h;rw[fI (by simp)]at b
 exact Pt.lL b
theorem dA:∀l:Pt.Bs,(Pt.split l).length<=l.length+1
 |[]=>aR
 |c::r=>by
  have ih:=dA r
  by_cases h:c=47
  ·subst h;rw[Pt.gq];simp;omega
  ·rw[Pt.iZ h,Pt.Qn _ _ (Pt.dK r)];simp;omega
theorem D5(s:ByteArray)(w:World)(hs:s.size<=8796093022208-1):Calls prog 82 #[s] w λe w'=>∃v,e= .returned v/\aT w' w v (Pt.split s)/\Below w w w':=by
 obtain⟨E,F,o,t,u⟩:=lw jB;go_enter func82,ntmps82
 go_wp2
 go_loopw [3,4,8] (λv a i wr=>∃k at_:Nat,∃c,k<=s.size/\at_<=k/\c.length<=at_/\i= .int .i64 k/\a= .int .i64 at_/\aT wr w v c/\Below w w wr
   /\Hid (Pt.split s.data.toList=c++Pt.split (s.data.toList.drop at_))/\Hid (∀j,at_<=j->j<k->s.data.toList[j]? ≠some 47))
  (λ_ _ i _=>s.size- (intOf i).toNat)
 case atStart=>exact⟨0,0,[],bL _,aR,aR,rfl,rfl,jN _ _ _ _,aa _ _,aL rfl,aL (λj _ h=>by omega)⟩
 case round=>
  obtain⟨k,a,c,N,ha,L,rfl,rfl,b,m,B,A⟩:=hrel
  by_cases l:k<s.size
  ·rcases D:((s[k].toNat:Int)==47)with _|_
   ·go_wp2
    go_roundw
    case rel=>
     refine⟨k+1,a,c,by omega,by omega,L,by go_num,rfl,b,m,B,aL λj r n=> ?_⟩
     rcases iB j k with h|h
     ·exact A.out j r h
     obtain rfl:j=k:=by omega
     rw[bA (by simpa using l)]
     intro e;have K:s.data[j]=47:=by simpa using e
     have I:s[j]=47:=K;rw[I]at D;simp at D
    case measure=>simp[intOf];omega
   go_wp2_with (at_builtin;go_must (refine ax wr rfl _ _ _ rfl w 9 E _ 1 16 underlying41 F o t u rfl (by decide) u3 _ _ rfl b [.string (s.extract a k)] rfl rfl (by simp[Value.oneCell']) (by omega) (by decide) m.size _ rfl ?_);intro H G g z x)
   go_roundw
   case rel=>
    have p:s.data.toList[k]'(by simpa using l)=47:=by
     have r:(s[k].toNat:Int)=47:=by simpa using D
     have n:s[k].toNat=47:=by omega
     have M:s.data[k]=47:=UInt8.toNat_inj.1 n
     simpa using M
    refine⟨k+1,k+1,c++[(s.data.toList.drop a).take (k-a)],by omega,aR,by simp;omega,by go_num,by go_num,aT.snoc g rfl (kS s a k),m.grown z m.size (λq e=>(pV b e)),aL ?_,aL λj r n=>by omega⟩
    rw[B.out,JI (by simpa using l) ha A.out p]
    simp
   case measure=>simp[intOf];omega
  obtain rfl:k=s.size:=by omega
  go_wp2_with (at_builtin;go_must (refine ax wr rfl _ _ _ rfl w 9 E _ 1 16 underlying41 F o t u rfl (by decide) u3 _ _ rfl b [.string (s.extract a s.size)] rfl rfl (by simp[Value.oneCell']) (by omega) (by decide) m.size _ rfl ?_);intro H G g z x)
  go_ret;refine⟨_,rfl,aT.snoc g (y:=s.data.toList.drop a) ?_ ?_,m.grown z m.size (λq e=>(pV b e))⟩
  ·rw[B.out,JJ (by intro j r n;exact A.out j r (by simpa using n))]
  rw[kS,fI (by simp)]
open Go.RowKit Go.Shelf
theorem wR(a b:Pt.Bs)(w:World):Calls prog 116 #[Pt.str a,Pt.str b] w λe w'=>e= .returned (.int .i64 (Lib.compareBytes a b))/\w'=w:=
 Any.strings_Compare lays106 ⟨a.toArray⟩ ⟨b.toArray⟩ w
theorem wS(s:ByteArray)(w:World):Calls prog 144 #[s,.string ⟨#[47]⟩] w λe w'=>e= .returned (.int .i64 (Lib.indexByte s 47))/\w'=w:=
 Any.strings_Index_one lays143 s 47 w
theorem FU(s:ByteArray)(w:World):Calls prog 180 #[s,.string ⟨#[47]⟩] w λe w'=>e= .returned (.int .i64 (Lib.countByte s 47))/\w'=w:=
 Any.strings_Count_one lays138 s 47 w
theorem AY(s:ByteArray)(c:Int)(hs:s.size<4611686018427387904)(w:World):Calls prog 117 #[s,.int .u8 c] w λe w'=>e= .returned (.int .i64 (Lib.lastIndexByte s c))/\w'=w:=
 Any.strings_LastIndexByte lays149 s c hs w
theorem rP(s p:ByteArray)(w:World):Calls prog 97 #[s,p] w λe w'=>e= .returned (.bool (Lib.hasPrefix s p))/\w'=w:=
 Any.strings_HasPrefix lays99 s p w
theorem D6{l:Pt.Bs}(h:Lib.indexByte l 47= -1):∀c∈l,c≠47:=by
 intro c b e;subst e;obtain⟨i,g,a⟩:=mq b;exact Lib.indexByte_none h i (by rw[bA g,a])
theorem yH{l:Pt.Bs}{i:Nat}(h:Lib.indexByte l 47=i):l=l.take i++47::l.drop (i+1)/\(∀c∈l.take i,c≠47)/\i<l.length:=by
 obtain⟨a,n⟩:=Lib.indexByte_some h;have g:i<l.length:=by
  rcases iB i l.length with b|b
  ·exact b
  rw[j4 b]at a;cases a
 refine⟨?_,?_,g⟩
 ·have e:=(rR i l).symm
  rw[kw g]at e;rw[bA g]at a;rw[Option.some.inj a]at e;exact e
 intro c o e;subst e;obtain⟨j,m,k⟩:=mq o;rw[bR]at m;rw[Cu]at k;exact n j (by omega) (by rw[bA (by omega),k])
theorem yI{l:Pt.Bs}(h:Lib.indexByte l 47= -1):Pt.split l=[l]:=Pt.lL (D6 h)
theorem BZ{l:Pt.Bs}{i:Nat}(h:Lib.indexByte l 47=i):Pt.split l=l.take i::Pt.split (l.drop (i+1)):=by
 obtain⟨a,b,_⟩:=yH h;have:=Pt.pJ b (l.drop (i+1));rw[<-a]at this;exact this
theorem uh:∀(k:Nat) (l:Pt.Bs),l.count 47<=k->Lib.splitK [47] 0 k l=Pt.split l
 |0,l,h=>by
  have hn:∀c∈l,c≠47:=λc b e=>by
   subst e;have:=List.count_pos_iff.2 b;omega
  rw[Pt.lL hn];rfl
 |k+1,l,h=>by
  unfold Lib.splitK;rw[Lib.index_one]
  by_cases a:Lib.indexByte l 47= -1
  ·rw[aM (by simp[a]),yI a]
  ·have n:=Lib.indexByte_ge l 47
   obtain⟨i,g⟩:∃i:Nat,Lib.indexByte l 47=i:=⟨(Lib.indexByte l 47).toNat,by omega⟩
   obtain⟨j,_,m⟩:=yH g;rw[av (by simpa using a),BZ g]
   have e:(Lib.indexByte l 47).toNat=i:=by omega
   rw[e];have b:(l.drop (i+1)).count 47<=k:=by
    rw[j,List.count_append,List.count_cons]at h;simp at h;omega
   show l.take (i+0)::Lib.splitK [47] 0 k (l.drop (i+1))=_
   rw[uh k _ b]
   rfl
theorem qR(s:ByteArray)(w:World)(hs:s.size<4294967281):Calls prog 115 #[s,.string ⟨#[47]⟩] w λe w'=>∃n,e= .returned (.slice w n n)/\n=(Pt.split s).length
   /\w'=w.alloc (.cells ((Pt.split s).map Pt.str).toArray 9):=by
 have b:Lib.countB s ⟨#[47]⟩=s.data.toList.count 47:=Lib.count_one 47 s;have j:=Lib.countB_le ⟨#[47]⟩ (by decide) s.size s aR
 have a:=Lib.splitB_all ⟨#[47]⟩ (by decide) 0 _ s rfl
 have c:=Any.strings_genSplit_core lays221 jB s ⟨#[47]⟩ 0 (-1) (Lib.countB s ⟨#[47]⟩+1) w hs (by decide) (by decide)
  (λx c r=>(wS x _).mono λe w' ⟨i,g⟩=>⟨by rw[i];exact om (λz=>Ending.returned (Value.int .i64 z)) (Lib.index_one x 47).symm,g⟩)
  ((FU s w).mono λe w' ⟨i,g⟩=>⟨by rw[i,b];rfl,g⟩) (by decide) (by decide) (by rw[aM (by decide)];omega)
 rw[Nat.add_sub_cancel,a]at c;have l:Lib.cellsOf (Lib.splitB ⟨#[47]⟩ 0 (Lib.countB s ⟨#[47]⟩) s) (Lib.countB s ⟨#[47]⟩+1)=((Lib.splitB ⟨#[47]⟩ 0 (Lib.countB s ⟨#[47]⟩) s).map Value.string).toArray:=by rw[<-a];exact Lib.cellsOf_full _
 have h:(Lib.splitB ⟨#[47]⟩ 0 (Lib.countB s ⟨#[47]⟩) s).map Value.string=(Pt.split s).map Pt.str:=by
  have o:=Lib.splitB_data ⟨#[47]⟩ 0 (Lib.countB s ⟨#[47]⟩) s;have m:=uh (Lib.countB s ⟨#[47]⟩) s (by rw[b];exact aR)
  rw[<-m]
  show _=(Lib.splitK (ByteArray.mk #[47]).data.toList 0 (Lib.countB s ⟨#[47]⟩) s).map Pt.str
  rw[<-o,List.map_map]
  rfl
 have k:Lib.countB s ⟨#[47]⟩+1=(Pt.split s).length:=by
  have:=om List.length h;rw[ib,ib,a]at this;exact this
 rw[l,h,k]at c;generalize hn:(Pt.split s).length=n at c ⊢;generalize hc:((Pt.split s).map Pt.str).toArray=C at c ⊢;have p:=aL hn;have q:=aL hc;go_enter func115,ntmps115
 go_wp2_with (go_at_call 145;refine c.mono ?_;rintro e w' ⟨rfl,g⟩;rw[g])
 go_ret;exact⟨n,rfl,rfl,rfl⟩
def jM(w w':World):Prop:=∃n,w'=w.drewN n
theorem jM.refl(w:World):jM w w:=⟨0,rfl⟩
theorem jM.below{B:Nat}{w w':World}(h:jM w w'):Below B w w':=by
 obtain⟨n,rfl⟩:=h;exact below_drewN (aa _ _) n
theorem ui{a b:Value}(h:a=b):Ending.returned a= .returned b:=by rw[h]
theorem gQ(a b:ByteArray):(a++b).data.toList=a.data.toList++b.data.toList:=by
 rw[ByteArray.data_append,Array.toList_append]
theorem empty_of{s:ByteArray}(h:s.data.toList=[]):s.toList=[]:=by rw[kg];exact h
theorem gU{s:ByteArray}(h:s.data.toList=[]):s.toList.isEmpty=true:=by rw[empty_of h];rfl
theorem fB{s:ByteArray}(h:¬s.data.toList=[]):¬s.toList=[]:=by rw[kg];exact h
theorem fC{s:ByteArray}(h:¬s.data.toList=[]):s.toList.isEmpty=false:=by
 cases e:s.toList with
 |nil=>exact absurd e (fB h)
 |cons _ _=>rfl
theorem under_nil(d:Pt.Bs):Pt.under [] d=false:=by
 unfold Pt.under Lib.hasPrefix
 split
 ·rfl
 cases d<;>rfl
theorem B_{s:Pt.Bs}(h:¬s=[]):Pt.under s []=true:=by
 unfold Pt.under;rw[aM rfl]
 cases s with
 |nil=>exact absurd rfl h
 |cons _ _=>rfl
theorem Cb{s d:Pt.Bs}(h:¬d=[]):Pt.under s d=Lib.hasPrefix s (d++[47]):=by unfold Pt.under;rw[av h]
theorem lQ(s d:ByteArray)(w:World)(hd:d.size<=140737488355328):Calls prog 56 #[s,d] w λe w'=>e= .returned (.bool (Pt.under s d))/\w'=w:=by
 by_cases a:s.data.toList=[]
 ·have E:Pt.under s d.data.toList=false:=by rw[a];exact under_nil _
  have c:=aL E;have i:=empty_of a;have h:=gU a;go_enter func56,ntmps56
  go_wp2
  go_ret;exact⟨aU c.out.symm,rfl⟩
 have i:=fB a;have h:=fC a
 by_cases b:d.data.toList=[]
 ·have E:Pt.under s d.data.toList=true:=by rw[b];exact B_ a
  have c:=aL E;have j:=empty_of b;have g:=gU b;go_enter func56,ntmps56
  go_wp2
  go_ret;exact⟨aU c.out.symm,rfl⟩
 have E:Pt.under s d.data.toList=Lib.hasPrefix s (d++⟨#[47]⟩).data.toList:=by rw[Cb b,gQ]
 have c:=aL E;have j:=fB b;have g:=fC b;go_enter func56,ntmps56
 go_wp2_with (go_at_call 97;refine(rP _ _ _).mono ?_;rintro e w' ⟨rfl,rfl⟩)
 go_ret;exact⟨aU c.out.symm,rfl⟩
theorem Oe(s d:Pt.Bs):Lib.hasPrefix s (d++[47])=(decide (d.length<s.length)&&(s.take d.length==d)&&(s.getD d.length 0==47)):=by
 rw[vR];unfold Lib.hasPrefix;rw[List.isPrefixOf_iff_prefix,kI,kI,mI,p9,p9]
 constructor
 ·rintro⟨r,rfl⟩
  refine⟨⟨by simp,by simp[tT]⟩,by simp[bi]⟩
 rintro⟨⟨b,c⟩,a⟩;refine⟨s.drop (d.length+1),?_⟩
 have e:=rR d.length s;rw[c,kw b]at e;rw[bi,bA b]at a;simp only[qD]at a;rw[a]at e;rw[<-e];simp
theorem iC(s d:ByteArray)(w:World)(hd:d.size<=140737488355328):Calls prog 58 #[s,d] w λe w'=>e= .returned (.bool (Pt.under s d))/\w'=w:=by
 by_cases a:d.data.toList=[]
 ·have E:Pt.under s d.data.toList= !s.toList.isEmpty:=by
   by_cases g:s.data.toList=[]
   ·rw[g,under_nil,gU g];rfl
   rw[a,B_ g,fC g];rfl
  have c:=aL E;have n:=empty_of a;have l:=gU a;go_enter func58,ntmps58
  go_wp2
  go_ret;exact⟨aU c.out.symm,rfl⟩
 have c:=aL ((Cb a).trans (Oe s d));have n:=fB a;have l:=fC a
 rcases iB d.size s.size with b|k
 ·by_cases i:(s.extract 0 d.size).toList=d.toList
  all_goals
   go_enter func58,ntmps58
   go_wp2
  ·go_ret
   refine⟨aU ?_,rfl⟩
   rw[c.out,af,af,fw b];have j:s.data.toList.take d.size=d.data.toList:=by
    rw[kg,kg,Fx]at i
    simpa using i
   rw[j,beq_self_eq_true,Bool.true_and,Bool.true_and];have m:s.data.toList.getD d.size 0=s.data[d.size]:=by
    rw[bi,bA (by simpa using b)];simp
   rw[m,vR,p9,p9]
   show((s.data[d.size].toNat:Int)=47)↔_
   constructor
   ·intro h;exact UInt8.toNat_inj.1 (show _=(47:UInt8).toNat by have:(47:UInt8).toNat=47:=rfl;omega)
   intro h;rw[h];rfl
  go_ret;refine⟨aU ?_,rfl⟩
  rw[c.out,af];have j:(s.data.toList.take d.size==d.data.toList)=false:=by
   rw[kg,kg,Fx]at i;rw[fq]
   simpa using i
  rw[j];simp
 go_enter func58,ntmps58
 go_wp2
 go_ret;refine⟨aU ?_,rfl⟩
 rw[c.out,af,af,bN (by omega)];rfl
theorem JK{l:Pt.Bs}(h:∀c∈l,c≠47):Pt.ah l=[]/\Pt.nameOf l=l:=by
 unfold Pt.ah Pt.nameOf;rw[Pt.lL h];exact⟨rfl,rfl⟩
theorem Og{d n:Pt.Bs}(h:∀c∈n,c≠47):Pt.ah (d++47::n)=d/\Pt.nameOf (d++47::n)=n:=by
 unfold Pt.ah Pt.nameOf;rw[Pt.nO,Pt.lL h];exact⟨by rw[List.dropLast_concat,Pt.bQ],by simp⟩
def vz(l:Pt.Bs)(k:Nat):Prop:=∀j,k<=j->l[j]? ≠some 47
theorem wU{l:Pt.Bs}{k:Nat}(h:vz l k):∀c∈l.drop k,c≠47:=by
 intro c b e;subst e;obtain⟨i,g,a⟩:=mq b;rw[GJ]at a;exact h (k+i) (by omega) (by rw[bA (by rw[gM]at g;omega),a])
theorem JL{l:Pt.Bs}{i:Nat}(hi:i<l.length)(hc:l[i]=47)(hn:vz l (i+1)):Pt.ah l=l.take i/\Pt.nameOf l=l.drop (i+1):=by
 have e:=(rR i l).symm;rw[kw hi,hc]at e;have:=Og (d:=l.take i) (wU hn);rw[<-e]at this;exact this
theorem D7{l:Pt.Bs}(hn:vz l 0):Pt.ah l=[]/\Pt.nameOf l=l:=JK (by have:=wU hn;simpa using this)
theorem vF{s:ByteArray}{i:Nat}(hi:i<s.size):s.data[i]! =s.data[i]:=Cy s.data i hi
theorem Xc{s:ByteArray}{i:Nat}(hi:i<s.size)(h:((s.data[i]).toNat:Int)≠47):s.data.toList[i]? ≠some 47:=by
 rw[bA (by simpa using hi)]
 intro e;have a:s.data[i]=47:=by simpa using e
 rw[a]at h;exact h rfl
theorem ZU{s:ByteArray}{i:Nat}(hi:i<s.size)(h:((s.data[i]).toNat:Int)=47):s.data.toList[i]'(by simpa using hi)=47:=by
 have a:s.data[i].toNat=47:=by omega
 have b:s.data[i]=47:=UInt8.toNat_inj.1 a
 simpa using b
theorem wV(s:ByteArray):(Lib.lastIndexByte s 47= -1/\vz s 0)\/∃i:Nat,∃h:i<s.size,Lib.lastIndexByte s 47=i/\s.data.toList[i]'(by simpa using h)=47/\vz s (i+1):=by
 rcases Lib.lastIndexByte_spec s 47 with⟨e,b⟩|⟨i,a,e,c,b⟩
 ·refine .inl ⟨e,λj _=> ?_⟩
  rcases iB j s.size with h|h
  ·have:=b j h;rw[vF h]at this;exact Xc h this
  rw[j4 (by simpa using h)];simp
 refine .inr ⟨i,a,e,ZU a (by rw[vF a]at c;exact c),λj g=> ?_⟩
 rcases iB j s.size with h|h
 ·have:=b j (by omega) h;rw[vF h]at this;exact Xc h this
 rw[j4 (by simpa using h)];simp
theorem FV{s:ByteArray}{i:Nat}(h:Pt.ah s.data.toList=s.data.toList.take i/\Pt.nameOf s.data.toList=s.data.toList.drop (i+1)):(Value.tuple #[.string (s.extract 0 i),.string (s.extract (i+1) s.size)])= .tuple #[Pt.str (Pt.ah s),Pt.str (Pt.nameOf s)]:=by
 rw[h.1,h.2,kS,kS,fI (l:=s.data.toList.drop (i+1)) (by simp)]
 simp
theorem jC(s:ByteArray)(w:World)(hs:s.size<=140737488355328):Calls prog 80 #[s] w λe w'=>e= .returned (.tuple #[Pt.str (Pt.ah s),Pt.str (Pt.nameOf s)])/\jM w w':=by
 have c:=AY s 47 (by omega) w
 rcases wV s with⟨a,g⟩|⟨i,k,a,j,g⟩
 ·rw[a]at c
  have h:=aL (D7 g);go_enter func80,ntmps80
  go_wp2_with (go_at_call 117;refine c.mono ?_;rintro e w' ⟨rfl,rfl⟩)
  go_ret2;exact⟨ui (by rw[h.out.1,h.out.2];rfl),jM.refl _⟩
 rw[a]at c;have h:=aL (FV (JL (by simpa using k) j g))
 have b:IntKind.i64.wrap (↑i+1)=↑i+1:=lm _ (by omega)
 go_enter func80,ntmps80
 go_wp2_with (go_at_call 117;refine c.mono ?_;rintro e w' ⟨rfl,rfl⟩)
 go_quiet (fail)
 go_wp2
 go_ret2;exact⟨ui h.out,⟨_,rfl⟩⟩
theorem dw(s:ByteArray)(w:World)(hs:s.size<=140737488355328):Calls prog 74 #[s] w λe w'=>e= .returned (.tuple #[Pt.str (Pt.ah s),Pt.str (Pt.nameOf s)])/\jM w w':=by
 go_enter func74,ntmps74
 go_wp2
 go_loop [4] (λi=>∃k:Nat,k<=s.size/\i= .int .i64 ((k:Int)-1)/\Hid (vz s k)) (λi=>(intOf i+1).toNat)
 case atStart=>exact⟨s.size,aR,rfl,aL λj h=>by rw[j4 (by simpa using h)];simp⟩
 case round=>
  obtain⟨k,p,rfl,g⟩:=hrel
  cases k with
  |zero=>
   have c:=aL (D7 g.out)
   go_wp2
   go_ret2;exact⟨ui (by rw[c.out.1,c.out.2];rfl),jM.refl _⟩
  |succ i=>
   have n:((i+1:Nat):Int)-1=(i:Int):=by omega
   rw[n];have l:i<s.size:=by omega
   rcases m:((s[i].toNat:Int)==47)with _|_
   ·go_wp2
    go_round
    case rel=>
     refine⟨i,by omega,by go_num,aL λj q=> ?_⟩
     rcases iB i j with h|h
     ·exact g.out j h
     ·obtain rfl:j=i:=by omega
      exact Xc l (by
               have o:¬(s[j].toNat:Int)=47:=by simpa using m
               exact o)
    case measure=>simp[intOf]
   ·have b:(s[i].toNat:Int)=47:=by simpa using m
    have c:=aL (FV (JL (by simpa using l) (ZU l b) g.out))
    have a:IntKind.i64.wrap (↑i+1)=↑i+1:=lm _ (by omega)
    go_wp2
    go_quiet (fail)
    go_wp2
    go_ret2;exact⟨ui c.out,⟨_,rfl⟩⟩
def ng(w:World)(g:Nat)(l:List Pt.Bs):Prop:=∀k,(h:k<l.length)->w.cell? ⟨g,k,none⟩=some (Pt.str l[k])
theorem ng.new(w:World)(l:List Pt.Bs):ng (w.alloc (.cells (l.map Pt.str).toArray 9)) w l:=by
 intro k h;rw[(ai.new w _ (l.map Pt.str)).cell k];simp[h]
theorem ng.below{w w':World}{g B:Nat}{l:List Pt.Bs}(h:ng w g l)(hb:Below B w w')(hg:g<B):ng w' g l:=λk a=>(hb.cell (p:=⟨g,k,none⟩) hg).trans (h k a)
theorem jM.cell{w w':World}(h:jM w w')(p:Addr):w'.cell? p=w.cell? p:=by
 obtain⟨n,rfl⟩:=h
 rfl
theorem jM.more{w w':World}(h:jM w w')(m:Nat):jM w (w'.drewN m):=by
 obtain⟨n,rfl⟩:=h;exact⟨n+m,by rw[World.drewN_drewN]⟩
theorem MG{xs ys:List Pt.Bs}{k:Nat}(hx:k<xs.length)(hy:k<ys.length):Pt.kQ (xs.drop k) (ys.drop k)=if Lib.compareBytes xs[k] ys[k]=0 then Pt.kQ (xs.drop (k+1)) (ys.drop (k+1))else Lib.compareBytes xs[k] ys[k]:=by
 rw[kw hx,kw hy,Pt.ig]
theorem Qx{xs ys:List Pt.Bs}{k:Nat}(h:k=min xs.length ys.length):Pt.kQ (xs.drop k) (ys.drop k)=(xs.length:Int)- (ys.length:Int):=by
 rcases Nat.le_total xs.length ys.length with a|a
 ·rw[qd a]at h
  subst h;rw[oF,Pt.gB,gM];omega
 rw[Nat.min_eq_right a]at h;subst h;rw[oF,Pt.gG,gM];omega
theorem aK{a b:Int}(h:a=b):Ending.returned (.int .i64 a)= .returned (.int .i64 b):=by rw[h]
theorem FW(s t:ByteArray)(xs ys:List Pt.Bs)(g1 g2:Nat)(w W1 W2:World)(c1:Calls prog 115 #[s,.string ⟨#[47]⟩] w λe w'=>e= .returned (.slice g1 xs.length xs.length)/\w'=W1)(c2:Calls prog 115 #[t,.string ⟨#[47]⟩] W1 λe w'=>e= .returned (.slice g2 ys.length ys.length)/\w'=W2)(hx:ng W2 g1 xs)(hy:ng W2 g2 ys)(hlx:xs.length<=4294967296)(hly:ys.length<=4294967296):Calls prog 79 #[s,t] w λe w'=>e= .returned (.int .i64 (Pt.kQ xs ys))/\jM W2 w':=by
 have x:=aL hx;have r:=aL hy;go_enter func79,ntmps79;go_wp2_with fail;refine c1.mono ?_
 rintro e w' ⟨rfl,rfl⟩;go_wp2_with fail;refine c2.mono ?_
 rintro e w' ⟨rfl,rfl⟩;go_wp2
 go_loopw [18] (λi wr=>∃k:Nat,k<=min xs.length ys.length/\i= .int .i64 k/\jM w' wr/\Hid (Pt.kQ xs ys=Pt.kQ (xs.drop k) (ys.drop k))) (λi _=>min xs.length ys.length- (intOf i).toNat)
 case atStart=>exact⟨0,bL _,rfl,jM.refl _,aL rfl⟩
 case round=>
  obtain⟨k,y,rfl,c,h⟩:=hrel
  by_cases n:k<min xs.length ys.length
  ·have g:k<xs.length:=by omega
   have b:k<ys.length:=by omega
   have o:=(c.cell _).trans (x.out k g);have u:=(c.cell _).trans (r.out k b);have j:=aL (h.out.trans (MG g b));generalize xs[k]=p at o j;generalize ys[k]=q at u j
   rcases m:(Lib.compareBytes p q !=0)with _|_
   ·have a:Lib.compareBytes p q=0:=by simpa using m
    have l:=aL a;go_wp2_with fail
    go_quiet ((go_at_call 116;exact Calls.quiet_of_same (wR _ _ _)))
    go_wp2;go_roundw
    case rel=>exact⟨k+1,by omega,by go_num,c.more _,aL (by rw[j.out,aM l.out])⟩
    case measure=>simp[intOf];omega
   have a:¬Lib.compareBytes p q=0:=by simpa using m
   have l:=aL a;go_wp2_with fail
   go_quiet ((go_at_call 116;exact Calls.quiet_of_same (wR _ _ _)))
   go_wp2;go_ret;exact⟨aK (by rw[j.out,av l.out]),c.more _⟩
  obtain rfl:k=min xs.length ys.length:=by omega
  have v:=aL (h.out.trans (Qx rfl));have z:IntKind.i64.wrap (↑xs.length-↑ys.length)=↑xs.length-↑ys.length:=lm _ (by omega)
  go_wp2;go_ret;exact⟨aK v.out.symm,c⟩
theorem Uy(s t:ByteArray)(w:World)(hs:s.size<4294967281)(ht:t.size<4294967281):Calls prog 79 #[s,t] w λe w'=>e= .returned (.int .i64 (Pt.cmp s t))/\Below w w w':=by
 have k:=dA s;have l:=dA t;rw[af]at k l;have p:Calls prog 115 #[s,.string ⟨#[47]⟩] w λe w'=>e= .returned (.slice w (Pt.split s).length (Pt.split s).length)/\w'=w.alloc (.cells ((Pt.split s).map Pt.str).toArray 9):=
  (qR s w hs).mono λe w' ⟨n,a,c,b⟩=>⟨by rw[a,c],b⟩
 have j:Calls prog 115 #[t,.string ⟨#[47]⟩] (w.alloc (.cells ((Pt.split s).map Pt.str).toArray 9)) λe w'=>e= .returned (.slice (w.heap.size+1:Nat) (Pt.split t).length (Pt.split t).length)/\w'=(w.alloc (.cells ((Pt.split s).map Pt.str).toArray 9)).alloc (.cells ((Pt.split t).map Pt.str).toArray 9):=
  (qR t _ ht).mono λe w' ⟨n,a,c,b⟩=>⟨by rw[a,c,bX],b⟩
 have m:=ng.new w (Pt.split s);have h:=ng.new (w.alloc (.cells ((Pt.split s).map Pt.str).toArray 9)) (Pt.split t);rw[bX]at h;have g:Below w w (w.alloc (.cells ((Pt.split s).map Pt.str).toArray 9)):=(aa _ _).alloc aR _;have o:=g.alloc g.size (.cells ((Pt.split t).map Pt.str).toArray 9);refine(FW s t _ _ _ _ w _ _ p j (m.below ((aa (w.heap.size+1) _).alloc (by simp) _) (uR _)) h (by omega) (by omega)).mono λe w' ⟨a,i⟩=>⟨a,?_⟩
 exact o.trans i.below
theorem pW:∀p q:Pt.Bs,Op.bytesLess p q=true↔Lib.compareBytes p q<0
 |[],[]=>by simp[Op.bytesLess,Lib.compareBytes]
 |[],_::_=>by simp[Op.bytesLess,Lib.compareBytes]
 |_::_,[]=>by simp[Op.bytesLess,Lib.compareBytes]
 |a::x,b::y=>by
  unfold Op.bytesLess Lib.compareBytes;have ih:=pW x y
  by_cases c:a<b
  ·simp[c]
  ·by_cases g:b<a
   ·have h:¬a=b:=λe=>by subst e;exact UInt8.lt_irrefl _ g
    simp[c,g,h]
   ·have h:a=b:=GD (UInt8.not_lt.1 g) (UInt8.not_lt.1 c)
    subst h;simp[UInt8.lt_irrefl,ih]
theorem Qy(p q:Pt.Bs):(Lib.compareBytes p q<0/\Op.bytesLess p q=true/\(p==q)=false)\/(Lib.compareBytes p q=0/\Op.bytesLess p q=false/\(p==q)=true)\/(0<Lib.compareBytes p q/\Op.bytesLess p q=false/\(p==q)=false):=by
 have a:=pW p q
 rcases Int.lt_trichotomy (Lib.compareBytes p q) 0 with h|h|h
 ·exact .inl ⟨h,a.2 h,by rw[fq];intro e;rw[e,Pt.tH]at h;omega⟩
 ·exact .inr (.inl ⟨h,by rw[E9];intro e;have:=a.1 e;omega,by rw[p9];exact Pt.qJ h⟩)
 exact .inr (.inr ⟨h,by rw[E9];intro e;have:=a.1 e;omega,by rw[fq];intro e;rw[e,Pt.tH]at h;omega⟩)
theorem kK(s:ByteArray)(w:World)(hs:s.size<4294967281):Calls prog 82 #[s] w λe w'=>∃g c,e= .returned (.slice (some ⟨g,0,none⟩) (Pt.split s).length c)/\ng w' g (Pt.split s)/\w.heap.size<=g/\g<w'/\Below w w w':=by
 refine(D5 s w (by omega)).mono λe w' ⟨v,i,b,n⟩=> ?_
 rcases aB b with⟨_,a⟩|⟨g,c,j,m,l,_⟩
 ·exact absurd (List.length_eq_zero_iff.1 a) (Pt.dK _)
 subst j;refine⟨g,c,i,λk h=> ?_,m,l,n⟩
 have:=b.cells (g:=g) rfl k (Pt.str (Pt.split s)[k]) (by simp[h])
 rw[<-this];unfold Addr.add
 split
 ·rename_i a;simp[a]
 simp
theorem FX(s t:ByteArray)(w:World)(hs:s.size<4294967281)(ht:t.size<4294967281):Calls prog 73 #[s,t] w λe w'=>e= .returned (.bool (decide (Pt.cmp s t.data.toList<0)))/\Below w w w':=by
 have Z:=dA s;have l2:=dA t;rw[af]at Z l2;have I:=kK s w hs;have L:=λW=>kK t W ht
 unfold Pt.cmp;generalize Pt.split s.data.toList=b at I Z ⊢;generalize Pt.split t.data.toList=a at L l2 ⊢;go_enter func73,ntmps73;go_wp2_with fail;refine I.mono ?_
 rintro e w1 ⟨g1,k1,rfl,o,G,v,l⟩;clear I;go_wp2_with fail;refine(L _).mono ?_
 rintro e w' ⟨g2,k2,rfl,Y,H,E,h⟩;clear L;have HX:=aL (o.below h v);have HY:=aL Y;have z:=l.trans (h.mono l.size);clear o Y l h G H v E;go_wp2
 go_loopw [14] (λi wr=>∃k:Nat,k<=b.length/\k<=a.length/\i= .int .i64 k/\jM w' wr/\Hid (Pt.kQ b a=Pt.kQ (b.drop k) (a.drop k))) (λi _=>b.length- (intOf i).toNat)
 case atStart=>exact⟨0,bL _,bL _,rfl,jM.refl _,aL rfl⟩
 case round=>
  obtain⟨k,hkx0,hky0,rfl,g,m⟩:=hrel
  by_cases u:k<b.length
  ·by_cases n:k<a.length
   ·have N:=(g.cell _).trans (HX.out k u)
    have O:=(g.cell _).trans (HY.out k n);have r:=aL (m.out.trans (MG u n));clear m;generalize b[k]=p at N r;generalize a[k]=q at O r;have D:wr.cell? ⟨g1,k,none⟩=some (.string ⟨p.toArray⟩):=N;have M:wr.cell? ⟨g2,k,none⟩=some (.string ⟨q.toArray⟩):=O;clear N O;obtain⟨A,j⟩:∃A:ByteArray,A=⟨p.toArray⟩:=⟨_,rfl⟩;obtain⟨K,c⟩:∃K:ByteArray,K=⟨q.toArray⟩:=⟨_,rfl⟩;rw[<-j]at D;rw[<-c]at M;have V:A.toList=p:=by rw[j,kg]
    have U:K.toList=q:=by rw[c,kg]
    have HP:=aL V;have S:=aL U;clear j c V U;have hd:decide ((a.length:Int)<=k)=false:=by simp;omega
    rcases Qy p q with⟨y,F,B⟩|⟨y,F,B⟩|⟨y,F,B⟩
    all_goals
     rw[<-HP.out,<-S.out]at F;rw[<-HP.out,<-S.out]at B;have x:=aL y;clear y
    ·go_wp2_with fail
     go_quiet (fail)
     go_wp2_with fail
     go_quiet (fail)
     go_wp2;go_ret;exact⟨aU (by rw[r.out,av (by have:=x.out;omega),fw x.out]),z.trans ((g.more _).more _).below⟩
    ·go_wp2_with fail
     go_quiet (fail)
     go_wp2_with fail
     go_quiet (fail)
     go_wp2;go_roundw
     case rel=>exact⟨k+1,by omega,by omega,by go_num,g.more _,aL (by rw[r.out,aM x.out])⟩
     case measure=>simp[intOf];omega
    go_wp2_with fail
    go_quiet (fail)
    go_wp2;go_ret;exact⟨aU (by rw[r.out,av (by have:=x.out;omega),bN (by have:=x.out;omega)]),z.trans (g.more _).below⟩
   obtain rfl:k=a.length:=by omega
   have Q:=aL (m.out.trans (by rw[oF,Pt.gG]:_=((b.drop a.length).length:Int)))
   clear m;have hd:decide ((a.length:Int)<=(a.length:Int))=true:=by simp
   go_wp2_with fail
   go_quiet (fail)
   go_wp2;go_ret;exact⟨aU (by rw[Q.out,bN (by omega)]),z.trans (g.more _).below⟩
  obtain rfl:k=b.length:=by omega
  have Q:=aL (m.out.trans (by rw[oF,Pt.gB,gM]:_= -((a.length-b.length:Nat):Int)))
  clear m;go_wp2;go_ret;exact⟨aU (by rw[Q.out];exact decide_eq_decide.2 (by omega)),z.trans g.below⟩
attribute [local go_sem] Oper.semAt_some
def o9(W:World)(b:Nat)(r:ByteArray):Prop:=ai W b 9 [r]/\ai W (b+1) 9 [.string ⟨#[47]⟩]/\ai W (b+2) 3 [(0:Int)]
def jO(b:Nat)(W W':World):Prop:=∀k,b<=k->k<b+3->W'.heap[k]? =W.heap[k]?
theorem jO.trans{b:Nat}{A B C:World}(h:jO b A B)(k:jO b B C):jO b A C:=λi a c=>(k i a c).trans (h i a c)
theorem jO.refl(b:Nat)(A:World):jO b A A:=λ_ _ _=>rfl
theorem jO.putObj{b:Nat}{W:World}{l:Nat}(o:Obj)(h:b+3<=l):jO b W (W.putObj l o):=λk _ a=>World.putObj_heap_other (by omega)
theorem o9.keep{b:Nat}{r:ByteArray}{W W':World}(h:o9 W b r)(k:jO b W W'):o9 W' b r:=
 ⟨(k b (by omega) (by omega)).trans h.1,(k (b+1) (by omega) (by omega)).trans h.2.1,(k (b+2) (by omega) (by omega)).trans h.2.2⟩
theorem o9.next{b:Nat}{r:ByteArray}{W:World}(h:o9 W b r)(r':ByteArray):o9 (W.setCell ⟨b,0,none⟩ (.string r')) b r':=
 ⟨h.1.bY 0 _,h.2.1.far (by simp) _,h.2.2.far (by simp) _⟩
def Agree(b n₀:Nat)(W W':World):Prop:=∃row,W.grownBy W' row/\∀r,row=some r->r=b\/(n₀<=r/\∃o:Obj,W.heap[r]? =some o/\o.isCells=false)
theorem Agree.alloc(b n₀:Nat)(W:World)(o:Obj):Agree b n₀ W (W.alloc o):=⟨none,World.grownBy_alloc W o none,λr e=>by cases e⟩
theorem Agree.putObj{b n₀:Nat}{W:World}{l:Nat}{o:Obj}(o':Obj)(hl:W.heap[l]? =some o)(hc:o.isCells=false)(h:n₀<=l):Agree b n₀ W (W.putObj l o'):=
 ⟨some l,grownBy_putObj' W l o',λr e=>by cases e;exact .inr ⟨h,o,hl,hc⟩⟩
theorem Agree.setCell(b n₀:Nat)(W:World)(v:Value):Agree b n₀ W (W.setCell ⟨b,0,none⟩ v):=⟨some b,grownBy_setCell' W b v,λr e=>by cases e;exact .inl rfl⟩
def Hands(F:Fence)(n:Nat)(P:Program)(gf b:Nat)(s:ByteArray)(xs:List Pt.Bs):Prop:=
 ∀(l:Nat) (J Jx:List Pt.Bs->World->Prop) (W:World),o9 W b s->
  (∀pre W v,J pre W->J pre (W.setCell ⟨b,0,none⟩ v))->(∀pre W v,Jx pre W->Jx pre (W.setCell ⟨b,0,none⟩ v))->
  (∀pre x W1,J pre W1->pre++[x]<+:xs->YieldAt F (n-1) P l #[Pt.str x] W1 λe W'=>
   (e= .returned (.bool true)/\J (pre++[x]) W'/\jO b W1 W')\/(e= .returned (.bool false)/\Jx (pre++[x]) W'))->
  J [] W->
  CallsIn F n P gf #[.func (.yield l) #[] #[],.pointer (b+1:Nat),.pointer b,.pointer (b+2:Nat)] W λe W'=>(∃v,e= .returned v)/\(J xs W'\/∃pre,Jx pre W')
def roundEnd(b n₀:Nat)(I:List Pt.Bs->World->Prop)(Ix:Code->List Pt.Bs->World->Prop)(xs:List Pt.Bs)(W:World):Exit->Act->World->Prop
 | .normal,_,W'=>KeepsFrom n₀ W W'/\jO b W W'/\I xs W'
 | .ret,_,W'=>KeepsFrom n₀ W W'/\Ix .ret xs W'
 | .exit id,_,W'=>KeepsFrom n₀ W W'/\Ix (.exit id) xs W'
 | .goto t,_,W'=>KeepsFrom n₀ W W'/\Ix (.goto t) xs W'
 | .panic _,_,_=>False
 | .outgrown,_,_=>False
theorem Cc{P:Program}{F:Fence}{n:Nat}{g:Operand}{ps:Array Tmp}{assign body:Code}{Q:Exit->Act->World->Prop}{a:Act}{w:World}(hro:F.round=none)(h1:1<=n){gf b:Nat}{s:ByteArray}{xs:List Pt.Bs}(hg:a.eval g= .func (.func gf) #[] #[.pointer (b+1:Nat),.pointer b,.pointer (b+2:Nat)])(hFg:F.fn gf)(eg:∀args w,(callFunc gf args).run P w= .ok (.enter gf args) w)(hseq:Hands F (n-1) P gf b s xs)(hb:b+3<=w.heap.size)(hbx:o9 w b s)(hps:ps.size=1)(I:List Pt.Bs->World->Prop)(Ix:Code->List Pt.Bs->World->Prop)(hI:∀pre W W',I pre W->Agree b w W W'->I pre W')(hIx:∀c pre W W',Ix c pre W->Agree b w W W'->Ix c pre W')(h0:I [] w)(a₁:Pt.Bs->Act)(hassign:∀(l:Nat) (x:Pt.Bs) (W:World) (K:Act->World->Prop),K (a₁ x) W->
   assign.wpIn (F.inRound l) (n-1-1) P (Exit.then K (λ_ _ _=>False)) {tmps:=(ps.zip #[Pt.str x]).foldl (λt (p,v)=>t.setIfInBounds p v) a.tmps,defers:=[]} W)(hbody:∀(l:Nat) (pre:List Pt.Bs) (x:Pt.Bs) (W:World),I pre W->pre++[x]<+:xs->w.heap.size<=W.heap.size->body.wpIn (F.inRound l) (n-1-1) P (roundEnd b w I Ix (pre++[x]) W) (a₁ x) W)(hdone:∀(D:Nat) (W:World),w.heap.size<=D->I xs W->W.heap[D]? =some (.deferred (some []))->Q .normal {a with defers:={target:= .collected D,args:=#[]}::a.defers} W)(hstop:∀(D:Nat) (c:Code) (pre:List Pt.Bs) (W:World),w.heap.size<=D->Ix c pre W->W.heap[D]? =some (.deferred (some []))->c.wpIn F n P Q {a with defers:={target:= .collected D,args:=#[]}::a.defers} W):(Code.rangeFunc g ps assign body).wpIn F n P Q a w:=by
 refine wpIn_rangeFunc ?_
 intro fn hfn;rw[hro];obtain⟨j,m⟩:∃j:LoopState->Option Code->Loop,j=λst pe=>{state:=st,pending:=pe,fn,tmps:=a.tmps,params:=ps,assign,body,defers:=w.heap.size}:=⟨_,rfl⟩
 obtain⟨H,A⟩:∃H,(w.alloc (.deferred (some []))).alloc (.loop (j .ready none))=H:=⟨_,rfl⟩;obtain⟨q,S⟩:∃q,q=w.heap.size+1:=⟨_,rfl⟩;obtain⟨E,hd0⟩:∃E,E=w.heap.size:=⟨_,rfl⟩;have hL1:H.heap[q]? =some (.loop (j .ready none)):=by
  rw[<-A,S];have:=World.alloc_heap_new (w.alloc (.deferred (some []))) (.loop (j .ready none));rwa [bX]at this
 have hK1:H.heap[E]? =some (.deferred (some [])):=by
  rw[<-A,hd0];exact(Bt _ _ _ (by simp)).trans (World.alloc_heap_new w _)
 have hI1:I [] H:=by rw[<-A];exact hI _ _ _ (hI _ _ _ h0 (Agree.alloc _ _ _ _)) (Agree.alloc _ _ _ _)
 have hx1:o9 H b s:=by
  refine hbx.keep λk _ h2=> ?_
  rw[<-A];exact(Bt _ _ _ (by simp;omega)).trans (Bt _ _ _ (by omega))
 have hz1:w.heap.size<=H.heap.size:=by rw[<-A];simp;omega
 refine⟨q,[{target:= .collected E,args:=#[]}],H,{target:= .fn (.func gf) #[.pointer (b+1:Nat),.pointer b,.pointer (b+2:Nat)],args:=#[.func (.yield q) #[] #[]]},H,gf,
  #[.func (.yield q) #[] #[],.pointer (b+1:Nat),.pointer b,.pointer (b+2:Nat)],H,?_,?_,?_,?_,λ_=>h1,?_⟩
 ·rw[<-A,m,S,hd0];exact run_enterLoop_outer _ _ _ _ _
 ·simp only[resolve,hg]
  simp[go_sem]
 ·intro f' V;simp[Target.leads]at V;subst V;exact hFg
 ·simp[invoke,go_sem,eg]
 refine(hseq q
  (λpre W=>I pre W/\W.heap[q]? =some (.loop (j .ready none))/\W.heap[E]? =some (.deferred (some [])))
  (λpre W=>∃c,Ix c pre W/\W.heap[q]? =some (.loop (j .done (some c)))/\W.heap[E]? =some (.deferred (some [])))
  H hx1
  (λpre W v h=>⟨hI _ _ _ h.1 (Agree.setCell _ _ _ _),(mh W _ v q (by simp;omega)).trans h.2.1,(mh W _ v E (by simp;omega)).trans h.2.2⟩)
  (λpre W v h=>by
   obtain⟨c,hc,G,L⟩:=h;exact⟨c,hIx c _ _ _ hc (Agree.setCell _ _ _ _),(mh W _ v q (by simp;omega)).trans G,(mh W _ v E (by simp;omega)).trans L⟩)
  ?_ ⟨hI1,hL1,hK1⟩).mono ?_
 ·
  rintro pre x W ⟨Z,G,L⟩ Y;have hlt:q<W:=(Array.getElem?_eq_some_iff.1 G).1;have hy:=run_yield (P:=P) (args:=#[Pt.str x]) G (by rw[m];exact hps.symm)
  rw[m]at hy;refine⟨fn,_,assign,body,hy,roundIn_of_wpIn hfn (hassign _ x W _ ?_)⟩
  refine⟨_,run_beginRound G (by rw[m]),?_⟩
  have U:(W.putObj q (.loop {j .ready none with state:= .busy})).heap[q]? =some (.loop {j .ready none with state:= .busy}):=World.putObj_heap_same hlt
  have hk2:(W.putObj q (.loop {j .ready none with state:= .busy})).heap[E]? =some (.deferred (some [])):=(World.putObj_heap_other (by omega)).trans L
  have hw2:jO b W (W.putObj q (.loop {j .ready none with state:= .busy})):=jO.putObj _ (by omega)
  have hz2:w.heap.size<=(W.putObj q (.loop {j .ready none with state:= .busy})).heap.size:=by have:=(Array.getElem?_eq_some_iff.1 U).1;omega
  refine wpIn_mono (hbody _ pre x _ (hI _ _ _ Z (Agree.putObj _ G rfl (by omega))) Y hz2) ?_
  have fin:∀(i:Option Code) (B:World),KeepsFrom w (W.putObj q (.loop {j .ready none with state:= .busy})) B->
    (Instr.endRound q i).run P B= .ok (.bool i.isNone) (B.putObj q (.loop (j (if i.isNone then .ready else .done) i)))/\
    B.heap[q]? =some (.loop {j .ready none with state:= .busy})/\
    (B.putObj q (.loop (j (if i.isNone then .ready else .done) i))).heap[q]? =some (.loop (j (if i.isNone then .ready else .done) i))/\
    (B.putObj q (.loop (j (if i.isNone then .ready else .done) i))).heap[E]? =some (.deferred (some [])):=λi B r=>by
   have o:=r.same _ _ (by omega) U rfl
   have:=run_endRound (P:=P) i o;rw[m]at this ⊢;exact⟨this,by rw[m]at o;exact o,World.putObj_heap_same (Array.getElem?_eq_some_iff.1 o).1,(World.putObj_heap_other (by omega)).trans (r.same _ _ (by omega) hk2 rfl)⟩
  rintro e a3 B N
  cases e with
  |normal=>
   obtain⟨r,O,z⟩:=N;obtain⟨M,o,u,y⟩:=fin none B r;exact⟨_,_,M,.inl ⟨rfl,⟨hI _ _ _ z (Agree.putObj _ o rfl (by omega)),u,y⟩,(hw2.trans O).trans (jO.putObj _ (by omega))⟩⟩
  |ret=>
   obtain⟨r,z⟩:=N;obtain⟨M,o,u,y⟩:=fin (some .ret) B r;exact⟨_,_,M,.inr ⟨rfl,.ret,hIx _ _ _ _ z (Agree.putObj _ o rfl (by omega)),u,y⟩⟩
  |exit id=>
   obtain⟨r,z⟩:=N;obtain⟨M,o,u,y⟩:=fin (some (.exit id)) B r;exact⟨_,_,M,.inr ⟨rfl,.exit id,hIx _ _ _ _ z (Agree.putObj _ o rfl (by omega)),u,y⟩⟩
  |goto t=>
   obtain⟨r,z⟩:=N;obtain⟨M,o,u,y⟩:=fin (some (.goto t)) B r;exact⟨_,_,M,.inr ⟨rfl,.goto t,hIx _ _ _ _ z (Agree.putObj _ o rfl (by omega)),u,y⟩⟩
  |panic ch=>exact N.elim
  |outgrown=>exact N.elim
 rintro e W2 ⟨⟨v,rfl⟩,(⟨Z,G,L⟩|⟨pre,c,Z,G,L⟩)⟩
 ·exact⟨none,_,by have:=run_endLoop (P:=P) G (by rw[m];simp);rw[m]at this;exact this,hdone E _ (by omega) (hI _ _ _ Z (Agree.putObj _ G rfl (by omega))) ((World.putObj_heap_other (by omega)).trans L)⟩
 exact⟨some c,_,by have:=run_endLoop (P:=P) G (by rw[m];simp);rw[m]at this;exact this,hstop E c pre _ (by omega) (hIx _ _ _ _ Z (Agree.putObj _ G rfl (by omega))) ((World.putObj_heap_other (by omega)).trans L)⟩
def D8(b:Nat)(W:World):Nat:=match W.cell? ⟨b,0,none⟩with|some (.string r)=>r.size|_=>0
theorem yJ{b:Nat}{W:World}{r:ByteArray}(h:o9 W b r):D8 b W=r.size:=by
 unfold D8;rw[show W.cell? b=some (.string r)from h.1.cell 0]
theorem Ce(n b:Nat)(s:ByteArray)(hn:1<=n)(hs:s.size<=140737488355328):Hands Fence.wide n prog 142 b s (Pt.split s):=by
 intro l J Z W t S Q B O;refine callsIn_of_wp func142 rfl trivial ?_ rfl
 simp only[ntmps142,Ev,gL,sw,Nat.reduceAdd,Nat.reduceSub,Array.replicate_succ,Array.replicate_zero,List.push_toArray,List.append_toArray,vv,tL];have N:=(t.2.1.one).1
 gi_wp2_with fail
 gi_loopw [7] (λ_ wr=>∃g r,o9 wr b r/\J g wr/\r.size<=s.size/\Hid (Pt.split s.data.toList=g++Pt.split r)) (λ_ wr=>D8 b wr)
 case atStart=>exact⟨[],s,t,O,aR,aL rfl⟩
 case round=>
  obtain⟨g,r,w,K,hr,I⟩:=hrel;have c:=(Bw (n:=n-1)).2 (wS r wr);have p:=Lib.indexByte_ge r 47;obtain⟨G,v,_⟩:=w.1.one;obtain⟨L,_,_⟩:=w.2.1.one;obtain⟨U,_,_⟩:=w.2.2.one
  by_cases z:Lib.indexByte r 47= -1
  ·rw[z]at c
   have x:=aL (I.out.trans (by rw[yI z]))
   obtain⟨D,j,a,h,u,F⟩:=B g r wr K ⟨[],by rw[x.out];simp⟩
   have E:(Instr.yield l #[r]).run prog wr= .ok (.round l D j a h) wr:=u
   gi_wp2_with (refine⟨trivial,?_⟩;gi_at_call 144;refine c.mono ?_;rintro e M ⟨rfl,rfl⟩)
   refine F.mono ?_
   rintro e V (⟨rfl,o,q⟩|⟨rfl,k⟩)
   ·gi_wp2
    go_end0
    exact⟨⟨_,rfl⟩,.inl (by rw[x.out];exact o)⟩
   gi_wp2
   go_end0
   exact⟨⟨_,rfl⟩,.inr ⟨_,k⟩⟩
  obtain⟨i,y⟩:∃i:Nat,Lib.indexByte r 47=i:=⟨(Lib.indexByte r 47).toNat,by omega⟩
  have A:=(yH y).2.2;rw[af]at A;rw[y]at c;have x:=aL (I.out.trans (by rw[BZ y]))
  obtain⟨D,j,a,h,u,F⟩:=B g (r.data.toList.take i) wr K ⟨Pt.split (r.data.toList.drop (i+1)),by rw[x.out];simp⟩
  have H:Pt.str (r.data.toList.take i)= .string (r.extract 0 i):=by rw[kS];simp
  have E:(Instr.yield l #[.string (r.extract 0 i)]).run prog wr= .ok (.round l D j a h) wr:=by rw[<-H];exact u
  have Y:=aL (show(r.extract (i+1) r.size).data.toList=r.data.toList.drop (i+1)by rw[Fx,fI (by rw[gM,af];exact aR)])
  gi_wp2_with (refine⟨trivial,?_⟩;gi_at_call 144;refine c.mono ?_;rintro e M ⟨rfl,rfl⟩)
  refine F.mono ?_
  rintro e V (⟨rfl,o,q⟩|⟨rfl,k⟩)
  ·have m:=w.keep q
   obtain⟨G,v,_⟩:=m.1.one;obtain⟨L,_,_⟩:=m.2.1.one
   gi_wp2
   go_roundw
   case rel=>exact⟨g++[r.data.toList.take i],r.extract (i+1) r.size,m.next _,S _ _ _ o,by simp;omega,aL (by rw[x.out,Y.out,tT];rfl)⟩
   case measure=>rw[yJ (m.next _),yJ w];simp;omega
  gi_wp2
  refine aD (AR rfl _ _ _) rfl ?_
  exact⟨⟨_,rfl⟩,.inr ⟨_,k⟩⟩
attribute [local go_sem] Oper.semAt_some
theorem MH(s:ByteArray)(w:World):Calls prog 75 #[s,.string ⟨#[47]⟩] w λe w'=>e= .returned (.func (.func 142) #[] #[.pointer (w.heap.size+1:Nat),.pointer w,.pointer (w.heap.size+2:Nat)])
   /\o9 w' w s/\w'.heap.size=w.heap.size+3/\Below w w w':=by
 go_enter func75,ntmps75
 go_wp2
 go_ret;refine⟨rfl,⟨((ai.new w _ _).alloc _).alloc _,?_,?_⟩,by simp,(((aa _ w).alloc aR _).alloc (by simp) _).alloc (by simp;omega) _⟩
 ·have h:=(ai.new (w.alloc (.cells #[s] 9)) 9 [.string ⟨#[47]⟩]).alloc (.cells #[(0:Int)] 3)
  rwa [bX]at h
 have h:=ai.new ((w.alloc (.cells #[s] 9)).alloc (.cells #[.string ⟨#[47]⟩] 9)) 3 [(0:Int)]
 rwa [bX,bX]at h
theorem Agree.below{b n₀ n:Nat}{w W W':World}(h:Below n w W)(k:Agree b n₀ W W')(hn:n<=w.heap.size)(h1:n<=b)(h2:n<=n₀):Below n w W':=by
 obtain⟨c,a,g⟩:=k;exact h.grown a (eT hn h.size) (λr e=>by rcases g r e with rfl|⟨i,_⟩<;>omega)
theorem ni{b n₀:Nat}{w W W':World}(h:Below w w W)(k:Agree b n₀ W W')(h1:w.heap.size<=b/\w.heap.size<=n₀):Below w w W':=Agree.below h k aR h1.1 h1.2
theorem ai.agree{b n₀ g:Nat}{t:TypeId}{cs:List Value}{W W':World}(h:ai W g t cs)(k:Agree b n₀ W W')(hne:g≠b):ai W' g t cs:=by
 obtain⟨c,l,i⟩:=k;refine h.grown l (λe=> ?_)
 rcases i g e.symm with j|⟨_,o,a,m⟩
 ·exact hne j
 rw[show W.heap[g]? =_ from h]at a
 cases a
 cases m
theorem nR:∀(l:Pt.Bs),∀p∈Pt.split l,p.length<=l.length
 |[]=>by intro p hp;simp[Pt.split]at hp;subst hp;simp
 |c::r=>by
  have ih:=nR r;intro p hp
  by_cases h:c=47
  ·subst h
   rw[Pt.gq]at hp
   rcases List.mem_cons.1 hp with rfl|hp
   ·simp
   ·have:=ih p hp;simp;omega
  ·rw[Pt.iZ h]at hp
   cases hs:Pt.split r with
   |nil=>exact absurd hs (Pt.dK r)
   |cons q qs=>
    rw[hs]at hp ih
    rcases List.mem_cons.1 hp with rfl|hp
    ·have:=ih q (by simp);simp;omega
    ·have:=ih p (by simp[hp]);simp;omega
theorem FY{l:Pt.Bs}{pre:List Pt.Bs}{x:Pt.Bs}(h:pre++[x]<+:Pt.split l):x∈Pt.split l:=h.subset (by simp)
theorem JM{s:ByteArray}(h:80<s.size):Pt.clean s.data.toList=false:=by
 unfold Pt.clean;rw[af,bN (by omega)];rfl
theorem FZ{s:ByteArray}(h:s.size<=80):Pt.clean s.data.toList=(Pt.split s).all Pt.named:=by
 unfold Pt.clean;rw[af,fw h];rfl
theorem Uz{xs pre:List Pt.Bs}{x:Pt.Bs}(h:pre++[x]<+:xs)(hx:Pt.named x=false):xs.all Pt.named=false:=by
 rw[EB];exact⟨x,h.subset (by simp),by simp[hx]⟩
theorem clean_any(s:ByteArray)(w:World)(hs:s.size<=140737488355328):Calls prog 39 #[s] w λe w'=>e= .returned (.bool (Pt.clean s))/\Below w w w':=by
 rcases iB 80 s.size with g|g
 ·have B:=aL (JM g)
  go_enter func39,ntmps39
  go_wp2
  exact aD (v:= .bool false) (by simp[results,results39,go_sem]) rfl ⟨aU B.out.symm,(aa _ w).alloc aR _⟩
 have B:=aL (FZ g);have Z:1<=3-1-1:=by decide
 refine(Bw (n:=3)).1 ?_
 refine callsIn_of_wp_marks func39 rfl trivial ?_ rfl
 simp only[ntmps39,Ev,gL,sw,Nat.reduceAdd,Nat.reduceSub,Array.replicate_succ,Array.replicate_zero,List.push_toArray,List.append_toArray,vv,tL]
 gi_wp2_with (refine⟨trivial,?_⟩;gi_at_call 75;refine(callsIn_wide.2 (MH _ _)).mono ?_;rintro e Q ⟨rfl,u,U,o⟩)
 have O:ai Q w 4 [false]:=(ai.new w 4 [false]).below o (by simp)
 have E:Below w w Q:=((aa _ w).alloc aR _).trans (o.mono (by simp))
 rw[bX]at u U;refine Cc (F:=Fence.wide) (n:=3) rfl (by decide) (b:=w.heap.size+1) (s:=s) (xs:=Pt.split s) rfl trivial (enters_of func142 (by kernel_rfl) rfl) (Ce 2 _ s (by decide) hs) (by omega) u rfl
  (λa W=>ai W w 4 [false]/\Below w w W/\Hid (a.all Pt.named=true))
  (λc _ W=>c= .ret/\ai W w 4 [false]/\Below w w W/\Hid ((Pt.split s).all Pt.named=false))
  (λa W Y h k=>⟨h.1.agree k (by omega),ni h.2.1 k (by omega),h.2.2⟩)
  (λc a W Y h k=>⟨h.1,h.2.1.agree k (by omega),ni h.2.2.1 k (by omega),h.2.2.2⟩)
  ⟨O,E,aL rfl⟩
  (λx=>{tmps:=#[.string s,undef,.pointer w,Pt.str x,.string s,.int .i64 s.size,.bool (decide (80<(s.size:Int))),.string s,
   .func (.func 142) #[] #[.pointer (w.heap.size+1+1:Nat),.pointer (w.heap.size+1:Nat),.pointer (w.heap.size+1+2:Nat)],Pt.str x,undef,undef,undef],defers:=[]}) ?assign ?body ?done ?stop
 case assign=>
  intro l x W K q
  gi_wp2
  exact q
 case body=>
  rintro l a x W ⟨j,m,y⟩ i V;have hx:x.length<=s.size:=by rw[<-af];exact nR _ x (FY i)
  have c:=BX ⟨x.toArray⟩ W (by unfold maxLen;show x.toArray.size<=_;simp;omega)
  obtain⟨I,z,_⟩:=j.one
  rcases t:Pt.named x with _|_
  ·have G:Calls prog 76 #[Pt.str x] W λe w'=>e= .returned (.bool false)/\w'=W:=c.mono λe w' ⟨N,M⟩=>⟨by rw[N];exact aU t,M⟩
   have H:=aL (Uz i t)
   gi_wp2_with (refine⟨trivial,?_⟩;gi_at_call 76;refine(CallsIn.inRound l (callsIn_wide.2 G)).mono ?_;rintro e w' ⟨rfl,rfl⟩)
   exact⟨(KeepsOthers.setCell _ _ _).from _,rfl,j.bY 0 (.bool false),m.setCell (p:=w.heap.size) aR _,H⟩
  have G:Calls prog 76 #[Pt.str x] W λe w'=>e= .returned (.bool true)/\w'=W:=c.mono λe w' ⟨N,M⟩=>⟨by rw[N];exact aU t,M⟩
  have H:=aL t
  gi_wp2_with (refine⟨trivial,?_⟩;gi_at_call 76;refine(CallsIn.inRound l (callsIn_wide.2 G)).mono ?_;rintro e w' ⟨rfl,rfl⟩)
  exact⟨KeepsFrom.refl _ _,jO.refl _ _,j,m,aL (by rw[Db,y.out];simp[H.out])⟩
 case done=>
  rintro D W S ⟨j,m,y⟩ q;obtain⟨I,z,_⟩:=j.one
  gi_wp2
  have A:=(mh W ⟨w.heap.size,0,none⟩ (.bool true) D (by simp;omega)).trans q
  refine⟨by simp,.inl ⟨_,_,rfl,run_takeDeferred A,?_⟩⟩
  have L:=cell_kept (((j.bY 0 (.bool true)).one).1) (grownBy_putObj' _ D (.deferred none)) (λr e=>by cases e;exact⟨_,A,rfl⟩)
  refine⟨.bool true,by simp[results,results39,go_sem,L],aU (by rw[B.out,y.out]),?_⟩
  exact(m.setCell (p:=w.heap.size) aR _).grown (grownBy_putObj' _ D _) (by simpa using m.size) (λk e=>by cases e;omega)
 case stop=>
  rintro D c a W S ⟨rfl,j,m,y⟩ q;obtain⟨I,z,_⟩:=j.one
  gi_wp2
  refine⟨by simp,.inl ⟨_,_,rfl,run_takeDeferred q,?_⟩⟩
  have L:=cell_kept I (grownBy_putObj' _ D (.deferred none)) (λr e=>by cases e;exact⟨_,q,rfl⟩)
  refine⟨.bool false,by simp[results,results39,go_sem,L],aU (by rw[B.out,y.out]),?_⟩
  exact m.grown (grownBy_putObj' _ D _) m.size (λk e=>by cases e;omega)
theorem iD(s:ByteArray)(w:World)(hs:s.size<4294967281):Calls prog 42 #[s] w λe w'=>e= .returned (.bool (Pt.clean s))/\Below w w w':=by
 have F:=dA s;rw[af]at F;have u:=kK s w hs;have G:=aL (nR s);have t:=aL (show Pt.clean s.data.toList=(decide (s.size<=80)&&(Pt.split s).all Pt.named)by unfold Pt.clean;rw[af])
 generalize Pt.split s.data.toList=j at u F G t;go_enter func42,ntmps42;go_wp2_with fail;refine u.mono ?_
 rintro e O ⟨D,N,rfl,o,K,y,z⟩;have E:=aL o;go_wp2
 go_loopw [8] (λi wr=>∃k:Nat,k<=j.length/\i= .int .i64 k/\Hid (ng wr D j)/\D<wr/\Below w w wr/\Hid ((j.take k).all Pt.named=true)) (λi _=>j.length- (intOf i).toNat)
 case atStart=>exact⟨0,bL _,rfl,E,y,z,aL rfl⟩
 case round=>
  obtain⟨k,Q,rfl,m,n,a,B⟩:=hrel
  by_cases g:k<j.length
  ·have M:=m.out k g
   have L:j[k].length<=s.size:=by rw[<-af];exact G.out _ (cz g)
   have A:=aL (cz g);have H:=aL (aF g);generalize j[k]=p at M L A H;have c:=ug ⟨p.toArray⟩ wr (by unfold maxLen;show p.toArray.size<=_;simp;omega)
   rcases l:Pt.named p with _|_
   ·have q:Calls prog 83 #[Pt.str p] wr λe w'=>e= .returned (.bool false)/\Below wr wr w':=c.mono λe w' ⟨x,v⟩=>⟨by rw[x];exact aU l,v⟩
    have r:=aL l
    go_wp2_with (go_at_call 83;refine q.mono ?_;rintro e I ⟨rfl,b⟩)
    go_ret;refine⟨aU ?_,a.trans (b.mono a.size)⟩
    rw[t.out,show j.all Pt.named=false by rw[EB];exact⟨p,A.out,by simp[r.out]⟩,Cv]
   have q:Calls prog 83 #[Pt.str p] wr λe w'=>e= .returned (.bool true)/\Below wr wr w':=c.mono λe w' ⟨x,v⟩=>⟨by rw[x];exact aU l,v⟩
   have r:=aL l
   go_wp2_with (go_at_call 83;refine q.mono ?_;rintro e I ⟨rfl,b⟩)
   go_roundw
   case rel=>exact⟨k+1,by omega,by go_num,aL (m.out.below b n),bE n b.size,a.trans (b.mono a.size),aL (by rw[H.out,Db,B.out];simp[r.out])⟩
   case measure=>simp[intOf];omega
  obtain rfl:k=j.length:=by omega
  go_wp2;go_ret;refine⟨aU ?_,a⟩
  have h:=B.out;rw[gN]at h;rw[t.out,h,Bool.and_true];exact decide_eq_decide.2 (by omega)
theorem aj(a b:ByteArray):(a.toList==b.toList)=(a.data.toList==b.data.toList):=by rw[kg,kg]
theorem aG(a:ByteArray):(a.data.toList=[]/\a.toList=[]/\a.toList.isEmpty=true)\/(¬a.data.toList=[]/\¬a.toList=[]/\a.toList.isEmpty=false):=by
 by_cases h:a.data.toList=[]
 ·exact .inl ⟨h,empty_of h,gU h⟩
 exact .inr ⟨h,fB h,fC h⟩
theorem ny(s:ByteArray):(Pt.ah s).length<=s.size/\(Pt.nameOf s).length<=s.size:=by
 rcases wV s with⟨_,a⟩|⟨i,c,_,b,a⟩
 ·rw[(D7 a).1,(D7 a).2,af];simp
 have h:=JL (by simpa using c) b a
 rw[h.1,h.2,bR,gM,af];omega
attribute [local go_sem] Oper.semAt_some
theorem OV{b n₀ base:Nat}{e:TypeId}{size k:Nat}{v:Value}{xs:List Value}{W W':World}(h:W.ownsRow base e size v k xs)(hag:Agree b n₀ W W')(hb:b<base):W'.ownsRow base e size v k xs:=by
 obtain⟨c,q,m⟩:=hag;refine h.kept q ?_
 rcases h.2 with⟨rfl,_⟩|⟨g,n,j,rfl,l,a,_⟩
 ·exact .inl rfl
 refine .inr λp=> ?_
 have t:c=some g:=by simpa[Value.ownBlock]using p.symm
 rcases m g t with u|⟨_,o,i,r⟩
 ·omega
 rw[a]at i;cases i;cases r
theorem zy{s:ByteArray}(h:80<s.size):Pt.parse s.data.toList=([],4):=by
 unfold Pt.parse;rw[af,aM h]
theorem Dk{s:ByteArray}(h:s.size<=80)(h0:¬s.data.toList=[])(hf:((Pt.split s).filter Pt.counts).all Pt.fine=false):Pt.parse s.data.toList=([],7):=by
 unfold Pt.parse;rw[af,av (by omega),av h0,hf];rfl
theorem zA{s:ByteArray}(h:s.size<=80)(h0:¬s.data.toList=[])(hf:((Pt.split s).filter Pt.counts).all Pt.fine=true):Pt.parse s.data.toList=((Pt.split s).filter Pt.counts,0):=by
 unfold Pt.parse;rw[af,av (by omega),av h0,hf];rfl
def jI(w:World)(s:ByteArray)(e:Ending)(w':World):Prop:=
 ∃v,e= .returned (.tuple #[v,.int .i64 (Pt.parse s).2])/\aT w' w v (Pt.parse s).1/\Below w w w'
theorem jI.none{w w':World}{s:ByteArray}{k:Int}(h:Pt.parse s.data.toList=([],k))(hb:Below w w w'):jI w s (.returned (.tuple #[(),k])) w':=by
 refine⟨_,by rw[h],?_,hb⟩
 rw[h];exact jN _ _ _ _
def PI(w:World)(n₀:Nat)(pre:List Pt.Bs)(W:World):Prop:=
 ∃v,ai W w 41 [()]/\ai W (w.heap.size+1) 37 [(0:Int)]/\ai W (w.heap.size+1+1) 41 [v]/\aT W n₀ v (pre.filter Pt.counts)/\Below w w W/\Hid ((pre.filter Pt.counts).all Pt.fine=true)
def PX(w:World)(s:ByteArray)(c:Code)(_:List Pt.Bs)(W:World):Prop:=
 c= .ret/\ai W w 41 [()]/\ai W (w.heap.size+1) 37 [(7:Int)]/\Below w w W/\Hid (((Pt.split s).filter Pt.counts).all Pt.fine=false)
theorem oP:Pt.counts []=false:=rfl
theorem oQ:Pt.counts [46]=false:=rfl
theorem xh{x:Pt.Bs}(h1:¬x=[])(h2:¬x=[46]):Pt.counts x=true:=by
 unfold Pt.counts
 cases x with
 |nil=>exact absurd rfl h1
 |cons c r=>simp only[List.isEmpty_cons,rz,q9,fq];exact h2
theorem rD{x:Pt.Bs}(h:¬x=[46,46]):Pt.fine x=Pt.named x:=by
 unfold Pt.fine;rw[beq_eq_false_iff_ne.2 h];rfl
theorem qj{pre:List Pt.Bs}{x:Pt.Bs}(h:Pt.counts x=true):(pre++[x]).filter Pt.counts=pre.filter Pt.counts++[x]:=by
 rw[j3];simp[h]
theorem kX{pre:List Pt.Bs}{x:Pt.Bs}(h:Pt.counts x=false):(pre++[x]).filter Pt.counts=pre.filter Pt.counts:=by
 rw[j3];simp[h]
theorem J9{xs pre:List Pt.Bs}{x:Pt.Bs}(h:pre++[x]<+:xs)(h1:Pt.counts x=true)(h2:Pt.fine x=false):(xs.filter Pt.counts).all Pt.fine=false:=by
 rw[EB];exact⟨x,List.mem_filter.2 ⟨h.subset (by simp),h1⟩,by simp[h2]⟩
theorem OW{W:World}{base:Nat}{e:TypeId}{size k:Nat}{v:Value}{xs:List Value}(h:W.ownsRow base e size v k xs){j:Nat}{o:Obj}(hj:v.ownBlock=some j)(ho:W.heap[j]? =some o):o.isCells=true:=by
 rcases h.2 with⟨rfl,_⟩|⟨g,c,b,rfl,_,a,_⟩
 ·simp[Value.ownBlock]at hj
 have i:g=j:=by simpa[Value.ownBlock]using hj
 subst i;rw[a]at ho;cases ho;rfl
theorem Ru{v:Value}{j:Nat}(hj:some j≠v.ownBlock):v.ownBlock=none\/v.ownBlock≠some j:=by
 right;exact λe=>hj e.symm
theorem Nl{w W w2:World}{n₀ g cap:Nat}{v x':Value}{pre:List Pt.Bs}{x:Pt.Bs}{o:Obj}(hn:w.heap.size+1+1+1+3<=n₀)(hsz:n₀<=W.heap.size)(hR:ai W w 41 [()])(hE:ai W (w.heap.size+1) 37 [(0:Int)])(hO:ai W (w.heap.size+1+1) 41 [v])(hS:aT W n₀ v (pre.filter Pt.counts))(hB:Below w w W)(HA:Hid ((pre.filter Pt.counts).all Pt.fine=true))(hc:Pt.counts x=true)(hf:Pt.fine x=true)(hx:x'=Pt.str x)(hgrow:(W.alloc o).grownBy w2 v.ownBlock)(hown:w2.ownsRow n₀ 9 1 (.slice g ((pre.filter Pt.counts).length+1) cap) ((pre.filter Pt.counts).length+1) ((pre.filter Pt.counts).map Pt.str++[x'])):KeepsFrom n₀ W (w2.setCell ⟨w.heap.size+1+1,0,none⟩ (.slice g ((pre.filter Pt.counts).length+1) cap))/\jO (w.heap.size+1+1+1) W (w2.setCell ⟨w.heap.size+1+1,0,none⟩ (.slice g ((pre.filter Pt.counts).length+1) cap))
   /\PI w n₀ (pre++[x]) (w2.setCell ⟨w.heap.size+1+1,0,none⟩ (.slice g ((pre.filter Pt.counts).length+1) cap)):=by
 have a:∀k,k<n₀->some k≠v.ownBlock:=λk q=>own_ne hS (.inl q)
 have b:w2.ownsRow n₀ 9 1 (.slice g ((pre.filter Pt.counts).length+1) cap) ((pre.filter Pt.counts).length+1) ((pre.filter Pt.counts).map Pt.str++[x']):=hown;have r:n₀<=g:=pV b rfl;refine⟨?_,?_,?_⟩
 ·refine KeepsFrom.trans (KeepsFrom.trans ((KeepsOthers.alloc W o).from n₀) ((KeepsOthers.of_grownBy hgrow λj A t h=>OW (hS.alloc o) t h).from n₀)) ((KeepsOthers.setCell _ _ _).from n₀)
 ·intro k z u
  rw[mh _ _ _ k (by simp;omega),hgrow.block k (by simp;omega) (a k (by omega))]
  exact Bt W o k (by omega)
 have m:=(hO.alloc o).grown hgrow (a _ (by omega))
 have i:=(hR.alloc o).grown hgrow (a _ (by omega))
 have c:=(hE.alloc o).grown hgrow (a _ (by omega))
 refine⟨_,i.far (by show w.heap.size≠w.heap.size+1+1;omega) _,c.far (by show w.heap.size+1≠w.heap.size+1+1;omega) _,m.bY 0 _,?_,?_,aL (by rw[qj hc,Db,HA.out];simp[hf])⟩
 ·refine aT.snoc (y:=x) (l:=pre.filter Pt.counts) (n:=(pre.filter Pt.counts).length) (xs:=(pre.filter Pt.counts).map Pt.str) (x:=x') ?_ (qj hc) hx
  exact World.ownsRow.kept b (grownBy_setCell' _ _ _) (.inr (by simp[Value.ownBlock];omega))
 exact((hB.alloc hB.size o).grown hgrow (by simp;have:=hB.size;omega) (λk e=>by
  have:=pV hS e;omega)).setCell (p:=(w.heap.size+1+1:Nat)) (by simp;omega) _
theorem parse_any(s:ByteArray)(w:World)(hs:s.size<=140737488355328):Calls prog 131 #[s] w (jI w s):=by
 rcases iB 80 s.size with q|q
 ·have HE:=aL (zy q)
  go_enter func131,ntmps131
  go_wp2
  exact aD (v:= .tuple #[(),(4:Int)]) (by simp[results,results131,go_sem]) rfl (jI.none HE.out (((aa _ w).alloc aR _).alloc (by simp) _))
 by_cases M:s.data.toList=[]
 ·have HE:=aL (show Pt.parse s.data.toList=([],6)by rw[M];rfl)
  have g1:=empty_of M;have g2:=gU M;clear M;go_enter func131,ntmps131
  go_wp2
  exact aD (v:= .tuple #[(),(6:Int)]) (by simp[results,results131,go_sem]) rfl (jI.none HE.out (((aa _ w).alloc aR _).alloc (by simp) _))
 have HB:=aL (λh=>Dk q M h)
 have HG:=aL (λh=>zA q M h)
 have g1:=fB M;have g2:=fC M;have h3:1<=3-1-1:=by decide
 obtain⟨i0,hi,hz0,hz1,hz2⟩:=lw jB;refine(Bw (n:=3)).1 ?_
 refine callsIn_of_wp_marks func131 rfl trivial ?_ rfl
 simp only[ntmps131,Ev,gL,sw,Nat.reduceAdd,Nat.reduceSub,Array.replicate_succ,Array.replicate_zero,List.push_toArray,List.append_toArray,vv,tL]
 gi_wp2_with (refine⟨trivial,?_⟩;gi_at_call 75;refine(callsIn_wide.2 (MH _ _)).mono ?_;rintro e S ⟨rfl,O,hz,L⟩)
 have Y:Below w.heap.size w S:=((((aa _ w).alloc aR _).alloc (by simp) _).alloc (by simp;omega) _).trans (L.mono (by simp;omega))
 have hR1:ai S w.heap.size 41 [()]:=(((ai.new w 41 [()]).alloc _).alloc _).below L (by simp;omega)
 have hE1:ai S (w.heap.size+1) 37 [(0:Int)]:=by
  have h:=((ai.new (w.alloc (.cells #[()] 41)) 37 [(0:Int)]).alloc (.cells #[()] 41)).below L (by simp)
  rwa [bX]at h
 have hO1:ai S (w.heap.size+1+1) 41 [()]:=by
  have h:=(ai.new ((w.alloc (.cells #[()] 41)).alloc (.cells #[(0:Int)] 37)) 41 [()]).below L (by simp)
  rwa [bX,bX]at h
 rw[bX,bX,bX]at O hz;clear L;refine Cc (F:=Fence.wide) (n:=3) rfl (by decide) (b:=w.heap.size+1+1+1) (s:=s) (xs:=Pt.split s) rfl trivial (enters_of func142 (by kernel_rfl) rfl) (Ce 2 _ s (by decide) hs) (by omega) O rfl
  (PI w S.heap.size) (PX w s)
  (λy W W' ⟨v,a1,a2,a3,a4,a5,a6⟩ k=>⟨v,a1.agree k (by omega),a2.agree k (by omega),a3.agree k (by omega),OV a4 k (by omega),ni a5 k (by omega),a6⟩)
  (λc y W W' ⟨a1,a2,a3,a5,a6⟩ k=>⟨a1,a2.agree k (by omega),a3.agree k (by omega),ni a5 k (by omega),a6⟩)
  ⟨_,hR1,hE1,hO1,jN _ _ _ _,Y,aL rfl⟩
  (λx=>{tmps:=#[.string s,undef,.pointer w.heap.size,.pointer (w.heap.size+1:Nat),.pointer (w.heap.size+1+1:Nat),.string ⟨x.toArray⟩,.string s,.int .i64 s.size,.bool (decide (80<(s.size:Int))),.string s,.bool false,.string s,
   .func (.func 142) #[] #[.pointer (w.heap.size+1+1+1+1:Nat),.pointer (w.heap.size+1+1+1:Nat),.pointer (w.heap.size+1+1+1+2:Nat)],.string ⟨x.toArray⟩,
   undef,undef,undef,undef,undef,undef,undef,undef,undef,undef,undef,undef,undef,undef,undef,undef,undef,undef,undef],defers:=[]}) ?assign ?body ?done ?stop
 case assign=>
  intro l x W K hK
  gi_wp2
  exact hK
 case body=>
  rintro l y x W ⟨v,H,z,N,I,E,U⟩ G hsz;have hx:x.length<=s.size:=by rw[<-af];exact nR _ x (FY G)
  clear hR1 hE1 hO1 Y O g1 g2 M;obtain⟨r0,r0f,_⟩:=H.one;obtain⟨e0,e0f,_⟩:=z.one;obtain⟨o0,o0f,_⟩:=N.one;obtain⟨o,m⟩:∃o:ByteArray,o=⟨x.toArray⟩:=⟨_,rfl⟩;have a:o.toList=x:=by rw[m,kg]
  have c:=BX o W (by unfold maxLen;rw[m];show x.toArray.size<=_;simp;omega)
  rw[show o.data.toList=x by rw[m]]at c
  dsimp only;rw[<-m]
  by_cases x1:x=[]
  ·subst x1
   have f1:=a;have f2:o.toList.isEmpty=true:=by rw[a];rfl
   clear a m c
   gi_wp2
   exact⟨KeepsFrom.refl _ _,jO.refl _ _,v,H,z,N,by rw[kX oP];exact I,E,aL (by rw[kX oP];exact U.out)⟩
  by_cases x2:x=[46]
  ·subst x2
   have f1:=a;clear a m c x1
   gi_wp2
   exact⟨KeepsFrom.refl _ _,jO.refl _ _,v,H,z,N,by rw[kX oQ];exact I,E,aL (by rw[kX oQ];exact U.out)⟩
  have hcx:=xh x1 x2;have f1:¬o.toList=[]:=by rw[a];exact x1
  have f2:o.toList.isEmpty=false:=by rw[a];cases x with
   |nil=>exact absurd rfl x1
   |cons _ _=>rfl
  have f3:(o.toList==[46])=false:=by rw[a];exact beq_eq_false_iff_ne.2 x2
  have hnum:(y.filter Pt.counts).length<=81:=by
   have h1:=G.length_le;have h2:=dA s;rw[af]at h2;have h4:=ko Pt.counts y;simp at h1;omega
  have hst:Value.string o=Pt.str x:=by rw[m];rfl
  have HST:=aL hst;have Z:=aL hcx;clear hst hcx m x1 x2;have t:∀k,k<S.heap.size->some k≠v.ownBlock:=λk hk=>own_ne I (.inl hk)
  have Qb:=aL t;clear t
  by_cases hf:Pt.fine x=true
  ·have HF:=aL hf
   clear hf
   by_cases V:x=[46,46]
   ·subst V
    have f4:=a;clear a c f1 f2 f3
    gi_wp2
    refine⟨trivial,?_⟩
    gi_wp2_with (gi_at_builtin;go_must (refine wpListIn_append_own _ rfl _ _ 41 rfl S.heap.size 9 i0 _ 1 16 underlying41 hi hz0 hz1 hz2 rfl (by decide) _ _ _ rfl (I.alloc _) ⟨W.heap.size,0,none⟩ 1 1 [o] rfl rfl (cell_one_new _ _ _) (by simp[Value.oneCell']) (by unfold maxLen;omega) (by omega) (by simp;omega) ?_);intro v' w2 j i _;obtain⟨g',cap',rfl⟩:=ownsRow_succ j;have u:=(N.alloc _).grown i (Qb.out _ (by omega));have o2:=(u.one).1;have o2f:=(u.one).2.1)
    exact Nl (by omega) hsz H z N I E U Z.out HF.out HST.out i j
   have hn:Pt.named x=true:=by rw[<-rD V];exact HF.out
   rw[hn]at c;replace c:Calls prog 76 #[o] W λe w'=>e= .returned (.bool true)/\W=w':=c.mono λe w' ⟨he,hw⟩=>⟨he,hw.symm⟩
   have f4:(o.toList==[46,46])=false:=by rw[a];exact beq_eq_false_iff_ne.2 V
   clear a V hn
   gi_wp2_with (first
    |(refine⟨trivial,?_⟩;gi_at_call 76;refine(CallsIn.inRound l (callsIn_wide.2 c)).mono ?_;rintro e w' ⟨rfl,rfl⟩)
    |(gi_at_builtin;go_must (refine wpListIn_append_own _ rfl _ _ 41 rfl S.heap.size 9 i0 _ 1 16 underlying41 hi hz0 hz1 hz2 rfl (by decide) _ _ _ rfl (I.alloc _) ⟨W.heap.size,0,none⟩ 1 1 [o] rfl rfl (cell_one_new _ _ _) (by simp[Value.oneCell']) (by unfold maxLen;omega) (by omega) (by simp;omega) ?_);intro v' w2 j i _;obtain⟨g',cap',rfl⟩:=ownsRow_succ j;have u:=(N.alloc _).grown i (Qb.out _ (by omega));have o2:=(u.one).1;have o2f:=(u.one).2.1))
   exact Nl (by omega) hsz H z N I E U Z.out HF.out HST.out i j
  have B:Pt.fine x=false:=by simpa using hf
  have V:¬x=[46,46]:=λe=>by rw[e]at B;cases B
  have hn:Pt.named x=false:=by rw[<-rD V];exact B
  rw[hn]at c;replace c:Calls prog 76 #[o] W λe w'=>e= .returned (.bool false)/\W=w':=c.mono λe w' ⟨he,hw⟩=>⟨he,hw.symm⟩
  have HF:=aL (J9 G Z.out B);have f4:(o.toList==[46,46])=false:=by rw[a];exact beq_eq_false_iff_ne.2 V
  clear a V hn B hf
  gi_wp2_with (refine⟨trivial,?_⟩;gi_at_call 76;refine(CallsIn.inRound l (callsIn_wide.2 c)).mono ?_;rintro e w' ⟨rfl,rfl⟩)
  exact⟨((KeepsOthers.setCell _ _ _).trans (KeepsOthers.setCell _ _ _)).from _,rfl,(H.bY 0 (.slice none 0 0)).far (by simp) _,(z.far (by simp) _).bY 0 _,(E.setCell (p:=w.heap.size) aR _).setCell (p:=(w.heap.size+1:Nat)) (by simp) _,HF⟩
 case done=>
  rintro D W hD ⟨v,H,z,N,I,E,U⟩ hK;clear hR1 hE1 hO1 Y O g1 g2 M;obtain⟨r0,r0f,_⟩:=H.one;obtain⟨e0,e0f,_⟩:=z.one;obtain⟨o0,o0f,_⟩:=N.one;have HS:=aL I;obtain⟨A,n,c,rfl⟩:∃A n c,v= .slice A n c:=by
   rcases aB I with⟨rfl,_⟩|⟨g,c,rfl,_⟩
   ·exact⟨_,_,_,rfl⟩
   exact⟨_,_,_,rfl⟩
  clear I
  gi_wp2
  have Q:((W.setCell ⟨w.heap.size,0,none⟩ (.slice A n c)).setCell ⟨w.heap.size+1,0,none⟩ (.int .i64 0)).heap[D]? =some (.deferred (some [])):=
   (mh _ ⟨w.heap.size+1,0,none⟩ _ D (by simp;omega)).trans ((mh _ ⟨w.heap.size,0,none⟩ _ D (by simp;omega)).trans hK)
  have R2:=((H.bY 0 (.slice A n c)).far (p:=(w.heap.size+1:Nat)) (by simp) (.int .i64 0))
  have E2:=((z.far (p:=w.heap.size) (by simp) (.slice A n c)).bY 0 (.int .i64 0))
  refine⟨by simp,.inl ⟨_,_,rfl,run_takeDeferred Q,?_⟩⟩
  have hc:=cell_kept (R2.one).1 (grownBy_putObj' _ D (.deferred none)) (λr e=>by cases e;exact⟨_,Q,rfl⟩)
  have hc2:=cell_kept (E2.one).1 (grownBy_putObj' _ D (.deferred none)) (λr e=>by cases e;exact⟨_,Q,rfl⟩)
  refine⟨.tuple #[.slice A n c,(0:Int)],by simp[results,results131,go_sem,hc,hc2],?_⟩
  have hP:=HG.out U.out;refine⟨_,by rw[hP],?_,((E.setCell (p:=w.heap.size) aR _).setCell (p:=(w.heap.size+1:Nat)) (by simp) _).grown (grownBy_putObj' _ D _) (by simpa using E.size) (λk e=>by cases e;omega)⟩
  rw[hP];have t:∀k,k<S.heap.size->some k≠(Value.slice A n c).ownBlock:=λk hk=>own_ne HS.out (.inl hk)
  have S1:=(HS.out.kept (grownBy_setCell' _ _ (.slice A n c)) (Ru (t w.heap.size (by omega)))).kept (grownBy_setCell' _ _ (.int .i64 0)) (Ru (t (w.heap.size+1) (by omega)))
  exact own_base (ownsRow_putObj S1 _ Q rfl) (by omega)
 case stop=>
  rintro D c y W hD ⟨rfl,H,z,E,U⟩ hK;obtain⟨r0,r0f,_⟩:=H.one;obtain⟨e0,e0f,_⟩:=z.one
  gi_wp2
  refine⟨by simp,.inl ⟨_,_,rfl,run_takeDeferred hK,?_⟩⟩
  have hc:=cell_kept r0 (grownBy_putObj' _ D (.deferred none)) (λr e=>by cases e;exact⟨_,hK,rfl⟩)
  have hc2:=cell_kept e0 (grownBy_putObj' _ D (.deferred none)) (λr e=>by cases e;exact⟨_,hK,rfl⟩)
  refine⟨.tuple #[(),(7:Int)],by simp[results,results131,go_sem,hc,hc2],jI.none (HB.out U.out) ?_⟩
  exact E.grown (grownBy_putObj' _ D _) E.size (λk e=>by cases e;omega)
theorem Rx(d s:ByteArray)(w:World)(hs:s.size<=140737488355328)(hd:d.size<=140737488355328):Calls prog 163 #[d,s] w λe w'=>e= .returned (Pt.str (Pt.join d s))/\w'=w:=by
 by_cases a:d.data.toList=[]
 focus
  have E:Pt.join d s.data.toList=s.data.toList:=by unfold Pt.join;rw[aM a]
  have b:=aL E;have g:=empty_of a;have c:=gU a
 rotate_left
 focus
  have E:Pt.join d s.data.toList=(d++⟨#[47]⟩++s).data.toList:=by
   unfold Pt.join;rw[av a,gQ,gQ];simp
  have b:=aL E;have g:=fB a;have c:=fC a
 all_goals
  go_enter func163,ntmps163
  go_wp2
  go_ret;exact⟨ui (by rw[b.out];rfl),rfl⟩
theorem vY{xs:List Pt.Bs}{k:Nat}(hk:k<xs.length)(h:Pt.counts xs[k]=true):(xs.take (k+1)).filter Pt.counts=(xs.take k).filter Pt.counts++[xs[k]]:=by
 rw[aF hk];exact qj h
theorem vZ{xs:List Pt.Bs}{k:Nat}(hk:k<xs.length)(h:Pt.counts xs[k]=false):(xs.take (k+1)).filter Pt.counts=(xs.take k).filter Pt.counts:=by
 rw[aF hk];exact kX h
theorem uJ(s:ByteArray)(w:World)(hs:s.size<4294967281):Calls prog 129 #[s] w (jI w s):=by
 rcases iB 80 s.size with l|l
 ·have HE:=aL (zy l)
  go_enter func129,ntmps129
  go_wp2
  go_ret2;exact jI.none HE.out (aa _ w)
 by_cases H:s.data.toList=[]
 ·have HE:=aL (show Pt.parse s.data.toList=([],6)by rw[H];rfl)
  have hz:((s.size:Int)==0)=true:=by rw[<-af,H];rfl
  clear H;go_enter func129,ntmps129
  go_wp2
  go_ret2;exact jI.none HE.out (aa _ w)
 have HB:=aL (λh=>Dk l H h)
 have HG:=aL (λh=>zA l H h)
 have hz:((s.size:Int)==0)=false:=by
  rw[fq,<-af]
  cases h:s.data.toList with
  |nil=>exact absurd h H
  |cons _ _=>simp;omega
 have l1:=dA s;rw[af]at l1;have c1:=kK s w hs;have HP:=aL (nR s);obtain⟨i0,hi,L,O,U⟩:=lw jB;clear H;generalize Pt.split s.data.toList=o at c1 l1 HP HB HG;go_enter func129,ntmps129;go_wp2_with fail;refine c1.mono ?_
 rintro e F ⟨g1,k1,rfl,S,hg1,hl1,B⟩;clear c1;have HX:=aL S;clear S;go_wp2
 go_loopw [4,16] (λv i wr=>∃k:Nat,k<=o.length/\i= .int .i64 k/\Hid (ng wr g1 o)/\g1<F/\F.heap.size<=wr.heap.size/\aT wr F v ((o.take k).filter Pt.counts)/\Below w w wr/\Hid (((o.take k).filter Pt.counts).all Pt.fine=true)) (λ_ i _=>o.length- (intOf i).toNat)
 case atStart=>exact⟨0,bL _,rfl,HX,hl1,aR,jN _ _ _ _,B,aL rfl⟩
 case round=>
  obtain⟨k,hk,rfl,r,n,b,E,I,Q⟩:=hrel;clear HX
  by_cases p:k<o.length
  ·have hnum:((o.take k).filter Pt.counts).length<=81:=by
    have h4:=ko Pt.counts (o.take k);rw[bR]at h4;omega
   have a1:=r.out k p;have hx:o[k].length<=s.size:=by rw[<-af];exact HP.out _ (cz p)
   have HM:=aL (cz p);have HN:=aL (vY p);have K:=aL (vZ p);generalize o[k]=x at a1 hx HM HN K;have a1':wr.cell? ⟨g1,k,none⟩=some (.string ⟨x.toArray⟩):=a1;clear a1;obtain⟨m,g⟩:∃m:ByteArray,m=⟨x.toArray⟩:=⟨_,rfl⟩;rw[<-g]at a1';have a:m.toList=x:=by rw[g,kg]
   have c:=ug m wr (by unfold maxLen;rw[g];show x.toArray.size<=_;simp;omega)
   rw[show m.data.toList=x by rw[g]]at c
   by_cases W:x=[]
   ·subst W
    have f2:m.toList.isEmpty=true:=by rw[a];rfl
    clear g c;go_wp2;go_roundw
    case rel=>exact⟨k+1,by omega,by go_num,r,n,b,by rw[K.out oP];exact E,I,aL (by rw[K.out oP];exact Q.out)⟩
    case measure=>simp[intOf];omega
   by_cases x2:x=[46]
   ·subst x2
    clear g c W;go_wp2;go_roundw
    case rel=>exact⟨k+1,by omega,by go_num,r,n,b,by rw[K.out oQ];exact E,I,aL (by rw[K.out oQ];exact Q.out)⟩
    case measure=>simp[intOf];omega
   have G:=xh W x2;have f2:m.toList.isEmpty=false:=by rw[a];cases x with
    |nil=>exact absurd rfl W
    |cons _ _=>rfl
   have f3:(m.toList==[46])=false:=by rw[a];exact beq_eq_false_iff_ne.2 x2
   have N:Value.string m=Pt.str x:=by rw[g];rfl
   have Y:=aL N;have z:=aL (HN.out G);have HCX:=aL G;clear N G g W x2 HN K
   by_cases Z:Pt.fine x=true
   ·have M:=aL Z
    clear Z
    by_cases A:x=[46,46]
    ·have f4:(m.toList==[46,46])=true:=by rw[a,A];rfl
     clear a c A
     go_wp2_with (at_builtin;go_must (refine ax wr rfl _ _ _ rfl F 9 i0 _ 1 16 underlying41 hi L O U rfl (by decide) u4 _ _ rfl E [m] rfl rfl (by simp[Value.oneCell']) (by omega) (by decide) b _ rfl ?_);intro v1 w3 t g3 at1)
     go_roundw
     case rel=>
      have j:Below F wr w3:=(aa _ wr).grown g3 b (λq e=>pV E e)
      exact⟨k+1,by omega,by go_num,aL (r.out.below j n),n,eT b j.size,aT.snoc t z.out Y.out,I.trans (j.mono B.size),aL (by rw[z.out,Db,Q.out];simp[M.out])⟩
     case measure=>simp[intOf];omega
    have V:Pt.named x=true:=by rw[<-rD A];exact M.out
    rw[V]at c;have f4:(m.toList==[46,46])=false:=by rw[a];exact beq_eq_false_iff_ne.2 A
    clear a A V
    go_wp2_with (first
     |(go_at_call 83;refine c.mono ?_;rintro e w2 ⟨rfl,u⟩;have hS2:=own_below E u aR;have D:=eT b u.size)
     |(at_builtin;go_must (refine ax w2 rfl _ _ _ rfl F 9 i0 _ 1 16 underlying41 hi L O U rfl (by decide) u4 _ _ rfl hS2 [m] rfl rfl (by simp[Value.oneCell']) (by omega) (by decide) D _ rfl ?_);intro v1 w3 t g3 at1))
    go_roundw
    case rel=>
     have j:Below F wr w3:=(u.mono b).grown g3 D (λq e=>pV E e)
     exact⟨k+1,by omega,by go_num,aL (r.out.below j n),n,eT b j.size,aT.snoc t z.out Y.out,I.trans (j.mono B.size),aL (by rw[z.out,Db,Q.out];simp[M.out])⟩
    case measure=>simp[intOf];omega
   have y:Pt.fine x=false:=by simpa using Z
   have A:¬x=[46,46]:=λe=>by rw[e]at y;cases y
   have V:Pt.named x=false:=by rw[<-rD A];exact y
   rw[V]at c;have M:=aL (show(o.filter Pt.counts).all Pt.fine=false by rw[EB];exact⟨x,List.mem_filter.2 ⟨HM.out,HCX.out⟩,by simp[y]⟩)
   have f4:(m.toList==[46,46])=false:=by rw[a];exact beq_eq_false_iff_ne.2 A
   clear a A V y Z
   go_wp2_with (go_at_call 83;refine c.mono ?_;rintro e w2 ⟨rfl,u⟩)
   go_ret2;exact jI.none (HB.out M.out) (I.trans (u.mono I.size))
  obtain rfl:k=o.length:=by omega
  have hP:=aL (HG.out (by have:=Q.out;rw[gN]at this;exact this))
  go_wp2;go_ret2;refine⟨u4,by rw[hP.out];rfl,?_,I⟩
  rw[hP.out];rw[gN]at E;exact own_base E B.size
end Go.Proofs.YtjppfhgkanbemabGreatDoor
