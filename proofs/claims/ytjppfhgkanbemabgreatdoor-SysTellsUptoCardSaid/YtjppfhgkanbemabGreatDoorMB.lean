/- A part of the proof of SysTells: MB. -/
import Derived.Lib.SplitLaws
import Derived.Lib.Bytealg
import Derived.Lib.Strings
import Derived.Lib.LastIndexByte
set_option maxHeartbeats 3000000
set_option maxRecDepth 100000
set_option linter.all false
namespace Go.Proofs.YtjppfhgkanbemabGreatDoor
def av:=@if_neg
def aD:=@Go.bodyPost_ret
def aF:=@List.take_succ_eq_append_getElem
def aM:=@if_pos
def bi:=@List.getD_eq_getElem?_getD
def bq:=@List.length_append
def bA:=@List.getElem?_eq_getElem
def bE:=@Nat.lt_of_lt_of_le
def bL:=@Nat.zero_le
def bN:=@decide_eq_false
def bR:=@List.length_take
def bX:=@Go.World.size_alloc
def cz:=@List.getElem_mem
def dx:=@Go.World.cell?_alloc_lt
def eD:=@List.mem_singleton
def eT:=@Nat.le_trans
def eZ:=@List.length_eq_zero_iff
def fq:=@beq_eq_false_iff_ne
def fw:=@decide_eq_true
def fI:=@List.take_of_length_le
def gD:=@Int.natCast_nonneg
def gF:=@List.mem_append
def gH:=@Go.World.ownsRow.lt
def gL:=@List.length_cons
def gM:=@List.length_drop
def gN:=@List.take_length
def gP:=@List.length_modify
def ib:=@List.length_map
def il:=@List.mem_filter
def iA:=@of_decide_eq_true
def iB:=@Nat.lt_or_ge
def iN:=@Nat.le_succ
def iX:=@List.mem_cons
def jN:=@Go.World.ownsRow_nil
def j3:=@List.filter_append
def j4:=@List.getElem?_eq_none
def j5:=@List.getElem?_mapIdx
def j6:=@of_decide_eq_false
def kg:=@Go.Lib.toList_data
def ko:=@List.length_filter_le
def kr:=@List.getElem?_append_right
def kw:=@List.drop_eq_getElem_cons
def ky:=@List.append_nil
def kI:=@Bool.and_eq_true
def lc:=@Go.World.cell?_of_block
def lv:=@List.ext_getElem?
def l5:=@Nat.not_lt_zero
def l6:=@List.getElem?_append_left
def l8:=@List.pairwise_cons
def mq:=@List.getElem_of_mem
def mE:=@Nat.zero_add
def mH:=@Int.toNat_natCast
def mI:=@decide_eq_true_eq
def mK:=@List.pairwise_append
def mR:=@List.getElem?_modify
def mU:=@Bool.or_eq_false_iff
def nk:=@decide_eq_false_iff_not
def nu:=@List.any_eq_true
def nA:=@Nat.eq_zero_or_pos
def nE:=@List.getElem_append_left
def nL:=@Nat.le_of_lt
def nQ:=@List.pairwise_singleton
def nW:=@List.getElem_append_right
def om:=@congrArg
def oo:=@List.mem_cons_of_mem
def oF:=@List.drop_length
def pE:=@List.getElem?_map
def pQ:=@List.length_mapIdx
def p8:=@List.concat_eq_append
def p9:=@beq_iff_eq
def qb:=@List.getElem?_eq_some_iff
def qd:=@Nat.min_eq_left
def qD:=@Option.getD_some
def q9:=@Bool.not_eq_true'
def rz:=@Bool.false_or
def rA:=@Int.le_refl
def rR:=@List.take_append_drop
def rT:=@List.length_replicate
def si:=@Decidable.em
def sj:=@Option.map_some
def sw:=@List.length_nil
def sI:=@List.flatMap_cons
def sM:=@List.mem_iff_getElem
def sP:=@List.take_append_of_le_length
def tF:=@List.mem_cons_self
def tL:=@List.cons_append
def tO:=@List.eq_nil_or_concat
def tQ:=@Nat.add_zero
def tT:=@List.append_assoc
def uE:=@Nat.le_of_eq
def uL:=@List.mem_map
def uR:=@Nat.lt_succ_self
def uW:=@List.getElem_mapIdx
def u7:=@Go.run_underlying
def vo:=@Bool.true_or
def vv:=@List.nil_append
def vQ:=@List.map_append
def vR:=@Bool.eq_iff_iff
def wh:=@List.mem_append_left
def wm:=@List.findIdx?_eq_some_iff_getElem
def ww:=@List.map_cons
def wD:=@List.append_eq_nil_iff
def wN:=@List.filter_eq_self
def wT:=@List.pairwise_iff_getElem
def xc:=@List.mem_take_iff_getElem
def xD:=@List.find?_eq_none
def xL:=@List.drop_zero
def xS:=@List.drop_drop
def xV:=@List.mem_of_mem_take
def zb:=@List.eq_nil_of_length_eq_zero
def ze:=@Option.some.injEq
def zm:=@List.length_set
def zw:=@List.drop_of_length_le
def zP:=@List.drop_eq_nil_of_le
def zR:=@ByteArray.size_extract
def z8:=@Nat.add_assoc
def Av:=@List.set_cons_succ
def Ay:=@Array.getElem?_append_left
def AC:=@Array.getElem?_modify
def AJ:=@List.any_append
def AR:=@Go.results_none
def Bb:=@Nat.sub_self
def Bn:=@List.eq_of_mem_replicate
def Bp:=@List.getElem_modify
def Br:=@List.take_take
def Bu:=@Option.not_isSome_iff_eq_none
def BS:=@Go.bodyPost_end
def Cg:=@Nat.eq_or_lt_of_le
def Ck:=@List.getElem?_take
def Cn:=@List.getElem?_drop
def Co:=@Array.getElem?_eq_none
def Cq:=@Bool.or_eq_true
def Cr:=@Bool.and_self
def Cs:=@Go.wpList_append_own
def Ct:=@List.pairwise_map
def Cu:=@List.getElem_take
def Cv:=@Bool.and_false
def Cw:=@List.getLast?_append
def Cx:=@List.Pairwise.filter
def Cy:=@getElem!_pos
def Cz:=@UInt8.not_lt
def CF:=@List.map_nil
def CK:=@List.mem_of_find?_eq_some
def CR:=@Array.getElem?_eq_getElem
def C8:=@Go.World.ownsRow.cells
def Da:=@List.Pairwise.imp_of_mem
def Db:=@List.all_append
def Dg:=@bne_iff_ne
def Dm:=@Nat.le_zero
def Dr:=@Bool.or_true
def Ev:=@List.size_toArray
def Ex:=@List.length_range
def EA:=@List.foldl_append
def EB:=@List.all_eq_false
def E9:=@Bool.eq_false_iff
def Fs:=@List.getElem_cons_zero
def Fu:=@List.getElem_cons_succ
def Fw:=@List.mem_flatMap
def Fx:=@Go.Lib.extract_data
def Fy:=@Ne.symm
def FE:=@Go.setRow_heap
def FJ:=@Nat.mul_one
def FL:=@Nat.add_mul
def FR:=@Nat.zero_mul
def F3:=@Prod.ext
def F4:=@List.take_zero
def F5:=@List.nodup_nil
def Ga:=@List.mem_range
def Gb:=@Bool.false_and
def Gc:=@Array.getElem?_eq_some_iff
def Gd:=@List.getElem?_eq_none_iff
def GA:=@Eq.symm
def GD:=@UInt8.le_antisymm
def GJ:=@List.getElem_drop
def GQ:=@List.any_eq_false
def Hd:=@List.Pairwise.imp
instance:Coe ByteArray (List UInt8):=⟨fun s=>s.data.toList⟩
theorem aR{n:Nat}:n<=n:=n.le_refl
end Go.Proofs.YtjppfhgkanbemabGreatDoor
namespace Go.Proofs.YtjppfhgkanbemabGreatDoor.Pt
abbrev Bs:=List UInt8
def letter(c:UInt8):Bool:=(decide (97<=c.toNat)&&decide (c.toNat<=122))||(decide (48<=c.toNat)&&decide (c.toNat<=57))
def named(l:Bs):Bool:=decide (1<=l.length)&&decide (l.length<=12)&&l.all letter
def onto(c:UInt8):List Bs->List Bs
 |[]=>[[c]]
 |p::ps=>(c::p)::ps
def split:Bs->List Bs
 |[]=>[[]]
 |c::r=>if c=47 then []::split r else onto c (split r)
def glue:List Bs->Bs
 |[]=>[]
 |[p]=>p
 |p::q::r=>p++47::glue (q::r)
def clean(l:Bs):Bool:=decide (l.length<=80)&&(split l).all named
def ah(l:Bs):Bs:=glue ((split l).dropLast)
def nameOf(l:Bs):Bs:=(split l).getLastD []
def join(d n:Bs):Bs:=if d=[]then n else d++47::n
def under(s d:Bs):Bool:=if d=[]then !s.isEmpty else Lib.hasPrefix s (d++[47])
def counts(n:Bs):Bool:= !(n.isEmpty||n==[46])
def fine(n:Bs):Bool:=n==[46,46]||named n
def parse(l:Bs):List Bs×Int:=
 if 80<l.length then([],4)
 else if l=[]then([],6)
 else if((split l).filter counts).all fine then((split l).filter counts,0)else([],7)
def kQ:List Bs->List Bs->Int
 |x::xs,y::ys=>if Lib.compareBytes x y=0 then kQ xs ys else Lib.compareBytes x y
 |xs,ys=>(xs.length:Int)- (ys.length:Int)
def cmp(a b:Bs):Int:=kQ (split a) (split b)
theorem dK(l:Bs):split l≠[]:=by
 cases l with
 |nil=>simp[split]
 |cons c r=>
  unfold split
  split
  ·simp
  ·unfold onto;split<;>simp
theorem Qn(c:UInt8)(ps:List Bs)(h:ps≠[]):(onto c ps).length=ps.length:=by
 cases ps with
 |nil=>exact absurd rfl h
 |cons p ps=>rfl
theorem gq(r:Bs):split (47::r)=[]::split r:=by simp[split]
theorem iZ{c:UInt8}(h:c≠47)(r:Bs):split (c::r)=onto c (split r):=by simp[split,h]
theorem nN(p:Bs){ps:List Bs}(h:ps≠[]):glue (p::ps)=p++47::glue ps:=by
 cases ps with
 |nil=>exact absurd rfl h
 |cons q r=>rfl
theorem NT(c:UInt8){ps:List Bs}(h:ps≠[]):glue (onto c ps)=c::glue ps:=by
 cases ps with
 |nil=>exact absurd rfl h
 |cons p r=>
  cases r with
  |nil=>rfl
  |cons q r=>rfl
theorem bQ:∀l:Bs,glue (split l)=l
 |[]=>rfl
 |c::r=>by
  by_cases h:c=47
  ·subst h;rw[gq,nN _ (dK r),bQ r];rfl
  ·rw[iZ h,NT c (dK r),bQ r]
theorem pJ:∀{p:Bs},(∀c∈p,c≠47)->∀r:Bs,split (p++47::r)=p::split r
 |[],_,r=>gq r
 |c::p,h,r=>by
  rw[tL,iZ (h c (by simp)),pJ (λd hd=>h d (by simp[hd])) r]
  rfl
theorem lL:∀{p:Bs},(∀c∈p,c≠47)->split p=[p]
 |[],_=>rfl
 |c::p,h=>by
  rw[iZ (h c (by simp)),lL (λd hd=>h d (by simp[hd]))]
  rfl
theorem BC{a b:Bs}(h:split a=split b):a=b:=by rw[<-bQ a,h,bQ b]
theorem nO:∀(d r:Bs),split (d++47::r)=split d++split r
 |[],r=>gq r
 |c::d,r=>by
  by_cases h:c=47
  ·subst h;rw[tL,gq,gq,nO d r];rfl
  ·rw[tL,iZ h,iZ h,nO d r]
   cases hs:split d with
   |nil=>exact absurd hs (dK d)
   |cons p ps=>rfl
theorem pK{ps qs:List Bs}(hp:ps≠[])(hq:qs≠[]):glue (ps++qs)=glue ps++47::glue qs:=by
 induction ps with
 |nil=>exact absurd rfl hp
 |cons p ps ih=>
  cases ps with
  |nil=>rw[List.singleton_append,nN p hq];rfl
  |cons q r=>
   rw[tL,nN p (by simp),ih (by simp),nN p (by simp)]
   simp
theorem tH:∀a:Bs,Lib.compareBytes a a=0
 |[]=>rfl
 |c::r=>by unfold Lib.compareBytes;simp[UInt8.lt_irrefl,tH r]
theorem qJ:∀{a b:Bs},Lib.compareBytes a b=0->a=b
 |[],[],_=>rfl
 |[],_::_,h=>by simp[Lib.compareBytes]at h
 |_::_,[],h=>by simp[Lib.compareBytes]at h
 |x::a,y::b,h=>by
  unfold Lib.compareBytes at h
  by_cases h1:x<y
  ·simp[h1]at h
  ·by_cases h2:y<x
   ·simp[h1,h2]at h
   ·simp[h1,h2]at h
    have:x=y:=GD (UInt8.not_lt.1 h2) (UInt8.not_lt.1 h1);rw[this,qJ h]
theorem Qo:∀a b:Bs,Lib.compareBytes b a= -Lib.compareBytes a b
 |[],[]=>rfl
 |[],_::_=>rfl
 |_::_,[]=>rfl
 |x::a,y::b=>by
  unfold Lib.compareBytes
  by_cases h1:x<y
  ·have h2:¬y<x:=λh=>UInt8.lt_irrefl _ (UInt8.lt_trans h1 h)
   simp[h1,h2]
  ·by_cases h2:y<x
   ·simp[h1,h2]
   ·simp[h1,h2,Qo a b]
theorem Fh:∀{a b c:Bs},Lib.compareBytes a b<0->Lib.compareBytes b c<0->Lib.compareBytes a c<0
 |[],[],_,h,_=>by simp[Lib.compareBytes]at h
 |[],_::_,[],_,h=>by simp[Lib.compareBytes]at h
 |[],_::_,_::_,_,_=>by simp[Lib.compareBytes]
 |_::_,[],_,h,_=>by simp[Lib.compareBytes]at h
 |_::_,_::_,[],_,h=>by simp[Lib.compareBytes]at h
 |x::a,y::b,z::c,h,k=>by
  unfold Lib.compareBytes at h k ⊢
  by_cases h1:x<y
  ·by_cases k1:y<z
   ·simp[UInt8.lt_trans h1 k1]
   ·by_cases k2:z<y
    ·simp[k1,k2]at k
    ·have:y=z:=GD (UInt8.not_lt.1 k2) (UInt8.not_lt.1 k1)
     subst this;simp[h1]
  ·by_cases e:y<x
   ·simp[h1,e]at h
   ·have:x=y:=GD (UInt8.not_lt.1 e) (UInt8.not_lt.1 h1)
    subst this;simp[h1]at h
    by_cases k1:x<z
    ·simp[k1]
    ·by_cases k2:z<x
     ·simp[k1,k2]at k
     ·simp[k1,k2]at k ⊢
      exact Fh h k
theorem ig(x y:Bs)(a b:List Bs):kQ (x::a) (y::b)=if Lib.compareBytes x y=0 then kQ a b else Lib.compareBytes x y:=rfl
theorem gB(b:List Bs):kQ [] b= - (b.length:Int):=by cases b<;>simp[kQ]
theorem gG(a:List Bs):kQ a []=(a.length:Int):=by cases a<;>simp[kQ]
theorem Fj:∀a b:List Bs,kQ b a= -kQ a b
 |[],b=>by rw[gB,gG];omega
 |_::_,[]=>by rw[gB,gG]
 |x::a,y::b=>by
  rw[ig,ig,Qo x y]
  by_cases h:Lib.compareBytes x y=0
  ·rw[aM h,aM (by omega),Fj a b]
  ·rw[av h,av (by omega)]
theorem BD:∀a:List Bs,kQ a a=0
 |[]=>rfl
 |x::a=>by rw[ig,aM (tH x),BD a]
theorem BF:∀{a b:List Bs},kQ a b=0->a=b
 |[],b,h=>by rw[gB]at h;cases b with
  |nil=>rfl
  |cons y b=>simp at h;omega
 |x::a,[],h=>by rw[gG]at h;simp at h;omega
 |x::a,y::b,h=>by
  rw[ig]at h
  by_cases e:Lib.compareBytes x y=0
  ·rw[aM e]at h;rw[qJ e,BF h]
  ·rw[av e]at h;exact absurd h e
theorem x8:∀{a b c:List Bs},kQ a b<0->kQ b c<0->kQ a c<0
 |[],b,c,h,k=>by
  rw[gB]at h ⊢
  cases b with
  |nil=>simp at h
  |cons y b=>
   cases c with
   |nil=>rw[gG]at k;simp at k;omega
   |cons z c=>simp
 |x::a,[],c,h,k=>by rw[gG]at h;simp at h;omega
 |x::a,y::b,[],h,k=>by rw[gG]at k;simp at k;omega
 |x::a,y::b,z::c,h,k=>by
  rw[ig]at h k ⊢
  by_cases e1:Lib.compareBytes x y=0
  ·have:=qJ e1;subst this
   rw[aM e1]at h
   by_cases e:Lib.compareBytes x z=0
   ·rw[aM e]at k ⊢;exact x8 h k
   ·rw[av e]at k ⊢;exact k
  ·rw[av e1]at h
   by_cases e:Lib.compareBytes y z=0
   ·have:=qJ e;subst this
    rw[av e1];exact h
   ·rw[av e]at k
    have:=Fh h k;rw[av (by omega)];exact this
theorem cmp_neg(a b:Bs):cmp b a= -cmp a b:=Fj _ _
theorem dB(a:Bs):cmp a a=0:=BD _
theorem Fp{a b:Bs}(h:cmp a b=0):a=b:=BC (BF h)
theorem jR{a b c:Bs}(h:cmp a b<0)(k:cmp b c<0):cmp a c<0:=x8 h k
theorem Fq:∀(a r:List Bs),kQ a (a++r)= - (r.length:Int)
 |[],r=>gB r
 |x::a,r=>by rw[tL,ig,aM (tH x),Fq a r]
theorem wE:∀(c a r:List Bs),¬a<+:c->kQ c a<0\/kQ c (a++r)>0
 |c,[],r,h=>absurd (List.nil_prefix) h
 |[],y::a,r,_=>by left;rw[gB];simp
 |x::c,y::a,r,h=>by
  rw[tL,ig,ig]
  by_cases e:Lib.compareBytes x y=0
  ·rw[aM e,aM e]
   have:=qJ e;subst this;exact wE c a r λb=>h (List.cons_prefix_cons.2 ⟨rfl,b⟩)
  ·rw[av e,av e];omega
theorem under_iff{s d:Bs}(hd:d≠[]):under s d=true↔∃r,s=d++47::r:=by
 unfold under Lib.hasPrefix;rw[av hd,List.isPrefixOf_iff_prefix]
 constructor
 ·rintro⟨r,rfl⟩;exact⟨r,by simp⟩
 rintro⟨r,rfl⟩;exact⟨r,by simp⟩
theorem pM{s d:Bs}(hd:d≠[]):under s d=true↔∃r,r≠[]/\split s=split d++r:=by
 rw[under_iff hd]
 constructor
 ·rintro⟨r,rfl⟩;exact⟨split r,dK r,nO d r⟩
 rintro⟨r,a,e⟩;refine⟨glue r,?_⟩
 rw[<-bQ s,e,pK (dK d) a,bQ d]
theorem order{a b c:Bs}(ha:a≠[])(hu:under b a=true):cmp a b<0/\(c=a\/under c a=true\/cmp c a<0\/cmp c b>0):=by
 obtain⟨r,i,e⟩:=(pM ha).1 hu;unfold cmp;rw[e];refine⟨?_,?_⟩
 ·rw[Fq]
  cases r with
  |nil=>exact absurd rfl i
  |cons y r=>simp
 by_cases g:split a<+:split c
 ·obtain⟨t,h⟩:=g
  cases t with
  |nil=>left;exact BC (by rw[<-h];simp)
  |cons y t=>right;left;exact(pM ha).2 ⟨y::t,by simp,h.symm⟩
 right;right;exact wE _ _ _ g
end Go.Proofs.YtjppfhgkanbemabGreatDoor.Pt
namespace Go.Proofs.YtjppfhgkanbemabGreatDoor
structure En where
 p:ByteArray
 k:Int
 t:ByteArray
 o:Bool
namespace En
def P(e:En):Pt.Bs:=e.p.data.toList
def beq(x y:En):Bool:=x.p.data.toList==y.p.data.toList&&x.k==y.k&&x.t.data.toList==y.t.data.toList&&x.o==y.o
end En
theorem ik{a b:ByteArray}(h:a.data.toList=b.data.toList):a=b:=by
 obtain⟨⟨a⟩⟩:=a;obtain⟨⟨b⟩⟩:=b;have c:a=b:=h;rw[c]
namespace En
theorem beq_iff(x y:En):beq x y=true↔x=y:=by
 unfold beq;rw[kI,kI,kI,p9,p9,p9,p9]
 constructor
 ·rintro⟨⟨⟨h,e⟩,i⟩,g⟩
  obtain⟨a,b,c,d⟩:=x;obtain⟨l,k,m,j⟩:=y;have h:=ik h;have i:=ik i
  cases h;cases i
  have e:b=k:=e;have g:d=j:=g;rw[e,g]
 rintro rfl;exact⟨⟨⟨rfl,rfl⟩,rfl⟩,rfl⟩
instance:DecidableEq En:=λx y=>if h:beq x y=true then .isTrue ((beq_iff x y).1 h)else .isFalse λe=>h ((beq_iff x y).2 e)
def root:En:=⟨⟨#[]⟩,2,⟨#[]⟩,false⟩
def zero:En:=⟨⟨#[]⟩,0,⟨#[]⟩,false⟩
def clear(e:En):En:=⟨e.p,e.k,e.t,false⟩
end En
namespace Tr
open Pt
def get(l:List En)(p:Bs):Option En:=if p=[]then some En.root else l.find? λe=>e.P==p
def lC(e:En)(b:Bool):Bool:=decide (e.k<1)||decide ((bif b then 4 else 3)<e.k)
def lX(e:En)(b:Bool):Bool:=(e.t.size !=0&&e.k !=1&&e.k !=3)||(e.k==3&&e.t.size==0)||(e.o&&(!b||e.k !=2))
def entry(e:En)(b:Bool):Int:=
 if lC e b=true then 1 else if clean e.P=false then 7 else if 100<e.t.size then 4 else if lX e b=true then 8 else 0
def ahead(y x:En):Bool:=decide (cmp y.P x.P<0)
def ou(p:List En)(d:Bs):Bool:=match get p d with
 |some e=>e.k !=2
 |none=>true
def bI(p:List En)(x:En)(b:Bool):Int:=
 if entry x b≠0 then entry x b else
 if(p.getLast?.any λy=> !ahead y x)then 2 else
 if ou p (ah x.P)then 10 else 0
def ak(b:Bool):List En->List En->Int×Int
 |_,[]=>(0,0)
 |p,x::r=>if bI p x b=0 then ak b (p++[x]) r else(bI p x b,p.length)
def wrong(l:List En)(b:Bool):Int×Int:=if 80<l.length then(5,0)else ak b [] l
def Srt(l:List En):Prop:=l.Pairwise λa b=>cmp a.P b.P<0
def Right(b:Bool)(l:List En):Prop:=(∀e∈l,entry e b=0)/\Srt l/\∀e∈l,ah e.P=[]\/∃d∈l,d.P=ah e.P/\d.k=2
theorem Fv(l:Bs):∃ps n,split l=ps++[n]/\ah l=glue ps/\nameOf l=n:=by
 refine⟨(split l).dropLast,(split l).getLast (dK l),(List.dropLast_concat_getLast _).symm,rfl,?_⟩
 unfold nameOf;rw[List.getLastD_eq_getLast?,List.getLast?_eq_some_getLast (dK l)];rfl
theorem L9(l:Bs):ah l=[]\/l=ah l++47::nameOf l:=by
 obtain⟨c,n,g,a,h⟩:=Fv l
 by_cases e:c=[]
 ·subst e;left;rw[a];rfl
 right
 have b:=bQ l;rw[g,pK e (by simp)]at b
 rw[a,h];exact b.symm
theorem qK{l:Bs}(h:ah l≠[]):under l (ah l)=true:=by
 rcases L9 l with e|e
 ·exact absurd e h
 exact(under_iff h).2 ⟨_,e⟩
theorem Jw{l:Bs}(h:ah l≠[]):cmp (ah l) l<0:=(order (c:=[]) h (qK h)).1
theorem aI{l:Bs}(h:l≠[]):(ah l).length<l.length:=by
 rcases L9 l with e|e
 ·rw[e];cases l with
  |nil=>exact absurd rfl h
  |cons _ _=>simp
 have:=om List.length e;rw[bq,gL]at this;omega
theorem Uo:ah []=[]:=rfl
theorem clean_ne{l:Bs}(h:clean l=true):l≠[]:=by
 intro e;subst e;cases h
theorem bV{l:Bs}(h:clean l=true):l.length<=80:=by
 unfold clean at h;rw[kI,mI]at h;exact h.1
theorem eG{a:En}{l:List En}(h:Srt (a::l)):∀b∈l,cmp a.P b.P<0:=(List.pairwise_cons.1 h).1
theorem gI{a:En}{l:List En}(h:Srt (a::l)):Srt l:=(List.pairwise_cons.1 h).2
theorem DR:Srt []:=List.Pairwise.nil
theorem lt_irrefl(a:Bs):¬cmp a a<0:=by rw[dB];omega
theorem lt_asymm{a b:Bs}(h:cmp a b<0):¬cmp b a<0:=by rw[cmp_neg a b];omega
theorem oC:∀{l m:List En},Srt l->Srt m->(∀e,e∈l↔e∈m)->l=m
 |[],[],_,_,_=>rfl
 |[],b::m,_,_,h=>absurd ((h b).2 (by simp)) (by simp)
 |a::l,[],_,_,h=>absurd ((h a).1 (by simp)) (by simp)
 |a::l,b::m,hl,hm,h=>by
  have e:a=b:=by
   have j:=(h a).1 (by simp)
   have g:=(h b).2 (by simp)
   rcases List.mem_cons.1 j with e|j
   ·exact e
   rcases List.mem_cons.1 g with e|g
   ·exact e.symm
   exact absurd (eG hl b g) (lt_asymm (eG hm a j))
  subst e;refine om _ (oC (gI hl) (gI hm) λe=> ?_)
  have k:=h e;rw[iX,iX]at k
  constructor
  ·intro c
   rcases k.1 (.inr c)with n|i
   ·subst n;exact absurd (eG hl e c) (lt_irrefl _)
   ·exact i
  ·intro c
   rcases k.2 (.inr c)with n|i
   ·subst n;exact absurd (eG hm e c) (lt_irrefl _)
   ·exact i
theorem pO:∀{l:List En},Srt l->∀{a b:En},a∈l->b∈l->a.P=b.P->a=b
 |[],_,_,_,h,_,_=>nomatch h
 |x::l,hs,a,b,ha,hb,e=>by
  rcases List.mem_cons.1 ha with e1|h1
  ·rcases List.mem_cons.1 hb with e2|h2
   ·rw[e1,e2]
   ·have:=eG hs b h2;rw[<-e,e1,dB]at this;omega
  ·rcases List.mem_cons.1 hb with e2|h2
   ·have:=eG hs a h1;rw[e,e2,dB]at this;omega
   ·exact pO (gI hs) h1 h2 e
theorem get_some{l:List En}{p:Bs}{e:En}(hp:p≠[])(h:get l p=some e):e∈l/\e.P=p:=by
 unfold get at h;rw[av hp]at h;exact⟨CK h,by simpa using List.find?_some h⟩
theorem get_none{l:List En}{p:Bs}(hp:p≠[]):get l p=none↔∀e∈l,e.P≠p:=by
 unfold get;rw[av hp,xD];simp
theorem get_mem{l:List En}(hs:Srt l){e:En}(he:e∈l)(hp:e.P≠[]):get l e.P=some e:=by
 rcases h:get l e.P with _|x
 ·exact absurd rfl ((get_none hp).1 h e he)
 obtain⟨a,b⟩:=get_some hp h;rw[pO hs a he b]
theorem dL(l:List En):get l []=some En.root:=by unfold get;rw[aM rfl]
theorem get_iff{l:List En}(hs:Srt l){p:Bs}(hp:p≠[]){e:En}:get l p=some e↔e∈l/\e.P=p:=by
 constructor
 ·exact get_some hp
 rintro⟨a,rfl⟩;exact get_mem hs a hp
theorem bK(e:En)(b:Bool):entry e b=0↔lC e b=false/\clean e.P=true/\e.t.size<=100/\lX e b=false:=by
 unfold entry
 rcases c:lC e b with _|_
 ·rcases g:clean e.P with _|_
  ·simp
  by_cases a:100<e.t.size
  ·rw[av (by simp),av (by simp),aM a];simp;omega
  rcases h:lX e b with _|_
  ·simp[a];omega
  simp[a]
 simp
theorem entry_clean{e:En}{b:Bool}(h:entry e b=0):clean e.P=true:=((bK e b).1 h).2.1
theorem rY{e:En}{b:Bool}(h:entry e b=0):1<=e.k/\e.k<=4/\(b=false->e.k<=3):=by
 have h:=((bK e b).1 h).1;unfold lC at h;rw[mU,nk,nk]at h
 cases b
 ·have a:=h.2;simp only[cond_false]at a;exact⟨by omega,by omega,λ_=>by omega⟩
 have a:=h.2;simp only[cond_true]at a;exact⟨by omega,by omega,λe=>by cases e⟩
theorem oD{e:En}(h:entry e false=0):e.o=false:=by
 have h:=((bK e false).1 h).2.2.2;unfold lX at h
 rcases a:e.o with _|_
 ·rfl
 rw[a]at h;simp at h
theorem L_{e:En}{b:Bool}(h1:1<=e.k)(h2:e.k<=(bif b then 4 else 3)):lC e b=false:=by
 unfold lC;rw[mU,nk,nk];exact⟨by omega,by omega⟩
theorem Fz{e:En}(h:entry e false=0):entry e true=0:=by
 have b:=rY h;have c:=oD h;obtain⟨j,g,i,a⟩:=(bK e false).1 h;refine(bK e true).2 ⟨L_ b.1 b.2.1,g,i,?_⟩
 unfold lX at a ⊢;rw[c]at a ⊢
 simpa using a
theorem FB{e:En}(h:entry e true=0)(hk:e.k≠4):entry e.clear false=0:=by
 have a:=rY h;obtain⟨i,c,g,b⟩:=(bK e true).1 h;refine(bK e.clear false).2 ⟨L_ a.1 (show e.k<=3 by omega),c,g,?_⟩
 unfold lX at b ⊢;rw[mU]at b;rw[mU];exact⟨b.1,rfl⟩
theorem bu{b:Bool}{l:List En}(h:Right b l){e:En}(he:e∈l):e.P≠[]:=clean_ne (entry_clean (h.1 e he))
theorem lM(b:Bool):Right b []:=⟨λ_ h=>(nomatch h),DR,λ_ h=>(nomatch h)⟩
theorem x9{p:List En}(hs:Srt p)(d:Bs):ou p d=false↔d=[]\/∃e∈p,e.P=d/\e.k=2:=by
 unfold ou
 by_cases a:d=[]
 ·subst a;rw[dL];simp[En.root]
 rcases h:get p d with _|e
 ·simp only[a,false_or]
  constructor
  ·intro i;cases i
  rintro⟨e,j,b,_⟩;exact absurd b ((get_none a).1 h e j)
 obtain⟨b,g⟩:=get_some a h;simp only[a,false_or,bne_eq_false_iff_eq]
 constructor
 ·intro c;exact⟨e,b,g,c⟩
 rintro⟨x,m,c,l⟩;rw[pO hs b m (g.trans c.symm)];exact l
theorem rZ{p:List En}{x:En}{b:Bool}:bI p x b=0↔entry x b=0/\(p.getLast?.any λy=> !ahead y x)=false/\ou p (ah x.P)=false:=by
 unfold bI
 by_cases a:entry x b=0
 ·rw[av (by simp[a])]
  rcases c:(p.getLast?.any λy=> !ahead y x)with _|_
  ·rcases e:ou p (ah x.P)with _|_<;>simp[a]
  simp
 rw[aM a];simp[a]
theorem FC{p:List En}{x:En}:Srt (p++[x])↔Srt p/\(p.getLast?.any λy=> !ahead y x)=false:=by
 unfold Srt;rw[mK];simp only[nQ,eD,forall_eq,true_and]
 rcases tO p with rfl|⟨q,y,rfl⟩
 ·simp
 simp only[p8,Cw,List.getLast?_singleton,Option.some_or,Option.any_some,ahead,Bool.not_eq_false',mI]
 constructor
 ·rintro⟨a,b⟩;exact⟨a,b y (by simp)⟩
 rintro⟨a,b⟩;refine⟨a,λz c=> ?_⟩
 rw[gF,eD]at c
 rcases c with c|rfl
 ·exact jR ((List.pairwise_append.1 a).2.2 z c y (by simp)) b
 exact b
theorem gJ{p:List En}{x:En}{b:Bool}:Right b (p++[x])↔Right b p/\bI p x b=0:=by
 rw[rZ]
 constructor
 ·rintro⟨l,i,m⟩
  have o:=FC.1 i;have t:∀y∈p,cmp y.P x.P<0:=λy r=>(List.pairwise_append.1 i).2.2 y r x (by simp)
  refine⟨⟨λe a=>l e (wh _ a),o.1,λe a=> ?_⟩,l x (by simp),o.2,?_⟩
  ·rcases m e (wh _ a)with h|⟨d,c,g,j⟩
   ·exact .inl h
   rw[gF,eD]at c
   rcases c with c|rfl
   ·exact .inr ⟨d,c,g,j⟩
   by_cases k:ah e.P=[]
   ·exact .inl k
   have:=Jw k;rw[<-g]at this;exact absurd this (lt_asymm (t e a))
  rw[x9 o.1]
  rcases m x (by simp)with h|⟨d,c,g,j⟩
  ·exact .inl h
  rw[gF,eD]at c
  rcases c with c|rfl
  ·exact .inr ⟨d,c,g,j⟩
  by_cases k:ah d.P=[]
  ·exact .inl k
  have:=Jw k;rw[<-g]at this;exact absurd this (lt_irrefl _)
 rintro⟨⟨l,i,m⟩,g,j,q⟩;refine⟨λe a=> ?_,FC.2 ⟨i,j⟩,λe a=> ?_⟩
 ·rw[gF,eD]at a
  rcases a with a|rfl
  ·exact l e a
  exact g
 rw[gF,eD]at a
 rcases a with a|rfl
 ·rcases m e a with h|⟨d,c,n⟩
  ·exact .inl h
  exact .inr ⟨d,wh _ c,n⟩
 rcases(x9 i _).1 q with h|⟨d,c,n⟩
 ·exact .inl h
 exact .inr ⟨d,wh _ c,n⟩
theorem NU{p q:List En}{b:Bool}(h:Right b (p++q)):Right b p:=by
 induction q generalizing p with
 |nil=>simpa using h
 |cons x q ih=>
  have e:p++x::q=(p++[x])++q:=by simp
  rw[e]at h;exact(gJ.1 (ih h)).1
theorem fJ(b:Bool):∀(r p:List En),Right b p->((ak b p r).1=0↔Right b (p++r))
 |[],p,hp=>by simp[ak,hp]
 |x::r,p,hp=>by
  have e:p++x::r=(p++[x])++r:=by simp
  rw[ak]
  by_cases a:bI p x b=0
  ·rw[aM a,fJ b r (p++[x]) (gJ.2 ⟨hp,a⟩),e]
  ·rw[av a]
   refine⟨λh=>absurd h a,λh=> ?_⟩
   exfalso
   rw[e]at h;exact a (gJ.1 (NU h)).2
theorem az(l:List En)(b:Bool):(wrong l b).1=0↔l.length<=80/\Right b l:=by
 unfold wrong
 by_cases h:80<l.length
 ·rw[aM h];simp;omega
 rw[av h,fJ b l [] (lM b)];simp;omega
theorem aX{l:List En}{b:Bool}{k:Nat}{x:En}{e:Int}(hk:k<l.length)(hx:l[k]=x)(hb:bI (l.take k) x b=e)(he:e≠0):ak b (l.take k) (l.drop k)=(e,(k:Int)):=by
 rw[kw hk,hx,ak,hb,av he];simp;omega
theorem bZ{l:List En}{b:Bool}{k:Nat}{x:En}(hk:k<l.length)(hx:l[k]=x)(hb:bI (l.take k) x b=0):ak b (l.take k) (l.drop k)=ak b (l.take (k+1)) (l.drop (k+1)):=by
 rw[kw hk,hx,ak,aM hb,aF hk,hx]
end Tr
namespace Tr
open Pt
def bad(l:List En)(q:Bs):Bool:=match get l q with
 |some e=>e.k !=2||e.o
 |none=>false
def own(l:List En)(q:Bs):Bool:=match get l q with
 |some e=>e.k !=2
 |none=>false
def wF(l:List En):Nat->Bs->Bool
 |0,_=>false
 |n+1,q=>if q=[]then false else bad l q||wF l n (ah q)
def bP(l:List En)(q:Bs):Bool:=wF l q.length q
def hides(l:List En)(p:Bs):Bool:=own l p||bP l (ah p)
theorem x_(l:List En):∀(n m:Nat) (q:Bs),q.length<=n->q.length<=m->wF l n q=wF l m q
 |0,0,_,_,_=>rfl
 |0,m+1,q,h,_=>by
  have:q=[]:=List.length_eq_zero_iff.1 (by omega)
  subst this;simp[wF]
 |n+1,0,q,_,h=>by
  have:q=[]:=List.length_eq_zero_iff.1 (by omega)
  subst this;simp[wF]
 |n+1,m+1,q,h1,h2=>by
  unfold wF
  by_cases a:q=[]
  ·rw[aM a,aM a]
  ·have:=aI a
   rw[av a,av a,x_ l n m (ah q) (by omega) (by omega)]
theorem oG(l:List En):bP l []=false:=rfl
theorem dC(l:List En){q:Bs}(h:q≠[]):bP l q=(bad l q||bP l (ah q)):=by
 have a:=aI h;unfold bP
 cases hn:q.length with
 |zero=>exact absurd (List.length_eq_zero_iff.1 hn) h
 |succ n=>
  rw[wF,av h,x_ l n (ah q).length (ah q) (by omega) aR]
theorem Ur(l:List En):own l []=false:=by unfold own;rw[dL];rfl
theorem BG(l:List En):hides l []=false:=by unfold hides;rw[Ur,Uo,oG];rfl
theorem Us{l:List En}{q:Bs}(h:bad l q=false):own l q=false:=by
 unfold bad at h;unfold own
 rcases g:get l q with _|e
 ·rfl
 rw[g]at h;simp only[mU]at h;exact h.1
theorem Ut{l:List En}{q:Bs}(h:bad l q=false){e:En}(g:get l q=some e):e.k=2/\e.o=false:=by
 unfold bad at h;rw[g]at h;simp only[mU,bne_eq_false_iff_eq]at h;exact h
theorem NV{l:List En}{p:Bs}(h:hides l p=false):hides l (ah p)=false/\(ah p≠[]->bad l (ah p)=false):=by
 unfold hides at h;rw[mU]at h
 by_cases b:ah p=[]
 ·rw[b];exact⟨BG l,λh=>absurd rfl h⟩
 have a:=h.2;rw[dC l b,mU]at a;refine⟨?_,λ_=>a.1⟩
 unfold hides;rw[Us a.1,a.2];rfl
def ins(x:En):List En->List En
 |[]=>[x]
 |y::r=>if cmp y.P x.P<0 then y::ins x r else if y.P=x.P then x::r else x::y::r
theorem dG{x:En}:∀{l:List En},Srt l->∀e,e∈ins x l↔e=x\/(e∈l/\e.P≠x.P)
 |[],_,e=>by simp[ins]
 |y::r,h,e=>by
  unfold ins
  by_cases h1:cmp y.P x.P<0
  ·have hne:y.P≠x.P:=λe=>by rw[e,dB]at h1;omega
   rw[aM h1,iX,dG (gI h),iX]
   constructor
   ·rintro(rfl|b|⟨b,a⟩)
    ·exact .inr ⟨.inl rfl,hne⟩
    ·exact .inl b
    ·exact .inr ⟨.inr b,a⟩
   ·rintro(b|⟨rfl|b,a⟩)
    ·exact .inr (.inl b)
    ·exact .inl rfl
    ·exact .inr (.inr ⟨b,a⟩)
  ·rw[av h1]
   have far:∀z∈r,z.P≠x.P:=λz g e=>h1 (e▸eG h z g)
   by_cases b:y.P=x.P
   ·rw[aM b,iX,iX]
    constructor
    ·rintro(a|a)
     ·exact .inl a
     ·exact .inr ⟨.inr a,far e a⟩
    ·rintro(a|⟨rfl|a,c⟩)
     ·exact .inl a
     ·exact absurd b c
     ·exact .inr a
   ·rw[av b,iX,iX]
    constructor
    ·rintro(a|rfl|a)
     ·exact .inl a
     ·exact .inr ⟨.inl rfl,b⟩
     ·exact .inr ⟨.inr a,far e a⟩
    ·rintro(a|⟨a,_⟩)
     ·exact .inl a
     ·exact .inr a
theorem yc{a b:Bs}(h1:¬cmp a b<0)(h2:a≠b):cmp b a<0:=by
 rw[cmp_neg a b];have:cmp a b≠0:=λe=>h2 (Fp e)
 omega
theorem iq{x:En}:∀{l:List En},Srt l->Srt (ins x l)
 |[],_=>nQ _ _
 |y::r,h=>by
  unfold ins
  by_cases h1:cmp y.P x.P<0
  ·rw[aM h1]
   refine List.pairwise_cons.2 ⟨λz hz=> ?_,iq (gI h)⟩
   rcases(dG (gI h) z).1 hz with rfl|⟨hz,_⟩
   ·exact h1
   ·exact eG h z hz
  ·rw[av h1]
   by_cases h2:y.P=x.P
   ·rw[aM h2]
    exact List.pairwise_cons.2 ⟨λz hz=>h2▸eG h z hz,gI h⟩
   ·rw[av h2]
    have h3:=yc h1 h2;refine List.pairwise_cons.2 ⟨λz hz=> ?_,h⟩
    rcases List.mem_cons.1 hz with rfl|hz
    ·exact h3
    ·exact jR h3 (eG h z hz)
def aV(xs a:List En):List En:=xs.foldl (λa x=>ins x a) a
theorem fD:∀{xs a:List En},Srt a->Srt (aV xs a)
 |[],_,h=>h
 |_::xs,_,h=>fD (xs:=xs) (iq h)
theorem r_:∀{xs a:List En},Srt xs->Srt a->∀e,e∈aV xs a↔e∈xs\/(e∈a/\∀y∈xs,y.P≠e.P)
 |[],a,_,_,e=>by simp[aV]
 |x::xs,a,hx,ha,e=>by
  have h:=r_ (gI hx) (iq (x:=x) ha) e
  show e∈aV xs (ins x a)↔_
  rw[h,dG ha,iX]
  constructor
  ·rintro(c|⟨rfl|⟨c,g⟩,j⟩)
   ·exact .inl (.inr c)
   ·exact .inl (.inl rfl)
   ·refine .inr ⟨c,λy b=> ?_⟩
    rcases List.mem_cons.1 b with rfl|b
    ·exact λe=>g e.symm
    ·exact j y b
  ·rintro((rfl|c)|⟨c,g⟩)
   ·exact .inr ⟨.inl rfl,λy b i=>by have:=eG hx y b;rw[i,dB]at this;omega⟩
   ·exact .inl c
   ·exact .inr ⟨.inr ⟨c,λi=>g x (by simp) i.symm⟩,λy b=>g y (by simp[b])⟩
def shown(l:List En):List En:=(l.filter λe=>e.k !=4).map En.clear
def keepR(l t:List En):List En:=t.filter λe=> !hides l e.P
def keep(l t:List En):List En:=t.filter λe=>(get l e.P).isNone&& !hides l e.P
def aJ(l t:List En):List En:=aV (shown l) (keepR l t)
def over(l t:List En):List En×Int:=
 if(wrong l true).1≠0 then([],(wrong l true).1)else if(wrong t false).1≠0 then([],(wrong t false).1)else
 if 80<(aJ l t).length then([],5)else(aJ l t,0)
theorem eH{l:List En}{e:En}:e∈shown l↔∃x∈l,x.k≠4/\e=x.clear:=by
 unfold shown;simp only[uL,il,Dg]
 constructor
 ·rintro⟨x,⟨a,b⟩,c⟩;exact⟨x,a,b,c.symm⟩
 rintro⟨x,a,b,c⟩;exact⟨x,⟨a,b⟩,c.symm⟩
theorem uU{l:List En}(h:Srt l):Srt (shown l):=by
 unfold shown Srt;rw[Ct];exact Cx _ h
theorem aY{l:List En}(h:Srt l)(f:En->Bool):Srt (l.filter f):=Cx _ h
theorem qL{l t:List En}(ht:Srt t):Srt (aJ l t):=fD (aY ht _)
theorem kR{l t:List En}{e:En}:e∈keep l t↔e∈t/\get l e.P=none/\hides l e.P=false:=by
 unfold keep;simp only[il,kI,Option.isNone_iff_eq_none,q9]
theorem iw{l t:List En}(hl:Right true l)(ht:Right false t){e:En}:e∈aJ l t↔e∈keep l t\/e∈shown l:=by
 unfold aJ keepR;rw[r_ (uU hl.2.1) (aY ht.2.1 _),kR];simp only[il,q9]
 constructor
 ·rintro(h|⟨⟨b,a⟩,i⟩)
  ·exact .inr h
  refine .inl ⟨b,?_,a⟩
  have c:=bu ht b
  rcases g:get l e.P with _|x
  ·rfl
  exfalso
  obtain⟨k,j⟩:=get_some c g;unfold hides own at a;rw[g,mU,bne_eq_false_iff_eq]at a;exact i x.clear (eH.2 ⟨x,k,by omega,rfl⟩) j
 rintro(⟨b,a,i⟩|h)
 ·have c:=bu ht b
  refine .inr ⟨⟨b,i⟩,λy m n=> ?_⟩
  obtain⟨x,o,_,rfl⟩:=eH.1 m;exact(get_none c).1 a x o n
 exact .inl h
theorem rO{l:List En}{q:Bs}{d:En}(hd:d∈l)(hq:d.P=q)(hk:d.k=2):∃x∈shown l,x.P=q/\x.k=2:=
 ⟨d.clear,eH.2 ⟨d,hd,by omega,rfl⟩,hq,hk⟩
theorem fE{l t:List En}(hl:Right true l)(ht:Right false t):Right false (aJ l t):=by
 refine⟨λe j=> ?_,qL ht.2.1,λe j=> ?_⟩
 ·rcases(iw hl ht).1 j with h|h
  ·exact ht.1 e (kR.1 h).1
  obtain⟨x,p,q,rfl⟩:=eH.1 h;exact FB (hl.1 x p) q
 by_cases c:ah e.P=[]
 ·exact .inl c
 right
 rcases(iw hl ht).1 j with h|h
 ·obtain⟨w,A,z⟩:=kR.1 h
  obtain⟨v,n⟩:=NV z;have n:=n c
  rcases ht.2.2 e w with a|⟨d,i,a,m⟩
  ·exact absurd a c
  rcases g:get l (ah e.P)with _|x
  ·refine⟨d,(iw hl ht).2 (.inl (kR.2 ⟨i,?_,?_⟩)),a,m⟩
   ·rw[a];exact g
   rw[a];exact v
  obtain⟨u,r⟩:=get_some c g;obtain⟨y,k,b⟩:=rO u r (Ut n g).1;exact⟨y,(iw hl ht).2 (.inr k),b⟩
 obtain⟨x,p,_,rfl⟩:=eH.1 h
 rcases hl.2.2 x p with a|⟨d,o,a,m⟩
 ·exact absurd a c
 obtain⟨y,k,b⟩:=rO o a m;exact⟨y,(iw hl ht).2 (.inr k),b⟩
theorem wG{l t m:List En}(hl:Right true l)(ht:Right false t)(hp:m.Perm (keep l t++shown l))(hs:m.Pairwise λx y=>¬cmp y.P x.P<0):m=aJ l t:=by
 have i:(keep l t++shown l).Pairwise λx y=>x.P≠y.P:=by
  have c:∀{l:List En},Srt l->l.Pairwise λx y=>x.P≠y.P:=λh=>Hd (λh e=>by rw[e,dB]at h;omega) h
  refine List.pairwise_append.2 ⟨c (aY ht.2.1 _),c (uU hl.2.1),λa ha b n e=> ?_⟩
  obtain⟨k,j,_⟩:=kR.1 ha;obtain⟨x,o,_,rfl⟩:=eH.1 n;exact(get_none (bu ht k)).1 j x o e.symm
 have g:m.Pairwise λx y=>x.P≠y.P:=(hp.symm.pairwise_iff (λh e=>h e.symm)).1 i
 refine oC (List.Pairwise.imp₂ (λ{a b} (k:¬cmp b.P a.P<0) (j:a.P≠b.P)=>yc k (Fy j)) hs g) (qL ht.2.1) λe=> ?_
 rw[hp.mem_iff,gF,iw hl ht]
theorem jw{l t:List En}(hl:Right true l)(ht:Right false t){p:Bs}(hp:p≠[]){y:En}(hy:y∈l)(e:y.P=p):get (aJ l t) p=if y.k=4 then none else some y.clear:=by
 by_cases a:y.k=4
 ·rw[aM a,get_none hp]
  intro x j c
  rcases(iw hl ht).1 j with h|h
  ·obtain⟨i,g,_⟩:=kR.1 h
   exact(get_none (bu ht i)).1 g y hy (e.trans c.symm)
  obtain⟨z,m,b,rfl⟩:=eH.1 h;have:y=z:=pO hl.2.1 hy m (e.trans c.symm);subst this;exact b a
 rw[av a,get_iff (qL ht.2.1) hp];exact⟨(iw hl ht).2 (.inr (eH.2 ⟨y,hy,a,rfl⟩)),e⟩
theorem lY{l t:List En}(hl:Right true l)(ht:Right false t){p:Bs}(hp:p≠[])(hno:∀y∈l,y.P≠p):get (aJ l t) p=if hides l p then none else get t p:=by
 have n:get l p=none:=(get_none hp).2 hno;have b:∀e,e.P=p->(e∈aJ l t↔e∈t/\hides l p=false):=by
  intro e c;rw[iw hl ht,kR,c]
  constructor
  ·rintro(⟨i,_,a⟩|h)
   ·exact⟨i,a⟩
   obtain⟨z,o,_,rfl⟩:=eH.1 h;exact absurd c (hno z o)
  rintro⟨i,a⟩;exact .inl ⟨i,n,a⟩
 rcases k:hides l p with _|_
 ·rw[av (by simp)]
  rcases g:get t p with _|e
  ·rw[get_none hp]
   intro e c a;exact(get_none hp).1 g e ((b e a).1 c).1 a
  obtain⟨m,j⟩:=get_some hp g;rw[get_iff (qL ht.2.1) hp];exact⟨(b e j).2 ⟨m,k⟩,j⟩
 rw[aM rfl,get_none hp];intro e c a;have:=((b e a).1 c).2;rw[k]at this;cases this
def aS:List (List En)->List En×Int
 |[]=>([],0)
 |x::r=>if(aS r).2≠0 then([],(aS r).2)else over x (aS r).1
def merge(ls:List (List En)):List En×Int:=if 5<ls.length then([],5)else aS ls
theorem DT{l t:List En}(h:(over l t).2=0):l.length<=80/\Right true l/\t.length<=80/\Right false t/\(aJ l t).length<=80/\over l t=(aJ l t,0):=by
 unfold over at h ⊢
 by_cases a:(wrong l true).1=0
 ·by_cases b:(wrong t false).1=0
  ·obtain⟨i,g⟩:=(az l true).1 a
   obtain⟨e,j⟩:=(az t false).1 b;rw[av (by simp[a]),av (by simp[b])]at h ⊢
   by_cases c:80<(aJ l t).length
   ·rw[aM c]at h;cases h
   exact⟨i,g,e,j,by omega,av c⟩
  rw[av (by simp[a]),aM b]at h;exact absurd h b
 rw[aM a]at h;exact absurd h a
theorem Uu{l t:List En}(h1:l.length<=80)(h2:Right true l)(h3:t.length<=80)(h4:Right false t)(h5:(aJ l t).length<=80):over l t=(aJ l t,0):=by
 have a:=(az l true).2 ⟨h1,h2⟩;have b:=(az t false).2 ⟨h3,h4⟩;unfold over;rw[av (by simp[a]),av (by simp[b]),av (by omega)]
theorem NW{l t:List En}(h:(over l t).2≠0):(over l t).1=[]:=by
 unfold over at h ⊢
 split
 ·rfl
 split
 ·rfl
 split
 ·rfl
 rename_i a b c;rw[av a,av b,av c]at h;exact absurd rfl h
theorem FD:∀{ls:List (List En)},(aS ls).2≠0->(aS ls).1=[]
 |[],h=>absurd rfl h
 |x::r,h=>by
  unfold aS at h ⊢
  split
  ·rfl
  ·rename_i a;rw[av a]at h;exact NW h
theorem tJ:∀{ls:List (List En)},(aS ls).2=0->(aS ls).1.length<=80/\Right false (aS ls).1
 |[],_=>⟨by decide,lM _⟩
 |x::r,h=>by
  unfold aS at h ⊢
  split
  ·rename_i a;rw[aM a]at h;exact absurd h a
  ·rename_i a
   rw[av a]at h;obtain⟨_,h2,_,h4,h5,h6⟩:=DT h;rw[h6];exact⟨h5,fE h2 h4⟩
theorem wH{x:List En}{r:List (List En)}(h:(aS (x::r)).2=0):(aS r).2=0/\aS (x::r)=over x (aS r).1:=by
 rw[aS]at h ⊢
 by_cases a:(aS r).2=0
 ·exact⟨a,av λh=>h a⟩
 rw[aM a]at h;exact absurd h a
theorem wI{x:List En}{r:List (List En)}(h:(aS r).2=0):aS (x::r)=over x (aS r).1:=by
 rw[aS,av (by simp[h])]
end Tr
namespace Tr
open Pt
def bg(t:List En)(d:Bs):Int:=match get t d with
 |none=>6
 |some x=>if x.k≠2 then 10 else 0
def eF(t:List En)(e:En):Int:=match get t e.P with
 |some x=>if(x.k==2)≠(e.k==2)then 7 else 0
 |none=>if t.length=80 then 5 else 0
def putErr(t:List En)(e:En):Int:=
 if(wrong t false).1≠0 then(wrong t false).1 else if entry e false≠0 then entry e false else
 if bg t (ah e.P)≠0 then bg t (ah e.P)else eF t e
def put(t:List En)(e:En):List En×Int:=if putErr t e≠0 then([],putErr t e)else(ins e t,0)
def names(t:List En)(p:Bs):List Bs:=(t.filter λe=>ah e.P==p).map λe=>nameOf e.P
def list(t:List En)(p:Bs):List Bs×Int:=if bg t p≠0 then([],bg t p)else(names t p,0)
def without(t:List En)(p:Bs):List En:=t.filter λe=>e.P !=p
def full(t:List En)(p:Bs):Bool:=t.any λe=>under e.P p
def removeErr(t:List En)(p:Bs):Int:=
 if(wrong t false).1≠0 then(wrong t false).1 else if p=[]\/get t p=none then 6 else if full t p=true then 11 else 0
def remove(t:List En)(p:Bs):List En×Int:=if removeErr t p≠0 then([],removeErr t p)else(without t p,0)
theorem lN{s d:Bs}(hd:d≠[])(h:under s d=true):d.length<s.length:=by
 obtain⟨r,rfl⟩:=(under_iff hd).1 h;simp
theorem ja{s d:Bs}(hd:d≠[])(h:under s d=true):ah s≠[]/\(ah s=d\/under (ah s) d=true):=by
 obtain⟨r,g,e⟩:=(pM hd).1 h;obtain⟨q,n,b⟩:∃q n,r=q++[n]:=by
  rcases tO r with h|⟨q,n,h⟩
  ·exact absurd h g
  exact⟨q,n,by rw[h,p8]⟩
 subst b;have a:ah s=glue (split d++q):=by
  unfold ah;rw[e,<-List.append_assoc,List.dropLast_concat]
 by_cases c:q=[]
 ·subst c
  rw[ky,bQ]at a;exact⟨by rw[a];exact hd,.inl a⟩
 rw[pK (dK d) c,bQ]at a;refine⟨by rw[a];simp,.inr ?_⟩
 rw[a];exact(under_iff hd).2 ⟨_,rfl⟩
theorem FH{s d:Bs}(hd:d≠[])(h:ah s=d):under s d=true:=by
 subst h;exact qK hd
theorem oH{b:Bool}{t:List En}(h:Right b t){q:Bs}(hq:q≠[]):∀(n:Nat) {x:En},x∈t->x.P.length<=n->under x.P q=true->(∃d∈t,d.P=q/\d.k=2)/\∃c∈t,ah c.P=q
 |0,x,_,hn,hu=>by have:=lN hq hu;omega
 |n+1,x,hx,hn,hu=>by
  obtain⟨j,a⟩:=ja hq hu;have l:=aI (bu h hx)
  rcases h.2.2 x hx with e|⟨d,g,e,i⟩
  ·exact absurd e j
  ·rcases a with a|a
   ·exact⟨⟨d,g,e.trans a,i⟩,x,hx,a⟩
   ·exact oH h hq n g (by rw[e];omega) (by rw[e];exact a)
theorem uV{b:Bool}{t:List En}(h:Right b t){q:Bs}(hq:q≠[]){x:En}(hx:x∈t)(hu:under x.P q=true):∃d∈t,d.P=q/\d.k=2:=(oH h hq _ hx aR hu).1
theorem Jy{t:List En}(h:Right false t){p:Bs}(hp:p≠[]):full t p= !(names t p).isEmpty:=by
 unfold full names;rw[vR,nu,q9,E9,Ne,List.isEmpty_iff,List.map_eq_nil_iff]
 constructor
 ·rintro⟨x,b,k⟩ g
  obtain⟨c,l,a⟩:=(oH h hp _ b aR k).2;have:=List.filter_eq_nil_iff.1 g c l;rw[a,beq_self_eq_true]at this;exact this rfl
 intro g;obtain⟨x,r,i⟩:=List.exists_cons_of_ne_nil g;have b:x∈t.filter λe=>ah e.P==p:=by rw[i];simp
 obtain⟨j,a⟩:=List.mem_filter.1 b;exact⟨x,j,FH hp (by simpa using a)⟩
theorem NY{t:List En}(h:Srt t){k:Nat}(hk:k<t.length)(hp:t[k].P≠[]):full t t[k].P=if h:k+1<t.length then under t[k+1].P t[k].P else false:=by
 unfold full;rw[vR,nu];have g:∀{i j:Nat} (n:j<t.length) (m:i<j),cmp (t[i]'(by omega)).P t[j].P<0:=λ{i j} n m=>List.pairwise_iff_getElem.1 h i j _ n m
 constructor
 ·rintro⟨x,r,b⟩
  obtain⟨j,n,rfl⟩:=mq r;have p:=(order (c:=[]) hp b).1;have o:k<j:=by
   rcases Nat.lt_trichotomy k j with a|a|a
   ·exact a
   ·subst a;rw[dB]at p;omega
   exact absurd (g hk a) (lt_asymm p)
  rw[dif_pos (by omega)]
  rcases Cg (show k+1<=j from o)with e|a
  ·subst e;exact b
  have q:=g (i:=k) (j:=k+1) (by omega) (by omega)
  have u:=g n a
  rcases(order (c:=t[k+1].P) hp b).2 with l|l|l|l
  ·rw[l,dB]at q;omega
  ·exact l
  ·exact absurd q (lt_asymm l)
  omega
 intro b
 split at b
 ·rename_i a;exact⟨_,cz a,b⟩
 cases b
theorem put_ok{t:List En}{e:En}(h:putErr t e=0):t.length<=80/\Right false t/\entry e false=0/\(ah e.P=[]\/∃d∈t,d.P=ah e.P/\d.k=2)/\(∀x∈t,x.P=e.P->(x.k=2↔e.k=2))/\((∀x∈t,x.P≠e.P)->t.length<80):=by
 unfold putErr at h
 by_cases i:(wrong t false).1=0
 ·rw[av (by simp[i])]at h
  obtain⟨q,n⟩:=(az t false).1 i
  by_cases c:entry e false=0
  ·rw[av (by simp[c])]at h
   have p:=clean_ne (entry_clean c)
   by_cases a:bg t (ah e.P)=0
   ·rw[av (by simp[a])]at h
    refine⟨q,n,c,?_,λx o m=> ?_,λl=> ?_⟩
    ·by_cases j:ah e.P=[]
     ·exact .inl j
     unfold bg at a
     rcases g:get t (ah e.P)with _|d
     ·rw[g]at a;cases a
     rw[g]at a;dsimp only at a
     by_cases b:d.k=2
     ·exact .inr ⟨d,(get_some j g).1,(get_some j g).2,b⟩
     rw[aM b]at a;cases a
    ·unfold eF at h
     have g:=get_mem n.2.1 o (bu n o);rw[m]at g;rw[g]at h;dsimp only at h
     by_cases b:(x.k==2)=(e.k==2)
     ·rw[vR,p9,p9]at b;exact b
     rw[aM b]at h;cases h
    unfold eF at h;rw[(get_none p).2 l]at h;dsimp only at h
    by_cases r:t.length=80
    ·rw[aM r]at h;cases h
    omega
   rw[aM a]at h;exact absurd h a
  rw[aM c]at h;exact absurd h c
 rw[aM i]at h;exact absurd h i
theorem wJ{e:En}:∀{t:List En},Srt t->(∀x∈t,x.P≠e.P)->(ins e t).length=t.length+1
 |[],_,_=>rfl
 |y::r,hs,h=>by
  unfold ins
  split
  ·rw[gL,wJ (gI hs) (λx hx=>h x (by simp[hx])),gL]
  ·rw[av (h y (by simp))];rfl
theorem wK{e:En}:∀{t:List En},Srt t->(∃x∈t,x.P=e.P)->(ins e t).length=t.length
 |[],_,h=>by obtain⟨x,hx,_⟩:=h;cases hx
 |y::r,hs,h=>by
  unfold ins
  split
  ·rename_i h1
   have:∃x∈r,x.P=e.P:=by
    obtain⟨x,hx,a⟩:=h
    rcases List.mem_cons.1 hx with rfl|hx
    ·rw[a,dB]at h1;omega
    ·exact⟨x,hx,a⟩
   rw[gL,wK (gI hs) this,gL]
  ·rename_i h1
   by_cases a:y.P=e.P
   ·rw[aM a];rfl
   ·exfalso
    obtain⟨x,hx,b⟩:=h
    rcases List.mem_cons.1 hx with rfl|hx
    ·exact a b
    ·exact h1 (b▸eG hs x hx)
theorem Uw{t:List En}{e:En}(h:putErr t e=0):(ins e t).length<=80:=by
 obtain⟨i,a,_,_,_,j⟩:=put_ok h
 by_cases b:∃x∈t,x.P=e.P
 ·rw[wK a.2.1 b];exact i
 have c:∀x∈t,x.P≠e.P:=λx g k=>b ⟨x,g,k⟩
 rw[wJ a.2.1 c];have:=j c;omega
theorem get_ins_same{t:List En}{e:En}(h:Srt t)(hp:e.P≠[]):get (ins e t) e.P=some e:=(get_iff (iq h) hp).2 ⟨(dG h e).2 (.inl rfl),rfl⟩
theorem get_ins_other{t:List En}{e:En}(h:Srt t){q:Bs}(hq:q≠e.P):get (ins e t) q=get t q:=by
 by_cases a:q=[]
 ·subst a;rw[dL,dL]
 rcases g:get t q with _|x
 ·rw[get_none a]
  intro x b
  rcases(dG h x).1 b with rfl|⟨b,_⟩
  ·exact λe=>hq e.symm
  exact(get_none a).1 g x b
 obtain⟨i,c⟩:=get_some a g;exact(get_iff (iq h) a).2 ⟨(dG h x).2 (.inr ⟨i,by rw[c];exact hq⟩),c⟩
theorem BH{t:List En}{p:Bs}(h:removeErr t p=0):t.length<=80/\Right false t/\p≠[]/\get t p≠none/\full t p=false:=by
 unfold removeErr at h
 by_cases b:(wrong t false).1=0
 ·rw[av (by simp[b])]at h
  obtain⟨g,i⟩:=(az t false).1 b
  by_cases a:p=[]\/get t p=none
  ·rw[aM a]at h;cases h
  rw[av a]at h
  rcases c:full t p with _|_
  ·exact⟨g,i,λe=>a (.inl e),λe=>a (.inr e),rfl⟩
  rw[c]at h;cases h
 rw[aM b]at h;exact absurd h b
theorem wL{t:List En}{p:Bs}{e:En}:e∈without t p↔e∈t/\e.P≠p:=by
 unfold without;simp
theorem get_without_other{t:List En}(h:Srt t){p q:Bs}(hq:q≠p):get (without t p) q=get t q:=by
 by_cases a:q=[]
 ·subst a;rw[dL,dL]
 rcases g:get t q with _|x
 ·rw[get_none a]
  exact λx c=>(get_none a).1 g x (wL.1 c).1
 obtain⟨e,b⟩:=get_some a g;exact(get_iff (aY h _) a).2 ⟨wL.2 ⟨e,by rw[b];exact hq⟩,b⟩
theorem FK(t:List En)(p:Bs):(without t p).length<=t.length:=ko _ _
end Tr
def Tr.outside(l:List En)(p:Pt.Bs):List En:=l.filter λe=>e.P !=p&& !Pt.under e.P p
theorem FM{l:List En}{p:Pt.Bs}{k:Nat}(hk:k<l.length)(h1:l[k].P≠p)(h2:Pt.under l[k].P p=false):Tr.outside (l.take (k+1)) p=Tr.outside (l.take k) p++[l[k]]:=by
 unfold Tr.outside;rw[aF hk,j3];simp[h1,h2]
theorem Jz{l:List En}{p:Pt.Bs}{k:Nat}(hk:k<l.length)(h:l[k].P=p\/Pt.under l[k].P p=true):Tr.outside (l.take (k+1)) p=Tr.outside (l.take k) p:=by
 unfold Tr.outside;rw[aF hk,j3];have:(l[k].P !=p&& !Pt.under l[k].P p)=false:=by
  rcases h with h|h
  ·rw[h];simp
  rw[h];simp
 simp[this]
theorem fF(l:List En)(p:Pt.Bs):(Tr.outside l p).length<=l.length:=ko _ _
theorem o8{l:List En}{p:Pt.Bs}(h:Tr.full l p=false):Tr.outside l p=Tr.without l p:=by
 unfold Tr.outside Tr.without;refine List.filter_congr λe a=> ?_
 unfold Tr.full at h;rw[GQ]at h;have:=h e a;rw[Bool.not_eq_true]at this;rw[this];simp
namespace Tr
open Pt
def iV(t:List En)(x:En)(d:Bs):Int:=match get t d with
 |none=>0
 |some y=>if x.k≠2/\y.k=2 then 9 else if x.k=2/\y.k≠2 then 10 else if(list t d).2=0/\(list t d).1≠[]then 11 else 0
def bM(t:List En)(s d:Bs):Int:=
 if get t s=none\/s=[]then 6 else if clean d=false then 7 else if s=d then 0 else if under d s=true then 8 else
 if bg t (ah d)≠0 then bg t (ah d)else iV t ((get t s).getD En.zero) d
def ren(s d q:Bs):Bs:=if q=s then d else if under q s=true then d++q.drop s.length else q
def dH(s d:Bs)(e:En):En:=if e.P=s then⟨⟨d.toArray⟩,e.k,e.t,e.o⟩else if under e.P s=true then⟨⟨(d++e.P.drop s.length).toArray⟩,e.k,e.t,e.o⟩else e
theorem gK(s d:Bs)(e:En):(dH s d e).P=ren s d e.P:=by
 unfold dH ren
 split
 ·rfl
 split<;>rfl
def stays(s d:Bs)(e:En):Bool:=e.P==s||under e.P s||e.P !=d
def movedL(t:List En)(s d:Bs):List En:=(t.filter (stays s d)).map (dH s d)
def sortL(l:List En):List En:=aV l []
def moveErr(t:List En)(s d:Bs):Int:=
 if(wrong t false).1≠0 then(wrong t false).1 else if bM t s d≠0 then bM t s d else if(movedL t s d).any (λe=> !clean e.P)=true then 4 else 0
def move(t:List En)(s d:Bs):List En×Int:=if moveErr t s d≠0 then([],moveErr t s d)else(sortL (movedL t s d),0)
def mv(s q:Bs):Prop:=q=s\/under q s=true
instance(s q:Bs):Decidable (mv s q):=inferInstanceAs (Decidable (_\/_))
theorem dM{s q:Bs}(hs:s≠[])(h:mv s q):∃r,q=s++r/\(r=[]\/∃r',r=47::r'):=by
 rcases h with h|h
 ·exact⟨[],by rw[h,ky],.inl rfl⟩
 obtain⟨r,e⟩:=(under_iff hs).1 h;exact⟨47::r,e,.inr ⟨r,rfl⟩⟩
theorem Qp{s r:Bs}(hs:s≠[])(h:r=[]\/∃r',r=47::r'):mv s (s++r):=by
 rcases h with rfl|⟨r',rfl⟩
 ·exact .inl (ky s)
 exact .inr ((under_iff hs).2 ⟨r',rfl⟩)
theorem yg{s d q:Bs}(h:mv s q):ren s d q=d++q.drop s.length:=by
 unfold ren
 by_cases e:q=s
 ·rw[aM e,e,oF,ky]
 rw[av e,aM (h.resolve_left e)]
theorem kG{s d r:Bs}(hs:s≠[])(h:r=[]\/∃r',r=47::r'):ren s d (s++r)=d++r:=by
 rw[yg (Qp hs h),List.drop_left]
theorem jy{s d q:Bs}(h:¬mv s q):ren s d q=q:=by
 unfold ren;rw[av (λe=>h (.inl e)),av (λe=>h (.inr e))]
theorem pR{s q:Bs}(hs:s≠[]):ren s s q=q:=by
 by_cases h:mv s q
 ·obtain⟨r,rfl,a⟩:=dM hs h
  exact kG hs a
 exact jy h
theorem stays_iff{s d:Bs}{e:En}:stays s d e=true↔mv s e.P\/e.P≠d:=by
 unfold stays mv;rw[Cq,Cq,p9,Dg]
theorem iO{t:List En}{s d:Bs}(h:bM t s d=0):∃x,get t s=some x/\s≠[]/\clean d=true/\(s=d\/(under d s=false/\bg t (ah d)=0/\iV t x d=0)):=by
 unfold bM at h
 by_cases a:get t s=none\/s=[]
 ·rw[aM a]at h;cases h
 rw[av a]at h
 rcases j:get t s with _|x
 ·exact absurd (.inl j) a
 rw[j]at h
 by_cases c:clean d=false
 ·rw[aM c]at h;cases h
 rw[av c]at h;refine⟨x,rfl,λe=>a (.inr e),by simpa using c,?_⟩
 by_cases i:s=d
 ·exact .inl i
 rw[av i]at h
 by_cases g:under d s=true
 ·rw[aM g]at h;cases h
 rw[av g]at h
 by_cases b:bg t (ah d)=0
 ·rw[av (by simp[b])]at h
  exact .inr ⟨by simpa using g,b,h⟩
 rw[aM b]at h;exact absurd h b
theorem uX{t:List En}{x:En}{d:Bs}(ht:Right false t)(hd:d≠[])(h:iV t x d=0):∀y∈t,under y.P d=false:=by
 intro y o
 rcases p:under y.P d with _|_
 ·rfl
 exfalso
 obtain⟨⟨e,m,g,a⟩,c,q,i⟩:=oH ht hd _ o aR p;have j:get t d=some e:=(get_iff ht.2.1 hd).2 ⟨m,g⟩;have n:list t d=(names t d,0):=by
  unfold list bg;rw[j];simp[a]
 unfold iV at h;rw[j,n]at h;dsimp only at h;have b:names t d≠[]:=by
  unfold names;intro b;rw[List.map_eq_nil_iff]at b;have:=List.filter_eq_nil_iff.1 b c q;rw[i,beq_self_eq_true]at this;exact this rfl
 rw[a]at h
 by_cases l:x.k=2
 ·rw[av (λh=>h.1 l),av (λh=>h.2 rfl),aM ⟨rfl,b⟩]at h;cases h
 rw[aM ⟨l,rfl⟩]at h;cases h
theorem ren_inj{t:List En}{s d:Bs}(ht:Right false t)(h:bM t s d=0){x y:En}(hx:x∈t)(hy:y∈t)(hxs:stays s d x=true)(hys:stays s d y=true)(he:ren s d x.P=ren s d y.P):x.P=y.P:=by
 obtain⟨z,_,a,p,v⟩:=iO h
 rcases v with rfl|⟨_,_,l⟩
 ·rw[pR a,pR a]at he;exact he
 have b:=uX ht (clean_ne p) l;have c:∀{x y:En},y∈t->mv s x.P->¬mv s y.P->stays s d y=true->ren s d x.P=ren s d y.P->False:=by
  intro x y hy u q k he;obtain⟨r,e,i⟩:=dM a u;rw[e,kG a i,jy q]at he
  rcases i with rfl|⟨n,rfl⟩
  ·rw[ky]at he
   exact((stays_iff.1 k).resolve_left q) he.symm
  have:=b y hy;rw[(under_iff (clean_ne p)).2 ⟨n,he.symm⟩]at this
  cases this
 by_cases j:mv s x.P<;>by_cases g:mv s y.P
 ·obtain⟨r,e,i⟩:=dM a j
  obtain⟨n,o,m⟩:=dM a g;rw[e,o,kG a i,kG a m]at he;rw[e,o,List.append_cancel_left he]
 ·exact(c hy j g hys he).elim
 ·exact(c hx g j hxs he.symm).elim
 rwa [jy j,jy g]at he
theorem JA{l:List En}(h:Srt l):l.Pairwise λx y=>x.P≠y.P:=Hd (λh e=>by rw[e,dB]at h;omega) h
theorem yh{t:List En}{s d:Bs}(ht:Right false t)(h:bM t s d=0):(movedL t s d).Pairwise λx y=>x.P≠y.P:=by
 unfold movedL;rw[Ct];refine Da (λ{a b} ha l c e=> ?_) (Cx _ (JA ht.2.1))
 rw[gK,gK]at e;obtain⟨j,i⟩:=List.mem_filter.1 ha;obtain⟨g,k⟩:=List.mem_filter.1 l;exact c (ren_inj ht h j g i k e)
theorem qM:∀{xs a:List En},(xs.Pairwise λx y=>x.P≠y.P)->Srt a->(∀x∈xs,∀y∈a,x.P≠y.P)->∀e,e∈aV xs a↔e∈xs\/e∈a
 |[],a,_,_,_,e=>by simp[aV]
 |x::xs,a,hx,ha,hd,e=>by
  obtain⟨hx1,hx2⟩:=List.pairwise_cons.1 hx;have h:=qM hx2 (iq (x:=x) ha) (λy g z c=>by
   rcases(dG ha z).1 c with rfl|⟨c,_⟩
   ·exact λe=>hx1 y g e.symm
   ·exact hd y (by simp[g]) z c) e
  show e∈aV xs (ins x a)↔_
  rw[h,dG ha,iX]
  constructor
  ·rintro(b|rfl|⟨b,_⟩)
   ·exact .inl (.inr b)
   ·exact .inl (.inl rfl)
   ·exact .inr b
  ·rintro((rfl|b)|b)
   ·exact .inr (.inl rfl)
   ·exact .inl b
   ·exact .inr (.inr ⟨b,λi=>hd x (by simp) e b i.symm⟩)
theorem uY{l:List En}(h:l.Pairwise λx y=>x.P≠y.P)(e:En):e∈sortL l↔e∈l:=by
 unfold sortL;rw[qM h DR (λ_ _ _ h=>(nomatch h))]
 simp
theorem qN(l:List En):Srt (sortL l):=fD DR
theorem NZ{l m:List En}(hne:l.Pairwise λx y=>x.P≠y.P)(hp:m.Perm l)(hs:m.Pairwise λx y=>¬cmp y.P x.P<0):m=sortL l:=by
 have c:m.Pairwise λx y=>x.P≠y.P:=(hp.symm.pairwise_iff (λh e=>h e.symm)).1 hne
 refine oC (List.Pairwise.imp₂ (λ{a b} (g:¬cmp b.P a.P<0) (h2:a.P≠b.P)=>yc g (Fy h2)) hs c) (qN l) λe=> ?_
 rw[hp.mem_iff,uY hne]
end Tr
namespace Tr
open Pt
theorem yj{x y:En}(h:x.P=y.P)(hk:x.k=y.k)(ht:x.t=y.t)(ho:x.o=y.o):x=y:=by
 obtain⟨a,b,c,d⟩:=x;obtain⟨g,n,l,j⟩:=y;have m:a=g:=ik h;have e:b=n:=hk;have p:c=l:=ht;have i:d=j:=ho;subst m e p i;rfl
theorem su(s d:Bs)(e:En):(dH s d e).k=e.k:=by
 unfold dH
 split
 ·rfl
 split<;>rfl
theorem uZ(s d:Bs)(e:En):(dH s d e).t=e.t:=by
 unfold dH
 split
 ·rfl
 split<;>rfl
theorem JB(s d:Bs)(e:En):(dH s d e).o=e.o:=by
 unfold dH
 split
 ·rfl
 split<;>rfl
theorem qO{s d:Bs}{e e':En}(hP:e'.P=ren s d e.P)(hk:e'.k=e.k)(ht:e'.t=e.t)(ho:e'.o=e.o):dH s d e=e':=
 yj (by rw[gK,hP]) (by rw[su,hk]) (by rw[uZ,ht]) (by rw[JB,ho])
theorem jS{s d:Bs}{e:En}(h:ren s d e.P=e.P):dH s d e=e:=qO h.symm rfl rfl rfl
theorem jT{t:List En}{s d:Bs}{e:En}:e∈movedL t s d↔∃x∈t,stays s d x=true/\dH s d x=e:=by
 unfold movedL;rw[uL]
 constructor
 ·rintro⟨x,c,h⟩
  obtain⟨a,b⟩:=List.mem_filter.1 c;exact⟨x,a,b,h⟩
 rintro⟨x,a,b,h⟩;exact⟨x,List.mem_filter.2 ⟨a,b⟩,h⟩
theorem nP{t:List En}{s d:Bs}(ht:Right false t)(h:bM t s d=0){e:En}:e∈sortL (movedL t s d)↔∃x∈t,stays s d x=true/\dH s d x=e:=by
 rw[uY (yh ht h),jT]
theorem DU(x:En):∀l:List En,(ins x l).length<=l.length+1
 |[]=>by simp[ins]
 |y::r=>by
  unfold ins;have:=DU x r
  split
  ·simp only[gL];omega
  ·split<;>simp
theorem iy:∀(xs a:List En),(aV xs a).length<=xs.length+a.length
 |[],a=>by simp[aV]
 |x::xs,a=>by
  have h1:=iy xs (ins x a);have b:=DU x a
  show(aV xs (ins x a)).length<=_
  rw[gL];omega
theorem FN(t:List En)(s d:Bs):(sortL (movedL t s d)).length<=t.length:=by
 have h:=iy (movedL t s d) [];have a:(movedL t s d).length<=t.length:=by unfold movedL;rw[ib];exact ko _ _
 unfold sortL;simp only[sw]at h;omega
theorem move_ok{t:List En}{s d:Bs}(h:moveErr t s d=0):t.length<=80/\Right false t/\bM t s d=0/\(∀e∈movedL t s d,clean e.P=true)/\move t s d=(sortL (movedL t s d),0):=by
 have c:move t s d=(sortL (movedL t s d),0):=by unfold move;rw[av (by simp[h])]
 unfold moveErr at h
 by_cases b:(wrong t false).1=0
 ·rw[av (by simp[b])]at h
  obtain⟨i,j⟩:=(az t false).1 b
  by_cases a:bM t s d=0
  ·rw[av (by simp[a])]at h
   refine⟨i,j,a,λe g=> ?_,c⟩
   rcases k:clean e.P with _|_
   ·rw[aM (List.any_eq_true.2 ⟨e,g,by rw[k];rfl⟩)]at h;cases h
   rfl
  rw[aM a]at h;exact absurd h a
 rw[aM b]at h;exact absurd h b
theorem BI{s d r:Bs}:∃r',(r'=[]\/∃q,r'=47::q)/\ah (s++47::r)=s++r'/\ah (d++47::r)=d++r':=by
 have a:∀x:Bs,ah (x++47::r)=glue (split x++(split r).dropLast):=λx=>by
  unfold ah;rw[nO,List.dropLast_append_of_ne_nil (dK r)]
 by_cases h:(split r).dropLast=[]
 ·refine⟨[],.inl rfl,?_,?_⟩
  ·rw[a,h,ky,bQ,ky]
  rw[a,h,ky,bQ,ky]
 refine⟨47::glue (split r).dropLast,.inr ⟨_,rfl⟩,?_,?_⟩
 ·rw[a,pK (dK s) h,bQ]
 rw[a,pK (dK d) h,bQ]
theorem lq{q s:Bs}(hs:s≠[])(hd:ah q≠[])(h:mv s (ah q)):under q s=true:=by
 have g:=qK hd;obtain⟨r,e⟩:=(under_iff hd).1 g;obtain⟨i,a,c⟩:=dM hs h;rw[under_iff hs]
 rcases c with rfl|⟨b,rfl⟩
 ·exact⟨r,by rw[e,a,ky]⟩
 exact⟨b++47::r,by rw[e,a];simp⟩
theorem yl{t:List En}{d:Bs}(h:bg t d=0):d=[]\/∃x∈t,x.P=d/\x.k=2:=by
 by_cases a:d=[]
 ·exact .inl a
 unfold bg at h
 rcases g:get t d with _|x
 ·rw[g]at h;cases h
 rw[g]at h;dsimp only at h
 by_cases b:x.k=2
 ·exact .inr ⟨x,(get_some a g).1,(get_some a g).2,b⟩
 rw[aM b]at h;cases h
theorem u_{t:List En}{s:Bs}(ht:Right false t)(h:bM t s s=0):sortL (movedL t s s)=t:=by
 obtain⟨_,_,b,_,_⟩:=iO h;refine oC (qN _) ht.2.1 λe=> ?_
 rw[nP ht h]
 constructor
 ·rintro⟨x,g,_,rfl⟩
  rw[jS (pR b)];exact g
 intro c;refine⟨e,c,stays_iff.2 ?_,jS (pR b)⟩
 by_cases a:e.P=s
 ·exact .inl (.inl a)
 exact .inr a
theorem JC{t:List En}{s d:Bs}(h:moveErr t s d=0):Right false (sortL (movedL t s d)):=by
 obtain⟨_,b,v,E,_⟩:=move_ok h;obtain⟨z,Z,m,L,O⟩:=iO v
 rcases O with rfl|⟨I,A,p⟩
 ·rw[u_ b v];exact b
 have n:=uX b (clean_ne L) p;refine⟨λe D=> ?_,qN _,λe D=> ?_⟩
 ·obtain⟨x,u,o,rfl⟩:=(nP b v).1 D
  obtain⟨K,_,Q,G⟩:=(bK x false).1 (b.1 x u);refine(bK _ _).2 ⟨?_,E _ (jT.2 ⟨x,u,o,rfl⟩),?_,?_⟩
  ·unfold lC at K ⊢;rw[su];exact K
  ·rw[uZ];exact Q
  unfold lX at G ⊢;rw[su,uZ,JB];exact G
 obtain⟨x,u,o,rfl⟩:=(nP b v).1 D;rw[gK];have l:∀y∈t,¬mv s y.P->y.P≠d->y∈sortL (movedL t s d):=λy j V M=>
  (nP b v).2 ⟨y,j,stays_iff.2 (.inr M),jS (jy V)⟩
 by_cases i:mv s x.P
 ·obtain⟨r,e,U⟩:=dM m i
  rcases U with rfl|⟨F,rfl⟩
  ·rw[e,kG m (.inl rfl),ky]
   rcases yl A with q|⟨y,j,a,g⟩
   ·exact .inl q
   have k:ah d≠[]:=by rw[<-a];exact bu b j
   refine .inr ⟨y,l y j (λc=> ?_) (λB=> ?_),a,g⟩
   ·rw[a]at c
    rw[lq m k c]at I;cases I
   have:=aI (clean_ne L);rw[<-a,B]at this;omega
  obtain⟨W,w,Y,S⟩:=BI (s:=s) (d:=d) (r:=F);rw[e,kG m (.inr ⟨F,rfl⟩),S];have H:ah x.P=s++W:=by rw[e,Y]
  rcases b.2.2 x u with q|⟨y,j,a,g⟩
  ·rw[H]at q
   exact absurd (List.append_eq_nil_iff.1 q).1 m
  rw[H]at a;refine .inr ⟨dH s d y,(nP b v).2 ⟨y,j,stays_iff.2 (.inl (by rw[a];exact Qp m w)),rfl⟩,?_,by rw[su];exact g⟩
  rw[gK,a,kG m w]
 have N:=(stays_iff.1 o).resolve_left i;rw[jy i]
 rcases b.2.2 x u with q|⟨y,j,a,g⟩
 ·exact .inl q
 have k:ah x.P≠[]:=by rw[<-a];exact bu b j
 refine .inr ⟨y,l y j (λc=> ?_) (λB=> ?_),a,g⟩
 ·rw[a]at c
  exact i (.inr (lq m k c))
 have:=n x u;rw[<-B,a,qK k]at this;cases this
theorem move_get{t:List En}{s d q:Bs}(h:moveErr t s d=0)(hq:¬(q=d/\s≠d)){e:En}(he:get t q=some e):get (sortL (movedL t s d)) (ren s d q)=some (if mv s q then⟨⟨(ren s d q).toArray⟩,e.k,e.t,e.o⟩else e):=by
 obtain⟨_,x,m,_,_⟩:=move_ok h;obtain⟨z,D,v,B,A⟩:=iO m;have p:=JC h
 by_cases b:q=[]
 ·subst b
  have g:¬mv s []:=by
   intro j;obtain⟨r,e,_⟩:=dM v j;exact v (List.append_eq_nil_iff.1 e.symm).1
  rw[jy g,av g,dL,<-he,dL]
 obtain⟨w,c⟩:=get_some b he;have i:stays s d e=true:=stays_iff.2 (by
  by_cases l:q=d
  ·have:s=d:=by
    by_cases u:s=d
    ·exact u
    exact absurd ⟨l,u⟩ hq
   exact .inl (.inl (by rw[c,l,this]))
  exact .inr (by rw[c];exact l))
 have a:=(nP x m).2 ⟨e,w,i,rfl⟩;have n:(dH s d e).P=ren s d q:=by rw[gK,c]
 have y:get (sortL (movedL t s d)) (ren s d q)=some (dH s d e):=(get_iff p.2.1 (by rw[<-n];exact bu p a)).2 ⟨a,n⟩
 rw[y]
 congr 1
 split
 ·exact qO (by rw[c];rfl) rfl rfl rfl
 rename_i g
 exact jS (by rw[c];exact jy g)
end Tr
namespace Tr
open Pt
def au(l:List En)(s d:Bs):List En:=(l.filter λe=>decide (mv s e.P)).map (dH s d)
theorem dm{l:List En}{s d:Bs}{e:En}:e∈au l s d↔∃x∈l,mv s x.P/\dH s d x=e:=by
 unfold au;rw[uL]
 constructor
 ·rintro⟨x,c,h⟩
  obtain⟨a,b⟩:=List.mem_filter.1 c;exact⟨x,a,iA b,h⟩
 rintro⟨x,a,b,h⟩;exact⟨x,List.mem_filter.2 ⟨a,fw b⟩,h⟩
theorem bJ{l:List En}{p:Bs}{e:En}:e∈outside l p↔e∈l/\¬mv p e.P:=by
 unfold outside mv;rw[il,kI,Dg,q9,<-Bool.not_eq_true,not_or]
theorem oI{l:List En}{s d:Bs}{k:Nat}(hk:k<l.length)(h:mv s l[k].P):au (l.take (k+1)) s d=au (l.take k) s d++[dH s d l[k]]:=by
 unfold au;rw[aF hk,j3,vQ];simp[h]
theorem qP{l:List En}{s d:Bs}{k:Nat}(hk:k<l.length)(h:¬mv s l[k].P):au (l.take (k+1)) s d=au (l.take k) s d:=by
 unfold au;rw[aF hk,j3,vQ];simp[h]
theorem je(xs:List En)(x:En)(a:List En):aV (xs++[x]) a=ins x (aV xs a):=by
 unfold aV;rw[EA];rfl
theorem BJ(l:List En)(s d:Bs):(au l s d).length<=l.length:=by
 unfold au;rw[ib];exact ko _ _
theorem yu{x:En}:∀{l:List En} {e:En},e∈ins x l->e=x\/e∈l
 |[],e,h=>by simpa[ins]using h
 |y::r,e,h=>by
  unfold ins at h
  split at h
  ·rcases List.mem_cons.1 h with rfl|h
   ·exact .inr (by simp)
   ·rcases yu h with h|h
    ·exact .inl h
    ·exact .inr (by simp[h])
  ·split at h
   ·rcases List.mem_cons.1 h with rfl|h
    ·exact .inl rfl
    ·exact .inr (by simp[h])
   ·rcases List.mem_cons.1 h with rfl|h
    ·exact .inl rfl
    ·exact .inr h
theorem iP:∀{xs a:List En} {e:En},e∈aV xs a->e∈xs\/e∈a
 |[],_,_,h=> .inr h
 |x::xs,a,e,h=>by
  rcases iP (xs:=xs) (a:=ins x a) h with h|h
  ·exact .inl (by simp[h])
  ·rcases yu h with rfl|h
   ·exact .inl (by simp)
   ·exact .inr h
theorem N8{l:List En}{s:Bs}(hw:(wrong l false).1=0)(h:bM l s s=0):move l s s=(l,0):=by
 obtain⟨_,b⟩:=(az l false).1 hw;obtain⟨_,_,i,_,_⟩:=iO h;have a:moveErr l s s=0:=by
  unfold moveErr;rw[av (by simp[hw]),av (by simp[h]),av]
  intro g;obtain⟨e,a,c⟩:=List.any_eq_true.1 g;obtain⟨x,j,_,rfl⟩:=jT.1 a;rw[jS (pR i),entry_clean (b.1 x j)]at c;cases c
 unfold move;rw[av (by simp[a]),u_ b h]
theorem FO{l:List En}{s d:Bs}(hw:(wrong l false).1=0)(h:bM l s d=0){x:En}(hx:x∈l)(hm:mv s x.P)(hc:clean (dH s d x).P=false):move l s d=([],4):=by
 have a:moveErr l s d=4:=by
  unfold moveErr;rw[av (by simp[hw]),av (by simp[h]),aM]
  exact List.any_eq_true.2 ⟨_,jT.2 ⟨x,hx,stays_iff.2 (.inl hm),rfl⟩,by rw[hc];rfl⟩
 unfold move;rw[a];rfl
theorem tK{l:List En}{s d:Bs}(hw:(wrong l false).1=0)(h:bM l s d=0)(hsd:s≠d)(hc:∀e∈au l s d,clean e.P=true):move l s d=(aV (au l s d) (outside (outside l s) d),0):=by
 obtain⟨_,p⟩:=(az l false).1 hw;obtain⟨z,S,V,D,t⟩:=iO h;obtain⟨U,L,r⟩:=t.resolve_left hsd;have q:=uX p (clean_ne D) r;have c:∀e,e∈outside (outside l s) d↔e∈l/\¬mv s e.P/\e.P≠d:=λe=>by
  rw[bJ,bJ]
  constructor
  ·rintro⟨⟨t,o⟩,j⟩;exact⟨t,o,λe=>j (.inl e)⟩
  rintro⟨t,o,j⟩;refine⟨⟨t,o⟩,λi=> ?_⟩
  rcases i with i|i
  ·exact j i
  rw[q e t]at i;cases i
 have m:∀e,e∈movedL l s d↔e∈au l s d\/e∈outside (outside l s) d:=λe=>by
  rw[jT,dm,c]
  constructor
  ·rintro⟨x,k,B,rfl⟩
   by_cases g:mv s x.P
   ·exact .inl ⟨x,k,g,rfl⟩
   rw[jS (jy g)];exact .inr ⟨k,g,(stays_iff.1 B).resolve_left g⟩
  rintro(⟨x,k,g,rfl⟩|⟨k,g,F⟩)
  ·exact⟨x,k,stays_iff.2 (.inl g),rfl⟩
  exact⟨e,k,stays_iff.2 (.inr F),jS (jy g)⟩
 have n:(au l s d).Pairwise λx y=>x.P≠y.P:=by
  unfold au;rw[Ct];refine Da (λ{a b} ha H n u=> ?_) (Cx _ (JA p.2.1))
  rw[gK,gK]at u;obtain⟨O,Q⟩:=List.mem_filter.1 ha;obtain⟨G,N⟩:=List.mem_filter.1 H;exact n (ren_inj p h O G (stays_iff.2 (.inl (iA Q))) (stays_iff.2 (.inl (iA N))) u)
 have v:Srt (outside (outside l s) d):=aY (aY p.2.1 _) _;have w:∀x∈au l s d,∀y∈outside (outside l s) d,x.P≠y.P:=λx k y M e=>by
  obtain⟨x',A,g,rfl⟩:=dm.1 k;obtain⟨I,E,K⟩:=(c y).1 M;rw[gK]at e;have o:ren s d x'.P=ren s d y.P:=by rw[e,jy E]
  have j:=ren_inj p h A I (stays_iff.2 (.inl g)) (stays_iff.2 (.inr K)) o;rw[j]at g;exact E g
 have u:moveErr l s d=0:=by
  unfold moveErr;rw[av (by simp[hw]),av (by simp[h]),av]
  intro o;obtain⟨e,u,j⟩:=List.any_eq_true.1 o
  rcases(m e).1 u with i|i
  ·rw[hc e i]at j;cases j
  rw[entry_clean (p.1 e ((c e).1 i).1)]at j;cases j
 unfold move;rw[av (by simp[u])]
 have:sortL (movedL l s d)=aV (au l s d) (outside (outside l s) d):=oC (qN _) (fD v) λe=>by
  rw[uY (yh p h),m,qM n v w]
 rw[this]
theorem JD{l:List En}(ht:Right false l){d:Bs}(hd:d≠[]){y:En}(hg:get l d=some y):((list l d).2=0/\(list l d).1≠[])↔names l d≠[]:=by
 by_cases b:y.k=2
 ·have e:list l d=(names l d,0):=by
   unfold list bg;rw[hg];simp[b]
  rw[e];exact⟨λh=>h.2,λh=>⟨rfl,h⟩⟩
 have e:list l d=([],10):=by
  unfold list bg;rw[hg];simp[b]
 rw[e]
 constructor
 ·rintro⟨h,_⟩;cases h
 intro o
 exfalso
 obtain⟨x,r,n⟩:=List.exists_cons_of_ne_nil o;have j:x∈names l d:=by rw[n];simp
 unfold names at j;obtain⟨c,p,_⟩:=List.mem_map.1 j;obtain⟨q,m⟩:=List.mem_filter.1 p;have i:ah c.P=d:=by simpa using m
 rcases ht.2.2 c q with h|⟨z,t,a,g⟩
 ·exact hd (i.symm.trans h)
 rw[i]at a;have:=(get_iff ht.2.1 hd).2 ⟨t,a⟩;rw[hg]at this;injection this with this
 rw[this]at b;exact b g
end Tr
namespace Tr
open Pt
theorem xK{l m:List En}(hl:Srt l)(hm:Srt m)(nl:∀e∈l,e.P≠[])(nm:∀e∈m,e.P≠[])(h:∀p,p≠[]->get l p=get m p):l=m:=
 oC hl hm λe=>by
  constructor
  ·intro a
   have b:=h e.P (nl e a);rw[get_mem hl a (nl e a)]at b;exact(get_some (nl e a) b.symm).1
  ·intro a
   have b:=h e.P (nm e a);rw[get_mem hm a (nm e a)]at b;exact(get_some (nm e a) b).1
theorem tN{l m:List En}(h:∀q,q≠[]->bad l q=bad m q):∀(n:Nat) (q:Bs),q.length<=n->bP l q=bP m q
 |0,q,hq=>by
  have:q=[]:=List.length_eq_zero_iff.1 (Nat.le_zero.1 hq);subst this;rfl
 |n+1,q,hq=>by
  by_cases a:q=[]
  ·subst a;rfl
  ·have:=aI a
   rw[dC l a,dC m a,h q a,tN h n (ah q) (by omega)]
theorem sD{s q:Bs}(hs:s≠[])(h:mv s (ah q)):mv s q:=by
 by_cases a:ah q=[]
 ·rw[a]at h
  obtain⟨r,e,_⟩:=dM hs h;exact absurd (List.append_eq_nil_iff.1 e.symm).1 hs
 exact .inr (lq hs a h)
theorem tV{l m:List En}{s:Bs}(hs:s≠[])(h:∀q,q≠s->bad l q=bad m q):∀(n:Nat) (q:Bs),q.length<=n->¬mv s q->bP l q=bP m q
 |0,q,hq,_=>by
  have:q=[]:=List.length_eq_zero_iff.1 (Nat.le_zero.1 hq);subst this;rfl
 |n+1,q,hq,hm=>by
  by_cases a:q=[]
  ·subst a;rfl
  ·have:=aI a
   rw[dC l a,dC m a,h q (λe=>hm (.inl e)),tV hs h n (ah q) (by omega) (λe=>hm (sD hs e))]
theorem oJ{l:List En}{s:Bs}(hs:s≠[])(hb:bad l s=true):∀(n:Nat) (q:Bs),q.length<=n->mv s q->bP l q=true
 |0,q,hq,hm=>by
  have:q=[]:=List.length_eq_zero_iff.1 (Nat.le_zero.1 hq);subst this;obtain⟨r,e,_⟩:=dM hs hm;exact absurd (List.append_eq_nil_iff.1 e.symm).1 hs
 |n+1,q,hq,hm=>by
  have a:q≠[]:=by
   rintro rfl;obtain⟨r,e,_⟩:=dM hs hm;exact hs (List.append_eq_nil_iff.1 e.symm).1
  have h:=aI a;rw[dC l a]
  by_cases e:q=s
  ·rw[e,hb];rfl
  ·have c:=hm.resolve_left e
   obtain⟨i,b⟩:=ja hs c;have g:mv s (ah q):=b;rw[oJ hs hb n (ah q) (by omega) g,Dr]
def adj(U:List En)(e:En):En:=match get U e.P with
 |some y=>if e.k=2 then⟨e.p,e.k,e.t,y.o||y.k==4⟩else e
 |none=>e
def set1(U:List En)(e:En):List En:=ins (adj U e) U
theorem pU(U:List En)(e:En):(adj U e).P=e.P:=by
 unfold adj
 split
 ·split<;>rfl
 rfl
theorem Mc(U:List En)(e:En):(adj U e).k=e.k:=by
 unfold adj
 split
 ·split<;>rfl
 rfl
theorem Qq(U:List En)(e:En):(adj U e).t=e.t:=by
 unfold adj
 split
 ·split<;>rfl
 rfl
theorem N9{U:List En}{e:En}(ho:e.o=false):(adj U e).clear=e:=by
 unfold adj
 split
 ·split
  ·exact yj rfl rfl rfl ho.symm
  exact yj rfl rfl rfl ho.symm
 exact yj rfl rfl rfl ho.symm
theorem N_{U:List En}{e:En}(he:entry e false=0):entry (adj U e) true=0:=by
 have b:=Fz he;unfold adj
 split
 ·split
  ·rename_i hk
   obtain⟨c,g,h,a⟩:=(bK e true).1 b;refine(bK _ _).2 ⟨c,g,h,?_⟩
   unfold lX at a ⊢;rw[mU,mU]at a;dsimp only;rw[a.1.1,a.1.2,hk];simp
  exact b
 exact b
theorem sF{U B:List En}{e:En}(hU:Right true U)(hB:Right false B)(he:entry e false=0)(DV:ah e.P=[]\/∃d∈U,d.P=ah e.P/\d.k=2)(hkind:∀y,get (aJ U B) e.P=some y->(y.k=2↔e.k=2)):Right true (set1 U e):=by
 have q:=clean_ne (entry_clean he);have a:=dG (x:=adj U e) hU.2.1;rw[pU]at a;have j:∀d∈U,d.k=2->∃d'∈set1 U e,d'.P=d.P/\d'.k=2:=λd g l=>by
  by_cases b:d.P=e.P
  ·have i:=jw hU hB q g b
   rw[av (by rw[l];decide)]at i
   exact⟨adj U e,(a _).2 (.inl rfl),by rw[pU,b],by rw[Mc];exact(hkind _ i).1 l⟩
  exact⟨d,(a d).2 (.inr ⟨g,b⟩),rfl,l⟩
 refine⟨λx c=> ?_,iq hU.2.1,λx c=> ?_⟩
 ·rcases(a x).1 c with rfl|⟨c,_⟩
  ·exact N_ he
  exact hU.1 x c
 rcases(a x).1 c with rfl|⟨c,_⟩
 ·rw[pU]
  rcases DV with h|⟨d,g,n,i⟩
  ·exact .inl h
  obtain⟨d',p,m,o⟩:=j d g i;exact .inr ⟨d',p,m.trans n,o⟩
 rcases hU.2.2 x c with h|⟨d,g,n,i⟩
 ·exact .inl h
 obtain⟨d',p,m,o⟩:=j d g i;exact .inr ⟨d',p,m.trans n,o⟩
end Tr
namespace Tr
open Pt
theorem yw{l:List En}{q:Bs}{y:En}(h:get l q=some y):bad l q=(y.k !=2||y.o):=by unfold bad;rw[h]
theorem Qr{l:List En}{q:Bs}(h:get l q=none):bad l q=false:=by unfold bad;rw[h]
theorem yA{l:List En}{q:Bs}(h:get l q=none):own l q=false:=by unfold own;rw[h]
theorem BK{U B:List En}{e:En}(hU:Right true U)(hB:Right false B)(he:entry e false=0)(DV:ah e.P=[]\/∃d∈U,d.P=ah e.P/\d.k=2)(hkind:∀y,get (aJ U B) e.P=some y->(y.k=2↔e.k=2)):aJ (set1 U e) B=ins e (aJ U B):=by
 have j:=clean_ne (entry_clean he);have F:=sF hU hB he DV hkind;have u:=fE hU hB;have w:=fE F hB;have V:=oD he;have hs1:Srt (set1 U e):=F.2.1;have b:get (set1 U e) e.P=some (adj U e):=by
  have h:=get_ins_same (e:=adj U e) hU.2.1 (by rw[pU];exact j)
  rw[pU]at h;exact h
 have c:∀q,q≠e.P->get (set1 U e) q=get U q:=λq N=>get_ins_other (e:=adj U e) hU.2.1 (by rw[pU];exact N)
 have i:∀q,q≠e.P->bad (set1 U e) q=bad U q:=λq N=>by unfold bad;rw[c q N]
 have hi:=dG (x:=e) u.2.1;refine xK w.2.1 (iq u.2.1) (λx A=>bu w A) (λx A=>by
  rcases(hi x).1 A with rfl|⟨A,_⟩
  ·exact j
  exact bu u A) λp a=> ?_
 by_cases l:p=e.P
 ·subst l
  rw[get_ins_same u.2.1 j];have L:adj U e∈set1 U e:=(get_some j b).1;have M:=jw F hB j L (pU U e);have O:e.k≠4:=by have:=(rY he).2.2 rfl;omega
  rw[M,av (by rw[Mc];exact O),N9 V]
 rw[get_ins_other u.2.1 l]
 rcases g:get U p with _|y
 ·have K:get (set1 U e) p=none:=by rw[c p l,g]
  have n1:=(get_none a).1 g;have n2:=(get_none a).1 K;rw[lY hU hB a n1,lY F hB a n2];have Z:own (set1 U e) p=own U p:=by rw[yA g,yA K]
  by_cases n:bad (set1 U e) e.P=bad U e.P
  ·have E:∀q,q≠[]->bad (set1 U e) q=bad U q:=λq _=>by
    by_cases h:q=e.P
    ·rw[h];exact n
    exact i q h
   unfold hides;rw[Z,tN E _ _ aR]
  have Y:get U e.P=none:=by
   rcases Q:get U e.P with _|y
   ·rfl
   exfalso
   apply n
   rw[yw b,yw Q,Mc];obtain⟨H,G⟩:=get_some j Q
   by_cases m:e.k=2
   ·have ha:adj U e=⟨e.p,e.k,e.t,y.o||y.k==4⟩:=by unfold adj;rw[Q];exact aM m
    rw[ha,m]
    by_cases v:y.k=4
    ·rw[v];simp
    have r:=jw hU hB j H G;rw[av v]at r;have I:y.k=2:=(hkind _ r).2 m;rw[I];simp
   have h5:y.k≠2:=λh=>by
    have r:=jw hU hB j H G;rw[av (by rw[h];decide)]at r
    exact m ((hkind _ r).1 h)
   rw[bne_iff_ne.2 m,bne_iff_ne.2 h5,vo,vo]
  have ha:adj U e=e:=by unfold adj;rw[Y]
  have m:e.k≠2:=λh=>n (by rw[yw b,Qr Y,ha,h,V];rfl)
  have D:bad (set1 U e) e.P=true:=by rw[yw b,ha];simp[m]
  by_cases L:mv e.P p
  ·have W:=L.resolve_left l
   have h1:hides (set1 U e) p=true:=by
    unfold hides;rw[oJ j D _ (ah p) aR (ja j W).2,Dr]
   rw[h1,aM rfl];have M:get (aJ U B) p=none:=by
    rcases r:get (aJ U B) p with _|z
    ·rfl
    exfalso
    obtain⟨z1,z2⟩:=get_some a r;obtain⟨d,d1,S,d3⟩:=uV u j z1 (by rw[z2];exact W)
    have I:=get_mem u.2.1 d1 (by rw[S];exact j)
    rw[S]at I;exact m ((hkind _ I).1 d3)
   rw[<-lY hU hB a n1,M]
  have hd:¬mv e.P (ah p):=λh=>L (sD j h)
  unfold hides;rw[Z,tV j i _ (ah p) aR hd]
 obtain⟨H,G⟩:=get_some a g;have K:get (set1 U e) p=some y:=by rw[c p l,g]
 obtain⟨y3,_⟩:=get_some a K;rw[jw hU hB a H G,jw F hB a y3 G]
end Tr
namespace Tr
open Pt
def jA(U:List En)(d:Bs):Bool:=match get U d with
 |some y=>y.k==2
 |none=>false
def eP(d:Bs):En:=⟨⟨d.toArray⟩,2,⟨#[]⟩,false⟩
theorem lD(d:Bs):(eP d).P=d:=rfl
def jL:Nat->List En->En->List En
 |0,U,e=>set1 U e
 |n+1,U,e=>set1 (if ah e.P≠[]/\jA U (ah e.P)=false then jL n U (eP (ah e.P))else U) e
theorem Md{e:En}{l:List En}(h:Srt l)(he:e∈l):ins e l=l:=oC (iq h) h λx=>by
 rw[dG h]
 constructor
 ·rintro(rfl|⟨c,_⟩)
  ·exact he
  ·exact c
 ·intro b
  by_cases a:x.P=e.P
  ·exact .inl (pO h b he a)
  ·exact .inr ⟨b,a⟩
theorem BL{d:En}(h:entry d false=0)(hk:d.k=2):d=eP d.P:=by
 obtain⟨_,_,_,a⟩:=(bK d false).1 h;refine yj rfl hk ?_ (oD h)
 unfold lX at a;rw[hk]at a;have c:d.t.size=0:=by
  rcases b:(d.t.size !=0)with _|_
  ·simpa using b
  rw[b]at a;simp at a
 refine ik ?_
 have:d.t.data.toList.length=0:=by simpa using c
 rw[List.length_eq_zero_iff.1 this];rfl
theorem BM{U:List En}{d:Bs}(hd:d≠[])(h:jA U d=true):∃y∈U,y.P=d/\y.k=2:=by
 unfold jA at h
 rcases g:get U d with _|y
 ·rw[g]at h;cases h
 rw[g]at h;obtain⟨b,a⟩:=get_some hd g;exact⟨y,b,a,by simpa using h⟩
theorem ve{B:List En}(hB:Right false B):∀(n:Nat) {U:List En} {e:En},e.P.length<=n->Right true U->entry e false=0->(ah e.P=[]\/∃d∈aJ U B,d.P=ah e.P/\d.k=2)->(∀y,get (aJ U B) e.P=some y->(y.k=2↔e.k=2))->
  Right true (jL n U e)/\aJ (jL n U e) B=ins e (aJ U B)/\∃y∈jL n U e,y.P=e.P/\y.k=e.k
 |0,U,e,hn,_,he,_,_=>absurd (List.length_eq_zero_iff.1 (Nat.le_zero.1 hn)) (clean_ne (entry_clean he))
 |n+1,U,e,hn,hU,he,DV,hkind=>by
  have hS:=fE hU hB;have z:=clean_ne (entry_clean he);have c:∀X,Srt X->∃y∈set1 X e,y.P=e.P/\y.k=e.k:=λX v=>⟨adj X e,(dG v _).2 (.inl rfl),pU X e,Mc X e⟩
  unfold jL
  by_cases l:ah e.P≠[]/\jA U (ah e.P)=false
  ·rw[aM l]
   obtain⟨d,h,q,r⟩:=DV.resolve_left l.1;have a:=BL (hS.1 d h) r;rw[q]at a;have A:=aI z;have m:∀y,get (aJ U B) (eP (ah e.P)).P=some y->(y.k=2↔(eP (ah e.P)).k=2):=λy g=>by
    rw[<-a]at g ⊢;have:=get_mem hS.2.1 h (bu hS h);rw[this]at g;injection g with g
    rw[g]
   obtain⟨j,p,t⟩:=ve hB n (U:=U) (e:=eP (ah e.P)) (by rw[lD];omega) hU (by rw[<-a];exact hS.1 d h) (by
    rw[<-a];exact hS.2.2 d h) m
   rw[<-a,Md hS.2.1 h]at p;rw[<-a]at j t;rw[<-a];have b:∃y∈jL n U d,y.P=ah e.P/\y.k=2:=by
    obtain⟨y,w,D,x⟩:=t;exact⟨y,w,D.trans q,x.trans r⟩
   have i:∀y,get (aJ (jL n U d) B) e.P=some y->(y.k=2↔e.k=2):=λy g=>by rw[p]at g;exact hkind y g
   exact⟨sF j hB he (.inr b) i,by rw[BK j hB he (.inr b) i,p],c _ j.2.1⟩
  ·rw[av l]
   have b:ah e.P=[]\/∃y∈U,y.P=ah e.P/\y.k=2:=by
    by_cases o:ah e.P=[]
    ·exact .inl o
    ·rcases u:jA U (ah e.P)with _|_
     ·exact absurd ⟨o,u⟩ l
     ·exact .inr (BM o u)
   exact⟨sF hU hB he b hkind,BK hU hB he b hkind,c _ hU.2.1⟩
end Tr
namespace Tr
open Pt
theorem yB{l m:List En}{s:Bs}(hs:s≠[])(h:∀q,¬mv s q->bad l q=bad m q):∀(n:Nat) (q:Bs),q.length<=n->¬mv s q->bP l q=bP m q
 |0,q,hq,_=>by
  have:q=[]:=List.length_eq_zero_iff.1 (Nat.le_zero.1 hq);subst this;rfl
 |n+1,q,hq,hm=>by
  by_cases a:q=[]
  ·subst a;rfl
  ·have:=aI a
   rw[dC l a,dC m a,h q hm,yB hs h n (ah q) (by omega) (λe=>hm (sD hs e))]
theorem BN{l:List En}{s:Bs}(hs:s≠[])(hb:bP l s=true):∀(n:Nat) (q:Bs),q.length<=n->mv s q->bP l q=true
 |0,q,hq,hm=>by
  have:q=[]:=List.length_eq_zero_iff.1 (Nat.le_zero.1 hq);subst this;obtain⟨r,e,_⟩:=dM hs hm;exact absurd (List.append_eq_nil_iff.1 e.symm).1 hs
 |n+1,q,hq,hm=>by
  by_cases e:q=s
  ·rw[e];exact hb
  ·have a:q≠[]:=by
    rintro rfl;obtain⟨r,e,_⟩:=dM hs hm;exact hs (List.append_eq_nil_iff.1 e.symm).1
   have b:=aI a;rw[dC l a,BN hs hb n (ah q) (by omega) (ja hs (hm.resolve_left e)).2,Dr]
theorem fK{l:List En}(h:Srt l){p q:Bs}(hq:q≠[])(hm:¬mv p q):get (outside l p) q=get l q:=by
 rcases g:get l q with _|x
 ·rw[get_none hq]
  exact λx b=>(get_none hq).1 g x (bJ.1 b).1
 obtain⟨c,a⟩:=get_some hq g;exact(get_iff (aY h _) hq).2 ⟨bJ.2 ⟨c,by rw[a];exact hm⟩,a⟩
theorem eQ{l:List En}{p q:Bs}(hq:q≠[])(hm:mv p q):get (outside l p) q=none:=
 (get_none hq).2 λx a e=>(bJ.1 a).2 (by rw[e];exact hm)
theorem AP{b:Bool}{l:List En}(h:Right b l){p:Bs}(hp:p≠[]):Right b (outside l p):=by
 refine⟨λx a=>h.1 x (bJ.1 a).1,aY h.2.1 _,λx a=> ?_⟩
 obtain⟨k,j⟩:=bJ.1 a
 rcases h.2.2 x k with m|⟨d,e,c,i⟩
 ·exact .inl m
 exact .inr ⟨d,bJ.2 ⟨e,λg=>j (sD hp (by rw[<-c];exact g))⟩,c,i⟩
theorem FP{U V B:List En}{p q:Bs}(hU:Right true U)(hV:Right true V)(hB:Right false B)(hp:p≠[])(hq:q≠[])(hm:¬mv p q)(hg:∀r,r≠[]->¬mv p r->get V r=get U r):get (aJ V B) q=get (aJ U B) q:=by
 have j:∀r,¬mv p r->bad V r=bad U r:=λr i=>by
  by_cases b:r=[]
  ·subst b;unfold bad;rw[dL,dL]
  unfold bad;rw[hg r b i]
 have e:¬mv p (ah q):=λh=>hm (sD hp h)
 rcases g:get U q with _|y
 ·have a:get V q=none:=by rw[hg q hq hm,g]
  rw[lY hU hB hq ((get_none hq).1 g),lY hV hB hq ((get_none hq).1 a)];unfold hides;rw[yA g,yA a,yB hp j _ (ah q) aR e]
 have a:get V q=some y:=by rw[hg q hq hm,g]
 obtain⟨k,c⟩:=get_some hq g;rw[jw hU hB hq k c,jw hV hB hq (get_some hq a).1 c]
theorem JE{s q:Bs}(hs:s≠[])(h:mv s q):s.length<=q.length:=by
 obtain⟨r,e,_⟩:=dM hs h;rw[e,bq];omega
theorem tX:∀(n:Nat) {U:List En} {e:En},Srt U->(∀x∈U,x.P≠[])->e.P≠[]->Srt (jL n U e)/\∀x∈jL n U e,x∈U\/(x.P≠[]/\mv x.P e.P)
 |0,U,e,hU,_,he=>⟨iq hU,λx hx=>by
  rcases(dG hU x).1 hx with rfl|⟨h,_⟩
  ·rw[pU];exact .inr ⟨he,.inl rfl⟩
  ·exact .inl h⟩
 |n+1,U,e,hU,hn,he=>by
  unfold jL
  by_cases hc:ah e.P≠[]/\jA U (ah e.P)=false
  ·rw[aM hc]
   obtain⟨h1,h2⟩:=tX n (U:=U) (e:=eP (ah e.P)) hU hn (by rw[lD];exact hc.1)
   refine⟨iq h1,λx hx=> ?_⟩
   rcases(dG h1 x).1 hx with rfl|⟨h,_⟩
   ·rw[pU];exact .inr ⟨he,.inl rfl⟩
   ·rcases h2 x h with h|⟨b,a⟩
    ·exact .inl h
    ·rw[lD]at a
     exact .inr ⟨b,sD b a⟩
  ·rw[av hc]
   refine⟨iq hU,λx hx=> ?_⟩
   rcases(dG hU x).1 hx with rfl|⟨h,_⟩
   ·rw[pU];exact .inr ⟨he,.inl rfl⟩
   ·exact .inl h
def cZ(p:Bs):En:=⟨⟨p.toArray⟩,4,⟨#[]⟩,false⟩
theorem BO(p:Bs):(cZ p).P=p:=rfl
theorem FQ{p:Bs}(h:clean p=true):entry (cZ p) true=0:=(bK _ _).2 ⟨rfl,h,show(0:Nat)<=100 by omega,rfl⟩
theorem JF(U:List En)(p:Bs):set1 U (cZ p)=ins (cZ p) U:=by
 unfold set1 adj
 split
 ·rw[av (show¬(cZ p).k=2 from show¬(4:Int)=2 by decide)]
 rfl
theorem yC{U B:List En}{p:Bs}(hU:Right true U)(hB:Right false B)(hp:clean p=true)(hno:∀x∈U,¬mv p x.P)(DV:ah p=[]\/∃d∈U,d.P=ah p/\d.k=2):Right true (ins (cZ p) U)/\aJ (ins (cZ p) U) B=outside (aJ U B) p:=by
 have j:=clean_ne hp;have b:=dG (x:=cZ p) hU.2.1;have o:∀x∈U,x.P≠(cZ p).P:=λx a e=>hno x a (.inl e)
 have u:Right true (ins (cZ p) U):=by
  refine⟨λx a=> ?_,iq hU.2.1,λx a=> ?_⟩
  ·rcases(b x).1 a with rfl|⟨a,_⟩
   ·exact FQ hp
   exact hU.1 x a
  rcases(b x).1 a with rfl|⟨a,_⟩
  ·rw[BO]
   rcases DV with h|⟨d,m,y,v⟩
   ·exact .inl h
   exact .inr ⟨d,(b d).2 (.inr ⟨m,o d m⟩),y,v⟩
  rcases hU.2.2 x a with h|⟨d,m,y,v⟩
  ·exact .inl h
  exact .inr ⟨d,(b d).2 (.inr ⟨m,o d m⟩),y,v⟩
 refine⟨u,?_⟩
 have w:=fE hU hB;have t:=fE u hB;have g:get (ins (cZ p) U) p=some (cZ p):=get_ins_same (e:=cZ p) hU.2.1 j;have c:∀q,q≠p->get (ins (cZ p) U) q=get U q:=λq i=>get_ins_other (e:=cZ p) hU.2.1 i
 refine xK t.2.1 (aY w.2.1 _) (λx a=>bu t a) (λx a=>bu w (bJ.1 a).1) λq i=> ?_
 by_cases n:mv p q
 ·rw[eQ i n]
  by_cases l:q=p
  ·subst l
   rw[jw u hB i (get_some i g).1 rfl];rfl
  have D:get (ins (cZ p) U) q=none:=by
   rw[c q l];exact(get_none i).2 λx a e=>hno x a (by rw[e];exact n)
  rw[lY u hB i ((get_none i).1 D)];have A:bad (ins (cZ p) U) p=true:=yw g;have:hides (ins (cZ p) U) q=true:=by
   unfold hides;rw[oJ j A _ (ah q) aR (ja j (n.resolve_left l)).2,Dr]
  rw[this];rfl
 rw[fK w.2.1 i n];exact FP hU u hB j i n λr _ z=>c r (λe=>z (.inl e))
def dD(B U:List En)(p:Bs):List En:=
 if(get B p).isSome=true/\hides (outside U p) p=false then jL p.length (outside U p) (cZ p)else outside U p
theorem vg{U B:List En}{p:Bs}(hU:Right true U)(hB:Right false B)(hp:p≠[]):Right true (dD B U p)/\aJ (dD B U p) B=outside (aJ U B) p:=by
 have t:=AP hU hp;have w:=fE hU hB;have a:=fE t hB;have z:∀x∈outside U p,¬mv p x.P:=λx j=>(bJ.1 j).2
 have far:∀q,q≠[]->¬mv p q->get (aJ (outside U p) B) q=get (aJ U B) q:=λq i c=>FP hU t hB hp i c λr D hr=>fK hU.2.1 D hr
 have H:∀q,q≠[]->mv p q->get (aJ (outside U p) B) q=if hides (outside U p) q then none else get B q:=λq i c=>lY t hB i ((get_none i).1 (eQ i c))
 have same:(∀q,q≠[]->mv p q->get (aJ (outside U p) B) q=none)->aJ (outside U p) B=outside (aJ U B) p:=λh=>
  xK a.2.1 (aY w.2.1 _) (λx j=>bu a j) (λx j=>bu w (bJ.1 j).1) λq i=>by
   by_cases c:mv p q
   ·rw[eQ i c,h q i c]
   ·rw[fK w.2.1 i c,far q i c]
 unfold dD
 by_cases M:(get B p).isSome=true/\hides (outside U p) p=false
 ·rw[aM M]
  obtain⟨E,v⟩:=M
  rcases g:get B p with _|b
  ·rw[g]at E;cases E
  obtain⟨N,L⟩:=get_some hp g;have I:clean p=true:=by rw[<-L];exact entry_clean (hB.1 b N)
  have hs:get (aJ (outside U p) B) p=some b:=by rw[H p hp (.inl rfl),v,av (by decide),g]
  have o:=a.2.2 b (get_some hp hs).1;rw[L]at o;have m:outside (aJ (outside U p) B) p=outside (aJ U B) p:=
   xK (aY a.2.1 _) (aY w.2.1 _) (λx j=>bu a (bJ.1 j).1) (λx j=>bu w (bJ.1 j).1) λq i=>by
    by_cases c:mv p q
    ·rw[eQ i c,eQ i c]
    ·rw[fK w.2.1 i c,fK a.2.1 i c,far q i c]
  have hlen:=aI hp
  cases hn:p.length with
  |zero=>exact absurd (List.length_eq_zero_iff.1 hn) hp
  |succ n=>
   unfold jL;rw[JF,BO]
   by_cases k:ah p≠[]/\jA (outside U p) (ah p)=false
   ·rw[aM k]
    obtain⟨d,l,A,W⟩:=o.resolve_left k.1;have F:=BL (a.1 d l) W;rw[A]at F;obtain⟨Y,S,y,Z,y2,y3⟩:=ve hB n (U:=outside U p) (e:=d) (by rw[A];omega) t (a.1 d l) (a.2.2 d l) (λy K=>by
     have:=get_mem a.2.1 l (bu a l);rw[this]at K;injection K with K
     rw[K])
    rw[Md a.2.1 l]at S;rw[F]at Y S Z;have G:∀x∈jL n (outside U p) (eP (ah p)),¬mv p x.P:=λx j c=>by
     rcases(tX n (e:=eP (ah p)) t.2.1 (λx j=>bu t j) k.1).2 x j with h|⟨u,O⟩
     ·exact z x h c
     ·have:=JE hp c
      have:=JE u O;rw[lD]at this;omega
    obtain⟨Q,V⟩:=yC Y hB I G (.inr ⟨y,Z,y2.trans A,y3.trans W⟩);exact⟨Q,by rw[V,S,m]⟩
   ·rw[av k]
    obtain⟨Q,V⟩:=yC t hB I z (by
     by_cases D:ah p=[]
     ·exact .inl D
     ·rcases u:jA (outside U p) (ah p)with _|_
      ·exact absurd ⟨D,u⟩ k
      ·exact .inr (BM D u))
    exact⟨Q,by rw[V,m]⟩
 rw[av M];refine⟨t,same λq i c=> ?_⟩
 rw[H q i c]
 rcases v:hides (outside U p) p with _|_
 ·
  have E:get B p=none:=by
   rcases g:get B p with _|b
   ·rfl
   exact absurd ⟨by rw[g];rfl,v⟩ M
  have:get B q=none:=by
   rcases g:get B q with _|b
   ·rfl
   exfalso
   obtain⟨N,L⟩:=get_some i g
   rcases c with e|hu
   ·rw[e,E]at g;cases g
   obtain⟨d,l,A,_⟩:=uV hB hp N (by rw[L];exact hu)
   exact(get_none hp).1 E d l A
  rw[this,ite_self]
 have u:bP (outside U p) (ah p)=true:=by
  unfold hides at v;rw[yA (eQ hp (.inl rfl)),rz]at v;exact v
 have O:bP (outside U p) p=true:=by rw[dC _ hp,u,Dr]
 have:hides (outside U p) q=true:=by
  unfold hides
  by_cases e:q=p
  ·rw[e,u,Dr]
  rw[BN hp O _ (ah q) aR (ja hp (c.resolve_left e)).2,Dr]
 rw[this];rfl
end Tr
namespace Tr
open Pt
theorem vw:∀(n m:Nat) (U:List En) (e:En),e.P.length<=n->e.P.length<=m->jL n U e=jL m U e
 |0,0,_,_,_,_=>rfl
 |0,m+1,U,e,h,_=>by
  have:e.P=[]:=List.length_eq_zero_iff.1 (by omega)
  rw[jL,jL,av (by rw[this];exact λh=>h.1 rfl)]
 |n+1,0,U,e,_,h=>by
  have:e.P=[]:=List.length_eq_zero_iff.1 (by omega)
  rw[jL,jL,av (by rw[this];exact λh=>h.1 rfl)]
 |n+1,m+1,U,e,h1,h2=>by
  rw[jL,jL]
  by_cases a:ah e.P≠[]/\jA U (ah e.P)=false
  ·have:e.P≠[]:=λh=>a.1 (by rw[h];rfl)
   have:=aI this;rw[aM a,aM a,vw n m U (eP (ah e.P)) (by rw[lD];omega) (by rw[lD];omega)]
  ·rw[av a,av a]
def dR(U:List En)(e:En):List En:=jL e.P.length U e
theorem Me(U:List En)(e:En):dR U e=set1 (if ah e.P≠[]/\jA U (ah e.P)=false then dR U (eP (ah e.P))else U) e:=by
 unfold dR;rw[vw e.P.length (e.P.length+1) U e aR (by omega),jL]
 by_cases a:ah e.P≠[]/\jA U (ah e.P)=false
 ·have:e.P≠[]:=λh=>a.1 (by rw[h];rfl)
  have:=aI this;rw[aM a,aM a,vw e.P.length (eP (ah e.P)).P.length _ _ (by rw[lD];omega) aR]
 rw[av a,av a]
theorem MB(U:List En)(e:En):(set1 U e).length<=U.length+1:=DU _ _
theorem DW:∀(n:Nat) (U:List En) (e:En),(jL n U e).length<=U.length+n+1
 |0,U,e=>MB U e
 |n+1,U,e=>by
  unfold jL;have h:=MB (if ah e.P≠[]/\jA U (ah e.P)=false then jL n U (eP (ah e.P))else U) e
  split
  ·rename_i hc
   rw[aM hc]at h;have:=DW n U (eP (ah e.P));omega
  ·rename_i hc
   rw[av hc]at h;omega
theorem xM(U:List En)(e:En):(dR U e).length<=U.length+e.P.length+1:=DW _ _ _
theorem tY{U:List En}{e:En}(hU:Srt U)(hn:∀x∈U,x.P≠[])(he:e.P≠[]):Srt (dR U e)/\∀x∈dR U e,x.P≠[]:=
 have h:=tX e.P.length hU hn he
 ⟨h.1,λx a=>by
  rcases h.2 x a with h|h
  ·exact hn x h
  ·exact h.1⟩
def fQ(U xs:List En):List En:=xs.foldl dR U
theorem mZ(U xs:List En)(x:En):fQ U (xs++[x])=dR (fQ U xs) x:=by
 unfold fQ;rw[EA];rfl
def Fits(S:List En)(e:En):Prop:=entry e false=0/\(ah e.P=[]\/∃d∈S,d.P=ah e.P/\d.k=2)/\∀y,get S e.P=some y->(y.k=2↔e.k=2)
theorem BP{U B:List En}{e:En}(hU:Right true U)(hB:Right false B)(h:Fits (aJ U B) e):Right true (dR U e)/\aJ (dR U e) B=ins e (aJ U B):=
 have a:=ve hB e.P.length aR hU h.1 h.2.1 h.2.2
 ⟨a.1,a.2.1⟩
theorem wM{B:List En}(hB:Right false B):∀{xs U:List En},Right true U->(∀k (hk:k<xs.length),Fits (aV (xs.take k) (aJ U B)) xs[k])->Right true (fQ U xs)/\aJ (fQ U xs) B=aV xs (aJ U B)
 |[],_,hU,_=>⟨hU,rfl⟩
 |x::xs,U,hU,h=>by
  have h0:Fits (aJ U B) x:=h 0 (by simp)
  obtain⟨b,a⟩:=BP hU hB h0;have:=wM hB (xs:=xs) b (λk hk=>by
   have:=h (k+1) (by simpa using hk)
   rw[a]
   simpa[List.take_succ_cons,aV]using this)
  rw[a]at this;exact this
theorem Qu{t:List En}{e:En}(h:putErr t e=0):Fits t e:=by
 obtain⟨_,k,a,b,c,_⟩:=put_ok h
 exact⟨a,b,λy g=>by
  obtain⟨i,j⟩:=get_some (clean_ne (entry_clean a)) g;exact c y i j⟩
theorem DX{b:Bool}{t:List En}(ht:Right b t){p:Bs}(hp:p≠[])(h:get t p=none):outside t p=t:=by
 unfold outside;rw[wN];intro x a;have g:x.P≠p:=(get_none hp).1 h x a;have e:under x.P p=false:=by
  rcases j:under x.P p with _|_
  ·rfl
  obtain⟨d,i,c,_⟩:=uV ht hp a j;exact absurd c ((get_none hp).1 h d i)
 rw[e];simp[g]
theorem DY(t:List En)(p q:Bs):outside (outside t p) q=outside (outside t q) p:=by
 unfold outside;rw[List.filter_filter,List.filter_filter];exact List.filter_congr λx _=>Bool.and_comm _ _
theorem JG{S:List En}{s d:Bs}(h:moveErr S s d=0)(hsd:s≠d)(k:Nat)(hk:k<(au S s d).length):Fits (aV ((au S s d).take k) (outside (outside S s) d)) (au S s d)[k]:=by
 obtain⟨_,t,hm,hc,_⟩:=move_ok h;obtain⟨x0,_,g,hcd,B⟩:=iO hm;obtain⟨N,U,Wh⟩:=B.resolve_left hsd;have F:=clean_ne hcd;have O:(au S s d).Pairwise λx y=>x.P≠y.P:=by
  unfold au;rw[Ct];refine Da ?_ (JA (aY t.2.1 _))
  intro x y l o hne e;obtain⟨hx1,hx2⟩:=List.mem_filter.1 l;obtain⟨hy1,hy2⟩:=List.mem_filter.1 o;rw[gK,gK]at e;exact hne (ren_inj t hm hx1 hy1 (stays_iff.2 (.inl (iA hx2))) (stays_iff.2 (.inl (iA hy2))) e)
 have p:∀x∈au S s d,mv d x.P:=λx l=>by
  obtain⟨y,_,o,rfl⟩:=dm.1 l;rw[gK];obtain⟨r,e,Z⟩:=dM g o;rw[e,kG g Z];exact Qp F Z
 have w:∀y∈outside (outside S s) d,¬mv d y.P:=λy o=>(bJ.1 o).2
 have M:Srt (outside (outside S s) d):=aY (aY t.2.1 _) _;have n:∀e,e∈aV ((au S s d).take k) (outside (outside S s) d)↔e∈(au S s d).take k\/e∈outside (outside S s) d:=qM (O.sublist (List.take_sublist _ _)) M λx l y o e=>w y o (by rw[<-e];exact p x (xV l))
 have V:=cz hk;obtain⟨x,l,m,c⟩:=dm.1 V;have A:entry (au S s d)[k] false=0:=by
  obtain⟨W,a2,a3,a4⟩:=(bK x false).1 (t.1 x l);have hcl:=hc _ (jT.2 ⟨x,l,stays_iff.2 (.inl m),c⟩);refine(bK _ _).2 ⟨?_,hcl,?_,?_⟩
  ·rw[<-c];unfold lC at W ⊢;rw[su];exact W
  ·rw[<-c,uZ];exact a3
  rw[<-c];unfold lX at a4 ⊢;rw[su,uZ,JB];exact a4
 refine⟨A,?_,λy o=> ?_⟩
 ·by_cases G:x.P=s
  ·have hP:(au S s d)[k].P=d:=by
    rw[<-c,gK,G];unfold ren;rw[aM rfl]
   rw[hP]
   rcases yl U with h0|⟨y,y1,K,y3⟩
   ·exact .inl h0
   by_cases h0:ah d=[]
   ·exact .inl h0
   refine .inr ⟨y,(n y).2 (.inr (bJ.2 ⟨bJ.2 ⟨y1,?_⟩,?_⟩)),K,y3⟩
   ·rw[K]
    intro E
    rcases sD g E with e|e
    ·exact hsd e.symm
    rw[N]at e;cases e
   rw[K];intro E;have:=JE F E;have:=aI F;omega
  right
  have Q:=m.resolve_left G;obtain⟨I,h2⟩:=ja g Q;have h3:mv s (ah x.P):=h2
  rcases t.2.2 x l with h4|⟨z,z1,H,z3⟩
  ·exact absurd h4 I
  obtain⟨r,e,Z⟩:=dM g m;have hr2:∃q,r=47::q:=by
   rcases Z with h5|h5
   ·rw[h5,ky]at e;exact absurd e G
   exact h5
  obtain⟨q,hq⟩:=hr2;obtain⟨r',hr',da,db⟩:=BI (s:=s) (d:=d) (r:=q);have hz:dH s d z∈au S s d:=dm.2 ⟨z,z1,by rw[H];exact h3,rfl⟩
  have hzP:(dH s d z).P=ah (au S s d)[k].P:=by
   rw[gK,H,e,hq,da,kG g hr',<-c,gK,e,hq,kG g (.inr ⟨q,rfl⟩),db]
  refine⟨dH s d z,(n _).2 (.inl ?_),hzP,by rw[su];exact z3⟩
  obtain⟨j,hj,i⟩:=mq hz;have hjk:j<k:=by
   rcases iB j k with h6|h6
   ·exact h6
   exfalso
   have hsr:(au S s d).Pairwise λa b=>∃u v,u∈S/\v∈S/\mv s u.P/\mv s v.P/\a=dH s d u/\b=dH s d v/\cmp u.P v.P<0:=by
    unfold au;rw[Ct];refine Da ?_ (aY t.2.1 _)
    intro a b ha hb hab;obtain⟨W,a2⟩:=List.mem_filter.1 ha;obtain⟨b1,b2⟩:=List.mem_filter.1 hb;exact⟨a,b,W,b1,iA a2,iA b2,rfl,rfl,hab⟩
   have D:∀u v,u∈S->v∈S->mv s u.P->mv s v.P->dH s d u=dH s d v->u.P=v.P:=λu v Q hv hmu p Y=>by
    have:=om En.P Y;rw[gK,gK]at this;exact ren_inj t hm Q hv (stays_iff.2 (.inl hmu)) (stays_iff.2 (.inl p)) this
   rcases Cg h6 with h7|h7
   ·subst h7
    rw[<-c]at i;have:=D x z l z1 m (by rw[H];exact h3) i
    rw[H]at this;have h8:=aI (clean_ne (entry_clean (t.1 x l)));rw[<-this]at h8;omega
   obtain⟨u,v,Q,hv,mu,mw,e1,Y,L⟩:=List.pairwise_iff_getElem.1 hsr k j hk hj h7;rw[i]at Y;rw[<-c]at e1;rw[<-D x u l Q m mu e1,<-D z v z1 hv (by rw[H];exact h3) mw Y,H]at L
   exact lt_asymm (Jw I) L
  rw[<-i];exact List.mem_take_iff_getElem.2 ⟨j,by omega,by rfl⟩
 exfalso
 have hp:=clean_ne (entry_clean A);obtain⟨y1,K⟩:=get_some hp o
 rcases(n y).1 y1 with I|I
 ·obtain⟨j,hj,i⟩:=List.mem_take_iff_getElem.1 I
  have:=List.pairwise_iff_getElem.1 O j k (by omega) hk (by omega)
  rw[i]at this;exact this K
 exact w y I (by rw[K];exact p _ V)
end Tr
structure Un where
 U:List En
 L:List (List En)
namespace Un
def all(u:Un):List (List En):=u.U::u.L
def zero:Un:=⟨[],[]⟩
end Un
namespace Tr
open Pt
def fZ:List (List En)->Nat->Int×Int
 |[],_=>(0,0)
 |l::r,i=>if(wrong l true).1≠0 then((wrong l true).1,(i:Int))else fZ r (i+1)
def wrongU(u:Un):Int×Int:=
 if 4<u.L.length then(5,0)else if(fZ u.all 0).1≠0 then fZ u.all 0 else((aS u.all).2,0)
def seenU(u:Un):List En×Int:=if(wrongU u).1≠0 then([],(wrongU u).1)else aS u.all
def ay(u:Un):List En:=(aS u.L).1
def Fine(u:Un):Prop:=u.L.length<=4/\(aS u.all).2=0
theorem kH:∀{ls:List (List En)},(aS ls).2=0->∀l∈ls,l.length<=80/\Right true l
 |[],_,l,hl=>nomatch hl
 |x::r,h,l,hl=>by
  obtain⟨h1,h2⟩:=wH h
  rcases List.mem_cons.1 hl with rfl|hl
  ·rw[h2]at h
   have:=DT h;exact⟨this.1,this.2.1⟩
  ·exact kH h1 l hl
theorem lF:∀{ls:List (List En)} (i:Nat),(fZ ls i).1=0↔∀l∈ls,(wrong l true).1=0
 |[],i=>by simp[fZ]
 |x::r,i=>by
  unfold fZ
  by_cases h:(wrong x true).1=0
  ·rw[av (by simp[h]),lF (i+1)];simp[h]
  ·rw[aM h];simp[h]
theorem fine_iff(u:Un):(wrongU u).1=0↔Fine u:=by
 unfold wrongU Fine
 by_cases h:4<u.L.length
 ·rw[aM h];simp;omega
 rw[av h]
 by_cases a:(fZ u.all 0).1=0
 ·rw[av (by simp[a])];simp;omega
 rw[aM a];refine⟨λb=>absurd b a,λb=>absurd ?_ a⟩
 refine(lF 0).2 λl c=> ?_
 exact(az l true).2 (kH b.2 l c)
theorem lZ{u:Un}(h:Fine u):seenU u=aS u.all:=by
 unfold seenU;rw[av (by simp[(fine_iff u).2 h])]
theorem jb{u:Un}:(seenU u).2=0↔Fine u:=by
 constructor
 ·intro h
  unfold seenU at h
  by_cases a:(wrongU u).1=0
  ·exact(fine_iff u).1 a
  rw[aM a]at h;exact absurd h a
 intro h;rw[lZ h];exact h.2
theorem fine_parts{u:Un}(h:Fine u):u.U.length<=80/\Right true u.U/\(ay u).length<=80/\Right false (ay u)/\seenU u=(aJ u.U (ay u),0)/\(aJ u.U (ay u)).length<=80/\(aS u.L).2=0/\Right false (aJ u.U (ay u)):=by
 have c:=h.2;obtain⟨a,b⟩:=wH (x:=u.U) (r:=u.L) c;have i:=lZ h
 change aS u.all=_ at b
 rw[b]at i c;obtain⟨m,e,j,g,l,k⟩:=DT c;exact⟨m,e,j,g,by rw[i,k];rfl,l,a,fE e g⟩
theorem Qv{u:Un}(h:Fine u){V:List En}(h1:V.length<=80)(h2:Right true V)(h3:(aJ V (ay u)).length<=80):Fine ⟨V,u.L⟩/\seenU ⟨V,u.L⟩=(aJ V (ay u),0):=by
 obtain⟨_,_,c,b,_,_,m,_⟩:=fine_parts h;have e:aS (⟨V,u.L⟩:Un).all=(aJ V (ay u),0):=by
  show aS (V::u.L)=_
  rw[wI m];exact Uu h1 h2 c b h3
 have a:Fine ⟨V,u.L⟩:=⟨h.1,by rw[e]⟩
 exact⟨a,by rw[lZ a,e]⟩
def fin(u:Un)(V:List En):Un×Int:=if 80<V.length then(Un.zero,5)else(⟨V,u.L⟩,0)
def putU(u:Un)(e:En):Un×Int:=
 if(seenU u).2≠0 then(Un.zero,(seenU u).2)else if(put (seenU u).1 e).2≠0 then(Un.zero,(put (seenU u).1 e).2)else fin u (dR u.U e)
def removeU(u:Un)(p:Bs):Un×Int:=
 if(seenU u).2≠0 then(Un.zero,(seenU u).2)else if(remove (seenU u).1 p).2≠0 then(Un.zero,(remove (seenU u).1 p).2)else fin u (dD (ay u) u.U p)
def FT(u:Un)(s d:Bs):List En:=
 fQ (dD (ay u) (if(get (seenU u).1 d).isSome then dD (ay u) u.U d else u.U) s) (au (seenU u).1 s d)
def moveU(u:Un)(s d:Bs):Un×Int:=
 if(seenU u).2≠0 then(Un.zero,(seenU u).2)else if(move (seenU u).1 s d).2≠0 then(Un.zero,(move (seenU u).1 s d).2)else fin u (if s=d then u.U else FT u s d)
def AsTree(u:Un)(r:Un×Int)(t:List En×Int):Prop:=
 (r.2≠0->r.1=Un.zero/\(r.2=5\/r.2=t.2))/\(r.2=0->Fine r.1/\r.1.L=u.L/\t.2=0/\seenU r.1=(t.1,0))
theorem tZ{u:Un}(h:Fine u){V t:List En}(h2:Right true V)(h3:aJ V (ay u)=t)(h4:t.length<=80):AsTree u (fin u V) (t,0):=by
 unfold fin
 by_cases c:80<V.length
 ·rw[aM c];exact⟨λ_=>⟨rfl,.inl rfl⟩,λh=>absurd h (by decide)⟩
 rw[av c];obtain⟨a,b⟩:=Qv h (V:=V) (by omega) h2 (by rw[h3];exact h4)
 exact⟨λh=>absurd rfl h,λ_=>⟨a,rfl,rfl,by rw[b,h3]⟩⟩
theorem putU_tree{u:Un}(h:Fine u)(e:En):AsTree u (putU u e) (put (seenU u).1 e):=by
 obtain⟨_,g,_,j,k,l,_,_⟩:=fine_parts h;unfold putU;rw[k];dsimp only;rw[av (by simp)]
 by_cases a:putErr (aJ u.U (ay u)) e=0
 ·have b:put (aJ u.U (ay u)) e=(ins e (aJ u.U (ay u)),0):=by unfold put;rw[av (by simp[a])]
  rw[b,av (by simp)]
  obtain⟨i,c⟩:=BP g j (Qu a);exact tZ h i c (Uw a)
 have b:put (aJ u.U (ay u)) e=([],putErr (aJ u.U (ay u)) e):=by unfold put;rw[aM a]
 rw[b,aM a];exact⟨λ_=>⟨rfl,.inr rfl⟩,λh=>absurd h a⟩
theorem removeU_tree{u:Un}(h:Fine u)(p:Bs):AsTree u (removeU u p) (remove (seenU u).1 p):=by
 obtain⟨_,i,_,l,m,k,_,_⟩:=fine_parts h;unfold removeU;rw[m];dsimp only;rw[av (by simp)]
 by_cases b:removeErr (aJ u.U (ay u)) p=0
 ·have c:remove (aJ u.U (ay u)) p=(without (aJ u.U (ay u)) p,0):=by unfold remove;rw[av (by simp[b])]
  rw[c,av (by simp)]
  obtain⟨_,_,e,_,a⟩:=BH b;obtain⟨j,g⟩:=vg i l e;rw[o8 a]at g;exact tZ h j g (eT (FK _ _) k)
 have c:remove (aJ u.U (ay u)) p=([],removeErr (aJ u.U (ay u)) p):=by unfold remove;rw[aM b]
 rw[c,aM b];exact⟨λ_=>⟨rfl,.inr rfl⟩,λh=>absurd h b⟩
theorem wO{S:List En}{s d:Bs}(h:moveErr S s d=0):∀e∈au S s d,clean e.P=true:=by
 obtain⟨_,_,_,g,_⟩:=move_ok h;intro e c;obtain⟨x,i,b,a⟩:=dm.1 c;exact g e (jT.2 ⟨x,i,stays_iff.2 (.inl b),a⟩)
theorem JH{u:Un}(h:Fine u){s d:Bs}(hm:moveErr (seenU u).1 s d=0)(hsd:s≠d):Right true (FT u s d)/\aJ (FT u s d) (ay u)=sortL (movedL (seenU u).1 s d):=by
 obtain⟨_,n,_,j,A,D,_,q⟩:=fine_parts h;unfold FT;rw[A]at hm ⊢;dsimp only at hm ⊢;obtain⟨x,o,l,_,w⟩:=move_ok hm;obtain⟨_,_,e,i,_⟩:=iO l;have b:=clean_ne i;have a:Right true (if(get (aJ u.U (ay u)) d).isSome then dD (ay u) u.U d else u.U)/\aJ (if(get (aJ u.U (ay u)) d).isSome then dD (ay u) u.U d else u.U) (ay u)=outside (aJ u.U (ay u)) d:=by
  rcases g:get (aJ u.U (ay u)) d with _|y
  ·rw[av (by simp)]
   exact⟨n,(DX q b g).symm⟩
  rw[aM (show(some y).isSome=true from rfl)]
  exact vg n j b
 obtain⟨z,t⟩:=a;obtain⟨v,c⟩:=vg z j e;rw[t,DY]at c;obtain⟨p,B⟩:=wM j (xs:=au (aJ u.U (ay u)) s d) v (λk r=>by rw[c];exact JG hm hsd k r)
 refine⟨p,?_⟩
 have m:=tK ((az _ false).2 ⟨x,o⟩) l hsd (wO hm);rw[w]at m;rw[B,c];exact(om Prod.fst m).symm
theorem moveU_tree{u:Un}(h:Fine u)(s d:Bs):AsTree u (moveU u s d) (move (seenU u).1 s d):=by
 obtain⟨q,j,_,p,g,e,_,n⟩:=fine_parts h;unfold moveU
 by_cases b:moveErr (seenU u).1 s d=0
 ·have c:=λa:s≠d=>JH h b a
  rw[g]at b c ⊢;dsimp only at b c ⊢;rw[av (by simp)]
  obtain⟨_,_,l,_,o⟩:=move_ok b;rw[o,av (by simp)]
  by_cases a:s=d
  ·subst a
   rw[aM rfl];exact tZ h j (u_ n l).symm (eT (FN _ _ _) e)
  rw[av a];obtain⟨m,i⟩:=c a;exact tZ h m i (eT (FN _ _ _) e)
 rw[g]at b ⊢;dsimp only at b ⊢;rw[av (by simp)]
 have k:move (aJ u.U (ay u)) s d=([],moveErr (aJ u.U (ay u)) s d):=by unfold move;rw[aM b]
 rw[k,aM b];exact⟨λ_=>⟨rfl,.inr rfl⟩,λh=>absurd h b⟩
end Tr
structure Lk where
 o:Int
 f:Int
 t:Int
 a:Bool
namespace Lk
def beq(x y:Lk):Bool:=x.o==y.o&&x.f==y.f&&x.t==y.t&&x.a==y.a
theorem beq_iff(x y:Lk):beq x y=true↔x=y:=by
 cases x;cases y;simp[beq,and_assoc]
instance:DecidableEq Lk:=λx y=>if h:beq x y=true then .isTrue ((beq_iff x y).1 h)else .isFalse λe=>h ((beq_iff x y).2 e)
def zero:Lk:=⟨0,0,0,false⟩
def clash(x y:Lk):Bool:=x.o !=y.o&&(x.a||y.a)&&decide (x.f<y.t)&&decide (y.f<x.t)
theorem fG(x y:Lk):clash x y=clash y x:=by
 unfold clash;rw[bne_comm (a:=x.o),Bool.or_comm x.a];rw[Bool.and_assoc,Bool.and_comm (decide (x.f<y.t)),<-Bool.and_assoc]
def range(x:Lk):Bool:=decide (x.o<0)||decide (4<=x.o)||decide (x.f<0)||decide (x.t<=x.f)||decide (1000<x.t)
def order(y x:Lk):Bool:=decide (x.o<y.o)||(y.o==x.o&&(decide (x.f<y.t)||(y.t==x.f&&y.a==x.a)))
def bI(p:List Lk)(x:Lk):Int:=
 if range x then 3 else
 if(p.getLast?.any λy=>order y x)then 2 else
 if p.any (λy=>clash y x)then 8 else 0
def ak:List Lk->List Lk->Int×Int
 |_,[]=>(0,0)
 |p,x::r=>if bI p x=0 then ak (p++[x]) r else(bI p x,p.length)
def wrong(l:List Lk):Int×Int:=if 40<l.length then(5,0)else ak [] l
def meets(l:List Lk)(x:Lk):Option Lk:=l.find? λy=>clash y x
def mW(x y:Lk):List Lk:=
 if y.o≠x.o\/y.t<=x.f\/x.t<=y.f then [y]else
 (if y.f<x.f then [⟨y.o,y.f,x.f,y.a⟩]else [])++(if x.t<y.t then [⟨y.o,x.t,y.t,y.a⟩]else [])
def cut(l:List Lk)(x:Lk):List Lk:=l.flatMap (mW x)
def touch(y x:Lk):Bool:=y.o==x.o&&y.t==x.f&&y.a==x.a
def push(out:List Lk)(x:Lk):List Lk:=
 match out.getLast? with
 |some y=>if touch y x then out.dropLast++[⟨y.o,y.f,x.t,y.a⟩]else out++[x]
 |none=>[x]
def tidy(l:List Lk):List Lk:=l.foldl push []
def less(x y:Lk):Bool:=decide (x.o<y.o)||(x.o==y.o&&decide (x.f<y.f))
def insert(x:Lk):List Lk->List Lk
 |[]=>[x]
 |y::r=>if less y x then y::insert x r else x::y::r
def sort:List Lk->List Lk
 |[]=>[]
 |x::r=>insert x (sort r)
def take(l:List Lk)(x:Lk):List Lk×Int:=
 if(wrong l).1≠0 then([],(wrong l).1)else
 if(wrong [x]).1≠0 then([],(wrong [x]).1)else
 if(meets l x).isSome then([],13)else
 if 40<(tidy (sort (cut l x++[x]))).length then([],5)else(tidy (sort (cut l x++[x])),0)
def free(l:List Lk)(x:Lk):List Lk×Int:=
 if(wrong l).1≠0 then([],(wrong l).1)else
 if(wrong [x]).1≠0 then([],(wrong [x]).1)else
 if 40<(cut l x).length then([],5)else(cut l x,0)
def leave(l:List Lk)(o:Int):List Lk:=l.filter λx=>x.o !=o
theorem F9{l:List Lk}{x:Lk}{k:Nat}(hk:k<l.length)(hno:∀y∈l.take k,clash y x=false)(hc:clash l[k] x=true):meets l x=some l[k]:=by
 have e:l.find? (λy=>clash y x)=(l.take k++l[k]::l.drop (k+1)).find? (λy=>clash y x):=by
  rw[<-List.drop_eq_getElem_cons hk,rR]
 unfold meets;rw[e,List.find?_append,List.find?_eq_none.2 (λy a=>by simp[hno y a]),Option.none_or,List.find?_cons,hc]
theorem JX{l:List Lk}{x:Lk}{k:Nat}(hk:l.length<=k)(hno:∀y∈l.take k,clash y x=false):meets l x=none:=by
 rw[fI hk]at hno;exact List.find?_eq_none.2 (λy a=>by simp[hno y a])
theorem JY{l:List Lk}{x:Lk}{k:Nat}(hk:k<l.length)(hno:∀y∈l.take k,clash y x=false)(hc:¬clash l[k] x=true):∀y∈l.take (k+1),clash y x=false:=by
 intro y a;rw[aF hk,gF]at a
 rcases a with a|a
 ·exact hno y a
 simp at a;subst a;simpa using hc
theorem UD(x y:Lk):(mW x y).length<=2:=by
 unfold mW;split
 ·simp
 split<;>split<;>simp
theorem QM(l:List Lk)(x:Lk):(cut l x).length<=2*l.length:=by
 induction l with
 |nil=>simp[cut]
 |cons y r ih=>
  have a:=UD x y;have e:cut (y::r) x=mW x y++cut r x:=rfl;rw[e,bq,gL];omega
theorem QN{l:List Lk}{k:Nat}(hk:k<l.length)(x:Lk){y:Lk}(hy:l[k]=y):cut (l.take (k+1)) x=cut (l.take k) x++mW x y:=by
 rw[aF hk,hy];simp[cut]
theorem yT{x y:Lk}(h:y.o≠x.o\/y.t<=x.f\/x.t<=y.f):mW x y=[y]:=aM h
theorem xN{x y:Lk}(h0:y.o=x.o)(h1:¬y.t<=x.f)(h2:¬x.t<=y.f):mW x y=(if y.f<x.f then [⟨y.o,y.f,x.f,y.a⟩]else [])++(if x.t<y.t then [⟨y.o,x.t,y.t,y.a⟩]else []):=
 av (by simp only[not_or,ne_eq,Decidable.not_not];exact⟨h0,h1,h2⟩)
theorem yU(x:Lk):push [] x=[x]:=rfl
theorem mi(r:List Lk)(y x:Lk)(h:touch y x=true):push (r++[y]) x=r++[⟨y.o,y.f,x.t,y.a⟩]:=by
 simp[push,h]
theorem jd(r:List Lk)(y x:Lk)(h:touch y x=false):push (r++[y]) x=r++[y]++[x]:=by
 simp[push,h]
theorem Ot{l:List Lk}{k:Nat}(hk:k<l.length){x:Lk}(hx:l[k]=x):tidy (l.take (k+1))=push (tidy (l.take k)) x:=by
 unfold tidy;rw[aF hk,hx,EA]
 rfl
theorem UE(r:List Lk)(x:Lk):(push r x).length<=r.length+1:=by
 rcases tO r with rfl|⟨q,y,rfl⟩
 ·simp[push]
 simp only[p8]
 rcases h:touch y x with _|_
 ·rw[jd _ _ _ h];simp
 rw[mi _ _ _ h];simp
theorem UF(l:List Lk):(tidy l).length<=l.length:=by
 have h:∀(l r:List Lk),(l.foldl push r).length<=r.length+l.length:=by
  intro l
  induction l with
  |nil=>intro r;simp
  |cons x l ih=>
   intro r;have a:=ih (push r x);have b:=UE r x;simp only[List.foldl_cons,gL];omega
 have:=h l []
 simpa[tidy]using this
end Lk
namespace Lk
theorem nC{p:List Lk}{x:Lk}(h:range x=true):bI p x=3:=aM h
theorem gV{p:List Lk}{x:Lk}(h:range x=false)(ho:(p.getLast?.any λy=>order y x)=true):bI p x=2:=by
 unfold bI;rw[h,ho]
 rfl
theorem g_{p:List Lk}{x:Lk}(h:range x=false)(ho:(p.getLast?.any λy=>order y x)=false)(hc:p.any (λy=>clash y x)=true):bI p x=8:=by
 unfold bI;rw[h,ho,hc]
 rfl
theorem kY{p:List Lk}{x:Lk}(h:range x=false)(ho:(p.getLast?.any λy=>order y x)=false)(hc:p.any (λy=>clash y x)=false):bI p x=0:=by
 unfold bI;rw[h,ho,hc]
 rfl
theorem aX{l:List Lk}{k:Nat}{x:Lk}{e:Int}(hk:k<l.length)(hx:l[k]=x)(hb:bI (l.take k) x=e)(he:e≠0):ak (l.take k) (l.drop k)=(e,(k:Int)):=by
 rw[kw hk,hx,ak,hb,av he];simp;omega
theorem bZ{l:List Lk}{k:Nat}{x:Lk}(hk:k<l.length)(hx:l[k]=x)(hb:bI (l.take k) x=0):ak (l.take k) (l.drop k)=ak (l.take (k+1)) (l.drop (k+1)):=by
 rw[kw hk,hx,ak,aM hb,aF hk,hx]
theorem zG(l:List Lk){x:Lk}:((l.take 0).getLast?.any λy=>order y x)=false:=rfl
theorem iQ{l:List Lk}{m:Nat}{x y:Lk}{r:Bool}(hm:m<l.length)(hy:l[m]=y)(ho:order y x=r):((l.take (m+1)).getLast?.any λy=>order y x)=r:=by
 rw[aF hm,hy,Cw]
 simpa using ho
end Lk
namespace Lk
def Right(l:List Lk):Prop:=(∀x∈l,range x=false)/\l.Pairwise λy z=>order y z=false/\clash y z=false
theorem bF(x:Lk):range x=false↔0<=x.o/\x.o<4/\0<=x.f/\x.f<x.t/\x.t<=1000:=by
 simp only[range,mU,nk];omega
theorem jm(y x:Lk):order y x=false↔y.o<=x.o/\(y.o=x.o->y.t<x.f\/(y.t=x.f/\y.a≠x.a)):=by
 simp only[order,mU,nk,Bool.and_eq_false_iff,fq]
 constructor
 ·rintro⟨j,b⟩
  refine⟨by omega,λe=> ?_⟩
  rcases b with b|⟨b,c|c⟩
  ·exact absurd e b
  ·omega
  by_cases i:y.t=x.f
  ·exact .inr ⟨i,c⟩
  omega
 rintro⟨j,b⟩;refine⟨by omega,?_⟩
 by_cases e:y.o=x.o
 ·rcases b e with h|⟨h,g⟩
  ·exact .inr ⟨by omega,.inl (by omega)⟩
  exact .inr ⟨by omega,.inr g⟩
 exact .inl e
theorem xq{x y z:Lk}(hy:range y=false)(h1:order x y=false)(h2:order y z=false):order x z=false:=by
 rw[jm]at*;rw[bF]at hy;refine⟨by omega,λe=> .inl ?_⟩
 have c:x.o=y.o:=by omega
 have a:y.o=z.o:=by omega
 rcases h1.2 c with h|⟨h,_⟩<;>rcases h2.2 a with b|⟨b,_⟩<;>omega
theorem rZ{p:List Lk}{x:Lk}:bI p x=0↔range x=false/\(p.getLast?.any λy=>order y x)=false/\p.any (λy=>clash y x)=false:=by
 unfold bI
 rcases a:range x with _|_
 ·rcases b:(p.getLast?.any λy=>order y x)with _|_
  ·rcases c:p.any (λy=>clash y x)with _|_<;>simp
  simp
 simp
theorem gJ{p:List Lk}{x:Lk}:Right (p++[x])↔Right p/\bI p x=0:=by
 rw[rZ];unfold Right;rw[mK];simp only[gF,eD,GQ,forall_eq]
 constructor
 ·rintro⟨b,e,_,c⟩
  refine⟨⟨λy a=>b y (.inl a),e⟩,b x (.inr rfl),?_,λy a=>by simp[(c y a).2]⟩
  rcases tO p with rfl|⟨q,y,rfl⟩
  ·rfl
  simp only[p8,Cw,List.getLast?_singleton,Option.some_or,Option.any_some];exact(c y (by simp)).1
 rintro⟨⟨b,e⟩,h,c,g⟩;refine⟨λy a=> ?_,e,nQ _ _,λy a=>⟨?_,by simpa using g y a⟩⟩
 ·rcases a with a|rfl
  ·exact b y a
  exact h
 rcases tO p with rfl|⟨q,z,rfl⟩
 ·cases a
 simp only[p8,Cw,List.getLast?_singleton,Option.some_or,Option.any_some]at c;simp only[p8,gF,eD]at a b
 rcases a with a|rfl
 ·rw[p8,mK]at e
  exact xq (b z (.inr rfl)) (e.2.2 y a z (by simp)).1 c
 exact c
theorem fJ:∀(r p:List Lk),Right p->((ak p r).1=0↔Right (p++r))
 |[],p,hp=>by simp[ak,hp]
 |x::r,p,hp=>by
  have e:p++x::r=(p++[x])++r:=by simp
  rw[ak]
  by_cases a:bI p x=0
  ·rw[aM a,fJ r (p++[x]) (gJ.2 ⟨hp,a⟩),e]
  ·rw[av a]
   refine⟨λh=>absurd h a,λh=> ?_⟩
   exfalso
   rw[e]at h;have:Right (p++[x]):=⟨λy b=>h.1 y (wh _ b),(List.pairwise_append.1 h.2).1⟩
   exact a (gJ.1 this).2
theorem lM:Right []:=⟨λ_ h=>(nomatch h),List.Pairwise.nil⟩
theorem az(l:List Lk):(wrong l).1=0↔l.length<=40/\Right l:=by
 unfold wrong
 by_cases h:40<l.length
 ·rw[aM h];simp;omega
 rw[av h,fJ l [] lM];simp;omega
theorem Dt(x:Lk):Right [x]↔range x=false:=by
 simp[Right]
def Has(l:List Lk)(o k:Int)(a:Bool):Prop:=∃y∈l,y.o=o/\y.f<=k/\k<y.t/\y.a=a
def In(x:Lk)(o k:Int):Prop:=o=x.o/\x.f<=k/\k<x.t
theorem dO(l m:List Lk)(o k:Int)(a:Bool):Has (l++m) o k a↔Has l o k a\/Has m o k a:=by
 unfold Has;simp only[gF]
 constructor
 ·rintro⟨y,h|h,b⟩
  ·exact .inl ⟨y,h,b⟩
  exact .inr ⟨y,h,b⟩
 rintro(⟨y,h,b⟩|⟨y,h,b⟩)
 ·exact⟨y,.inl h,b⟩
 exact⟨y,.inr h,b⟩
theorem oW(x:Lk)(o k:Int)(a:Bool):Has [x] o k a↔In x o k/\a=x.a:=by
 unfold Has In;simp only[eD]
 constructor
 ·rintro⟨y,rfl,b,c,g,e⟩
  exact⟨⟨b.symm,c,g⟩,e.symm⟩
 rintro⟨⟨b,c,g⟩,e⟩;exact⟨x,rfl,b.symm,c,g,e.symm⟩
theorem RS{l m:List Lk}(h:l.Perm m)(o k:Int)(a:Bool):Has l o k a↔Has m o k a:=by
 unfold Has
 constructor
 ·rintro⟨y,b,c⟩;exact⟨y,h.mem_iff.1 b,c⟩
 rintro⟨y,b,c⟩;exact⟨y,h.mem_iff.2 b,c⟩
theorem uD{x y z:Lk}(h:z∈mW x y):z.o=y.o/\z.a=y.a/\y.f<=z.f/\z.t<=y.t/\(y.f<y.t->z.f<z.t)/\(x.f<x.t->z.o=x.o->z.t<=x.f\/x.t<=z.f):=by
 unfold mW at h
 split at h
 ·rename_i b
  simp only[eD]at h;subst h;refine⟨rfl,rfl,rA _,rA _,λh=>h,λ_ e=> ?_⟩
  rcases b with b|b|b
  ·exact absurd e b
  ·exact .inl b
  exact .inr b
 rename_i b
 rw[gF]at h
 rcases h with h|h
 ·split at h
  ·simp only[eD]at h
   subst h;refine⟨rfl,rfl,rA _,?_,?_,λ_ _=> .inl (rA _)⟩<;>dsimp only<;>omega
  cases h
 split at h
 ·simp only[eD]at h
  subst h;refine⟨rfl,rfl,?_,rA _,?_,λ_ _=> .inr (rA _)⟩<;>dsimp only<;>omega
 cases h
theorem RU{x y:Lk}(hx:x.f<x.t)(o k:Int)(a:Bool):Has (mW x y) o k a↔Has [y] o k a/\¬In x o k:=by
 rw[oW];unfold mW In
 split
 ·rename_i g
  rw[oW];unfold In
  constructor
  ·rintro⟨⟨r,n,w⟩,v⟩
   refine⟨⟨⟨r,n,w⟩,v⟩,?_⟩
   rintro⟨b,j,i⟩
   rcases g with g|g|g
   ·exact g (by omega)
   ·omega
   omega
  exact λh=>h.1
 rename_i g
 rw[dO];have e:y.o=x.o:=by
  apply Decidable.byContradiction
  intro h;exact g (.inl h)
 have r:¬y.t<=x.f:=λh=>g (.inr (.inl h))
 have n:¬x.t<=y.f:=λh=>g (.inr (.inr h))
 have l:∀o k a,¬Has [] o k a:=λ_ _ _ ⟨_,h,_⟩=>by cases h
 by_cases p:y.f<x.f<;>by_cases q:x.t<y.t<;>simp only[p,q,if_true,if_false,oW,l,In,or_false,false_or]
 all_goals constructor
 all_goals first
  |(rintro(⟨⟨b,j,i⟩,c⟩|⟨⟨b,j,i⟩,c⟩)<;>refine⟨⟨⟨b,by omega,by omega⟩,c⟩,by omega⟩)
  |(rintro⟨⟨b,j,i⟩,c⟩;refine⟨⟨⟨b,by omega,by omega⟩,c⟩,by omega⟩)
  |(
    rintro⟨⟨⟨b,j,i⟩,c⟩,m⟩
    by_cases u:k<x.f
    ·exact .inl ⟨⟨b,j,u⟩,c⟩
    ·exact .inr ⟨⟨b,by omega,i⟩,c⟩)
  |(rintro⟨⟨⟨b,j,i⟩,c⟩,m⟩;exact⟨⟨b,by omega,by omega⟩,c⟩)
  |(rintro⟨⟨⟨b,j,i⟩,c⟩,m⟩;exact absurd ⟨by omega,by omega,by omega⟩ m)
  |(intro h;exact h.elim)
theorem Nr{x:Lk}(hx:x.f<x.t)(l:List Lk)(o k:Int)(a:Bool):Has (cut l x) o k a↔Has l o k a/\¬In x o k:=by
 induction l with
 |nil=>simp[cut,Has]
 |cons y r ih=>
  have e:cut (y::r) x=mW x y++cut r x:=rfl;rw[e,dO,ih,RU hx,show y::r=[y]++r from rfl,dO]
  constructor
  ·rintro(⟨h,b⟩|⟨h,b⟩)
   ·exact⟨.inl h,b⟩
   ·exact⟨.inr h,b⟩
  ·rintro⟨h|h,b⟩
   ·exact .inl ⟨h,b⟩
   ·exact .inr ⟨h,b⟩
end Lk
namespace Lk
theorem qy{α:Type}{R S:α->α->Prop}:∀{l:List α},(∀a∈l,∀b∈l,R a b->S a b)->l.Pairwise R->l.Pairwise S
 |[],_,_=>List.Pairwise.nil
 |x::r,h,hp=>by
  rw[l8]at hp ⊢;exact⟨λb hb=>h x (by simp) b (by simp[hb]) (hp.1 b hb),qy (λa ha b hb=>h a (by simp[ha]) b (by simp[hb])) hp.2⟩
def Ok(l:List Lk):Prop:=(∀x∈l,range x=false)/\l.Pairwise λy z=>order y z=false
def Fair(l:List Lk):Prop:=∀o o' k a a',o≠o'->Has l o k a->Has l o' k a'->a=false
theorem rE(x y:Lk):clash x y=true↔x.o≠y.o/\(x.a=true\/y.a=true)/\x.f<y.t/\y.f<x.t:=by
 unfold clash;simp only[kI,Cq,mI,Dg,ne_eq];simp only[and_assoc]
theorem RV{α:Type}{R:α->α->Prop}(hs:∀a b,R a b->R b a){l:List α}(h:l.Pairwise R){x y:α}(hx:x∈l)(hy:y∈l)(hne:x≠y):R x y:=by
 induction l with
 |nil=>cases hx
 |cons z r ih=>
  rw[l8]at h
  rcases List.mem_cons.1 hx with rfl|e
  ·rcases List.mem_cons.1 hy with rfl|c
   ·exact absurd rfl hne
   ·exact h.1 y c
  ·rcases List.mem_cons.1 hy with rfl|c
   ·exact hs _ _ (h.1 x e)
   ·exact ih h.2 e c
theorem iH(l:List Lk):Right l↔Ok l/\Fair l:=by
 constructor
 ·rintro⟨c,i⟩
  refine⟨⟨c,qy (λ_ _ _ _ h=>h.1) i⟩,?_⟩
  rintro o O k a K q ⟨y,g,F,x,I,r⟩ ⟨z,e,E,D,G,w⟩;have p:l.Pairwise λy z=>clash y z=false:=qy (λ_ _ _ _ h=>h.2) i
  have v:y≠z:=by rintro rfl;exact q (by omega)
  have h:=RV (λa b h=>by rw[fG];exact h) p g e v
  rcases ha:a with _|_
  ·rfl
  exfalso
  have:clash y z=true:=(rE _ _).2 ⟨by omega,.inl (by rw[r,ha]),by omega,by omega⟩
  rw[h]at this
  cases this
 rintro⟨⟨c,i⟩,n⟩;refine⟨c,qy (λy g z e h=>⟨h,?_⟩) i⟩
 rcases p:clash y z with _|_
 ·rfl
 exfalso
 rw[rE]at p;obtain⟨j,m,L,Q⟩:=p;have M:=(bF y).1 (c y g);have N:=(bF z).1 (c z e)
 by_cases H:y.f<=z.f
 ·have A:Has l y.o z.f y.a:=⟨y,g,rfl,H,by omega,rfl⟩
  have B:Has l z.o z.f z.a:=⟨z,e,rfl,rA _,by omega,rfl⟩
  have u:=n _ _ _ _ _ j A B;have t:=n _ _ _ _ _ (Fy j) B A;rw[u,t]at m;simp at m
 have A:Has l y.o y.f y.a:=⟨y,g,rfl,rA _,by omega,rfl⟩
 have B:Has l z.o y.f z.a:=⟨z,e,rfl,by omega,by omega,rfl⟩
 have u:=n _ _ _ _ _ j A B;have t:=n _ _ _ _ _ (Fy j) B A;rw[u,t]at m;simp at m
def before(y z:Lk):Prop:=y.o<z.o\/(y.o=z.o/\y.t<=z.f)
theorem rF{l:List Lk}(h:Ok l):l.Pairwise before:=by
 refine qy (λy b z c a=> ?_) h.2
 rw[jm]at a;unfold before
 by_cases e:y.o=z.o
 ·exact .inr ⟨e,by rcases a.2 e with h|⟨h,_⟩<;>omega⟩
 exact .inl (by omega)
def apart(y z:Lk):Prop:=y.o≠z.o\/y.t<=z.f\/z.t<=y.f
theorem zH(y z:Lk)(h:apart y z):apart z y:=by unfold apart at*;omega
theorem uF{y z:Lk}(h:before y z):apart y z:=by unfold before apart at*;omega
theorem O6{y z:Lk}(hz:range z=false)(ha:apart y z)(hs:less z y=false):before y z:=by
 rw[bF]at hz;simp only[less,mU,nk,Bool.and_eq_false_iff,fq]at hs;unfold apart at ha;unfold before;omega
theorem RX{out:List Lk}{x:Lk}(hr:∀y∈out,range y=false)(hx:range x=false)(o k:Int)(a:Bool):Has (push out x) o k a↔Has out o k a\/Has [x] o k a:=by
 rcases tO out with rfl|⟨r,y,rfl⟩
 ·rw[yU]
  simp[Has]
 simp only[p8]at*
 rcases i:touch y x with _|_
 ·rw[jd _ _ _ i,dO]
 rw[mi _ _ _ i,dO,dO,oW,oW,oW];simp only[touch,kI,p9]at i;obtain⟨⟨m,p⟩,j⟩:=i;have n:=(bF y).1 (hr y (by simp))
 rw[bF]at hx;unfold In
 constructor
 ·rintro(h|⟨⟨e,c,g⟩,b⟩)
  ·exact .inl (.inl h)
  dsimp only at e c g b
  by_cases l:k<y.t
  ·exact .inl (.inr ⟨⟨e,c,l⟩,b⟩)
  exact .inr ⟨⟨by omega,by omega,g⟩,by rw[b,j]⟩
 rintro((h|⟨⟨e,c,g⟩,b⟩)|⟨⟨e,c,g⟩,b⟩)
 ·exact .inl h
 ·exact .inr ⟨⟨e,c,by dsimp only;omega⟩,b⟩
 exact .inr ⟨⟨by dsimp only;omega,by dsimp only;omega,g⟩,by rw[b,j]⟩
theorem UZ{out:List Lk}{x:Lk}(h:Ok out)(hx:range x=false)(hb:∀y∈out,before y x):Ok (push out x):=by
 rcases tO out with rfl|⟨r,y,rfl⟩
 ·rw[yU]
  exact⟨by simpa using hx,nQ _ _⟩
 simp only[p8]at*;have j:=hb y (by simp)
 have l:=h.1 y (by simp)
 obtain⟨o,b⟩:=h;rw[mK]at b;obtain⟨b,_,k⟩:=b
 rcases c:touch y x with _|_
 ·rw[jd _ _ _ c]
  have g:order y x=false:=by
   rw[jm];rw[bF]at l hx;unfold before at j;refine⟨by omega,λe=> ?_⟩
   by_cases m:y.t=x.f
   ·refine .inr ⟨m,λn=> ?_⟩
    simp[touch,e,m,n]at c
   exact .inl (by omega)
  refine⟨?_,?_⟩
  ·intro z a
   rcases List.mem_append.1 a with a|a
   ·exact o z a
   rw[List.mem_singleton.1 a];exact hx
  rw[mK,mK];refine⟨⟨b,nQ _ _,k⟩,nQ _ _,?_⟩
  intro z a w i;rw[List.mem_singleton.1 i]
  rcases List.mem_append.1 a with a|a
  ·exact xq l (k z a y (by simp)) g
  rw[List.mem_singleton.1 a];exact g
 rw[mi _ _ _ c];simp only[touch,kI,p9]at c;obtain⟨⟨p,m⟩,n⟩:=c;refine⟨?_,?_⟩
 ·intro z a
  rcases List.mem_append.1 a with a|a
  ·exact o z (wh _ a)
  rw[List.mem_singleton.1 a];rw[bF]at l hx ⊢;dsimp only;omega
 rw[mK];refine⟨b,nQ _ _,?_⟩
 intro z a w i;rw[List.mem_singleton.1 i];exact k z a y (by simp)
theorem H6{out:List Lk}{x z:Lk}(hb:∀y∈out,before y z)(hx:before x z):∀y∈push out x,before y z:=by
 rcases tO out with rfl|⟨r,y,rfl⟩
 ·rw[yU];simpa using hx
 simp only[p8]at*;intro v a
 rcases b:touch y x with _|_
 ·rw[jd _ _ _ b]at a
  rcases List.mem_append.1 a with a|a
  ·exact hb v a
  rw[List.mem_singleton.1 a];exact hx
 rw[mi _ _ _ b]at a;simp only[touch,kI,p9]at b
 rcases List.mem_append.1 a with a|a
 ·exact hb v (wh _ a)
 rw[List.mem_singleton.1 a];unfold before at hx ⊢;dsimp only;omega
theorem Ns:∀(l out:List Lk),Ok out->(∀x∈l,range x=false)->l.Pairwise before->(∀y∈out,∀x∈l,before y x)->
  Ok (l.foldl push out)/\∀o k a,Has (l.foldl push out) o k a↔Has out o k a\/Has l o k a
 |[],out,h,_,_,_=>⟨h,λo k a=>by simp[Has]⟩
 |x::l,out,h,hr,hp,hb=>by
  rw[List.foldl_cons];have hx:=hr x (by simp)
  rw[l8]at hp;obtain⟨e,g⟩:=Ns l (push out x) (UZ h hx λy b=>hb y b x (by simp)) (λy b=>hr y (by simp[b])) hp.2
   (λy b z c=>H6 (λy b=>hb y b z (by simp[c])) (hp.1 z c) y b)
  refine⟨e,λo k a=> ?_⟩
  rw[g,RX h.1 hx,show x::l=[x]++l from rfl,dO,or_assoc]
theorem Kw:Ok []:=⟨λ_ h=>(nomatch h),List.Pairwise.nil⟩
theorem U0{l:List Lk}(hr:∀x∈l,range x=false)(hp:l.Pairwise before):Ok (tidy l)/\∀o k a,Has (tidy l) o k a↔Has l o k a:=by
 obtain⟨b,c⟩:=Ns l [] Kw hr hp (λ_ h=>(nomatch h))
 refine⟨b,λo k a=> ?_⟩
 unfold tidy;rw[c];simp[Has]
theorem xu{l:List Lk}(h:Ok l){o k:Int}{a a':Bool}(h1:Has l o k a)(h2:Has l o k a'):a=a':=by
 obtain⟨y,g,q,r,m,c⟩:=h1;obtain⟨z,i,n,j,p,b⟩:=h2
 by_cases e:y=z
 ·rw[<-c,<-b,e]
 have:=RV zH (qy (λ_ _ _ _ h=>uF h) (rF h)) g i e
 unfold apart at this;omega
theorem Nu{x:Lk}{r:List Lk}(h:Ok (x::r)):Ok r:=⟨λy a=>h.1 y (by simp[a]),(List.pairwise_cons.1 h.2).2⟩
theorem H7{x:Lk}{r:List Lk}(h:Ok (x::r))(o k:Int)(a:Bool):Has r o k a↔Has (x::r) o k a/\¬In x o k:=by
 have j:=(List.pairwise_cons.1 (rF h)).1
 constructor
 ·rintro⟨y,b,e,c,g,i⟩
  refine⟨⟨y,by simp[b],e,c,g,i⟩,?_⟩
  rintro⟨m,p,n⟩;have:=j y b;unfold before at this;omega
 rintro⟨⟨y,b,e,c,g,i⟩,l⟩
 rcases List.mem_cons.1 b with rfl|b
 ·exact absurd ⟨e.symm,c,g⟩ l
 exact⟨y,b,e,c,g,i⟩
theorem zI{x:Lk}{r:List Lk}(h:Ok (x::r)){o k:Int}{a:Bool}(hh:Has (x::r) o k a):x.o<o\/(x.o=o/\x.f<=k):=by
 have g:=(List.pairwise_cons.1 (rF h)).1;have l:=(bF x).1 (h.1 x (by simp))
 obtain⟨y,b,e,c,j,i⟩:=hh
 rcases List.mem_cons.1 b with rfl|b
 ·exact .inr ⟨e,c⟩
 have:=g y b;unfold before at this;omega
theorem H8{x:Lk}{r:List Lk}(h:Ok (x::r)):¬Has (x::r) x.o x.t x.a:=by
 rintro⟨y,b,e,g,i,c⟩
 rcases List.mem_cons.1 b with rfl|b
 ·omega
 have:=(List.pairwise_cons.1 h.2).1 y b;rw[jm]at this
 rcases this.2 e.symm with h|⟨_,h⟩
 ·omega
 exact h c.symm
theorem vT:∀{l m:List Lk},Ok l->Ok m->(∀o k a,Has l o k a↔Has m o k a)->l=m
 |[],[],_,_,_=>rfl
 |x::r,[],hl,_,h=>by
  have hx:=(bF x).1 (hl.1 x (by simp))
  obtain⟨y,j,_⟩:=(h x.o x.f x.a).1 ⟨x,by simp,rfl,rA _,by omega,rfl⟩
  cases j
 |[],y::s,_,hm,h=>by
  have j:=(bF y).1 (hm.1 y (by simp))
  obtain⟨z,v,_⟩:=(h y.o y.f y.a).2 ⟨y,by simp,rfl,rA _,by omega,rfl⟩
  cases v
 |x::r,y::s,hl,hm,h=>by
  have hx:=(bF x).1 (hl.1 x (by simp))
  have j:=(bF y).1 (hm.1 y (by simp))
  have p:Has (x::r) x.o x.f x.a:=⟨x,by simp,rfl,rA _,by omega,rfl⟩
  have n:Has (y::s) y.o y.f y.a:=⟨y,by simp,rfl,rA _,by omega,rfl⟩
  have w:=zI hm ((h _ _ _).1 p);have A:=zI hl ((h _ _ _).2 n);have b:x.o=y.o:=by omega
  have g:x.f=y.f:=by omega
  have c:x.a=y.a:=by
   rw[<-b,<-g]at n;exact xu hm ((h _ _ _).1 p) n
  have q:x.t=y.t:=by
   apply Decidable.byContradiction
   intro u
   by_cases i:x.t<y.t
   ·exact H8 hl ((h _ _ _).2 ⟨y,by simp,b.symm,by omega,i,c.symm⟩)
   ·exact H8 hm ((h _ _ _).1 ⟨x,by simp,b,by omega,by omega,c⟩)
  have e:x=y:=by
   cases x;cases y
   simp only at b g c q;subst b g c q
   rfl
  subst e;rw[vT (Nu hl) (Nu hm) λo k a=>by rw[H7 hl,H7 hm,h]]
theorem O7{l:List Lk}(x:Lk)(h:∀y∈l,range y=false):∀z∈cut l x,range z=false:=by
 intro z a;obtain⟨y,b,a⟩:=List.mem_flatMap.1 a;obtain⟨k,i,m,j,e,g⟩:=uD a;have c:=h y b;rw[bF]at c ⊢;have:=e (by omega)
 omega
theorem U3{l:List Lk}{x:Lk}(hx:range x=false):∀z∈cut l x,apart z x:=by
 intro z a;obtain⟨y,h,a⟩:=List.mem_flatMap.1 a;obtain⟨i,c,k,g,j,b⟩:=uD a;rw[bF]at hx;unfold apart
 by_cases e:z.o=x.o
 ·exact .inr (b (by omega) e)
 exact .inl e
theorem U4{x y:Lk}(hx:range x=false):(mW x y).Pairwise λy z=>order y z=false:=by
 rw[bF]at hx;unfold mW
 split
 ·exact nQ _ _
 split<;>split<;>simp
 rw[jm];exact⟨rA _,λ_=> .inl (by dsimp only;omega)⟩
theorem RY{l:List Lk}{x:Lk}(h:Ok l)(hx:range x=false):Ok (cut l x):=by
 refine⟨O7 x h.1,?_⟩
 have a:=h.2;clear h
 induction l with
 |nil=>exact List.Pairwise.nil
 |cons y r ih=>
  have e:cut (y::r) x=mW x y++cut r x:=rfl;rw[e,mK];rw[l8]at a;refine⟨U4 hx,ih a.2,?_⟩
  intro u k v b;obtain⟨z,j,b⟩:=List.mem_flatMap.1 b;have c:=a.1 z j;obtain⟨G,n,A,D,B,F⟩:=uD k;obtain⟨o,m,w,E,p,q⟩:=uD b;rw[jm]at c ⊢;refine⟨by omega,λe=> ?_⟩
  rcases c.2 (by omega)with h|⟨h,g⟩
  ·exact .inl (by omega)
  ·by_cases i:u.t=v.f
   ·exact .inr ⟨i,by rw[n,m];exact g⟩
   ·exact .inl (by omega)
theorem zJ{l l':List Lk}{x:Lk}(h:Ok l)(hx:range x=false)(hp:l'.Perm (cut l x++[x]))(hs:l'.Pairwise λx y=>less y x=false):Ok (tidy l')/\∀o k a,Has (tidy l') o k a↔(Has l o k a/\¬In x o k)\/(In x o k/\a=x.a):=by
 have g:=RY h hx;have e:∀y∈l',range y=false:=by
  intro y b
  rcases List.mem_append.1 (hp.mem_iff.1 b)with b|b
  ·exact g.1 y b
  rw[List.mem_singleton.1 b];exact hx
 have ha:l'.Pairwise apart:=by
  refine(hp.pairwise_iff (λ{y z} h=>zH y z h)).2 ?_
  rw[mK];refine⟨qy (λ_ _ _ _ h=>uF h) (rF g),nQ _ _,?_⟩
  intro y b z c;rw[List.mem_singleton.1 c];exact U3 hx y b
 have m:l'.Pairwise before:=qy (λ_ _ z c h=>O6 (e z c) h.1 h.2) (List.Pairwise.and ha hs)
 obtain⟨j,i⟩:=U0 e m;refine⟨j,λo k a=> ?_⟩
 rw[i,RS hp,dO,Nr (by rw[bF]at hx;omega),oW]
theorem H9{l:List Lk}{x:Lk}(h:Right l)(hx:range x=false):Right (cut l x)/\∀o k a,Has (cut l x) o k a↔Has l o k a/\¬In x o k:=by
 rw[iH]at h;have c:=Nr (by rw[bF]at hx;omega:x.f<x.t) l
 refine⟨(iH _).2 ⟨RY h.1 hx,?_⟩,c⟩
 intro o j k a g b i e;exact h.2 o j k a g b ((c _ _ _).1 i).1 ((c _ _ _).1 e).1
theorem xw{l l':List Lk}{x:Lk}(h:Right l)(hx:range x=false)(hm:(meets l x).isSome=false)(hp:l'.Perm (cut l x++[x]))(hs:l'.Pairwise λx y=>less y x=false):Right (tidy l')/\∀o k a,Has (tidy l') o k a↔(Has l o k a/\¬In x o k)\/(In x o k/\a=x.a):=by
 rw[iH]at h;obtain⟨z,u⟩:=zJ h.1 hx hp hs;have j:∀y∈l,clash y x=false:=by
  intro y n;have:=List.find?_eq_none.1 (by simpa[meets]using hm:l.find? (λy=>clash y x)=none) y n
  simpa using this
 have e:∀o k a,o≠x.o->Has l o k a->x.f<=k->k<x.t->a=false/\x.a=false:=by
  rintro o k a b ⟨y,n,K,H,L,B⟩ D I;have i:=j y n
  rcases ha:y.a with _|_
  ·rcases q:x.a with _|_
   ·exact⟨by rw[<-B,ha],rfl⟩
   rw[(rE y x).2 ⟨by omega,.inr q,by omega,by omega⟩]at i
   cases i
  rw[(rE y x).2 ⟨by omega,.inl ha,by omega,by omega⟩]at i
  cases i
 refine⟨(iH _).2 ⟨z,?_⟩,u⟩
 intro o w k a r b g c;rw[u]at g c
 rcases g with⟨g,_⟩|⟨⟨A,m,p⟩,v⟩
 ·rcases c with⟨c,_⟩|⟨⟨A,m,p⟩,v⟩
  ·exact h.2 o w k a r b g c
  exact(e o k a (by omega) g m p).1
 rcases c with⟨c,_⟩|⟨⟨E,M,F⟩,G⟩
 ·rw[v];exact(e w k r (by omega) c m p).2
 exact absurd (by omega) b
end Lk
structure Ca where
 kind:Int
 owner:Int
 fd:Int
 n:Int
 m:Int
 path:ByteArray
 to:ByteArray
 text:ByteArray
 alone:Bool
structure An where
 err:Int
 n:Int
 text:ByteArray
 names:List Pt.Bs
structure Ob where
 p:ByteArray
 t:ByteArray
 l:List Lk
structure De where
 o:Nat
 fl:Int
 at_:Int
 refs:Int
structure St where
 u:Un
 T:List En
 obs:List Ob
 files:List Nat
 des:List De
 fds:List (List (Option Nat))
namespace Ob
def P(o:Ob):Pt.Bs:=o.p.data.toList
end Ob
namespace An
def no(e:Int):An:=⟨e,0,⟨#[]⟩,[]⟩
def num(n:Int):An:=⟨0,n,⟨#[]⟩,[]⟩
def ok:An:=no 0
end An
namespace Sy
open Pt Tr
def bit(n:Int)(k:Nat):Bool:=n.toNat.testBit k
def noE:ByteArray:=⟨#[]⟩
def bytesOf(l:Bs):ByteArray:=⟨l.toArray⟩
def slash(t:ByteArray):Bool:=Lib.hasPrefix t [47]
def hop(go:List Bs->Bs->Bs×Int)(t:ByteArray)(rest:List Bs)(at_:Bs):Bs×Int:=
 if(parse t).2≠0 then([],(parse t).2)else go ((parse t).1++rest) (if slash t then []else at_)
def nT(T:List En)(follow:Bool)(link:ByteArray->List Bs->Bs->Bs×Int):List Bs->Bs->Bs×Int
 |[],at_=>(at_,0)
 |n::rest,at_=>
  if bg T at_≠0 then([],bg T at_)else
  if n=[46,46]then nT T follow link rest (ah at_)else
  match get T (join at_ n)with
  |none=>if rest≠[]then([],6)else nT T follow link rest (join at_ n)
  |some e=>if e.k=3/\(follow=true\/rest≠[])then link e.t rest at_ else nT T follow link rest (join at_ n)
def walk(T:List En)(follow:Bool):Nat->List Bs->Bs->Bs×Int
 |0=>nT T follow λ_ _ _=>([],12)
 |h+1=>nT T follow (hop (walk T follow h))
def find(T:List En)(p:Bs)(follow:Bool):Bs×Int:=
 if(parse p).2≠0 then([],(parse p).2)else
 if(walk T follow 8 (parse p).1 []).2=0/\80<(walk T follow 8 (parse p).1 []).1.length then([],4)else walk T follow 8 (parse p).1 []
def set(s:St)(r:Un×Int):St×Int:=if r.2≠0 then(s,r.2)else({s with u:=r.1,T:=(seenU r.1).1},(seenU r.1).2)
def fdAt(s:St)(o k:Nat):Option Nat:=((s.fds.getD o []).getD k none)
def setFd(s:St)(o k:Nat)(v:Option Nat):St:={s with fds:=s.fds.modify o λr=>r.set k v}
def free(s:St)(o:Nat):Option Nat:=(s.fds.getD o []).findIdx? λx=>x.isNone
def obAt(s:St)(i:Nat):Ob:=s.obs.getD i ⟨noE,noE,[]⟩
def deAt(s:St)(d:Nat):De:=s.des.getD d ⟨0,0,0,0⟩
def textOf(s:St)(i:Nat):ByteArray:=if(obAt s i).P=[]then(obAt s i).t else match get s.T (obAt s i).P with
 |some e=>e.t
 |none=>noE
def opened(s:St)(p:Bs):St×Nat:=match s.files.find? λi=>(obAt s i).P==p with
 |some i=>(s,i)
 |none=>({s with obs:=s.obs++[⟨bytesOf p,noE,[]⟩],files:=s.files++[s.obs.length]},s.obs.length)
def fileEn(p:Bs)(t:ByteArray):En:=⟨bytesOf p,1,t,false⟩
def dX(n:Int):Bool:=decide (n<1)||decide (63<n)||(!bit n 0&& !bit n 1)||((bit n 2||bit n 5)&& !bit n 1)||(bit n 4&& !bit n 3)
def openSet(s:St)(n:Int)(at_:Bs):St×Int:=match get s.T at_ with
 |none=>if bit n 3=false then(s,6)else set s (putU s.u (fileEn at_ noE))
 |some e=>if bit n 4=true then(s,7)else if e.k=2 then(s,9)else if bit n 5=true/\e.t.data.toList≠[]then set s (putU s.u (fileEn at_ noE))else(s,0)
def callOpen(s:St)(c:Ca):St×An:=
 if dX c.n=true then(s,.no 8)else
 match free s c.owner.toNat with
 |none=>(s,.no 5)
 |some k=>
  if(find s.T c.path (!bit c.n 4)).2≠0 then(s,.no (find s.T c.path (!bit c.n 4)).2)else
  let at_:=(find s.T c.path (!bit c.n 4)).1
  let r:=openSet s c.n at_
  if r.2≠0 then(r.1,.no r.2)else
  let q:=opened r.1 at_
  (setFd {q.1 with des:=q.1.des++[⟨q.2,c.n,0,1⟩]} c.owner.toNat k (some q.1.des.length),.num k)
def setOb(s:St)(i:Nat)(f:Ob->Ob):St:={s with obs:=s.obs.modify i f}
def setDe(s:St)(d:Nat)(f:De->De):St:={s with des:=s.des.modify d f}
def write(s:St)(i:Nat)(t:ByteArray):St×Int:=
 if 100<t.size then(s,4)else
 if(obAt s i).P=[]then(setOb s i λo=>{o with t:=t},0)else
 if t.data.toList=(textOf s i).data.toList then(s,0)else set s (putU s.u (fileEn (obAt s i).P t))
def sized(t:Bs)(n:Nat):Bs:=t.take n++List.replicate (n-t.length) 0
def used(s:St)(i:Nat):Bool:=s.fds.any λr=>r.any λx=>match x with
 |some d=>(deAt s d).o==i
 |none=>false
def callClose(s:St)(o k d:Nat):St×An:=
 let s1:=setFd s o k none
 let i:=(deAt s d).o
 let s2:=setOb s1 i λx=>{x with l:=Lk.leave x.l o}
 let s3:=setDe s2 d λx=>{x with refs:=x.refs-1}
 (if(deAt s3 d).refs=0/\used s3 i=false then{s3 with files:=s3.files.filter λj=>j !=i}else s3,.ok)
def callDup(s:St)(o d:Nat):St×An:=match free s o with
 |none=>(s,.no 5)
 |some k=>(setDe (setFd s o k (some d)) d λx=>{x with refs:=x.refs+1},.num k)
def callSeek(s:St)(d:Nat)(n:Int):St×An:=if n<0\/1000<n then(s,.no 3)else(setDe s d λx=>{x with at_:=n},.ok)
def callLock(s:St)(c:Ca)(i:Nat):St×An:=
 let x:Lk:=⟨c.owner,c.n,c.m,c.alone⟩
 let r:=if c.kind=15 then Lk.free (obAt s i).l x else Lk.take (obAt s i).l x
 (if r.2=0 then setOb s i λo=>{o with l:=r.1}else s,.no r.2)
def callRead(s:St)(c:Ca)(d:Nat):St×An:=
 if bit (deAt s d).fl 0=false then(s,.no 8)else
 if c.n<0\/1000<c.n then(s,.no 3)else
 let t:=((textOf s (deAt s d).o).data.toList.drop (deAt s d).at_.toNat).take c.n.toNat
 (setDe s d λx=>{x with at_:=x.at_+t.length},⟨0,t.length,bytesOf t,[]⟩)
def callWrite(s:St)(c:Ca)(d:Nat):St×An:=
 if bit (deAt s d).fl 1=false then(s,.no 8)else
 let i:=(deAt s d).o
 let t:=(textOf s i).data.toList
 if c.kind=16 then
  if c.n<0\/100<c.n then(s,.no 3)else((write s i (bytesOf (sized t c.n.toNat))).1,.no (write s i (bytesOf (sized t c.n.toNat))).2)
 else
  let at_:Nat:=if bit (deAt s d).fl 2=true then t.length else(deAt s d).at_.toNat
  let x:=c.text.data.toList
  let end_:=at_+x.length
  if x=[]then(setDe s d λy=>{y with at_:=at_},.ok)else
  if 100<end_ then(s,.no 4)else
  let long:=sized t (max end_ t.length)
  let r:=write s i (bytesOf (long.take at_++x++long.drop end_))
  if r.2≠0 then(r.1,.no r.2)else(setDe r.1 d λy=>{y with at_:=end_},.num x.length)
def use(s:St)(c:Ca):St×An:=
 if c.fd<0\/8<=c.fd then(s,.no 6)else
 match fdAt s c.owner.toNat c.fd.toNat with
 |none=>(s,.no 6)
 |some d=>
  if c.kind=2 then callClose s c.owner.toNat c.fd.toNat d else
  if c.kind=13 then callDup s c.owner.toNat d else
  if c.kind=5 then callSeek s d c.n else
  if c.kind=14\/c.kind=15 then callLock s c (deAt s d).o else
  if c.kind=3 then callRead s c d else callWrite s c d
def lose(s:St)(p:Bs):St:=
 {s with obs:=s.obs.mapIdx λi o=>if i∈s.files/\o.P=p/\p≠[]then{o with t:=textOf s i,p:=noE}else o}
def jF(c:Ca)(at_:Bs):En:=if c.kind=10 then⟨bytesOf at_,3,c.to,false⟩else⟨bytesOf at_,2,noE,false⟩
def create(s:St)(c:Ca):St×An:=
 let f:=find s.T c.path false
 if f.2≠0 then(s,.no f.2)else
 if(get s.T f.1).isSome=true then(s,.no 7)else
 ((set s (putU s.u (jF c f.1))).1,.no (set s (putU s.u (jF c f.1))).2)
def remove(s:St)(c:Ca):St×An:=
 let f:=find s.T c.path false
 if f.2≠0 then(s,.no f.2)else
 match get s.T f.1 with
 |none=>(s,.no 6)
 |some e=>
  if c.kind=7/\e.k≠2 then(s,.no 10)else if c.kind=8/\e.k=2 then(s,.no 9)else if f.1=[]then(s,.no 8)else
  let r:=removeU s.u f.1
  if r.2≠0 then(s,.no r.2)else((set (lose s f.1) r).1,.no (set (lose s f.1) r).2)
def follow(s:St)(a b:Bs):St:=
 {s with obs:=s.obs.mapIdx λi o=>if i∈s.files/\(o.P=a\/(under o.P a=true/\o.P≠[]))then{o with p:=bytesOf (b++o.P.drop a.length)}else o}
def rename(s:St)(c:Ca):St×An:=
 let f:=find s.T c.path false
 if f.2≠0 then(s,.no f.2)else
 let g:=find s.T c.to false
 if g.2≠0 then(s,.no g.2)else
 if f.1=[]\/g.1=[]then(s,.no 8)else
 let r:=moveU s.u f.1 g.1
 if r.2≠0 then(s,.no r.2)else
 let s1:=follow (if f.1≠g.1 then lose s g.1 else s) f.1 g.1
 ((set s1 r).1,.no (set s1 r).2)
def tell(s:St)(c:Ca):An:=
 let f:=find s.T c.path true
 if f.2≠0 then .no f.2 else
 if c.kind=11 then⟨(Tr.list s.T f.1).2,0,noE,(Tr.list s.T f.1).1⟩else
 match get s.T f.1 with
 |none=> .no 6
 |some e=>⟨0,e.k,e.t,[]⟩
def call(s:St)(c:Ca):St×An:=
 if c.kind<1\/16<c.kind then(s,.no 1)else
 if c.owner<0\/4<=c.owner then(s,.no 3)else
 if c.kind=1 then callOpen s c else
 if c.kind=6\/c.kind=10 then create s c else
 if c.kind=7\/c.kind=8 then remove s c else
 if c.kind=9 then rename s c else
 if c.kind=11\/c.kind=12 then(s,tell s c)else use s c
def calls:St->List Ca->St×List An
 |s,[]=>(s,[])
 |s,c::r=>((calls (call s c).1 r).1,(call s c).2::(calls (call s c).1 r).2)
def start(u:Un):St:=⟨u,(seenU u).1,[],[],[],List.replicate 4 (List.replicate 8 none)⟩
def play(u:Un)(l:List Ca):(Un×List En×Nat)×List An×Int:=
 if(wrongU u).1≠0 then((Un.zero,[],0),[],(wrongU u).1)else
 if 80<l.length then((Un.zero,[],0),[],5)else
 (((calls (start u) l).1.u,(calls (start u) l).1.T,(calls (start u) l).1.files.length),(calls (start u) l).2,0)
end Sy
namespace Sy
open Pt Tr
def Ok(s:St):Prop:=Fine s.u/\seenU s.u=(s.T,0)
theorem Ok.T{s:St}(h:Ok s):(seenU s.u).1=s.T:=by rw[h.2]
theorem start_ok{u:Un}(h:(wrongU u).1=0):Ok (start u):=by
 have a:=(fine_iff u).1 h;refine⟨a,?_⟩
 show seenU u=((seenU u).1,0)
 have:=(jb (u:=u)).2 a;rw[<-this]
def Good(s:St)(r:St×Int):Prop:=Ok r.1/\r.1.u.L=s.u.L/\(r.2≠0->r.1=s)
theorem set_good{s:St}{r:Un×Int}{t:List En×Int}(h:Ok s)(hr:AsTree s.u r t):Good s (set s r)/\((set s r).2≠0->(set s r).2=r.2)/\(r.2=0->set s r=({s with u:=r.1,T:=t.1},0)/\t.2=0):=by
 unfold set
 by_cases e:r.2=0
 ·rw[av (by simp[e])]
  obtain⟨a,b,c,d⟩:=hr.2 e;rw[d];exact⟨⟨⟨a,d⟩,b,λh=>absurd rfl h⟩,λh=>absurd rfl h,λ_=>⟨rfl,c⟩⟩
 rw[aM e];exact⟨⟨h,rfl,λ_=>rfl⟩,λ_=>rfl,λh=>absurd h e⟩
theorem jG{s:St}(h:Ok s)(e:En):Good s (set s (putU s.u e)):=(set_good h (putU_tree h.1 e)).1
theorem lT{s:St}(h:Ok s)(e:Int):Good s (s,e):=⟨h,rfl,λ_=>rfl⟩
theorem uo{s:St}(h:Ok s)(n:Int)(p:Bs):Good s (openSet s n p):=by
 unfold openSet
 split
 ·split
  ·exact lT h _
  exact jG h _
 split
 ·exact lT h _
 split
 ·exact lT h _
 split
 ·exact jG h _
 exact lT h _
def CO(s:St)(r:St×An):Prop:=Ok r.1/\r.1.u.L=s.u.L/\(r.2.err≠0->r.1=s)
theorem cu{s:St}(h:Ok s)(a:An):CO s (s,a):=⟨h,rfl,λ_=>rfl⟩
theorem opened_u(s:St)(p:Bs):(opened s p).1.u=s.u/\(opened s p).1.T=s.T:=by
 unfold opened;split<;>exact⟨rfl,rfl⟩
theorem ok_of{s t:St}(h:Ok s)(h1:t.u=s.u)(h2:t.T=s.T):Ok t:=by
 unfold Ok;rw[h1,h2];exact h
theorem yV{s:St}(h:Ok s)(i:Nat)(t:ByteArray):Good s (write s i t):=by
 unfold write
 split
 ·exact lT h _
 split
 ·exact⟨h,rfl,λh=>absurd rfl h⟩
 split
 ·exact lT h _
 exact jG h _
theorem Bc{s:St}(h:Ok s)(c:Ca):CO s (callOpen s c):=by
 unfold callOpen
 split
 ·exact cu h _
 split
 ·exact cu h _
 split
 ·exact cu h _
 have g:=uo h c.n (find s.T c.path (!bit c.n 4)).1;dsimp only
 split
 ·rename_i h0
  exact⟨g.1,g.2.1,λ_=>g.2.2 h0⟩
 have q:=opened_u (openSet s c.n (find s.T c.path (!bit c.n 4)).1).1 (find s.T c.path (!bit c.n 4)).1;refine⟨ok_of g.1 q.1 q.2,?_,λh=>absurd rfl h⟩
 show(opened _ _).1.u.L=_
 rw[q.1];exact g.2.1
theorem yX{s:St}(h:Ok s)(c:Ca)(d:Nat):CO s (callWrite s c d):=by
 unfold callWrite
 split
 ·exact cu h _
 dsimp only
 split
 ·split
  ·exact cu h _
  have g:=yV h (deAt s d).o (bytesOf (sized (textOf s (deAt s d).o).data.toList c.n.toNat));exact⟨g.1,g.2.1,g.2.2⟩
 generalize (if bit (deAt s d).fl 2=true then(textOf s (deAt s d).o).data.toList.length else(deAt s d).at_.toNat)=at_
 split
 ·exact⟨h,rfl,λh=>absurd rfl h⟩
 split
 ·exact cu h _
 have g:=λt=>yV h (deAt s d).o t
 split
 ·rename_i h0
  exact⟨(g _).1,(g _).2.1,λ_=>(g _).2.2 h0⟩
 exact⟨(g _).1,(g _).2.1,λh=>absurd rfl h⟩
theorem QO{s:St}(h:Ok s)(c:Ca):CO s (use s c):=by
 unfold use
 split
 ·exact cu h _
 split
 ·exact cu h _
 rename_i d _
 split
 ·unfold callClose
  dsimp only;refine⟨?_,?_,λh=>absurd rfl h⟩
  ·split<;>exact h
  split<;>rfl
 split
 ·unfold callDup
  split
  ·exact cu h _
  exact⟨h,rfl,λh=>absurd rfl h⟩
 split
 ·unfold callSeek
  split
  ·exact cu h _
  exact⟨h,rfl,λh=>absurd rfl h⟩
 split
 ·unfold callLock
  dsimp only;generalize (if c.kind=15 then Lk.free (obAt s (deAt s d).o).l ⟨c.owner,c.n,c.m,c.alone⟩else Lk.take (obAt s (deAt s d).o).l ⟨c.owner,c.n,c.m,c.alone⟩)=r
  by_cases a:r.2=0
  ·rw[aM a]
   exact⟨h,rfl,λh=>absurd a h⟩
  rw[av a];exact cu h _
 split
 ·unfold callRead
  split
  ·exact cu h _
  split
  ·exact cu h _
  exact⟨h,rfl,λh=>absurd rfl h⟩
 exact yX h c d
theorem call_good{s:St}(h:Ok s)(c:Ca):CO s (call s c):=by
 unfold call
 split
 ·exact cu h _
 split
 ·exact cu h _
 split
 ·exact Bc h c
 split
 ·unfold create
  dsimp only
  split
  ·exact cu h _
  split
  ·exact cu h _
  exact jG h _
 split
 ·unfold remove
  dsimp only
  split
  ·exact cu h _
  split
  ·exact cu h _
  split
  ·exact cu h _
  split
  ·exact cu h _
  split
  ·exact cu h _
  split
  ·exact cu h _
  rename_i a
  have a:(removeU s.u (find s.T c.path false).1).2=0:=Classical.not_not.1 a;have g:=set_good (s:=lose s (find s.T c.path false).1) (ok_of h rfl rfl) (removeU_tree h.1 (find s.T c.path false).1);obtain⟨b,_⟩:=g.2.2 a;exact⟨g.1.1,g.1.2.1,λh=>absurd (by rw[b];rfl) h⟩
 split
 ·unfold rename
  dsimp only
  split
  ·exact cu h _
  split
  ·exact cu h _
  split
  ·exact cu h _
  split
  ·exact cu h _
  rename_i a
  have a:(moveU s.u (find s.T c.path false).1 (find s.T c.to false).1).2=0:=Classical.not_not.1 a;have j:∀t:St,t.u=s.u->t.T=s.T->CO s ((set t (moveU s.u (find s.T c.path false).1 (find s.T c.to false).1)).1,.no (set t (moveU s.u (find s.T c.path false).1 (find s.T c.to false).1)).2):=by
   intro t e i;have g:=set_good (s:=t) (ok_of h e i) (by rw[e];exact moveU_tree h.1 (find s.T c.path false).1 (find s.T c.to false).1)
   obtain⟨b,_⟩:=g.2.2 a;exact⟨g.1.1,g.1.2.1.trans (by rw[e]),λh=>absurd (by rw[b];rfl) h⟩
  refine j _ ?_ ?_
  ·show(if _ then _ else _:St).u=_;split<;>rfl
  show(if _ then _ else _:St).T=_;split<;>rfl
 split
 ·exact cu h _
 exact QO h c
theorem calls_ok:∀{l:List Ca} {s:St},Ok s->Ok (calls s l).1/\(calls s l).1.u.L=s.u.L
 |[],_,h=>⟨h,rfl⟩
 |c::r,s,h=>by
  have g:=call_good h c;obtain⟨a,b⟩:=calls_ok (l:=r) g.1;exact⟨a,b.trans g.2.1⟩
theorem calls_len:∀(l:List Ca) (s:St),(calls s l).2.length=l.length
 |[],_=>rfl
 |_::r,_=>om (·+1) (calls_len r _)
theorem Ou{s:St}{c:Ca}(hk:c.kind=1)(h1:0<=c.owner)(h2:c.owner<4):call s c=callOpen s c:=by
 unfold call;rw[hk,av (by omega),av (by omega),aM rfl]
theorem F_{s:St}{c:Ca}(hk:c.kind=6\/c.kind=10)(h1:0<=c.owner)(h2:c.owner<4):call s c=create s c:=by
 unfold call;rw[av (by omega),av (by omega),av (by omega),aM hk]
theorem Gf{s:St}{c:Ca}(hk:c.kind=7\/c.kind=8)(h1:0<=c.owner)(h2:c.owner<4):call s c=Sy.remove s c:=by
 unfold call;rw[av (by omega),av (by omega),av (by omega),av (by omega),aM hk]
theorem Gg{s:St}{c:Ca}(hk:c.kind=9)(h1:0<=c.owner)(h2:c.owner<4):call s c=rename s c:=by
 unfold call;rw[av (by omega),av (by omega),av (by omega),av (by omega),av (by omega),aM hk]
theorem Ov{s:St}{c:Ca}(hk:c.kind=11\/c.kind=12)(h1:0<=c.owner)(h2:c.owner<4):call s c=(s,tell s c):=by
 unfold call;rw[av (by omega),av (by omega),av (by omega),av (by omega),av (by omega),av (by omega),aM hk]
theorem yY{s:St}{c:Ca}(hk:(2<=c.kind/\c.kind<=5)\/(13<=c.kind/\c.kind<=16))(h1:0<=c.owner)(h2:c.owner<4):call s c=use s c:=by
 unfold call;rw[av (by omega),av (by omega),av (by omega),av (by omega),av (by omega),av (by omega),av (by omega)]
theorem QP{s:St}{c:Ca}{d:Nat}(h1:0<=c.fd)(h2:c.fd<8)(h:fdAt s c.owner.toNat c.fd.toNat=some d):use s c=
  if c.kind=2 then callClose s c.owner.toNat c.fd.toNat d else
  if c.kind=13 then callDup s c.owner.toNat d else
  if c.kind=5 then callSeek s d c.n else
  if c.kind=14\/c.kind=15 then callLock s c (deAt s d).o else
  if c.kind=3 then callRead s c d else callWrite s c d:=by
 unfold use;rw[av (by omega),h]
section
variable {s:St} {c:Ca} {d:Nat} (h1:0<=c.fd) (h2:c.fd<8) (h:fdAt s c.owner.toNat c.fd.toNat=some d)
include h1 h2 h
theorem QQ(hk:c.kind=3):use s c=callRead s c d:=by rw[QP h1 h2 h,av (by omega),av (by omega),av (by omega),av (by omega),aM hk]
theorem Ox(hk:c.kind=4\/c.kind=16):use s c=callWrite s c d:=by rw[QP h1 h2 h,av (by omega),av (by omega),av (by omega),av (by omega),av (by omega)]
end
theorem Gh{s:St}{c:Ca}{d:Nat}{t:Bs}(hb:bit (deAt s d).fl 0=true)(h0:0<=c.n)(h1:c.n<=1000)(ht:(textOf s (deAt s d).o).data.toList=t):callRead s c d=(setDe s d λx=>{x with at_:=x.at_+((t.drop (deAt s d).at_.toNat).take c.n.toNat).length},⟨0,((t.drop (deAt s d).at_.toNat).take c.n.toNat).length,bytesOf ((t.drop (deAt s d).at_.toNat).take c.n.toNat),[]⟩):=by
 unfold callRead;rw[av (by rw[hb];decide),av (by omega)]
 subst ht;rfl
def over(t:Bs)(a:Nat)(x:Bs):Bs:=(sized t (max (a+x.length) t.length)).take a++x++(sized t (max (a+x.length) t.length)).drop (a+x.length)
theorem JZ{t:Bs}{n:Nat}(h:t.length<=n):sized t n=t++List.replicate (n-t.length) 0:=by
 unfold sized;rw[fI h]
theorem Oy(t x:Bs):over t 0 x=x++t.drop x.length:=by
 unfold over;have h:(List.replicate (max x.length t.length-t.length) (0:UInt8)).drop (x.length-t.length)=[]:=zP (by rw[rT];omega)
 rw[F4,vv,mE,JZ (by omega),List.drop_append,h,ky]
theorem yZ{s:St}{c:Ca}{d:Nat}(hk:c.kind=4)(hb:bit (deAt s d).fl 1=true)(hx:c.text.data.toList=[]):∃a:Int,callWrite s c d=(setDe s d λy=>{y with at_:=a},.ok):=by
 unfold callWrite;rw[av (by rw[hb];decide)]
 dsimp only;rw[av (by omega),aM hx]
 exact⟨_,rfl⟩
theorem Ed{s:St}{c:Ca}{d a:Nat}{t x:Bs}(hk:c.kind=4)(hb:bit (deAt s d).fl 1=true)(ht:(textOf s (deAt s d).o).data.toList=t)(hx:c.text.data.toList=x)(hx0:x≠[])(ha:(if bit (deAt s d).fl 2=true then t.length else(deAt s d).at_.toNat)=a)(he:a+x.length<=100)(hw:(write s (deAt s d).o (bytesOf (over t a x))).2=0):callWrite s c d=(setDe (write s (deAt s d).o (bytesOf (over t a x))).1 d λy=>{y with at_:=((a+x.length:Nat):Int)},.num x.length):=by
 unfold callWrite;rw[av (by rw[hb];decide)]
 dsimp only;rw[av (by omega),ht,hx,ha,av hx0,av (by omega)]
 unfold over at hw ⊢;rw[av (by rw[hw];decide)]
end Sy
namespace Sy
open Pt Tr
def xB(n:Nat)(o:Ob):Prop:=o.p.size<=80*(n+1)/\o.t.size<=100/\o.l.length<=40
def Ee(n m:Nat)(d:De):Prop:=d.o<m/\0<=d.at_/\d.at_<=1000/\-(n:Int)<=d.refs/\d.refs<=n/\0<=d.fl/\d.fl<=63
structure In(n:Nat)(s:St):Prop where
 ol:s.obs.length<=n
 fl:s.files.length<=n
 dl:s.des.length<=n
 fsub:∀i∈s.files,i<s.obs.length
 fnd:s.files.Nodup
 fdl:s.fds.length=4
 fdr:∀r∈s.fds,r.length=8
 fdd:∀r∈s.fds,∀d,some d∈r->d<s.des.length
 ob:∀o∈s.obs,xB n o
 de:∀d∈s.des,Ee n s.obs.length d
theorem start_in(u:Un):In 0 (start u) where
 ol:=aR
 fl:=aR
 dl:=aR
 fsub:=λ_ h=>nomatch h
 fnd:=List.Pairwise.nil
 fdl:=rfl
 fdr:=λr h=>by rw[Bn (show r∈List.replicate 4 (List.replicate 8 none)from h),rT]
 fdd:=λr h d a=>by
  rw[Bn (show r∈List.replicate 4 (List.replicate 8 none)from h)]at a
  cases Bn a
 ob:=λ_ h=>nomatch h
 de:=λ_ h=>nomatch h
theorem xB.more{n n':Nat}{o:Ob}(h:xB n o)(hn:n<=n'):xB n' o:=⟨by have:=h.1;omega,h.2⟩
theorem Ee.more{n n' m m':Nat}{d:De}(h:Ee n m d)(hn:n<=n')(hm:m<=m'):Ee n' m' d:=by
 obtain⟨a,b,c,e,f,g⟩:=h;exact⟨by omega,b,c,by omega,by omega,g⟩
theorem In.more{n m:Nat}{s:St}(h:In n s)(hm:n<=m):In m s:=
 ⟨eT h.ol hm,eT h.fl hm,eT h.dl hm,h.fsub,h.fnd,h.fdl,h.fdr,h.fdd,λo b=>(h.ob o b).more hm,λd a=>(h.de d a).more hm aR⟩
theorem In.set{n:Nat}{s:St}(h:In n s)(r:Un×Int):In n (set s r).1:=by
 unfold Sy.set
 split
 ·exact h
 exact⟨h.ol,h.fl,h.dl,h.fsub,h.fnd,h.fdl,h.fdr,h.fdd,h.ob,h.de⟩
theorem In.obs{n:Nat}{s:St}(h:In n s){l:List Ob}(hl:l.length=s.obs.length)(ho:∀o∈l,xB n o):In n {s with obs:=l}:=
 ⟨by show l.length<=n;rw[hl];exact h.ol,h.fl,h.dl,λi b=>by show i<l.length;rw[hl];exact h.fsub i b,h.fnd,h.fdl,h.fdr,h.fdd,ho,λd a=>by show Ee n l.length d;rw[hl];exact h.de d a⟩
theorem In.des{n:Nat}{s:St}(h:In n s){l:List De}(hl:l.length=s.des.length)(ho:∀d∈l,Ee n s.obs.length d):In n {s with des:=l}:=
 ⟨h.ol,h.fl,by show l.length<=n;rw[hl];exact h.dl,h.fsub,h.fnd,h.fdl,h.fdr,λr b d a=>by show d<l.length;rw[hl];exact h.fdd r b d a,h.ob,ho⟩
theorem In.setFd{n:Nat}{s:St}(h:In n s)(o k:Nat)(v:Option Nat)(hv:∀d,v=some d->d<s.des.length):In n (setFd s o k v):=by
 have b:∀r∈s.fds.modify o (λr=>r.set k v),r∈s.fds\/∃c∈s.fds,r=c.set k v:=by
  intro r e;obtain⟨i,j,rfl⟩:=List.mem_iff_getElem.1 e;rw[gP]at j;rw[Bp]
  split
  ·exact .inr ⟨_,cz j,rfl⟩
  exact .inl (cz j)
 refine⟨h.ol,h.fl,h.dl,h.fsub,h.fnd,(by show(s.fds.modify o _).length=4;rw[gP];exact h.fdl),?_,?_,h.ob,h.de⟩
 ·intro r e
  rcases b r e with a|⟨c,a,rfl⟩
  ·exact h.fdr r a
  rw[zm];exact h.fdr c a
 intro r e d l
 rcases b r e with a|⟨c,a,rfl⟩
 ·exact h.fdd r a d l
 rcases List.mem_or_eq_of_mem_set l with g|g
 ·exact h.fdd c a d g
 exact hv d g.symm
theorem qZ{α:Type}{l:List α}{i:Nat}{f:α->α}{x:α}(h:x∈l.modify i f):x∈l\/∃y∈l,x=f y:=by
 obtain⟨k,a,rfl⟩:=List.mem_iff_getElem.1 h;rw[gP]at a;rw[Bp]
 split
 ·exact .inr ⟨_,cz a,rfl⟩
 exact .inl (cz a)
theorem In.setOb{n:Nat}{s:St}(h:In n s)(i:Nat){f:Ob->Ob}(hf:∀o,xB n o->xB n (f o)):In n (setOb s i f):=
 h.obs (gP ..) λo b=>by
  rcases qZ b with a|⟨y,a,rfl⟩
  ·exact h.ob o a
  ·exact hf y (h.ob y a)
theorem In.setDe{n:Nat}{s:St}(h:In n s)(i:Nat){f:De->De}(hf:∀d,Ee n s.obs.length d->Ee n s.obs.length (f d)):In n (setDe s i f):=
 h.des (gP ..) λo b=>by
  rcases qZ b with a|⟨y,a,rfl⟩
  ·exact h.de o a
  ·exact hf y (h.de y a)
theorem bsize(s:ByteArray):s.data.toList.length=s.size:=by simp
theorem bytes_len(l:Bs):(bytesOf l).size=l.length:=rfl
theorem In.opened{n:Nat}{s:St}(h:In n s){p:Bs}(hp:p.length<=80):In (n+1) (opened s p).1/\(opened s p).2<(opened s p).1.obs.length/\(opened s p).1.des=s.des/\(opened s p).1.fds=s.fds:=by
 unfold Sy.opened
 split
 ·rename_i i e
  exact⟨h.more (iN n),h.fsub i (CK e),rfl,rfl⟩
 refine⟨⟨?_,?_,eT h.dl (iN n),?_,?_,h.fdl,h.fdr,h.fdd,?_,?_⟩,?_,rfl,rfl⟩
 ·show(s.obs++[_]).length<=n+1
  rw[bq];have:=h.ol;simp;omega
 ·show(s.files++[_]).length<=n+1
  rw[bq];have:=h.fl;simp;omega
 ·intro i e
  show i<(s.obs++[_]).length
  rw[bq]
  rcases List.mem_append.1 e with c|c
  ·have:=h.fsub i c;simp;omega
  have:=List.mem_singleton.1 c;simp;omega
 ·show(s.files++[s.obs.length]).Nodup
  rw[List.nodup_append];refine⟨h.fnd,List.nodup_cons.2 ⟨List.not_mem_nil,F5⟩,λa ha b k=> ?_⟩
  have:=h.fsub a ha;have:=List.mem_singleton.1 k;omega
 ·intro o j
  rcases List.mem_append.1 j with c|c
  ·exact(h.ob o c).more (iN n)
  rw[List.mem_singleton.1 c];exact⟨by show(bytesOf p).size<=80*(n+1+1);rw[bytes_len];omega,bL _,bL _⟩
 ·intro d g
  exact(h.de d g).more (iN n) (by show s.obs.length<=(s.obs++[_]).length;rw[bq];omega)
 show s.obs.length<(s.obs++[_]).length
 rw[bq];simp
theorem openSet_in{n:Nat}{s:St}(h:In n s)(k:Int)(p:Bs):In n (openSet s k p).1:=by
 unfold openSet
 split
 ·split
  ·exact h
  exact h.set _
 split
 ·exact h
 split
 ·exact h
 split
 ·exact h.set _
 exact h
theorem find_le{T:List En}{p:Bs}{b:Bool}(h:(find T p b).2=0):(find T p b).1.length<=80:=by
 unfold find at h ⊢
 split at h
 ·rename_i h0;exact absurd h h0
 rename_i h0
 rw[av h0]
 split at h
 ·exact absurd h (by decide)
 rename_i h1
 rw[av h1];have:¬80<(walk T b 8 (parse p).1 []).1.length:=λa=>h1 ⟨h,a⟩
 omega
theorem Ef{T:List En}(hT:Right false T){p:Bs}(hp:p≠[]){e:En}(h:get T p=some e):e.t.size<=100:=
 ((bK e false).1 (hT.1 e (get_some hp h).1)).2.2.1
theorem Ok.right{s:St}(h:Ok s):Right false s.T:=by
 obtain⟨e,g,j,c,a,k,i,b⟩:=fine_parts h.1;rw[h.2]at a;rw[show s.T=_ from om Prod.fst a]
 exact b
theorem Gi:noE.size=0:=rfl
theorem In.obAt{n:Nat}{s:St}(h:In n s)(i:Nat):xB n (obAt s i):=by
 unfold Sy.obAt;rw[bi]
 rcases iB i s.obs.length with a|a
 ·rw[bA a];exact h.ob _ (cz a)
 rw[j4 a];exact⟨bL _,bL _,bL _⟩
theorem In.textOf{n:Nat}{s:St}(h:In n s)(ho:Ok s)(i:Nat):(textOf s i).size<=100:=by
 unfold Sy.textOf
 split
 ·exact(h.obAt i).2.1
 rename_i hp
 split
 ·rename_i e he
  exact Ef ho.right hp he
 exact bL _
theorem In.deAt{n:Nat}{s:St}(h:In n s){d:Nat}(hd:d<s.des.length):Ee n s.obs.length (deAt s d):=by
 unfold Sy.deAt;rw[bi,bA hd];exact h.de _ (cz hd)
theorem In.fdAt{n:Nat}{s:St}(h:In n s){o k d:Nat}(hd:fdAt s o k=some d):d<s.des.length:=by
 unfold Sy.fdAt at hd;rw[bi,bi]at hd
 rcases iB o s.fds.length with b|b
 ·rw[bA b,qD]at hd
  rcases iB k s.fds[o].length with a|a
  ·rw[bA a,qD]at hd
   exact h.fdd _ (cz b) d (hd▸cz a)
  rw[j4 a]at hd;cases hd
 rw[j4 b]at hd;simp at hd
theorem In.write{n:Nat}{s:St}(h:In n s)(i:Nat)(t:ByteArray):In n (write s i t).1:=by
 unfold Sy.write
 split
 ·exact h
 rename_i h0
 split
 ·exact h.setOb i λo a=>⟨a.1,by show t.size<=100;omega,a.2.2⟩
 split
 ·exact h
 exact h.set _
theorem Oz{s:St}(i:Nat)(t:ByteArray):(write s i t).1.des=s.des/\(write s i t).1.obs.length=s.obs.length:=by
 unfold Sy.write
 split
 ·exact⟨rfl,rfl⟩
 split
 ·exact⟨rfl,gP ..⟩
 split
 ·exact⟨rfl,rfl⟩
 unfold Sy.set;split<;>exact⟨rfl,rfl⟩
theorem In.callOpen{n:Nat}{s:St}(h:In n s)(c:Ca):In (n+1) (callOpen s c).1:=by
 have e:=h.more (iN n);unfold Sy.callOpen
 split
 ·exact e
 rename_i hbf
 have j:0<=c.n/\c.n<=63:=by
  unfold Sy.dX at hbf;simp at hbf;omega
 split
 ·exact e
 split
 ·exact e
 rename_i hf
 have k:=find_le (T:=s.T) (p:=c.path.data.toList) (b:= !bit c.n 4) (by simpa using hf)
 dsimp only
 split
 ·exact(openSet_in h _ _).more (iN n)
 have g:=openSet_in h c.n (Sy.find s.T c.path (!bit c.n 4)).1;generalize openSet s c.n (Sy.find s.T c.path (!bit c.n 4)).1=r at*;obtain⟨a,u,t,v⟩:=g.opened k;generalize Sy.opened r.1 (Sy.find s.T c.path (!bit c.n 4)).1=q at*;have m:In (n+1) {q.1 with des:=q.1.des++[⟨q.2,c.n,0,1⟩]}:=by
  refine⟨a.ol,a.fl,?_,a.fsub,a.fnd,a.fdl,a.fdr,λr o x l=> ?_,a.ob,λx l=> ?_⟩
  ·show(q.1.des++[_]).length<=n+1
   rw[bq,t];have:=g.dl;simp;omega
  ·show x<(q.1.des++[_]).length
   rw[bq];have:=a.fdd r o x l;omega
  rcases List.mem_append.1 l with e|e
  ·exact a.de x e
  rw[List.mem_singleton.1 e];exact⟨u,rA 0,by show(0:Int)<=1000;decide,by show -((n+1:Nat):Int)<=1;omega,by show(1:Int)<=((n+1:Nat):Int);omega,j⟩
 exact m.setFd _ _ _ λd i=>by
  injection i with i
  subst i
  show q.1.des.length<(q.1.des++[_]).length
  rw[bq];simp
theorem y9(l:List Lk)(o:Int):(Lk.leave l o).length<=l.length:=ko _ _
theorem In.callClose{n:Nat}{s:St}(h:In n s)(o k d:Nat):In (n+1) (callClose s o k d).1:=by
 have q:=(h.more (iN n)).setFd o k none (λ_ h=>nomatch h)
 unfold Sy.callClose;dsimp only;have e:=q.setOb (Sy.deAt s d).o (f:=λx=>{x with l:=Lk.leave x.l o}) λx b=>⟨b.1,b.2.1,eT (y9 _ _) b.2.2⟩
 have a:In (n+1) (Sy.setDe (Sy.setOb (Sy.setFd s o k none) (Sy.deAt s d).o λx=>{x with l:=Lk.leave x.l o}) d λx=>{x with refs:=x.refs-1}):=by
  refine e.des (gP ..) λx b=> ?_
  rcases qZ b with c|⟨y,c,rfl⟩
  ·exact e.de x c
  have p:(Sy.setOb (Sy.setFd s o k none) (Sy.deAt s d).o λx=>{x with l:=Lk.leave x.l o}).obs.length=s.obs.length:=gP ..
  obtain⟨g,u,j,w,v,m⟩:=h.de y c;exact⟨by rw[p];exact g,u,j,by show -((n+1:Nat):Int)<=y.refs-1;omega,by show y.refs-1<=((n+1:Nat):Int);omega,m⟩
 generalize Sy.setDe (Sy.setOb (Sy.setFd s o k none) (Sy.deAt s d).o λx=>{x with l:=Lk.leave x.l o}) d (λx=>{x with refs:=x.refs-1})=t at*
 split
 ·exact⟨a.ol,eT (ko _ _) a.fl,a.dl,λi r=>a.fsub i (List.mem_filter.1 r).1,a.fnd.filter _,a.fdl,a.fdr,a.fdd,a.ob,a.de⟩
 exact a
theorem In.callDup{n:Nat}{s:St}(h:In n s)(o:Nat){d:Nat}(hd:d<s.des.length):In (n+1) (callDup s o d).1:=by
 unfold Sy.callDup
 split
 ·exact h.more (iN n)
 rename_i k _
 have c:=(h.more (iN n)).setFd o k (some d) (λx a=>by injection a with a;omega)
 refine c.des (gP ..) λx a=> ?_
 rcases qZ a with b|⟨y,b,rfl⟩
 ·exact c.de x b
 obtain⟨e,j,g,m,l,i⟩:=h.de y b;exact⟨e,j,g,by show -((n+1:Nat):Int)<=y.refs+1;omega,by show y.refs+1<=((n+1:Nat):Int);omega,i⟩
theorem In.callSeek{n:Nat}{s:St}(h:In n s)(d:Nat)(k:Int):In n (callSeek s d k).1:=by
 unfold Sy.callSeek
 split
 ·exact h
 rename_i h0
 exact h.setDe d λx a=>⟨a.1,by show 0<=k;omega,by show k<=1000;omega,a.2.2.2⟩
theorem OA(l:List Lk)(x:Lk):(Lk.take l x).1.length<=40:=by
 unfold Lk.take
 split
 ·exact bL _
 split
 ·exact bL _
 split
 ·exact bL _
 split
 ·exact bL _
 rename_i h;exact Nat.le_of_not_lt h
theorem OB(l:List Lk)(x:Lk):(Lk.free l x).1.length<=40:=by
 unfold Lk.free
 split
 ·exact bL _
 split
 ·exact bL _
 split
 ·exact bL _
 rename_i h;exact Nat.le_of_not_lt h
theorem In.callLock{n:Nat}{s:St}(h:In n s)(c:Ca)(i:Nat):In n (callLock s c i).1:=by
 unfold Sy.callLock;dsimp only;have b:(if c.kind=15 then Lk.free (Sy.obAt s i).l ⟨c.owner,c.n,c.m,c.alone⟩else Lk.take (Sy.obAt s i).l ⟨c.owner,c.n,c.m,c.alone⟩).1.length<=40:=by
  split
  ·exact OB _ _
  exact OA _ _
 generalize (if c.kind=15 then Lk.free (Sy.obAt s i).l ⟨c.owner,c.n,c.m,c.alone⟩else Lk.take (Sy.obAt s i).l ⟨c.owner,c.n,c.m,c.alone⟩)=r at*
 split
 ·exact h.setOb i λo a=>⟨a.1,a.2.1,b⟩
 exact h
theorem In.callRead{n:Nat}{s:St}(h:In n s)(ho:Ok s)(c:Ca){d:Nat}(hd:d<s.des.length):In n (callRead s c d).1:=by
 unfold Sy.callRead
 split
 ·exact h
 split
 ·exact h
 rename_i h0
 dsimp only;have p:=h.textOf ho (Sy.deAt s d).o;rw[<-bsize]at p;obtain⟨e,q,j,i,b,g⟩:=h.deAt hd;have l:(((Sy.textOf s (Sy.deAt s d).o).data.toList.drop (Sy.deAt s d).at_.toNat).take c.n.toNat).length<=100- (Sy.deAt s d).at_.toNat:=by
  rw[bR,gM];omega
 generalize ((Sy.textOf s (Sy.deAt s d).o).data.toList.drop (Sy.deAt s d).at_.toNat).take c.n.toNat=t at*
 refine h.des (gP ..) λx r=> ?_
 obtain⟨k,a,rfl⟩:=List.mem_iff_getElem.1 r;rw[gP]at a;rw[Bp]
 split
 ·rename_i hkd
  subst hkd;have m:Sy.deAt s d=s.des[d]:=by unfold Sy.deAt;rw[bi,bA a];rfl
  rw[m]at e q j i b g l;exact⟨e,by show 0<=s.des[d].at_+(t.length:Int);omega,by show s.des[d].at_+(t.length:Int)<=1000;omega,i,b,g⟩
 exact h.de _ (cz a)
theorem In.callWrite{n:Nat}{s:St}(h:In n s)(ho:Ok s)(c:Ca){d:Nat}(hd:d<s.des.length):In n (callWrite s c d).1:=by
 unfold Sy.callWrite
 split
 ·exact h
 dsimp only
 split
 ·split
  ·exact h
  exact h.write _ _
 have b:=h.textOf ho (Sy.deAt s d).o;rw[<-bsize]at b;obtain⟨g,l,i,k,e,j⟩:=h.deAt hd;have ha:(if bit (Sy.deAt s d).fl 2=true then(Sy.textOf s (Sy.deAt s d).o).data.toList.length else(Sy.deAt s d).at_.toNat)<=1000:=by
  split<;>omega
 generalize (if bit (Sy.deAt s d).fl 2=true then(Sy.textOf s (Sy.deAt s d).o).data.toList.length else(Sy.deAt s d).at_.toNat)=at_ at*
 split
 ·exact h.setDe d λx a=>⟨a.1,by show(0:Int)<=(at_:Int);omega,by show(at_:Int)<=1000;omega,a.2.2.2⟩
 split
 ·exact h
 rename_i adr
 split
 ·exact h.write _ _
 exact(h.write _ _).setDe d λx a=>⟨a.1,by show(0:Int)<=((at_+_:Nat):Int);omega,by show((at_+_:Nat):Int)<=1000;omega,a.2.2.2⟩
theorem In.use{n:Nat}{s:St}(h:In n s)(ho:Ok s)(c:Ca):In (n+1) (use s c).1:=by
 have b:=h.more (iN n);unfold Sy.use
 split
 ·exact b
 split
 ·exact b
 rename_i d hd
 have a:=h.fdAt hd
 split
 ·exact h.callClose _ _ _
 split
 ·exact h.callDup _ a
 split
 ·exact(h.callSeek _ _).more (iN n)
 split
 ·exact(h.callLock _ _).more (iN n)
 split
 ·exact(h.callRead ho c a).more (iN n)
 exact(h.callWrite ho c a).more (iN n)
theorem In.lose{n:Nat}{s:St}(h:In n s)(ho:Ok s)(p:Bs):In n (lose s p):=
 h.obs (pQ ..) λo c=>by
  obtain⟨i,a,rfl⟩:=List.mem_iff_getElem.1 c;rw[pQ]at a;rw[uW];have b:=h.ob _ (cz a)
  split
  ·exact⟨by show noE.size<=_;rw[Gi];omega,h.textOf ho i,b.2.2⟩
  ·exact b
theorem In.follow{n:Nat}{s:St}(h:In n s)(a:Bs){b:Bs}(hb:b.length<=80):In (n+1) (follow s a b):=
 (h.more (iN n)).obs (pQ ..) λo g=>by
  obtain⟨i,e,rfl⟩:=List.mem_iff_getElem.1 g;rw[pQ]at e;rw[uW];have c:=h.ob _ (cz e)
  split
  ·refine⟨?_,c.2.1,c.2.2⟩
   show(bytesOf _).size<=_
   rw[bytes_len,bq,gM];have j:=c.1;rw[<-bsize]at j
   show b.length+(s.obs[i].p.data.toList.length-a.length)<=80*(n+1+1)
   omega
  ·exact c.more (iN n)
theorem In.create{n:Nat}{s:St}(h:In n s)(c:Ca):In n (create s c).1:=by
 unfold Sy.create;dsimp only
 split
 ·exact h
 split
 ·exact h
 exact h.set _
theorem In.remove{n:Nat}{s:St}(h:In n s)(ho:Ok s)(c:Ca):In n (Sy.remove s c).1:=by
 unfold Sy.remove;dsimp only
 split
 ·exact h
 split
 ·exact h
 split
 ·exact h
 split
 ·exact h
 split
 ·exact h
 split
 ·exact h
 exact(h.lose ho _).set _
theorem In.rename{n:Nat}{s:St}(h:In n s)(ho:Ok s)(c:Ca):In (n+1) (rename s c).1:=by
 have a:=h.more (iN n);unfold Sy.rename;dsimp only
 split
 ·exact a
 split
 ·exact a
 rename_i hg
 have e:=find_le (T:=s.T) (p:=c.to.data.toList) (b:=false) (by simpa using hg)
 split
 ·exact a
 split
 ·exact a
 refine In.set (In.follow ?_ _ e) _
 split
 ·exact h.lose ho _
 exact h
theorem In.call{n:Nat}{s:St}(h:In n s)(ho:Ok s)(c:Ca):In (n+1) (call s c).1:=by
 have a:=h.more (iN n);unfold Sy.call
 split
 ·exact a
 split
 ·exact a
 split
 ·exact h.callOpen c
 split
 ·exact(h.create c).more (iN n)
 split
 ·exact(h.remove ho c).more (iN n)
 split
 ·exact h.rename ho c
 split
 ·exact a
 exact h.use ho c
end Sy
namespace Sy
open Pt Tr
def tot(l:List Bs):Nat:=(l.map λn=>n.length+1).sum
theorem eX(n:Bs)(l:List Bs):tot (n::l)=n.length+1+tot l:=by simp[tot]
theorem ML(l m:List Bs):tot (l++m)=tot l+tot m:=by simp[tot]
theorem rq:∀l:List Bs,l.length<=tot l
 |[]=>bL _
 |n::l=>by have:=rq l;rw[eX,gL];omega
theorem Gj:∀{l:List Bs},l≠[]->(glue l).length+1=tot l
 |[],h=>absurd rfl h
 |[n],_=>by rw[eX];rfl
 |n::m::r,_=>by
  have:=Gj (l:=m::r) (by simp)
  rw[nN n (by simp),eX,bq,gL]
  omega
theorem y_(p:Bs->Bool):∀l:List Bs,tot (l.filter p)<=tot l
 |[]=>aR
 |n::l=>by
  have:=y_ p l;rw[List.filter_cons]
  split
  ·rw[eX,eX];omega
  ·rw[eX];omega
theorem ru(p:Bs):tot (parse p).1<=81:=by
 unfold parse
 split
 ·show tot []<=81;decide
 split
 ·show tot []<=81;decide
 split
 ·have b:=y_ counts (split p)
  have a:=Gj (dK p);rw[bQ]at a
  show tot ((split p).filter counts)<=81
  omega
 show tot []<=81;decide
theorem Gl(p:Bs):(ah p).length<=p.length:=by
 by_cases h:p=[]
 ·subst h;decide
 exact nL (aI h)
theorem CP(d n:Bs):(join d n).length<=d.length+n.length+1:=by
 unfold join
 split
 ·omega
 rw[bq,gL];omega
section
variable {T:List En} {fo:Bool} {h:Nat} {n a:Bs} {r:List Bs}
def CQ(T:List En)(fo:Bool):Nat->ByteArray->List Bs->Bs->Bs×Int
 |0=>λ_ _ _=>([],12)
 |h+1=>hop (walk T fo h)
theorem walk_eq:walk T fo h=nT T fo (CQ T fo h):=by
 cases h<;>rfl
theorem Gm:walk T fo h [] a=(a,0):=by rw[walk_eq];unfold nT;rfl
theorem Gn(hg:get T a=none):bg T a=6:=by unfold bg;rw[hg]
theorem MN{e:En}(hg:get T a=some e)(hk:e.k≠2):bg T a=10:=by unfold bg;rw[hg];exact aM hk
theorem QR{e:En}(hg:get T a=some e)(hk:e.k=2):bg T a=0:=by unfold bg;rw[hg];exact av (by simp[hk])
theorem walk_bad{x:Int}(hd:bg T a=x)(hx:x≠0):walk T fo h (n::r) a=([],x):=by
 rw[walk_eq];unfold nT;rw[hd,aM hx]
theorem MO(hd:bg T a=0)(hn:n=[46,46]):walk T fo h (n::r) a=walk T fo h r (ah a):=by
 rw[walk_eq];conv=>lhs;unfold nT
 rw[av (by simp[hd]),aM hn]
theorem CS(hd:bg T a=0)(hn:n≠[46,46])(hg:get T (join a n)=none)(hr:r≠[]):walk T fo h (n::r) a=([],6):=by
 rw[walk_eq];conv=>lhs;unfold nT
 rw[av (by simp[hd]),av hn,hg];exact aM hr
theorem Gp(hd:bg T a=0)(hn:n≠[46,46])(hg:get T (join a n)=none)(hr:r=[]):walk T fo h (n::r) a=walk T fo h r (join a n):=by
 rw[walk_eq];conv=>lhs;unfold nT
 rw[av (by simp[hd]),av hn,hg];exact av (by simp[hr])
theorem CU{e:En}(hd:bg T a=0)(hn:n≠[46,46])(hg:get T (join a n)=some e)(hk:¬(e.k=3/\(fo=true\/r≠[]))):walk T fo h (n::r) a=walk T fo h r (join a n):=by
 rw[walk_eq];conv=>lhs;unfold nT
 rw[av (by simp[hd]),av hn,hg];exact av hk
theorem CV{e:En}(hd:bg T a=0)(hn:n≠[46,46])(hg:get T (join a n)=some e)(hk:e.k=3/\(fo=true\/r≠[])):walk T fo h (n::r) a=CQ T fo h e.t r a:=by
 rw[walk_eq];conv=>lhs;unfold nT
 rw[av (by simp[hd]),av hn,hg];exact aM hk
theorem Gq{t:ByteArray}{x:Int}(hp:(parse t).2=x)(hx:x≠0):CQ T fo (h+1) t r a=([],x):=by
 show hop _ _ _ _=_
 unfold hop;rw[aM (by rw[hp];exact hx),hp]
theorem CW{t:ByteArray}(hp:(parse t).2=0):CQ T fo (h+1) t r a=walk T fo h ((parse t).1++r) (if slash t then []else a):=by
 show hop _ _ _ _=_
 unfold hop;rw[av (by simp[hp])]
end
end Sy
namespace Sy
open Pt Tr
def part(g:Nat->Ob->Ob)(fs:List Nat)(s:St):St:={s with obs:=s.obs.mapIdx λi o=>if i∈fs then g i o else o}
section
variable {g:Nat->Ob->Ob} {fs:List Nat} {s:St} {i:Nat}
theorem Gs:part g [] s=s:=by
 unfold part;have e:(s.obs.mapIdx λi o=>if i∈([]:List Nat)then g i o else o)=s.obs:=by
  refine List.ext_getElem (by simp) λj a b=> ?_
  simp
 rw[e]
theorem kV:(part g fs s).obs.length=s.obs.length:=pQ ..
theorem zg(hi:i<s.obs.length):obAt (part g fs s) i=if i∈fs then g i (obAt s i)else obAt s i:=by
 unfold obAt part;simp only[bi,j5,bA hi,sj,qD]
theorem qc(hi:i<s.obs.length)(h:i∉fs):obAt (part g fs s) i=obAt s i:=by rw[zg hi,av h]
theorem OC(hi:i<s.obs.length)(h:i∉fs):textOf (part g fs s) i=textOf s i:=by
 unfold textOf;rw[qc hi h]
 rfl
theorem MP{t:St}(h1:t.u=s.u)(h2:t.T=s.T)(h3:t.files=s.files)(h4:t.des=s.des)(h5:t.fds=s.fds)(hl:t.obs.length=s.obs.length)(h:∀j,j<s.obs.length->obAt t j=if j∈fs then g j (obAt s j)else obAt s j):t=part g fs s:=by
 obtain⟨u,T,obs,files,des,fds⟩:=t;dsimp only at h1 h2 h3 h4 h5 hl;subst h1 h2 h3 h4 h5;unfold part
 congr 1
 refine List.ext_getElem (by rw[hl,pQ]) λj a b=> ?_
 have e:j<s.obs.length:=by rw[pQ]at b;exact b
 have c:=h j e;rw[uW];unfold obAt at c;simp only[bi,bA e,bA a,qD]at c;exact c
theorem OD{t:St}{f:Ob->Ob}{j:Nat}(hj:j<t.obs.length):obAt (setOb t i f) j=if j=i then f (obAt t j)else obAt t j:=by
 unfold obAt setOb;simp only[bi,mR];rw[bA hj]
 by_cases h:i=j
 ·subst h;simp
 rw[av (λe=>h e.symm)];simp[h]
theorem Gt{f:Ob->Ob}(h:i∉fs)(hi:i<s.obs.length)(hf:f (obAt s i)=g i (obAt s i)):setOb (part g fs s) i f=part g (fs++[i]) s:=by
 refine MP rfl rfl rfl rfl rfl (by unfold setOb;show(List.modify _ _ _).length=_;rw[gP,kV]) λj b=> ?_
 rw[OD (by rw[kV];exact b),zg b]
 by_cases e:j=i
 ·subst e
  rw[aM rfl,av h,aM (by simp),hf]
 rw[av e]
 by_cases a:j∈fs
 ·rw[aM a,aM (by simp[a])]
 rw[av a,av (by simp[a,e])]
theorem CX(h:i∉fs)(hi:i<s.obs.length)(hf:g i (obAt s i)=obAt s i):part g fs s=part g (fs++[i]) s:=by
 refine MP rfl rfl rfl rfl rfl kV λj b=> ?_
 rw[zg b]
 by_cases e:j=i
 ·subst e
  rw[av h,aM (by simp),hf]
 by_cases a:j∈fs
 ·rw[aM a,aM (by simp[a])]
 rw[av a,av (by simp[a,e])]
theorem UG{n:Nat}(h:In n s)(hg:∀j,j<s.obs.length→xB n (g j (obAt s j))):In n (part g fs s):=
 h.obs (List.length_mapIdx ..) fun o c=>by
  obtain⟨j,a,rfl⟩:=List.mem_iff_getElem.1 c;rw [List.length_mapIdx]at a;rw [List.getElem_mapIdx];have i:=h.ob _ (List.getElem_mem a);have e:obAt s j=s.obs[j]:=by unfold obAt;simp [List.getD_eq_getElem?_getD,a]
  have b:=hg j a;rw [e]at b
  split
  ·exact b
  ·exact i
theorem UH(h:Ok s):Ok (part g fs s):=ok_of h rfl rfl
end
def nU(s:St)(p:Bs)(i:Nat)(o:Ob):Ob:=if o.P=p/\p≠[]then{o with t:=textOf s i,p:=noE}else o
theorem UI(s:St)(p:Bs):lose s p=part (nU s p) s.files s:=by
 unfold lose part nU
 congr 1
 refine List.ext_getElem (by simp) λj c g=> ?_
 have e:j<s.obs.length:=by rw[pQ]at c;exact c
 simp only[uW]
 by_cases a:j∈s.files
 ·by_cases b:s.obs[j].P=p/\p≠[]
  ·rw[aM ⟨a,b⟩,aM a,aM b]
  rw[av (λq=>b q.2),aM a,av b]
 rw[av (λq=>a q.1),av a]
theorem QS{n:Nat}{s:St}(h:In n s)(ho:Ok s)(p:Bs):∀j,j<s.obs.length->xB n (nU s p j (obAt s j)):=λj _=>by
 have a:=h.obAt j;unfold nU
 split
 ·exact⟨by show noE.size<=_;rw[Gi];omega,h.textOf ho j,a.2.2⟩
 ·exact a
def jH(a b:Bs)(_:Nat)(o:Ob):Ob:=if o.P=a\/(under o.P a=true/\o.P≠[])then{o with p:=bytesOf (b++o.P.drop a.length)}else o
theorem follow_eq(s:St)(a b:Bs):follow s a b=part (jH a b) s.files s:=by
 unfold follow part jH
 congr 1
 refine List.ext_getElem (by simp) λj c g=> ?_
 have e:j<s.obs.length:=by rw[pQ]at c;exact c
 simp only[uW]
 by_cases x:j∈s.files
 ·by_cases y:s.obs[j].P=a\/(under s.obs[j].P a=true/\s.obs[j].P≠[])
  ·rw[aM ⟨x,y⟩,aM x,aM y]
  rw[av (λq=>y q.2),aM x,av y]
 rw[av (λq=>x q.1),av x]
theorem MQ{l:List Nat}{k:Nat}(hn:l.Nodup)(hk:k<l.length):l[k]∉l.take k:=λh=>by
 obtain⟨j,a,e⟩:=List.mem_iff_getElem.1 h;rw[bR]at a;rw[Cu]at e;have:=(List.getElem_inj hn).1 e;omega
end Sy
namespace Sy
open Pt Tr
end Sy
namespace Sy
open Pt Tr
theorem Eg(p:ByteArray):bytesOf p.data.toList=p:=ik (by unfold bytesOf;simp)
structure Xj(s:St)(t:ByteArray):Prop where
 ob:s.obs[0]? =some ⟨noE,t,[]⟩
 de:s.des[0]? =some ⟨0,1,0,1⟩
 fd:fdAt s 3 0=some 0
 dn:∀d e,0<d->s.des[d]? =some e->e.o≠0
 fn:∀o k d,o≠3->fdAt s o k=some d->0<d/\d<s.des.length
theorem Xj.congr{s s':St}{t:ByteArray}(h:Xj s t)(h1:s'.obs=s.obs)(h2:s'.des=s.des)(h3:s'.fds=s.fds):Xj s' t:=by
 have e:∀o k,fdAt s' o k=fdAt s o k:=λo k=>by unfold fdAt;rw[h3]
 exact⟨by rw[h1];exact h.ob,by rw[h2];exact h.de,by rw[e];exact h.fd,by rw[h2];exact h.dn,λo k d=>by rw[e,h2];exact h.fn o k d⟩
theorem set_keeps(s:St)(r:Un×Int):(set s r).1.obs=s.obs/\(set s r).1.des=s.des/\(set s r).1.fds=s.fds/\(set s r).1.files=s.files:=by
 unfold set;split<;>exact⟨rfl,rfl,rfl,rfl⟩
theorem openSet_keeps(s:St)(n:Int)(p:Bs):(openSet s n p).1.obs=s.obs/\(openSet s n p).1.des=s.des/\(openSet s n p).1.fds=s.fds/\(openSet s n p).1.files=s.files:=by
 unfold openSet
 split
 ·split
  ·exact⟨rfl,rfl,rfl,rfl⟩
  exact set_keeps _ _
 split
 ·exact⟨rfl,rfl,rfl,rfl⟩
 split
 ·exact⟨rfl,rfl,rfl,rfl⟩
 split
 ·exact set_keeps _ _
 exact⟨rfl,rfl,rfl,rfl⟩
theorem openSet_ne{s:St}{n:Int}{p:Bs}(h:(openSet s n p).2=0):p≠[]:=by
 rintro rfl;unfold openSet at h;rw[dL]at h;dsimp only at h
 split at h
 ·cases h
 rw[aM (show En.root.k=2 from rfl)]at h;cases h
theorem CY:∀(l m:List Ca) (s:St),calls s (l++m)=((calls (calls s l).1 m).1,(calls s l).2++(calls (calls s l).1 m).2)
 |[],_,_=>rfl
 |c::r,m,s=>by
  show((calls (call s c).1 (r++m)).1,(call s c).2::(calls (call s c).1 (r++m)).2)=_
  rw[CY r m];rfl
end Sy
namespace Sy
open Pt Tr
end Sy
namespace Sy
open Pt Tr
theorem names_len(t:List En)(p:Bs):(Tr.names t p).length<=t.length:=by
 unfold Tr.names;simp only[ib];exact ko _ _
theorem list_len(t:List En)(p:Bs):(Tr.list t p).1.length<=t.length:=by
 unfold Tr.list
 split
 ·exact bL _
 exact names_len t p
theorem write_names(s:St)(c:Ca)(d:Nat):(callWrite s c d).2.names.length<=s.T.length:=by
 unfold callWrite;dsimp only
 repeat' (first|exact bL _|split)
theorem use_names(s:St)(c:Ca):(use s c).2.names.length<=s.T.length:=by
 unfold use
 split
 ·exact bL _
 split
 ·exact bL _
 split
 ·exact bL _
 split
 ·unfold callDup
  split
  ·exact bL _
  exact bL _
 split
 ·unfold callSeek
  split
  ·exact bL _
  exact bL _
 split
 ·exact bL _
 split
 ·unfold callRead
  split
  ·exact bL _
  split
  ·exact bL _
  exact bL _
 exact write_names s c _
theorem tell_names(s:St)(c:Ca):(tell s c).names.length<=s.T.length:=by
 unfold tell;dsimp only
 split
 ·exact bL _
 split
 ·exact list_len _ _
 split
 ·exact bL _
 exact bL _
theorem open_names(s:St)(c:Ca):(callOpen s c).2.names.length<=s.T.length:=by
 unfold callOpen
 split
 ·exact bL _
 split
 ·exact bL _
 split
 ·exact bL _
 dsimp only
 split
 ·exact bL _
 exact bL _
theorem create_names(s:St)(c:Ca):(create s c).2.names.length<=s.T.length:=by
 unfold create;dsimp only
 split
 ·exact bL _
 split
 ·exact bL _
 exact bL _
theorem remove_names(s:St)(c:Ca):(Sy.remove s c).2.names.length<=s.T.length:=by
 unfold Sy.remove;dsimp only
 split
 ·exact bL _
 split
 ·exact bL _
 split
 ·exact bL _
 split
 ·exact bL _
 split
 ·exact bL _
 split
 ·exact bL _
 exact bL _
theorem rename_names(s:St)(c:Ca):(rename s c).2.names.length<=s.T.length:=by
 unfold rename;dsimp only
 split
 ·exact bL _
 split
 ·exact bL _
 split
 ·exact bL _
 split
 ·exact bL _
 exact bL _
theorem call_names(s:St)(c:Ca):(call s c).2.names.length<=s.T.length:=by
 unfold call
 split
 ·exact bL _
 split
 ·exact bL _
 split
 ·exact open_names s c
 split
 ·exact create_names s c
 split
 ·exact remove_names s c
 split
 ·exact rename_names s c
 split
 ·exact tell_names s c
 exact use_names s c
theorem okT{s:St}(h:Ok s):s.T.length<=80:=by
 obtain⟨_,_,_,_,e,a,_,b⟩:=fine_parts h.1;rw[<-h.T,e];exact a
theorem calls_names:∀{l:List Ca} {s:St},Ok s->∀a∈(calls s l).2,a.names.length<=80
 |[],_,_,a,h=>nomatch h
 |c::r,s,h,a,ha=>by
  have ha:a=(call s c).2\/a∈(calls (call s c).1 r).2:=by simpa[calls]using ha
  rcases ha with rfl|ha
  ·exact eT (call_names s c) (okT h)
  ·exact calls_names (call_good h c).1 a ha
theorem play_names{u:Un}{l:List Ca}:∀a∈(play u l).2.1,a.names.length<=80:=by
 unfold play
 split
 ·exact λ_ h=>nomatch h
 split
 ·exact λ_ h=>nomatch h
 rename_i h _
 exact calls_names (start_ok (by simpa using h))
theorem play_len{u:Un}{l:List Ca}(h:(play u l).2.2=0):(play u l).2.1.length=l.length/\l.length<=80/\(wrongU u).1=0/\play u l=(((calls (start u) l).1.u,(calls (start u) l).1.T,(calls (start u) l).1.files.length),(calls (start u) l).2,0):=by
 unfold play at h ⊢
 by_cases a:(wrongU u).1=0
 ·rw[av (by simp[a])]at h ⊢
  by_cases b:80<l.length
  ·rw[aM b]at h;exact absurd h (show¬(5:Int)=0 by decide)
  rw[av b]at h ⊢;exact⟨calls_len _ _,by omega,a,rfl⟩
 rw[aM a]at h;exact absurd h a
theorem play_bad0{u:Un}{l:List Ca}(h:(play u l).2.2≠0):play u l=((Un.zero,[],0),[],(play u l).2.2):=by
 unfold play at h ⊢
 by_cases a:(wrongU u).1=0
 ·rw[av (by simp[a])]at h ⊢
  by_cases b:80<l.length
  ·rw[aM b]
  rw[av b]at h;exact absurd rfl h
 rw[aM a]
theorem okR{s:St}(h:Ok s):Right false s.T:=by
 obtain⟨_,_,_,_,e,b,_,a⟩:=fine_parts h.1;rw[<-h.T,e];exact a
theorem play_ok2{u:Un}{l:List Ca}(h:(play u l).2.2=0):Tr.Fine (play u l).1.1/\seenU (play u l).1.1=((play u l).1.2.1,0)/\(play u l).1.1.L=u.L/\(play u l).1.2.1.length<=80/\Right false (play u l).1.2.1:=by
 obtain⟨_,_,e,c⟩:=play_len h;have a:=start_ok e;have b:=calls_ok (l:=l) a;rw[c];exact⟨b.1.1,b.1.2,b.2,okT b.1,okR b.1⟩
end Sy
structure Rq where
 o:Nat
 fl:Int
 at_:Int
structure Rw where
 u:Un
 T:List En
 objs:List Ob
 des:List Rq
 fds:List (List (Option Nat))
namespace Rw
open Pt Tr
def zob:Ob:=⟨Sy.noE,Sy.noE,[]⟩
def obAt(w:Rw)(i:Nat):Ob:=w.objs.getD i zob
def deAt(w:Rw)(d:Nat):Rq:=w.des.getD d ⟨0,0,0⟩
def set(w:Rw)(r:Un×Int):Rw×Int:=if r.2≠0 then(w,r.2)else({w with u:=r.1,T:=(seenU r.1).1},(seenU r.1).2)
def free(w:Rw)(o:Nat):Option Nat:=(w.fds.getD o []).findIdx? λx=>x.isNone
def fdAt(w:Rw)(o k:Nat):Option Nat:=(w.fds.getD o []).getD k none
def setFd(w:Rw)(o k:Nat)(v:Option Nat):Rw:={w with fds:=w.fds.modify o λr=>r.set k v}
def setOb(w:Rw)(i:Nat)(f:Ob->Ob):Rw:={w with objs:=w.objs.modify i f}
def setDe(w:Rw)(d:Nat)(f:Rq->Rq):Rw:={w with des:=w.des.modify d f}
def textOf(w:Rw)(i:Nat):ByteArray:=if(obAt w i).P=[]then(obAt w i).t else match get w.T (obAt w i).P with
 |some e=>e.t
 |none=>Sy.noE
def put(w:Rw)(i:Nat)(x:ByteArray):Rw×Int:=
 if(obAt w i).P=[]then(setOb w i λo=>{o with t:=x},0)else
 if x.data.toList=(textOf w i).data.toList then(w,0)else set w (putU w.u (Sy.fileEn (obAt w i).P x))
def gone(w:Rw)(p:Bs):Rw:={w with objs:=w.objs.mapIdx λi o=>if o.P=p then{o with t:=textOf w i,p:=Sy.noE}else o}
def used(w:Rw)(i:Nat):Bool:=w.fds.any λr=>r.any λx=>match x with
 |some d=>(deAt w d).o==i
 |none=>false
def lastP:List Ob->Bs->Nat->Option Nat->Option Nat
 |[],_,_,a=>a
 |o::r,p,i,a=>lastP r p (i+1) (if o.P=p then some i else a)
def openSet(w:Rw)(n:Int)(at_:Bs):Rw×Int:=match get w.T at_ with
 |none=>if Sy.bit n 3=false then(w,6)else set w (putU w.u (Sy.fileEn at_ Sy.noE))
 |some e=>if Sy.bit n 4=true then(w,7)else if e.k=2 then(w,9)else if Sy.bit n 5=true/\e.t.data.toList≠[]then set w (putU w.u (Sy.fileEn at_ Sy.noE))else(w,0)
def opened(w:Rw)(p:Bs):Rw×Nat:=match lastP w.objs p 0 none with
 |some i=>(w,i)
 |none=>({w with objs:=w.objs++[⟨Sy.bytesOf p,Sy.noE,[]⟩]},w.objs.length)
def callOpen(w:Rw)(c:Ca):Rw×An:=
 if Sy.dX c.n=true then(w,.no 8)else
 match free w c.owner.toNat with
 |none=>(w,.no 5)
 |some k=>
  if(Sy.find w.T c.path (!Sy.bit c.n 4)).2≠0 then(w,.no (Sy.find w.T c.path (!Sy.bit c.n 4)).2)else
  let at_:=(Sy.find w.T c.path (!Sy.bit c.n 4)).1
  let r:=openSet w c.n at_
  if r.2≠0 then(r.1,.no r.2)else
  let q:=opened r.1 at_
  (setFd {q.1 with des:=q.1.des++[⟨q.2,c.n,0⟩]} c.owner.toNat k (some q.1.des.length),.num k)
def callClose(w:Rw)(o k d:Nat):Rw×An:=
 let i:=(deAt w d).o
 let w2:=setOb (setFd w o k none) i λx=>{x with l:=Lk.leave x.l o}
 (if used w2 i=false then setOb w2 i λ_=>zob else w2,.ok)
def callDup(w:Rw)(o d:Nat):Rw×An:=match free w o with
 |none=>(w,.no 5)
 |some k=>(setFd w o k (some d),.num k)
def callSeek(w:Rw)(d:Nat)(n:Int):Rw×An:=if n<0\/1000<n then(w,.no 3)else(setDe w d λx=>{x with at_:=n},.ok)
def callLock(w:Rw)(c:Ca)(i:Nat):Rw×An:=
 let x:Lk:=⟨c.owner,c.n,c.m,c.alone⟩
 let r:=if c.kind=15 then Lk.free (obAt w i).l x else Lk.take (obAt w i).l x
 (if r.2=0 then setOb w i λo=>{o with l:=r.1}else w,.no r.2)
def callRead(w:Rw)(c:Ca)(d:Nat):Rw×An:=
 if Sy.bit (deAt w d).fl 0=false then(w,.no 8)else
 if c.n<0\/1000<c.n then(w,.no 3)else
 let t:=((textOf w (deAt w d).o).data.toList.drop (deAt w d).at_.toNat).take c.n.toNat
 (setDe w d λx=>{x with at_:=x.at_+t.length},⟨0,t.length,Sy.bytesOf t,[]⟩)
def callWrite(w:Rw)(c:Ca)(d:Nat):Rw×An:=
 if Sy.bit (deAt w d).fl 1=false then(w,.no 8)else
 let i:=(deAt w d).o
 let t:=(textOf w i).data.toList
 if c.kind=16 then
  if c.n<0\/100<c.n then(w,.no 3)else((put w i (Sy.bytesOf (Sy.sized t c.n.toNat))).1,.no (put w i (Sy.bytesOf (Sy.sized t c.n.toNat))).2)
 else
  let at_:Nat:=if Sy.bit (deAt w d).fl 2=true then t.length else(deAt w d).at_.toNat
  let x:=c.text.data.toList
  let end_:=at_+x.length
  if x=[]then(setDe w d λy=>{y with at_:=at_},.ok)else
  if 100<end_ then(w,.no 4)else
  let long:=Sy.sized t (max end_ t.length)
  let r:=put w i (Sy.bytesOf (long.take at_++x++long.drop end_))
  if r.2≠0 then(r.1,.no r.2)else(setDe r.1 d λy=>{y with at_:=end_},.num x.length)
def use(w:Rw)(c:Ca):Rw×An:=
 if c.fd<0\/8<=c.fd then(w,.no 6)else
 match fdAt w c.owner.toNat c.fd.toNat with
 |none=>(w,.no 6)
 |some d=>
  if c.kind=2 then callClose w c.owner.toNat c.fd.toNat d else
  if c.kind=13 then callDup w c.owner.toNat d else
  if c.kind=5 then callSeek w d c.n else
  if c.kind=14\/c.kind=15 then callLock w c (deAt w d).o else
  if c.kind=3 then callRead w c d else callWrite w c d
def create(w:Rw)(c:Ca):Rw×An:=
 let f:=Sy.find w.T c.path false
 if f.2≠0 then(w,.no f.2)else
 if(get w.T f.1).isSome=true then(w,.no 7)else
 ((set w (putU w.u (Sy.jF c f.1))).1,.no (set w (putU w.u (Sy.jF c f.1))).2)
def remove(w:Rw)(c:Ca):Rw×An:=
 let f:=Sy.find w.T c.path false
 if f.2≠0 then(w,.no f.2)else
 match get w.T f.1 with
 |none=>(w,.no 6)
 |some e=>
  if c.kind=7/\e.k≠2 then(w,.no 10)else if c.kind=8/\e.k=2 then(w,.no 9)else if f.1=[]then(w,.no 8)else
  let r:=removeU w.u f.1
  if r.2≠0 then(w,.no r.2)else((set (gone w f.1) r).1,.no (set (gone w f.1) r).2)
def follow(w:Rw)(a b:Bs):Rw:=
 {w with objs:=w.objs.map λo=>if o.P=a\/under o.P a=true then{o with p:=Sy.bytesOf (b++o.P.drop a.length)}else o}
def rename(w:Rw)(c:Ca):Rw×An:=
 let f:=Sy.find w.T c.path false
 if f.2≠0 then(w,.no f.2)else
 let g:=Sy.find w.T c.to false
 if g.2≠0 then(w,.no g.2)else
 if f.1=[]\/g.1=[]then(w,.no 8)else
 let r:=moveU w.u f.1 g.1
 if r.2≠0 then(w,.no r.2)else
 let w1:=follow (if f.1≠g.1 then gone w g.1 else w) f.1 g.1
 ((set w1 r).1,.no (set w1 r).2)
def tell(w:Rw)(c:Ca):An:=
 let f:=Sy.find w.T c.path true
 if f.2≠0 then .no f.2 else
 if c.kind=11 then⟨(Tr.list w.T f.1).2,0,Sy.noE,(Tr.list w.T f.1).1⟩else
 match get w.T f.1 with
 |none=> .no 6
 |some e=>⟨0,e.k,e.t,[]⟩
def call(w:Rw)(c:Ca):Rw×An:=
 if c.kind<1\/16<c.kind then(w,.no 1)else
 if c.owner<0\/4<=c.owner then(w,.no 3)else
 if c.kind=1 then callOpen w c else
 if c.kind=6\/c.kind=10 then create w c else
 if c.kind=7\/c.kind=8 then remove w c else
 if c.kind=9 then rename w c else
 if c.kind=11\/c.kind=12 then(w,tell w c)else use w c
def calls:Rw->List Ca->Rw×List An
 |w,[]=>(w,[])
 |w,c::r=>((calls (call w c).1 r).1,(call w c).2::(calls (call w c).1 r).2)
def start(u:Un):Rw:=⟨u,(seenU u).1,[],[],List.replicate 4 (List.replicate 8 none)⟩
def strip(d:De):Rq:=⟨d.o,d.fl,d.at_⟩
def R(s:St):Rw:=⟨s.u,s.T,s.obs.mapIdx λi o=>if i∈s.files then o else zob,s.des.map strip,s.fds⟩
theorem R_start(u:Un):R (Sy.start u)=start u:=rfl
theorem R_obAt(s:St)(i:Nat):obAt (R s) i=if i∈s.files then Sy.obAt s i else zob:=by
 unfold obAt R Sy.obAt;simp only[bi,j5]
 rcases h:s.obs[i]? with _|o
 ·simp[zob]
 simp
theorem R_deAt(s:St)(d:Nat):deAt (R s) d=strip (Sy.deAt s d):=by
 unfold deAt R Sy.deAt;simp only[bi,pE]
 rcases h:s.des[d]? with _|o
 ·rfl
 rfl
theorem R_free(s:St)(o:Nat):free (R s) o=Sy.free s o:=rfl
theorem R_fdAt(s:St)(o k:Nat):fdAt (R s) o k=Sy.fdAt s o k:=rfl
theorem R_setFd(s:St)(o k:Nat)(v:Option Nat):setFd (R s) o k v=R (Sy.setFd s o k v):=rfl
theorem R_set(s:St)(r:Un×Int):set (R s) r=(R (Sy.set s r).1,(Sy.set s r).2):=by
 unfold set Sy.set
 by_cases h:r.2=0
 ·rw[av (by simp[h]),av (by simp[h])];rfl
 rw[aM h,aM h]
theorem R_used(s:St)(i:Nat):used (R s) i=Sy.used s i:=by
 unfold used Sy.used
 congr 1
 funext r
 congr 1
 funext x
 cases x with
 |none=>rfl
 |some d=>
  show((deAt (R s) d).o==i)=_
  rw[R_deAt];rfl
theorem R_textOf{s:St}{i:Nat}(h:i∈s.files):textOf (R s) i=Sy.textOf s i:=by
 unfold textOf Sy.textOf;rw[R_obAt,aM h];rfl
theorem R_setDe(s:St)(d:Nat)(f:Rq->Rq)(g:De->De)(h:∀x,f (strip x)=strip (g x)):setDe (R s) d f=R (Sy.setDe s d g):=by
 unfold setDe Sy.setDe R;dsimp only
 congr 1
 apply lv
 intro k;simp only[mR,pE]
 rcases e:s.des[k]? with _|x
 ·rfl
 simp only[sj]
 split<;>simp_all
theorem R_setOb{s:St}{i:Nat}(hi:i∈s.files)(f:Ob->Ob):setOb (R s) i f=R (Sy.setOb s i f):=by
 unfold setOb Sy.setOb R;dsimp only
 congr 1
 apply lv
 intro k;simp only[mR,j5]
 rcases e:s.obs[k]? with _|x
 ·rfl
 simp only[sj]
 by_cases a:i=k
 ·subst a
  simp[hi]
 simp[a]
theorem R_openSet(s:St)(n:Int)(p:Bs):openSet (R s) n p=(R (Sy.openSet s n p).1,(Sy.openSet s n p).2):=by
 unfold openSet Sy.openSet;have b:(R s).T=s.T:=rfl;have a:(R s).u=s.u:=rfl;rw[b,a]
 rcases get s.T p with _|e
 ·dsimp only
  split
  ·rfl
  exact R_set s _
 dsimp only
 split
 ·rfl
 split
 ·rfl
 split
 ·exact R_set s _
 rfl
theorem R_create(s:St)(c:Ca):create (R s) c=(R (Sy.create s c).1,(Sy.create s c).2):=by
 unfold create Sy.create;have b:(R s).T=s.T:=rfl;have a:(R s).u=s.u:=rfl;rw[b,a];dsimp only
 split
 ·rfl
 split
 ·rfl
 rw[R_set]
end Rw
namespace RwL
open Pt Tr
def cnt(l:List (List (Option Nat)))(d:Nat):Nat:=(l.map λr=>r.count (some d)).sum
theorem cnt_pos{l:List (List (Option Nat))}{d:Nat}:0<cnt l d↔∃r∈l,some d∈r:=by
 unfold cnt
 induction l with
 |nil=>simp
 |cons r t ih=>
  rw[ww,List.sum_cons]
  constructor
  ·intro h
   by_cases c:0<r.count (some d)
   ·exact⟨r,tF ..,List.count_pos_iff.1 c⟩
   ·obtain⟨q,a,b⟩:=ih.1 (by omega)
    exact⟨q,oo _ a,b⟩
  ·rintro⟨q,a,b⟩
   rcases List.mem_cons.1 a with rfl|a
   ·have:=List.count_pos_iff.2 b;omega
   ·have:=ih.2 ⟨q,a,b⟩;omega
theorem count_set{r:List (Option Nat)}{k:Nat}(hk:k<r.length)(v x:Option Nat):(r.set k v).count x+(if r[k]=x then 1 else 0)=r.count x+(if v=x then 1 else 0):=by
 induction r generalizing k with
 |nil=>cases hk
 |cons a t ih=>
  cases k with
  |zero=>
   simp only[List.set_cons_zero,List.count_cons,Fs,p9];omega
  |succ k=>
   have:=ih (k:=k) (by simpa using hk)
   simp only[Av,List.count_cons,Fu,p9];omega
theorem cnt_mod{l:List (List (Option Nat))}{o:Nat}(ho:o<l.length)(f:List (Option Nat)->List (Option Nat))(d:Nat):cnt (l.modify o f) d+l[o].count (some d)=cnt l d+(f l[o]).count (some d):=by
 unfold cnt
 induction l generalizing o with
 |nil=>cases ho
 |cons r t ih=>
  cases o with
  |zero=>
   simp only[List.modify_zero_cons,ww,List.sum_cons,Fs];omega
  |succ o=>
   have:=ih (o:=o) (by simpa using ho)
   simp only[List.modify_succ_cons,ww,List.sum_cons,Fu];omega
theorem cnt_set{s:St}{n:Nat}(hi:Sy.In n s){o k:Nat}(ho:o<4)(hk:k<8)(v:Option Nat)(d:Nat):cnt (Sy.setFd s o k v).fds d+(if Sy.fdAt s o k=some d then 1 else 0)=cnt s.fds d+(if v=some d then 1 else 0):=by
 have a:o<s.fds.length:=by rw[hi.fdl];exact ho
 have e:s.fds[o].length=8:=hi.fdr _ (cz a);have b:Sy.fdAt s o k=s.fds[o][k]'(by omega):=by
  have c:s.fds.getD o []=s.fds[o]:=by rw[bi,bA a];rfl
  show(s.fds.getD o []).getD k none=_
  rw[c,bi,bA (by omega)];rfl
 have h:=cnt_mod a (λr=>r.set k v) d
 have g:=count_set (r:=s.fds[o]) (k:=k) (by omega) v (some d)
 rw[b]
 show cnt (s.fds.modify o _) d+_=_
 omega
theorem used_iff{s:St}{i:Nat}:Sy.used s i=true↔∃d,0<cnt s.fds d/\(Sy.deAt s d).o=i:=by
 unfold Sy.used;rw[nu]
 constructor
 ·rintro⟨r,b,h⟩
  rw[nu]at h;obtain⟨x,a,h⟩:=h
  cases x with
  |none=>cases h
  |some d=>exact⟨d,cnt_pos.2 ⟨r,b,a⟩,by simpa using h⟩
 rintro⟨d,c,h⟩;obtain⟨r,b,a⟩:=cnt_pos.1 c;exact⟨r,b,by rw[nu];exact⟨some d,a,by simpa using h⟩⟩
structure J(s:St):Prop where
 use:∀i,i∈s.files↔∃d,0<cnt s.fds d/\(Sy.deAt s d).o=i
 ref:∀d,d<s.des.length->(Sy.deAt s d).refs=cnt s.fds d
 uniq:∀i∈s.files,∀j∈s.files,(Sy.obAt s i).P=(Sy.obAt s j).P->(Sy.obAt s i).P≠[]->i=j
 kind:∀i∈s.files,(Sy.obAt s i).P≠[]->(get s.T (Sy.obAt s i).P).isSome=true
theorem cnt_start(d:Nat):cnt (List.replicate 4 (List.replicate 8 none)) d=0:=by
 rcases nA (cnt (List.replicate 4 (List.replicate 8 none)) d)with h|h
 ·exact h
 obtain⟨r,b,a⟩:=cnt_pos.1 h;rw[Bn b]at a
 cases Bn a
theorem J_start(u:Un):J (Sy.start u) where
 use:=λi=>by
  constructor
  ·intro h;cases h
  ·rintro⟨d,h,_⟩
   have:=cnt_start d;rw[show(Sy.start u).fds=List.replicate 4 (List.replicate 8 none)from rfl]at h
   omega
 ref:=λd h=>absurd h (l5 d)
 uniq:=λi h=>nomatch h
 kind:=λi h=>nomatch h
theorem J.tree{s:St}(h:J s){u:Un}{T:List En}(hk:∀q,(get s.T q).isSome=true->(get T q).isSome=true):J {s with u:=u,T:=T}:=
 ⟨h.use,h.ref,h.uniq,λi b a=>hk _ (h.kind i b a)⟩
theorem put_there{t:List En}{e:En}(ht:Srt t)(h:(Tr.put t e).2=0):e.P≠[]/\(get (Tr.put t e).1 e.P).isSome=true/\∀q,(get t q).isSome=true->(get (Tr.put t e).1 q).isSome=true:=by
 have a:e.P≠[]/\(Tr.put t e).1=ins e t:=by
  unfold Tr.put at h ⊢
  by_cases b:putErr t e=0
  ·rw[av (by simp[b])]
   exact⟨clean_ne (entry_clean (put_ok b).2.2.1),rfl⟩
  rw[aM b]at h;exact absurd h b
 rw[a.2];have c:(get (ins e t) e.P).isSome=true:=by rw[get_ins_same ht a.1];rfl
 refine⟨a.1,c,λq i=> ?_⟩
 by_cases g:q=e.P
 ·subst g;exact c
 rw[get_ins_other ht g];exact i
theorem set_put{s:St}(hok:Sy.Ok s)(e:En)(h:(Sy.set s (putU s.u e)).2=0):(get (Sy.set s (putU s.u e)).1.T e.P).isSome=true:=by
 have ha:=putU_tree hok.1 e;unfold Sy.set at h ⊢
 by_cases a:(putU s.u e).2=0
 ·rw[av (by simp[a])]
  obtain⟨_,_,b,c⟩:=ha.2 a;have g:(seenU s.u).1=s.T:=hok.T;rw[g]at b c;rw[c];exact(put_there (Sy.okR hok).2.1 b).2.1
 rw[aM a]at h;exact absurd h a
theorem J.set{s:St}(h:J s)(hok:Sy.Ok s)(e:En):J (Sy.set s (putU s.u e)).1:=by
 have ha:=putU_tree hok.1 e;unfold Sy.set
 by_cases a:(putU s.u e).2=0
 ·rw[av (by simp[a])]
  obtain⟨_,_,b,c⟩:=ha.2 a;have g:(seenU s.u).1=s.T:=hok.T;rw[g]at b c;rw[c];exact h.tree (put_there (Sy.okR hok).2.1 b).2.2
 rw[aM a];exact h
theorem J.openSet{s:St}(h:J s)(hok:Sy.Ok s)(n:Int)(p:Bs):J (Sy.openSet s n p).1:=by
 unfold Sy.openSet
 split
 ·split
  ·exact h
  exact h.set hok _
 split
 ·exact h
 split
 ·exact h
 split
 ·exact h.set hok _
 exact h
theorem lastP_none:∀{l:List Ob} {p:Bs} {i:Nat} {a:Option Nat},(∀o∈l,o.P≠p)->Rw.lastP l p i a=a
 |[],_,_,_,_=>rfl
 |o::r,p,i,a,h=>by
  show Rw.lastP r p (i+1) (if o.P=p then some i else a)=a
  rw[av (h o (tF ..))];exact lastP_none λx hx=>h x (oo _ hx)
theorem lastP_one:∀{l:List Ob} {p:Bs} {i k:Nat} {a:Option Nat} (hk:k<l.length),l[k].P=p->(∀j (hj:j<l.length),j≠k->l[j].P≠p)->Rw.lastP l p i a=some (i+k)
 |[],_,_,_,_,hk,_,_=>absurd hk (l5 _)
 |o::r,p,i,0,a,_,h,hn=>by
  have h:o.P=p:=h
  show Rw.lastP r p (i+1) (if o.P=p then some i else a)=_
  rw[aM h,lastP_none]
  ·rfl
  ·intro x c
   obtain⟨j,hj,rfl⟩:=mq c;exact hn (j+1) (by simpa using hj) (by omega)
 |o::r,p,i,k+1,a,hk,h,hn=>by
  show Rw.lastP r p (i+1) (if o.P=p then some i else a)=_
  rw[lastP_one (k:=k) (by simpa using hk) h λj hj b=>hn (j+1) (by simpa using hj) (by omega)]
  congr 1
  omega
theorem R_objs{s:St}{j:Nat}(hj:j<(Rw.R s).objs.length):(Rw.R s).objs[j]=if j∈s.files then Sy.obAt s j else Rw.zob:=by
 have h:j<s.obs.length:=by simpa[Rw.R]using hj
 simp only[Rw.R,uW,Sy.obAt,bi,bA h,qD]
theorem zob_P:Rw.zob.P=[]:=rfl
theorem R_opened{s:St}{n:Nat}(hi:Sy.In n s)(hJ:J s){p:Bs}(hp:p≠[]):Rw.opened (Rw.R s) p=(Rw.R (Sy.opened s p).1,(Sy.opened s p).2):=by
 unfold Rw.opened Sy.opened
 rcases g:s.files.find? (λi=>(Sy.obAt s i).P==p)with _|i
 ·dsimp only
  have b:∀i∈s.files,(Sy.obAt s i).P≠p:=λi h=>by
   have:=List.find?_eq_none.1 g i h
   simpa using this
  rw[lastP_none]
  ·have a:(Rw.R s).objs.length=s.obs.length:=by simp[Rw.R]
   dsimp only;rw[a];refine F3 ?_ rfl
   show(⟨s.u,s.T,_,_,s.fds⟩:Rw)=⟨s.u,s.T,_,_,s.fds⟩
   congr 1
   show(s.obs.mapIdx λi o=>if i∈s.files then o else Rw.zob)++[(⟨Sy.bytesOf p,Sy.noE,[]⟩:Ob)]=(s.obs++[(⟨Sy.bytesOf p,Sy.noE,[]⟩:Ob)]).mapIdx λi o=>if i∈s.files++[s.obs.length]then o else Rw.zob
   rw[List.mapIdx_append]
   congr 1
   ·apply lv
    intro k;simp only[j5]
    rcases r:s.obs[k]? with _|x
    ·rfl
    have t:=(List.getElem?_eq_some_iff.1 r).1;simp only[sj,gF,eD];have:k≠s.obs.length:=by omega
    simp[this]
   simp
  intro o v;obtain⟨j,m,rfl⟩:=mq v;rw[R_objs m]
  by_cases h:j∈s.files
  ·rw[aM h];exact b j h
  rw[av h,zob_P];exact λe=>hp e.symm
 dsimp only;have c:=CK g;have q:(Sy.obAt s i).P=p:=by have:=List.find?_some g;simpa using this
 have a:i<(Rw.R s).objs.length:=by
  have:=hi.fsub i c
  simpa[Rw.R]using this
 rw[lastP_one a (by rw[R_objs a,aM c];exact q) λj m l=>by
  rw[R_objs m]
  by_cases h:j∈s.files
  ·rw[aM h]
   exact λe=>l (hJ.uniq j h i c (by rw[e,q]) (by rw[e];exact hp))
  rw[av h,zob_P];exact λe=>hp e.symm]
 simp only[mE]
theorem R_callOpen{s:St}{n:Nat}(hi:Sy.In n s)(hok:Sy.Ok s)(hJ:J s)(c:Ca):Rw.callOpen (Rw.R s) c=(Rw.R (Sy.callOpen s c).1,(Sy.callOpen s c).2):=by
 unfold Rw.callOpen Sy.callOpen
 split
 ·rfl
 rw[Rw.R_free]
 rcases j:Sy.free s c.owner.toNat with _|k
 ·rfl
 dsimp only;have i:(Rw.R s).T=s.T:=rfl;rw[i]
 split
 ·rfl
 rw[Rw.R_openSet];dsimp only
 split
 ·rfl
 rename_i g
 have g:(Sy.openSet s c.n (Sy.find s.T c.path (!Sy.bit c.n 4)).1).2=0:=by simpa using g
 have b:=Sy.openSet_ne g;have a:=Sy.openSet_in hi c.n (Sy.find s.T c.path (!Sy.bit c.n 4)).1;have e:=J.openSet hJ hok c.n (Sy.find s.T c.path (!Sy.bit c.n 4)).1;generalize Sy.openSet s c.n (Sy.find s.T c.path (!Sy.bit c.n 4)).1=r at*;generalize (Sy.find s.T c.path (!Sy.bit c.n 4)).1=p at*;rw[R_opened a e b];dsimp only;refine F3 ?_ rfl
 show Rw.setFd _ _ _ _=Rw.R (Sy.setFd _ _ _ _)
 rw[<-Rw.R_setFd];have h:(Rw.R (Sy.opened r.1 p).1).des.length=(Sy.opened r.1 p).1.des.length:=by simp[Rw.R]
 rw[h]
 congr 1
 show(⟨_,_,_,_,_⟩:Rw)=⟨_,_,_,_,_⟩
 congr 1
 show((Sy.opened r.1 p).1.des.map Rw.strip)++[_]=((Sy.opened r.1 p).1.des++[_]).map Rw.strip
 rw[vQ]
 rfl
theorem openSet_there{s:St}(hok:Sy.Ok s){n:Int}{p:Bs}(h:(Sy.openSet s n p).2=0):(get (Sy.openSet s n p).1.T p).isSome=true:=by
 have a:(Sy.fileEn p Sy.noE).P=p:=by unfold En.P Sy.fileEn Sy.bytesOf;simp
 unfold Sy.openSet at h ⊢
 split at h
 ·rename_i hg
  split at h
  ·exact absurd h (show¬(6:Int)=0 by decide)
  rename_i hb3
  rw[av hb3];have:=set_put hok _ h;rw[a]at this;exact this
 rename_i e hg
 split at h
 ·exact absurd h (show¬(7:Int)=0 by decide)
 split at h
 ·exact absurd h (show¬(9:Int)=0 by decide)
 rename_i h1 h2
 rw[av h1,av h2]
 split at h
 ·rename_i h3
  rw[aM h3];have:=set_put hok _ h;rw[a]at this;exact this
 rename_i h3
 rw[av h3]
 show(get s.T p).isSome=true
 rw[hg];rfl
theorem deAt_app{s:St}{d:Nat}(hd:d<s.des.length)(x:De)(s':St)(hs:s'.des=s.des++[x]):Sy.deAt s' d=Sy.deAt s d:=by
 unfold Sy.deAt;rw[hs,bi,bi,l6 hd]
theorem deAt_new{s:St}(x:De)(s':St)(hs:s'.des=s.des++[x]):Sy.deAt s' s.des.length=x:=by
 unfold Sy.deAt;rw[hs,bi,kr aR];simp
theorem cnt_lt{s:St}{n d:Nat}(hi:Sy.In n s)(h:0<cnt s.fds d):d<s.des.length:=by
 obtain⟨r,b,a⟩:=cnt_pos.1 h;exact hi.fdd r b d a
theorem J.add{s:St}{n:Nat}(hi:Sy.In n s){o k:Nat}(ho:o<4)(hk:k<8)(hnone:Sy.fdAt s o k=none){x:De}(hx:x.refs=1)(huse:∀i,i∈s.files↔i=x.o\/∃d,0<cnt s.fds d/\(Sy.deAt s d).o=i)(href:∀d,d<s.des.length->(Sy.deAt s d).refs=cnt s.fds d)(hu:∀i∈s.files,∀j∈s.files,(Sy.obAt s i).P=(Sy.obAt s j).P->(Sy.obAt s i).P≠[]->i=j)(hkd:∀i∈s.files,(Sy.obAt s i).P≠[]->(get s.T (Sy.obAt s i).P).isSome=true):J (Sy.setFd {s with des:=s.des++[x]} o k (some s.des.length)):=by
 have e:∀d,cnt (Sy.setFd {s with des:=s.des++[x]} o k (some s.des.length)).fds d=cnt s.fds d+(if s.des.length=d then 1 else 0):=λd=>by
  have h:=cnt_set hi ho hk (some s.des.length) d;rw[hnone]at h;simp only[ze,reduceCtorEq,if_false,tQ]at h;exact h
 have g:cnt s.fds s.des.length=0:=by
  rcases nA (cnt s.fds s.des.length)with h|h
  ·exact h
  exact absurd (cnt_lt hi h) (Nat.lt_irrefl _)
 refine⟨λi=> ?_,λd b=> ?_,hu,hkd⟩
 ·refine(huse i).trans ?_
  constructor
  ·rintro(rfl|⟨d,c,a⟩)
   ·exact⟨s.des.length,by rw[e,aM rfl];omega,by rw[deAt_new (s:=s) x _ rfl]⟩
   exact⟨d,by rw[e];omega,by rw[deAt_app (cnt_lt hi c) x _ rfl];exact a⟩
  rintro⟨d,c,a⟩;rw[e]at c
  by_cases b:s.des.length=d
  ·subst b
   rw[deAt_new (s:=s) x _ rfl]at a;exact .inl a.symm
  rw[av b]at c;rw[deAt_app (cnt_lt hi (by omega)) x _ rfl]at a
  exact .inr ⟨d,by omega,a⟩
 rw[e];have b:d<s.des.length+1:=by simpa[Sy.setFd]using b
 by_cases h:s.des.length=d
 ·subst h
  rw[deAt_new (s:=s) x _ rfl,hx,aM rfl,g];rfl
 rw[deAt_app (by omega) x _ rfl,href d (by omega),av h];rfl
theorem free_fd{s:St}{o k:Nat}{n:Nat}(hi:Sy.In n s)(ho:o<4)(h:Sy.free s o=some k):k<8/\Sy.fdAt s o k=none:=by
 have b:o<s.fds.length:=by rw[hi.fdl];exact ho
 have g:s.fds[o].length=8:=hi.fdr _ (cz b);have a:s.fds.getD o []=s.fds[o]:=by rw[bi,bA b];rfl
 unfold Sy.free at h;rw[a,wm]at h;obtain⟨c,e,_⟩:=h;refine⟨by omega,?_⟩
 show(s.fds.getD o []).getD k none=none
 rw[a,bi,bA c]
 simpa using e
theorem bytesP(p:Bs):(⟨Sy.bytesOf p,Sy.noE,[]⟩:Ob).P=p:=by unfold Ob.P Sy.bytesOf;simp
theorem J.opened{s:St}{n:Nat}(hi:Sy.In n s)(h:J s){p:Bs}(hl:p.length<=80)(hT:(get s.T p).isSome=true){o k:Nat}(ho:o<4)(hk:k<8)(hnone:Sy.fdAt s o k=none)(m:Int):J (Sy.setFd {(Sy.opened s p).1 with des:=(Sy.opened s p).1.des++[⟨(Sy.opened s p).2,m,0,1⟩]} o k (some (Sy.opened s p).1.des.length)):=by
 have e:=(hi.opened hl).1;unfold Sy.opened at e ⊢
 rcases v:s.files.find? (λi=>(Sy.obAt s i).P==p)with _|x
 ·rw[v]at e
  dsimp only at e ⊢;have u:∀i∈s.files,(Sy.obAt s i).P≠p:=λi h=>by
   have:=List.find?_eq_none.1 v i h
   simpa using this
  have l:∀i,i<s.obs.length->Sy.obAt {s with obs:=s.obs++[⟨Sy.bytesOf p,Sy.noE,[]⟩],files:=s.files++[s.obs.length]} i=Sy.obAt s i:=λi hl=>by
   unfold Sy.obAt;dsimp only;rw[bi,bi,l6 hl]
  have r:Sy.obAt {s with obs:=s.obs++[⟨Sy.bytesOf p,Sy.noE,[]⟩],files:=s.files++[s.obs.length]} s.obs.length=⟨Sy.bytesOf p,Sy.noE,[]⟩:=by
   unfold Sy.obAt;dsimp only;rw[bi,kr aR];simp
  have c:∀i,i∈s.files++[s.obs.length]↔i∈s.files\/i=s.obs.length:=λi=>by simp
  refine J.add e ho hk hnone rfl (λi=> ?_) h.ref (λi a j b t q=> ?_) (λi a q=> ?_)
  ·refine(c i).trans ?_
   constructor
   ·rintro(g|g)
    ·exact .inr ((h.use i).1 g)
    exact .inl g
   rintro(g|g)
   ·exact .inr g
   exact .inl ((h.use i).2 g)
  ·rcases(c i).1 a with a|rfl
   ·have w:=hi.fsub i a
    rw[l i w]at t q
    rcases(c j).1 b with b|rfl
    ·rw[l j (hi.fsub j b)]at t
     exact h.uniq i a j b t q
    rw[r,bytesP]at t;exact absurd t (u i a)
   rcases(c j).1 b with b|rfl
   ·rw[r,bytesP,l j (hi.fsub j b)]at t
    exact absurd t.symm (u j b)
   rfl
  rcases(c i).1 a with a|rfl
  ·rw[l i (hi.fsub i a)]at q ⊢
   exact h.kind i a q
  rw[r,bytesP];exact hT
 rw[v]at e;dsimp only at e ⊢;have y:=CK v;refine J.add e ho hk hnone rfl (λi=> ?_) h.ref h.uniq h.kind
 constructor
 ·exact λg=> .inr ((h.use i).1 g)
 rintro(g|g)
 ·have g:i=x:=g
  rw[g];exact y
 exact(h.use i).2 g
theorem J.callOpen{s:St}{n:Nat}(hi:Sy.In n s)(hok:Sy.Ok s)(h:J s)(c:Ca)(h4:c.owner.toNat<4):J (Sy.callOpen s c).1:=by
 unfold Sy.callOpen
 split
 ·exact h
 split
 ·exact h
 rename_i k hf
 split
 ·exact h
 rename_i hfe
 have g:=Sy.find_le (by simpa using hfe)
 dsimp only
 split
 ·exact h.openSet hok _ _
 rename_i i
 have i:(Sy.openSet s c.n (Sy.find s.T c.path (!Sy.bit c.n 4)).1).2=0:=by simpa using i
 have b:=Sy.openSet_in hi c.n (Sy.find s.T c.path (!Sy.bit c.n 4)).1;have e:=h.openSet hok c.n (Sy.find s.T c.path (!Sy.bit c.n 4)).1;have m:=openSet_there hok i;have l:=(Sy.openSet_keeps s c.n (Sy.find s.T c.path (!Sy.bit c.n 4)).1).2.2.1;obtain⟨j,a⟩:=free_fd hi h4 hf;exact J.opened b e g m h4 j (by unfold Sy.fdAt at a ⊢;rw[l];exact a) c.n
theorem fd_use{s:St}{n:Nat}(hi:Sy.In n s)(h:J s){o k d:Nat}(hf:Sy.fdAt s o k=some d):(Sy.deAt s d).o∈s.files/\d<s.des.length:=by
 have c:=hi.fdAt hf;refine⟨(h.use _).2 ⟨d,cnt_pos.2 ?_,rfl⟩,c⟩
 unfold Sy.fdAt at hf;rw[bi]at hf
 rcases b:s.fds[o]? with _|r
 ·rw[bi,b]at hf
  simp at hf
 rw[bi,b,qD]at hf;refine⟨r,List.mem_of_getElem? b,?_⟩
 rcases a:r[k]? with _|x
 ·rw[a]at hf;cases hf
 rw[a,qD]at hf;subst hf;exact List.mem_of_getElem? a
theorem deAt_set{s:St}{d:Nat}{f:De->De}(e:Nat):Sy.deAt (Sy.setDe s d f) e=if d=e/\e<s.des.length then f (Sy.deAt s e)else Sy.deAt s e:=by
 unfold Sy.deAt Sy.setDe;dsimp only;rw[bi,bi,mR]
 rcases h:s.des[e]? with _|x
 ·have:=List.getElem?_eq_none_iff.1 h
  rw[av (c:=d=e/\_) (by omega)]
  simp
 have b:=(List.getElem?_eq_some_iff.1 h).1
 by_cases a:d=e
 ·simp[a,b]
 simp[a]
theorem J.setDe{s:St}(h:J s)(d:Nat){f:De->De}(ho:∀x,(f x).o=x.o)(hr:∀x,(f x).refs=x.refs):J (Sy.setDe s d f):=by
 have c:∀e,(Sy.deAt (Sy.setDe s d f) e).o=(Sy.deAt s e).o:=λe=>by
  rw[deAt_set];split
  ·exact ho _
  rfl
 have j:∀e,(Sy.deAt (Sy.setDe s d f) e).refs=(Sy.deAt s e).refs:=λe=>by
  rw[deAt_set];split
  ·exact hr _
  rfl
 refine⟨λi=> ?_,λe g=> ?_,h.uniq,h.kind⟩
 ·show i∈s.files↔∃e,0<cnt s.fds e/\_
  rw[h.use i]
  constructor
  ·rintro⟨e,a,b⟩;exact⟨e,a,by rw[c];exact b⟩
  rintro⟨e,a,b⟩;exact⟨e,a,by rw[<-c];exact b⟩
 rw[j];exact h.ref e (by simpa[Sy.setDe]using g)
theorem obAt_set{s:St}{d:Nat}{f:Ob->Ob}(e:Nat):Sy.obAt (Sy.setOb s d f) e=if d=e/\e<s.obs.length then f (Sy.obAt s e)else Sy.obAt s e:=by
 unfold Sy.obAt Sy.setOb;dsimp only;rw[bi,bi,mR]
 rcases h:s.obs[e]? with _|x
 ·have:=List.getElem?_eq_none_iff.1 h
  rw[av (c:=d=e/\_) (by omega)]
  simp
 have b:=(List.getElem?_eq_some_iff.1 h).1
 by_cases a:d=e
 ·simp[a,b]
 simp[a]
theorem J.setOb{s:St}(h:J s)(d:Nat){f:Ob->Ob}(hp:∀x,(f x).P=x.P):J (Sy.setOb s d f):=by
 have b:∀e,(Sy.obAt (Sy.setOb s d f) e).P=(Sy.obAt s e).P:=λe=>by
  rw[obAt_set];split
  ·exact hp _
  rfl
 exact⟨h.use,h.ref,λi c j g k a=>h.uniq i c j g (by rw[<-b,<-b];exact k) (by rw[<-b];exact a),λi c a=>by rw[b];exact h.kind i c (by rw[<-b];exact a)⟩
theorem R_setDe_same(s:St)(d:Nat){g:De->De}(h:∀x,Rw.strip (g x)=Rw.strip x):Rw.R (Sy.setDe s d g)=Rw.R s:=by
 unfold Sy.setDe Rw.R;dsimp only
 congr 1
 apply lv
 intro k;simp only[mR,pE]
 rcases e:s.des[k]? with _|x
 ·simp
 simp only[sj]
 split<;>simp[h]
theorem cnt_less{s:St}{n:Nat}(hi:Sy.In n s){o k d:Nat}(ho:o<4)(hk:k<8)(hf:Sy.fdAt s o k=some d)(e:Nat):cnt (Sy.setFd s o k none).fds e+(if d=e then 1 else 0)=cnt s.fds e:=by
 have h:=cnt_set hi ho hk none e;rw[hf]at h;simp only[ze,reduceCtorEq,if_false,tQ]at h;exact h
theorem cnt_more{s:St}{n:Nat}(hi:Sy.In n s){o k d:Nat}(ho:o<4)(hk:k<8)(hf:Sy.fdAt s o k=none)(e:Nat):cnt (Sy.setFd s o k (some d)).fds e=cnt s.fds e+(if d=e then 1 else 0):=by
 have h:=cnt_set hi ho hk (some d) e;rw[hf]at h;simp only[ze,reduceCtorEq,if_false,tQ]at h;exact h
def shut(s:St)(o k d:Nat):St:=Sy.setDe (Sy.setOb (Sy.setFd s o k none) (Sy.deAt s d).o λx=>{x with l:=Lk.leave x.l o}) d λx=>{x with refs:=x.refs-1}
theorem shut_deAt{s:St}{o k d:Nat}(e:Nat):(Sy.deAt (shut s o k d) e).o=(Sy.deAt s e).o:=by
 unfold shut;rw[deAt_set]
 split
 ·rfl
 rfl
theorem shut_obAt{s:St}{o k d:Nat}(e:Nat):(Sy.obAt (shut s o k d) e).P=(Sy.obAt s e).P:=by
 show(Sy.obAt (Sy.setOb (Sy.setFd s o k none) _ _) e).P=_
 rw[obAt_set]
 split
 ·rfl
 rfl
theorem shut_refs{s:St}{n:Nat}(hi:Sy.In n s)(h:J s){o k d:Nat}(ho:o<4)(hk:k<8)(hf:Sy.fdAt s o k=some d){e:Nat}(he:e<s.des.length):(Sy.deAt (shut s o k d) e).refs=cnt (Sy.setFd s o k none).fds e:=by
 have b:=cnt_less hi ho hk hf e;have c:=h.ref e he;unfold shut;rw[deAt_set]
 by_cases a:d=e
 ·subst a
  rw[aM ⟨rfl,by simpa[Sy.setOb,Sy.setFd]using he⟩]
  show(Sy.deAt s d).refs-1=_
  rw[aM rfl]at b;omega
 rw[av (λh=>a h.1)]
 show(Sy.deAt s e).refs=_
 rw[av a]at b;omega
theorem shut_used{s:St}{o k d:Nat}(i:Nat):Sy.used (shut s o k d) i=true↔∃e,0<cnt (Sy.setFd s o k none).fds e/\(Sy.deAt s e).o=i:=by
 rw[used_iff]
 constructor
 ·rintro⟨e,a,b⟩
  exact⟨e,a,by rw[<-shut_deAt (o:=o) (k:=k) (d:=d)];exact b⟩
 rintro⟨e,a,b⟩;exact⟨e,a,by rw[shut_deAt];exact b⟩
theorem R_shut{s:St}{o k d:Nat}(hm:(Sy.deAt s d).o∈s.files):Rw.R (shut s o k d)=Rw.setOb (Rw.setFd (Rw.R s) o k none) (Sy.deAt s d).o λx=>{x with l:=Lk.leave x.l o}:=by
 unfold shut;rw[R_setDe_same]
 ·rw[<-Rw.R_setOb (s:=Sy.setFd s o k none) hm,Rw.R_setFd]
 exact λ_=>rfl
theorem R_drop{s:St}{i:Nat}:Rw.setOb (Rw.R s) i (λ_=>Rw.zob)=Rw.R {s with files:=s.files.filter λj=>j !=i}:=by
 unfold Rw.setOb Rw.R;dsimp only
 congr 1
 apply lv
 intro k;simp only[mR,j5]
 rcases e:s.obs[k]? with _|x
 ·simp
 simp only[sj,il,Dg]
 by_cases a:i=k
 ·subst a;simp
 have:k≠i:=λe=>a e.symm
 simp[a,this]
theorem R_callClose{s:St}{n:Nat}(hi:Sy.In n s)(h:J s){o k d:Nat}(ho:o<4)(hk:k<8)(hf:Sy.fdAt s o k=some d):Rw.callClose (Rw.R s) o k d=(Rw.R (Sy.callClose s o k d).1,(Sy.callClose s o k d).2):=by
 obtain⟨e,c⟩:=fd_use hi h hf;unfold Rw.callClose Sy.callClose;dsimp only;have g:(Rw.deAt (Rw.R s) d).o=(Sy.deAt s d).o:=by rw[Rw.R_deAt];rfl
 rw[g,<-R_shut e,Rw.R_used]
 show(if Sy.used (shut s o k d) (Sy.deAt s d).o=false then _ else _,_)=(Rw.R (if(Sy.deAt (shut s o k d) d).refs=0/\Sy.used (shut s o k d) (Sy.deAt s d).o=false then{shut s o k d with files:=(shut s o k d).files.filter λj=>j !=(Sy.deAt s d).o}else shut s o k d),_)
 by_cases a:Sy.used (shut s o k d) (Sy.deAt s d).o=false
 ·have i:(Sy.deAt (shut s o k d) d).refs=0:=by
   rw[shut_refs hi h ho hk hf c]
   rcases nA (cnt (Sy.setFd s o k none).fds d)with b|b
   ·rw[b];rfl
   have:=(shut_used (s:=s) (o:=o) (k:=k) (d:=d) (Sy.deAt s d).o).2 ⟨d,b,rfl⟩;rw[a]at this;cases this
  rw[aM a,aM ⟨i,a⟩,R_drop]
 rw[av a,av (λq=>a q.2)]
theorem J.callClose{s:St}{n:Nat}(hi:Sy.In n s)(h:J s){o k d:Nat}(ho:o<4)(hk:k<8)(hf:Sy.fdAt s o k=some d):J (Sy.callClose s o k d).1:=by
 obtain⟨F,y⟩:=fd_use hi h hf;have w:=cnt_less hi ho hk hf
 show J (if(Sy.deAt (shut s o k d) d).refs=0/\Sy.used (shut s o k d) (Sy.deAt s d).o=false then{shut s o k d with files:=(shut s o k d).files.filter λj=>j !=(Sy.deAt s d).o}else shut s o k d)
 have p:∀e,e<(shut s o k d).des.length->(Sy.deAt (shut s o k d) e).refs=cnt (shut s o k d).fds e:=λe m=>shut_refs hi h ho hk hf (by simpa[shut,Sy.setDe,Sy.setOb,Sy.setFd]using m)
 by_cases u:Sy.used (shut s o k d) (Sy.deAt s d).o=false
 ·have A:(Sy.deAt (shut s o k d) d).refs=0:=by
   rw[shut_refs hi h ho hk hf y]
   rcases nA (cnt (Sy.setFd s o k none).fds d)with v|v
   ·rw[v];rfl
   have:=(shut_used (s:=s) (o:=o) (k:=k) (d:=d) (Sy.deAt s d).o).2 ⟨d,v,rfl⟩;rw[u]at this;cases this
  rw[aM ⟨A,u⟩];have l:∀i,i∈(shut s o k d).files.filter (λj=>j !=(Sy.deAt s d).o)↔i∈s.files/\i≠(Sy.deAt s d).o:=λi=>by
   rw[il,Dg];rfl
  refine⟨λi=>(l i).trans ?_,p,λi g j r m c=> ?_,λi g c=> ?_⟩
  ·constructor
   ·rintro⟨x,z⟩
    obtain⟨e,a,b⟩:=(h.use i).1 x;have t:d≠e:=λq=>z (by rw[<-b,q])
    have:=w e;rw[av t]at this;exact⟨e,by show 0<cnt (Sy.setFd s o k none).fds e;omega,by show(Sy.deAt (shut s o k d) e).o=i;rw[shut_deAt];exact b⟩
   rintro⟨e,a,b⟩;have a:0<cnt (Sy.setFd s o k none).fds e:=a;have b:(Sy.deAt (shut s o k d) e).o=i:=b;rw[shut_deAt]at b;have:=w e;refine⟨(h.use i).2 ⟨e,by omega,b⟩,λq=> ?_⟩
   have:=(shut_used (s:=s) (o:=o) (k:=k) (d:=d) (Sy.deAt s d).o).2 ⟨e,a,by rw[b,q]⟩
   rw[u]at this;cases this
  ·have m:(Sy.obAt (shut s o k d) i).P=(Sy.obAt (shut s o k d) j).P:=m
   have c:(Sy.obAt (shut s o k d) i).P≠[]:=c;rw[shut_obAt,shut_obAt]at m;rw[shut_obAt]at c;exact h.uniq i ((l i).1 g).1 j ((l j).1 r).1 m c
  have c:(Sy.obAt (shut s o k d) i).P≠[]:=c
  show(get s.T (Sy.obAt (shut s o k d) i).P).isSome=true
  rw[shut_obAt]at c ⊢;exact h.kind i ((l i).1 g).1 c
 rw[av (λq=>u q.2)]
 refine⟨λi=> ?_,p,λi g j r m c=> ?_,λi g c=> ?_⟩
 ·show i∈s.files↔∃e,0<cnt (Sy.setFd s o k none).fds e/\(Sy.deAt (shut s o k d) e).o=i
  constructor
  ·intro x
   obtain⟨e,a,b⟩:=(h.use i).1 x;have:=w e
   by_cases v:0<cnt (Sy.setFd s o k none).fds e
   ·exact⟨e,v,by rw[shut_deAt];exact b⟩
   have t:d=e:=by
    by_cases q:d=e
    ·exact q
    rw[av q]at this;omega
   have u:Sy.used (shut s o k d) (Sy.deAt s d).o=true:=by simpa using u
   obtain⟨E,B,D⟩:=(shut_used _).1 u;exact⟨E,B,by rw[shut_deAt,D,t,b]⟩
  rintro⟨e,a,b⟩;rw[shut_deAt]at b;have:=w e;exact(h.use i).2 ⟨e,by omega,b⟩
 ·rw[shut_obAt,shut_obAt]at m
  rw[shut_obAt]at c;exact h.uniq i g j r m c
 show(get s.T (Sy.obAt (shut s o k d) i).P).isSome=true
 rw[shut_obAt]at c ⊢;exact h.kind i g c
theorem R_callDup{s:St}{o d:Nat}:Rw.callDup (Rw.R s) o d=(Rw.R (Sy.callDup s o d).1,(Sy.callDup s o d).2):=by
 unfold Rw.callDup Sy.callDup;rw[Rw.R_free]
 rcases Sy.free s o with _|k
 ·rfl
 dsimp only;refine F3 ?_ rfl
 exact(Rw.R_setFd s o k (some d)).trans (R_setDe_same (Sy.setFd s o k (some d)) d (g:=λx=>{x with refs:=x.refs+1}) λ_=>rfl).symm
theorem J.callDup{s:St}{n:Nat}(hi:Sy.In n s)(h:J s){o k0 d:Nat}(ho:o<4)(hf:Sy.fdAt s o k0=some d):J (Sy.callDup s o d).1:=by
 obtain⟨v,w⟩:=fd_use hi h hf;unfold Sy.callDup
 rcases m:Sy.free s o with _|k
 ·exact h
 dsimp only;obtain⟨p,g⟩:=free_fd hi ho m;have r:=cnt_more (d:=d) hi ho p g;have u:∀e,(Sy.deAt (Sy.setDe (Sy.setFd s o k (some d)) d λx=>{x with refs:=x.refs+1}) e).o=(Sy.deAt s e).o:=λe=>by
  rw[deAt_set];split
  ·rfl
  rfl
 refine⟨λi=> ?_,λe j=> ?_,h.uniq,h.kind⟩
 ·show i∈s.files↔∃e,0<cnt (Sy.setFd s o k (some d)).fds e/\_
  constructor
  ·intro l
   obtain⟨e,a,b⟩:=(h.use i).1 l;exact⟨e,by rw[r];omega,by rw[u];exact b⟩
  rintro⟨e,a,b⟩;rw[u]at b;rw[r]at a
  by_cases c:d=e
  ·subst c;rw[<-b];exact v
  rw[av c]at a;exact(h.use i).2 ⟨e,a,b⟩
 have j:e<s.des.length:=by simpa[Sy.setDe,Sy.setFd]using j
 have t:=h.ref e j
 show _=((cnt (Sy.setFd s o k (some d)).fds e:Nat):Int)
 rw[r,deAt_set]
 by_cases c:d=e
 ·subst c
  rw[aM ⟨rfl,j⟩,aM rfl]
  show(Sy.deAt s d).refs+1=_
  rw[t];rfl
 rw[av (λq=>c q.1),av c]
 exact t
theorem R_callSeek(s:St)(d:Nat)(m:Int):Rw.callSeek (Rw.R s) d m=(Rw.R (Sy.callSeek s d m).1,(Sy.callSeek s d m).2):=by
 unfold Rw.callSeek Sy.callSeek
 split
 ·rfl
 refine F3 ?_ rfl
 exact Rw.R_setDe s d _ _ λ_=>rfl
theorem J.callSeek{s:St}(h:J s)(d:Nat)(m:Int):J (Sy.callSeek s d m).1:=by
 unfold Sy.callSeek
 split
 ·exact h
 exact h.setDe d (λ_=>rfl) (λ_=>rfl)
theorem R_callLock{s:St}(c:Ca){i:Nat}(hm:i∈s.files):Rw.callLock (Rw.R s) c i=(Rw.R (Sy.callLock s c i).1,(Sy.callLock s c i).2):=by
 unfold Rw.callLock Sy.callLock;rw[Rw.R_obAt,aM hm];dsimp only;generalize (if c.kind=15 then Lk.free (Sy.obAt s i).l ⟨c.owner,c.n,c.m,c.alone⟩else Lk.take (Sy.obAt s i).l ⟨c.owner,c.n,c.m,c.alone⟩)=r
 refine F3 ?_ rfl
 by_cases a:r.2=0
 ·rw[aM a,aM a];exact Rw.R_setOb hm _
 rw[av a,av a]
theorem J.callLock{s:St}(h:J s)(c:Ca)(i:Nat):J (Sy.callLock s c i).1:=by
 unfold Sy.callLock;dsimp only;generalize (if c.kind=15 then Lk.free (Sy.obAt s i).l ⟨c.owner,c.n,c.m,c.alone⟩else Lk.take (Sy.obAt s i).l ⟨c.owner,c.n,c.m,c.alone⟩)=r
 split
 ·exact h.setOb i λ_=>rfl
 exact h
theorem R_callRead{s:St}(c:Ca){d:Nat}(hm:(Sy.deAt s d).o∈s.files):Rw.callRead (Rw.R s) c d=(Rw.R (Sy.callRead s c d).1,(Sy.callRead s c d).2):=by
 unfold Rw.callRead Sy.callRead;have e:(Rw.deAt (Rw.R s) d).fl=(Sy.deAt s d).fl:=by rw[Rw.R_deAt];rfl
 have b:(Rw.deAt (Rw.R s) d).o=(Sy.deAt s d).o:=by rw[Rw.R_deAt];rfl
 have a:(Rw.deAt (Rw.R s) d).at_=(Sy.deAt s d).at_:=by rw[Rw.R_deAt];rfl
 rw[e,b,a,Rw.R_textOf hm]
 split
 ·rfl
 split
 ·rfl
 refine F3 ?_ rfl
 exact Rw.R_setDe s d _ _ λ_=>rfl
theorem J.callRead{s:St}(h:J s)(c:Ca)(d:Nat):J (Sy.callRead s c d).1:=by
 unfold Sy.callRead
 split
 ·exact h
 split
 ·exact h
 exact h.setDe d (λ_=>rfl) (λ_=>rfl)
theorem R_put{s:St}{i:Nat}(hm:i∈s.files){x:ByteArray}(hx:x.size<=100):Rw.put (Rw.R s) i x=(Rw.R (Sy.write s i x).1,(Sy.write s i x).2):=by
 unfold Rw.put Sy.write;rw[Rw.R_obAt,aM hm,Rw.R_textOf hm,av (c:=100<x.size) (by omega)]
 have a:(Rw.R s).u=s.u:=rfl;rw[a]
 split
 ·refine F3 ?_ rfl
  exact Rw.R_setOb hm _
 split
 ·rfl
 exact Rw.R_set s _
theorem J.write{s:St}(h:J s)(hok:Sy.Ok s)(i:Nat)(x:ByteArray):J (Sy.write s i x).1:=by
 unfold Sy.write
 split
 ·exact h
 split
 ·exact h.setOb i λ_=>rfl
 split
 ·exact h
 exact h.set hok _
theorem sized_len(t:Bs)(m:Nat):(Sy.sized t m).length=m:=by
 unfold Sy.sized;simp only[bq,bR,rT];omega
theorem R_callWrite{s:St}{n:Nat}(hi:Sy.In n s)(hok:Sy.Ok s)(c:Ca){d:Nat}(hm:(Sy.deAt s d).o∈s.files):Rw.callWrite (Rw.R s) c d=(Rw.R (Sy.callWrite s c d).1,(Sy.callWrite s c d).2):=by
 unfold Rw.callWrite Sy.callWrite;have e:(Rw.deAt (Rw.R s) d).fl=(Sy.deAt s d).fl:=by rw[Rw.R_deAt];rfl
 have h:(Rw.deAt (Rw.R s) d).o=(Sy.deAt s d).o:=by rw[Rw.R_deAt];rfl
 have g:(Rw.deAt (Rw.R s) d).at_=(Sy.deAt s d).at_:=by rw[Rw.R_deAt];rfl
 have b:=hi.textOf hok (Sy.deAt s d).o;have b:(Sy.textOf s (Sy.deAt s d).o).data.toList.length<=100:=by rw[Sy.bsize];exact b
 dsimp only;rw[e,h,g,Rw.R_textOf hm];generalize (Sy.textOf s (Sy.deAt s d).o).data.toList=t at b
 split
 ·rfl
 split
 ·split
  ·rfl
  rename_i h3
  rw[R_put hm (by rw[Sy.bytes_len,sized_len];omega)]
 generalize (if Sy.bit (Sy.deAt s d).fl 2=true then t.length else(Sy.deAt s d).at_.toNat)=a
 split
 ·refine F3 ?_ rfl
  exact Rw.R_setDe s d _ _ λ_=>rfl
 split
 ·rfl
 rename_i h4
 have i:(Sy.bytesOf (List.take a (Sy.sized t (max (a+c.text.data.toList.length) t.length))++c.text.data.toList++List.drop (a+c.text.data.toList.length) (Sy.sized t (max (a+c.text.data.toList.length) t.length)))).size<=100:=by
  rw[Sy.bytes_len];simp only[bq,bR,gM,sized_len];omega
 rw[R_put hm i];dsimp only
 split
 ·rfl
 refine F3 ?_ rfl
 exact Rw.R_setDe _ d _ _ λ_=>rfl
theorem J.callWrite{s:St}(h:J s)(hok:Sy.Ok s)(c:Ca)(d:Nat):J (Sy.callWrite s c d).1:=by
 unfold Sy.callWrite;dsimp only
 split
 ·exact h
 split
 ·split
  ·exact h
  exact h.write hok _ _
 generalize (if Sy.bit (Sy.deAt s d).fl 2=true then(Sy.textOf s (Sy.deAt s d).o).data.toList.length else(Sy.deAt s d).at_.toNat)=a
 split
 ·exact h.setDe d (λ_=>rfl) (λ_=>rfl)
 split
 ·exact h
 split
 ·exact h.write hok _ _
 exact(h.write hok _ _).setDe d (λ_=>rfl) (λ_=>rfl)
theorem R_use{s:St}{n:Nat}(hi:Sy.In n s)(hok:Sy.Ok s)(h:J s)(c:Ca)(h4:c.owner.toNat<4):Rw.use (Rw.R s) c=(Rw.R (Sy.use s c).1,(Sy.use s c).2):=by
 unfold Rw.use Sy.use
 split
 ·rfl
 rename_i hfd
 rw[Rw.R_fdAt]
 rcases b:Sy.fdAt s c.owner.toNat c.fd.toNat with _|d
 ·rfl
 dsimp only;obtain⟨a,g⟩:=fd_use hi h b;have e:(Rw.deAt (Rw.R s) d).o=(Sy.deAt s d).o:=by rw[Rw.R_deAt];rfl
 split
 ·exact R_callClose hi h h4 (by omega) b
 split
 ·exact R_callDup
 split
 ·exact R_callSeek s d _
 split
 ·rw[e];exact R_callLock c a
 split
 ·exact R_callRead c a
 exact R_callWrite hi hok c a
theorem J.use_{s:St}{n:Nat}(hi:Sy.In n s)(hok:Sy.Ok s)(h:J s)(c:Ca)(h4:c.owner.toNat<4):J (Sy.use s c).1:=by
 unfold Sy.use
 split
 ·exact h
 rename_i hfd
 split
 ·exact h
 rename_i d hf
 split
 ·exact J.callClose hi h h4 (by omega) hf
 split
 ·exact J.callDup hi h h4 hf
 split
 ·exact h.callSeek d _
 split
 ·exact h.callLock c _
 split
 ·exact h.callRead c d
 exact h.callWrite hok c d
theorem J.create{s:St}(h:J s)(hok:Sy.Ok s)(c:Ca):J (Sy.create s c).1:=by
 unfold Sy.create;dsimp only
 split
 ·exact h
 split
 ·exact h
 exact h.set hok _
theorem lose_obAt(s:St)(p:Bs)(i:Nat):Sy.obAt (Sy.lose s p) i=if i∈s.files/\(Sy.obAt s i).P=p/\p≠[]/\i<s.obs.length then{Sy.obAt s i with t:=Sy.textOf s i,p:=Sy.noE}else Sy.obAt s i:=by
 unfold Sy.obAt Sy.lose;dsimp only;rw[bi,bi,j5]
 rcases h:s.obs[i]? with _|x
 ·have:=List.getElem?_eq_none_iff.1 h
  simp only[Option.map_none,Option.getD_none];rw[av (by omega)]
 have b:=(List.getElem?_eq_some_iff.1 h).1;simp only[sj,qD]
 by_cases a:i∈s.files/\x.P=p/\p≠[]
 ·rw[aM a,aM ⟨a.1,a.2.1,a.2.2,b⟩]
 rw[av a,av λq=>a ⟨q.1,q.2.1,q.2.2.1⟩]
theorem lose_P(s:St)(p:Bs)(i:Nat):(Sy.obAt (Sy.lose s p) i).P=[]\/(Sy.obAt (Sy.lose s p) i).P=(Sy.obAt s i).P/\Sy.obAt (Sy.lose s p) i=Sy.obAt s i:=by
 rw[lose_obAt]
 split
 ·exact .inl rfl
 exact .inr ⟨rfl,rfl⟩
theorem J.lose{s:St}(h:J s)(p:Bs):J (Sy.lose s p):=by
 refine⟨h.use,h.ref,λi e j k g a=> ?_,λi e a=> ?_⟩
 ·rcases lose_P s p i with b|⟨b,_⟩
  ·exact absurd b a
  rcases lose_P s p j with c|⟨c,_⟩
  ·exact absurd (g.trans c) a
  exact h.uniq i e j k (by rw[<-b,<-c];exact g) (by rw[<-b];exact a)
 rcases lose_P s p i with b|⟨b,_⟩
 ·exact absurd b a
 rw[b];exact h.kind i e (by rw[<-b];exact a)
theorem lose_ne{s:St}{n:Nat}(hi:Sy.In n s){p:Bs}(hp:p≠[]){i:Nat}(hm:i∈s.files):(Sy.obAt (Sy.lose s p) i).P≠p:=by
 rw[lose_obAt]
 split
 ·exact λe=>hp e.symm
 rename_i h
 exact λe=>h ⟨hm,e,hp,hi.fsub i hm⟩
theorem R_gone{s:St}{p:Bs}(hp:p≠[]):Rw.gone (Rw.R s) p=Rw.R (Sy.lose s p):=by
 unfold Rw.gone Sy.lose
 show(⟨s.u,s.T,_,s.des.map Rw.strip,s.fds⟩:Rw)=⟨s.u,s.T,_,s.des.map Rw.strip,s.fds⟩
 congr 1
 apply lv
 intro k;simp only[Rw.R,j5]
 rcases e:s.obs[k]? with _|x
 ·rfl
 simp only[sj,ze]
 by_cases a:k∈s.files
 ·rw[aM a,aM a]
  have c:=Rw.R_textOf (s:=s) a
  by_cases b:x.P=p
  ·rw[aM b,aM ⟨a,b,hp⟩]
   show(⟨_,Rw.textOf (Rw.R s) k,_⟩:Ob)=_
   rw[c]
  rw[av b,av λq=>b q.2.1]
 rw[av a,av a,av];exact λq=>hp q.symm
theorem set_rem{s:St}(hok:Sy.Ok s){p:Bs}(h0:(removeU s.u p).2=0):p≠[]/\(Sy.set s (removeU s.u p)).1.T=without s.T p:=by
 have ha:=removeU_tree hok.1 p;obtain⟨_,_,b,g⟩:=ha.2 h0;have h:(seenU s.u).1=s.T:=hok.T;rw[h]at b g;have a:removeErr s.T p=0:=by
  unfold Tr.remove at b
  by_cases q:removeErr s.T p=0
  ·exact q
  rw[aM q]at b;exact absurd b q
 constructor
 ·intro e
  unfold removeErr at a
  by_cases c:(wrong s.T false).1=0
  ·rw[av (by simp[c]),aM (.inl e)]at a
   exact absurd a (show¬(6:Int)=0 by decide)
  rw[aM c]at a;exact absurd a c
 unfold Sy.set;rw[av (by simp[h0]),g]
 show(Tr.remove s.T p).1=_
 unfold Tr.remove;rw[av (by simp[a])]
theorem J.gone_set{s:St}{n:Nat}(hi:Sy.In n s)(hok:Sy.Ok s)(h:J s){p:Bs}(h0:(removeU s.u p).2=0):J (Sy.set (Sy.lose s p) (removeU s.u p)).1:=by
 obtain⟨r,t⟩:=set_rem hok h0;have l:=h.lose p;have m:(Sy.set (Sy.lose s p) (removeU s.u p)).1.T=without s.T p:=by
  rw[<-t];unfold Sy.set;rw[av (by simp[h0]),av (by simp[h0])]
 have e:=Sy.set_keeps (Sy.lose s p) (removeU s.u p);have c:∀i,Sy.obAt (Sy.set (Sy.lose s p) (removeU s.u p)).1 i=Sy.obAt (Sy.lose s p) i:=λi=>by unfold Sy.obAt;rw[e.1]
 have k:∀i,Sy.deAt (Sy.set (Sy.lose s p) (removeU s.u p)).1 i=Sy.deAt (Sy.lose s p) i:=λi=>by unfold Sy.deAt;rw[e.2.1]
 refine⟨λi=> ?_,λd o=> ?_,λi a j g q b=> ?_,λi a b=> ?_⟩
 ·rw[e.2.2.2,e.2.2.1]
  simp only[k];exact l.use i
 ·rw[k,e.2.2.1]
  exact l.ref d (by rw[e.2.1]at o;exact o)
 ·rw[e.2.2.2]at a g
  rw[c,c]at q;rw[c]at b;exact l.uniq i a j g q b
 rw[e.2.2.2]at a;rw[c]at b ⊢;rw[m,get_without_other (Sy.okR hok).2.1 (lose_ne hi r a)];exact l.kind i a b
theorem R_remove{s:St}(c:Ca):Rw.remove (Rw.R s) c=(Rw.R (Sy.remove s c).1,(Sy.remove s c).2):=by
 unfold Rw.remove Sy.remove;have b:(Rw.R s).T=s.T:=rfl;have a:(Rw.R s).u=s.u:=rfl;rw[b,a];dsimp only
 split
 ·rfl
 rcases get s.T (Sy.find s.T c.path false).1 with _|e
 ·rfl
 dsimp only
 split
 ·rfl
 split
 ·rfl
 split
 ·rfl
 rename_i hp
 split
 ·rfl
 rw[R_gone hp,Rw.R_set]
theorem J.remove{s:St}{n:Nat}(hi:Sy.In n s)(hok:Sy.Ok s)(h:J s)(c:Ca):J (Sy.remove s c).1:=by
 unfold Sy.remove;dsimp only
 split
 ·exact h
 split
 ·exact h
 split
 ·exact h
 split
 ·exact h
 split
 ·exact h
 split
 ·exact h
 rename_i h0
 exact J.gone_set hi hok h (by simpa using h0)
end RwL
namespace RwL
open Pt Tr
theorem under_nil{a:Bs}(ha:a≠[]):under [] a=false:=by
 rcases h:under [] a with _|_
 ·rfl
 obtain⟨r,e⟩:=(under_iff ha).1 h;have:=om List.length e;simp at this
theorem ren_nil{a b:Bs}(ha:a≠[]):ren a b []=[]:=by
 unfold ren;rw[av (λe=>ha e.symm),av (by rw[under_nil ha];decide)]
theorem ren_eq{a b q:Bs}:ren a b q=if q=a\/under q a=true then b++q.drop a.length else q:=by
 unfold ren
 by_cases e:q=a
 ·subst e
  rw[aM rfl,aM (.inl rfl),oF,ky]
 rw[av e]
 by_cases c:under q a=true
 ·rw[aM c,aM (.inr c)]
 rw[av c,av (by simp[e,c])]
theorem follow_P{s:St}{n:Nat}(hi:Sy.In n s){a b:Bs}(ha:a≠[]){i:Nat}(hm:i∈s.files):(Sy.obAt (Sy.follow s a b) i).P=ren a b (Sy.obAt s i).P:=by
 have j:=hi.fsub i hm;unfold Sy.obAt Sy.follow;dsimp only;rw[bi,bi,j5,bA j];simp only[sj,qD];generalize s.obs[i]=o;rw[ren_eq]
 by_cases g:o.P=[]
 ·rw[g,av,av,g]
  ·rintro(e|e)
   ·exact ha e.symm
   rw[under_nil ha]at e;cases e
  rintro⟨_,e|e⟩
  ·exact ha e.symm
  exact e.2 rfl
 by_cases c:o.P=a\/under o.P a=true
 ·rw[aM ⟨hm,c.imp id λh=>⟨h,g⟩⟩,aM c]
  unfold Ob.P Sy.bytesOf;simp
 rw[av λq=>c (q.2.imp id λh=>h.1),av c]
theorem R_follow{s:St}{a:Bs}(ha:a≠[])(b:Bs):Rw.follow (Rw.R s) a b=Rw.R (Sy.follow s a b):=by
 unfold Rw.follow Sy.follow
 show(⟨s.u,s.T,_,s.des.map Rw.strip,s.fds⟩:Rw)=⟨s.u,s.T,_,s.des.map Rw.strip,s.fds⟩
 congr 1
 apply lv
 intro k;simp only[Rw.R,pE,j5]
 rcases e:s.obs[k]? with _|o
 ·rfl
 simp only[sj,ze]
 by_cases c:k∈s.files
 ·rw[aM c,aM c]
  by_cases g:o.P=[]
  ·rw[av,av]
   ·rintro⟨_,e|e⟩
    ·exact ha (e.symm.trans g)
    exact e.2 g
   rintro(e|e)
   ·exact ha (e.symm.trans g)
   rw[g,under_nil ha]at e;cases e
  by_cases i:o.P=a\/under o.P a=true
  ·rw[aM i,aM ⟨c,i.imp id λh=>⟨h,g⟩⟩]
  rw[av i,av λq=>i (q.2.imp id λh=>h.1)]
 rw[av c,av c,av];rintro(e|e)
 ·exact ha e.symm
 have e:under [] a=true:=e;rw[under_nil ha]at e;cases e
theorem R_rename{s:St}(c:Ca):Rw.rename (Rw.R s) c=(Rw.R (Sy.rename s c).1,(Sy.rename s c).2):=by
 unfold Rw.rename Sy.rename;have g:(Rw.R s).T=s.T:=rfl;have b:(Rw.R s).u=s.u:=rfl;rw[g,b];dsimp only
 split
 ·rfl
 split
 ·rfl
 split
 ·rfl
 rename_i hne
 split
 ·rfl
 have ha:(Sy.find s.T c.path false).1≠[]:=λe=>hne (.inl e)
 have h:(Sy.find s.T c.to false).1≠[]:=λe=>hne (.inr e)
 by_cases a:(Sy.find s.T c.path false).1≠(Sy.find s.T c.to false).1
 ·rw[aM a,aM a,R_gone h,R_follow ha,Rw.R_set]
 rw[av a,av a,R_follow ha,Rw.R_set]
theorem J.moved{s s0:St}{n:Nat}(hi:Sy.In n s)(hok:Sy.Ok s0)(hT:s.T=s0.T)(h:J s){a b:Bs}(ha:a≠[])(hb:a≠b->∀i∈s.files,(Sy.obAt s i).P≠b)(h0:(moveU s0.u a b).2=0):J (Sy.set (Sy.follow s a b) (moveU s0.u a b)).1:=by
 have hm:=moveU_tree hok.1 a b;obtain⟨_,_,H,V⟩:=hm.2 h0;have Q:(seenU s0.u).1=s.T:=by rw[hok.T,hT]
 rw[Q]at H V;have D:moveErr s.T a b=0:=by
  unfold Tr.move at H
  by_cases q:moveErr s.T a b=0
  ·exact q
  rw[aM q]at H;exact absurd H q
 obtain⟨_,Y,I,_,K⟩:=move_ok D;have N:(Sy.set (Sy.follow s a b) (moveU s0.u a b)).1.T=sortL (movedL s.T a b):=by
  unfold Sy.set;rw[av (by simp[h0]),V,K]
 have z:=Sy.set_keeps (Sy.follow s a b) (moveU s0.u a b);have m:∀i∈s.files,(Sy.obAt (Sy.set (Sy.follow s a b) (moveU s0.u a b)).1 i).P=ren a b (Sy.obAt s i).P:=λi c=>by
  have:Sy.obAt (Sy.set (Sy.follow s a b) (moveU s0.u a b)).1 i=Sy.obAt (Sy.follow s a b) i:=by unfold Sy.obAt;rw[z.1]
  rw[this,follow_P hi ha c]
 have A:∀i,Sy.deAt (Sy.set (Sy.follow s a b) (moveU s0.u a b)).1 i=Sy.deAt s i:=λi=>by unfold Sy.deAt;rw[z.2.1];rfl
 have o:(Sy.set (Sy.follow s a b) (moveU s0.u a b)).1.files=s.files:=z.2.2.2;have B:(Sy.set (Sy.follow s a b) (moveU s0.u a b)).1.fds=s.fds:=z.2.2.1;have O:(Sy.set (Sy.follow s a b) (moveU s0.u a b)).1.des=s.des:=z.2.1;have L:∀i∈s.files,(Sy.obAt s i).P≠[]->∃x∈s.T,x.P=(Sy.obAt s i).P/\stays a b x=true/\get s.T (Sy.obAt s i).P=some x:=λi c g=>by
  have:=h.kind i c g
  rcases G:get s.T (Sy.obAt s i).P with _|x
  ·rw[G]at this;cases this
  obtain⟨r,F⟩:=(get_iff Y.2.1 g).1 G;refine⟨x,r,F,stays_iff.2 ?_,rfl⟩
  by_cases v:a=b
  ·by_cases E:x.P=a
   ·exact .inl (.inl E)
   exact .inr λe=>E (e.trans v.symm)
  exact .inr λe=>hb v i c (F.symm.trans e)
 have l:∀i∈s.files,ren a b (Sy.obAt s i).P≠[]->(Sy.obAt s i).P≠[]:=λi _ g e=>g (by rw[e];exact ren_nil ha)
 refine⟨λi=> ?_,λd U=> ?_,λi c j k S g=> ?_,λi c g=> ?_⟩
 ·rw[o,B]
  simp only[A];exact h.use i
 ·rw[A,B]
  exact h.ref d (by rw[O]at U;exact U)
 ·rw[o]at c k
  rw[m i c,m j k]at S;rw[m i c]at g;have r:=l i c g;have F:=l j k (by rw[<-S];exact g)
  obtain⟨x,W,p,w,_⟩:=L i c r;obtain⟨y,Z,t,M,_⟩:=L j k F;have:=ren_inj Y I W Z w M (by rw[p,t];exact S)
  exact h.uniq i c j k (by rw[<-p,<-t];exact this) r
 rw[o]at c;rw[m i c]at g ⊢;have r:=l i c g;obtain⟨x,W,p,w,G⟩:=L i c r;rw[N,move_get D (λq=>hb q.2 i c q.1) G]
 rfl
theorem J.rename{s:St}{n:Nat}(hi:Sy.In n s)(hok:Sy.Ok s)(h:J s)(c:Ca):J (Sy.rename s c).1:=by
 unfold Sy.rename;dsimp only
 split
 ·exact h
 split
 ·exact h
 split
 ·exact h
 rename_i hne
 split
 ·exact h
 rename_i h0
 have ha:(Sy.find s.T c.path false).1≠[]:=λe=>hne (.inl e)
 have g:(Sy.find s.T c.to false).1≠[]:=λe=>hne (.inr e)
 by_cases a:(Sy.find s.T c.path false).1≠(Sy.find s.T c.to false).1
 ·rw[aM a]
  exact J.moved (s0:=s) (hi.lose hok _) hok rfl (h.lose _) ha (λ_ i b=>lose_ne hi g b) (by simpa using h0)
 rw[av a];exact J.moved (s0:=s) hi hok rfl h ha (λq=>absurd q a) (by simpa using h0)
theorem R_call{s:St}{n:Nat}(hi:Sy.In n s)(hok:Sy.Ok s)(h:J s)(c:Ca):Rw.call (Rw.R s) c=(Rw.R (Sy.call s c).1,(Sy.call s c).2):=by
 unfold Rw.call Sy.call
 split
 ·rfl
 split
 ·rfl
 rename_i ho
 have a:c.owner.toNat<4:=by omega
 split
 ·exact R_callOpen hi hok h c
 split
 ·exact Rw.R_create s c
 split
 ·exact R_remove c
 split
 ·exact R_rename c
 split
 ·rfl
 exact R_use hi hok h c a
theorem J.call{s:St}{n:Nat}(hi:Sy.In n s)(hok:Sy.Ok s)(h:J s)(c:Ca):J (Sy.call s c).1:=by
 unfold Sy.call
 split
 ·exact h
 split
 ·exact h
 rename_i ho
 have a:c.owner.toNat<4:=by omega
 split
 ·exact J.callOpen hi hok h c a
 split
 ·exact h.create hok c
 split
 ·exact J.remove hi hok h c
 split
 ·exact J.rename hi hok h c
 split
 ·exact h
 exact J.use_ hi hok h c a
theorem R_calls:∀{l:List Ca} {s:St} {n:Nat},Sy.In n s->Sy.Ok s->J s->Rw.calls (Rw.R s) l=(Rw.R (Sy.calls s l).1,(Sy.calls s l).2)/\J (Sy.calls s l).1/\Sy.In (n+l.length) (Sy.calls s l).1
 |[],_,_,hi,_,h=>⟨rfl,h,hi⟩
 |c::r,s,n,hi,hok,h=>by
  have hc:=R_call hi hok h c;obtain⟨a,b,g⟩:=R_calls (l:=r) (hi.call hok c) (Sy.call_good hok c).1 (J.call hi hok h c);refine⟨?_,b,by
            have e:n+(c::r).length=n+1+r.length:=by rw[gL];omega
            rw[e];exact g⟩
  show((Rw.calls (Rw.call (Rw.R s) c).1 r).1,(Rw.call (Rw.R s) c).2::(Rw.calls (Rw.call (Rw.R s) c).1 r).2)=_
  rw[hc];dsimp only;rw[a]
  rfl
theorem countP_mem{l:List Nat}(hn:l.Nodup){n:Nat}(hl:∀i∈l,i<n):(List.range n).countP (λi=>decide (i∈l))=l.length:=by
 rw[List.countP_eq_length_filter];refine List.Perm.length_eq (List.perm_iff_count.2 λa=> ?_)
 rw[List.Nodup.count hn,List.Nodup.count (Cx _ List.nodup_range)];simp only[il,Ga,mI]
 by_cases h:a∈l
 ·rw[aM h,aM ⟨hl a h,h⟩]
 rw[av h,av λq=>h q.2]
end RwL
end Go.Proofs.YtjppfhgkanbemabGreatDoor
