/- A part of the proof of SysTells: SB. -/
import Derived.Test.YtjppfhgkanbemabGreatDoorMB
import Derived.Test.YtjppfhgkanbemabGreatDoorMA
import Derived.Test.YtjppfhgkanbemabGreatDoorUA
import Derived.Lib.AppendZeros
import Derived.Test.YtjppfhgkanbemabGreatDoorMC
import Derived.LaidEql
set_option maxHeartbeats 8000000
set_option maxRecDepth 100000
set_option linter.all false
namespace Go.Proofs.YtjppfhgkanbemabGreatDoor
open Tryz
open Go.RowKit
def ptr(g:Nat):Value:= .pointer g
def sN(D:List Nat):Option Nat->Value
 |none=> .pointer none
 |some d=>ptr (D.getD d 0)
namespace Sy
open Tryz
def bW(D:List Nat)(fds:List (List (Option Nat))):List Value:=fds.flatMap λr=>r.map (sN D)
theorem Ry{D:List Nat}{m:Nat}:∀{fds:List (List (Option Nat))},(∀r∈fds,r.length=m)->(bW D fds).length=fds.length*m
 |[],_=>by simp[bW]
 |r::t,h=>by
  have h1:=Ry (D:=D) (fds:=t) λx b=>h x (oo _ b)
  have a:=h r (tF ..);unfold bW at h1 ⊢;rw[sI,bq,h1,ib,a,gL];rw[FL];omega
theorem Rz{D:List Nat}{m:Nat}:∀{fds:List (List (Option Nat))},(∀r∈fds,r.length=m)->∀{o k:Nat},o<fds.length->k<m->(bW D fds)[o*m+k]? =some (sN D ((fds.getD o []).getD k none))
 |[],_,_,_,ho,_=>absurd ho (l5 _)
 |r::t,h,0,k,_,hk=>by
  have h2:=h r (tF ..);unfold bW;rw[sI,FR,mE,l6 (by rw[ib];omega),pE]
  show Option.map _ r[k]? =some (sN D (r.getD k none))
  rw[bi,bA (by omega)];rfl
 |r::t,h,o+1,k,ho,hk=>by
  have a:=Rz (D:=D) (fds:=t) (λx b=>h x (oo _ b)) (o:=o) (k:=k) (by simpa using ho) hk
  have h2:=h r (tF ..);unfold bW at a ⊢;rw[sI,kr (by rw[ib,FL];omega),ib,h2]
  have e:(o+1)*m+k-m=o*m+k:=by rw[FL];omega
  rw[e,a];rfl
theorem RD{D:List Nat}{m:Nat}(v:Option Nat):∀{fds:List (List (Option Nat))},(∀r∈fds,r.length=m)->∀{o k:Nat},o<fds.length->k<m->(bW D fds).set (o*m+k) (sN D v)=bW D (fds.modify o λr=>r.set k v)
 |[],_,_,_,ho,_=>absurd ho (l5 _)
 |r::t,h,0,k,_,hk=>by
  have h2:=h r (tF ..);unfold bW;rw[sI,FR,mE,List.set_append_left _ _ (by rw[ib];omega),<-List.map_set]
  show _=List.flatMap _ (r.set k v::t)
  rw[sI]
 |r::t,h,o+1,k,ho,hk=>by
  have a:=RD (D:=D) v (fds:=t) (λx b=>h x (oo _ b)) (o:=o) (k:=k) (by simpa using ho) hk
  have h2:=h r (tF ..);unfold bW at a ⊢;rw[sI,List.set_append_right _ _ (by rw[ib,FL];omega),ib,h2]
  have e:(o+1)*m+k-m=o*m+k:=by rw[FL];omega
  rw[e,a]
  show _=List.flatMap _ (r::t.modify o λr=>r.set k v)
  rw[sI]
theorem UT{D D':List Nat}{fds:List (List (Option Nat))}(h:∀r∈fds,∀d,some d∈r->d<D.length):bW (D++D') fds=bW D fds:=by
 induction fds with
 |nil=>rfl
 |cons r t ih=>
 unfold bW at ih ⊢;rw[sI,sI,ih λx a=>h x (oo _ a)]
 refine om (·++_) (List.map_congr_left λx a=> ?_)
 have b:r∈r::t:=tF ..
 cases x with
 |none=>rfl
 |some d=>
  have:=h r b d a
  show ptr ((D++D').getD d 0)=ptr (D.getD d 0)
  rw[bi,l6 this,bi]
theorem Dl{F:List Nat}(h:F.Nodup){i j:Nat}(hi:i<F.length)(hj:j<F.length)(e:F.getD i 0=F.getD j 0):i=j:=by
 have a:F.getD i 0=F[i]:=by simp[bi,hi]
 have b:F.getD j 0=F[j]:=by simp[bi,hj]
 rw[a,b]at e;exact(List.getElem_inj h).1 e
theorem getD_mem{F:List Nat}{i:Nat}(hi:i<F.length):F.getD i 0∈F:=by
 have a:F.getD i 0=F[i]:=by simp[bi,hi]
 rw[a];exact cz hi
theorem zB{F G:List Nat}{i:Nat}(hi:i<F.length):(F++G).getD i 0=F.getD i 0:=by
 rw[bi,l6 hi,bi]
theorem uz(F:List Nat)(g:Nat):(F++[g]).getD F.length 0=g:=by
 rw[bi,kr aR,Bb];rfl
end Sy
open Go.RowKit Go.Shelf Go.Sort
structure Fr(X:Nat->Prop)(w w':World):Prop where
 os:w'.os=w.os
 tape:w'.tape=w.tape
 output:w'.output=w.output
 size:w.heap.size<=w'.heap.size
 block:∀k,k<w.heap.size->¬X k->w'.heap[k]? =w.heap[k]?
theorem Fr.refl(X:Nat->Prop)(w:World):Fr X w w:=⟨rfl,rfl,rfl,aR,λ_ _ _=>rfl⟩
theorem Fr.of{X:Nat->Prop}{w w':World}(h:Below w w w'):Fr X w w':=⟨h.os,h.tape,h.output,h.size,λk a _=>h.block k a⟩
def Sub(w:World)(Y X:Nat->Prop):Prop:=∀k,k<w.heap.size->Y k->X k
theorem Sub.refl(w:World)(X:Nat->Prop):Sub w X X:=λ_ _ h=>h
theorem Fr.trans{X Y:Nat->Prop}{a b c:World}(h:Fr X a b)(k:Fr Y b c)(hs:Sub a Y X):Fr X a c:=
 ⟨k.os.trans h.os,k.tape.trans h.tape,k.output.trans h.output,eT h.size k.size,λi e g=>(k.block i (bE e h.size) λj=>g (hs i e j)).trans (h.block i e g)⟩
theorem Fr.set{X:Nat->Prop}(w:World){p:Addr}(hp:X p.block)(u:Value):Fr X w (w.setCell p u):=
 ⟨rfl,rfl,rfl,by simp,λk _ a=>mh w p u k λe=>a (e▸hp)⟩
theorem Fr.alloc(X:Nat->Prop)(w:World)(o:Obj):Fr X w (w.alloc o):=Fr.of ((aa _ w).alloc aR o)
theorem Fr.below{X:Nat->Prop}{w w':World}(h:Fr X w w'){B:Nat}(hB:B<=w.heap.size)(hx:∀k,X k->B<=k):Below B w w':=
 ⟨h.os,h.tape,h.output,h.size,λk b=>h.block k (by omega) λa=>by have:=hx k a;omega⟩
theorem Fr.grown{X:Nat->Prop}{w w':World}{row:Option Nat}(h:w.grownBy w' row)(hr:∀k,row=some k->X k):Fr X w w':=
 ⟨h.os,h.tape,h.output,h.size,λk a b=>h.block k a λe=>b (hr k e.symm)⟩
theorem Fr.wide{X Y:Nat->Prop}{w w':World}(h:Fr Y w w')(hs:Sub w Y X):Fr X w w':=⟨h.os,h.tape,h.output,h.size,λk a b=>h.block k a λc=>b (hs k a c)⟩
theorem ai.fr{X:Nat->Prop}{w w':World}{g:Nat}{t:TypeId}{cs:List Value}(h:ai w g t cs)(hf:Fr X w w')(hg:¬X g):ai w' g t cs:=(hf.block g h.lt hg).trans h
theorem jJ{X:Nat->Prop}{w w':World}{base:Nat}{e:TypeId}{size n:Nat}{v:Value}{xs:List Value}(h:w.ownsRow base e size v n xs)(hf:Fr X w w')(hx:∀k,v.ownBlock=some k->¬X k):w'.ownsRow base e size v n xs:=by
 have b:=λk l=>(h.lt k l).2
 obtain⟨j,o|⟨g,c,a,i,p,m,r,q⟩⟩:=h
 ·exact⟨j,.inl o⟩
 have e:v.ownBlock=some g:=by rw[i];rfl
 exact⟨j,.inr ⟨g,c,a,i,p,(hf.block g (b g e) (hx g e)).trans m,r,q⟩⟩
def Off(X:Nat->Prop)(w:World)(P:World->Prop):Prop:=∀w':World,w.heap.size<=w'.heap.size->(∀k,k<w.heap.size->¬X k->w'.heap[k]? =w.heap[k]?)->P w'
theorem Off.here{X:Nat->Prop}{w:World}{P:World->Prop}(h:Off X w P):P w:=h w aR λ_ _ _=>rfl
theorem Off.on{X Y:Nat->Prop}{w w':World}{P:World->Prop}(h:Off X w P)(hf:Fr X w w')(hs:Sub w Y X):Off Y w' P:=λi g c=>
 h i (eT hf.size g) λk a b=>(c k (bE a hf.size) λe=>b (hs k a e)).trans (hf.block k a b)
theorem Off.imp{X:Nat->Prop}{w:World}{P Q:World->Prop}(h:Off X w P)(hpq:∀w,P w->Q w):Off X w Q:=λa b c=>hpq a (h a b c)
theorem Off.always{X:Nat->Prop}{w:World}{P:World->Prop}(h:∀w,P w):Off X w P:=λa _ _=>h a
theorem gZ.off{lo:Nat}{w:World}{A A':Option Addr}{c c':Nat}{u:Un}(h:gZ lo w A A' c c' u){X:Nat->Prop}(hx:∀k,X k->k<lo):Off X w λw=>bT w w A A' c c' u:=
 λb g e=>h b g λk j a=>e k a λi=>by have:=hx k i;omega
theorem XK{w:World}{lo size n:Nat}{A:Option Addr}{xs:List Value}(h:Rd w w size A n xs)(hlo:0<n->∀a,A=some a->lo<=a.block){X:Nat->Prop}(hx:∀k,X k->k<lo):Off X w λw=>Rd w w size A n xs:=
 λi e c=>Ej (lo:=lo) h hlo e λk j b=>c k b λg=>by have:=hx k g;omega
theorem xR{w:World}{lo:Nat}{e:TypeId}{size n:Nat}{v:Value}{xs:List Value}(h:w.ownsRow lo e size v n xs){X:Nat->Prop}(hx:∀k,X k->k<lo):∃A c,v= .slice A n c/\n<=c/\Off X w λw=>Rd w w size A n xs:=by
 have l:=λk j=>(h.lt k j).1
 rcases aB h with⟨rfl,rfl⟩|⟨g,i,rfl,o,m,p⟩
 ·have b:xs=[]:=by have:=h.1;simpa using this
  subst b;exact⟨none,0,rfl,aR,Off.always λ_=>Rd.nil⟩
 exact⟨_,i,rfl,p,XK (lo:=lo) (Rd.iK h) (λ_ a ha=>by injection ha with ha;subst ha;exact o) hx⟩
def Ca.cells(c:Ca):List Value:=[.int .i64 c.kind,.int .i64 c.owner,.int .i64 c.fd,.int .i64 c.n,.int .i64 c.m,.string c.path,.string c.to,.string c.text,.bool c.alone]
def lu(w:World)(b o:Nat)(c:Ca):Prop:=
 b<w/\w.cell? ⟨b,o,none⟩=some (.int .i64 c.kind)/\w.cell? ⟨b,o+1,none⟩=some (.int .i64 c.owner)/\w.cell? ⟨b,o+2,none⟩=some (.int .i64 c.fd)/\w.cell? ⟨b,o+3,none⟩=some (.int .i64 c.n)/\w.cell? ⟨b,o+4,none⟩=some (.int .i64 c.m)/\
  w.cell? ⟨b,o+5,none⟩=some (.string c.path)/\w.cell? ⟨b,o+6,none⟩=some (.string c.to)/\w.cell? ⟨b,o+7,none⟩=some (.string c.text)/\w.cell? ⟨b,o+8,none⟩=some (.bool c.alone)
theorem lu.fr{X:Nat->Prop}{w w':World}{b o:Nat}{c:Ca}(h:lu w b o c)(hf:Fr X w w')(hb:¬X b):lu w' b o c:=by
 obtain⟨e,n,l,r,m,q,g,p,k,j⟩:=h;have a:∀i,w'.cell? ⟨b,i,none⟩=w.cell? ⟨b,i,none⟩:=λi=>lc (hf.block b e hb)
 exact⟨bE e hf.size,(a _).trans n,(a _).trans l,(a _).trans r,(a _).trans m,(a _).trans q,(a _).trans g,(a _).trans p,(a _).trans k,(a _).trans j⟩
theorem lu.below{w w':World}{b o:Nat}{c:Ca}(h:lu w b o c)(hb:Below w w w'):lu w' b o c:=h.fr (X:=λ_=>False) (Fr.of hb) id
structure Pl where
 gs:Nat
 F:List Nat
 D:List Nat
 v:Value
 e:Nat->Prop
def Pl.C(p:Pl)(k:Nat):Prop:=k=p.gs\/k∈p.F\/k∈p.D\/p.v.ownBlock=some k
def Pl.X(p:Pl)(k:Nat):Prop:=p.C k\/p.e k
def Pl.f(p:Pl)(i:Nat):Nat:=p.F.getD i 0
def Pl.d(p:Pl)(i:Nat):Nat:=p.D.getD i 0
theorem Pl.cx{p:Pl}{k:Nat}(h:p.C k):p.X k:= .inl h
def Wx(w:World)(p:Pl)(s:St)(v:Value)(D:List Nat):Prop:=∃AU AL AT cU cL cT,ai w p.gs 71 (.slice AU s.u.U.length cU:: .slice AL s.u.L.length cL:: .slice AT s.T.length cT::v::Sy.bW D s.fds)/\Off p.X w (λw=>bT w w AU AL cU cL s.u)/\Off p.X w (λw=>aC w w AT s.T)/\s.T.length<=cT
def XL(w:World)(X:Nat->Prop)(g:Nat)(o:Ob):Prop:=∃A c,ai w g 149 [o.p,o.t,.slice A o.l.length c]/\Off X w (λw=>dJ w w A o.l)/\o.l.length<=c
def J_(w:World)(g:Nat)(F:List Nat)(d:De):Prop:=ai w g 147 [ptr (F.getD d.o 0),d.fl,d.at_,d.refs]
structure aQ(w:World)(p:Pl)(s:St):Prop where
 box:Wx w p s p.v p.D
 files:w.ownsRow 0 144 1 p.v s.files.length (s.files.map λi=>ptr (p.f i))
 fl:p.F.length=s.obs.length
 dl:p.D.length=s.des.length
 ob:∀i,i<s.obs.length->XL w p.X (p.f i) (Sy.obAt s i)
 de:∀d,d<s.des.length->J_ w (p.d d) p.F (Sy.deAt s d)
 fn:p.F.Nodup
 dn:p.D.Nodup
 ce:∀k,p.C k->¬p.e k
 el:∀k,p.e k->k<w.heap.size
theorem ai.ty{w:World}{g:Nat}{t t':TypeId}{cs cs':List Value}(h:ai w g t cs)(k:ai w g t' cs'):t=t':=by
 unfold ai at h k;rw[h]at k;injection k with k
 injection k
theorem ai.ne{w:World}{g g':Nat}{t t':TypeId}{cs cs':List Value}(h:ai w g t cs)(k:ai w g' t' cs')(ht:t≠t'):g≠g':=λe=>ht (by subst e;exact h.ty k)
theorem iG{w:World}{base:Nat}{e t:TypeId}{size n:Nat}{v:Value}{xs cs:List Value}{g:Nat}(h:w.ownsRow base e size v n xs)(hg:ai w g t cs)(ht:t≠e):v.ownBlock≠some g:=by
 obtain⟨_,⟨rfl,_⟩|⟨b,k,c,rfl,_,j,_⟩⟩:=h
 ·intro e;cases e
 intro e;injection e with e
 have e:b=g:=e;subst e;unfold ai at hg;have a:=j.symm.trans hg;injection a with a
 injection a with _ i
 exact ht i.symm
namespace aQ
open Tryz
variable {w w':World} {p:Pl} {s:St} {Y:Nat->Prop}
theorem aaj(h:aQ w p s){i:Nat}(hi:i<s.obs.length):p.f i∈p.F:=Sy.getD_mem (by rw[h.fl];exact hi)
theorem aak(h:aQ w p s){d:Nat}(hd:d<s.des.length):p.d d∈p.D:=Sy.getD_mem (by rw[h.dl];exact hd)
theorem aal(h:aQ w p s){k:Nat}(hk:k∈p.F):∃i,i<s.obs.length/\p.f i=k:=by
 obtain⟨i,a,rfl⟩:=List.mem_iff_getElem.1 hk;refine⟨i,by rw[<-h.fl];exact a,?_⟩
 unfold Pl.f;simp[bi,a]
theorem aam(h:aQ w p s){k:Nat}(hk:k∈p.D):∃i,i<s.des.length/\p.d i=k:=by
 obtain⟨i,a,rfl⟩:=List.mem_iff_getElem.1 hk;refine⟨i,by rw[<-h.dl];exact a,?_⟩
 unfold Pl.d;simp[bi,a]
theorem blk(h:aQ w p s):∃cs,ai w p.gs 71 cs:=by
 obtain⟨_,_,_,_,_,_,a,_⟩:=h.box;exact⟨_,a⟩
theorem G5(h:aQ w p s){i:Nat}(hi:i<s.obs.length):∃cs,ai w (p.f i) 149 cs:=by
 obtain⟨_,_,a,_⟩:=h.ob i hi;exact⟨_,a⟩
theorem Ko(h:aQ w p s){i:Nat}(hi:i<s.obs.length):p.gs≠p.f i:=by
 obtain⟨_,a⟩:=h.blk;obtain⟨_,b⟩:=h.G5 hi;exact a.ne b (by decide)
theorem OX(h:aQ w p s){i:Nat}(hi:i<s.des.length):p.gs≠p.d i:=by
 obtain⟨_,a⟩:=h.blk;exact a.ne (h.de i hi) (by decide)
theorem f_d(h:aQ w p s){i d:Nat}(hi:i<s.obs.length)(hd:d<s.des.length):p.f i≠p.d d:=by
 obtain⟨_,b⟩:=h.G5 hi;exact b.ne (h.de d hd) (by decide)
theorem RF(h:aQ w p s):p.v.ownBlock≠some p.gs:=by
 obtain⟨_,a⟩:=h.blk;exact iG h.files a (by decide)
theorem v_f(h:aQ w p s){i:Nat}(hi:i<s.obs.length):p.v.ownBlock≠some (p.f i):=by
 obtain⟨_,b⟩:=h.G5 hi;exact iG h.files b (by decide)
theorem v_d(h:aQ w p s){i:Nat}(hi:i<s.des.length):p.v.ownBlock≠some (p.d i):=iG h.files (h.de i hi) (by decide)
theorem RG(h:aQ w p s){i j:Nat}(hi:i<s.obs.length)(hj:j<s.obs.length)(e:p.f i=p.f j):i=j:=Sy.Dl h.fn (by rw[h.fl];exact hi) (by rw[h.fl];exact hj) e
theorem aan(h:aQ w p s){i j:Nat}(hi:i<s.des.length)(hj:j<s.des.length)(e:p.d i=p.d j):i=j:=Sy.Dl h.dn (by rw[h.dl];exact hi) (by rw[h.dl];exact hj) e
theorem jq(_:aQ w p s):p.C p.gs:= .inl rfl
theorem Fe(h:aQ w p s){i:Nat}(hi:i<s.obs.length):p.C (p.f i):= .inr (.inl (h.aaj hi))
theorem Kq(h:aQ w p s){i:Nat}(hi:i<s.des.length):p.C (p.d i):= .inr (.inr (.inl (h.aak hi)))
theorem bz(h:aQ w p s){k:Nat}(hk:p.C k):k<w:=by
 rcases hk with rfl|hk|hk|hk
 ·obtain⟨_,c⟩:=h.blk;exact c.lt
 ·obtain⟨i,a,rfl⟩:=h.aal hk
  obtain⟨_,b⟩:=h.G5 a;exact b.lt
 ·obtain⟨i,a,rfl⟩:=h.aam hk
  exact ai.lt (h.de i a)
 exact(h.files.lt k hk).2
theorem sO(h:aQ w p s)(hf:Fr Y w w')(hs:Sub w Y p.X)(hn:¬Y p.gs):Wx w' p s p.v p.D:=by
 obtain⟨n,b,i,m,c,j,k,g,e,l⟩:=h.box;have a:=hf.wide hs;exact⟨n,b,i,m,c,j,k.fr hf hn,g.on a (Sub.refl _ _),e.on a (Sub.refl _ _),l⟩
theorem G7(h:aQ w p s)(hf:Fr Y w w')(hs:Sub w Y p.X){i:Nat}(hi:i<s.obs.length)(hn:¬Y (p.f i)):XL w' p.X (p.f i) (Sy.obAt s i):=by
 obtain⟨A,c,e,a,b⟩:=h.ob i hi;exact⟨A,c,e.fr hf hn,a.on (hf.wide hs) (Sub.refl _ _),b⟩
theorem Dn(h:aQ w p s)(hf:Fr Y w w'){i:Nat}(hi:i<s.des.length)(hn:¬Y (p.d i)):J_ w' (p.d i) p.F (Sy.deAt s i):=ai.fr (h.de i hi) hf hn
theorem qm(h:aQ w p s)(hf:Fr Y w w')(hn:∀k,p.v.ownBlock=some k->¬Y k):w'.ownsRow 0 144 1 p.v s.files.length (s.files.map λi=>ptr (p.f i)):=jJ h.files hf hn
theorem fr(h:aQ w p s)(hf:Fr Y w w')(hY:∀k,k<w.heap.size->Y k->p.e k):aQ w' p s:=
 have i:Sub w Y p.X:=λk a g=> .inr (hY k a g)
 have c:∀k,p.C k->¬Y k:=λk a g=>h.ce k a (hY k (h.bz a) g)
 ⟨h.sO hf i (c _ h.jq),h.qm hf λk a=>c k (.inr (.inr (.inr a))),h.fl,h.dl,λ_ b=>h.G7 hf i b (c _ (h.Fe b)),λ_ b=>h.Dn hf b (c _ (h.Kq b)),h.fn,h.dn,h.ce,λ_ a=>bE (h.el _ a) hf.size⟩
theorem below(h:aQ w p s)(hb:Below w w w'):aQ w' p s:=h.fr (Y:=λ_=>False) (Fr.of hb) λ_ _ a=>a.elim
theorem push(h:aQ w p s)(hb:Below w w w')(e:Nat->Prop)(he:∀k,e k->w.heap.size<=k/\k<w'.heap.size):aQ w' {p with e:=λk=>p.e k\/e k} s:=by
 have n:Fr (λk=>w.heap.size<=k) w w':=(Fr.of (X:=λk=>w.heap.size<=k) hb)
 have g:∀k,k<w.heap.size->Pl.X {p with e:=λk=>p.e k\/e k} k->p.X k:=λk j g=>by
  rcases g with g|g|g
  ·exact .inl g
  ·exact .inr g
  have:=(he k g).1;omega
 have l:∀{P:World->Prop},Off p.X w P->Off (Pl.X {p with e:=λk=>p.e k\/e k}) w' P:=λ{P} h z a b=>h z (eT hb.size a) λk j F=>(b k (bE j hb.size) λq=>F (g k j q)).trans (hb.block k j)
 have t:∀k,p.C k->¬w.heap.size<=k:=λk j=>by have:=h.bz j;omega
 refine⟨?_,jJ h.files n λk j=>t k (.inr (.inr (.inr j))),h.fl,h.dl,λi m=> ?_,λi m=>ai.fr (h.de i m) n (t _ (h.Kq m)),h.fn,h.dn,λk j g=> ?_,λk j=>j.elim (λq=>bE (h.el k q) hb.size) λq=>(he k q).2⟩
 ·obtain⟨E,u,x,D,v,B,hb,r,o,y⟩:=h.box
  exact⟨E,u,x,D,v,B,hb.fr n (t _ h.jq),l r,l o,y⟩
 ·obtain⟨A,c,hb,r,o⟩:=h.ob i m
  exact⟨A,c,hb.fr n (t _ (h.Fe m)),l r,o⟩
 rcases g with g|g
 ·exact h.ce k j g
 have r:=(he k g).1;have o:=h.bz j;omega
theorem pop(h:aQ w p s)(e:Nat->Prop)(he:∀k,e k->p.e k):aQ w {p with e:=e} s:=by
 have g:∀{P:World->Prop},Off p.X w P->Off (Pl.X {p with e:=e}) w P:=λ{P} h v a b=>h v a λk j D=>b k j λq=>D (q.imp_right (he k))
 refine⟨?_,h.files,h.fl,h.dl,λi z=> ?_,h.de,h.fn,h.dn,λk j E=>h.ce k j (he k E),λk j=>h.el k (he k j)⟩
 ·obtain⟨B,o,t,y,r,x,n,m,l,u⟩:=h.box
  exact⟨B,o,t,y,r,x,n,g m,g l,u⟩
 obtain⟨A,c,n,m,l⟩:=h.ob i z;exact⟨A,c,n,g m,l⟩
theorem XM(h:aQ w p s)(hf:Fr (λk=>k=p.gs) w w'){AU AL AT:Option Addr}{cU cL cT:Nat}{u:Un}{T:List En}(hb:ai w' p.gs 71 (.slice AU u.U.length cU:: .slice AL u.L.length cL:: .slice AT T.length cT::p.v::Sy.bW p.D s.fds))(h1:Off p.X w' λw=>bT w w AU AL cU cL u)(h2:Off p.X w' λw=>aC w w AT T)(h3:T.length<=cT):aQ w' p {s with u:=u,T:=T}:=
 have c:Sub w (λk=>k=p.gs) p.X:=λ_ _ e=>Pl.cx (e▸h.jq)
 ⟨⟨AU,AL,AT,cU,cL,cT,hb,h1,h2,h3⟩,h.qm hf λ_ b e=>h.RF (e▸b),h.fl,h.dl,λ_ a=>h.G7 hf c a λe=>h.Ko a e.symm,λ_ a=>h.Dn hf a λe=>h.OX a e.symm,h.fn,h.dn,h.ce,λ_ b=>bE (h.el _ b) hf.size⟩
theorem setFd(h:aQ w p s)(hn:s.fds.length=4/\∀r∈s.fds,r.length=8){o k:Nat}(ho:o<4)(hk:k<8)(x:Option Nat):aQ (w.setCell ⟨p.gs,4+(o*8+k),none⟩ (sN p.D x)) p (Sy.setFd s o k x):=by
 have b:Fr (λk=>k=p.gs) w (w.setCell ⟨p.gs,4+(o*8+k),none⟩ (sN p.D x)):=Fr.set (X:=λk=>k=p.gs) w rfl _
 have g:Sub w (λk=>k=p.gs) p.X:=λ_ _ e=>Pl.cx (e▸h.jq)
 have i:=b.wide g;refine⟨?_,h.qm b λ_ hk e=>h.RF (e▸hk),h.fl,h.dl,λ_ c=>h.G7 b g c λe=>h.Ko c e.symm,λ_ c=>h.Dn b c λe=>h.OX c e.symm,h.fn,h.dn,h.ce,λ_ hk=>bE (h.el _ hk) b.size⟩
 obtain⟨z,j,n,y,l,v,u,q,m,t⟩:=h.box;have a:=u.bY (4+(o*8+k)) (sN p.D x);rw[show 4+(o*8+k)=(o*8+k)+1+1+1+1 by omega]at a ⊢
 simp only[Av]at a;rw[Sy.RD x hn.2 (by omega) hk]at a
 rw[show(o*8+k)+1+1+1+1=4+(o*8+k)by omega]at a ⊢
 exact⟨z,j,n,y,l,v,a,q.on i (Sub.refl _ _),m.on i (Sub.refl _ _),t⟩
theorem setOb(h:aQ w p s){i:Nat}(hi:i<s.obs.length)(hf:Fr (λk=>k=p.f i) w w')(f:Ob->Ob)(hb:XL w' p.X (p.f i) (f (Sy.obAt s i))):aQ w' p (Sy.setOb s i f):=by
 have m:Sub w (λk=>k=p.f i) p.X:=λ_ _ e=>Pl.cx (e▸h.Fe hi)
 have l:(s.obs.modify i f).length=s.obs.length:=by rw[gP]
 refine⟨h.sO hf m (h.Ko hi),h.qm hf λ_ c e=>h.v_f hi (e▸c),h.fl.trans l.symm,h.dl,λj b=> ?_,λ_ g=>h.Dn hf g λe=>h.f_d hi g e.symm,h.fn,h.dn,h.ce,λ_ c=>bE (h.el _ c) hf.size⟩
 have b:j<s.obs.length:=by rw[<-l];exact b
 rcases si (j=i)with rfl|a
 ·have e:Sy.obAt (Sy.setOb s j f) j=f (Sy.obAt s j):=by
   unfold Sy.obAt Sy.setOb;simp only[bi,List.getElem?_modify_eq];rw[bA hi];rfl
  rw[e];exact hb
 have e:Sy.obAt (Sy.setOb s i f) j=Sy.obAt s j:=by
  unfold Sy.obAt Sy.setOb;simp[bi,Fy a]
 rw[e];exact h.G7 hf m b λq=>a (h.RG b hi q)
theorem setDe(h:aQ w p s){d:Nat}(hd:d<s.des.length)(hf:Fr (λk=>k=p.d d) w w')(f:De->De)(hb:J_ w' (p.d d) p.F (f (Sy.deAt s d))):aQ w' p (Sy.setDe s d f):=by
 have i:Sub w (λk=>k=p.d d) p.X:=λ_ _ e=>Pl.cx (e▸h.Kq hd)
 have g:(s.des.modify d f).length=s.des.length:=by rw[gP]
 refine⟨h.sO hf i (h.OX hd),h.qm hf λ_ c e=>h.v_d hd (e▸c),h.fl,h.dl.trans g.symm,λ_ l=>h.G7 hf i l (h.f_d l hd),λj b=> ?_,h.fn,h.dn,h.ce,λ_ c=>bE (h.el _ c) hf.size⟩
 have b:j<s.des.length:=by rw[<-g];exact b
 rcases si (j=d)with rfl|a
 ·have e:Sy.deAt (Sy.setDe s j f) j=f (Sy.deAt s j):=by
   unfold Sy.deAt Sy.setDe;simp only[bi,List.getElem?_modify_eq];rw[bA hd];rfl
  rw[e];exact hb
 have e:Sy.deAt (Sy.setDe s d f) j=Sy.deAt s j:=by
  unfold Sy.deAt Sy.setDe;simp[bi,Fy a]
 rw[e];exact h.Dn hf b λq=>a (h.aan b hd q)
theorem Wy(h:aQ w p s){n:Nat}(hi:Sy.In n s)(pa:ByteArray):aQ (w.alloc (.cells #[pa,Qs.e,()] 149)) {p with F:=p.F++[w.heap.size]} {s with obs:=s.obs++[⟨pa,⟨#[]⟩,[]⟩]}:=by
 have r:Fr (λk=>w.heap.size<=k) w (w.alloc (.cells #[pa,Qs.e,()] 149)):=Fr.alloc _ _ _
 have B:∀k,p.C k->¬w.heap.size<=k:=λk g=>by have:=h.bz g;omega
 have l:∀{P:World->Prop},Off p.X w P->Off (Pl.X {p with F:=p.F++[w.heap.size]}) (w.alloc (.cells #[pa,Qs.e,()] 149)) P:=λ{P} q O a b=>q O (eT r.size a) λk g L=>(b k (bE g r.size) λx=>L (by
  rcases x with(x|x|x)|x
  ·exact .inl (.inl x)
  ·rcases List.mem_append.1 x with x|x
   ·exact .inl (.inr (.inl x))
   rw[eD]at x;omega
  ·exact .inl (.inr (.inr x))
  exact .inr x)).trans (r.block k g (by omega))
 have j:∀i,i<s.obs.length->Pl.f {p with F:=p.F++[w.heap.size]} i=p.f i:=λi q=>Sy.zB (by rw[h.fl];exact q)
 have D:∀i,i<s.obs.length->Sy.obAt {s with obs:=s.obs++[⟨pa,⟨#[]⟩,[]⟩]} i=Sy.obAt s i:=λi q=>by
  unfold Sy.obAt;rw[bi,l6 q,bi]
 refine⟨?_,?_,?_,h.dl,λi q=> ?_,λi q=> ?_,?_,h.dn,λk g z=> ?_,λ_ g=>bE (h.el _ g) r.size⟩
 ·obtain⟨S,E,N,K,G,Q,u,m,t,I⟩:=h.box
  exact⟨S,E,N,K,G,Q,u.fr r (B _ h.jq),l m,l t,I⟩
 ·have m:=jJ h.files r λk g=>B k (.inr (.inr (.inr g)))
  have t:(s.files.map λi=>ptr (Pl.f {p with F:=p.F++[w.heap.size]} i))=s.files.map λi=>ptr (p.f i):=List.map_congr_left λi q=>by rw[j i (hi.fsub i q)]
  show World.ownsRow _ 0 _ 1 p.v s.files.length _
  rw[t];exact m
 ·show(p.F++[w.heap.size]).length=(s.obs++[_]).length
  rw[bq,bq,h.fl];rfl
 ·have q:i<s.obs.length+1:=by simpa using q
  rcases iB i s.obs.length with y|y
  ·rw[D i y,j i y]
   obtain⟨A,c,u,m,t⟩:=h.ob i y;exact⟨A,c,u.fr r (B _ (h.Fe y)),l m,t⟩
  have e:i=s.obs.length:=by omega
  subst e;have M:Pl.f {p with F:=p.F++[w.heap.size]} s.obs.length=w.heap.size:=by
   unfold Pl.f;rw[<-h.fl];exact Sy.uz _ _
  have H:Sy.obAt {s with obs:=s.obs++[⟨pa,⟨#[]⟩,[]⟩]} s.obs.length=⟨pa,⟨#[]⟩,[]⟩:=by
   unfold Sy.obAt;rw[bi,kr aR,Bb];rfl
  rw[M,H];exact⟨none,0,ai.new w _ _,Off.always λ_=>Rd.nil,aR⟩
 ·have m:ai (w.alloc _) (p.d i) _ _:=ai.fr (h.de i q) r (B _ (h.Kq q))
  have t:(Sy.deAt s i).o<p.F.length:=by rw[h.fl];exact(hi.deAt q).1
  show ai _ _ _ [ptr ((p.F++[w.heap.size]).getD (Sy.deAt s i).o 0),.int .i64 (Sy.deAt s i).fl,.int .i64 (Sy.deAt s i).at_,.int .i64 (Sy.deAt s i).refs]
  rw[Sy.zB t];exact m
 ·refine List.nodup_append.2 ⟨h.fn,List.nodup_cons.2 ⟨List.not_mem_nil,F5⟩,λa ha b u e=> ?_⟩
  rw[eD]at u;have:=h.bz (.inr (.inl ha));omega
 have m:=h.el k z
 rcases g with g|g|g
 ·exact h.ce k (.inl g) z
 ·rcases List.mem_append.1 g with x|x
  ·exact h.ce k (.inr (.inl x)) z
  rw[eD]at x;omega
 exact h.ce k (.inr (.inr g)) z
theorem WA(h:aQ w p s){n:Nat}(hi:Sy.In n s)(d:De):aQ (w.alloc (.cells #[ptr (p.f d.o),d.fl,d.at_,d.refs] 147)) {p with D:=p.D++[w.heap.size]} {s with des:=s.des++[d]}:=by
 have l:Fr (λk=>w.heap.size<=k) w (w.alloc (.cells #[ptr (p.f d.o),d.fl,d.at_,d.refs] 147)):=Fr.alloc _ _ _
 have B:∀k,p.C k->¬w.heap.size<=k:=λk g=>by have:=h.bz g;omega
 have j:∀{P:World->Prop},Off p.X w P->Off (Pl.X {p with D:=p.D++[w.heap.size]}) (w.alloc (.cells #[ptr (p.f d.o),d.fl,d.at_,d.refs] 147)) P:=λ{P} q U a b=>q U (eT l.size a) λk g O=>(b k (bE g l.size) λx=>O (by
  rcases x with(x|x|x|x)|x
  ·exact .inl (.inl x)
  ·exact .inl (.inr (.inl x))
  ·rcases List.mem_append.1 x with x|x
   ·exact .inl (.inr (.inr (.inl x)))
   rw[eD]at x;omega
  ·exact .inl (.inr (.inr (.inr x)))
  exact .inr x)).trans (l.block k g (by omega))
 have m:∀i,i<s.des.length->Pl.d {p with D:=p.D++[w.heap.size]} i=p.d i:=λi q=>Sy.zB (by rw[h.dl];exact q)
 have F:∀i,i<s.des.length->Sy.deAt {s with des:=s.des++[d]} i=Sy.deAt s i:=λi q=>by
  unfold Sy.deAt;rw[bi,l6 q,bi]
 refine⟨?_,jJ h.files l λk g=>B k (.inr (.inr (.inr g))),h.fl,?_,λi q=> ?_,λi q=> ?_,h.fn,?_,λk g y=> ?_,λ_ g=>bE (h.el _ g) l.size⟩
 ·obtain⟨W,G,S,M,H,V,t,z,E,L⟩:=h.box
  refine⟨W,G,S,M,H,V,?_,j z,j E,L⟩
  show ai _ _ _ (_::_::_::p.v::Sy.bW (p.D++[w.heap.size]) s.fds)
  rw[Sy.UT λr K x N=>by rw[h.dl];exact hi.fdd r K x N]
  exact t.fr l (B _ h.jq)
 ·show(p.D++[w.heap.size]).length=(s.des++[_]).length
  rw[bq,bq,h.dl];rfl
 ·obtain⟨A,c,t,z,E⟩:=h.ob i q
  exact⟨A,c,t.fr l (B _ (h.Fe q)),j z,E⟩
 ·have q:i<s.des.length+1:=by simpa using q
  rcases iB i s.des.length with u|u
  ·rw[F i u,m i u]
   exact ai.fr (h.de i u) l (B _ (h.Kq u))
  have e:i=s.des.length:=by omega
  subst e;have Q:Pl.d {p with D:=p.D++[w.heap.size]} s.des.length=w.heap.size:=by
   unfold Pl.d;rw[<-h.dl];exact Sy.uz _ _
  have I:Sy.deAt {s with des:=s.des++[d]} s.des.length=d:=by
   unfold Sy.deAt;rw[bi,kr aR,Bb];rfl
  rw[Q,I];exact ai.new w _ _
 ·refine List.nodup_append.2 ⟨h.dn,List.nodup_cons.2 ⟨List.not_mem_nil,F5⟩,λa ha b t e=> ?_⟩
  rw[eD]at t;have:=h.bz (.inr (.inr (.inl ha)));omega
 have z:=h.el k y
 rcases g with g|g|g|g
 ·exact h.ce k (.inl g) y
 ·exact h.ce k (.inr (.inl g)) y
 ·rcases List.mem_append.1 g with x|x
  ·exact h.ce k (.inr (.inr (.inl x))) y
  rw[eD]at x;omega
 exact h.ce k (.inr (.inr (.inr g))) y
theorem G8(h:aQ w p s)(v:Value)(fs:List Nat)(hf:Fr (λk=>k=p.gs\/p.v.ownBlock=some k) w w')(hv:∀k,v.ownBlock=some k->p.v.ownBlock=some k\/w.heap.size<=k)(hb:∀cs,ai w p.gs 71 cs->ai w' p.gs 71 (cs.set 3 v))(ho:w'.ownsRow 0 144 1 v fs.length (fs.map λi=>ptr (p.f i))):aQ w' {p with v:=v} {s with files:=fs}:=by
 have z:Sub w (λk=>k=p.gs\/p.v.ownBlock=some k) p.X:=λk _ e=> .inl (e.elim (λe=> .inl e) λe=> .inr (.inr (.inr e)))
 have E:=hf.wide z;have b:∀{P:World->Prop},Off p.X w P->Off (Pl.X {p with v:=v}) w' P:=λ{P} q=>q.on E λk a x=>by
  rcases x with(x|x|x|x)|x
  ·exact .inl (.inl x)
  ·exact .inl (.inr (.inl x))
  ·exact .inl (.inr (.inr (.inl x)))
  ·rcases hv k x with y|y
   ·exact .inl (.inr (.inr (.inr y)))
   omega
  exact .inr x
 refine⟨?_,ho,h.fl,h.dl,λi q=> ?_,λi q=>h.Dn hf q λe=>e.elim (λe=>h.OX q e.symm) λe=>h.v_d q e,h.fn,h.dn,λk a g=> ?_,λ_ a=>bE (h.el _ a) hf.size⟩
 ·obtain⟨D,n,r,B,o,u,l,m,j,t⟩:=h.box
  exact⟨D,n,r,B,o,u,hb _ l,b m,b j,t⟩
 ·obtain⟨A,c,hb,m,j⟩:=h.ob i q
  exact⟨A,c,hb.fr hf λe=>e.elim (λe=>h.Ko q e.symm) λe=>h.v_f q e,b m,j⟩
 rcases a with a|a|a|a
 ·exact h.ce k (.inl a) g
 ·exact h.ce k (.inr (.inl a)) g
 ·exact h.ce k (.inr (.inr (.inl a))) g
 rcases hv k a with y|y
 ·exact h.ce k (.inr (.inr (.inr y))) g
 have:=h.el k g;omega
end aQ
theorem Fr.setCell{X:Nat->Prop}{w w':World}(h:Fr X w w'){p:Addr}(hp:X p.block)(u:Value):Fr X w (w'.setCell p u):=h.trans (Fr.set w' hp u) (Sub.refl _ _)
theorem Fr.bf{X:Nat->Prop}{w w1 w2:World}(h:Fr X w w1)(hb:Below w1 w1 w2):Fr X w w2:=h.trans (Fr.of (X:=X) hb) (Sub.refl _ _)
theorem Fr.at_{g:Nat}{w w':World}(h:Fr (λk=>k=g) w w')(i:Nat)(u:Value):Fr (λk=>k=g) w (w'.setCell ⟨g,i,none⟩ u):=Fr.setCell (X:=λk=>k=g) h rfl u
theorem ai.top{w:World}{g:Nat}{t:TypeId}{a b c d:Value}{r:List Value}(h:ai w g t (a::b::c::d::r)):w.cell? g=some a/\w.cell? ⟨g,1,none⟩=some b/\w.cell? ⟨g,2,none⟩=some c/\w.cell? ⟨g,3,none⟩=some d/\(∀i,w.frozen? ⟨g,i,none⟩=false)/\g<w:=
 ⟨h.cell 0,h.cell 1,h.cell 2,h.cell 3,h.frozen,h.lt⟩
theorem aQ.mX{w:World}{p:Pl}{s:St}(h:aQ w p s){k:Nat}(hk:p.X k):k<w:=hk.elim h.bz (h.el k)
theorem ag.off{w:World}{lo:Nat}{v:Value}{l:List En}(h:ag w lo v l){X:Nat->Prop}(hx:∀k,X k->k<lo):∃A c,v= .slice A l.length c/\l.length<=c/\Off X w λw=>aC w w A l:=xR h hx
def qp(p:Pl)(s:St)(r:Un×Int)(w:World)(e:Ending)(w':World):Prop:=
 e= .returned (.int .i64 (Sy.set s r).2)/\aQ w' p (Sy.set s r).1/\Fr (λk=>k=p.gs) w w'
theorem jZ(p:Pl)(s:St)(A A':Option Addr)(c c':Nat)(r:Un×Int)(w:World)(h:aQ w p s)(hu:r.2=0->Off p.X w λw=>bT w w A A' c c' r.1)(hs:r.2=0->iR r.1):Calls prog 31 #[ptr p.gs,.agg #[.slice A r.1.U.length c,.slice A' r.1.L.length c'],r.2] w (qp p s r w):=by
 obtain⟨u,a⟩:=r;dsimp only at hu hs ⊢;unfold qp;have HU:=aL hu;have HS:=aL hs;have G:=aL h;clear hu hs;have E:Hid (a≠0->Sy.set s (u,a)=(s,a)):=aL (λV=>by unfold Sy.set;rw[aM V])
 have H:Hid (a=0->Sy.set s (u,a)=({s with u:=u,T:=(Tr.seenU u).1},(Tr.seenU u).2)):=aL (λV=>by unfold Sy.set;rw[av (by simp[V])])
 generalize Sy.set s (u,a)=R at*;have b:=(aa w w).alloc aR (.cells #[.slice A u.U.length c,.slice A' u.L.length c'] 33);have m:=ai.new w 33 [.slice A u.U.length c,.slice A' u.L.length c']
 show Calls prog 31 #[.pointer p.gs,.agg #[.slice A u.U.length c,.slice A' u.L.length c'],a] w _
 go_enter func31,ntmps31;go_upto_region 1 with fail
 generalize w.alloc (.cells #[.slice A u.U.length c,.slice A' u.L.length c'] 33)=N at*
 rcases te:(a !=0)with _|_
 rotate_left
 ·have t:=aL (E.out (by simpa using te))
  go_wp2;go_ret;exact⟨by rw[t.out];rfl,by rw[t.out];exact G.out.below b,Fr.of b⟩
 have M:a=0:=by simpa using te
 have t:=aL (H.out M);have I:=aL (HU.out M);have Q:=aL (HS.out M);clear E H HU HS te;subst M;have z:=λW h=>C9 A A' c c' u W h Q.out
 unfold kM at z;generalize Tr.seenU u=sp at z t;obtain⟨S,se⟩:=sp;dsimp only at z t;obtain⟨AU,AL,AT,cU,cL,cT,i,_,_,_⟩:=h.box;have n:=i.below b i.lt;have hgs:p.gs<w:=i.lt;clear h;have g:=n.top;have q:=m.two;have y:¬w.heap.size=p.gs:=by omega
 have hne2:¬p.gs=w.heap.size:=by omega
 go_upto_region 4 with fail
 have o:ai ((N.setCell ⟨p.gs,0,none⟩ (.slice A u.U.length c)).setCell ⟨p.gs,1,none⟩ (.slice A' u.L.length c')) p.gs 71 (.slice A u.U.length c:: .slice A' u.L.length c':: .slice AT s.T.length cT::p.v::Sy.bW p.D s.fds):=(n.bY 0 _).bY 1 _;have K:=(m.far (p:=p.gs) y (.slice A u.U.length c)).far (p:=⟨p.gs,1,none⟩) y (.slice A' u.L.length c');have j:Fr (λk=>k=p.gs) w ((N.setCell ⟨p.gs,0,none⟩ (.slice A u.U.length c)).setCell ⟨p.gs,1,none⟩ (.slice A' u.L.length c')):=((Fr.of b).at_ 0 _).at_ 1 _
 clear g q b m n i;generalize (N.setCell ⟨p.gs,0,none⟩ (.slice A u.U.length c)).setCell ⟨p.gs,1,none⟩ (.slice A' u.L.length c')=w2 at*;have l:Sub w (λk=>k=p.gs) p.X:=λ_ _ e=>Pl.cx (e▸G.out.jq)
 have q:=K.two;go_wp2_with fail;clear q;refine(z w2 ((I.out.on (j.wide l) (Sub.refl _ _)).here)).mono ?_
 rintro e O ⟨v3,rfl,B,Y⟩;have hF3:=j.bf Y;have F:=o.below Y o.lt;obtain⟨A3,c3,rfl,hc3,hO3⟩:=ag.off B (X:=p.X) λk hk=>bE (G.out.mX hk) j.size
 clear Y B o K j z;have g:=F.top;go_wp2;go_ret;have Z:ai (O.setCell ⟨p.gs,2,none⟩ (.slice A3 S.length c3)) p.gs 71 (.slice A u.U.length c:: .slice A' u.L.length c':: .slice A3 S.length c3::p.v::Sy.bW p.D s.fds):=F.bY 2 _;have x:Fr (λk=>k=p.gs) w (O.setCell ⟨p.gs,2,none⟩ (.slice A3 S.length c3)):=hF3.at_ 2 _
 refine⟨by rw[t.out];rfl,?_,x⟩
 rw[t.out];exact G.out.XM x Z (I.out.on (x.wide l) (Sub.refl _ _)) (hO3.on (Fr.set O (Pl.cx G.out.jq) _) (Sub.refl _ _)) hc3
theorem bH.nil(w:World)(B:Nat)(A:Option Addr):bH w B A []:=Rd.nil
theorem aT.rd{w:World}{base:Nat}{v:Value}{l:List Pt.Bs}(h:aT w base v l):∃A c,v= .slice A l.length c/\l.length<=c/\(A=none->c=0)/\bH w w A l:=by
 unfold aT at h
 rcases aB h with⟨rfl,i⟩|⟨g,a,rfl,_,_,b⟩
 ·have e:l=[]:=List.length_eq_zero_iff.1 i
  subst e;exact⟨none,0,rfl,aR,λ_=>rfl,bH.nil _ _ _⟩
 exact⟨some ⟨g,0,none⟩,a,rfl,b,(λq=>by cases q),Rd.iK h⟩
theorem OY(n:Nat)(w:World)(hn:n<=1000000):Calls prog 189 #[(),n] w λe w'=>∃v,e= .returned v/\aT w' w v []/\Below w w w':=by
 obtain⟨m,q,i,p,c⟩:=lw jB;go_enter func189,ntmps189;have r:IntKind.i64.wrap ((n:Int)-0)=n:=lm _ (by omega)
 have l:decide ((n:Int)<0)=false:=bN (by omega)
 rcases nA n with j|j
 ·subst j
  go_wp2;go_ret;exact⟨_,rfl,jN _ _ _ _,aa _ _⟩
 have k:decide ((0:Int)<n)=true:=fw (by omega)
 have b:=Lib.run_append_nil_zeros (P:=prog) w 41 3 41 9 m (.string ByteArray.empty) .i64 .i64 underlying41 underlying3 q i n j (by omega) (by omega) (by rw[c];omega)
 generalize hcap:grownCap w n 0 9=a at b;have o:n<=a:=by rw[<-hcap];exact grownCap_ge w n 0 9
 have h:a<=maxLen:=by rw[<-hcap];exact grownCap_le_maxLen w n 0 9 (by unfold maxLen;omega)
 generalize hZ:(Builtin.zeroCells (Value.string ByteArray.empty).cells n++Builtin.zeroCells (Value.string ByteArray.empty).cells (a-n))=Z at b;have g:Z.size=a:=by rw[<-hZ];simp[size_zeroCells,Value.cells];omega
 clear hcap hZ
 go_wp2_with (at_builtin;refine Lib.wpList_append_run _ rfl _ _ _ _ rfl _ _ rfl rfl _ _ b ?_)
 go_ret;refine⟨_,rfl,?_,((aa _ w).drew).alloc aR _⟩
 exact⟨rfl,.inr ⟨w.heap.size,a,Z,rfl,aR,heap_alloc_new w.drew _,bL _,h,by rw[g,FJ],rfl⟩⟩
def G9(l m:List Pt.Bs)(k:Nat):List Pt.Bs:=if k=0 then []else if k=1 then l else l++m
theorem zC(g:Nat)(A A':Option Addr)(c c':Nat)(l m:List Pt.Bs)(w:World)(hg:ai w g 41 [.slice A l.length c,.slice A' m.length c'])(hl:bH w w A l)(hm:bH w w A' m)(hA:A=none->c=0)(hA':A'=none->c'=0)(h1:l.length<=100000)(h2:m.length<=100000):Calls prog 164 #[.slice g 2 2] w λe w'=>∃v,e= .returned v/\aT w' w v (l++m)/\Below w w w':=by
 obtain⟨S,V,r,t,B⟩:=lw jB;have j:=hg.two;have one:∀x:List Pt.Bs,∀u∈x.map Pt.str,u.oneCell'=true:=λx u hu=>by
  obtain⟨y,_,rfl⟩:=List.mem_map.1 hu;rfl
 go_enter func164,ntmps164;go_wp2
 go_loopw [3,11] (λz i wr=>Hid (w=wr)/\∃k:Nat,k<=2/\i= .int .i64 k/\z= .int .i64 (G9 l m k).length) (λ_ i _=>2- (intOf i).toNat)
 case atStart=>exact⟨aL rfl,0,by omega,rfl,rfl⟩
 case round=>
  obtain⟨Z,k,Y,rfl,rfl⟩:=hrel;obtain rfl:=Z.out;obtain b|b|b:k=0\/k=1\/k=2:=by omega
  ·subst b
   have O:IntKind.i64.wrap (l.length:Int)=l.length:=lm _ (by omega)
   have N:IntKind.i64.wrap (0+(l.length:Int))=l.length:=by rw[Int.zero_add];exact O
   have H:decide ((l.length:Int)<0)=false:=bN (by omega)
   have G:(G9 l m 0).length=0:=rfl;rw[G];go_wp2;go_roundw
   case rel=>exact⟨by first|exact aL rfl|exact aL trivial,1,by omega,by go_num,rfl⟩
   case measure=>simp[intOf]
  ·subst b
   have N:IntKind.i64.wrap ((l.length:Int)+(m.length:Int))=(l.length+m.length:Nat):=by rw[lm ((l.length:Int)+(m.length:Int)) (by omega)];omega
   have H:decide (((l.length+m.length:Nat):Int)<0)=false:=bN (by omega)
   have Q:(G9 l m 1).length=l.length:=rfl;rw[Q];go_wp2;go_roundw
   case rel=>exact⟨by first|exact aL rfl|exact aL trivial,2,by omega,by go_num,by rw[show G9 l m 2=l++m from rfl,bq,Int.natCast_add]⟩
   case measure=>simp[intOf]
  subst b;have F:(G9 l m 2).length=l.length+m.length:=by rw[show G9 l m 2=l++m from rfl,bq]
  rw[F];have U:=OY (l.length+m.length) w (by omega)
  clear F;generalize l.length+m.length=nn at U ⊢;go_wp2_with fail;refine U.mono ?_
  rintro e w1 ⟨v1,rfl,E,p⟩;have L:=hg.below p hg.lt;clear j;go_wp2
  go_loopw [6,27] (λv i wr=>∃k:Nat,k<=2/\i= .int .i64 k/\aT wr w v (G9 l m k)/\Below w w wr) (λ_ i _=>2- (intOf i).toNat)
  case atStart=>exact⟨0,by omega,rfl,E,p⟩
  case round=>
   clear E p L;obtain⟨k,Y,rfl,D,n⟩:=hrel;have K:=hg.below n hg.lt;have j:=K.two;obtain b|b|b:k=0\/k=1\/k=2:=by omega
   ·subst b
    obtain⟨W,w',M,a,o,_⟩:=pY (P:=prog) wr w 41 41 9 S _ 1 16 underlying41 V r t B rfl (by decide) u6 _ _ D A l.length c (l.map Pt.str) (Rd.below hl n) hA (one l) (by unfold maxLen;show 0+_<=_;omega) (by show(0+_)*16<=_;omega) n.size
    go_wp2_with (at_builtin;refine Lib.wpList_append_run _ rfl _ _ _ _ rfl _ _ rfl rfl _ _ M ?_)
    go_roundw
    case rel=>exact⟨1,by omega,by go_num,by
     have h:=a;rw[show(G9 l m 0).length+l.length=l.length from mE _]at h
     exact h,n.grown o n.size λq I=>pV D I⟩
    case measure=>simp[intOf]
   ·subst b
    obtain⟨W,w',M,a,o,_⟩:=pY (P:=prog) wr w 41 41 9 S _ 1 16 underlying41 V r t B rfl (by decide) u6 _ _ D A' m.length c' (m.map Pt.str) (Rd.below hm n) hA' (one m) (by unfold maxLen;show l.length+_<=_;omega) (by show(l.length+_)*16<=_;omega) n.size
    go_wp2_with (at_builtin;refine Lib.wpList_append_run _ rfl _ _ _ _ rfl _ _ rfl rfl _ _ M ?_)
    go_roundw
    case rel=>exact⟨2,by omega,by go_num,by
     show World.ownsRow _ _ _ _ _ (l++m).length ((l++m).map Pt.str)
     rw[bq,vQ];exact a,n.grown o n.size λq I=>pV D I⟩
    case measure=>simp[intOf]
   subst b;go_wp2;go_ret;exact⟨_,rfl,D,n⟩
def xU(gw:Nat)(r:Pt.Bs×Int)(w:World)(e:Ending)(w':World):Prop:=
 e= .returned (.tuple #[Pt.str r.1,r.2])/\Below gw w w'
theorem aT.off{w:World}{lo:Nat}{v:Value}{l:List Pt.Bs}(h:aT w lo v l){X:Nat->Prop}(hx:∀k,X k->k<lo):∃A c,v= .slice A l.length c/\l.length<=c/\(A=none->c=0)/\Off X w λw=>bH w w A l:=by
 obtain⟨A,c,e,j,m,_⟩:=aT.rd h;obtain⟨o,n,a,_,b⟩:=xR h hx;rw[e]at a;injection a with g _ i
 subst g i;exact⟨A,c,e,j,m,b⟩
theorem bH.drop{w:World}{B b o:Nat}{l:List Pt.Bs}(h:bH w B (some ⟨b,o,none⟩) l)(k:Nat):bH w B (some ⟨b,o+k,none⟩) (l.drop k):=by
 refine⟨by simp,λi=> ?_⟩
 rw[gM]at i;obtain⟨m,n,e,c,g⟩:=h.2 (by omega)
 cases e
 refine⟨b,o+k,rfl,c,λj u a=> ?_⟩
 rw[List.map_drop]at a;rw[z8];exact g (k+j) u (by rw[<-a,Cn])
theorem oU(n:Pt.Bs):∃b:ByteArray,b.data.toList=n/\Pt.str n= .string b:=⟨⟨n.toArray⟩,rfl,rfl⟩
theorem walk_any(T:List En)(hT:Tr.Right false T)(hTl:T.length<=1000)(gs:Nat)(AT:Option Addr)(cT:Nat)(fo:Bool):∀(h:Nat),h<=8->∀(gw:Nat) (names:List Pt.Bs) (A:Option Addr) (c:Nat) (at0:ByteArray) (w:World),
  ai w gw 175 [.pointer gs,.int .i64 (8- (h:Int))]->gs<gw->w.cell? ⟨gs,2,none⟩=some (.slice AT T.length cT)->aC w gw AT T->Off (λk=>k=gw) w (λw=>bH w w A names)->(A=none->c=0)->names.length<=c->at0.size+Sy.tot names<=1000*(9-h)->
  Calls prog 132 #[.pointer gw,at0,.slice A names.length c,fo] w (xU gw (Sy.walk T fo h names at0) w):=by
 have HS:=aL (Tr.bn hT);have HR:=aL hT.2.1;have hTx:∀(q:Pt.Bs) (e:En),Tr.get T q=some e->e.k=3->e.t.size<=100:=λq e F hk=>by
  by_cases h0:q=[]
  ·subst h0;rw[Tr.dL]at F;injection F with F;subst F;cases hk
  exact Sy.Ef hT h0 F
 clear hT;intro h
 induction h using Nat.strongRecOn with
 |_ h ih=>
 intro hh gw names A c at0 w hw hgs hT2 pq hoN hA hcl hsz;have IH:=aL ih;have HON:=aL hoN;have HA:=aL hA;have HSZ:=aL hsz;have uu:=aL hcl;clear hcl;clear ih hoN hA hsz;obtain⟨R,hR⟩:∃R,R=Sy.walk T fo h names at0.data.toList:=⟨_,rfl⟩;have HR0:=aL hR;rw[<-hR];clear hR;unfold xU;obtain⟨z,hz⟩:∃z:Int,z=8- (h:Int):=⟨_,rfl⟩;rw[<-hz]at hw;have XN:=aL hz;clear hz;have g:=hw.lt;have hln:names.length<=9000:=by have:=HSZ.out;have:=Sy.rq names;omega
 go_enter func132,ntmps132;go_wp2
 go_loopw [1,23] (λa i wr=>∃(k:Nat) (s:ByteArray),k<=names.length/\i= .int .i64 k/\a= .string s/\Hid (R=Sy.walk T fo h (names.drop k) s)/\Hid (s.size+Sy.tot (names.drop k)<=1000*(9-h))/\Below w w wr) (λ_ i _=>names.length- (intOf i).toNat)
 case atStart=>exact⟨0,at0,bL _,rfl,rfl,HR0,HSZ,aa _ _⟩
 case round=>
  clear HR0 HSZ;obtain⟨k,s,hk,rfl,rfl,N,HZ,hB⟩:=hrel;have hwr:=hw.below hB g;have hrr:aC wr wr AT T:=(Rd.below pq (hB.mono (nL g))).more (eT (nL g) hB.size);have hg2:wr.cell? ⟨gs,2,none⟩=some (.slice AT T.length cT):=(hB.cell (p:=⟨gs,2,none⟩) (by show gs<w;omega)).trans hT2
  by_cases hlt:k<names.length
  ·have hrN:bH wr wr A names:=HON.out wr hB.size λj hj _=>hB.block j hj
   obtain⟨b,o,Kr,hbb,h0⟩:=bH.at_ hrN hlt
   have HD:Hid (names.drop k=names[k]::names.drop (k+1)):=aL (kw hlt);obtain⟨rest,G⟩:∃r,r=names.drop (k+1):=⟨_,rfl⟩;have HRE:Hid (rest=[]↔k+1=names.length):=aL (by rw[G,List.drop_eq_nil_iff];omega)
   have WI:=aL G;rw[<-G]at HD;clear G;obtain⟨n,hn,hn2⟩:=oU names[k];rw[hn2]at h0;clear hn2;rw[<-hn]at HD;clear hn;have N:=aL (N.out);have HZ:=aL (HZ.out);rw[HD.out]at N HZ;have hz1:s.size+(n.size+1)<=9000:=by
    have h1:=HZ.out;rw[Sy.eX,af]at h1;omega
   have Z:=hwr.two;subst Kr;go_wp2_with fail;clear Z;refine(get_any AT cT T s wr hrr HS.out (by omega) (by omega)).mono ?_
   rintro e w2 ⟨r,rfl,hr,I⟩;have vM:=aL (hr.2 (.inl HR.out));have hB2:=hB.trans (I.mono hB.size);clear I hr hB hwr hrr hg2 h0;obtain⟨y,hy⟩:∃y,y=r.getD En.zero:=⟨_,rfl⟩;rw[<-hy];have HY:=aL hy;clear hy;obtain⟨dp,dk,dt,f_⟩:=y;simp only[En.agg,En.cells];have E:=hB2.alloc hB2.size (.cells #[dp,dk,dt,f_] 45);have hd3:=ai.new w2 45 [dp,dk,dt,f_];go_upto_region 5 with fail
   clear hB2;generalize w2.alloc (.cells #[dp,dk,dt,f_] 45)=w3 at*;generalize w2.heap.size=gd at*
   rcases r with _|d
   ·have u:=aL (N.out.trans (Sy.walk_bad (Sy.Gn vM.out.symm) (by decide)))
    clear N HZ HD vM HY;go_wp2;go_ret2;exact⟨by rw[u.out];rfl,E.mono (nL g)⟩
   obtain rfl:d=⟨dp,dk,dt,f_⟩:=HY.out.symm;clear HY;have m:=hd3.four
   rcases tk:(dk !=2)with _|_
   rotate_left
   ·have u:=aL (N.out.trans (Sy.walk_bad (Sy.MN vM.out.symm (by simpa using tk)) (by decide)))
    clear N HZ HD vM;go_wp2;go_ret2;exact⟨by rw[u.out];rfl,E.mono (nL g)⟩
   have Y:=aL (Sy.QR vM.out.symm (show dk=2 by simpa using tk))
   clear vM
   rcases tn:(n.toList==[46,46])with _|_
   rotate_left
   ·have u:=aL (N.out.trans (Sy.MO Y.out (by rw[kg]at tn;simpa using tn)))
    clear N;go_wp2_with fail;refine(jC s _ (by omega)).mono ?_
    rintro e w4 ⟨rfl,hD⟩;have hB4:=E.trans (hD.below (B:=w.heap.size));obtain⟨ds,hds,RH⟩:=oU (Pt.ah s);obtain⟨ns,_,RI⟩:=oU (Pt.nameOf s);rw[RH,RI];clear RH RI;have HL:=aL (Sy.Gl s);rw[<-hds,af,af]at HL;rw[<-hds]at u;clear hds m hd3;go_wp2;go_roundw
    case rel=>exact⟨k+1,ds,hlt,by go_num,rfl,by rw[<-WI.out];exact u,aL (by
     rw[<-WI.out];have h1:=HZ.out;have h2:=HL.out;rw[Sy.eX]at h1
     omega),hB4⟩
    case measure=>simp[intOf];omega
   have hnd:¬n.data.toList=[46,46]:=by rw[kg]at tn;simpa using tn
   obtain⟨nx,hnx,hnx2⟩:=oU (Pt.join s n);have hnz:nx.size<=s.size+n.size+1:=by
    have h1:=Sy.CP s n;rw[<-hnx,af,af,af]at h1;exact h1
   have Jp:=aL hnx;have cJ:=λW=>Rx s n W (by omega) (by omega)
   rw[hnx2]at cJ;clear hnx hnx2;go_wp2_with fail;refine(cJ _).mono ?_
   rintro e w3 ⟨rfl,rfl⟩;clear cJ m hd3 tn tk;have hwr:=hw.below E g;have hrr:aC w3 w3 AT T:=(Rd.below pq (E.mono (nL g))).more (eT (nL g) E.size);have hg2:w3.cell? ⟨gs,2,none⟩=some (.slice AT T.length cT):=(E.cell (p:=⟨gs,2,none⟩) (by show gs<w;omega)).trans hT2
   have Z:=hwr.two;go_wp2_with fail;clear Z;refine(get_any AT cT T nx w3 hrr HS.out (by omega) (by omega)).mono ?_
   rintro e w5 ⟨r2,rfl,hr,I⟩;have hG:=hr.2 (.inl HR.out);rw[Jp.out]at hG;have dh:=E.trans (I.mono E.size);clear I hr E hwr hrr hg2;obtain⟨y,hy⟩:∃y,y=r2.getD En.zero:=⟨_,rfl⟩;rw[<-hy];obtain⟨ok,l⟩:∃b,b=r2.isSome:=⟨_,rfl⟩;rw[<-l];obtain⟨last,U⟩:∃b,b=decide (k+1=names.length):=⟨_,rfl⟩;have Jq:Hid (rest=[]↔last=true):=aL (by rw[U,mI];exact HRE.out)
   have tl:((k:Int)==(names.length:Int)-1)=last:=by
    rw[U]
    by_cases q:k+1=names.length
    ·rw[fw q];simp;omega
    rw[bN q];simp;omega
   have hwl:IntKind.i64.wrap ((names.length:Int)-1)=(names.length:Int)-1:=lm _ (by omega)
   obtain⟨ep,ek,D,eo⟩:=y;obtain⟨cnd,K⟩:∃b,b=(ok&&ek==3&&(fo|| !last)):=⟨_,rfl⟩
   have HN:Hid ((!ok&& !last)=true->R=([],6)):=aL (λF=>by
    rw[kI,q9,q9]at F;refine N.out.trans (Sy.CS Y.out hnd ?_ λhr=> ?_)
    ·rw[<-hG]
     cases r2 with
     |none=>rfl
     |some _=>rw[l]at F;cases F.1
    have:=Jq.out.1 hr;rw[this]at F;cases F.2)
   have HX:Hid ((!ok&& !last)=false->cnd=false->R=Sy.walk T fo h rest (Pt.join s n)):=aL (λF hc=>by
    cases r2 with
    |none=>
     have l:ok=false:=l;rw[l]at F;refine N.out.trans (Sy.Gp Y.out hnd hG.symm (Jq.out.2 ?_))
     simpa using F
    |some e=>
     have l:ok=true:=l;have hy:(⟨ep,ek,D,eo⟩:En)=e:=hy;subst hy;refine N.out.trans (Sy.CU Y.out hnd hG.symm λF=> ?_)
     rw[K,l]at hc;have h1:(ek==3)=true:=by have:=F.1;simpa using this
     rw[h1]at hc
     rcases F.2 with h2|h2
     ·rw[h2]at hc;cases hc
     ·have h3:last=false:=by
       cases last with
       |false=>rfl
       |true=>exact absurd (Jq.out.2 rfl) h2
      rw[h3]at hc;simp at hc)
   have HK:Hid (cnd=true->D.size<=100/\R=Sy.CQ T fo h D rest s):=aL (λhc=>by
    rw[K,kI,kI]at hc
    cases r2 with
    |none=>have l:ok=false:=l;rw[l]at hc;cases hc.1.1
    |some e=>
     have hy:(⟨ep,ek,D,eo⟩:En)=e:=hy;subst hy;have h3:ek=3:=by simpa using hc.1.2
     refine⟨?_,N.out.trans (Sy.CV Y.out hnd hG.symm ⟨h3,?_⟩)⟩
     ·exact hTx _ _ hG.symm h3
     ·rcases Bool.or_eq_true_iff.1 hc.2 with h4|h4
      ·exact .inl h4
      ·refine .inr λh5=> ?_
       rw[Jq.out.1 h5]at h4;cases h4)
   have abX:=aL HRE.out.2;clear hy l U hG N Y hnd HRE;have hlz:=HZ.out;simp only[En.agg,En.cells];have pI:=dh.alloc dh.size (.cells #[ep,ek,D,eo] 45);have J4:=ai.new w5 45 [ep,ek,D,eo];go_upto_region 14 with fail
   have hge:w.heap.size<=w5.heap.size:=dh.size;clear dh;generalize w5.alloc (.cells #[ep,ek,D,eo] 45)=w6 at*;generalize w5.heap.size=ge at*
   go_cut [77] (λv wx=>v= .bool (!ok&& !last)/\w6=wx)
   case first=>
    cases ok<;>cases last<;>(go_wp2;go_meet;case rel=>exact⟨rfl,rfl⟩)
   case rest=>
   obtain⟨rfl,rfl⟩:=hcut
   rcases tb:(!ok&& !last)with _|_
   rotate_left
   ·have u:=aL (HN.out tb)
    clear HN HX HK HZ HD Jq tl K;go_wp2;go_ret2;exact⟨by rw[u.out];rfl,pI.mono (nL g)⟩
   have HX:=aL (HX.out tb);clear HN tl;have x:=J4.four;go_upto_region 16 with fail
   go_cut [90] (λv wx=>v= .bool cnd/\w6=wx)
   case first=>
    clear HX HK Jq
    rcases tk:(ek==3)with _|_<;>cases ok<;>cases fo<;>cases last
    all_goals first|(exact absurd tb (by decide))|(go_wp2;go_meet;exact⟨by rw[K,tk];rfl,rfl⟩)
   case rest=>
   obtain⟨rfl,rfl⟩:=hcut;clear K tb
   cases cnd
   ·have u:=aL (HX.out rfl)
    clear HX HK x;go_wp2;go_roundw
    case rel=>exact⟨k+1,nx,hlt,by go_num,rfl,by rw[<-WI.out,Jp.out];exact u,aL (by
     rw[<-WI.out];rw[Sy.eX,af]at hlz
     omega),pI⟩
    case measure=>simp[intOf];omega
   obtain⟨het,hF⟩:=HK.out rfl;have u:=aL hF;clear hF HX HK;have hw6:=hw.below pI g;have Z:=hw6.two;have hwz:IntKind.i64.wrap (z+1)=z+1:=lm _ (by have:=XN.out;omega)
   have hn1:¬gw=ge:=by omega
   have hn2:¬ge=gw:=by omega
   have jV:Below gw w (w6.setCell ⟨gw,1,none⟩ (.int .i64 (z+1))):=(pI.mono (nL g)).setCell (p:=⟨gw,1,none⟩) aR _;have hw7:ai (w6.setCell ⟨gw,1,none⟩ (.int .i64 (z+1))) gw 175 [.pointer gs,.int .i64 (z+1)]:=hw6.bY 1 _;have OJ:=J4.far (p:=⟨gw,1,none⟩) hn2 (.int .i64 (z+1));have hN7:Off (λk=>k=gw) (w6.setCell ⟨gw,1,none⟩ (.int .i64 (z+1))) (λw=>bH w w (some ⟨b,o,none⟩) names):=HON.out.on (((Fr.of (X:=λk=>k=gw) pI)).at_ 1 _) (Sub.refl _ _)
   go_upto_region 18 with fail
   clear x Z hw6 J4;generalize w6.setCell ⟨gw,1,none⟩ (.int .i64 (z+1))=w7 at*;have x:=OJ.four;have Z:=hw7.two
   rcases h with _|h
   ·have t8:decide ((8:Int)<z+1)=true:=fw (by have:=XN.out;omega)
    go_wp2;go_ret2;exact⟨by rw[u.out];rfl,jV⟩
   have t8:decide ((8:Int)<z+1)=false:=bN (by have:=XN.out;omega)
   have cP:=λW=>parse_any D W (by omega)
   unfold jI at cP;have HTP:=aL (Sy.ru D);have UU:Hid ((Pt.parse D).2≠0->R=([],(Pt.parse D).2)):=aL (λhx=>u.out.trans (Sy.Gq rfl hx))
   have Qh:Hid ((Pt.parse D).2=0->R=Sy.walk T fo h ((Pt.parse D).1++rest) (if Sy.slash D then []else s)):=aL (λhp=>u.out.trans (Sy.CW hp))
   generalize Pt.parse D.data.toList=pp at cP HTP UU Qh;obtain⟨H,pe⟩:=pp;dsimp only at cP HTP UU Qh;clear u;go_wp2_with fail;clear Z x;refine(cP w7).mono ?_
   rintro e O ⟨v8,rfl,Rk,I⟩;have sK:=jV.trans (I.mono (nL hw7.lt));have Q:=hw7.below I hw7.lt;have Zp:=OJ.below I OJ.lt;have hN8:=hN7.on (Fr.of (X:=λk=>k=gw) I) (Sub.refl _ _)
   obtain⟨M,L,rfl,hc8,vN,XO⟩:=aT.off Rk (X:=λk=>k=gw) (λq F=>F▸hw7.lt)
   have hnl:H.length<=81:=eT (Sy.rq H) HTP.out;clear I Rk jV hw7 OJ hN7 cP
   rcases tp:(pe !=0)with _|_
   rotate_left
   ·have u:=aL (UU.out (by simpa using tp))
    go_wp2;go_ret2;exact⟨by rw[u.out];rfl,sK⟩
   have u:=aL (Qh.out (by simpa using tp))
   clear UU Qh;obtain rfl:pe=0:=by simpa using tp
   clear tp;have cH:=λW=>rP D ⟨#[47]⟩ W
   rw[show Lib.hasPrefix D (⟨#[47]⟩:ByteArray).data.toList=Sy.slash D from rfl]at cH
   have x:=Zp.four;go_wp2_with fail;refine(cH O).mono ?_
   rintro e O ⟨rfl,rfl⟩;obtain⟨fr,S⟩:∃fr:ByteArray,fr=bif Sy.slash D then⟨#[]⟩else s:=⟨_,rfl⟩;have hf1:(if Sy.slash D then []else s)=fr.data.toList:=by rw[S];cases Sy.slash D<;>rfl
   have hf2:fr.size<=s.size:=by rw[S];cases Sy.slash D;exact aR;exact bL _
   rw[hf1]at u;clear hf1 cH;go_upto_if 115 with fail
   go_cut [20] (λv wx=>v= .string fr/\O=wx)
   case first=>
    rcases tsl:Sy.slash D with _|_
    ·rw[tsl]at S
     go_wp2;go_meet
     case rel=>exact⟨by rw[S];rfl,rfl⟩
    rw[tsl]at S;go_wp2;go_meet
    case rel=>exact⟨by rw[S];rfl,rfl⟩
   case rest=>
   obtain⟨rfl,rfl⟩:=hcut;clear S x;have Z:=Q.two;have hwk:IntKind.i64.wrap ((k:Int)+1)=(k:Int)+1:=lm _ (by omega)
   have hcl:names.length<=c:=uu.out;have hrl:names.length- (k+1)=rest.length:=by rw[WI.out,gM]
   have adx:rest.length<=names.length:=by omega
   have hzz:z+1=8- (h:Int):=by have:=XN.out;omega
   obtain⟨xs,hxs⟩:∃xs,xs=H++rest:=⟨_,rfl⟩;have Ue:=aL hxs;rw[<-hxs]at u;have HZZ:=aL hzz;clear hzz;have abY:fr.size+Sy.tot xs<=1000*(9-h):=by
    have h1:=HTP.out;rw[Sy.eX]at hlz;rw[hxs,Sy.ML];omega
   clear hxs
   by_cases hck:c=k+1
   focus
    go_wp2_with fail;have hm9:bH (O.alloc (.cells #[.slice M H.length L,.slice (some ⟨b,o,none⟩) rest.length 0] 41)) (O.alloc (.cells #[.slice M H.length L,.slice (some ⟨b,o,none⟩) rest.length 0] 41)).heap.size (some ⟨b,o,none⟩) rest:=by
     have hr0:rest=[]:=abX.out (by omega)
     rw[hr0];exact bH.nil _ _ _
    have jv:=sK.alloc (nL Q.lt) (.cells #[.slice M H.length L,.slice (some ⟨b,o,none⟩) rest.length 0] 41);have V:=Q.alloc (.cells #[.slice M H.length L,.slice (some ⟨b,o,none⟩) rest.length 0] 41);have Uf:=XO.on (Fr.alloc (λk=>k=gw) O (.cells #[.slice M H.length L,.slice (some ⟨b,o,none⟩) rest.length 0] 41)) (Sub.refl _ _)
    have hk9:=ai.new O 41 [.slice M H.length L,.slice (some ⟨b,o,none⟩) rest.length 0];clear Q XO hN8 sK;generalize O.alloc (.cells #[.slice M H.length L,.slice (some ⟨b,o,none⟩) rest.length 0] 41)=w9 at*;have cC:=(zC O M (some ⟨b,o,none⟩) L 0 H rest w9 hk9 Uf.here hm9 vN (λq=>by cases q) (by omega) (by omega))
   rotate_left
   focus
    go_wp2_with fail;have hm9:bH (O.alloc (.cells #[.slice M H.length L,.slice (some ⟨b,o+(k+1),none⟩) rest.length (c- (k+1))] 41)) (O.alloc (.cells #[.slice M H.length L,.slice (some ⟨b,o+(k+1),none⟩) rest.length (c- (k+1))] 41)).heap.size (some ⟨b,o+(k+1),none⟩) rest:=by
     rw[WI.out];exact bH.drop (hN8.on (Fr.alloc (λk=>k=gw) O _) (Sub.refl _ _)).here (k+1)
    have jv:=sK.alloc (nL Q.lt) (.cells #[.slice M H.length L,.slice (some ⟨b,o+(k+1),none⟩) rest.length (c- (k+1))] 41);have V:=Q.alloc (.cells #[.slice M H.length L,.slice (some ⟨b,o+(k+1),none⟩) rest.length (c- (k+1))] 41);have Uf:=XO.on (Fr.alloc (λk=>k=gw) O (.cells #[.slice M H.length L,.slice (some ⟨b,o+(k+1),none⟩) rest.length (c- (k+1))] 41)) (Sub.refl _ _)
    have hk9:=ai.new O 41 [.slice M H.length L,.slice (some ⟨b,o+(k+1),none⟩) rest.length (c- (k+1))];clear Q XO hN8 sK;generalize O.alloc (.cells #[.slice M H.length L,.slice (some ⟨b,o+(k+1),none⟩) rest.length (c- (k+1))] 41)=w9 at*;have cC:=(zC O M (some ⟨b,o+(k+1),none⟩) L (c- (k+1)) H rest w9 hk9 Uf.here hm9 vN (λq=>by cases q) (by omega) (by omega))
   all_goals
    rw[<-Ue.out]at cC;clear hrl hck;refine cC.mono ?_
    rintro e w10 ⟨v10,rfl,aao,I⟩;have zD:=jv.trans (I.mono (nL V.lt));have aap:=V.below I V.lt;rw[HZZ.out]at aap;obtain⟨A10,c10,rfl,UW,hA10,abZ⟩:=aT.off aao (X:=λk=>k=gw) (λq F=>F▸V.lt)
    clear I aao jv V hm9 Uf hk9;have cI:=IH.out h (by omega) (by omega) gw xs A10 c10 fr w10 aap hgs ((zD.cell (p:=⟨gs,2,none⟩) hgs).trans hT2) (Rd.below pq zD) abZ hA10 UW abY
    rw[<-u.out]at cI;obtain⟨rs,_,hrs⟩:=oU R.1;unfold xU at cI;rw[hrs]at cI;go_wp2_with fail;refine cI.mono ?_
    rintro e WB ⟨rfl,I⟩;go_wp2;go_ret2;exact⟨by rw[hrs];rfl,zD.trans I⟩
  obtain rfl:k=names.length:=by omega
  have u:=aL (N.out);rw[oF,Sy.Gm]at u;clear N HZ;go_wp2;go_ret2;exact⟨by rw[u.out];rfl,hB.mono (nL g)⟩
theorem ai.three{w:World}{g:Nat}{t:TypeId}{a b c:Value}(h:ai w g t [a,b,c]):w.cell? g=some a/\w.cell? ⟨g,1,none⟩=some b/\w.cell? ⟨g,2,none⟩=some c/\(∀i,w.frozen? ⟨g,i,none⟩=false)/\g<w:=⟨h.cell 0,h.cell 1,h.cell 2,h.frozen,h.lt⟩
theorem Sy.Ok.tl{s:St}(h:Sy.Ok s):s.T.length<=80:=by
 have a:=(Tr.parts (u:=s.u) (by rw[h.2])).sl
 rw[h.2]at a;exact a
theorem aQ.seen{w:World}{p:Pl}{s:St}(h:aQ w p s):∃AT cT,w.cell? ⟨p.gs,2,none⟩=some (.slice AT s.T.length cT)/\aC w w AT s.T/\s.T.length<=cT/\p.gs<w:=by
 obtain⟨j,e,AT,i,g,cT,a,_,b,c⟩:=h.box;exact⟨AT,cT,a.cell 2,b.here,c,a.lt⟩
def iL(r:Pt.Bs×Int)(w:World)(e:Ending)(w':World):Prop:=e= .returned (.tuple #[Pt.str r.1,r.2])/\Below w w w'
theorem j_(p:Pl)(s:St)(pa:ByteArray)(fo:Bool)(w:World)(h:aQ w p s)(hk:Sy.Ok s)(hp:pa.size<=140737488355328):Calls prog 105 #[.pointer p.gs,pa,fo] w (iL (Sy.find s.T pa fo) w):=by
 have HK:=aL hk;have HA:=aL h;have u:=parse_any pa w hp;unfold jI at u;unfold iL;clear h hk;have l:=aL (Sy.ru pa);obtain⟨R,H⟩:∃R,R=Sy.find s.T pa fo:=⟨_,rfl⟩;rw[<-H];unfold Sy.find at H;have j:=aL H;clear H;generalize Pt.parse pa.data.toList=pp at u l j;obtain⟨A,G⟩:=pp;dsimp only at u l j;go_enter func105,ntmps105;go_wp2_with fail;refine u.mono ?_
 rintro e i ⟨v1,rfl,O,g⟩;have I:=HA.out.below g
 rcases U:(G !=0)with _|_
 rotate_left
 ·have K:G≠0:=by simpa using U
  have m:Hid (R=([],G)):=aL (by rw[j.out,aM K])
  clear j u;go_wp2;go_ret2;exact⟨by rw[m.out];rfl,g⟩
 obtain rfl:G=0:=by simpa using U
 have j:=aL (j.out.trans (av (by decide)))
 clear U u;have hnl:A.length<=81:=eT (Sy.rq A) l.out;obtain⟨AT,cT,W,v,Np,B⟩:=I.seen;have Q:=g.alloc g.size (.cells #[.pointer p.gs,(0:Int)] 175);have y:ai (i.alloc (.cells #[.pointer p.gs,(0:Int)] 175)) i 175 [.pointer p.gs,.int .i64 (8- ((8:Nat):Int))]:=ai.new i 175 [.pointer p.gs,(0:Int)];have c:Below i i (i.alloc (.cells #[.pointer p.gs,(0:Int)] 175)):=(aa _ i).alloc aR _;obtain⟨Y,c1,rfl,V,L,x⟩:=aT.off O (X:=λk=>k=i.heap.size/\k<w) (λq hq=>hq.2)
 have z:Off (λk=>k=i.heap.size) (i.alloc (.cells #[.pointer p.gs,(0:Int)] 175)) (λw=>bH w w Y A):=λw' a b=>x w' (eT c.size a) λk hk _=>(b k (bE hk c.size) (by show¬k=i.heap.size;omega)).trans (c.block k hk)
 have o:=walk_any s.T (HK.out.right) (by have:=HK.out.tl;omega) p.gs AT cT fo 8 aR i A Y c1 ⟨#[]⟩ _ y B ((c.cell (p:=⟨p.gs,2,none⟩) B).trans W) (Rd.below v c) z L V (by have:=l.out;show 0+_<=_;omega)
 unfold xU at o;rw[show(⟨#[]⟩:ByteArray).data.toList=[]from rfl]at o
 generalize Sy.walk s.T fo 8 A []=r at o j;obtain⟨F,S⟩:=r;dsimp only at o j;obtain⟨Z,D,n⟩:=oU F;rw[n]at o;have HL:Hid (Z.size=F.length):=aL (by rw[<-D,af])
 clear W v x z y;go_wp2_with fail;refine o.mono ?_
 rintro e w3 ⟨rfl,E⟩;have t:=g.trans ((c.trans E).mono g.size);clear Q c E o
 rcases N:(S==0)with _|_
 ·have m:Hid (R=(F,S)):=aL (by rw[j.out,av (λq=>by have M:=q.1;rw[M]at N;cases N)])
  go_wp2;go_ret2;exact⟨by rw[m.out,n];rfl,t⟩
 obtain rfl:S=0:=by simpa using N
 rcases tl:decide ((80:Int)<(Z.size:Int))with _|_
 ·have m:Hid (R=(F,0)):=aL (by
   rw[j.out,av (λq=>by
    have M:=q.2;rw[<-HL.out]at M;have h2:=j6 tl
    omega)])
  go_wp2;go_ret2;exact⟨by rw[m.out,n];rfl,t⟩
 have m:Hid (R=([],4)):=aL (by
  rw[j.out,aM ⟨rfl,by
   rw[<-HL.out];have h2:=iA tl
   omega⟩])
 go_wp2;go_ret2;exact⟨by rw[m.out];rfl,t⟩
abbrev Pl.plus(p:Pl)(g:Nat):Pl:={p with e:=λk=>p.e k\/k=g}
def mD(p:Pl)(r:St×An)(w:World)(e:Ending)(w':World):Prop:=
 ∃p' v,e= .returned (.agg #[r.2.err,r.2.n,r.2.text,v])/\(∃A c,v= .slice A r.2.names.length c/\Off p'.X w' λw=>bH w w A r.2.names)/\aQ w' p' r.1/\p'.gs=p.gs/\p'.e=p.e/\Fr p.C w w'/\Sub w p'.C p.C
theorem aQ.plus{w:World}{p:Pl}{s:St}(h:aQ w p s)(o:Obj):aQ (w.alloc o) (p.plus w) s:=
 h.push ((aa _ w).alloc aR o) (λk=>k=w.heap.size) λk a=>⟨uE a.symm,by rw[a,bX];omega⟩
theorem Fr.off{X:Nat->Prop}{w w':World}(h:Fr X w w'){p:Addr}(hp:w.heap.size<=p.block)(u:Value):Fr X w (w'.setCell p u):=
 h.trans (Y:=λk=>k=p.block) (Fr.set (X:=λk=>k=p.block) w' rfl u) λk a e=>by have e:k=p.block:=e;omega
theorem aQ.late{w:World}{p:Pl}{s:St}{g:Nat}(h:aQ w (p.plus g) s)(i:Nat)(u:Value):aQ (w.setCell ⟨g,i,none⟩ u) (p.plus g) s:=
 h.fr (Y:=λk=>k=g) (Fr.set (X:=λk=>k=g) w rfl u) λ_ _ e=> .inr e
theorem aN{p p':Pl}{s':St}{a:An}{w wk:World}{ga:Nat}(hga:w.heap.size<=ga)(hA:aQ wk (p'.plus ga) s')(he:p'.e=p.e)(hgs:p'.gs=p.gs)(hF:Fr p.C w wk)(hS:Sub w p'.C p.C)(hn:a.names=[]):mD p (s',a) w (.returned (.agg #[a.err,a.n,a.text,()])) ((((wk.setCell ⟨ga,0,none⟩ (.int .i64 a.err)).setCell ⟨ga,1,none⟩ (.int .i64 a.n)).setCell ⟨ga,2,none⟩ (.string a.text)).setCell ⟨ga,3,none⟩ (.slice none 0 0)):=by
 have b:=(((hA.late 0 (.int .i64 a.err)).late 1 (.int .i64 a.n)).late 2 (.string a.text)).late 3 (.slice none 0 0)
 exact⟨p',_,rfl,⟨none,0,by rw[hn];rfl,by rw[hn];exact Off.always λ_=>Rd.nil⟩,b.pop p'.e λ_ q=> .inl q,hgs,he,
  (((hF.off (p:=ga) hga _).off (p:=⟨ga,1,none⟩) hga _).off (p:=⟨ga,2,none⟩) hga _).off (p:=⟨ga,3,none⟩) hga _,hS⟩
theorem ai.Jr{p:Pl}{s:St}{w w':World}{g:Nat}{t:TypeId}{cs:List Value}(h:ai w g t cs)(hA:aQ w (p.plus g) s)(hf:Fr p.C w w'):ai w' g t cs:=h.fr hf λa=>hA.ce g a (.inr rfl)
theorem UX:∀m:Fin 64,∀k:Fin 6,(bits .and .i64 ((m.1:Nat):Int) ((2^k.1:Nat):Int)==0)= !Sy.bit ((m.1:Nat):Int) k.1:=by decide+kernel
theorem qw{n:Int}(h0:0<=n)(h1:n<=63)(k:Fin 6):(bits .and .i64 n ((2^k.1:Nat):Int)==0)= !Sy.bit n k.1:=by
 obtain⟨m,rfl⟩:∃m:Nat,n=m:=⟨n.toNat,by omega⟩
 exact UX ⟨m,by omega⟩ k
theorem Eu{n:Int}(h0:0<=n)(h1:n<=63)(k:Fin 6):(bits .and .i64 n ((2^k.1:Nat):Int) !=0)=Sy.bit n k.1:=by
 show(!(bits .and .i64 n ((2^k.1:Nat):Int)==0))=_
 rw[qw h0 h1 k,Bool.not_not]
theorem Off.less{X Y:Nat->Prop}{w:World}{P:World->Prop}(h:Off X w P)(hs:∀k,Y k->X k):Off Y w P:=λc a b=>h c a λk e g=>b k e λy=>g (hs k y)
def qx(w:World)(ga:Nat)(e n:Int)(t:ByteArray)(v:Value):World:=(((w.setCell ⟨ga,0,none⟩ (.int .i64 e)).setCell ⟨ga,1,none⟩ (.int .i64 n)).setCell ⟨ga,2,none⟩ (.string t)).setCell ⟨ga,3,none⟩ v
theorem iT{p:Pl}{r:St×An}{w w1 w2:World}{ga:Nat}{e:Ending}(hga:w.heap.size<=ga)(hF:Fr p.C w w1)(h:mD (p.plus ga) r w1 e w2):∃A c,e= .returned (.agg #[r.2.err,r.2.n,r.2.text,.slice A r.2.names.length c])/\Fr p.C w1 w2/\
   mD p r w (.returned (.agg #[r.2.err,r.2.n,r.2.text,.slice A r.2.names.length c])) (qx w2 ga r.2.err r.2.n r.2.text (.slice A r.2.names.length c)):=by
 obtain⟨p',v,x,⟨A,c,y,D⟩,E,l,i,u,B⟩:=h;subst y;have g:p'=({p' with e:=p.e}:Pl).plus ga:=by
  obtain⟨a,b,c,d,F⟩:=p';dsimp only at i;subst i
  rfl
 have o:aQ w2 (({p' with e:=p.e}:Pl).plus ga) r.1:=g▸E
 have z:=(((o.late 0 (.int .i64 r.2.err)).late 1 (.int .i64 r.2.n)).late 2 (.string r.2.text)).late 3 (.slice A r.2.names.length c);have m:Fr (λk=>k=ga) w2 (qx w2 ga r.2.err r.2.n r.2.text (.slice A r.2.names.length c)):=((((Fr.refl (λk=>k=ga) w2).at_ 0 _).at_ 1 _).at_ 2 _).at_ 3 _
 have j:Fr p.C w w2:=hF.trans u (Sub.refl _ _);refine⟨A,c,x,u,{p' with e:=p.e},_,rfl,⟨A,c,rfl,?_⟩,z.pop p.e λ_ q=> .inl q,l,rfl,?_,λk t q=> ?_⟩
 ·refine((D.on (Y:=p'.X) (m.wide λk t q=> ?_) (Sub.refl _ _))).less λk q=> ?_
  ·rw[g];exact .inr (.inr q)
  rw[g];exact q.imp_right .inl
 ·exact(((j.off (p:=ga) hga _).off (p:=⟨ga,1,none⟩) hga _).off (p:=⟨ga,2,none⟩) hga _).off (p:=⟨ga,3,none⟩) hga _
 exact B k (bE t hF.size) q
theorem RJ{p p':Pl}{s':St}{a:An}{v:Value}{w wk:World}{ga:Nat}(hga:w.heap.size<=ga)(hA:aQ wk (p'.plus ga) s')(he:p'.e=p.e)(hgs:p'.gs=p.gs)(hF:Fr p.C w wk)(hS:Sub w p'.C p.C)(hv:∃A c,v= .slice A a.names.length c/\Off (p'.plus ga).X wk λw=>bH w w A a.names):mD p (s',a) w (.returned (.agg #[a.err,a.n,a.text,v])) (qx wk ga a.err a.n a.text v):=by
 have h:=(((hA.late 0 (.int .i64 a.err)).late 1 (.int .i64 a.n)).late 2 (.string a.text)).late 3 v;obtain⟨A,c,g,i⟩:=hv;have b:Fr (λk=>k=ga) wk (qx wk ga a.err a.n a.text v):=((((Fr.refl (λk=>k=ga) wk).at_ 0 _).at_ 1 _).at_ 2 _).at_ 3 _
 refine⟨p',v,rfl,⟨A,c,g,?_⟩,h.pop p'.e λ_ q=> .inl q,hgs,he,?_,hS⟩
 ·exact((i.on (Y:=(p'.plus ga).X) (b.wide λk j q=> .inr (.inr q)) (Sub.refl _ _))).less λk q=>q.imp_right .inl
 exact(((hF.off (p:=ga) hga _).off (p:=⟨ga,1,none⟩) hga _).off (p:=⟨ga,2,none⟩) hga _).off (p:=⟨ga,3,none⟩) hga _
theorem dV(l:Pt.Bs):Pt.str l= .string (Sy.bytesOf l):=rfl
theorem dF(l:Pt.Bs):(Sy.bytesOf l).data.toList=l:=rfl
theorem lu.lt{w:World}{b o:Nat}{c:Ca}(h:lu w b o c):b<w:=h.1
theorem fO{T:List En}{q:Pt.Bs}{fo:Bool}:(Sy.find T q fo).2=0->(Sy.bytesOf (Sy.find T q fo).1).size<=80:=λh=>Sy.find_le h
def jK(c:Ca):Prop:=c.path.size<=1048576/\c.to.size<=1048576/\c.text.size<=1048576
theorem Fr.xm{p:Pl}{g:Nat}{w w':World}(h:Fr (p.plus g).C w w'):Fr p.C w w':=h
theorem G_{P:Program}(w:World){t te:TypeId}(p:Option Addr)(hp:P.underlying t=some (.pointer te)):(binOp .eql t (.pointer none) (.pointer p)).run P w= .ok (.bool p.isNone) w:=by
 have h:∀d:Nat,(Op.equalIn (d+1) t (.pointer none) (.pointer p)).run P w= .ok p.isNone w:=λd=>by
  simp[Op.equalIn,u7 hp]
 simp only[binOp];simp[Op.equal,Op.maxDepth,h 9999]
theorem Ha{P:Program}(w:World){t te:TypeId}{j:TypeInfo}(hp:P.underlying t=some (.pointer te))(hte:P.info? te=some j)(hj:j.size≠0){g g':Nat}{t1 t2:TypeId}{cs cs':List Value}(h1:ai w g t1 cs)(h2:ai w g' t2 cs'):(binOp .eql t (.pointer g) (.pointer g')).run P w= .ok (.bool (g==g')) w:=by
 have i:(sameAddr (g:Addr) ⟨g',0,none⟩).run P w= .ok (g==g') w:=by
  rcases si (g=g')with rfl|c
  ·rw[run_sameAddr_same];simp
  rw[run_sameAddr_other (a:=⟨g,0,none⟩) (b:=⟨g',0,none⟩) (P:=P) (w:=w) (λe=>c (om Addr.block e)) h1 h2]
  have:(g==g')=false:=by simp[c]
  rw[this]
 have h:∀d:Nat,(Op.equalIn (d+1) t (.pointer g) (.pointer g')).run P w= .ok (g==g') w:=λd=>by
  simp[Op.equalIn,u7 hp,sizeOf,typeInfo,hte,hj,i]
 simp only[binOp];simp[Op.equal,Op.maxDepth,h 9999]
theorem OZ:(prog.info? 149).map (λi=>(i.zero,i.size,i.bytes))=some (some (.agg #[Qs.e,Qs.e,()]),3,56):=by kernel_rfl
theorem UY:(prog.info? 144).map (λi=>(i.zero,i.size,i.bytes))=some (some (.pointer none),1,8):=by kernel_rfl
theorem Nq(w:World){g g':Nat}{t1 t2:TypeId}{cs cs':List Value}(h1:ai w g t1 cs)(h2:ai w g' t2 cs'):(binOp .eql 144 (.pointer g) (.pointer g')).run prog w= .ok (.bool (g==g')) w:=by
 obtain⟨b,a,_,c,_⟩:=lw OZ;exact Ha w underlying144 a (by omega) h1 h2
def He:Option Nat->Int
 |some k=>k
 |none=> -1
theorem O0{r:List (Option Nat)}(h:∀j,(hj:j<r.length)->r[j]≠none):r.findIdx? (λx=>x.isNone)=none:=by
 rw[List.findIdx?_eq_none_iff];intro x a;obtain⟨j,hj,rfl⟩:=List.mem_iff_getElem.1 a;have:=h j hj
 cases hq:r[j]with
 |none=>exact absurd hq this
 |some _=>rfl
theorem O1{r:List (Option Nat)}{k:Nat}(hk:k<r.length)(h:∀j,(hj:j<r.length)->j<k->r[j]≠none)(he:r[k]=none):r.findIdx? (λx=>x.isNone)=some k:=by
 rw[wm];refine⟨hk,by rw[he];rfl,λj hj=> ?_⟩
 have:=h j (by omega) hj
 cases hq:r[j]with
 |none=>exact absurd hq this
 |some _=>simp
theorem O3(g off:Nat)(D:List Nat)(r:List (Option Nat))(w:World)(hg:g<w)(hr:r.length=8)(hc:∀k,(hk:k<r.length)->w.cell? ⟨g,off+k,none⟩=some (sN D r[k])):Calls prog 130 #[.slice (some ⟨g,off,none⟩) 8 8,.pointer none] w λe w'=>e= .returned (.int .i64 (He (r.findIdx? λx=>x.isNone)))/\w'=w:=by
 have E:=aL hc;clear hc;have u:=λ(W:World) (p:Option Addr)=>G_ (P:=prog) W p underlying67
 go_enter func130,ntmps130;go_wp2
 go_loopw [8] (λi wr=>Hid (wr=w)/\∃k:Nat,k<=8/\i= .int .i64 k/\Hid (∀j,(l:j<r.length)->j<k->r[j]≠none)) (λi _=>8- (intOf i).toNat)
 case atStart=>exact⟨aL rfl,0,by omega,rfl,aL λj _ h=>absurd h (l5 j)⟩
 case round=>
  obtain⟨a,k,hk,rfl,o⟩:=hrel;have a:=a.out
  by_cases z:k<8
  ·have m:wr.cell? ⟨g,off+k,none⟩=some (sN D r[k]):=by rw[a];exact E.out k (by omega)
   have y:=aL (O1 (r:=r) (k:=k) (by omega) o.out)
   have A:g<wr:=by rw[a];exact hg
   obtain⟨x,t⟩:∃x,x=r[k]:=⟨_,rfl⟩;have F:=aL t;rw[<-t]at m y;clear t;have c:=aL a;clear a
   cases x with
   |none=>
    simp only[sN]at m;have n:=aL (y.out rfl);go_wp2;go_ret;exact⟨by rw[n.out];rfl,c.out⟩
   |some d=>
    simp only[sN,ptr]at m;obtain⟨v,b⟩:∃v:Addr,v=⟨D.getD d 0,0,none⟩:=⟨_,rfl⟩;rw[<-b]at m;clear b;go_wp2;go_roundw
    case rel=>exact⟨c,k+1,by omega,by go_num,aL λj l B=>by
     rcases iB j k with q|q
     ·exact o.out j l q
     ·have e:j=k:=by omega
      subst e;rw[<-F.out];exact λq=>by cases q⟩
    case measure=>simp[intOf];omega
  have n:=aL (O0 (r:=r) λj l=>o.out j l (by omega))
  have c:=aL a;clear a;go_wp2;go_ret;exact⟨by rw[n.out];rfl,c.out⟩
theorem aQ.fds{w:World}{p:Pl}{s:St}(h:aQ w p s){n:Nat}(hi:Sy.In n s){o k:Nat}(ho:o<4)(hk:k<8):w.cell? ⟨p.gs,4+(o*8+k),none⟩=some (sN p.D (Sy.fdAt s o k)):=by
 obtain⟨_,_,_,_,_,_,a,_⟩:=h.box;rw[a.cell,show 4+(o*8+k)=(o*8+k)+1+1+1+1 by omega]
 exact Sy.Rz hi.fdr (by rw[hi.fdl];exact ho) hk
theorem Dp(p:Pl)(s:St)(n o:Nat)(w:World)(h:aQ w p s)(hi:Sy.In n s)(ho:o<4):Calls prog 104 #[.pointer p.gs,o] w λe w'=>e= .returned (.int .i64 (He (Sy.free s o)))/\w'=w:=by
 have c:p.gs<w:=h.bz h.jq;have j:(s.fds.getD o []).length=8:=by
  have b:o<s.fds.length:=by rw[hi.fdl];exact ho
  rw[bi,bA b];exact hi.fdr _ (cz b)
 have g:=O3 p.gs (4+o*8) p.D (s.fds.getD o []) w c j (λk i=>by
  have b:=h.fds hi ho (show k<8 by omega)
  rw[z8,b];unfold Sy.fdAt;rw[bi,bA i];rfl)
 obtain⟨R,a⟩:∃R,R=Sy.free s o:=⟨_,rfl⟩;rw[<-a];unfold Sy.free at a;rw[<-a]at g;clear a;go_enter func104,ntmps104;go_wp2_with fail;refine g.mono ?_
 rintro e w' ⟨rfl,rfl⟩;go_wp2;go_ret;exact⟨rfl,rfl⟩
theorem Sy.oV{s:St}{i:Nat}(h:(Sy.obAt s i).p.data.toList=[]):Sy.textOf s i=(Sy.obAt s i).t:=aM h
theorem Sy.sQ{s:St}{i:Nat}(h:¬(Sy.obAt s i).p.data.toList=[]):Sy.textOf s i=((Tr.get s.T (Sy.obAt s i).p.data.toList).getD En.zero).t:=by
 unfold Sy.textOf;rw[av (show¬(Sy.obAt s i).P=[]from h)]
 show(match Tr.get s.T (Sy.obAt s i).p.data.toList with|some e=>e.t|none=>Sy.noE)=_
 cases Tr.get s.T (Sy.obAt s i).p.data.toList<;>rfl
theorem uA(p:Pl)(s:St)(n i:Nat)(w:World)(h:aQ w p s)(hi:Sy.In n s)(hn:n<=1000)(hk:Sy.Ok s)(hl:i<s.obs.length):Calls prog 133 #[.pointer p.gs,.pointer (p.f i:Nat)] w λe w'=>e= .returned (.string (Sy.textOf s i))/\Below w w w':=by
 obtain⟨D,I,M,K,Np,B⟩:=h.seen;obtain⟨A,c,Z,_,_⟩:=h.ob i hl;have hgb:=h.Ko hl;have N:(Sy.obAt s i).p.size<=80*(n+1):=(hi.obAt i).1;have G:=aL (Sy.oV (s:=s) (i:=i));have H:=aL (Sy.sQ (s:=s) (i:=i));have HT:=aL hk.right;have htl:=hk.tl;obtain⟨R,u⟩:∃R,R=Sy.textOf s i:=⟨_,rfl⟩;rw[<-u]at G H;rw[<-u];clear u hi h hk;generalize Sy.obAt s i=o at*;obtain⟨E,t,l⟩:=o;dsimp only at Z N G H;obtain⟨L,f1,f2,ff,U⟩:=Z.three;generalize p.f i=k at*;generalize p.gs=gs at*;go_enter func133,ntmps133
 rcases aG E with⟨O,e1,e2⟩|⟨O,e1,e2⟩
 ·have F:=aL (G.out O)
  go_wp2;go_ret;exact⟨by rw[F.out];rfl,aa _ _⟩
 have F:=aL (H.out O);have cG:=λW h=>get_any D I s.T E W h (Tr.bn HT.out) (by omega) (by omega)
 clear G H;have u:∀W,Below w w W->aC W W D s.T:=λW q=>(Rd.below K q).more q.size
 have m:Below w w w.drew:=(aa _ w).drew;have j:Below w w (w.alloc (.cells #[Qs.e,(0:Int),Qs.e,false] 45)).drew:=((aa _ w).alloc aR _).drew;have Y:ai (w.alloc (.cells #[Qs.e,(0:Int),Qs.e,false] 45)).drew w 45 [Qs.e,(0:Int),Qs.e,false]:=ai.new w _ _;have hn1:¬w.heap.size=gs:=by omega
 have hn2:¬w.heap.size=k:=by omega
 have hn3:¬gs=w.heap.size:=by omega
 have hn4:¬k=w.heap.size:=by omega
 go_upto_region 3 with fail
 go_region_held3 (λW=>W.cell? ⟨gs,2,none⟩=some (.slice D s.T.length I)/\W.cell? k=some (.string E))
  (first|exact⟨M,L⟩|exact v|exact hS7|go_keep)
  (first|(go_at_call 81;refine(cG w.drew (u _ m)).mono ?_;rintro e g ⟨r,rfl,Q,b⟩;obtain⟨y,x⟩:∃y,y=r.getD En.zero:=⟨_,rfl⟩;rw[<-x];obtain⟨yp,yk,V,yo⟩:=y;simp only[En.agg,En.cells];have a:Below w w g:=m.trans (b.mono m.size);have v:g.cell? ⟨gs,2,none⟩=some (.slice D s.T.length I)/\g.cell? k=some (.string E):=⟨(a.cell (p:=⟨gs,2,none⟩) B).trans M,(a.cell (p:=k) U).trans L⟩)|(go_at_call 81;refine(cG (w.alloc (.cells #[Qs.e,(0:Int),Qs.e,false] 45)).drew (u _ j)).mono ?_;rintro e g ⟨r,rfl,Q,b⟩;obtain⟨y,x⟩:∃y,y=r.getD En.zero:=⟨_,rfl⟩;rw[<-x];obtain⟨yp,yk,V,yo⟩:=y;simp only[En.agg,En.cells];have a:Below w w g:=j.trans (b.mono j.size);have v:g.cell? ⟨gs,2,none⟩=some (.slice D s.T.length I)/\g.cell? k=some (.string E):=⟨(a.cell (p:=⟨gs,2,none⟩) B).trans M,(a.cell (p:=k) U).trans L⟩;have z:=(Y.below b Y.lt).four))
 all_goals
  have S:Hid (R=V):=aL (by rw[F.out,<-Q.2 (.inl HT.out.2.1),<-x])
  clear x Q F;go_wp2;go_ret;refine⟨by rw[S.out];rfl,?_⟩
  first|exact a.alloc a.size _|exact(((a.setCell (p:=w.heap.size) aR _).setCell (p:=⟨w.heap.size,1,none⟩) aR _).setCell (p:=⟨w.heap.size,2,none⟩) aR _).setCell (p:=⟨w.heap.size,3,none⟩) aR _
end Go.Proofs.YtjppfhgkanbemabGreatDoor
