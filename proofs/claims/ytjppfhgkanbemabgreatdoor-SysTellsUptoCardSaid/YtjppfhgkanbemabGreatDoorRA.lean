/- A part of the proof of SysTells: RA. -/
import Derived.Test.YtjppfhgkanbemabGreatDoorSB
set_option maxHeartbeats 3000000
set_option maxRecDepth 100000
set_option linter.all false
namespace Go.Proofs.YtjppfhgkanbemabGreatDoor
open Tryz
open Go.RowKit Go.Shelf Go.Sort
def PE:Option Nat->Int
 |none=> -1
 |some d=>d
theorem Ym(x:Option Nat):tC x= .int .i64 (PE x):=by cases x<;>rfl
def mJ(f:List (List (Option Nat))):List Value:=f.flatMap λr=>r.map tC
def dY(l:List Ob)(vs:List Value):List Value:=(l.zip vs).flatMap λx=>[.string x.1.p,.string x.1.t,x.2]
def iY(l:List Rq):List Value:=l.flatMap λd=>[.int .i64 d.o,.int .i64 d.fl,.int .i64 d.at_]
theorem EN(a:Ob)(t:List Ob)(v:Value)(r:List Value):dY (a::t) (v::r)= .string a.p:: .string a.t::v::dY t r:=rfl
theorem o5(a:Rq)(t:List Rq):iY (a::t)= .int .i64 a.o:: .int .i64 a.fl:: .int .i64 a.at_::iY t:=rfl
theorem eu(k j:Nat):(k+1)*3+j=(k*3+j)+1+1+1:=by omega
theorem aaL{l:List Ob}{vs:List Value}(h:vs.length=l.length){k:Nat}(hk:k<l.length):∃v,vs[k]? =some v/\(dY l vs)[k*3+0]? =some (.string l[k].p)/\(dY l vs)[k*3+1]? =some (.string l[k].t)/\(dY l vs)[k*3+2]? =some v:=by
 induction l generalizing vs k with
 |nil=>exact absurd hk (l5 _)
 |cons a t ih=>
  cases vs with
  |nil=>simp at h
  |cons v r=>
   rw[EN]
   cases k with
   |zero=>exact⟨v,rfl,rfl,rfl,rfl⟩
   |succ k=>
    obtain⟨u,b,c,g,e⟩:=ih (vs:=r) (by simpa using h) (k:=k) (by simpa using hk)
    refine⟨u,b,?_,?_,?_⟩
    ·rw[eu];exact c
    ·rw[eu];exact g
    ·rw[eu];exact e
theorem aaM{l:List Rq}{k:Nat}(hk:k<l.length):(iY l)[k*3+0]? =some (.int .i64 l[k].o)/\(iY l)[k*3+1]? =some (.int .i64 l[k].fl)/\(iY l)[k*3+2]? =some (.int .i64 l[k].at_):=by
 induction l generalizing k with
 |nil=>exact absurd hk (l5 _)
 |cons a t ih=>
  rw[o5]
  cases k with
  |zero=>exact⟨rfl,rfl,rfl⟩
  |succ k=>
   obtain⟨b,e,c⟩:=ih (k:=k) (by simpa using hk)
   refine⟨?_,?_,?_⟩
   ·rw[eu];exact b
   ·rw[eu];exact e
   ·rw[eu];exact c
theorem Vt{l:List Ob}{vs:List Value}(h:vs.length=l.length)(k:Nat)(x:ByteArray):(dY l vs).set (k*3+0) (.string x)=dY (l.modify k λo=>{o with p:=x}) vs:=by
 induction l generalizing vs k with
 |nil=>simp[dY]
 |cons a t ih=>
  cases vs with
  |nil=>simp at h
  |cons v r=>
   cases k with
   |zero=>rfl
   |succ k=>
    rw[eu];exact om (λz=>Value.string a.p::Value.string a.t::v::z) (ih (vs:=r) (by simpa using h) k)
theorem Vu{l:List Ob}{vs:List Value}(h:vs.length=l.length)(k:Nat)(x:ByteArray):(dY l vs).set (k*3+1) (.string x)=dY (l.modify k λo=>{o with t:=x}) vs:=by
 induction l generalizing vs k with
 |nil=>simp[dY]
 |cons a t ih=>
  cases vs with
  |nil=>simp at h
  |cons v r=>
   cases k with
   |zero=>rfl
   |succ k=>
    rw[eu];exact om (λz=>Value.string a.p::Value.string a.t::v::z) (ih (vs:=r) (by simpa using h) k)
theorem Vw{l:List Ob}{vs:List Value}(h:vs.length=l.length)(k:Nat)(y:List Lk)(v:Value):(dY l vs).set (k*3+2) v=dY (l.modify k λo=>{o with l:=y}) (vs.set k v):=by
 induction l generalizing vs k with
 |nil=>simp[dY]
 |cons a t ih=>
  cases vs with
  |nil=>simp at h
  |cons v' r=>
   cases k with
   |zero=>rfl
   |succ k=>
    rw[eu];exact om (λz=>Value.string a.p::Value.string a.t::v'::z) (ih (vs:=r) (by simpa using h) k)
theorem Vx(l:List Rq)(k:Nat)(x:Int):(iY l).set (k*3+2) (.int .i64 x)=iY (l.modify k λd=>{d with at_:=x}):=by
 induction l generalizing k with
 |nil=>simp[iY]
 |cons a t ih=>
  cases k with
  |zero=>rfl
  |succ k=>rw[eu,o5,List.modify_succ_cons,o5,Av,Av,Av,ih]
theorem SV{f:List (List (Option Nat))}(hl:f.length=4)(hr:∀r∈f,r.length=8):(mJ f).length=32:=by
 match f,hl with
 |[r0,r1,r2,r3],_=>
  have c:=hr r0 (by simp)
  have a:=hr r1 (by simp)
  have b:=hr r2 (by simp)
  have e:=hr r3 (by simp)
  simp[mJ,c,a,b,e]
theorem ND:∀{f:List (List (Option Nat))} (_:∀r∈f,r.length=8) {o k:Nat} (ho:o<f.length) (hk:k<f[o].length),(mJ f)[o*8+k]? =some (tC f[o][k])
 |r::t,hr,0,k,_,hk=>by
  show(r.map tC++mJ t)[0*8+k]? =_
  have hk2:k<r.length:=hk;rw[FR,mE,l6 (by simpa using hk2),pE,bA hk2]
  rfl
 |r::t,hr,o+1,k,ho,hk=>by
  have a:=hr r (by simp)
  have b:=ND (f:=t) (λr h=>hr r (by simp[h])) (o:=o) (k:=k) (by simpa using ho) (by simpa using hk)
  show(r.map tC++mJ t)[(o+1)*8+k]? =_
  rw[kr (by simp;omega),show(o+1)*8+k- (r.map tC).length=o*8+k by simp[a];omega,b]
  simp
theorem IA:∀{f:List (List (Option Nat))} (_:∀r∈f,r.length=8) (o k:Nat) (_:k<8) (x:Option Nat),(mJ f).set (o*8+k) (tC x)=mJ (f.modify o λr=>r.set k x)
 |[],_,o,k,_,x=>by simp[mJ]
 |r::t,hr,0,k,hk,x=>by
  have h8:=hr r (by simp)
  show(r.map tC++mJ t).set (0*8+k) _=(r.set k x).map tC++mJ t
  rw[FR,mE,List.set_append_left _ _ (by simp;omega),List.map_set]
 |r::t,hr,o+1,k,hk,x=>by
  have h8:=hr r (by simp)
  have a:=IA (f:=t) (λr h=>hr r (by simp[h])) o k hk x
  show(r.map tC++mJ t).set ((o+1)*8+k) _=r.map tC++mJ (t.modify o _)
  rw[List.set_append_right _ _ (by simp;omega),show(o+1)*8+k- (r.map tC).length=o*8+k by simp[h8];omega,a]
theorem iI{w:World}{base:Nat}{e:TypeId}{size n:Nat}{v:Value}{xs:List Value}(h:w.ownsRow base e size v n xs):∃A c,v= .slice A n c:=by
 rcases aB h with⟨a,b⟩|⟨g,cap,a,_,_,_⟩
 ·exact⟨none,0,by rw[a,b]⟩
 exact⟨_,cap,a⟩
theorem WQ{a b:ByteArray}(h:a.data.toList=b.data.toList):a=b:=by
 obtain⟨⟨e⟩⟩:=a;obtain⟨⟨c⟩⟩:=b;have h:e=c:=h;rw[h]
theorem SX{w:World}{base base':Nat}{e e':TypeId}{size size' n n':Nat}{v v':Value}{xs xs':List Value}(h:w.ownsRow base e size v n xs)(h':w.ownsRow base' e' size' v' n' xs')(hne:e≠e'):∀q,v.ownBlock=some q->v'.ownBlock≠some q:=by
 obtain⟨_,⟨rfl,_⟩|⟨b,cap,cur,rfl,_,l,_⟩⟩:=h
 ·intro q c;cases c
 obtain⟨_,⟨rfl,_⟩|⟨m,i,j,rfl,_,g,_⟩⟩:=h'
 ·intro q _ c;cases c
 intro q c a;injection c with c
 injection a with a
 have c:b=q:=c;have a:m=q:=a;subst c;subst a;rw[l]at g;injection g with g
 injection g with _ k
 exact hne k
structure Rl where
 g:Nat
 vO:Value
 vD:Value
 e:Nat->Prop
def Rl.C(p:Rl)(k:Nat):Prop:=k=p.g\/p.vO.ownBlock=some k\/p.vD.ownBlock=some k
def Rl.X(p:Rl)(k:Nat):Prop:=p.C k\/p.e k
abbrev Rl.plus(p:Rl)(g:Nat):Rl:={p with e:=λk=>p.e k\/k=g}
def WR(w:World)(p:Rl)(r:Rw)(vO vD:Value):Prop:=∃AU AL AT cU cL cT,ai w p.g 107 (.slice AU r.u.U.length cU:: .slice AL r.u.L.length cL:: .slice AT r.T.length cT::vO::vD::mJ r.fds)/\Off p.X w (λw=>bT w w AU AL cU cL r.u)/\Off p.X w (λw=>aC w w AT r.T)/\r.T.length<=cT
def SY(w:World)(X:Nat->Prop)(v:Value)(l:List Ob):Prop:=∃vs:List Value,vs.length=l.length/\w.ownsRow 0 138 3 v l.length (dY l vs)/\∀k (h:k<l.length),∃A c,vs[k]? =some (.slice A l[k].l.length c)/\Off X w (λw=>dJ w w A l[k].l)/\l[k].l.length<=c
structure aO(w:World)(p:Rl)(r:Rw):Prop where
 box:WR w p r p.vO p.vD
 obs:SY w p.X p.vO r.objs
 des:w.ownsRow 0 142 3 p.vD r.des.length (iY r.des)
 ce:∀k,p.C k->¬p.e k
 el:∀k,p.e k->k<w.heap.size
namespace aO
open Tryz
variable {w w':World} {p:Rl} {r:Rw} {Y:Nat->Prop}
theorem blk(h:aO w p r):∃cs,ai w p.g 107 cs:=by
 obtain⟨_,_,_,_,_,_,a,_⟩:=h.box;exact⟨_,a⟩
theorem own(h:aO w p r):∃vs,w.ownsRow 0 138 3 p.vO r.objs.length (dY r.objs vs):=by
 obtain⟨vs,_,a,_⟩:=h.obs;exact⟨vs,a⟩
theorem g_O(h:aO w p r):p.vO.ownBlock≠some p.g:=by
 obtain⟨_,a⟩:=h.blk;obtain⟨_,b⟩:=h.own;exact iG b a (by decide)
theorem g_D(h:aO w p r):p.vD.ownBlock≠some p.g:=by
 obtain⟨_,a⟩:=h.blk;exact iG h.des a (by decide)
theorem O_D(h:aO w p r):∀q,p.vO.ownBlock=some q->p.vD.ownBlock≠some q:=by
 obtain⟨_,b⟩:=h.own;exact SX b h.des (by decide)
theorem rH(_:aO w p r):p.C p.g:= .inl rfl
theorem bz(h:aO w p r){k:Nat}(hk:p.C k):k<w:=by
 rcases hk with rfl|hk|hk
 ·obtain⟨_,a⟩:=h.blk;exact a.lt
 ·obtain⟨_,b⟩:=h.own
  exact(b.lt k hk).2
 exact(h.des.lt k hk).2
theorem mX(h:aO w p r){k:Nat}(hk:p.X k):k<w:=hk.elim h.bz (h.el k)
theorem sO(h:aO w p r)(hf:Fr Y w w')(hs:Sub w Y p.X)(hn:¬Y p.g):WR w' p r p.vO p.vD:=by
 obtain⟨o,b,j,n,c,k,l,i,e,m⟩:=h.box;have a:=hf.wide hs;exact⟨o,b,j,n,c,k,l.fr hf hn,i.on a (Sub.refl _ _),e.on a (Sub.refl _ _),m⟩
theorem EO(h:aO w p r)(hf:Fr Y w w')(hs:Sub w Y p.X)(hn:∀k,p.vO.ownBlock=some k->¬Y k):SY w' p.X p.vO r.objs:=by
 obtain⟨g,j,i,l⟩:=h.obs;refine⟨g,j,jJ i hf hn,λk a=> ?_⟩
 obtain⟨A,c,b,m,e⟩:=l k a;exact⟨A,c,b,m.on (hf.wide hs) (Sub.refl _ _),e⟩
theorem EP(h:aO w p r)(hf:Fr Y w w')(hn:∀k,p.vD.ownBlock=some k->¬Y k):w'.ownsRow 0 142 3 p.vD r.des.length (iY r.des):=jJ h.des hf hn
theorem fr(h:aO w p r)(hf:Fr Y w w')(hY:∀k,k<w.heap.size->Y k->p.e k):aO w' p r:=
 have g:Sub w Y p.X:=λk a c=> .inr (hY k a c)
 have b:∀k,p.C k->¬Y k:=λk a c=>h.ce k a (hY k (h.bz a) c)
 ⟨h.sO hf g (b _ h.rH),h.EO hf g λk a=>b k (.inr (.inl a)),h.EP hf λk a=>b k (.inr (.inr a)),h.ce,λ_ a=>bE (h.el _ a) hf.size⟩
theorem below(h:aO w p r)(hb:Below w w w'):aO w' p r:=h.fr (Y:=λ_=>False) (Fr.of hb) λ_ _ a=>a.elim
theorem grow(h:aO w p r)(hf:Fr Y w w')(hY:∀k,k<w.heap.size->Y k->p.e k)(e':Nat->Prop)(he:∀k,e' k->(k<w.heap.size->p.e k)/\k<w'.heap.size):aO w' {p with e:=e'} r:=by
 have E:=h.fr hf hY;have B:Fr p.X w w':=hf.wide λk a y=> .inr (hY k a y)
 have x:Sub w (Rl.X {p with e:=e'}) p.X:=λk a q=>q.elim (λq=> .inl q) λq=> .inr ((he k q).1 a)
 refine⟨?_,?_,E.des,λk a q=>h.ce k a ((he k q).1 (h.bz a)),λk a=>(he k a).2⟩
 ·obtain⟨o,j,l,i,t,m,b,u,n,v⟩:=h.box
  have z:ai w' p.g 107 _:=b.fr hf λy=>h.ce _ h.rH (hY _ b.lt y)
  exact⟨o,j,l,i,t,m,z,u.on B x,n.on B x,v⟩
 obtain⟨F,G,D,I⟩:=h.obs;refine⟨F,G,jJ D hf λk a y=>h.ce k (.inr (.inl a)) (hY k (h.bz (.inr (.inl a))) y),λk a=> ?_⟩
 obtain⟨A,c,K,H,L⟩:=I k a;exact⟨A,c,K,H.on B x,L⟩
theorem pop(h:aO w p r)(e:Nat->Prop)(he:∀k,e k->p.e k):aO w {p with e:=e} r:=
 h.grow (Y:=λ_=>False) (Fr.refl _ _) (λ_ _ b=>b.elim) e λk a=>⟨λ_=>he k a,h.el k (he k a)⟩
theorem plus(h:aO w p r)(o:Obj):aO (w.alloc o) (p.plus w) r:=
 h.grow (Y:=λ_=>False) (Fr.of ((aa _ w).alloc aR o)) (λ_ _ b=>b.elim) _ λk a=>⟨λc=>a.elim id λe=>by have e:k=w.heap.size:=e;omega,by
  rw[bX]
  rcases a with a|a
  ·have:=h.el k a;omega
  ·have a:k=w.heap.size:=a
   omega⟩
theorem late{g:Nat}(h:aO w (p.plus g) r)(i:Nat)(u:Value):aO (w.setCell ⟨g,i,none⟩ u) (p.plus g) r:=
 h.fr (Y:=λk=>k=g) (Fr.set (X:=λk=>k=g) w rfl u) λ_ _ e=> .inr e
theorem XM(h:aO w p r)(hf:Fr (λk=>k=p.g) w w'){AU AL AT:Option Addr}{cU cL cT:Nat}{u:Un}{T:List En}(hb:ai w' p.g 107 (.slice AU u.U.length cU:: .slice AL u.L.length cL:: .slice AT T.length cT::p.vO::p.vD::mJ r.fds))(h1:Off p.X w' λw=>bT w w AU AL cU cL u)(h2:Off p.X w' λw=>aC w w AT T)(h3:T.length<=cT):aO w' p {r with u:=u,T:=T}:=
 have b:Sub w (λk=>k=p.g) p.X:=λ_ _ e=> .inl (.inl e)
 ⟨⟨AU,AL,AT,cU,cL,cT,hb,h1,h2,h3⟩,h.EO hf b λ_ a e=>h.g_O (e▸a),h.EP hf λ_ a e=>h.g_D (e▸a),h.ce,λ_ a=>bE (h.el _ a) hf.size⟩
theorem setFd(h:aO w p r)(hn:∀x∈r.fds,x.length=8){o k:Nat}(hk:k<8)(x:Option Nat):aO (w.setCell ⟨p.g,5+o*8+k,none⟩ (tC x)) p (Rw.setFd r o k x):=by
 have b:Fr (λk=>k=p.g) w (w.setCell ⟨p.g,5+o*8+k,none⟩ (tC x)):=Fr.set (X:=λk=>k=p.g) w rfl _
 have c:Sub w (λk=>k=p.g) p.X:=λ_ _ e=> .inl (.inl e)
 have i:=b.wide c;refine⟨?_,h.EO b c λ_ hk e=>h.g_O (e▸hk),h.EP b λ_ hk e=>h.g_D (e▸hk),h.ce,λ_ hk=>bE (h.el _ hk) b.size⟩
 obtain⟨z,j,n,y,l,t,u,q,m,v⟩:=h.box;have a:=u.bY (5+o*8+k) (tC x);rw[show 5+o*8+k=(o*8+k)+1+1+1+1+1 by omega]at a ⊢
 simp only[Av]at a;rw[IA hn o k hk x]at a;rw[show(o*8+k)+1+1+1+1+1=5+o*8+k by omega]at a ⊢
 exact⟨z,j,n,y,l,t,a,q.on i (Sub.refl _ _),m.on i (Sub.refl _ _),v⟩
theorem KR(h:aO w p r)(hf:Fr (λk=>p.vO.ownBlock=some k) w w'){l:List Ob}(ho:SY w' p.X p.vO l):aO w' p {r with objs:=l}:=
 have b:Sub w (λk=>p.vO.ownBlock=some k) p.X:=λ_ _ e=> .inl (.inr (.inl e))
 ⟨h.sO hf b h.g_O,ho,h.EP hf λk a e=>h.O_D k e a,h.ce,λ_ a=>bE (h.el _ a) hf.size⟩
theorem Yn(h:aO w p r)(hf:Fr (λk=>p.vD.ownBlock=some k) w w'){l:List Rq}(ho:w'.ownsRow 0 142 3 p.vD l.length (iY l)):aO w' p {r with des:=l}:=
 have b:Sub w (λk=>p.vD.ownBlock=some k) p.X:=λ_ _ e=> .inl (.inr (.inr e))
 ⟨h.sO hf b h.g_D,h.EO hf b λk a e=>h.O_D k a e,ho,h.ce,λ_ a=>bE (h.el _ a) hf.size⟩
theorem newObs(h:aO w p r){v:Value}{l:List Ob}(hf:Fr (λk=>k=p.g\/p.vO.ownBlock=some k) w w')(hv:∀k,v.ownBlock=some k->p.vO.ownBlock=some k\/w.heap.size<=k)(hb:∀cs,ai w p.g 107 cs->ai w' p.g 107 (cs.set 3 v))(ho:SY w' (Rl.X {p with vO:=v}) v l):aO w' {p with vO:=v} {r with objs:=l}:=by
 have A:Sub w (λk=>k=p.g\/p.vO.ownBlock=some k) p.X:=λk _ e=> .inl (e.elim .inl λe=> .inr (.inl e))
 have m:=hf.wide A;have b:Sub w (Rl.X {p with vO:=v}) p.X:=λk a x=>by
  rcases x with(x|x|x)|x
  ·exact .inl (.inl x)
  ·rcases hv k x with y|y
   ·exact .inl (.inr (.inl y))
   omega
  ·exact .inl (.inr (.inr x))
  exact .inr x
 refine⟨?_,ho,h.EP hf λk a e=>e.elim (λe=>h.g_D (e▸a)) λe=>h.O_D k e a,λk a c=> ?_,λ_ a=>bE (h.el _ a) hf.size⟩
 ·obtain⟨D,n,t,B,o,z,i,j,q,u⟩:=h.box
  exact⟨D,n,t,B,o,z,hb _ i,j.on m b,q.on m b,u⟩
 have j:=h.el k c
 rcases a with a|a|a
 ·exact h.ce k (.inl a) c
 ·rcases hv k a with y|y
  ·exact h.ce k (.inr (.inl y)) c
  omega
 exact h.ce k (.inr (.inr a)) c
theorem newDes(h:aO w p r){v:Value}{l:List Rq}(hf:Fr (λk=>k=p.g\/p.vD.ownBlock=some k) w w')(hv:∀k,v.ownBlock=some k->p.vD.ownBlock=some k\/w.heap.size<=k)(hb:∀cs,ai w p.g 107 cs->ai w' p.g 107 (cs.set 4 v))(ho:w'.ownsRow 0 142 3 v l.length (iY l)):aO w' {p with vD:=v} {r with des:=l}:=by
 have D:Sub w (λk=>k=p.g\/p.vD.ownBlock=some k) p.X:=λk _ e=> .inl (e.elim .inl λe=> .inr (.inr e))
 have o:=hf.wide D;have b:Sub w (Rl.X {p with vD:=v}) p.X:=λk a x=>by
  rcases x with(x|x|x)|x
  ·exact .inl (.inl x)
  ·exact .inl (.inr (.inl x))
  ·rcases hv k x with y|y
   ·exact .inl (.inr (.inr y))
   omega
  exact .inr x
 refine⟨?_,?_,ho,λk a j=> ?_,λ_ a=>bE (h.el _ a) hf.size⟩
 ·obtain⟨K,t,H,E,u,I,q,i,m,n⟩:=h.box
  exact⟨K,t,H,E,u,I,hb _ q,i.on o b,m.on o b,n⟩
 ·obtain⟨z,i,m,n⟩:=h.obs
  refine⟨z,i,jJ m hf λk a e=>e.elim (λe=>h.g_O (e▸a)) λe=>h.O_D k a e,λk a=> ?_⟩
  obtain⟨A,c,F,B,G⟩:=n k a;exact⟨A,c,F,B.on o b,G⟩
 have i:=h.el k j
 rcases a with a|a|a
 ·exact h.ce k (.inl a) j
 ·exact h.ce k (.inr (.inl a)) j
 rcases hv k a with y|y
 ·exact h.ce k (.inr (.inr y)) j
 omega
theorem cells(h:aO w p r):∃AU AL AT cU cL cT,w.cell? p.g=some (.slice AU r.u.U.length cU)/\w.cell? ⟨p.g,1,none⟩=some (.slice AL r.u.L.length cL)/\w.cell? ⟨p.g,2,none⟩=some (.slice AT r.T.length cT)/\w.cell? ⟨p.g,3,none⟩=some p.vO/\w.cell? ⟨p.g,4,none⟩=some p.vD/\
  Off p.X w (λw=>bT w w AU AL cU cL r.u)/\Off p.X w (λw=>aC w w AT r.T)/\r.T.length<=cT/\(∀i,w.frozen? ⟨p.g,i,none⟩=false)/\p.g<w:=by
 obtain⟨AU,AL,AT,cU,cL,cT,a,b,c,e⟩:=h.box;exact⟨AU,AL,AT,cU,cL,cT,a.cell 0,a.cell 1,a.cell 2,a.cell 3,a.cell 4,b,c,e,a.frozen,a.lt⟩
theorem xY(h:aO w p r)(hn:∀x∈r.fds,x.length=8){o k:Nat}(ho:o<r.fds.length)(hk:k<r.fds[o].length):w.cell? ⟨p.g,5+o*8+k,none⟩=some (tC r.fds[o][k]):=by
 obtain⟨q,b,j,n,c,l,a,i,e,m⟩:=h.box;have:=a.cell (5+o*8+k);rw[this,show 5+o*8+k=(o*8+k)+1+1+1+1+1 by omega]
 exact ND hn ho hk
theorem ob(h:aO w p r){i:Nat}(hi:i<r.objs.length):∃b c A cl,p.vO= .slice (some ⟨b,0,none⟩) r.objs.length c/\b<w.heap.size/\b≠p.g/\w.cell? ⟨b,i*3,none⟩=some (.string r.objs[i].p)/\w.cell? ⟨b,i*3+1,none⟩=some (.string r.objs[i].t)/\w.cell? ⟨b,i*3+2,none⟩=some (.slice A r.objs[i].l.length cl)/\
  Off p.X w (λw=>dJ w w A r.objs[i].l)/\r.objs[i].l.length<=cl/\∀j,w.frozen? ⟨b,j,none⟩=false:=by
 obtain⟨G,z,a,B⟩:=h.obs;obtain⟨A,cl,u,E,o⟩:=B i hi;obtain⟨v,F,x,n,y⟩:=aaL z hi;obtain rfl:v=_:=Option.some.inj (F.symm.trans u)
 rcases aB a with⟨_,q⟩|⟨b,c,m,_,D,_⟩
 ·omega
 rw[m]at a;have k:b≠p.g:=λe=>h.g_O (by rw[m,<-e];rfl)
 exact⟨b,c,A,cl,m,D,k,(a.cellAt (i*3) (by omega)).trans x,(a.cellAt (i*3+1) (by omega)).trans n,(a.cellAt (i*3+2) (by omega)).trans y,E,o,a.frozenAt⟩
theorem de(h:aO w p r){i:Nat}(hi:i<r.des.length):∃b c,p.vD= .slice (some ⟨b,0,none⟩) r.des.length c/\b<w.heap.size/\b≠p.g/\w.cell? ⟨b,i*3,none⟩=some (.int .i64 r.des[i].o)/\w.cell? ⟨b,i*3+1,none⟩=some (.int .i64 r.des[i].fl)/\w.cell? ⟨b,i*3+2,none⟩=some (.int .i64 r.des[i].at_)/\∀j,w.frozen? ⟨b,j,none⟩=false:=by
 obtain⟨n,m,t⟩:=aaM hi;have a:=h.des
 rcases aB a with⟨_,q⟩|⟨b,c,k,_,u,_⟩
 ·omega
 rw[k]at a;have l:b≠p.g:=λe=>h.g_D (by rw[k,<-e];rfl)
 exact⟨b,c,k,u,l,(a.cellAt (i*3) (by omega)).trans n,(a.cellAt (i*3+1) (by omega)).trans m,(a.cellAt (i*3+2) (by omega)).trans t,a.frozenAt⟩
theorem set0(h:aO w p r){b c:Nat}(hv:p.vO= .slice b r.objs.length c)(i:Nat)(x:ByteArray):aO (w.setCell ⟨b,i*3,none⟩ (.string x)) p (Rw.setOb r i λo=>{o with p:=x}):=by
 obtain⟨u,n,j,z⟩:=h.obs;have a:Fr (λk=>p.vO.ownBlock=some k) w (w.setCell ⟨b,i*3,none⟩ (.string x)):=Fr.set (X:=λk=>p.vO.ownBlock=some k) w (by rw[hv];rfl) _
 rw[hv]at j;have m:=(j.stored (i*3+0) (.string x)).1;rw[Vt n i x]at m;refine h.KR a ⟨u,by rw[gP];exact n,?_,λk g=> ?_⟩
 ·rw[gP,hv];exact m
 rw[gP]at g;obtain⟨A,q,t,B,v⟩:=z k g;have y:(r.objs.modify i λo=>{o with p:=x})[k].l=r.objs[k].l:=by rw[Bp];split<;>rfl
 rw[y];exact⟨A,q,t,B.on (a.wide λ_ _ e=> .inl (.inr (.inl e))) (Sub.refl _ _),v⟩
theorem set1(h:aO w p r){b c:Nat}(hv:p.vO= .slice b r.objs.length c)(i:Nat)(x:ByteArray):aO (w.setCell ⟨b,i*3+1,none⟩ (.string x)) p (Rw.setOb r i λo=>{o with t:=x}):=by
 obtain⟨v,n,j,B⟩:=h.obs;have a:Fr (λk=>p.vO.ownBlock=some k) w (w.setCell ⟨b,i*3+1,none⟩ (.string x)):=Fr.set (X:=λk=>p.vO.ownBlock=some k) w (by rw[hv];rfl) _
 rw[hv]at j;have m:=(j.stored (i*3+1) (.string x)).1;rw[Vu n i x]at m;refine h.KR a ⟨v,by rw[gP];exact n,?_,λk g=> ?_⟩
 ·rw[gP,hv];exact m
 rw[gP]at g;obtain⟨A,q,u,D,y⟩:=B k g;have z:(r.objs.modify i λo=>{o with t:=x})[k].l=r.objs[k].l:=by rw[Bp];split<;>rfl
 rw[z];exact⟨A,q,u,D.on (a.wide λ_ _ e=> .inl (.inr (.inl e))) (Sub.refl _ _),y⟩
theorem set2(h:aO w p r){b c:Nat}(hv:p.vO= .slice b r.objs.length c){i:Nat}(hi:i<r.objs.length){y:List Lk}{A:Option Addr}{cl:Nat}(hy:Off p.X w λw=>dJ w w A y)(hc:y.length<=cl):aO (w.setCell ⟨b,i*3+2,none⟩ (.slice A y.length cl)) p (Rw.setOb r i λo=>{o with l:=y}):=by
 obtain⟨v,u,n,B⟩:=h.obs;have j:Fr (λk=>p.vO.ownBlock=some k) w (w.setCell ⟨b,i*3+2,none⟩ (.slice A y.length cl)):=Fr.set (X:=λk=>p.vO.ownBlock=some k) w (by rw[hv];rfl) _
 have a:=j.wide (X:=p.X) λ_ _ e=> .inl (.inr (.inl e))
 rw[hv]at n;have t:=(n.stored (i*3+2) (.slice A y.length cl)).1;rw[Vw u i y]at t;refine h.KR j ⟨v.set i (.slice A y.length cl),by rw[gP,zm];exact u,?_,λk m=> ?_⟩
 ·rw[gP,hv];exact t
 rw[gP]at m
 by_cases q:i=k
 ·subst q
  have g:(r.objs.modify i λo=>{o with l:=y})[i].l=y:=by simp
  rw[g];exact⟨A,cl,by rw[List.getElem?_set_self (by omega)],hy.on a (Sub.refl _ _),hc⟩
 obtain⟨A,cl,x,D,z⟩:=B k m;have g:(r.objs.modify i λo=>{o with l:=y})[k].l=r.objs[k].l:=by rw[Bp,av q]
 rw[g];exact⟨A,cl,by rw[List.getElem?_set_ne q];exact x,D.on a (Sub.refl _ _),z⟩
theorem setAt(h:aO w p r){b c:Nat}(hv:p.vD= .slice b r.des.length c)(i:Nat)(x:Int):aO (w.setCell ⟨b,i*3+2,none⟩ (.int .i64 x)) p (Rw.setDe r i λd=>{d with at_:=x}):=by
 have a:=h.des;have g:Fr (λk=>p.vD.ownBlock=some k) w (w.setCell ⟨b,i*3+2,none⟩ (.int .i64 x)):=Fr.set (X:=λk=>p.vD.ownBlock=some k) w (by rw[hv];rfl) _
 rw[hv]at a;have e:=(a.stored (i*3+2) (.int .i64 x)).1;rw[Vx]at e;refine h.Yn g ?_
 rw[gP,hv];exact e
end aO
def iJ(p:Rl)(r:Rw×An)(w:World)(e:Ending)(w':World):Prop:=
 ∃p' v,e= .returned (.agg #[r.2.err,r.2.n,r.2.text,v])/\(∃A c,v= .slice A r.2.names.length c/\Off p'.X w' λw=>bH w w A r.2.names)/\aO w' p' r.1/\p'.g=p.g/\p'.e=p.e/\Fr p.C w w'/\Sub w p'.C p.C
structure jr(r:Rw):Prop where
 right:Tr.Right false r.T
 tl:r.T.length<=80
 us:iR r.u
 put:∀e,(Tr.putU r.u e).2=0->iR (Tr.putU r.u e).1
 rem:∀q,(Tr.removeU r.u q).2=0->iR (Tr.removeU r.u q).1
 mov:∀a b,(Tr.moveU r.u a b).2=0->iR (Tr.moveU r.u a b).1
 ol:r.objs.length<=1000
 dl:r.des.length<=1000
 fdl:r.fds.length=4
 fdr:∀x∈r.fds,x.length=8
 fdd:∀x∈r.fds,∀d,some d∈x->d<r.des.length
 ob:∀o∈r.objs,Sy.xB 1000 o
 tx:∀i,(Rw.textOf r i).size<=100
 de:∀d∈r.des,d.o<r.objs.length/\0<=d.at_/\d.at_<=1000/\0<=d.fl/\d.fl<=63
theorem aZ{p p':Rl}{r':Rw}{a:An}{w wk:World}{ga:Nat}(hga:w.heap.size<=ga)(hA:aO wk (p'.plus ga) r')(he:p'.e=p.e)(hg:p'.g=p.g)(hF:Fr p.C w wk)(hS:Sub w p'.C p.C)(hn:a.names=[]):iJ p (r',a) w (.returned (.agg #[a.err,a.n,a.text,()])) ((((wk.setCell ⟨ga,0,none⟩ (.int .i64 a.err)).setCell ⟨ga,1,none⟩ (.int .i64 a.n)).setCell ⟨ga,2,none⟩ (.string a.text)).setCell ⟨ga,3,none⟩ (.slice none 0 0)):=by
 have b:=(((hA.late 0 (.int .i64 a.err)).late 1 (.int .i64 a.n)).late 2 (.string a.text)).late 3 (.slice none 0 0)
 exact⟨p',_,rfl,⟨none,0,by rw[hn];rfl,by rw[hn];exact Off.always λ_=>Rd.nil⟩,b.pop p'.e λ_ q=> .inl q,hg,he,
  (((hF.off (p:=ga) hga _).off (p:=⟨ga,1,none⟩) hga _).off (p:=⟨ga,2,none⟩) hga _).off (p:=⟨ga,3,none⟩) hga _,hS⟩
theorem NF{p:Rl}{r:Rw×An}{w w1 w2:World}{ga:Nat}{e:Ending}(hga:w.heap.size<=ga)(hF:Fr p.C w w1)(h:iJ (p.plus ga) r w1 e w2):∃A c,e= .returned (.agg #[r.2.err,r.2.n,r.2.text,.slice A r.2.names.length c])/\Fr p.C w1 w2/\
   iJ p r w (.returned (.agg #[r.2.err,r.2.n,r.2.text,.slice A r.2.names.length c])) (qx w2 ga r.2.err r.2.n r.2.text (.slice A r.2.names.length c)):=by
 obtain⟨p',v,x,⟨A,c,y,D⟩,E,l,i,u,B⟩:=h;subst y;have g:p'=({p' with e:=p.e}:Rl).plus ga:=by
  obtain⟨a,b,c,F⟩:=p';dsimp only at i;subst i
  rfl
 have o:aO w2 (({p' with e:=p.e}:Rl).plus ga) r.1:=g▸E
 have z:=(((o.late 0 (.int .i64 r.2.err)).late 1 (.int .i64 r.2.n)).late 2 (.string r.2.text)).late 3 (.slice A r.2.names.length c);have m:Fr (λk=>k=ga) w2 (qx w2 ga r.2.err r.2.n r.2.text (.slice A r.2.names.length c)):=((((Fr.refl (λk=>k=ga) w2).at_ 0 _).at_ 1 _).at_ 2 _).at_ 3 _
 have j:Fr p.C w w2:=hF.trans u (Sub.refl _ _);refine⟨A,c,x,u,{p' with e:=p.e},_,rfl,⟨A,c,rfl,?_⟩,z.pop p.e λ_ q=> .inl q,l,rfl,?_,λk t q=> ?_⟩
 ·refine((D.on (Y:=p'.X) (m.wide λk t q=> ?_) (Sub.refl _ _))).less λk q=> ?_
  ·rw[g];exact .inr (.inr q)
  rw[g];exact q.imp_right .inl
 ·exact(((j.off (p:=ga) hga _).off (p:=⟨ga,1,none⟩) hga _).off (p:=⟨ga,2,none⟩) hga _).off (p:=⟨ga,3,none⟩) hga _
 exact B k (bE t hF.size) q
theorem Vy{p p':Rl}{r':Rw}{a:An}{v:Value}{w wk:World}{ga:Nat}(hga:w.heap.size<=ga)(hA:aO wk (p'.plus ga) r')(he:p'.e=p.e)(hg:p'.g=p.g)(hF:Fr p.C w wk)(hS:Sub w p'.C p.C)(hv:∃A c,v= .slice A a.names.length c/\Off (p'.plus ga).X wk λw=>bH w w A a.names):iJ p (r',a) w (.returned (.agg #[a.err,a.n,a.text,v])) (qx wk ga a.err a.n a.text v):=by
 have i:=(((hA.late 0 (.int .i64 a.err)).late 1 (.int .i64 a.n)).late 2 (.string a.text)).late 3 v;obtain⟨A,c,h,j⟩:=hv;have b:Fr (λk=>k=ga) wk (qx wk ga a.err a.n a.text v):=((((Fr.refl (λk=>k=ga) wk).at_ 0 _).at_ 1 _).at_ 2 _).at_ 3 _
 refine⟨p',v,rfl,⟨A,c,h,?_⟩,i.pop p'.e λ_ q=> .inl q,hg,he,?_,hS⟩
 ·exact((j.on (Y:=(p'.plus ga).X) (b.wide λk l q=> .inr (.inr q)) (Sub.refl _ _))).less λk q=>q.imp_right .inl
 exact(((hF.off (p:=ga) hga _).off (p:=⟨ga,1,none⟩) hga _).off (p:=⟨ga,2,none⟩) hga _).off (p:=⟨ga,3,none⟩) hga _
theorem ai.Yo{p:Rl}{r:Rw}{w w':World}{g:Nat}{t:TypeId}{cs:List Value}(h:ai w g t cs)(hA:aO w (p.plus g) r)(hf:Fr p.C w w'):ai w' g t cs:=h.fr hf λa=>hA.ce g a (.inr rfl)
theorem ai.nine{w:World}{g:Nat}{t:TypeId}{a0 a1 a2 a3 a4 a5 a6 a7 a8:Value}(h:ai w g t [a0,a1,a2,a3,a4,a5,a6,a7,a8]):w.cell? g=some a0/\w.cell? ⟨g,1,none⟩=some a1/\w.cell? ⟨g,2,none⟩=some a2/\w.cell? ⟨g,3,none⟩=some a3/\w.cell? ⟨g,4,none⟩=some a4/\w.cell? ⟨g,5,none⟩=some a5/\w.cell? ⟨g,6,none⟩=some a6/\w.cell? ⟨g,7,none⟩=some a7/\w.cell? ⟨g,8,none⟩=some a8:=
 ⟨h.cell 0,h.cell 1,h.cell 2,h.cell 3,h.cell 4,h.cell 5,h.cell 6,h.cell 7,h.cell 8⟩
theorem ai.acr{w:World}{g G:Nat}{t:TypeId}{cs:List Value}(h:ai w g t cs)(hne:g≠G)(a b c d:Value):ai ((((w.setCell ⟨G,0,none⟩ a).setCell ⟨G,1,none⟩ b).setCell ⟨G,2,none⟩ c).setCell ⟨G,3,none⟩ d) g t cs:=
 (((h.far (p:=G) hne a).far (p:=⟨G,1,none⟩) hne b).far (p:=⟨G,2,none⟩) hne c).far (p:=⟨G,3,none⟩) hne d
theorem Off.mine{X C:Nat->Prop}{w w':World}{P:World->Prop}(h:Off X w P)(hf:Fr C w w')(hc:∀k,C k->X k):Off X w' P:=h.on (hf.wide λk _ e=>hc k e) (Sub.refl _ _)
section
variable {w:World} {o:Oper} {a:Act} {Q:Exit->Act->World->Prop} {base:Nat} {v:Value} {ls ms:List Pt.Bs} {A:Option Addr} {c B:Nat}
theorem xy{ops:Array Oper}{rest:List Oper}(hgd:o.guard=none)(s x:Operand)(ho:o.op= .call {callee:= .builtin .append,args:=#[s,x],argTypes:=#[41,41]})(hs:a.eval s=v)(hown:aT w base v ls)(m:Nat)(hx:a.eval x= .slice A m c)(hm:m=ms.length)(hr:bH w B A ms)(hA:A=none->c=0)(hlen:ls.length+ms.length<=4000000000)(hbase:base<=w.heap.size)(h:∀v' w',aT w' base v' (ls++ms)->w.grownBy w' v.ownBlock->wpList prog ops Q rest (a.put o.dst v') w'):wpList prog ops Q (o::rest) a w:=by
 subst hm;obtain⟨i,p,e,g,b⟩:=lw jB;obtain⟨v',w',j,n,k,_⟩:=pY (P:=prog) w base 41 o.type 9 i _ 1 16 underlying41 p e g b rfl (by decide) v ls.length _ hown A ms.length c _ hr hA (λu l=>by
  obtain⟨y,_,rfl⟩:=List.mem_map.1 l;rfl) (by unfold maxLen;omega) (by omega) hbase
 exact Lib.wpList_append_run _ hgd s x _ _ ho _ _ hs hx v' w' j (h v' w' (by unfold aT;rw[bq,vQ];exact n) k)
end
theorem aT.start(w:World):aT (w.alloc (.cells #[] 9)) w (.slice w 0 0) []:=
 World.ownsRow_lit (e:=9) (size:=1) w #[] 0 aR (by decide) rfl
def lenV:Value->Nat
 | .slice _ n _=>n
 |_=>0
theorem IB{t:ByteArray}(h:(Pt.parse t).2=0):0<t.size:=by
 rcases nA t.size with q|q
 ·have e:t.data.toList=[]:=by apply List.length_eq_zero_iff.1;rw[af];exact q
  rw[e]at h;exact absurd h (by decide)
 exact q
theorem S9{t:ByteArray}(h:0<t.size):((t[0].toNat:Int)==47)=Sy.slash t:=by
 unfold Sy.slash Lib.hasPrefix;have a:0<t.data.toList.length:=by rw[af];exact h
 have e:t.data.toList=t[0]::t.data.toList.tail:=by
  rcases b:t.data.toList with _|⟨x,r⟩
  ·rw[b]at a;cases a
  have:t[0]=t.data.toList[0]:=by simp[ByteArray.getElem_eq_getElem_data]
  rw[this];simp[b]
 rw[e]
 show _=([47]:List UInt8).isPrefixOf (t[0]::_)
 rw[vR,p9];simp only[List.isPrefixOf,Bool.and_true,p9]
 constructor
 ·intro q;exact UInt8.toNat_inj.1 (show(47:UInt8).toNat=_ by have:(47:UInt8).toNat=47:=rfl;omega)
 intro q;rw[<-q];rfl
theorem kC(p:Rl)(r:Rw)(pa:ByteArray)(fo:Bool)(w:World)(h:aO w p r)(hT:Tr.Right false r.T)(hTl:r.T.length<=1000)(hp:pa.size<4294967281):Calls prog 101 #[.pointer p.g,pa,fo] w (iL (Sy.find r.T pa fo) w):=by
 obtain⟨_,_,AT,_,_,cT,_,_,hT2,_,_,_,pq,_,_,hgs⟩:=h.cells;have pq:aC w w AT r.T:=pq.here;clear h;generalize r.T=T at*;generalize p.g=g at*;have hTx:∀(q:Pt.Bs) (e:En),Tr.get T q=some e->e.k=3->e.t.size<=100:=λq e K hk=>by
  by_cases h0:q=[]
  ·subst h0;rw[Tr.dL]at K;injection K with K;subst K;cases hk
  exact Sy.Ef hT h0 K
 have Ui:=aL hTx;clear hT hTx;have cP:=uJ pa w hp;unfold jI at cP;unfold iL;have F:=aL (Sy.ru pa);obtain⟨R,hR⟩:∃R,R=Sy.find T pa fo:=⟨_,rfl⟩;rw[<-hR];unfold Sy.find at hR;have Q:=aL hR;clear hR;generalize Pt.parse pa.data.toList=pp at cP F Q;obtain⟨nl,pe⟩:=pp;dsimp only at cP F Q;go_enter func101,ntmps101;go_wp2_with fail;refine cP.mono ?_
 rintro e w1 ⟨v1,rfl,ho1,hB1⟩
 cases tp:pe !=0
 rotate_left
 ·have hpe:pe≠0:=by simpa using tp
  have l:Hid (R=([],pe)):=aL (by rw[Q.out,aM hpe])
  clear Q cP;go_wp2;go_ret2;exact⟨by rw[l.out];rfl,hB1⟩
 obtain rfl:pe=0:=by simpa using tp
 have Q:=aL (Q.out.trans (av (by decide)))
 clear tp cP;obtain⟨A1,c1,rfl,hc1,hA1,hr1⟩:=aT.rd ho1;have ry:=aL hc1;have HA1:=aL hA1;have HR1:=aL hr1;obtain⟨W,hW⟩:∃W,W=Sy.walk T fo 8 nl []:=⟨_,rfl⟩;rw[<-hW]at Q;have HW1:=aL hW;clear hW ho1 hc1 hA1 hr1;go_wp2
 go_loopw [8,10,11] (λv a i wr=>∃(left:List Pt.Bs) (m:Nat) (A:Option Addr) (c:Nat) (s:ByteArray) (h:Nat) (z:Int),v= .slice A m c/\a= .string s/\i= .int .i64 z/\h<=8/\Hid (z=8- (h:Int))/\Hid (m=left.length)/\Hid (W=Sy.walk T fo h left s)/\Hid (s.size+Sy.tot left<=1000*(9-h))/\Hid (bH wr wr A left)/\Hid (A=none->c=0)/\m<=c/\Below w w wr) (λv _ i _=>(8-intOf i).toNat*100000+lenV v)
 case atStart=>exact⟨nl,_,A1,c1,⟨#[]⟩,8,_,rfl,rfl,rfl,aR,aL rfl,aL rfl,HW1,aL (by have:=F.out;show 0+_<=_;omega),HR1,HA1,ry.out,hB1⟩
 case round=>
  clear HW1 F ry HA1 HR1 hB1;obtain⟨left,m,A,c,s,h,z,rfl,rfl,rfl,hh,L,HM,HW,HZ,ZH,HA,hmc,hB⟩:=hrel;have hrr:aC wr wr AT T:=(Rd.below pq hB).more hB.size;have hg2:wr.cell? ⟨g,2,none⟩=some (.slice AT T.length cT):=(hB.cell (p:=⟨g,2,none⟩) hgs).trans hT2;have hs9:s.size<=9000:=by have:=HZ.out;omega
  have hm9:m<=9000:=by have:=HZ.out;have:=Sy.rq left;have:=HM.out;omega
  rcases left with _|⟨n0,rest⟩
  ·have hm0:m=0:=HM.out
   subst hm0;have WN:=aL (HW.out.trans Sy.Gm)
   cases tl:decide ((80:Int)<(s.size:Int))
   ·have l:Hid (R=(s.data.toList,0)):=aL (by
     rw[Q.out,WN.out,av (λq=>by
      have O:80<s.data.toList.length:=q.2;rw[af]at O;have h2:=j6 tl
      omega)])
    go_wp2;go_ret2;exact⟨by rw[l.out];rfl,hB⟩
   have l:Hid (R=([],4)):=aL (by
    rw[Q.out,WN.out,aM ⟨rfl,by
     show 80<s.data.toList.length
     rw[af];have h2:=iA tl
     omega⟩])
   go_wp2;go_ret2;exact⟨by rw[l.out];rfl,hB⟩
  obtain⟨b,o,Kr,hbb,h0⟩:=bH.at_ ZH.out (show 0<(n0::rest).length by simp)
  obtain⟨n,hn,hn2⟩:=oU n0;replace h0:wr.cell? ⟨b,o,none⟩=some (Pt.str n0):=h0;rw[hn2]at h0;subst hn;clear hn2;subst Kr;have hmr:m=rest.length+1:=HM.out;have hm1:(0:Int)<(m:Int):=by omega
  have tm:decide ((0:Int)<(m:Int))=true:=fw hm1;have hm2:(1:Int)<=(m:Int):=by omega
  have acs:(m:Int)<=(c:Int):=by omega
  have hz1:s.size+(n.size+1)<=9000:=by
   have O:=HZ.out;rw[Sy.eX,af]at O;omega
  have HMR:=aL hmr;clear hmr;have cG:=λW q=>a_ AT cT T s W q (by omega)
  go_wp2_with fail;refine(cG wr hrr).mono ?_
  rintro e w2 ⟨r1,rfl,hr,H⟩;have Z:=aL hr;have hB2:=hB.trans (H.mono hB.size);have aaN:=aL ((Rd.below ZH.out H).more H.size:bH w2 w2 _ _);have h02:w2.cell? ⟨b,o,none⟩=some (.string n):=(H.cell (p:=⟨b,o,none⟩) hbb).trans h0;have Yq:b<w2.heap.size:=bE hbb H.size;clear H hr hB hrr hg2 h0 cG ZH hbb;obtain⟨y,hy⟩:∃y,y=r1.getD En.zero:=⟨_,rfl⟩;rw[<-hy];have HY:=aL hy;clear hy;obtain⟨dp,dk,dt,f_⟩:=y;simp only[En.agg,En.cells];have V:Below w2 w2 (w2.alloc (.cells #[dp,dk,dt,f_] 45)):=(aa _ w2).alloc aR _;have E:=hB2.trans (V.mono hB2.size);have hd3:=ai.new w2 45 [dp,dk,dt,f_];have aaO:=aL ((Rd.below aaN.out V).more V.size:bH _ _ _ _);have h03:=(V.cell (p:=⟨b,o,none⟩) Yq).trans h02;have adD:=bE Yq V.size;go_upto_region 7 with fail
  clear hB2 aaN h02 V Yq;generalize w2.alloc (.cells #[dp,dk,dt,f_] 45)=w3 at*;generalize w2.heap.size=gd at*
  rcases r1 with _|d
  ·have Ea:=aL (HW.out.trans (Sy.walk_bad (Sy.Gn Z.out.symm) (by decide)))
   have l:Hid (R=([],6)):=aL (by rw[Q.out,Ea.out,av (λq=>absurd q.1 (by decide))])
   clear HW HZ Z HY;go_wp2;go_ret2;exact⟨by rw[l.out];rfl,E⟩
  obtain rfl:d=⟨dp,dk,dt,f_⟩:=HY.out.symm;clear HY;have x:=hd3.four
  cases tk:dk !=2
  rotate_left
  ·have Ea:=aL (HW.out.trans (Sy.walk_bad (Sy.MN Z.out.symm (by simpa using tk)) (by decide)))
   have l:Hid (R=([],10)):=aL (by rw[Q.out,Ea.out,av (λq=>absurd q.1 (by decide))])
   clear HW HZ Z;go_wp2;go_ret2;exact⟨by rw[l.out];rfl,E⟩
  have U:=aL (Sy.QR Z.out.symm (show dk=2 by simpa using tk))
  clear Z;obtain⟨S,aaP⟩:∃S,S=rest.length:=⟨_,rfl⟩;have hrl:m-1=S:=by have:=HMR.out;omega
  have j:=aL aaP;clear aaP;go_upto_region 12 with fail
  go_cut [8] (λv wx=>∃A2 c2,v= .slice A2 S c2/\Hid (bH w3 w3 A2 rest)/\Hid (A2=none->c2=0)/\S<=c2/\w3=wx)
  case first=>
   by_cases hck:c=1
   ·have HX:Hid (rest=[]):=aL (List.length_eq_zero_iff.1 (by have:=j.out;have:=HMR.out;omega))
    subst hck;go_wp2;go_meet
    case rel=>exact⟨_,_,rfl,aL (by rw[HX.out];exact bH.nil _ _ _),aL (λq=>by cases q),by have:=j.out;rw[HX.out]at this;have h0:S=0:=this;omega,rfl⟩
   go_wp2;go_meet
   case rel=>exact⟨_,_,rfl,aL (bH.drop aaO.out 1),aL (λq=>by cases q),by omega,rfl⟩
  case rest=>
  obtain⟨A2,c2,rfl,Yr,HA2,hc2,rfl⟩:=hcut;clear aaO HA acs hm2 hrl x hd3;have Yt:=aL j.out;have adE:S<=9000:=by have:=HMR.out;have:=j.out;omega
  cases tn:n.toList==[46,46]
  rotate_left
  ·have l:=aL (HW.out.trans (Sy.MO U.out (by rw[kg]at tn;simpa using tn)))
   clear HW;go_wp2_with fail;refine(dw s _ (by omega)).mono ?_
   rintro e w4 ⟨rfl,hD⟩;have hb4:Below w3 w3 w4:=hD.below;have hB4:=E.trans (hD.below (B:=w.heap.size));obtain⟨ds,hds,RH⟩:=oU (Pt.ah s);obtain⟨ns,_,RI⟩:=oU (Pt.nameOf s);rw[RH,RI];clear RH RI;have HL:=aL (Sy.Gl s);rw[<-hds,af,af]at HL;rw[<-hds]at l;clear hds;go_wp2;go_roundw
   case rel=>exact⟨rest,S,A2,c2,ds,h,z,rfl,rfl,rfl,hh,L,Yt,l,aL (by
    have O:=HZ.out;have h2:=HL.out;rw[Sy.eX]at O
    omega),aL ((Rd.below Yr.out hb4).more hb4.size),HA2,hc2,hB4⟩
   case measure=>simp only[intOf,lenV];have:=HMR.out;have:=j.out;omega
  have hnd:¬n.data.toList=[46,46]:=by rw[kg]at tn;simpa using tn
  have HND:=aL hnd;clear hnd;obtain⟨nx,hnx⟩:∃nx:ByteArray,nx.data.toList=Pt.join s n.data.toList:=⟨⟨(Pt.join s n).toArray⟩,rfl⟩;have hnz:nx.size<=s.size+n.size+1:=by
   have O:=Sy.CP s n;rw[<-hnx,af,af,af]at O;exact O
  have Jp:=aL hnx;clear hnx;have adF:¬9223372036854775807<s.size+1:=by omega
  go_upto_if 58 with fail
  go_cut [15] (λv wx=>v= .string nx/\w3=wx)
  case first=>
   rcases aG s with⟨hE,e1,e2⟩|⟨hE,e1,e2⟩
   ·have HE:Hid (n=nx):=aL (WQ (by rw[Jp.out];unfold Pt.join;rw[aM hE]))
    have e3:(!s.toList.isEmpty)=false:=by rw[e2];rfl
    simp only[e3];go_wp2;go_meet
    case rel=>exact⟨by rw[HE.out],rfl⟩
   have HE:Hid (s++⟨#[47]⟩++n=nx):=aL (WQ (by rw[Jp.out];unfold Pt.join;rw[av hE,gQ,gQ];simp))
   have e3:(!s.toList.isEmpty)=true:=by rw[e2];rfl
   simp only[e3];go_wp2;go_meet
   case rel=>exact⟨by rw[HE.out],rfl⟩
  case rest=>
  obtain⟨rfl,rfl⟩:=hcut;have aaQ:aC w3 w3 AT T:=(Rd.below pq E).more E.size;have acu:w3.cell? ⟨g,2,none⟩=some (.slice AT T.length cT):=(E.cell (p:=⟨g,2,none⟩) hgs).trans hT2;have cG:=λW q=>a_ AT cT T nx W q (by omega)
  go_wp2_with fail;refine(cG w3 aaQ).mono ?_
  rintro e w5 ⟨r2,rfl,hr,H⟩;have hG:r2=Tr.get T (Pt.join s n):=by rw[hr,Jp.out]
  have dh:=E.trans (H.mono E.size);have aaR:=aL ((Rd.below Yr.out H).more H.size:bH w5 w5 A2 rest);clear H hr E aaQ acu cG Yr;obtain⟨y,hy⟩:∃y,y=r2.getD En.zero:=⟨_,rfl⟩;rw[<-hy];obtain⟨ok,u⟩:∃b,b=r2.isSome:=⟨_,rfl⟩;rw[<-u];obtain⟨last,G⟩:∃b,b=decide (S=0):=⟨_,rfl⟩;have Jq:Hid (rest=[]↔last=true):=aL (by rw[G,mI,j.out];exact List.length_eq_zero_iff.symm)
  have tl:decide ((0:Int)<(S:Int))= !last:=by
   rw[G]
   by_cases q:S=0
   ·rw[fw q];subst q;rfl
   rw[bN q,fw (by omega)];rfl
  have tl2:((S:Int)==0)=last:=by
   rw[G]
   by_cases q:S=0
   ·rw[fw q];subst q;rfl
   rw[bN q];simp;omega
  obtain⟨ep,ek,D,eo⟩:=y;obtain⟨cnd,N⟩:∃b,b=(ok&&ek==3&&(fo|| !last)):=⟨_,rfl⟩
  have HN:Hid ((!ok&& !last)=true->W=([],6)):=aL (λK=>by
   rw[kI,q9,q9]at K;refine HW.out.trans (Sy.CS U.out HND.out ?_ λhr=> ?_)
   ·rw[<-hG]
    cases r2 with
    |none=>rfl
    |some _=>rw[u]at K;cases K.1
   have:=Jq.out.1 hr;rw[this]at K;cases K.2)
  have HX:Hid ((!ok&& !last)=false->cnd=false->W=Sy.walk T fo h rest nx):=aL (λK hc=>by
   rw[Jp.out]
   cases r2 with
   |none=>
    have u:ok=false:=u;rw[u]at K;refine HW.out.trans (Sy.Gp U.out HND.out hG.symm (Jq.out.2 ?_))
    simpa using K
   |some e=>
    have u:ok=true:=u;have hy:(⟨ep,ek,D,eo⟩:En)=e:=hy;subst hy;refine HW.out.trans (Sy.CU U.out HND.out hG.symm λK=> ?_)
    rw[N,u]at hc;have O:(ek==3)=true:=by have:=K.1;simpa using this
    rw[O]at hc
    rcases K.2 with h2|h2
    ·rw[h2]at hc;cases hc
    ·have h3:last=false:=by
      cases last with
      |false=>rfl
      |true=>exact absurd (Jq.out.2 rfl) h2
     rw[h3]at hc;simp at hc)
  have HK:Hid (cnd=true->D.size<=100/\W=Sy.CQ T fo h D rest s):=aL (λhc=>by
   rw[N,kI,kI]at hc
   cases r2 with
   |none=>have u:ok=false:=u;rw[u]at hc;cases hc.1.1
   |some e=>
    have hy:(⟨ep,ek,D,eo⟩:En)=e:=hy;subst hy;have h3:ek=3:=by simpa using hc.1.2
    refine⟨?_,HW.out.trans (Sy.CV U.out HND.out hG.symm ⟨h3,?_⟩)⟩
    ·exact Ui.out _ _ hG.symm h3
    ·rcases Bool.or_eq_true_iff.1 hc.2 with h4|h4
     ·exact .inl h4
     ·refine .inr λh5=> ?_
      rw[Jq.out.1 h5]at h4;cases h4)
  have HTC:=aL N;clear hy u G hG HW U HND N;have hlz:=HZ.out;rw[Sy.eX]at hlz;have HLZ:=aL hlz;clear hlz HZ;simp only[En.agg,En.cells];have hb6:Below w5 w5 (w5.alloc (.cells #[ep,ek,D,eo] 45)):=(aa _ w5).alloc aR _;have Y:=dh.trans (hb6.mono dh.size);have Yu:=aL ((Rd.below aaR.out hb6).more hb6.size:bH _ _ A2 rest);have J4:=ai.new w5 45 [ep,ek,D,eo];go_upto_region 19 with fail
  clear dh aaR hb6;generalize w5.alloc (.cells #[ep,ek,D,eo] 45)=w6 at*;generalize w5.heap.size=ge at*
  go_cut [78] (λv wx=>v= .bool (!ok&& !last)/\w6=wx)
  case first=>
   cases ok<;>cases last<;>(go_wp2;go_meet;case rel=>exact⟨by first|rfl|(rw[tl];rfl)|(congr 1;simpa using tl),rfl⟩)
  case rest=>
  obtain⟨rfl,rfl⟩:=hcut
  cases tb:!ok&& !last
  rotate_left
  ·have l:Hid (R=([],6)):=aL (by rw[Q.out,HN.out tb,av (λq=>absurd q.1 (by decide))])
   clear HN HX HK HTC tl tl2;go_wp2;go_ret2;exact⟨by rw[l.out];rfl,Y⟩
  have HX:=aL (HX.out tb);clear HN tl;obtain⟨e0,e1,e2,e3,ef,ez⟩:=J4.four;go_upto_region 21 with fail
  go_cut [94] (λv wx=>v= .bool (!cnd)/\w6=wx)
  case first=>
   clear HX HK Jq
   rcases tk:(ek !=3)with _|_<;>cases ok<;>cases fo<;>cases last
   all_goals first
    |(exact absurd tb (by decide))
    |(go_wp2;go_meet;exact⟨by rw[HTC.out,show(ek==3)= !(ek !=3)from(Bool.not_not _).symm,tk];rfl,rfl⟩)
  case rest=>
  obtain⟨rfl,rfl⟩:=hcut;clear HTC tb tl2
  cases cnd
  ·have l:=aL (HX.out rfl)
   clear HX HK e0 e1 e2 e3 ef ez;have tc:(!false)=true:=rfl;go_wp2;go_roundw
   case rel=>exact⟨rest,S,A2,c2,nx,h,z,rfl,rfl,rfl,hh,L,Yt,l,aL (by
    have O:=HLZ.out;rw[af]at O
    omega),Yu,HA2,hc2,Y⟩
   case measure=>simp only[intOf,lenV];have:=HMR.out;have:=j.out;omega
  obtain⟨het,hF⟩:=HK.out rfl;have l:=aL hF;clear hF HX HK;have tc:(!true)=false:=rfl;have hwz:IntKind.i64.wrap (z+1)=z+1:=lm _ (by have:=L.out;omega)
  rcases h with _|h
  ·have HFF:Hid (R=([],12)):=aL (by rw[Q.out,l.out];exact av (λq=>absurd (show(12:Int)=0 from q.1) (by decide)))
   have t8:decide ((8:Int)<z+1)=true:=fw (by have:=L.out;omega)
   go_wp2;go_ret2;exact⟨by rw[HFF.out];rfl,Y⟩
  have t8:decide ((8:Int)<z+1)=false:=bN (by have:=L.out;omega)
  have cP:=λW=>uJ D W (by omega)
  unfold jI at cP;have F:=aL (Sy.ru D);have HFS:=aL (IB (t:=D));have UU:Hid ((Pt.parse D).2≠0->W=([],(Pt.parse D).2)):=aL (λhx=>l.out.trans (Sy.Gq rfl hx))
  have Qh:Hid ((Pt.parse D).2=0->W=Sy.walk T fo h ((Pt.parse D).1++rest) (if Sy.slash D then []else s)):=aL (λhp=>l.out.trans (Sy.CW hp))
  generalize Pt.parse D.data.toList=pp at cP F UU Qh HFS;obtain⟨nl,pe⟩:=pp;dsimp only at cP F UU Qh HFS;clear l;go_wp2_with fail;clear e0 e1 e2 e3 ef ez;refine(cP w6).mono ?_
  rintro e M ⟨v8,rfl,Rk,H⟩;have sK:=Y.trans (H.mono Y.size);have Zp:=J4.below H J4.lt;have acv:=aL ((Rd.below Yu.out H).more H.size:bH M M A2 rest);obtain⟨A8,c8,rfl,hc8,vN,Qk⟩:=aT.rd Rk;have HA8:=aL vN;have Vz:=aL Qk;have hnl:nl.length<=81:=eT (Sy.rq nl) F.out;clear H Rk Y J4 Yu cP vN Qk t8 hwz
  cases tp:pe !=0
  rotate_left
  ·have hpe:pe≠0:=by simpa using tp
   have l:Hid (R=([],pe)):=aL (by rw[Q.out,UU.out hpe,av (λq=>hpe q.1)])
   go_wp2;go_ret2;exact⟨by rw[l.out];rfl,sK⟩
  have l:=aL (Qh.out (by simpa using tp))
  have hfs:0<D.size:=HFS.out (by simpa using tp)
  clear UU Qh HFS;obtain rfl:pe=0:=by simpa using tp
  have Jt:=aL (S9 hfs);obtain⟨e0,e1,e2,e3,ef,ez⟩:=Zp.four;obtain⟨fr,hfr⟩:∃fr:ByteArray,fr=bif Sy.slash D then⟨#[]⟩else s:=⟨_,rfl⟩;have hf1:(if Sy.slash D then []else s)=fr.data.toList:=by rw[hfr];cases Sy.slash D<;>rfl
  have hf2:fr.size<=s.size:=by rw[hfr];cases Sy.slash D;exact aR;exact bL _
  rw[hf1]at l;have HFR:=aL hfr;clear hf1 hfr;go_upto_if 112 with fail
  go_cut [10] (λv wx=>v= .string fr/\M=wx)
  case first=>
   cases tsl:((D[0].toNat:Int)==47)
   ·have HE:Hid (s=fr):=aL (by rw[HFR.out,<-Jt.out,tsl];rfl)
    go_wp2;go_meet
    case rel=>exact⟨by rw[HE.out],rfl⟩
   have HE:Hid ((⟨#[]⟩:ByteArray)=fr):=aL (by rw[HFR.out,<-Jt.out,tsl];rfl)
   go_wp2;go_meet
   case rel=>exact⟨by rw[HE.out],rfl⟩
  case rest=>
  obtain⟨rfl,rfl⟩:=hcut;clear e0 e1 e2 e3 ef ez HFR Jt tp hfs;have Uj:Below M M (M.alloc (.cells #[] 9)):=(aa _ M).alloc aR _;have HO9:=aL (aT.start M);have aaS:([]:List Pt.Bs).length+nl.length<=4000000000:=by rw[sw];omega
  have Yv:(([]:List Pt.Bs)++nl).length+rest.length<=4000000000:=by rw[vv];have:=j.out;omega
  have HR9:=aL (Rd.below Vz.out Uj:bH (M.alloc (.cells #[] 9)) M A8 nl);have aaT:=sK.size
  go_wp2_with (first|(at_builtin;refine xy rfl _ _ rfl rfl aaU.out _ rfl j.out aaV.out HA2.out Yv I.size ?_;intro v11 WB WS acw)|(at_builtin;refine xy rfl _ _ rfl rfl HO9.out _ rfl rfl HR9.out HA8.out aaS Uj.size ?_;intro v10 w10 aaW acx;have I:Below M M w10:=Uj.trans ((aa M _).grown acx Uj.size (λk e=>(gH HO9.out k e).1));have zD:=sK.trans (I.mono aaT);have aaV:=aL ((Rd.below acv.out I).more I.size:bH w10 w10 A2 rest);have aaU:=aL aaW))
  have Yw:Below M w10 WB:=(aa M _).grown acw I.size (λk e=>(gH aaU.out k e).1)
  have ER:=zD.trans (Yw.mono aaT);rw[vv]at WS;obtain⟨A11,c11,rfl,aaX,X8,Yx⟩:=aT.rd WS;go_wp2;go_roundw
  case rel=>exact⟨nl++rest,_,A11,c11,fr,h,z+1,rfl,rfl,by first|rfl|go_num,by omega,aL (by have:=L.out;omega),aL rfl,l,aL (by
   have O:=HLZ.out;have h2:=F.out;rw[Sy.ML]
   omega),aL Yx,aL X8,aaX,ER⟩
  case measure=>
   simp only[intOf,lenV];have O:=L.out;have h2:=j.out;rw[bq];omega
theorem VX(c0 c1 c2 c3 c4 c5 c6 c7 c8 c9 c10 c11 c12 c13 c14 c15 c16 c17 c18 c19 c20 c21 Ij c23 c24 c25 Ik Il c28 c29 Io c31:Value)(W:World):(Instr.index 105 (.agg #[c0,c1,c2,c3,c4,c5,c6,c7,c8,c9,c10,c11,c12,c13,c14,c15,c16,c17,c18,c19,c20,c21,Ij,c23,c24,c25,Ik,Il,c28,c29,Io,c31]) (.int .i64 0)).run prog W= .ok (.agg #[c0,c1,c2,c3,c4,c5,c6,c7]) W:=by kernel_rfl
theorem VY(c0 c1 c2 c3 c4 c5 c6 c7 c8 c9 c10 c11 c12 c13 c14 c15 c16 c17 c18 c19 c20 c21 Ij c23 c24 c25 Ik Il c28 c29 Io c31:Value)(W:World):(Instr.index 105 (.agg #[c0,c1,c2,c3,c4,c5,c6,c7,c8,c9,c10,c11,c12,c13,c14,c15,c16,c17,c18,c19,c20,c21,Ij,c23,c24,c25,Ik,Il,c28,c29,Io,c31]) (.int .i64 1)).run prog W= .ok (.agg #[c8,c9,c10,c11,c12,c13,c14,c15]) W:=by kernel_rfl
theorem VZ(c0 c1 c2 c3 c4 c5 c6 c7 c8 c9 c10 c11 c12 c13 c14 c15 c16 c17 c18 c19 c20 c21 Ij c23 c24 c25 Ik Il c28 c29 Io c31:Value)(W:World):(Instr.index 105 (.agg #[c0,c1,c2,c3,c4,c5,c6,c7,c8,c9,c10,c11,c12,c13,c14,c15,c16,c17,c18,c19,c20,c21,Ij,c23,c24,c25,Ik,Il,c28,c29,Io,c31]) (.int .i64 2)).run prog W= .ok (.agg #[c16,c17,c18,c19,c20,c21,Ij,c23]) W:=by kernel_rfl
theorem V3(c0 c1 c2 c3 c4 c5 c6 c7 c8 c9 c10 c11 c12 c13 c14 c15 c16 c17 c18 c19 c20 c21 Ij c23 c24 c25 Ik Il c28 c29 Io c31:Value)(W:World):(Instr.index 105 (.agg #[c0,c1,c2,c3,c4,c5,c6,c7,c8,c9,c10,c11,c12,c13,c14,c15,c16,c17,c18,c19,c20,c21,Ij,c23,c24,c25,Ik,Il,c28,c29,Io,c31]) (.int .i64 3)).run prog W= .ok (.agg #[c24,c25,Ik,Il,c28,c29,Io,c31]) W:=by kernel_rfl
theorem Y3(c0 c1 c2 c3 c4 c5 c6 c7:Value)(W:World):(Instr.index 104 (.agg #[c0,c1,c2,c3,c4,c5,c6,c7]) (.int .i64 0)).run prog W= .ok c0 W:=by kernel_rfl
theorem Y4(c0 c1 c2 c3 c4 c5 c6 c7:Value)(W:World):(Instr.index 104 (.agg #[c0,c1,c2,c3,c4,c5,c6,c7]) (.int .i64 1)).run prog W= .ok c1 W:=by kernel_rfl
theorem Y5(c0 c1 c2 c3 c4 c5 c6 c7:Value)(W:World):(Instr.index 104 (.agg #[c0,c1,c2,c3,c4,c5,c6,c7]) (.int .i64 2)).run prog W= .ok c2 W:=by kernel_rfl
theorem Y6(c0 c1 c2 c3 c4 c5 c6 c7:Value)(W:World):(Instr.index 104 (.agg #[c0,c1,c2,c3,c4,c5,c6,c7]) (.int .i64 3)).run prog W= .ok c3 W:=by kernel_rfl
theorem Y7(c0 c1 c2 c3 c4 c5 c6 c7:Value)(W:World):(Instr.index 104 (.agg #[c0,c1,c2,c3,c4,c5,c6,c7]) (.int .i64 4)).run prog W= .ok c4 W:=by kernel_rfl
theorem Y8(c0 c1 c2 c3 c4 c5 c6 c7:Value)(W:World):(Instr.index 104 (.agg #[c0,c1,c2,c3,c4,c5,c6,c7]) (.int .i64 5)).run prog W= .ok c5 W:=by kernel_rfl
theorem Y9(c0 c1 c2 c3 c4 c5 c6 c7:Value)(W:World):(Instr.index 104 (.agg #[c0,c1,c2,c3,c4,c5,c6,c7]) (.int .i64 6)).run prog W= .ok c6 W:=by kernel_rfl
theorem Y_(c0 c1 c2 c3 c4 c5 c6 c7:Value)(W:World):(Instr.index 104 (.agg #[c0,c1,c2,c3,c4,c5,c6,c7]) (.int .i64 7)).run prog W= .ok c7 W:=by kernel_rfl
theorem uT{r:List (Option Nat)}(h:r.length=8):∃a0 a1 a2 a3 a4 a5 a6 a7:Int,r.map tC=[.int .i64 a0,.int .i64 a1,.int .i64 a2,.int .i64 a3,.int .i64 a4,.int .i64 a5,.int .i64 a6,.int .i64 a7]/\
  ∀(j:Nat) (hj:j<8) (W:World),(Instr.index 104 (.agg #[a0,a1,a2,a3,a4,a5,a6,a7]) (.int .i64 j)).run prog W= .ok (.int .i64 (PE (r[j]'(by omega)))) W:=by
 match r,h with
 |[x0,x1,x2,x3,x4,x5,x6,x7],_=>
  refine⟨PE x0,PE x1,PE x2,PE x3,PE x4,PE x5,PE x6,PE x7,by simp[Ym],λj hj W=> ?_⟩
  match j,hj with
  |0,_=>exact Y3 _ _ _ _ _ _ _ _ W
  |1,_=>exact Y4 _ _ _ _ _ _ _ _ W
  |2,_=>exact Y5 _ _ _ _ _ _ _ _ W
  |3,_=>exact Y6 _ _ _ _ _ _ _ _ W
  |4,_=>exact Y7 _ _ _ _ _ _ _ _ W
  |5,_=>exact Y8 _ _ _ _ _ _ _ _ W
  |6,_=>exact Y9 _ _ _ _ _ _ _ _ W
  |7,_=>exact Y_ _ _ _ _ _ _ _ _ W
  |j+8,hj=>exact absurd hj (by omega)
theorem Za{fds:List (List (Option Nat))}(hl:fds.length=4)(hr:∀r∈fds,r.length=8){k:Nat}(hk:k<4):∃a0 a1 a2 a3 a4 a5 a6 a7:Int,
  (∀W,(Instr.index 105 (.agg (mJ fds).toArray) (.int .i64 k)).run prog W= .ok (.agg #[a0,a1,a2,a3,a4,a5,a6,a7]) W)/\
  ∀(j:Nat) (_hj:j<8) (hq:k<fds.length) (hp:j<fds[k].length) (W:World),(Instr.index 104 (.agg #[a0,a1,a2,a3,a4,a5,a6,a7]) (.int .i64 j)).run prog W= .ok (.int .i64 (PE fds[k][j])) W:=by
 match fds,hl with
 |[r0,r1,r2,r3],_=>
  obtain⟨a0,a1,a2,a3,a4,a5,a6,a7,ha,N⟩:=uT (hr r0 (by simp))
  obtain⟨m,g,B,l,A,h,i,v,I,M⟩:=uT (hr r1 (by simp))
  obtain⟨G,t,u,x,F,y,E,n,O,K⟩:=uT (hr r2 (by simp))
  obtain⟨w,o,b,c,D,z,q,p,H,L⟩:=uT (hr r3 (by simp))
  have e:(mJ [r0,r1,r2,r3]).toArray=#[.int .i64 a0,.int .i64 a1,.int .i64 a2,.int .i64 a3,.int .i64 a4,.int .i64 a5,.int .i64 a6,.int .i64 a7,.int .i64 m,.int .i64 g,.int .i64 B,.int .i64 l,.int .i64 A,.int .i64 h,.int .i64 i,.int .i64 v,.int .i64 G,.int .i64 t,.int .i64 u,.int .i64 x,.int .i64 F,.int .i64 y,.int .i64 E,.int .i64 n,.int .i64 w,.int .i64 o,.int .i64 b,.int .i64 c,.int .i64 D,.int .i64 z,.int .i64 q,.int .i64 p]:=by
   unfold mJ;simp[ha,I,O,H]
  rw[e]
  match k,hk with
  |0,_=>exact⟨a0,a1,a2,a3,a4,a5,a6,a7,λW=>VX _ _ _ _ _ _ _ _ _ _ _ _ _ _ _ _ _ _ _ _ _ _ _ _ _ _ _ _ _ _ _ _ W,λj a _ _ W=>N j a W⟩
  |1,_=>exact⟨m,g,B,l,A,h,i,v,λW=>VY _ _ _ _ _ _ _ _ _ _ _ _ _ _ _ _ _ _ _ _ _ _ _ _ _ _ _ _ _ _ _ _ W,λj a _ _ W=>M j a W⟩
  |2,_=>exact⟨G,t,u,x,F,y,E,n,λW=>VZ _ _ _ _ _ _ _ _ _ _ _ _ _ _ _ _ _ _ _ _ _ _ _ _ _ _ _ _ _ _ _ _ W,λj a _ _ W=>K j a W⟩
  |3,_=>exact⟨w,o,b,c,D,z,q,p,λW=>V3 _ _ _ _ _ _ _ _ _ _ _ _ _ _ _ _ _ _ _ _ _ _ _ _ _ _ _ _ _ _ _ _ W,λj a _ _ W=>L j a W⟩
  |k+4,hk=>exact absurd hk (by omega)
def kF(des:List Rq)(i:Nat):Option Nat->Bool
 |some d=>(des.getD d ⟨0,0,0⟩).o==i
 |none=>false
theorem LQ(w:Rw)(i:Nat):Rw.used w i=w.fds.any λr=>r.any (kF w.des i):=by
 unfold Rw.used
 rfl
theorem abj{α:Type}{p:α->Bool}{l:List α}{k:Nat}(hk:k<l.length)(h:(l.take k).any p=false):(l.take (k+1)).any p=p l[k]:=by
 rw[aF hk,AJ,h,rz];simp
theorem abk{α:Type}{p:α->Bool}{l:List α}{k:Nat}(hk:k<l.length)(h:p l[k]=true):l.any p=true:=List.any_eq_true.2 ⟨_,cz hk,h⟩
theorem Ar(p:Rl)(r:Rw)(i:Nat)(w:World)(h:aO w p r)(hl:r.fds.length=4)(hr:∀x∈r.fds,x.length=8)(hd:∀x∈r.fds,∀d,some d∈x->d<r.des.length):Calls prog 61 #[.pointer p.g,i] w λe w'=>e= .returned (.bool (Rw.used r i))/\Below w w w':=by
 rw[LQ];have HA:=aL h;obtain⟨AU,AL,AT,cU,cL,cT,z,_,_,_⟩:=h.box;have hlen:(mJ r.fds).length=32:=SV hl hr;have Z:Hid (World.rangeAt w p.g 5 (mJ r.fds)):=aL λj v hv=>by
  have h1:=z.cell (5+j);rw[show 5+j=j+1+1+1+1+1 by omega]at h1 ⊢
  exact h1.trans hv
 have E:Hid ((prog.info? 105).map (·.size)=some (mJ r.fds).length):=aL (by rw[hlen];kernel_rfl)
 have H:=aL (λk (hk:k<4)=>Za hl hr hk)
 have D:=aL hl;have Vz:=aL hr;have Ku:=aL hd;obtain⟨AD,cD,I⟩:=iI h.des;have B:=z.cell 4;replace B:w.cell? ⟨p.g,4,none⟩=some p.vD:=B;rw[I]at B;have I4:=aL I;have hgs:p.g<w:=z.lt;clear hl hr hd hlen h z I;obtain⟨CL,S⟩:∃C,C=mJ r.fds:=⟨_,rfl⟩;rw[<-S]at Z E H;clear S;obtain⟨C,S⟩:∃C,C=CL.toArray:=⟨_,rfl⟩;rw[<-S]at H;have HC:=aL S;clear S;go_enter func61,ntmps61
 go_wp2_with ((refine wpList_load_mid rfl 105 _ rfl p.g 5 rfl CL _ Z.out underlying105 rfl E.out ?_);rw[<-HC.out])
 go_loopw [13] (λj wr=>∃k:Nat,k<=4/\j= .int .i64 k/\Hid ((r.fds.take k).any (λx=>x.any (kF r.des i))=false)/\Below w w wr) (λj _=>4- (intOf j).toNat)
 case atStart=>exact⟨0,bL _,rfl,aL (by simp),aa _ _⟩
 case round=>
  obtain⟨k,hk,rfl,q,hB⟩:=hrel
  by_cases F:k<4
  ·obtain⟨O,L,Q,U,N,M,V,K,hix,m⟩:=H.out k F
   have t:k<r.fds.length:=by rw[D.out];exact F
   have Qk:r.fds[k].length=8:=Vz.out _ (cz t);have Y:Hid ((r.fds[k].any (kF r.des i))=false->(r.fds.take (k+1)).any (λx=>x.any (kF r.des i))=false):=aL λh=>(abj t q.out).trans h
   have Hfd:Hid ((r.fds[k].any (kF r.des i))=true->r.fds.any (λx=>x.any (kF r.des i))=true):=aL λh=>abk (p:=λx=>x.any (kF r.des i)) t h
   have HJX:Hid (∀(j:Nat) (_hj:j<8) (hp:j<r.fds[k].length) (W:World),(Instr.index 104 (.agg #[O,L,Q,U,N,M,V,K]) (.int .i64 j)).run prog W= .ok (.int .i64 (PE r.fds[k][j])) W):=aL λj hj hp W=>m j hj t hp W
   have ZH:Hid (∀d,some d∈r.fds[k]->d<r.des.length):=aL λd hd=>Ku.out _ (cz t) d hd
   have HR:=aL Qk;generalize r.fds[k]=x at Y Hfd HJX ZH HR;clear Qk m;have hb1:Below wr wr (wr.alloc (.cells #[O,L,Q,U,N,M,V,K] 104)):=(aa _ wr).alloc aR _;have A:=hB.trans (hb1.mono hB.size);have HA2:=aL (HA.out.below A);have l:=ai.new wr 104 [O,L,Q,U,N,M,V,K];go_upto_region 4 with fail
   clear hix hB hb1;generalize wr.alloc (.cells #[O,L,Q,U,N,M,V,K] 104)=w2 at*;generalize wr.heap.size=gb at*;have x0:=l.cell 0;have x1:=l.cell 1;have x2:=l.cell 2;have x3:=l.cell 3;have x4:=l.cell 4;have x5:=l.cell 5;have x6:=l.cell 6;have x7:=l.cell 7;simp only[List.getElem?_cons_zero,List.getElem?_cons_succ]at x0 x1 x2 x3 x4 x5 x6 x7;go_wp2_with fail;clear x0 x1 x2 x3 x4 x5 x6 x7 l
   go_loopw [17] (λjj wr=>∃j:Nat,j<=8/\jj= .int .i64 j/\Hid ((x.take j).any (kF r.des i)=false)/\w2=wr) (λjj _=>8- (intOf jj).toNat)
   case atStart=>exact⟨0,bL _,rfl,aL (by simp),rfl⟩
   case round=>
    obtain⟨j,hj,rfl,a,rfl⟩:=hrel
    by_cases n:j<8
    ·have u:j<x.length:=by rw[HR.out];exact n
     have m:=HJX.out j n u;have Hs:Hid (kF r.des i x[j]=false->(x.take (j+1)).any (kF r.des i)=false):=aL λh=>(abj u a.out).trans h
     have Hf:Hid (kF r.des i x[j]=true->x.any (kF r.des i)=true):=aL λh=>abk u h
     have HM:Hid (∀d,x[j]=some d->d<r.des.length):=aL λd hd=>ZH.out d (hd▸cz u)
     generalize x[j]=y at m Hs Hf HM
     rcases y with _|d
     ·replace m:∀W:World,(Instr.index 104 (.agg #[O,L,Q,U,N,M,V,K]) (.int .i64 j)).run prog W= .ok (.int .i64 (-1)) W:=m
      go_wp2;go_roundw
      case rel=>exact⟨j+1,n,by go_num,aL (Hs.out rfl),by first|rfl|trivial⟩
      case measure=>simp[intOf];omega
     replace m:∀W:World,(Instr.index 104 (.agg #[O,L,Q,U,N,M,V,K]) (.int .i64 j)).run prog W= .ok (.int .i64 (d:Int)) W:=m;have hdl:d<r.des.length:=HM.out d rfl;obtain⟨b,c,hv,hb,hbg,q0,_,_,_⟩:=HA2.out.de hdl;have adN:=(A.cell (p:=⟨p.g,4,none⟩) hgs).trans B;rw[I4.out]at hv;injection hv with e1 e2 e3
     subst e1 e3;have hd0:decide ((d:Int)≥0)=true:=by simp
     have ic1:(0:Int)<=(d:Int):=gD _;have ic2:(d:Int)<(r.des.length:Int):=by omega
     have G:Hid (kF r.des i (some d)=(((r.des[d].o:Nat):Int)==(i:Int))):=aL (by
      show((r.des.getD d ⟨0,0,0⟩).o==i)=_
      rw[bi,bA hdl,qD];rw[vR,p9,p9];omega)
     generalize r.des[d].o=od at q0 G
     cases tq:(((od:Nat):Int)==(i:Int))
     ·have HS:=aL (Hs.out (G.out.trans tq))
      go_wp2;go_roundw
      case rel=>exact⟨j+1,n,by go_num,HS,by first|rfl|trivial⟩
      case measure=>simp[intOf];omega
     have HF:=aL (Hfd.out (Hf.out (G.out.trans tq)));go_wp2;go_ret;exact⟨by rw[HF.out];rfl,A⟩
    obtain rfl:j=8:=by omega
    have a:=a.out;rw[fI (by rw[HR.out];omega)]at a
    have HS:=aL (Y.out a);clear a;go_wp2;go_roundw
    case rel=>exact⟨k+1,F,by go_num,HS,A⟩
    case measure=>simp[intOf];omega
  have q:=q.out;rw[fI (by rw[D.out];omega)]at q
  have qi:=aL q;clear q;obtain rfl:k=4:=by omega
  go_wp2;go_ret;exact⟨by rw[qi.out];rfl,hB⟩
end Go.Proofs.YtjppfhgkanbemabGreatDoor
