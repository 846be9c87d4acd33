/- A part of the proof of SysTells: MA. -/
import Derived.Below
import Derived.Laws.OwnMore
import Derived.Laws.Rows
import Derived.Deep.AppendLies
import Derived.Deep.Draws
import Derived.Maps.AppendAt
import Derived.RegionTactic
import Derived.OwnWalk
import Derived.WalkKit
import Derived.Lib.Hide
import Derived.Laws.CopyRow
import Derived.Lib.SliceRun
import Derived.Shelf.SlSortCmp.NoneTotal
import Derived.Test.YtjppfhgkanbemabGreatDoorProg
import Derived.Test.YtjppfhgkanbemabGreatDoorMB
import Derived.WalkSpells
import Derived.WalkLawsBesides
import Derived.Deep.QuietTactic
import Derived.BigQuiet
import Derived.Outline
import Derived.LoopTactic
set_option maxHeartbeats 3000000
set_option maxRecDepth 100000
set_option linter.all false
namespace Go.Proofs.YtjppfhgkanbemabGreatDoor
open Tryz
open Go.RowKit
instance:Coe Nat Addr:=⟨fun g=>⟨g,0,none⟩⟩
instance:Coe World Nat:=⟨fun w=>w.heap.size⟩
instance:Coe Unit Value:=⟨fun _=>.slice none 0 0⟩
inductive Qs|e
instance:Coe Qs Value:=⟨fun _=>.string ⟨#[]⟩⟩
theorem aL{p:Prop}(h:p):Hid p:=h
def aa:=@Go.RowKit.Below.refl
def eO:=@Go.wp_region_quiet_lit
def ic:=@Go.wpQuiet_nil
def lm:=@Go.IntWalk.i64_in
def lw:=@Go.info_parts
def mh:=@Go.RowKit.Below.heap_setCell
def Ao:=@Go.World.grownBy.refl
def Bt:=@Go.RowKit.Below.heap_alloc
def Bw:=@Go.callsIn_wide
def El:=@Go.DataW.trod_int
def Er:=@Go.run_append_own_at
def EQ:=@Go.DataW.trod_string
instance:Coe Int Value:=⟨.int .i64⟩
instance:Coe Nat Value:=⟨λn=> .int .i64 (n:Int)⟩
instance:Coe ByteArray Value:=⟨.string⟩
instance:Coe Bool Value:=⟨.bool⟩
def Rd(w:World)(B size:Nat)(A:Option Addr)(n:Nat)(xs:List Value):Prop:=
 xs.length=n*size/\(0<n->∃b o,A=some ⟨b,o,none⟩/\b<B/\∀j u,xs[j]? =some u->w.cell? ⟨b,o+j,none⟩=some u)
def Same(B:Nat)(w w':World):Prop:=∀p:Addr,p.block<B->w'.cell? p=w.cell? p
def ai(w:World)(g:Nat)(t:TypeId)(cs:List Value):Prop:=w.heap[g]? =some (.cells cs.toArray t (0,0))
section
variable {w w':World} {B B' size n:Nat} {A:Option Addr} {xs:List Value}
theorem Rd.nil:Rd w B size A 0 []:=⟨by simp,λh=>absurd h (by omega)⟩
theorem Rd.keep(h:Rd w B size A n xs)(hk:∀p:Addr,p.block<B->w'.cell? p=w.cell? p):Rd w' B size A n xs:=
 ⟨h.1,λi=>by
  obtain⟨b,o,e,a,c⟩:=h.2 i;exact⟨b,o,e,a,λj u g=>(hk _ a).trans (c j u g)⟩⟩
theorem Rd.more(h:Rd w B size A n xs)(hB:B<=B'):Rd w B' size A n xs:=
 ⟨h.1,λc=>by
  obtain⟨b,o,e,g,a⟩:=h.2 c;exact⟨b,o,e,by omega,a⟩⟩
theorem Rd.below(h:Rd w B size A n xs)(hb:Below B w w'):Rd w' B size A n xs:=h.keep λ_ a=>hb.cell a
theorem Rd.alloc(h:Rd w B size A n xs)(hB:B<=w.heap.size)(o:Obj):Rd (w.alloc o) B size A n xs:=h.keep λp a=>dx w o p (by omega)
theorem Rd.iK{base:Nat}{e:TypeId}{c:Nat}(h:w.ownsRow base e size (.slice A n c) n xs):Rd w w size A n xs:=by
 refine⟨h.1,λm=> ?_⟩
 obtain⟨g,i,b,_,a⟩:=h.form m;have l:A=some ⟨g,0,none⟩:=by injection b
 subst l;refine⟨g,0,rfl,a,λj u k=> ?_⟩
 have:=h.cells (g:=g) rfl j u k;rw[<-this];unfold Addr.add
 split
 ·rename_i h0;simp[h0]
 simp
end
section
variable {w w':World} {g:Nat} {t:TypeId} {cs:List Value}
theorem ai.lt(h:ai w g t cs):g<w:=by
 rcases iB g w with b|a
 ·exact b
 unfold ai at h;rw[Co a]at h;cases h
theorem ai.cell(h:ai w g t cs)(i:Nat):w.cell? ⟨g,i,none⟩=cs[i]? :=(cell_of_row w g i cs.toArray t (0,0) h).trans (by simp)
theorem ai.frozen(h:ai w g t cs)(i:Nat):w.frozen? ⟨g,i,none⟩=false:=by
 unfold ai at h;simp[World.frozen?,h]
theorem ai.new(w:World)(t:TypeId)(cs:List Value):ai (w.alloc (.cells cs.toArray t)) w t cs:=heap_alloc_new w _
theorem ai.drew(h:ai w g t cs):ai w.drew g t cs:=h
theorem ai.drewN(h:ai w g t cs)(n:Nat):ai (w.drewN n) g t cs:=h
theorem ai.alloc(h:ai w g t cs)(o:Obj):ai (w.alloc o) g t cs:=(Bt w o g h.lt).trans h
theorem ai.far(h:ai w g t cs){p:Addr}(hp:g≠p.block)(u:Value):ai (w.setCell p u) g t cs:=(mh w p u g hp).trans h
theorem ai.bY(h:ai w g t cs)(i:Nat)(u:Value):ai (w.setCell ⟨g,i,none⟩ u) g t (cs.set i u):=by
 unfold ai at h ⊢;simp[World.setCell,AC,h]
theorem ai.below{B:Nat}(h:ai w g t cs)(hb:Below B w w')(hg:g<B):ai w' g t cs:=(hb.block g hg).trans h
theorem ai.grown{row:Option Nat}(h:ai w g t cs)(hb:w.grownBy w' row)(hg:some g≠row):ai w' g t cs:=(hb.block g h.lt hg).trans h
theorem ai.four{a b c d:Value}(h:ai w g t [a,b,c,d]):w.cell? g=some a/\w.cell? ⟨g,1,none⟩=some b/\w.cell? ⟨g,2,none⟩=some c/\w.cell? ⟨g,3,none⟩=some d/\(∀i,w.frozen? ⟨g,i,none⟩=false)/\g<w:=
 ⟨h.cell 0,h.cell 1,h.cell 2,h.cell 3,h.frozen,h.lt⟩
theorem ai.one{a:Value}(h:ai w g t [a]):w.cell? g=some a/\w.frozen? ⟨g,0,none⟩=false/\g<w:=⟨h.cell 0,h.frozen 0,h.lt⟩
theorem ai.two{a b:Value}(h:ai w g t [a,b]):w.cell? g=some a/\w.cell? ⟨g,1,none⟩=some b/\(∀i,w.frozen? ⟨g,i,none⟩=false)/\g<w:=⟨h.cell 0,h.cell 1,h.frozen,h.lt⟩
end
theorem aH{w:World}{base:Nat}{e:TypeId}{size n:Nat}{v:Value}{xs:List Value}(h:w.ownsRow base e size v n xs)(o:Obj):(w.alloc o).ownsRow base e size v n xs:=h.alloc o
theorem own_drewN{w:World}{base:Nat}{e:TypeId}{size n:Nat}{v:Value}{xs:List Value}(h:w.ownsRow base e size v n xs)(k:Nat):(w.drewN k).ownsRow base e size v n xs:=h
theorem own_ne{w:World}{base:Nat}{e:TypeId}{size n:Nat}{v:Value}{xs:List Value}(h:w.ownsRow base e size v n xs){g:Nat}(hg:g<base\/w.heap.size<=g):some g≠v.ownBlock:=by
 intro a;have:=h.lt g a.symm;omega
theorem own_base{w:World}{base base':Nat}{e:TypeId}{size n:Nat}{v:Value}{xs:List Value}(h:w.ownsRow base e size v n xs)(hb:base'<=base):w.ownsRow base' e size v n xs:=by
 obtain⟨c,k|⟨g,b,a,i,l,j⟩⟩:=h
 ·exact⟨c,.inl k⟩
 exact⟨c,.inr ⟨g,b,a,i,eT hb l,j⟩⟩
theorem aB{w:World}{base:Nat}{e:TypeId}{size n:Nat}{v:Value}{xs:List Value}(h:w.ownsRow base e size v n xs):(v= .slice none 0 0/\n=0)\/∃g cap,v= .slice (some ⟨g,0,none⟩) n cap/\base<=g/\g<w/\n<=cap:=by
 obtain⟨_,j|⟨g,cap,c,i,k,b,l,_⟩⟩:=h
 ·exact .inl j
 refine .inr ⟨g,cap,i,k,?_,l⟩
 rcases iB g w with a|a
 ·exact a
 rw[Co a]at b;cases b
theorem own_below{w w':World}{base:Nat}{e:TypeId}{size n:Nat}{v:Value}{xs:List Value}(h:w.ownsRow base e size v n xs){B:Nat}(hb:Below B w w')(hB:w.heap.size<=B):w'.ownsRow base e size v n xs:=by
 obtain⟨j,l|⟨g,c,a,k,m,b,p,o⟩⟩:=h
 ·exact⟨j,.inl l⟩
 refine⟨j,.inr ⟨g,c,a,k,m,?_,p,o⟩⟩
 have:g<w:=by
  rcases iB g w with i|i
  ·exact i
  rw[Co i]at b;cases b
 exact(hb.block g (by omega)).trans b
theorem dN{w w1 w':World}{row:Option Nat}(hg:w.grownBy w1 row)(hb:Below w1 w1 w'):w.grownBy w' row:=
 ⟨hb.os.trans hg.os,hb.tape.trans hg.tape,hb.output.trans hg.output,eT hg.size hb.size,λk b a=>(hb.block k (bE b hg.size)).trans (hg.block k b a)⟩
section
variable {P:Program} (w:World)
theorem MC{o:Oper}{a:Act}{K:Act->World->Prop}{Q:Exit->Act->World->Prop}(s x:Operand)(t:TypeId)(ho:o.op= .call {callee:= .builtin .append,args:=#[s,x],argTypes:=#[t,t]})(base:Nat)(e:TypeId)(i:TypeInfo)(z:Value)(size bytes:Nat)(ht:P.underlying t=some (.slice e))(hi:P.info? e=some i)(hz:i.zero=some z)(hsize:i.size=size)(hby:i.bytes=bytes)(hzs:z.cells.size=size)(hsz:0<size)(v:Value)(n:Nat)(xs:List Value)(hs:a.eval s=v)(hown:w.ownsRow base e size v n xs)(news:List Value)(hx:a.eval x= .slice w 1 1)(hl:news.length=size)(h1:∀u∈news,u.oneCell'=true)(hbytes:(n+1)*bytes<=140737488355328)(DZ:0<bytes)(hbase:base<=w.heap.size)(W:World)(hW:W=w.alloc (.cells news.toArray e))(h:∀v' w',w'.ownsRow base e size v' (n+1) (xs++news)->w.grownBy w' v.ownBlock->(v'.ownBlock=v.ownBlock\/v'.ownBlock=some (w.heap.size+1))->K (a.put o.dst v') w'):o.wp P a W K Q:=by
 subst hW;have b:∀j u,news[j]? =some u->(w.alloc (.cells news.toArray e)).cell? ((w.heap.size:Addr).add j)=some u:=by
  intro j u A;have q:(w.heap.size:Addr).add j=⟨w.heap.size,j,none⟩:=by
   unfold Addr.add
   split
   ·rename_i h0;subst h0;rfl
   simp
  rw[q];exact((ai.new w e news).cell j).trans A
 have m:n+1<=maxLen:=by
  have:n+1<=(n+1)*bytes:=Nat.le_mul_of_pos_right _ DZ;unfold maxLen;omega
 obtain⟨v',w',c,r,g,_,y⟩:=Er (P:=P) (w.alloc (.cells news.toArray e)) base t o.type e i z size bytes ht hi hz hsize hby hzs hsz v n xs (hown.alloc _) ⟨w.heap.size,0,none⟩ 1 1 news (by omega) b h1 m hbytes (by simp;omega)
 unfold Oper.wp execOp;simp only[ho,resolve,invoke,builtin,Sem.run_bind,Sem.run_pure,Result.andThen_ok,List.map_toArray,ww,CF,hs,hx,c];refine h v' w' r ⟨g.os,g.tape,g.output,eT (by simp) g.size,λk p l=> ?_⟩ (by simpa using y)
 exact(g.block k (by simp;omega) l).trans (Bt w _ k p)
theorem ax{ops:Array Oper}{rest:List Oper}{o:Oper}{a:Act}{Q:Exit->Act->World->Prop}(hgd:o.guard=none)(s x:Operand)(t:TypeId)(ho:o.op= .call {callee:= .builtin .append,args:=#[s,x],argTypes:=#[t,t]})(base:Nat)(e:TypeId)(i:TypeInfo)(z:Value)(size bytes:Nat)(ht:P.underlying t=some (.slice e))(hi:P.info? e=some i)(hz:i.zero=some z)(hsize:i.size=size)(hby:i.bytes=bytes)(hzs:z.cells.size=size)(hsz:0<size)(v:Value)(n:Nat)(xs:List Value)(hs:a.eval s=v)(hown:w.ownsRow base e size v n xs)(news:List Value)(hx:a.eval x= .slice w 1 1)(hl:news.length=size)(h1:∀u∈news,u.oneCell'=true)(hbytes:(n+1)*bytes<=140737488355328)(DZ:0<bytes)(hbase:base<=w.heap.size)(W:World)(hW:W=w.alloc (.cells news.toArray e))(h:∀v' w',w'.ownsRow base e size v' (n+1) (xs++news)->w.grownBy w' v.ownBlock->(v'.ownBlock=v.ownBlock\/v'.ownBlock=some (w.heap.size+1))->wpList P ops Q rest (a.put o.dst v') w'):wpList P ops Q (o::rest) a W:=
 wpList_plain hgd λ_ b=>MC w s x t ho base e i z size bytes ht hi hz hsize hby hzs hsz v n xs hs hown news hx hl h1 hbytes DZ hbase W hW λv' w' c j g=>b _ _ (h v' w' c j g)
theorem qQ{ops:Array Oper}{o:Oper}{a:Act}{K:Act->World->Prop}{Q:Exit->Act->World->Prop}{E:Prop}(hgd:o.guard=none)(s x:Operand)(t:TypeId)(ho:o.op= .call {callee:= .builtin .append,args:=#[s,x],argTypes:=#[t,t]})(base:Nat)(e:TypeId)(i:TypeInfo)(z:Value)(size bytes:Nat)(ht:P.underlying t=some (.slice e))(hi:P.info? e=some i)(hz:i.zero=some z)(hsize:i.size=size)(hby:i.bytes=bytes)(hzs:z.cells.size=size)(hsz:0<size)(v:Value)(n:Nat)(xs:List Value)(hs:a.eval s=v)(hown:w.ownsRow base e size v n xs)(news:List Value)(hx:a.eval x= .slice w 1 1)(hl:news.length=size)(h1:∀u∈news,u.oneCell'=true)(hbytes:(n+1)*bytes<=140737488355328)(DZ:0<bytes)(hbase:base<=w.heap.size)(W:World)(hW:W=w.alloc (.cells news.toArray e))(h:∀v' w',w'.ownsRow base e size v' (n+1) (xs++news)->w.grownBy w' v.ownBlock->(v'.ownBlock=v.ownBlock\/v'.ownBlock=some (w.heap.size+1))->K (a.put o.dst v') w'):if Region.wanted o (yielded ops a.tmps)=true then Oper.wp P o a W K Q else E:=by
 have b:Region.wanted o (yielded ops a.tmps)=true:=by simp[Region.wanted,hgd]
 rw[aM b];exact MC w s x t ho base e i z size bytes ht hi hz hsize hby hzs hsz v n xs hs hown news hx hl h1 hbytes DZ hbase W hW h
end
theorem Oa{v v':Value}{w:World}{g:Nat}(hat:v'.ownBlock=v.ownBlock\/v'.ownBlock=some (w.heap.size+1))(hne:some g≠v.ownBlock)(hg:g<w):some g≠v'.ownBlock:=by
 rcases hat with h|h
 ·rw[h];exact hne
 rw[h];intro e;injection e with e;omega
theorem below_grown{B:Nat}{a w w':World}{row:Option Nat}(h:Below B a w)(hg:w.grownBy w' row)(hB:B<=w.heap.size)(hr:∀k,row=some k->B<=k):Below B a w':=h.grown hg hB hr
theorem below_drewN{B:Nat}{a w:World}(h:Below B a w)(n:Nat):Below B a (w.drewN n):=⟨h.os,h.tape,h.output,h.size,h.block⟩
theorem MF{w:World}{base:Nat}{e:TypeId}{size n:Nat}{v:Value}{xs:List Value}(h:w.ownsRow base e size v (n+1) xs):∃g cap,v= .slice (some ⟨g,0,none⟩) (n+1) cap/\base<=g:=by
 rcases aB h with⟨_,c⟩|⟨g,cap,a,b,_,_⟩
 ·omega
 exact⟨g,cap,a,b⟩
section
variable {P:Program} (w:World)
theorem Ux{o:Oper}{a:Act}{K:Act->World->Prop}{Q:Exit->Act->World->Prop}(s x:Operand)(t:TypeId)(ho:o.op= .call {callee:= .builtin .append,args:=#[s,x],argTypes:=#[t,t]})(base:Nat)(e:TypeId)(i:TypeInfo)(z:Value)(size bytes:Nat)(ht:P.underlying t=some (.slice e))(hi:P.info? e=some i)(hz:i.zero=some z)(hsize:i.size=size)(hby:i.bytes=bytes)(hzs:z.cells.size=size)(hsz:0<size)(v:Value)(n:Nat)(xs:List Value)(hs:a.eval s=v)(hown:w.ownsRow base e size v n xs)(g:Nat)(te:TypeId)(news:List Value)(hx:a.eval x= .slice g 1 1)(hb:ai w g te news)(hl:news.length=size)(h1:∀u∈news,u.oneCell'=true)(hbytes:(n+1)*bytes<=140737488355328)(DZ:0<bytes)(hbase:base<=w.heap.size)(h:∀v' w',w'.ownsRow base e size v' (n+1) (xs++news)->w.grownBy w' v.ownBlock->(v'.ownBlock=v.ownBlock\/v'.ownBlock=some w.heap.size)->K (a.put o.dst v') w'):o.wp P a w K Q:=by
 have b:∀j u,news[j]? =some u->w.cell? ((g:Addr).add j)=some u:=by
  intro j u q;have l:(g:Addr).add j=⟨g,j,none⟩:=by
   unfold Addr.add
   split
   ·rename_i h0;subst h0;rfl
   simp
  rw[l];exact(hb.cell j).trans q
 have k:n+1<=maxLen:=by
  have:n+1<=(n+1)*bytes:=Nat.le_mul_of_pos_right _ DZ;unfold maxLen;omega
 obtain⟨v',w',c,m,r,_,p⟩:=Er (P:=P) w base t o.type e i z size bytes ht hi hz hsize hby hzs hsz v n xs hown ⟨g,0,none⟩ 1 1 news (by omega) b h1 k hbytes hbase
 unfold Oper.wp execOp;simp only[ho,resolve,invoke,builtin,Sem.run_bind,Sem.run_pure,Result.andThen_ok,List.map_toArray,ww,CF,hs,hx,c];exact h v' w' m r p
theorem BQ{ops:Array Oper}{o:Oper}{a:Act}{K:Act->World->Prop}{Q:Exit->Act->World->Prop}{E:Prop}(hgd:o.guard=none)(s x:Operand)(t:TypeId)(ho:o.op= .call {callee:= .builtin .append,args:=#[s,x],argTypes:=#[t,t]})(base:Nat)(e:TypeId)(i:TypeInfo)(z:Value)(size bytes:Nat)(ht:P.underlying t=some (.slice e))(hi:P.info? e=some i)(hz:i.zero=some z)(hsize:i.size=size)(hby:i.bytes=bytes)(hzs:z.cells.size=size)(hsz:0<size)(v:Value)(n:Nat)(xs:List Value)(hs:a.eval s=v)(hown:w.ownsRow base e size v n xs)(g:Nat)(te:TypeId)(news:List Value)(hx:a.eval x= .slice g 1 1)(hb:ai w g te news)(hl:news.length=size)(h1:∀u∈news,u.oneCell'=true)(hbytes:(n+1)*bytes<=140737488355328)(DZ:0<bytes)(hbase:base<=w.heap.size)(h:∀v' w',w'.ownsRow base e size v' (n+1) (xs++news)->w.grownBy w' v.ownBlock->(v'.ownBlock=v.ownBlock\/v'.ownBlock=some w.heap.size)->K (a.put o.dst v') w'):if Region.wanted o (yielded ops a.tmps)=true then Oper.wp P o a w K Q else E:=by
 have b:Region.wanted o (yielded ops a.tmps)=true:=by simp[Region.wanted,hgd]
 rw[aM b];exact Ux w s x t ho base e i z size bytes ht hi hz hsize hby hzs hsz v n xs hs hown g te news hx hb hl h1 hbytes DZ hbase h
end
theorem wP{w w':World}{row:Option Nat}(h:w.grownBy w' row)(o:Obj):w.grownBy (w'.alloc o) row:=dN h ((aa _ _).alloc aR o)
theorem bG{a b c:World}{row:Option Nat}(h:a.grownBy b row)(k:b.grownBy c row):a.grownBy c row:=
 ⟨k.os.trans h.os,k.tape.trans h.tape,k.output.trans h.output,eT h.size k.size,λi g e=>(k.block i (bE g h.size) e).trans (h.block i g e)⟩
theorem kJ{P:Program}{w:World}{base:Nat}{e size n cap:Nat}{g:Nat}{xs:List Value}(t ty:TypeId)(z:Value)(ht:P.underlying t=some (.slice e))(hv:∀w,(zeroValue e).run P w= .ok z w)(hzs:z.cells.size=size)(h1:∀u∈z.cells.toList,u.oneCell'=true)(hown:w.ownsRow base e size (.slice g n cap) n xs)(k c:Nat)(A:Option Addr)(hk:k<=n)(hA:k<n->A=some ⟨g,k*size,none⟩):∃w',(Builtin.clear_ #[t] ty #[.slice A (n-k) c]).run P w= .ok (.tuple #[]) w'/\w'.ownsRow base e size (.slice g k cap) k (xs.take (k*size))/\w.grownBy w' (some g):=by
 obtain⟨Q,U|⟨g',Y,b,E,L,r,H,o,O,p⟩⟩:=hown
 ·cases U.1
 injection E with a V G
 injection a with a
 injection a with a
 subst a G;have j:k*size<=n*size:=Nat.mul_le_mul_right _ hk;have M:n*size<=b.size:=by rw[O];exact Nat.mul_le_mul_right _ H
 have Z:g<w:=by
  rcases iB g w with h|h
  ·exact h
  rw[Co h]at r;cases r
 rcases iB k n with y|S
 ·have q:(Builtin.zeroCells z.cells (n-k)).toList.length=(n-k)*size:=by simp[Builtin.zeroCells,hzs]
  have F:∀u∈(Builtin.zeroCells z.cells (n-k)).toList,u.oneCell'=true:=by
   intro u N;simp only[Builtin.zeroCells,Array.toList_map,uL,Array.toList_range,Ga]at N;obtain⟨i,I,rfl⟩:=N;have h:0<z.cells.size:=by
    rcases nA z.cells.size with h|h
    ·rw[h]at I;simp at I
    exact h
   have v:i % z.cells.size<z.cells.size:=Nat.mod_lt _ h;rw[Cy z.cells _ v];exact h1 _ (by simp)
  have D:=run_storeCells_at (P:=P) g (k*size) e (Builtin.zeroCells z.cells (n-k)).toList 0 b w r (by rw[q];have:(n-k)*size=n*size-k*size:=Nat.sub_mul _ _ _;omega) F
  rw[hA y];obtain⟨m,v⟩:∃m,n-k=m+1:=⟨n-k-1,by omega⟩
  generalize hzz:(Builtin.zeroCells z.cells (n-k)).toList=K at*;generalize hnc':(b.toList.take (k*size+0)++K++b.toList.drop (k*size+0+K.length)).toArray=l at*;refine⟨w.setRow g l,by
   rw[v];simp only[Builtin.clear_];rw[v]at hzz;simp[u7 ht,hv,hzz,D],?_,?_⟩
  ·refine⟨by rw[bR,Q];omega,.inr ⟨g,cap,l,rfl,L,?_,by omega,o,?_,?_⟩⟩
   ·simp[World.setRow,AC,r]
   ·subst hnc'
    simp only[Ev,bq,bR,gM,Array.length_toList,q];have:(n-k)*size=n*size-k*size:=Nat.sub_mul _ _ _;omega
   subst hnc';rw[<-p];simp only[tQ,tT];rw[sP (by simp;omega),Br,Br,Nat.min_self,qd j]
  refine⟨rfl,rfl,rfl,by simp[World.setRow],λi I B=> ?_⟩
  simp only[World.setRow,AC];rw[av (λW=>B (by rw[W]))]
 have x:n-k=0:=by omega
 refine⟨w,?_,⟨by rw[bR,Q];omega,.inr ⟨g,cap,b,rfl,L,r,by omega,o,O,?_⟩⟩,Ao w _⟩
 ·rw[x]
  cases A<;>simp[Builtin.clear_,u7 ht]
 rw[<-p,Br,qd j]
theorem t_{w:World}{base:Nat}{e size g n cap:Nat}{xs:List Value}(h:w.ownsRow base e size (.slice g n cap) n xs)(j:Nat)(a b c d:Value):((
   ((w.setCell ⟨g,j,none⟩ a).setCell ⟨g,j+1,none⟩ b).setCell ⟨g,j+2,none⟩ c).setCell ⟨g,j+3,none⟩ d).ownsRow base e size (.slice g n cap) n ((((xs.set j a).set (j+1) b).set (j+2) c).set (j+3) d)/\
   w.grownBy ((((w.setCell ⟨g,j,none⟩ a).setCell ⟨g,j+1,none⟩ b).setCell ⟨g,j+2,none⟩ c).setCell ⟨g,j+3,none⟩ d) (some g):=by
 obtain⟨r,l⟩:=h.stored j a;obtain⟨p,k⟩:=r.stored (j+1) b;obtain⟨m,q⟩:=p.stored (j+2) c;obtain⟨o,i⟩:=m.stored (j+3) d;exact⟨o,bG (bG (bG l k) q) i⟩
open Go.Shelf Go.RowKit Go.Lib Go.Sort
section
variable {α:Type} [Inhabited α] {enc:α->List Value} {k:Nat}
theorem flat_get(hk:∀x,(enc x).length=k)(l:List α):∀t,t<l.length*k->(l.flatMap enc)[t]? =some ((enc l.toArray[t/k]!)[t % k]!):=by
 induction l with
 |nil=>intro t h;simp at h
 |cons x r ih=>
  intro t h;have e:0<k:=by
   rcases nA k with b|b
   ·subst b;simp at h
   ·exact b
  rw[sI]
  by_cases a:t<k
  ·rw[l6 (by rw[hk];exact a),Nat.div_eq_of_lt a,Nat.mod_eq_of_lt a]
   have:t<(enc x).length:=by rw[hk];exact a
   simp[this]
  ·rw[kr (by rw[hk];omega),hk,ih (t-k) (by simp only[gL,FL,Nat.one_mul]at h;omega)]
   have c:t/k=(t-k)/k+1:=by
    rw[Nat.div_eq_sub_div e (by omega)]
   have g:t % k=(t-k) % k:=by rw[Nat.mod_eq_sub_mod (by omega)]
   rw[c,g];simp
omit [Inhabited α] in
theorem flat_length(hk:∀x,(enc x).length=k)(l:List α):(l.flatMap enc).length=l.length*k:=by
 induction l with
 |nil=>simp
 |cons x r ih=>rw[sI,bq,ih,hk,gL,FL,Nat.one_mul,Nat.add_comm]
theorem yL(hk:∀x,(enc x).length=k)(l:List α):(flatK enc k l.toArray).toList=l.flatMap enc:=by
 apply lv
 intro t
 by_cases a:t<l.length*k
 ·rw[flat_get hk l t a]
  simp[flatK,a]
 rw[j4 (l:=(flatK enc k l.toArray).toList) (by simp;omega),j4 (by rw[flat_length hk];omega)]
theorem yM{w:World}{base e g n cap:Nat}{l:List α}(hk:∀x,(enc x).length=k)(h:w.ownsRow base e k (.slice g n cap) n (l.flatMap enc)):HoldsK enc k w g 0 l.toArray:=by
 intro j i;have p:(flatK enc k l.toArray).toList=l.flatMap enc:=yL hk l;obtain⟨_,q|⟨u,r,b,a,_,m,_,_,t,o⟩⟩:=h
 ·cases q.1
 injection a with a
 injection a with a
 injection a with a
 subst a;have c:j<n*k:=by
  have:=om List.length o;rw[flat_length hk,bR]at this;simp at i;omega
 constructor
 ·rw[World.cell?]
  simp only[m];have:b[j]? =(l.flatMap enc)[j]? :=by rw[<-o,Ck,aM c];simp
  simp only[mE,this,<-p];rw[Cy _ j i];simp
 simp[World.frozen?,m]
theorem yN{w:World}{base e g n cap nq:Nat}{l:List α}{d':Array α}{os:Array Obj}(hk:∀x,(enc x).length=k)(h:w.ownsRow base e k (.slice g n cap) n (l.flatMap enc))(hd:d'.size=n):(sortWorldK enc k w g 0 nq d' os).ownsRow base e k (.slice g n cap) n (d'.toList.flatMap enc)/\w.grownBy (sortWorldK enc k w g 0 nq d' os) (some g):=by
 have G:(flatK enc k d').toList=d'.toList.flatMap enc:=by have:=yL hk d'.toList;simpa using this
 have c:(d'.toList.flatMap enc).length=n*k:=by rw[flat_length hk];simp[hd]
 obtain⟨O,B|⟨N,L,a,b,D,v,m,r,A,M⟩⟩:=h
 ·cases B.1
 injection b with b F u
 injection b with b
 injection b with b
 subst b u;have E:g<w:=by
  rcases iB g w with t|t
  ·exact t
  rw[Co t]at v;cases v
 have o:∀i:Nat,(sortWorldK enc k w g 0 nq d' os).heap[i]? =(w.heap.modify g (onCells (putCells id 0 (flatK enc k d')))++os)[i]? :=λ_=>rfl
 have H:n*k<=a.size:=by rw[A];exact Nat.mul_le_mul_right _ m
 refine⟨⟨c,.inr ⟨g,cap,putCells id 0 (flatK enc k d') a,rfl,D,?_,m,r,by simp[putCells,A],?_⟩⟩,⟨rfl,rfl,rfl,?_,λi I q=> ?_⟩⟩
 ·rw[o,Ay (by simpa using E),AC,aM rfl,v]
  rfl
 ·apply lv
  intro j;rw[Ck,<-G]
  by_cases y:j<n*k
  ·rw[aM y]
   have p:j<(flatK enc k d').size:=by simp[hd];exact y
   have z:j<a.size:=by omega
   simp only[putCells,Array.getElem?_toList,Array.getElem?_mapIdx,CR z,CR p,sj];rw[aM ⟨bL _,by omega⟩]
   simp only[Nat.sub_zero,id];rw[Cy _ j p]
  rw[av y,j4 (by simp[hd];omega)]
 ·show w.heap.size<=(w.heap.modify g _++os).size
  simp
 rw[o,Ay (by simpa using I),AC,av (λK=>q (by rw[K]))]
end
def Gr(W w':World):Prop:=∃q os',w'=grow (W.drewN q) os'
theorem Gr.refl(W:World):Gr W W:=⟨0,#[],by rw[grow_empty];rfl⟩
theorem Gr.alloc{W w':World}(h:Gr W w')(o:Obj):Gr W (w'.alloc o):=by
 obtain⟨q,a,rfl⟩:=h;exact⟨q,a++ #[o],by rw[alloc_eq_grow,grow_grow]⟩
theorem Gr.drewN{W w':World}(h:Gr W w')(n:Nat):Gr W (w'.drewN n):=by
 obtain⟨q,a,rfl⟩:=h;exact⟨q+n,a,by simp only[grow,World.drewN,z8]⟩
theorem Gr.drew{W w':World}(h:Gr W w'):Gr W w'.drew:=h.drewN 1
section
variable {P:Program} {ρ:Ren} {α:Type} [Inhabited α]
theorem QD(L:SlLaysF0.n6 P ρ)(k:Nat)(aE:∀w,(isAgg (ρ.t 24)).run P w= .ok true w)(zE:∀w,(Go.sizeOf (ρ.t 24)).run P w= .ok k w)(enc:α->List Value)(hk:∀x,(enc x).length=k)(h1:∀x,∀v∈enc x,v.oneCell'=true)(cf:α->α->Int)(hO:SWO (ltOf cf))(f:Nat)(cb:Array Value)(base e g n cap:Nat)(l:List α)(w:World)(eg:∀args w,(callFunc f args).run P w= .ok (.enter f args) w)(hcmp:∀(W:World) (x y:α),Calls P f (#[.agg (enc x).toArray,.agg (enc y).toArray]++cb) W λe w'=>e= .returned (.int .i64 (cf x y))/\Gr W w')(h:w.ownsRow base e k (.slice g n cap) n (l.flatMap enc))(hn:l.length=n)(hsz:n<4611686018427387904):Calls P (ρ.f 6) #[.slice g n cap,.func (.func f) #[] cb] w λen w'=>en= .returned (.tuple #[])/\
   ∃l':List α,l'.Perm l/\(l'.Pairwise λx y=>ltOf cf y x=false)/\w'.ownsRow base e k (.slice g n cap) n (l'.flatMap enc)/\w.grownBy w' (some g):=by
 have D:g<w:=by have:=h.lt g rfl;exact this.2
 have p:l.toArray.size=n:=by simpa using hn
 have c:=AnyQ.slices_SortFunc L k aE zE enc hk h1 cf hO f cb g 0 cap l.toArray w eg (λm os H _ x y=>hcmp _ x y) (yM hk h) D (by rw[p];exact hsz)
 rw[p]at c;refine c.mono ?_
 rintro en w' ⟨rfl,b,nq,os,⟨z,_,r⟩,o,rfl⟩;have a:b.size=n:=z.trans p;obtain⟨G,E⟩:=yN (nq:=nq) (os:=os) hk h a;refine⟨rfl,b.toList,?_,?_,G,E⟩
 ·have A:b.extract 0 n=b:=by rw[<-a];simp
  have F:l.toArray.extract 0 n=l.toArray:=by rw[<-p];simp
  rw[A,F]at r
  simpa using r
 rw[wT];intro i j B u q;have:=o i j (bL _) q (by simpa[a]using u)
 rw[Cy b j (by simpa using u),Cy b i (by simpa using B)]at this
 simpa using this
end
def Lk.cells(x:Lk):List Value:=[.int .i64 x.o,.int .i64 x.f,.int .i64 x.t,.bool x.a]
def Lk.agg(x:Lk):Value:= .agg x.cells.toArray
def Lk.flat(l:List Lk):List Value:=l.flatMap Lk.cells
def GZ(w:World)(b i:Nat)(x:Lk):Prop:=
 w.cell? ⟨b,i,none⟩=some (.int .i64 x.o)/\w.cell? ⟨b,i+1,none⟩=some (.int .i64 x.f)/\w.cell? ⟨b,i+2,none⟩=some (.int .i64 x.t)/\w.cell? ⟨b,i+3,none⟩=some (.bool x.a)
theorem GZ.below{w w':World}{B b i:Nat}{x:Lk}(h:GZ w b i x)(hB:Below B w w')(hb:b<B):GZ w' b i x:=
 ⟨(hB.cell hb).trans h.1,(hB.cell hb).trans h.2.1,(hB.cell hb).trans h.2.2.1,(hB.cell hb).trans h.2.2.2⟩
theorem Dj(b c i j:Nat)(x y:Lk)(w:World)(hx:GZ w b i x)(hy:GZ w c j y):Calls prog 194 #[.pointer (some ⟨b,i,none⟩),.pointer (some ⟨c,j,none⟩)] w λe w'=>e= .returned (.bool (Lk.clash x y))/\∃n,w'=w.drewN n:=by
 obtain⟨G,z,E,u⟩:=x;obtain⟨A,v,B,F⟩:=y;obtain⟨l,p,k,r⟩:=hx;obtain⟨o,q,m,t⟩:=hy;dsimp only at l p k r o q m t;go_enter func194,ntmps194
 go_wp2
 refine eO (by kernel_rfl) (by kernel_rfl) ?_
 repeat(any_goals (first|go_big_quiet_step (fail)|quiet_step (fail)|(refine wpQuiet_step (λK h=> ?_);go_simp;split<;>(refine h _ ?_;clear h K))))
 all_goals (refine ic ?_;intro _ g;obtain⟨D,a⟩:=g;subst a)
 all_goals go_wp2
 all_goals go_ret
 all_goals refine⟨?_,_,rfl⟩
 all_goals (simp_all[Lk.clash,bne]<;>omega)
theorem Et(l:List Lk)(k:Nat)(hk:k<l.length):(Lk.flat l)[k*4+0]? =some (.int .i64 l[k].o)/\(Lk.flat l)[k*4+1]? =some (.int .i64 l[k].f)/\(Lk.flat l)[k*4+2]? =some (.int .i64 l[k].t)/\(Lk.flat l)[k*4+3]? =some (.bool l[k].a):=by
 induction l generalizing k with
 |nil=>simp at hk
 |cons x r ih=>
  have e:Lk.flat (x::r)=[.int .i64 x.o,.int .i64 x.f,.int .i64 x.t,.bool x.a]++Lk.flat r:=rfl;rw[e]
  cases k with
  |zero=>simp
  |succ k=>
   have h:=ih k (by simpa using hk)
   have b:∀j,([Value.int .i64 x.o,.int .i64 x.f,.int .i64 x.t,.bool x.a]++Lk.flat r)[(k+1)*4+j]? =(Lk.flat r)[k*4+j]? :=λj=>by
    rw[kr (by simp;omega)]
    congr 1
    simp;omega
   simpa only[b,Fu]using h
def dJ(w:World)(B:Nat)(A:Option Addr)(l:List Lk):Prop:=Rd w B 4 A l.length (Lk.flat l)
theorem dJ.at_{w:World}{B:Nat}{A:Option Addr}{l:List Lk}(h:dJ w B A l){k:Nat}(hk:k<l.length):∃b o,A=some ⟨b,o,none⟩/\b<B/\GZ w b (o+k*4) l[k]:=by
 obtain⟨b,o,e,j,a⟩:=h.2 (by omega)
 obtain⟨m,g,c,i⟩:=Et l k hk;exact⟨b,o,e,j,a _ _ m,a _ _ g,a _ _ c,a _ _ i⟩
theorem OU(A:Option Addr)(c:Nat)(l:List Lk)(x:Lk)(w:World)(hl:dJ w w A l)(hn:l.length<=9223372036854775807):Calls prog 173 #[.slice A l.length c,x.agg] w λe w'=>e= .returned (.tuple #[((Lk.meets l x).getD Lk.zero).agg,.bool (Lk.meets l x).isSome])/\Below w w w':=by
 obtain⟨n,j,m,g⟩:=x;simp only[Lk.agg,Lk.cells];go_enter func173,ntmps173
 go_wp2
 go_loopw [10] (λi wr=>∃k:Nat,k<=l.length/\i= .int .i64 k/\(∀y∈l.take k,Lk.clash y ⟨n,j,m,g⟩=false)/\Below w w wr/\
   ai wr w 166 [n,j,m,g]/\ai wr (w.heap.size+1) 166 [(0:Int),(0:Int),(0:Int),false])
  (λi _=>l.length- (intOf i).toNat)
 case atStart=>exact⟨0,bL _,rfl,by simp,((aa _ _).alloc aR _).alloc (by simp) _,(ai.new w 166 [n,j,m,g]).alloc _,by have h:=ai.new (w.alloc (.cells #[n,j,m,g] 166)) 166 [(0:Int),(0:Int),(0:Int),false];rw[bX]at h;exact h⟩
 case round=>
  obtain⟨k,O,rfl,p,q,r,t⟩:=hrel;obtain⟨F,E,G,D,S,H⟩:=t.four;obtain⟨I,Z,V,M,_,W⟩:=r.four
  by_cases a:k<l.length
  ·obtain⟨b,o,rfl,N,z⟩:=(dJ.at_ (hl.below q) a)
   obtain⟨L,Q,K,U⟩:=z;go_wp2_with fail;refine(Dj _ _ _ _ l[k] ⟨n,j,m,g⟩ _ ⟨by go_simp,by go_simp,by go_simp,by go_simp⟩ ⟨by go_simp,by go_simp,by go_simp,by go_simp⟩).mono ?_
   rintro e w' ⟨rfl,Y,rfl⟩
   by_cases u:Lk.clash l[k] ⟨n,j,m,g⟩=true
   ·go_wp2_with fail
    have B:Lk.meets l ⟨n,j,m,g⟩=some l[k]:=Lk.F9 a p u;refine aD (v:= .tuple #[l[k].agg,true]) ?_ rfl ⟨by rw[B];rfl,?_⟩
    ·simp[results,results173,go_sem,F,E,G,D,H,Lk.agg,Lk.cells]
    exact below_drewN (((((q.alloc q.size _).setCell (by simp) _).setCell (by simp) _).setCell (by simp) _).setCell (by simp) _) _
   go_wp2;go_roundw
   case rel=>exact⟨k+1,a,by go_num,Lk.JY a p u,below_drewN (q.alloc q.size _) _,(r.alloc _).drewN _,(t.alloc _).drewN _⟩
   case measure=>simp[intOf];omega
  go_wp2_with fail;have B:Lk.meets l ⟨n,j,m,g⟩=none:=Lk.JX (by omega) p
  refine aD (v:= .tuple #[Lk.zero.agg,false]) ?_ rfl ⟨by rw[B];rfl,?_⟩
  ·simp[results,results173,go_sem,F,E,G,D,Lk.zero,Lk.agg,Lk.cells]
  exact(((q.setCell (by simp) _).setCell (by simp) _).setCell (by simp) _).setCell (by simp) _
def tC:Option Nat->Value
 |none=> .int .i64 (-1)
 |some d=> .int .i64 d
theorem aA(e:Int)(w:World):Calls prog 98 #[e] w λr w'=>r= .returned (.agg #[e,(0:Int),Qs.e,()])/\Below w w w':=by
 go_enter func98,ntmps98;go_wp2_with fail;refine aD (v:= .agg #[e,(0:Int),Qs.e,()]) ?_ rfl ?_
 ·simp[results,results98,go_sem]
 exact⟨rfl,(aa _ w).alloc aR _⟩
theorem EL{r:List (Option Nat)}(h:∀j,(hj:j<r.length)->r[j]≠none):r.findIdx? (λx=>x.isNone)=none:=by
 rw[List.findIdx?_eq_none_iff];intro x b;obtain⟨j,hj,rfl⟩:=mq b;have:=h j hj
 rcases a:r[j]with _|d
 ·exact absurd a this
 rfl
theorem EM{r:List (Option Nat)}{k:Nat}(hk:k<r.length)(h0:r[k]=none)(h:∀j,(hj:j<r.length)->j<k->r[j]≠none):r.findIdx? (λx=>x.isNone)=some k:=by
 rw[wm];refine⟨hk,by rw[h0];rfl,λj hj=> ?_⟩
 have:=h j (by omega) hj
 rcases a:r[j]'(by omega)with _|d
 ·exact absurd a this
 simp
theorem KQ(g o:Nat)(r:List (Option Nat))(w:World)(ho:o<4)(hr:r.length=8)(hc:∀k,(hk:k<r.length)->w.cell? ⟨g,5+o*8+k,none⟩=some (tC r[k])):Calls prog 125 #[.pointer g,o] w λe w'=>e= .returned (.int .i64 (((r.findIdx? λx=>x.isNone).getD 8:Nat):Int))/\w=w':=by
 have t:=aL hc;have p:=aL hr;clear hc hr;have u:(o:Int)<4:=by omega
 go_enter func125,ntmps125;go_wp2
 go_loopw [5] (λi wr=>∃k:Nat,k<=8/\i= .int .i64 k/\Hid (∀j,(a:j<r.length)->j<k->r[j]≠none)/\w=wr) (λi _=>8- (intOf i).toNat)
 case atStart=>exact⟨0,bL _,rfl,aL (λj _ a=>absurd a (l5 _)),rfl⟩
 case round=>
  obtain⟨k,hk,rfl,m,rfl⟩:=hrel
  by_cases h:k<8
  ·have l:k<r.length:=by rw[p.out];exact h
   have b:=t.out k l
   rcases c:r[k]with _|d
   ·rw[c]at b
    have n:=aL (EM l c m.out);replace b:w.cell? ⟨g,5+o*8+k,none⟩=some (.int .i64 (-1)):=b;clear c;go_wp2;go_ret;exact⟨by rw[n.out];rfl,rfl⟩
   rw[c]at b;replace b:w.cell? ⟨g,5+o*8+k,none⟩=some (.int .i64 d):=b;have y:decide ((d:Int)≥0)=true:=by simp
   have v:=aL c;clear c;go_wp2;go_roundw
   case rel=>
    refine⟨k+1,h,by go_num,aL (λj a z=> ?_),by first|rfl|trivial⟩
    by_cases q:j<k
    ·exact m.out j a q
    obtain rfl:j=k:=by omega
    rw[v.out];simp
   case measure=>simp[intOf];omega
  obtain rfl:k=8:=by omega
  have n:=aL (EL λj a=>m.out j a (by have:=p.out;omega))
  go_wp2;go_ret;exact⟨by rw[n.out];rfl,rfl⟩
end Go.Proofs.YtjppfhgkanbemabGreatDoor
