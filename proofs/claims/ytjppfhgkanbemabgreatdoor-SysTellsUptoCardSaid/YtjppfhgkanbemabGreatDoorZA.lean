/- A part of the proof of SysTells: ZA. -/
import Derived.Test.YtjppfhgkanbemabGreatDoorRows
import Derived.ProofKit
import Derived.OpenShut
import Derived.Deep.DeepWitnessRowRef
import Derived.Lib.LaidU8
import Derived.Lib.LaidIn
import Derived.Deep.Fields
import Derived.Test.YtjppfhgkanbemabGreatDoorSH
set_option maxHeartbeats 3000000
set_option maxRecDepth 100000
set_option linter.all false
namespace Go.Proofs.YtjppfhgkanbemabGreatDoor
open Go.Proofs.Tryz
open Go.ChangeShapes Go.WideShapes Go.ChangeAt Go.RowKit
theorem own:ownKnob prog.godebug=none:=by kernel_rfl
theorem laidOut:laidOutB prog=true:=by kernel_rfl
noncomputable def laidWorld(os:Os):World:=
 let w0:=World.holding prog os ⟨#[],#[],[]⟩
 let put (h:Array Obj) (g:Nat) (cs:Array Value):Array Obj:=h.modify g fun
  | .cells _ t frozen=> .cells cs t frozen
  |o=>o
 let h1:=put w0.heap 1 (Lib.firstTab.map λz=>Value.int .u8 z).toArray
 let h2:=put h1 2 ((List.range 16).flatMap λi=>[Value.int .u8 (Lib.accLo i),Value.int .u8 (Lib.accHi i)]).toArray
 {w0 with heap:=h2}
theorem laid_met(os:Os)(args:Array Value):laidMet prog [( "unicode/utf8.acceptRanges" ,Rows.laid_unicode_utf8_acceptRanges),( "unicode/utf8.first" ,Rows.laid_unicode_utf8_first)] ((laidWorld os).forCall (λ_ _=>0) ⟨#[],args,[]⟩).memory:=
 (LaidIn.of_run (l:=[( "unicode/utf8.acceptRanges" ,Rows.laid_unicode_utf8_acceptRanges),( "unicode/utf8.first" ,Rows.laid_unicode_utf8_first)]) [2,1] 8 (by kernel_rfl) (by kernel_rfl) (by kernel_rfl) (by kernel_rfl)).met
theorem Xd{H:Type}{l:List (DataW H)}(hk:Rows.uptoSmall H l=true):Rows.uptoBulkAll l<=1048576:=iA hk
theorem QA{H:Type}(d:DataW H):1<=Rows.uptoBulk d:=by
 cases d with
 |lit l=>cases l<;>simp[Rows.uptoBulk]
 |nil=>simp[Rows.uptoBulk]
 |ptr d=>simp[Rows.uptoBulk]
 |slice elems spare=>simp[Rows.uptoBulk]
 |agg parts=>simp[Rows.uptoBulk]
 |iface t d=>simp[Rows.uptoBulk]
 |map entries=>simp[Rows.uptoBulk]
 |held h=>simp[Rows.uptoBulk]
theorem vG{H:Type}{d:DataW H}{l:List (DataW H)}(h:d∈l):Rows.uptoBulk d<=Rows.uptoBulkAll l:=by
 induction l with
 |nil=>cases h
 |cons x r ih=>
  simp only[Rows.uptoBulkAll]
  rcases List.mem_cons.1 h with e|e
  ·subst e;omega
  ·have:=ih e;omega
open Go.RowKit Go.ChangeShapes Go.WideShapes Go.Deep
noncomputable def jh:TypeDesc->List (Nat×Nat×Option TypeDesc)
 | .struct fs=>fs.toList.map λf=>(f.offset,prog.cellsOf f.type,prog.underlying f.type)
 |_=>[]
theorem Ec:(prog.underlying 45).map jh=some [(0,1,some .string),(1,1,some (.int .i64)),(2,1,some .string),(3,1,some .bool)]:=by kernel_rfl
theorem xe:prog.cellsOf 45=4:=by kernel_rfl
theorem JV:prog.cellsOf 30=1:=by kernel_rfl
theorem yS{H:Type}(l:List (DataW H)):l.length<=Rows.uptoBulkAll l:=by
 induction l with
 |nil=>simp
 |cons x r ih=>have:=QA x;simp only[Rows.uptoBulkAll,gL];omega
section
variable {H:Type} {enc:TypeId×Value->H} {w:World} {base:Nat} {spare:Nat->Bool} {held:Bool}
theorem JW{fuel:Nat}{cs:List Value}{x:DataW H×List MemPlace}(h:DataW.trod enc prog w base spare held fuel 45 cs=some x):∃y:En,cs=y.cells/\y.p.size+y.t.size<=Rows.uptoBulk x.1:=by
 have a:=Ec
 rcases g:prog.underlying 45 with _|T
 ·rw[g]at a;cases a
 rw[g]at a;simp only[sj,ze]at a
 cases T with
 |struct fs=>
  simp only[jh]at a;obtain⟨U,n,_,O,hlen,e,b⟩:=DataW.trod_struct g h;rw[xe]at hlen;have c:fs.toList.length=4:=by have:=om List.length a;simpa using this
  obtain⟨M⟩:=fs
  match M,c,cs,hlen,U,e with
  |[f0,f1,f2,f3],_,[c0,c1,c2,c3],_,[y0,y1,y2,y3],_=>
   simp only[ww,CF,List.cons.injEq,Prod.mk.injEq,and_true]at a;obtain⟨⟨Q,D,L⟩,⟨V,z,G⟩,⟨W,N,u⟩,⟨K,B,v⟩⟩:=a;have k:=b 0 f0 rfl;have m:=b 1 f1 rfl;have j:=b 2 f2 rfl;have r:=b 3 f3 rfl;rw[Q,D]at k;rw[V,z]at m;rw[W,N]at j;rw[K,B]at r;obtain⟨I,i,F,_⟩:=EQ L (x:=y0) k;obtain⟨Y,o,_⟩:=El G (x:=y1) m;obtain⟨E,l,S,_⟩:=EQ u (x:=y2) j;obtain⟨A,q,_⟩:=DataW.trod_bool v (x:=y3) r;simp at i o l q;refine⟨⟨I,Y,E,A⟩,by simp[En.cells,i,o,l,q],?_⟩
   rw[O,F,S];simp only[ww,CF,Rows.uptoBulk,Rows.uptoBulkAll,af];omega
 |_=>simp[jh]at a
theorem QL{n:Nat}{P:Nat->En->Prop}(h:∀i,i<n->∃y,P i y):∃l:List En,l.length=n/\∀i (hi:i<l.length),P i l[i]:=by
 induction n with
 |zero=>exact⟨[],rfl,λi hi=>by cases hi⟩
 |succ n ih=>
  obtain⟨l,a,b⟩:=ih λi hi=>h i (by omega)
  obtain⟨y,c⟩:=h n (by omega)
  refine⟨l++[y],by simp[a],λi hi=> ?_⟩
  by_cases e:i<l.length
  ·rw[nE e];exact b i e
  ·have:i=n:=by simp at hi;omega
   subst this;rw[nW (by omega)]
   simpa[a]using c
theorem p_{fuel:Nat}{v:Value}{x:DataW H×List MemPlace}(hk:Rows.uptoBulk x.1<=1048576)(hf:DataW.trod enc prog w base spare held fuel 30 [v]=some x):∃A c,∃l:List En,v= .slice A l.length c/\l.length<=c/\l.length<=1048576/\aC w w A l/\Sm l:=by
 rcases open_slice underlying30 hf with⟨g,_⟩|⟨a,len,cap,m,n,D,Pl,g,_,U,hm,B,Z,Y⟩
 ·simp at g
  subst g;exact⟨none,0,[],rfl,aR,by decide,Rd.nil,λ_ h=>(nomatch h)⟩
 simp at g;subst g;have W:len<=m:=by rw[B];split<;>omega
 have G:Rows.uptoBulkAll ((List.range len).map D)<=1048576:=by
  rw[Z]at hk;simp only[Rows.uptoBulk]at hk;omega
 have key:∀i,i<len->∃y:En,(∀j,j<4->w.cell? ((a.add (i*4)).add j)=y.cells[j]?)/\y.p.size+y.t.size<=1048576:=by
  intro i o;obtain⟨V,r,S⟩:=Y i (by omega)
  rw[xe]at r;obtain⟨_,_,F⟩:=World.cells?_some r;obtain⟨y,rfl,E⟩:=JW S;refine⟨y,F,?_⟩
  have:D i∈(List.range len).map D:=List.mem_map.2 ⟨i,List.mem_range.2 o,rfl⟩;have:=vG this;dsimp only at E;omega
 obtain⟨l,rfl,K⟩:=QL key;have hlen:l.length<=1048576:=by
  have:=yS ((List.range l.length).map D);simp only[ib,Ex]at this;omega
 refine⟨some a,cap,l,rfl,U,hlen,⟨eU l,λhn=> ?_⟩,λe he=> ?_⟩
 ·obtain⟨b,off,spot⟩:=a
  have I:=(K 0 hn).1 0 (by omega)
  have N:w.cell? (((⟨b,off,spot⟩:Addr).add (0*4)).add 0)=some (.string l[0].p):=I;have q:spot=none:=by simpa[Addr.add]using World.cell?_spot N
  subst q;have E:b<w:=by simpa[add_plain]using World.block_lt_of_cell? w _ N
  refine⟨b,off,rfl,E,λj u z=> ?_⟩
  have hj:j<l.length*4:=by rw[<-eU];exact(List.getElem?_eq_some_iff.1 z).1
  have hk:j/4<l.length:=by omega
  have r:=(K (j/4) hk).1 (j % 4) (by omega)
  rw[add_plain,add_plain]at r;have e:off+j/4*4+j % 4=off+j:=by omega
  rw[e]at r;rw[r];obtain⟨L,M,O,Q⟩:=uj l (j/4) hk;have k:j % 4=0\/j % 4=1\/j % 4=2\/j % 4=3:=by omega
  rcases k with k|k|k|k
  ·rw[show j/4*4+0=j by omega]at L
   rw[<-z,L,k];rfl
  ·rw[show j/4*4+1=j by omega]at M
   rw[<-z,M,k];rfl
  ·rw[show j/4*4+2=j by omega]at O
   rw[<-z,O,k];rfl
  rw[show j/4*4+3=j by omega]at Q
  rw[<-z,Q,k];rfl
 obtain⟨i,o,rfl⟩:=mq he;have:=(K i o).2;omega
end
noncomputable def fieldsOf:TypeDesc->List (Nat×Nat×TypeId)
 | .struct fs=>fs.toList.map λf=>(f.offset,prog.cellsOf f.type,f.type)
 |_=>[]
theorem EK:(prog.underlying 33).map fieldsOf=some [(0,1,30),(1,1,31)]:=by kernel_rfl
theorem Iz:prog.cellsOf 33=2:=by kernel_rfl
section
variable {H:Type} {enc:TypeId×Value->H} {w:World} {base:Nat} {spare:Nat->Bool} {held:Bool}
theorem xI{fuel:Nat}{v:Value}{x:DataW H×List MemPlace}(hk:Rows.uptoBulk x.1<=1048576)(hf:DataW.trod enc prog w base spare held fuel 31 [v]=some x):∃A c,∃ls:List (List En),v= .slice A ls.length c/\ls.length<=c/\ls.length<=1048576/\jc w w A ls/\(∀l∈ls,Sm l/\l.length<=1048576)/\(A=none->c=0):=by
 rcases open_slice underlying31 hf with⟨o,_⟩|⟨a,g,t,m,n,D,Pl,o,_,hl,hm,G,U,hi⟩
 ·simp at o
  subst o;exact⟨none,0,[],rfl,aR,by decide,⟨[],Rd.nil,λk h=>by cases h⟩,λ_ h=>(nomatch h),λ_=>rfl⟩
 simp at o;subst o;have hml:g<=m:=by rw[G];split<;>omega
 have V:=om Prod.fst U;dsimp only at V;have L:Rows.uptoBulkAll ((List.range g).map D)<=1048576:=by
  rw[V]at hk;simp only[Rows.uptoBulk]at hk;omega
 have key:∀i,i<g->∃(u:Value) (A:Option Addr) (c:Nat) (l:List En),w.cell? (a.add i)=some u/\u= .slice A l.length c/\l.length<=c/\l.length<=1048576/\aC w w A l/\Sm l:=by
  intro i M;obtain⟨O,Y,ht⟩:=hi i (by omega)
  rw[JV,FJ]at Y;obtain⟨hlen,_,K⟩:=World.cells?_some Y;have I:Rows.uptoBulk (D i)<=1048576:=by
   have:D i∈(List.range g).map D:=List.mem_map.2 ⟨i,List.mem_range.2 M,rfl⟩;have:=vG this;omega
  match O,hlen with
  |[u],_=>
   obtain⟨A,c,l,h1,h2,h3,h4,h5⟩:=p_ (x:=(D i,Pl i)) I ht;refine⟨u,A,c,l,?_,h1,h2,h3,h4,h5⟩
   have:=K 0 (by omega)
   rw[show(a.add i).add 0=a.add i from rfl]at this
   exact this
 have hlen:g<=1048576:=by
  have:=yS ((List.range g).map D);simp only[ib,Ex]at this;omega
 have build:∀n,n<=g->∃(p:List Value) (ls:List (List En)),p.length=n/\ls.length=n/\(∀k (h:k<p.length),w.cell? (a.add k)=some p[k])/\(∀k (h:k<ls.length),∃B F,p[k]? =some (.slice B ls[k].length F)/\ls[k].length<=F/\aC w w B ls[k])/\(∀l∈ls,Sm l/\l.length<=1048576):=by
  intro n
  induction n with
  |zero=>intro _;exact⟨[],[],rfl,rfl,(λk h=>absurd h (l5 k)),(λk h=>absurd h (l5 k)),λ_ h=>(nomatch h)⟩
  |succ n ih=>
   intro hn;obtain⟨p,ls,z,q,E,N,Q⟩:=ih (by omega)
   obtain⟨u,A,c,l,Z,k2,k3,k4,k5,k6⟩:=key n (by omega)
   refine⟨p++[u],ls++[l],by simp[z],by simp[q],λk h=> ?_,λk h=> ?_,λx U=> ?_⟩
   ·by_cases e:k<p.length
    ·rw[nE e];exact E k e
    ·have:k=n:=by simp at h;omega
     subst this;rw[nW (by omega)]
     simpa[z]using Z
   ·by_cases e:k<ls.length
    ·obtain⟨B,F,f1,f2,f3⟩:=N k e
     rw[nE e];exact⟨B,F,by rw[l6 (by omega)];exact f1,f2,f3⟩
    ·have:k=n:=by simp at h;omega
     subst this;rw[nW (by omega)]
     refine⟨A,c,?_,?_,?_⟩
     ·rw[kr (by omega)];simp[z,q,k2]
     ·simpa[q]using k3
     ·simpa[q]using k5
   ·rcases List.mem_append.1 U with h|h
    ·exact Q x h
    ·rw[List.mem_singleton.1 h];exact⟨k6,by omega⟩
 obtain⟨p,ls,z,q,E,N,Q⟩:=build g aR;refine⟨some a,t,ls,by rw[q],by omega,by omega,⟨p,⟨by rw[z,q];simp,λhn=> ?_⟩,N⟩,Q,λh=>by cases h⟩
 obtain⟨b,off,spot⟩:=a;have y:=E 0 (by omega)
 have r:spot=none:=by simpa[Addr.add]using World.cell?_spot y
 subst r;have I:b<w:=by simpa[add_plain]using World.block_lt_of_cell? w _ y
 refine⟨b,off,rfl,I,λj u S=> ?_⟩
 have W:j<p.length:=(List.getElem?_eq_some_iff.1 S).1;have:=E j W;rw[add_plain]at this;rw[this];rw[bA W]at S;exact S
theorem Yl{v:Value}{d:DataW H}{p:List MemPlace}{r:Reach}{b0:Nat}(hk:Rows.uptoBulk d<=1048576)(hv:Value.okWide prog w r b0 33 v)(h:DataW.Trod enc prog w base spare held 33 v d p):∃A A' c c',∃u:Un,v= .agg #[.slice A u.U.length c,.slice A' u.L.length c']/\bT w w A A' c c' u/\iR u/\u.U.length<=1048576:=by
 have b:=EK
 rcases g:prog.underlying 33 with _|T
 ·rw[g]at b;cases b
 rw[g]at b;simp only[sj,ze]at b
 cases T with
 |struct fs=>
  simp only[fieldsOf]at b;obtain⟨o,rfl,_⟩:=okWide_struct g hv;obtain⟨B,i⟩:=h;obtain⟨V,n,_,a,hlen,m,q⟩:=DataW.trod_struct g i;rw[Iz]at hlen;have j:fs.toList.length=2:=by have:=om List.length b;simpa using this
  obtain⟨N⟩:=fs;obtain⟨Q⟩:=o;simp only[Value.cells]at hlen q
  match N,j,V,m with
  |[f0,f1],_,[y0,y1],_=>
   simp only[ww,CF,List.cons.injEq,Prod.mk.injEq,and_true]at b;obtain⟨⟨S,b0,K⟩,⟨W,D,G⟩⟩:=b;have y:=q 0 f0 rfl;have z:=q 1 f1 rfl;rw[S,b0,K]at y;rw[W,D,G]at z;have e:Rows.uptoBulk y0.1<=1048576/\Rows.uptoBulk y1.1<=1048576:=by
    have:=om Prod.fst a;dsimp only at this;rw[this]at hk;simp only[ww,CF,Rows.uptoBulk,Rows.uptoBulkAll]at hk;omega
   match Q,hlen with
   |[c0,c1],_=>
    obtain⟨A,c,l,rfl,E,O,F,I⟩:=p_ (x:=y0) e.1 (by simpa using y)
    obtain⟨A',c',t,rfl,k2,Z,Y,k,M⟩:=xI (x:=y1) e.2 (by simpa using z)
    refine⟨A,A',c,c',⟨l,t⟩,rfl,⟨F,E,Y,M⟩,⟨λx a=> ?_,by show t.length<=2000000;omega,λx a=> ?_⟩,O⟩
    ·rcases List.mem_cons.1 a with rfl|a
     ·exact⟨I,by omega⟩
     ·exact⟨(k x a).1,by have:=(k x a).2;omega⟩
    ·rcases List.mem_cons.1 a with rfl|a
     ·omega
     ·have:=(k x a).2;omega
 |_=>simp[fieldsOf]at b
end
theorem Iy:(prog.underlying 24).map jh=some [(0,1,some (.int .i64)),(1,1,some (.int .i64)),(2,1,some (.int .i64)),(3,1,some (.int .i64)),(4,1,some (.int .i64)),(5,1,some .string),(6,1,some .string),(7,1,some .string),(8,1,some .bool)]:=by kernel_rfl
theorem zU:prog.cellsOf 24=9:=by kernel_rfl
section
variable {H:Type} {enc:TypeId×Value->H} {w:World} {base:Nat} {spare:Nat->Bool} {held:Bool}
theorem PD{fuel:Nat}{cs:List Value}{x:DataW H×List MemPlace}(h:DataW.trod enc prog w base spare held fuel 24 cs=some x):∃y:Ca,cs=y.cells/\y.path.size+y.to.size+y.text.size<=Rows.uptoBulk x.1:=by
 have b:=Iy
 rcases g:prog.underlying 24 with _|T
 ·rw[g]at b;cases b
 rw[g]at b;simp only[sj,ze]at b
 cases T with
 |struct fs=>
  simp only[jh]at b;obtain⟨ys,n,_,hx,hlen,e,a⟩:=DataW.trod_struct g h;rw[zU]at hlen;have c:fs.toList.length=9:=by have:=om List.length b;simpa using this
  obtain⟨fl⟩:=fs
  match fl,c,cs,hlen,ys,e with
  |[f0,f1,f2,f3,f4,f5,f6,f7,f8],_,[c0,c1,c2,c3,c4,c5,c6,c7,c8],_,[y0,y1,y2,y3,y4,y5,y6,y7,y8],_=>
   simp only[ww,CF,List.cons.injEq,Prod.mk.injEq,and_true]at b;obtain⟨⟨a0,Y,d0⟩,⟨a1,L,Z⟩,⟨a2,b2,I⟩,⟨a3,V,K⟩,⟨a4,b4,d4⟩,⟨a5,M,d5⟩,⟨a6,S,d6⟩,⟨O,b7,d7⟩,⟨G,b8,d8⟩⟩:=b;have p:=a 0 f0 rfl;rw[a0,Y]at p;have v:=a 1 f1 rfl;rw[a1,L]at v;have m:=a 2 f2 rfl;rw[a2,b2]at m;have F:=a 3 f3 rfl;rw[a3,V]at F;have u:=a 4 f4 rfl;rw[a4,b4]at u;have A:=a 5 f5 rfl;rw[a5,M]at A;have i:=a 6 f6 rfl;rw[a6,S]at i;have q:=a 7 f7 rfl;rw[O,b7]at q;have r:=a 8 f8 rfl;rw[G,b8]at r;obtain⟨v0,j,_⟩:=El d0 (x:=y0) p;obtain⟨v1,B,_⟩:=El Z (x:=y1) v;obtain⟨v2,t,_⟩:=El I (x:=y2) m;obtain⟨N,D,_⟩:=El K (x:=y3) F;obtain⟨v4,E,_⟩:=El d4 (x:=y4) u;obtain⟨U,k,k5,_⟩:=EQ d5 (x:=y5) A;obtain⟨Q,o,k6,_⟩:=EQ d6 (x:=y6) i;obtain⟨v7,l,W,_⟩:=EQ d7 (x:=y7) q;obtain⟨v8,z,_⟩:=DataW.trod_bool d8 (x:=y8) r;simp at j B t D E k o l z;refine⟨⟨v0,v1,v2,N,v4,U,Q,v7,v8⟩,by simp[Ca.cells,j,B,t,D,E,k,o,l,z],?_⟩
   rw[hx,k5,k6,W];simp only[ww,CF,Rows.uptoBulk,Rows.uptoBulkAll,af];omega
 |_=>simp[jh]at b
theorem SS{n:Nat}{P:Nat->Ca->Prop}(h:∀i,i<n->∃y,P i y):∃l:List Ca,l.length=n/\∀i (hi:i<l.length),P i l[i]:=by
 induction n with
 |zero=>exact⟨[],rfl,λi hi=>by cases hi⟩
 |succ n ih=>
  obtain⟨l,a,b⟩:=ih λi hi=>h i (by omega)
  obtain⟨y,c⟩:=h n (by omega)
  refine⟨l++[y],by simp[a],λi hi=> ?_⟩
  by_cases e:i<l.length
  ·rw[nE e];exact b i e
  ·have:i=n:=by simp at hi;omega
   subst this;rw[nW (by omega)]
   simpa[a]using c
theorem xH{fuel:Nat}{v:Value}{x:DataW H×List MemPlace}(hk:Rows.uptoBulk x.1<=1048576)(hf:DataW.trod enc prog w base spare held fuel 28 [v]=some x):∃A c,∃l:List Ca,v= .slice A l.length c/\l.length<=c/\l.length<=1048576/\xx w A l/\∀y∈l,jK y:=by
 rcases open_slice underlying28 hf with⟨g,_⟩|⟨a,len,cap,m,n,D,Pl,g,_,O,hm,u,V,U⟩
 ·simp at g
  subst g;exact⟨none,0,[],rfl,aR,by decide,λk hk=>absurd hk (l5 k),λ_ h=>(nomatch h)⟩
 simp at g;subst g;have S:len<=m:=by rw[u];split<;>omega
 have E:Rows.uptoBulkAll ((List.range len).map D)<=1048576:=by
  rw[V]at hk;simp only[Rows.uptoBulk]at hk;omega
 have key:∀i,i<len->∃y:Ca,(∀j,j<9->w.cell? ((a.add (i*9)).add j)=y.cells[j]?)/\y.path.size+y.to.size+y.text.size<=1048576:=by
  intro i p;obtain⟨Q,t,N⟩:=U i (by omega)
  rw[zU]at t;obtain⟨_,_,B⟩:=World.cells?_some t;obtain⟨y,rfl,z⟩:=PD N;refine⟨y,B,?_⟩
  have:D i∈(List.range len).map D:=List.mem_map.2 ⟨i,List.mem_range.2 p,rfl⟩;have:=vG this;dsimp only at z;omega
 obtain⟨l,rfl,I⟩:=SS key;have hlen:l.length<=1048576:=by
  have:=yS ((List.range l.length).map D);simp only[ib,Ex]at this;omega
 refine⟨some a,cap,l,rfl,O,hlen,λk r=> ?_,λe W=> ?_⟩
 ·obtain⟨b,off,spot⟩:=a
  have L:0<l.length:=Nat.lt_of_le_of_lt (bL _) r;have G:=(I 0 L).1 0 (by omega)
  have M:w.cell? (((⟨b,off,spot⟩:Addr).add (0*9)).add 0)=some (.int .i64 (l[0]'L).kind):=G;have q:spot=none:=by simpa[Addr.add]using World.cell?_spot M
  subst q;have z:b<w:=by simpa[add_plain]using World.block_lt_of_cell? w _ M
  have t:∀j,j<9->w.cell? ⟨b,off+k*9+j,none⟩=l[k].cells[j]? :=λj K=>by
   have F:=(I k r).1 j K;rw[add_plain,add_plain]at F;exact F
  have o:∀j v,j<9->l[k].cells[j]? =some v->w.cell? ⟨b,off+k*9+j,none⟩=some v:=λj v K h=>(t j K).trans h
  generalize l[k]=y at o;obtain⟨y0,Z,y2,y3,y4,y5,y6,Y,y8⟩:=y;exact⟨b,off,rfl,z,o 0 _ (by decide) rfl,o 1 _ (by decide) rfl,o 2 _ (by decide) rfl,o 3 _ (by decide) rfl,o 4 _ (by decide) rfl,o 5 _ (by decide) rfl,o 6 _ (by decide) rfl,o 7 _ (by decide) rfl,o 8 _ (by decide) rfl⟩
 obtain⟨i,p,rfl⟩:=mq W;have F:=(I i p).2;exact⟨by omega,by omega,by omega⟩
theorem Yk{v:Value}{d:DataW H}{p:List MemPlace}{r:Reach}{b0:Nat}(hk:Rows.uptoBulk d<=1048576)(hv:Value.okWide prog w r b0 28 v)(h:DataW.Trod enc prog w base spare held 28 v d p):∃A c,∃l:List Ca,v= .slice A l.length c/\l.length<=c/\l.length<=1048576/\xx w A l/\∀y∈l,jK y:=by
 obtain⟨e,len,cap,rfl⟩:=okWide_slice underlying28 hv;obtain⟨a,b⟩:=h;exact xH (x:=(d,p)) hk b
end
namespace Sy
open Go.Proofs.Tryz
open Pt Tr
def aby:ByteArray:=⟨#[100,105,114]⟩
def jQ:ByteArray:=⟨#[100,105,114,47,97]⟩
def abz:ByteArray:=⟨#[100,105,114,47,98]⟩
def ac2:ByteArray:=⟨#[111,110,101]⟩
def ac3:ByteArray:=⟨#[116,119,111]⟩
def tD:En:=⟨aby,2,noE,false⟩
def tA:En:=⟨jQ,1,ac2,false⟩
def tB:En:=⟨abz,1,ac3,false⟩
def bU:Un:=⟨[],[[tD,tA,tB]]⟩
def og(p:ByteArray)(n:Int):Ca:=⟨1,0,0,n,0,p,noE,noE,false⟩
def NR(kind fd n:Int)(text:ByteArray):Ca:=⟨kind,0,fd,n,0,noE,noE,text,false⟩
def ac4(x:Option Nat):List (List (Option Nat)):=[x::List.replicate 7 none,List.replicate 8 none,List.replicate 8 none,List.replicate 8 none]
def stA(fl at_:Int):St:=⟨bU,[tD,tA,tB],[⟨jQ,noE,[]⟩],[0],[⟨0,fl,at_,1⟩],ac4 (some 0)⟩
theorem Ub(p:Bs)(t:ByteArray):(fileEn p t).P=p:=rfl
theorem L8{p:Bs}{t:ByteArray}(hc:clean p=true)(ht:t.size<=100):entry (fileEn p t) false=0:=
 (bK _ _).2 ⟨rfl,hc,ht,by show((t.size !=0&&(1:Int) !=1&&(1:Int) !=3)||((1:Int)==3&&t.size==0)||(false&&_))=false;simp⟩
theorem Jk{T:List En}{p:Bs}{t:ByteArray}(hw:(wrong T false).1=0)(hc:clean p=true)(ht:t.size<=100)(hd:bg T (ah p)=0)(hk:eF T (fileEn p t)=0):putErr T (fileEn p t)=0:=by
 unfold putErr;rw[Ub,av (by simp[hw]),av (by simp[L8 hc ht]),av (by simp[hd])]
 exact hk
theorem Aw{l:Bs}:(bytesOf l).size=l.length:=rfl
theorem set_put{s:St}(h:Ok s){e:En}(hp:putErr s.T e=0)(hr:(dR s.u.U e).length<=80):set s (putU s.u e)=({s with u:=⟨dR s.u.U e,s.u.L⟩,T:=ins e s.T},0):=by
 have b:put s.T e=(ins e s.T,0):=by unfold put;rw[av (by simp[hp])]
 have c:putU s.u e=(⟨dR s.u.U e,s.u.L⟩,0):=by
  unfold putU;rw[h.2];dsimp only;rw[av (by simp),b,av (by simp)]
  unfold fin;rw[av (by omega)]
 have a:=putU_tree h.1 e;rw[h.T]at a;have:=((set_good h a).2.2 (by rw[c])).1
 rw[this,c,b]
theorem Qa{s:St}{i:Nat}{t:ByteArray}(h:Ok s)(ht:t.size<=100)(hP:(obAt s i).P≠[])(hne:t.data.toList≠(textOf s i).data.toList)(hp:putErr s.T (fileEn (obAt s i).P t)=0)(hr:(dR s.u.U (fileEn (obAt s i).P t)).length<=80):write s i t=({s with u:=⟨dR s.u.U (fileEn (obAt s i).P t),s.u.L⟩,T:=ins (fileEn (obAt s i).P t) s.T},0):=by
 unfold write;rw[av (by omega),av hP,av hne]
 exact set_put h hp hr
def Fg(u:Un)(T:List En)(d0 d1:Int):St:=⟨u,T,[⟨jQ,noE,[]⟩],[0],[⟨0,1,d0,1⟩,⟨0,34,d1,1⟩],[some 0::some 1::List.replicate 6 none,List.replicate 8 none,List.replicate 8 none,List.replicate 8 none]⟩
def fU:Un:=⟨[eP aby,fileEn jQ noE],[[tD,tA,tB]]⟩
def fT(t:ByteArray):List En:=[tD,fileEn jQ t,tB]
theorem V9:call (start bU) (og jQ 1)=(stA 1 0,.num 0):=by kernel_rfl
theorem Uc:call (stA 1 0) (og jQ 34)=(Fg fU (fT noE) 0 0,.num 1):=by kernel_rfl
theorem NS:seenU fU=(fT noE,0):=by kernel_rfl
theorem Zi(a b:Int):Ok (Fg fU (fT noE) a b):=⟨(jb (u:=fU)).1 (by rw[NS]),NS⟩
theorem follows(text:ByteArray)(ht:text.size<=90):∃a0 a1 a2 a3,(calls (start bU) [og jQ 1,og jQ 34,NR 4 1 0 text,NR 3 0 100 noE]).2=[a0,a1,a2,a3]/\a3.err=0/\a3.text=text:=by
 have hlen:text.data.toList.length=text.size:=by simp
 have lead:∀q,call (Fg fU (fT noE) 0 0) (NR 4 1 0 text)=q->(calls (start bU) [og jQ 1,og jQ 34,NR 4 1 0 text,NR 3 0 100 noE]).2=[.num 0,.num 1,q.2,(call q.1 (NR 3 0 100 noE)).2]:=by
  intro q p
  show(call (start bU) (og jQ 1)).2::(call (call (start bU) (og jQ 1)).1 (og jQ 34)).2::(call (call (call (start bU) (og jQ 1)).1 (og jQ 34)).1 (NR 4 1 0 text)).2::(call (call (call (call (start bU) (og jQ 1)).1 (og jQ 34)).1 (NR 4 1 0 text)).1 (NR 3 0 100 noE)).2::[]=_
  rw[V9];dsimp only;rw[Uc];dsimp only;rw[p]
 have rd:∀(s:St) (t:Bs),fdAt s 0 0=some 0->deAt s 0=⟨0,1,0,1⟩->(textOf s 0).data.toList=t->t.length<=100->(call s (NR 3 0 100 noE)).2=⟨0,t.length,bytesOf t,[]⟩:=by
  intro s t v j w r;rw[yY (.inl ⟨by show(2:Int)<=3;decide,by show(3:Int)<=5;decide⟩) (by show(0:Int)<=0;decide) (by show(0:Int)<4;decide),QQ (d:=0) (by show(0:Int)<=0;decide) (by show(0:Int)<8;decide) v rfl,Gh (t:=t) (by rw[j];decide) (by show(0:Int)<=100;decide) (by show(100:Int)<=1000;decide) (by rw[j];exact w),j]
  show An.mk 0 (((t.drop 0).take 100).length:Nat) (bytesOf ((t.drop 0).take 100)) []=_
  rw[xL,fI r]
 have b:call (Fg fU (fT noE) 0 0) (NR 4 1 0 text)=callWrite (Fg fU (fT noE) 0 0) (NR 4 1 0 text) 1:=by
  rw[yY (.inl ⟨by show(2:Int)<=4;decide,by show(4:Int)<=5;decide⟩) (by show(0:Int)<=0;decide) (by show(0:Int)<4;decide),Ox (d:=1) (by show(0:Int)<=1;decide) (by show(1:Int)<8;decide) rfl (.inl rfl)]
 by_cases h:text.data.toList=[]
 ·obtain⟨k,g⟩:=yZ (s:=Fg fU (fT noE) 0 0) (c:=NR 4 1 0 text) (d:=1) rfl (by kernel_rfl) h
  refine⟨_,_,_,_,lead _ (b.trans g),?_⟩
  rw[rd (setDe (Fg fU (fT noE) 0 0) 1 λy=>{y with at_:=k}) [] rfl rfl (by
   show(textOf (Fg fU (fT noE) 0 0) 0).data.toList=[]
   kernel_rfl) (by decide)]
  refine⟨rfl,?_⟩
  show bytesOf []=text
  exact ik h.symm
 have l:(textOf (Fg fU (fT noE) 0 0) (deAt (Fg fU (fT noE) 0 0) 1).o).data.toList=[]:=by kernel_rfl
 have n:over [] 0 text.data.toList=text.data.toList:=by rw[Oy,List.drop_nil,ky]
 have e:=Qa (s:=Fg fU (fT noE) 0 0) (i:=0) (t:=bytesOf text) (Zi 0 0) (by rw[Aw];omega) (by decide) (by
   show text.data.toList≠_
   rw[show textOf (Fg fU (fT noE) 0 0) 0=noE by kernel_rfl];exact h)
   (Jk (by kernel_rfl) (by kernel_rfl) (by rw[Aw];omega) (by kernel_rfl) (by kernel_rfl)) (by
   have:(dR (Fg fU (fT noE) 0 0).u.U (fileEn (obAt (Fg fU (fT noE) 0 0) 0).P (bytesOf text))).length=2:=by kernel_rfl
   omega)
 have m:=(show write (Fg fU (fT noE) 0 0) (deAt (Fg fU (fT noE) 0 0) 1).o (bytesOf (over [] 0 text))=write (Fg fU (fT noE) 0 0) 0 (bytesOf text)by rw[n];rfl).trans e
 have g:=Ed (s:=Fg fU (fT noE) 0 0) (c:=NR 4 1 0 text) (d:=1) (a:=0) (x:=text.data.toList) rfl (by kernel_rfl) l rfl h rfl (by omega) (by rw[m])
 rw[m]at g;refine⟨_,_,_,_,lead _ (b.trans g),?_⟩
 dsimp only;rw[rd _ text rfl rfl (by kernel_rfl) (by omega)]
 exact⟨rfl,Eg text⟩
end Sy
open Go.RowKit Go.Shelf Go.Sort
theorem Az(a:An)(A B:Option Addr)(c d:Nat)(w:World)(hA:bH w w A a.names)(hB:bH w w B a.names)(hn:a.names.length<=1000000):Calls prog 29 #[.agg #[a.err,a.n,a.text,.slice A a.names.length c],.agg #[a.err,a.n,a.text,.slice B a.names.length d]] w λe w'=>e= .returned (.bool true)/\Below w w w':=by
 obtain⟨j,i,h,g⟩:=a;dsimp only at*;have t:=aL hA;have r:=aL hB;have k:=((aa w w).alloc aR (.cells #[j,i,h,.slice A g.length c] 43));have l:=ai.new w 43 [j,i,h,.slice A g.length c];have b:=k.alloc k.size (.cells #[j,i,h,.slice B g.length d] 43);have o:=l.alloc (.cells #[j,i,h,.slice B g.length d] 43);have m:=ai.new (w.alloc (.cells #[j,i,h,.slice A g.length c] 43)) 43 [j,i,h,.slice B g.length d];simp only[bX]at m;have q:=o.four;have p:=m.four;have x:(h.toList==h.toList)=true:=by simp
 go_enter func29,ntmps29;go_upto_region 1 with fail
 generalize (w.alloc (.cells #[j,i,h,.slice A g.length c] 43)).alloc (.cells #[j,i,h,.slice B g.length d] 43)=v at*;go_wp2_with fail;refine(Bq A B c d g g v ((Rd.below t.out b).more b.size) ((Rd.below r.out b).more b.size) (by omega) rfl).mono ?_
 rintro e y ⟨rfl,u⟩;go_wp2;go_ret;exact⟨rfl,b.trans (u.mono b.size)⟩
theorem BB(u:Un)(T:List En)(n:Int)(A A' B B' AT BT:Option Addr)(c c' d d' cT dT:Nat)(w:World)(hA:bT w w A A' c c' u)(hB:bT w w B B' d d' u)(hT:aC w w AT T)(hT':aC w w BT T)(hu:iR u)(hn:T.length<=1000000):Calls prog 28 #[.agg #[.slice A u.U.length c,.slice A' u.L.length c',.slice AT T.length cT,n],.agg #[.slice B u.U.length d,.slice B' u.L.length d',.slice BT T.length dT,n]] w λe w'=>e= .returned (.bool true)/\Below w w w':=by
 have y:=aL hu;have F:=aL hA;have E:=aL hB;have H:=aL hT;have z:=aL hT';have k:=((aa w w).alloc aR (.cells #[.slice A u.U.length c,.slice A' u.L.length c',.slice AT T.length cT,n] 35));have r:=ai.new w 35 [.slice A u.U.length c,.slice A' u.L.length c',.slice AT T.length cT,n];have a:=k.alloc k.size (.cells #[.slice B u.U.length d,.slice B' u.L.length d',.slice BT T.length dT,n] 35);have i:=r.alloc (.cells #[.slice B u.U.length d,.slice B' u.L.length d',.slice BT T.length dT,n] 35);have g:=ai.new (w.alloc (.cells #[.slice A u.U.length c,.slice A' u.L.length c',.slice AT T.length cT,n] 35)) 35 [.slice B u.U.length d,.slice B' u.L.length d',.slice BT T.length dT,n];simp only[bX]at g;have q:=i.four;have p:=g.four;go_enter func28,ntmps28;go_upto_region 1 with fail
 generalize (w.alloc (.cells #[.slice A u.U.length c,.slice A' u.L.length c',.slice AT T.length cT,n] 35)).alloc (.cells #[.slice B u.U.length d,.slice B' u.L.length d',.slice BT T.length dT,n] 35)=G at*;go_wp2_with fail;refine(Bf A A' B B' c c' d d' u G ((F.out.below a).more a.size) ((E.out.below a).more a.size) (y.out.2.2 _ (tF ..)) (by have:=y.out.2.1;omega) (λl h=>y.out.2.2 l (oo _ h))).mono ?_
 rintro e D ⟨rfl,j⟩;have b:=a.trans (j.mono a.size);have o:=i.below j i.lt;have m:=g.below j g.lt;have q:=o.four;have p:=m.four;go_wp2_with fail;refine(yQ AT BT cT dT T T D ((Rd.below H.out b).more b.size) ((Rd.below z.out b).more b.size) (by omega) rfl).mono ?_
 rintro e I ⟨rfl,j⟩;have v:=b.trans (j.mono b.size);have t:=o.below j o.lt;have x:=m.below j m.lt;have q:=t.four;have p:=x.four;go_wp2;go_ret;exact⟨rfl,v⟩
end Go.Proofs.YtjppfhgkanbemabGreatDoor
