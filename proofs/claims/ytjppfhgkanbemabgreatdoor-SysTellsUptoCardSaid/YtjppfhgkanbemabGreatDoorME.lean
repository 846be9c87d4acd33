/- A part of the proof of SysTells: ME. -/
import Derived.Test.YtjppfhgkanbemabGreatDoorMC
import Derived.Test.YtjppfhgkanbemabGreatDoorMB
import Derived.WalkSpells
import Derived.Outline
import Derived.Deep.RegionHeld3
import Derived.Test.YtjppfhgkanbemabGreatDoorMA
import Derived.Test.YtjppfhgkanbemabGreatDoorShelf
import Derived.Shelf.SlSortCmp.QuietGrown
import Derived.BigQuiet
import Derived.Laws.AppendOwnNone
import Derived.Lib.AppendZeros
import Derived.Shelf.Spec.SlicesInsertGrow
set_option maxHeartbeats 3000000
set_option maxRecDepth 100000
set_option linter.all false
namespace Go.Proofs.YtjppfhgkanbemabGreatDoor
open Tryz
open Go.RowKit
def En.cells(x:En):List Value:=[.string x.p,.int .i64 x.k,.string x.t,.bool x.o]
def En.agg(x:En):Value:= .agg x.cells.toArray
def En.flat(l:List En):List Value:=l.flatMap En.cells
def ZV(w:World)(b i:Nat)(x:En):Prop:=
 w.cell? ⟨b,i,none⟩=some (.string x.p)/\w.cell? ⟨b,i+1,none⟩=some (.int .i64 x.k)/\w.cell? ⟨b,i+2,none⟩=some (.string x.t)/\w.cell? ⟨b,i+3,none⟩=some (.bool x.o)
theorem uj(l:List En)(k:Nat)(hk:k<l.length):(En.flat l)[k*4+0]? =some (.string l[k].p)/\(En.flat l)[k*4+1]? =some (.int .i64 l[k].k)/\(En.flat l)[k*4+2]? =some (.string l[k].t)/\(En.flat l)[k*4+3]? =some (.bool l[k].o):=by
 induction l generalizing k with
 |nil=>simp at hk
 |cons x r ih=>
  have e:En.flat (x::r)=[.string x.p,.int .i64 x.k,.string x.t,.bool x.o]++En.flat r:=rfl;rw[e]
  cases k with
  |zero=>simp
  |succ k=>
   have h:=ih k (by simpa using hk)
   have a:∀j,([Value.string x.p,.int .i64 x.k,.string x.t,.bool x.o]++En.flat r)[(k+1)*4+j]? =(En.flat r)[k*4+j]? :=λj=>by
    rw[kr (by simp;omega)]
    congr 1
    simp;omega
   simpa only[a,Fu]using h
theorem eU(l:List En):(En.flat l).length=l.length*4:=by
 induction l with
 |nil=>rfl
 |cons x r ih=>
  rw[show En.flat (x::r)=x.cells++En.flat r from rfl,bq,ih]
  simp[En.cells];omega
theorem iE(l r:List En):En.flat (l++r)=En.flat l++En.flat r:=by simp[En.flat]
theorem qU{l:List En}{u:Value}(h:u∈En.flat l):u.oneCell'=true:=by
 simp only[En.flat,Fw,En.cells,iX,List.mem_nil_iff,or_false]at h;obtain⟨x,_,rfl|rfl|rfl|rfl⟩:=h<;>rfl
theorem jU(r:List En)(i:Nat):(En.flat r).take (i*4)=En.flat (r.take i):=by
 induction r generalizing i with
 |nil=>simp[En.flat]
 |cons y r ih=>
  rcases i with _|i
  ·simp[En.flat]
  ·have e:En.flat (y::r)=[.string y.p,.int .i64 y.k,.string y.t,.bool y.o]++En.flat r:=rfl
   rw[List.take_succ_cons,e,show En.flat (y::r.take i)=[.string y.p,.int .i64 y.k,.string y.t,.bool y.o]++En.flat (r.take i)from rfl,<-ih i,show(i+1)*4=i*4+4 from by omega]
   rfl
def aC(w:World)(B:Nat)(A:Option Addr)(l:List En):Prop:=Rd w B 4 A l.length (En.flat l)
theorem aC.at_{w:World}{B:Nat}{A:Option Addr}{l:List En}(h:aC w B A l){k:Nat}(hk:k<l.length):∃b o,A=some ⟨b,o,none⟩/\b<B/\ZV w b (o+k*4) l[k]:=by
 obtain⟨b,o,e,j,a⟩:=h.2 (by omega)
 obtain⟨m,g,c,i⟩:=uj l k hk;exact⟨b,o,e,j,a _ _ m,a _ _ g,a _ _ c,a _ _ i⟩
theorem aC.take{w:World}{B:Nat}{A:Option Addr}{l:List En}(h:aC w B A l)(k:Nat):aC w B A (l.take k):=by
 refine⟨eU _,λm=> ?_⟩
 have c:0<l.length:=by rw[bR]at m;omega
 obtain⟨b,o,e,g,i⟩:=h.2 c;refine⟨b,o,e,g,λj u a=>i j u ?_⟩
 rw[<-jU,Ck]at a
 split at a
 ·exact a
 cases a
def ag(w:World)(base:Nat)(v:Value)(l:List En):Prop:=w.ownsRow base 45 4 v l.length (En.flat l)
theorem ag.snoc{w:World}{base n:Nat}{v:Value}{xs:List Value}{l m:List En}{y:En}(h:w.ownsRow base 45 4 v (n+1) (xs++[.string y.p,.int .i64 y.k,.string y.t,.bool y.o]))(e:m=l++[y])(hn:n=l.length:=by rfl)(hx:xs=En.flat l:=by rfl):ag w base v m:=by
 subst e hn hx;unfold ag;rw[iE,bq];exact h
theorem ag.rd{w:World}{base:Nat}{v:Value}{l:List En}(h:ag w base v l):∃A c,v= .slice A l.length c/\l.length<=c/\aC w w A l:=by
 rcases aB h with⟨rfl,i⟩|⟨g,a,rfl,_,_,b⟩
 ·have e:l=[]:=List.length_eq_zero_iff.1 i
  subst e;exact⟨none,0,rfl,aR,Rd.nil⟩
 exact⟨some ⟨g,0,none⟩,a,rfl,b,Rd.iK h⟩
theorem ag.nil(w:World)(base:Nat):ag w base (.slice none 0 0) []:=jN _ _ _ _
theorem aC.lit(w:World)(l:List En){cs:Array Value}(h:cs=(En.flat l).toArray):aC (w.alloc (.cells cs 45)) (w.heap.size+1) (some ⟨w.heap.size,0,none⟩) l:=by
 subst h;refine⟨eU l,λ_=>⟨_,0,rfl,uR _,λj u a=> ?_⟩⟩
 rw[mE];exact((ai.new w _ (En.flat l)).cell j).trans a
theorem jD:(prog.info? 45).map (λi=>(i.zero,i.size,i.bytes))=some (some (.agg #[Qs.e,(0:Int),Qs.e,false]),4,48):=by kernel_rfl
def Sm(l:List En):Prop:=∀e∈l,e.p.size<4294967281/\e.t.size<4294967281
theorem Sm.at_{l:List En}(h:Sm l){k:Nat}(hk:k<l.length):l[k].p.size<4294967281/\l[k].t.size<4294967281:=h _ (cz hk)
theorem Sm.take{l:List En}(h:Sm l)(k:Nat):Sm (l.take k):=λe a=>h e (xV a)
theorem Tr.bn{b:Bool}{l:List En}(h:Tr.Right b l):Sm l:=λe a=>by
 have c:=Tr.bV (Tr.entry_clean (h.1 e a));have g:=((Tr.bK e b).1 (h.1 e a)).2.2.1;have i:e.p.size=e.P.length:=(af e.p).symm;omega
def oK(l:List En)(p:Pt.Bs)(k:Nat)(b:Bool):Prop:=
 k<=l.length/\(b=true->∃h:k<l.length,l[k].P=p)/\(Tr.Srt l->(∀t (h:t<l.length),t<k->Pt.cmp l[t].P p<0)/\(∀t (h:t<l.length),k<=t->0<=Pt.cmp l[t].P p)/\(b=false->∀e∈l,e.P≠p))
theorem yK{l:List En}(h:Tr.Srt l){i j:Nat}(hj:j<l.length)(hij:i<j):Pt.cmp (l[i]'(by omega)).P l[j].P<0:=List.pairwise_iff_getElem.1 h i j _ hj hij
theorem QB{l:List En}{p:Pt.Bs}{k:Nat}{b:Bool}(hk:k<=l.length)(h1:Tr.Srt l->∀t (h:t<l.length),t<k->Pt.cmp l[t].P p<0)(h2:Tr.Srt l->∀t (h:t<l.length),k<=t->0<=Pt.cmp l[t].P p)(hb:if h:k<l.length then b=decide (Pt.cmp l[k].P p=0)else b=false):oK l p k b:=by
 refine⟨hk,λe=> ?_,λc=>⟨h1 c,h2 c,λe=> ?_⟩⟩
 ·by_cases h:k<l.length
  ·rw[dif_pos h,e]at hb
   exact⟨h,Pt.Fp (iA hb.symm)⟩
  rw[dif_neg h,e]at hb;cases hb
 intro x u n;obtain⟨t,o,rfl⟩:=mq u;have v:Pt.cmp l[t].P p=0:=by rw[n,Pt.dB]
 rcases iB t k with j|g
 ·have:=h1 c t o j;omega
 have a:k<l.length:=by omega
 rw[dif_pos a,e]at hb;have m:Pt.cmp l[k].P p≠0:=j6 hb.symm
 rcases Cg g with r|i
 ·subst r;exact m v
 have q:=yK c o i;rw[n]at q;exact absurd q (by have:=h2 c k a aR;omega)
theorem l7{l:List En}{p:Pt.Bs}{k:Nat}{b:Bool}(h:oK l p k b)(hs:Tr.Srt l)(hp:p≠[]):(∀hb:b=true,Tr.get l p=some (l[k]'(h.2.1 hb).1))/\(b=false->Tr.get l p=none):=by
 refine⟨λhb=> ?_,λhb=>(Tr.get_none hp).2 ((h.2.2 hs).2.2 hb)⟩
 obtain⟨a,c⟩:=h.2.1 hb;exact(Tr.get_iff hs hp).2 ⟨cz a,c⟩
theorem D9{l:List En}{p:Pt.Bs}{k:Nat}{b:Bool}(h:oK l p k b)(hs:Tr.Srt l)(hp:p≠[]):b=(Tr.get l p).isSome:=by
 obtain⟨a,c⟩:=l7 h hs hp
 cases b
 ·rw[c rfl];rfl
 rw[a rfl];rfl
open Go.RowKit Go.Shelf
theorem Cf(x:En)(p:ByteArray)(w:World)(hx:x.p.size<4294967281)(hp:p.size<4294967281):Calls prog 78 #[.agg #[x.p,x.k,x.t,x.o],p] w λe w'=>e= .returned (.int .i64 (Pt.cmp x.P p))/\Below w w w':=by
 obtain⟨a,c,i,h⟩:=x;dsimp only at hx ⊢;go_enter func78,ntmps78;go_wp2_with fail;refine(Uy a p _ hx hp).mono ?_
 rintro e g ⟨rfl,b⟩;go_wp2;go_ret;exact⟨rfl,((aa _ _).alloc aR _).trans (b.mono (by simp))⟩
theorem QC{l:List En}{p:Pt.Bs}{m:Nat}(hm:m<l.length)(h:Pt.cmp l[m].P p<0):Tr.Srt l->∀t (ht:t<l.length),t<m+1->Pt.cmp l[t].P p<0:=by
 intro c t ht a
 rcases Cg (show t<=m by omega)with e|b
 ·subst e;exact h
 exact Pt.jR (yK c hm b) h
theorem Oh{l:List En}{p:Pt.Bs}{m:Nat}(hm:m<l.length)(h:0<=Pt.cmp l[m].P p):Tr.Srt l->∀t (ht:t<l.length),m<=t->0<=Pt.cmp l[t].P p:=by
 intro g t ht a
 rcases Cg a with e|c
 ·subst e;exact h
 refine Int.not_lt.1 λb=> ?_
 have:=Pt.jR (yK g ht c) b;omega
theorem JO(A:Option Addr)(c:Nat)(l:List En)(p:ByteArray)(w:World)(hl:aC w w A l)(hs:Sm l)(hp:p.size<4294967281)(hn:l.length<=2305843009213693952):Calls prog 77 #[.slice A l.length c,p,.func (.func 78) #[] #[]] w λe w'=>∃(k:Nat) (b:Bool),e= .returned (.tuple #[k,b])/\oK l p k b/\Below w w w':=by
 have Z:=aL hs;go_enter func77,ntmps77;go_wp2
 go_loopw [9,10] (λW N wr=>∃g v:Nat,W= .int .i64 g/\N= .int .i64 v/\g<=v/\v<=l.length/\Hid (Tr.Srt l->∀t (h:t<l.length),t<g->Pt.cmp l[t].P p.data.toList<0)/\Hid (Tr.Srt l->∀t (h:t<l.length),v<=t->0<=Pt.cmp l[t].P p)/\Below w w wr) (λW N _=>(intOf N).toNat- (intOf W).toNat)
 case atStart=>exact⟨0,l.length,rfl,rfl,bL _,aR,aL λ_ t _ h=>absurd h (l5 _),aL λ_ t h h'=>by omega,aa _ _⟩
 case round=>
  obtain⟨g,v,rfl,rfl,hlh,L,O,U,F⟩:=hrel
  by_cases hlt:g<v
  ·obtain⟨m,S⟩:∃m,m=(g+v)/2:=⟨_,rfl⟩
   have u:m<l.length:=by omega
   obtain⟨b,o,rfl,H,z,B,x,D⟩:=(aC.at_ (hl.below F) u)
   have Q:=aL (λh=>QC (p:=p.data.toList) u h)
   have V:=aL (λh=>Oh (p:=p.data.toList) u h)
   have a:=(Z.out.at_ u).1
   generalize l[m]=y at z B x D Q V a;obtain⟨G,M,K,I⟩:=y;dsimp only at z B x D a;rw[S]at z B x D;go_wp2_with fail;refine(Cf ⟨G,M,K,I⟩ p _ a hp).mono ?_
   rintro e w1 ⟨rfl,j⟩;have r:=F.trans (j.mono F.size);generalize hcm:Pt.cmp (En.P ⟨G,M,K,I⟩) p.data.toList=n at Q V
   by_cases E:n<0
   ·go_wp2
    go_roundw
    case rel=>exact⟨m+1,v,by rw[S];go_num,rfl,by omega,L,aL (Q.out E),U,r⟩
    case measure=>simp[intOf];omega
   go_wp2;go_roundw
   case rel=>exact⟨g,m,rfl,by rw[S];go_num,by omega,by omega,O,aL (V.out E),r⟩
   case measure=>simp[intOf];omega
  obtain rfl:g=v:=by omega
  have Y:=aL (λb H=>QB (l:=l) (p:=p.data.toList) (k:=g) (b:=b) L O.out U.out H)
  by_cases q:g<l.length
  ·have i:=aL (λb (H:b=decide (Pt.cmp l[g].P p.data.toList=0))=>Y.out b (by rw[dif_pos q];exact H))
   obtain⟨b,o,rfl,H,z,B,x,D⟩:=(aC.at_ (hl.below F) q)
   have a:=(Z.out.at_ q).1
   generalize l[g]=y at z B x D i a;obtain⟨G,M,K,I⟩:=y;dsimp only at z B x D a;go_wp2_with fail;refine(Cf ⟨G,M,K,I⟩ p _ a hp).mono ?_
   rintro e w1 ⟨rfl,j⟩;have r:=F.trans (j.mono F.size);generalize Pt.cmp (En.P ⟨G,M,K,I⟩) p.data.toList=n at i;go_wp2;go_ret2;exact⟨g,n==0,rfl,i.out (n==0) (by rw[vR];simp),r⟩
  have i:=aL (Y.out false (by rw[dif_neg q]))
  go_wp2;go_ret2;exact⟨g,false,rfl,i.out,F⟩
theorem l_(A:Option Addr)(c:Nat)(l:List En)(p:ByteArray)(w:World)(hl:aC w w A l)(hs:Sm l)(hp:p.size<4294967281)(hn:l.length<=2305843009213693952):Calls prog 40 #[.slice A l.length c,p] w λe w'=>∃(k:Nat) (b:Bool),e= .returned (.tuple #[k,b])/\oK l p k b/\Below w w w':=by
 go_enter func40,ntmps40;go_wp2_with fail;refine(JO A c l p w hl hs hp hn).mono ?_
 rintro e h ⟨k,b,rfl,a,g⟩;go_wp2;go_ret2;exact⟨k,b,rfl,a,g⟩
def D_(l:List En)(p:Pt.Bs)(r:Option En):Prop:=(∀x,r=some x->p≠[]->x∈l/\x.P=p)/\(Tr.Srt l\/p=[]->r=Tr.get l p)
theorem get_any(A:Option Addr)(c:Nat)(l:List En)(p:ByteArray)(w:World)(hl:aC w w A l)(hs:Sm l)(hp:p.size<4294967281)(hn:l.length<=2305843009213693952):Calls prog 81 #[.slice A l.length c,p] w λe w'=>∃r:Option En,e= .returned (.tuple #[(r.getD En.zero).agg,r.isSome])/\D_ l p r/\Below w w w':=by
 by_cases a:p.data.toList=[]
 ·have O:=empty_of a
  have N:=gU a;have m:Hid (D_ l p (some En.root)):=aL ⟨λ_ _ n=>absurd a n,λ_=>by rw[a,Tr.dL]⟩
  go_enter func81,ntmps81;go_wp2_with fail;refine aD (v:= .tuple #[En.root.agg,true]) ?_ rfl ⟨some En.root,rfl,m.out,?_⟩
  ·simp[results,results81,go_sem,En.root,En.agg,En.cells]
  exact(aa _ _).alloc aR _
 have O:=fB a;have N:=fC a;have B:=aL a;have g:Below w w (w.alloc (.cells #[Qs.e,(0:Int),Qs.e,false] 45)):=(aa _ _).alloc aR _;have j:=ai.new w 45 [Qs.e,(0:Int),Qs.e,false];go_enter func81,ntmps81;go_wp2_with fail;generalize w.alloc (.cells #[Qs.e,(0:Int),Qs.e,false] 45)=Q at*;refine(l_ A c l p Q ((hl.below g).more g.size) hs hp hn).mono ?_
 rintro e S ⟨k,b,rfl,q,u⟩;have i:=g.trans (u.mono g.size);have D:=j.below u j.lt;have z:=D.four
 cases b
 ·have m:Hid (D_ l p none):=aL ⟨λ_ h=>(nomatch h),λhs=>by
   rcases hs with hs|hs
   ·exact((l7 q hs B.out).2 rfl).symm
   exact absurd hs B.out⟩
  go_wp2_with fail;refine aD (v:= .tuple #[En.zero.agg,false]) ?_ rfl ⟨none,rfl,m.out,?_⟩
  ·simp[results,results81,go_sem,En.zero,En.agg,En.cells,z]
  exact((((i.setCell (by simp) _).setCell (by simp) _).setCell (by simp) _).setCell (by simp) _)
 obtain⟨H,t⟩:=q.2.1 rfl;have m:Hid (D_ l p (some l[k])):=aL ⟨λx h _=>by
   injection h with h;subst h;exact⟨cz H,t⟩,λhs=>by
  rcases hs with hs|hs
  ·exact((l7 q hs B.out).1 rfl).symm
  ·exact absurd hs B.out⟩
 obtain⟨b,o,rfl,u,a,I,E,L⟩:=(aC.at_ (hl.below i) H)
 have n:w.heap.size≠b:=by omega
 generalize l[k]=y at a I E L m;obtain⟨F,M,K,G⟩:=y;dsimp only at a I E L;go_wp2_with fail;refine aD (v:= .tuple #[(En.mk F M K G).agg,true]) ?_ rfl ⟨some ⟨F,M,K,G⟩,rfl,m.out,?_⟩
 ·simp[results,results81,go_sem,En.agg,En.cells,z]
 exact((((i.setCell (by simp) _).setCell (by simp) _).setCell (by simp) _).setCell (by simp) _)
theorem entry_eq(x:En)(b:Bool):Tr.entry x b=bif decide (x.k<1)||decide ((bif b then 4 else 3)<x.k)then 1 else bif !Pt.clean x.P then 7 else bif decide ((100:Int)<x.t.size)then 4 else
  bif (!x.t.toList.isEmpty&&x.k !=1&&x.k !=3)||(x.k==3&&x.t.toList.isEmpty)||(x.o&&(!b||x.k !=2))then 8 else 0:=by
 have l:(x.t.size !=0)= !x.t.toList.isEmpty:=by
  rcases aG x.t with⟨a,_,g⟩|⟨a,_,g⟩
  ·have:=om List.length a;rw[af]at this;rw[g,this];rfl
  have:x.t.size≠0:=λe=>a (List.length_eq_zero_iff.1 (by rw[af];exact e))
  rw[g];simpa using this
 have a:(x.t.size==0)=x.t.toList.isEmpty:=by
  have c:(x.t.size==0)= !(x.t.size !=0):=by cases x.t.size<;>rfl
  rw[c,l,Bool.not_not]
 have c:decide ((100:Int)<x.t.size)=decide (100<x.t.size):=decide_eq_decide.2 (by omega)
 unfold Tr.entry Tr.lC Tr.lX;rw[l,a,c];generalize (decide (x.k<1)||decide ((bif b then 4 else 3)<x.k))=i
 generalize Pt.clean x.P=j;generalize (!x.t.toList.isEmpty&&x.k !=1&&x.k !=3||x.k==3&&x.t.toList.isEmpty||x.o&&(!b||x.k !=2))=m
 by_cases h:100<x.t.size
 ·rw[fw h,aM h];cases i<;>cases j<;>rfl
 rw[bN h,av h];cases i<;>cases j<;>cases m<;>rfl
theorem Ci(b i:Nat)(x:En)(layer:Bool)(w:World)(hx:ZV w b i x)(hb:b<w)(hs:x.p.size<4294967281)(ht:x.t.size<4294967281):Calls prog 85 #[.pointer (some ⟨b,i,none⟩),layer] w λe w'=>e= .returned (.int .i64 (Tr.entry x layer))/\Below w w w':=by
 have g:=aL (entry_eq x layer);have D:=λW=>clean_any x.p W (by omega)
 obtain⟨I,q,B,A⟩:=x;obtain⟨F,G,E,H⟩:=hx;have V:(En.mk I q B A).P=I.data.toList:=rfl;rw[V]at g;dsimp only at F G E H g hs ht D;generalize Pt.clean I.data.toList=U at g D;generalize Tr.entry ⟨I,q,B,A⟩ layer=Y at g;have c:∀{w':World} {j:Nat} {v:Value},Below w w w'->w.cell? ⟨b,j,none⟩=some v->w'.cell? ⟨b,j,none⟩=some v:=λh e=>(h.cell (p:=⟨b,_,none⟩) hb).trans e
 cases layer
 all_goals
  have a:=aa w w;go_enter func85,ntmps85
 ·rcases k:decide (q<1)with _|_
  rotate_left
  ·go_wp2
   go_ret;exact⟨aK (by rw[g.out];simp[k]),a⟩
  rcases l:decide (3<q)with _|_
  rotate_left
  ·go_wp2
   go_ret;exact⟨aK (by rw[g.out];simp[k,l]),a⟩
  go_wp2_with fail;refine(D _).mono ?_
  rintro e K ⟨rfl,u⟩;replace a:=a.trans (u.mono a.size);have S:=c a F;have O:=c a G;have M:=c a E;have Q:=c a H;have L:b<K:=bE hb a.size
  cases U
  ·go_wp2
   go_ret;exact⟨aK (by rw[g.out];simp[k,l]),a⟩
  rcases n:decide ((100:Int)<B.size)with _|_
  rotate_left
  ·go_wp2
   go_ret;exact⟨aK (by rw[g.out];simp[k,l,n]),a⟩
  rcases aG B with⟨_,N,o⟩|⟨_,N,o⟩
  ·rcases m:(q==3)with _|_
   ·cases A
    ·go_wp2
     go_ret;exact⟨aK (by rw[g.out];simp[k,l,n,o,m]),a⟩
    go_wp2;go_ret;exact⟨aK (by rw[g.out];simp[k,l,n,o,m]),a⟩
   go_wp2;go_ret;exact⟨aK (by rw[g.out];simp[k,l,n,o,m]),a⟩
  rcases r:(q !=1)with _|_
  ·rcases m:(q==3)with _|_
   ·cases A
    ·go_wp2
     go_ret;exact⟨aK (by rw[g.out];simp[k,l,n,o,m,r]),a⟩
    go_wp2;go_ret;exact⟨aK (by rw[g.out];simp[k,l,n,o,m,r]),a⟩
   exfalso;simp at r m;omega
  rcases y:(q !=3)with _|_
  ·have m:(q==3)=true:=by simpa using y
   cases A
   ·go_wp2
    go_ret;exact⟨aK (by rw[g.out];simp[k,l,n,o,m,r,y]),a⟩
   go_wp2;go_ret;exact⟨aK (by rw[g.out];simp[k,l,n,o,m,r,y]),a⟩
  go_wp2;go_ret;exact⟨aK (by rw[g.out];simp[k,l,n,o,r,y]),a⟩
 rcases k:decide (q<1)with _|_
 rotate_left
 ·go_wp2
  go_ret;exact⟨aK (by rw[g.out];simp[k]),a⟩
 rcases l:decide (4<q)with _|_
 rotate_left
 ·go_wp2
  go_ret;exact⟨aK (by rw[g.out];simp[k,l]),a⟩
 go_wp2_with fail;refine(D _).mono ?_
 rintro e K ⟨rfl,u⟩;replace a:=a.trans (u.mono a.size);have S:=c a F;have O:=c a G;have M:=c a E;have Q:=c a H;have L:b<K:=bE hb a.size
 cases U
 ·go_wp2
  go_ret;exact⟨aK (by rw[g.out];simp[k,l]),a⟩
 rcases n:decide ((100:Int)<B.size)with _|_
 rotate_left
 ·go_wp2
  go_ret;exact⟨aK (by rw[g.out];simp[k,l,n]),a⟩
 rcases aG B with⟨_,N,o⟩|⟨_,N,o⟩
 ·rcases m:(q==3)with _|_
  ·cases A
   ·go_wp2
    go_ret;exact⟨aK (by rw[g.out];simp[k,l,n,o,m]),a⟩
   rcases z:(q !=2)with _|_
   ·go_wp2
    go_ret;exact⟨aK (by rw[g.out];simp[k,l,n,o,m,z]),a⟩
   go_wp2;go_ret;exact⟨aK (by rw[g.out];simp[k,l,n,o,m,z]),a⟩
  go_wp2;go_ret;exact⟨aK (by rw[g.out];simp[k,l,n,o,m]),a⟩
 rcases r:(q !=1)with _|_
 ·rcases m:(q==3)with _|_
  ·cases A
   ·go_wp2
    go_ret;exact⟨aK (by rw[g.out];simp[k,l,n,o,m,r]),a⟩
   rcases z:(q !=2)with _|_
   ·go_wp2
    go_ret;exact⟨aK (by rw[g.out];simp[k,l,n,o,m,r,z]),a⟩
   go_wp2;go_ret;exact⟨aK (by rw[g.out];simp[k,l,n,o,m,r,z]),a⟩
  exfalso;simp at r m;omega
 rcases y:(q !=3)with _|_
 ·have m:(q==3)=true:=by simpa using y
  cases A
  ·go_wp2
   go_ret;exact⟨aK (by rw[g.out];simp[k,l,n,o,m,r,y]),a⟩
  rcases z:(q !=2)with _|_
  ·go_wp2
   go_ret;exact⟨aK (by rw[g.out];simp[k,l,n,o,m,r,y,z]),a⟩
  go_wp2;go_ret;exact⟨aK (by rw[g.out];simp[k,l,n,o,m,r,y,z]),a⟩
 go_wp2;go_ret;exact⟨aK (by rw[g.out];simp[k,l,n,o,r,y]),a⟩
open Go.RowKit Go.Shelf Go.Sort Go.Lib
theorem sG{B:Nat}{w:World}(hB:B<=w.heap.size)(n:Nat)(os:Array Obj):Below B w (grow (w.drewN n) os):=
 ⟨rfl,rfl,rfl,by show w.heap.size<=(w.heap++os).size;simp,λi a=>by show(w.heap++os)[i]? =_;exact Ay (by omega)⟩
theorem JP(s t:ByteArray)(w:World)(hs:s.size<4294967281)(ht:t.size<4294967281):Calls prog 79 #[s,t] w λe w'=>e= .returned (.int .i64 (Pt.cmp s t))/\Gr w w':=by
 have j:=dA s;have k:=dA t;rw[af]at j k;have m:Calls prog 115 #[s,.string ⟨#[47]⟩] w λe w'=>e= .returned (.slice w (Pt.split s).length (Pt.split s).length)/\w'=w.alloc (.cells ((Pt.split s).map Pt.str).toArray 9):=
  (qR s w hs).mono λe w' ⟨n,a,c,b⟩=>⟨by rw[a,c],b⟩
 have i:Calls prog 115 #[t,.string ⟨#[47]⟩] (w.alloc (.cells ((Pt.split s).map Pt.str).toArray 9)) λe w'=>e= .returned (.slice (w.heap.size+1:Nat) (Pt.split t).length (Pt.split t).length)/\w'=(w.alloc (.cells ((Pt.split s).map Pt.str).toArray 9)).alloc (.cells ((Pt.split t).map Pt.str).toArray 9):=
  (qR t _ ht).mono λe w' ⟨n,a,c,b⟩=>⟨by rw[a,c,bX],b⟩
 have l:=ng.new w (Pt.split s);have g:=ng.new (w.alloc (.cells ((Pt.split s).map Pt.str).toArray 9)) (Pt.split t);rw[bX]at g;refine(FW s t _ _ _ _ w _ _ m i (l.below ((aa (w.heap.size+1) _).alloc (by simp) _) (uR _)) g (by omega) (by omega)).mono λe w' ⟨a,h⟩=>⟨a,?_⟩
 obtain⟨n,rfl⟩:=h;exact(((Gr.refl w).alloc _).alloc _).drewN n
def qV:={e:En//e.p.size<4294967281}
instance:Inhabited qV:=⟨⟨En.zero,by decide⟩⟩
def qV.cells(x:qV):List Value:=x.1.cells
def qV.cf(x y:qV):Int:=Pt.cmp x.1.P y.1.P
def qV.val(x:qV):En:=x.1
theorem MI:SWO (ltOf qV.cf) where
 irrefl x:=by
  show decide (Pt.cmp x.1.P x.1.P<0)=false
  rw[Pt.dB];rfl
 trans x y z b a:=by
  have b:Pt.cmp x.1.P y.1.P<0:=iA b;have a:Pt.cmp y.1.P z.1.P<0:=iA a;exact fw (Pt.jR b a)
 ntrans x y z b a:=by
  have b:¬Pt.cmp x.1.P y.1.P<0:=j6 b;have a:¬Pt.cmp y.1.P z.1.P<0:=j6 a;refine bN λh=> ?_
  by_cases e:x.1.P=y.1.P
  ·have h:Pt.cmp x.1.P z.1.P<0:=h
   rw[e]at h;exact a h
  ·exact a (Pt.jR (Tr.yc b e) h)
theorem Oi(x y:En)(hx:x.p.size<4294967281)(hy:y.p.size<4294967281)(W:World):Calls prog 113 #[.agg x.cells.toArray,.agg y.cells.toArray] W λe w'=>e= .returned (.int .i64 (Pt.cmp x.P y.P))/\Gr W w':=by
 obtain⟨g,i,m,k⟩:=x;obtain⟨c,j,l,o⟩:=y;simp only[En.cells];dsimp only at hx hy;go_enter func113,ntmps113;go_wp2_with fail;refine(JP g c _ hx hy).mono ?_
 rintro e r ⟨rfl,q,b,rfl⟩;go_wp2;go_ret;refine⟨rfl,?_⟩
 obtain⟨n,a,h⟩:=((Gr.refl W).alloc (.cells #[g,i,m,k] 45)).alloc (.cells #[c,j,l,o] 45);rw[h];exact⟨n+q,a++b,by show grow (grow ((W.drewN n).drewN q) a) b=_;rw[grow_grow,World.drewN_drewN]⟩
theorem QE:∀w,(isAgg (pdqEn_ren.t 24)).run prog w= .ok true w:=λw=>by kernel_rfl
theorem Oj:∀w,(Go.sizeOf (pdqEn_ren.t 24)).run prog w= .ok 4 w:=λw=>by kernel_rfl
theorem JQ(f:FuncId)(hf:∀args w,(callFunc f args).run prog w= .ok (.enter f args) w)(hcmp:∀(x y:qV) (W:World),Calls prog f #[.agg x.1.cells.toArray,.agg y.1.cells.toArray] W λe w'=>e= .returned (.int .i64 (Pt.cmp x.1.P y.1.P))/\Gr W w')(base g cap:Nat)(l:List qV)(w:World)(h:w.ownsRow base 45 4 (.slice g l.length cap) l.length (l.flatMap qV.cells))(hsz:l.length<4611686018427387904):Calls prog 95 #[.slice g l.length cap,.func (.func f) #[] #[]] w λe w'=>e= .returned (.tuple #[])/\
   ∃l':List qV,l'.Perm l/\(l'.Pairwise λx y=>ltOf qV.cf y x=false)/\w'.ownsRow base 45 4 (.slice g l.length cap) l.length (l'.flatMap qV.cells)/\w.grownBy w' (some g):=by
 have F:g<w:=by have:=h.lt g rfl;exact this.2
 have k:∀x:qV,(qV.cells x).length=4:=λ_=>rfl
 have z:∀x:qV,∀v∈qV.cells x,v.oneCell'=true:=λx v B=>by
  simp[qV.cells,En.cells]at B;rcases B with rfl|rfl|rfl|rfl<;>rfl
 have p:l.toArray.size=l.length:=by simp
 have u:=yM k h;have o:=AnyQ.pdqsortCmpFunc_all (P:=prog) (ρ:=pdqEn_ren) pdqEn 4 QE Oj qV.cells qV.cf f #[] MI g 0 cap l.toArray w hf (λm os O _ x y=>hcmp x y _) ⟨k,z,u,F⟩ (l.length+1) 0 l.length (Lib.bitLen l.length) l.toArray w (by omega) rfl (SWK.start u) (bL _) (by rw[p];exact aR) (by rw[p];exact hsz)
  (Nat.lt_of_le_of_lt (Lib.bitLen_le l.length 62 (by omega) (by omega)) (by omega)) (Or.inl rfl)
 rw[p]at o;have A:Calls prog 122 #[.int .u64 (l.length:Int)] w λe w'=>e= .returned (.int .i64 (Lib.bitLen l.length:Nat))/\w'=w:=by
  have h:=Any.bits_Len (SlLaysF0.n15.bits (P:=prog) (ρ:=lenEn_ren) lenEn) (l.length:Int) w (by omega) (by omega)
  rw[mH]at h;exact h
 have wr:IntKind.u64.wrap (l.length:Int)=l.length:=by simp[IntKind.wrap,IntKind.bits,IntKind.signed];omega
 have G:Hid (∀{a:Array qV} {nq:Nat} {os:Array Obj},a.size=l.length->(sortWorldK qV.cells 4 w g 0 nq a os).ownsRow base 45 4 (.slice g l.length cap) l.length (a.toList.flatMap qV.cells)/\w.grownBy (sortWorldK qV.cells 4 w g 0 nq a os) (some g)):=aL (λq=>yN k h q)
 have E:=aL (pdq_sorts (ltOf qV.cf) MI l.toArray 0 l.length (Lib.bitLen l.length) true true (bL _) (by simp) (Or.inl rfl))
 generalize pdq (ltOf qV.cf) l.toArray 0 l.length (Lib.bitLen l.length) true true=a at o E;generalize hL:Lib.bitLen l.length=L at o A;go_enter func95,ntmps95
 go_wp2_with (first|(go_at_call 122;refine A.mono ?_;rintro e w' ⟨rfl,rfl⟩)|(go_at_call 121;refine o.mono ?_;rintro e w' ⟨rfl,n,os,rfl⟩))
 go_end0
 obtain⟨⟨q,_,c⟩,t⟩:=E.out;have b:a.size=l.length:=by simpa using q
 obtain⟨K,H⟩:=G.out (nq:=n) (os:=os) b;refine⟨rfl,a.toList,?_,?_,K,H⟩
 ·have N:a.extract 0 l.length=a:=by rw[<-b];simp
  have I:l.toArray.extract 0 l.length=l.toArray:=by rw[<-p];simp
  rw[N,I]at c
  simpa using c
 rw[wT];intro i j M D r;have:=t i j (bL _) r (by simpa[b]using D)
 rw[Cy a j (by simpa using D),Cy a i (by simpa using M)]at this
 simpa using this
theorem Cj(f:FuncId)(hf:∀args w,(callFunc f args).run prog w= .ok (.enter f args) w)(hcmp:∀(x y:En),x.p.size<4294967281->y.p.size<4294967281->∀(W:World),Calls prog f #[.agg x.cells.toArray,.agg y.cells.toArray] W λe w'=>e= .returned (.int .i64 (Pt.cmp x.P y.P))/\Gr W w')(base g cap:Nat)(l:List En)(w:World)(h:ag w base (.slice g l.length cap) l)(hs:∀e∈l,e.p.size<4294967281)(hsz:l.length<4611686018427387904):Calls prog 95 #[.slice g l.length cap,.func (.func f) #[] #[]] w λe w'=>e= .returned (.tuple #[])/\
   ∃l':List En,l'.Perm l/\(l'.Pairwise λx y=>¬Pt.cmp y.P x.P<0)/\ag w' base (.slice g l.length cap) l'/\w.grownBy w' (some g):=by
 have n:∀l:List En,(∀e∈l,e.p.size<4294967281)->∃m:List qV,m.map qV.val=l:=by
  intro l
  induction l with
  |nil=>intro _;exact⟨[],rfl⟩
  |cons x r ih=>
   intro h;obtain⟨m,v⟩:=ih λe A=>h e (by simp[A])
   exact⟨⟨x,h x (by simp)⟩::m,om (List.cons x) v⟩
 obtain⟨m,k⟩:=n l hs;have q:m.length=l.length:=by rw[<-k,ib]
 have o:∀m:List qV,m.flatMap qV.cells=En.flat (m.map qV.val):=by
  intro m
  induction m with
  |nil=>rfl
  |cons x r ih=>rw[sI,ih];rfl
 have c:=JQ f hf (λx y W=>hcmp x.1 y.1 x.2 y.2 W) base g cap m w (by rw[q,o,k];exact h) (by omega)
 rw[q]at c;refine c.mono ?_
 rintro e w' ⟨rfl,t,u,j,z,B⟩;have i:(t.map qV.val).Perm l:=by rw[<-k];exact u.map _
 refine⟨rfl,t.map qV.val,i,?_,?_,B⟩
 ·exact List.pairwise_map.2 (Hd (λ{a b} h=>(j6 h:¬Pt.cmp b.1.P a.1.P<0)) j)
 unfold ag;rw[i.length_eq,<-o];exact z
open Go.RowKit Go.Shelf Go.Sort
theorem b_{l:List En}{b:Bool}{p:Int×Int}{e a:Int}(h0:Tr.wrong l b=p)(h:p=(e,a)):Ending.returned (.agg #[e,a])= .returned (.agg #[.int .i64 (Tr.wrong l b).1,.int .i64 (Tr.wrong l b).2]):=by rw[h0,h]
theorem qW{p:List En}{d:Pt.Bs}{r:Option En}(h:r=Tr.get p d):Tr.ou p d=(!r.isSome||(r.getD En.zero).k !=2):=by
 unfold Tr.ou;rw[<-h];cases r<;>rfl
theorem wX{p:List En}{y:En}{b:Bool}{n:Int}(h:Tr.entry y b=n)(hn:n≠0):Tr.bI p y b=n:=by unfold Tr.bI;rw[h,aM hn]
theorem gV{p:List En}{y:En}{b:Bool}(h:Tr.entry y b=0)(ho:(p.getLast?.any λz=> !Tr.ahead z y)=true):Tr.bI p y b=2:=by unfold Tr.bI;rw[h,ho];rfl
theorem jf{p:List En}{y:En}{b:Bool}(h:Tr.entry y b=0)(ho:(p.getLast?.any λz=> !Tr.ahead z y)=false)(hd:Tr.ou p (Pt.ah y.P)=true):Tr.bI p y b=10:=by unfold Tr.bI;rw[h,ho,hd];rfl
theorem oL{p:List En}{y:En}{b:Bool}(h:Tr.entry y b=0)(ho:(p.getLast?.any λz=> !Tr.ahead z y)=false)(hd:Tr.ou p (Pt.ah y.P)=false):Tr.bI p y b=0:=by unfold Tr.bI;rw[h,ho,hd];rfl
theorem iQ{l:List En}{m:Nat}{y z:En}{n:Int}(hm:m<l.length)(hz:l[m]=z)(hn:Pt.cmp z.P y.P=n):((l.take (m+1)).getLast?.any λz=> !Tr.ahead z y)=decide (0<=n):=by
 rw[aF hm,hz,Cw]
 show(!Tr.ahead z y)=_
 unfold Tr.ahead;rw[hn,vR];simp
theorem check_any(A:Option Addr)(c:Nat)(l:List En)(layer:Bool)(w:World)(hl:aC w w.heap.size A l)(hc:l.length<=c)(hs:Sm l)(hn:l.length<=2305843009213693952):Calls prog 71 #[.slice A l.length c,layer] w λe w'=>e= .returned (.agg #[.int .i64 (Tr.wrong l layer).1,.int .i64 (Tr.wrong l layer).2])/\Below w.heap.size w w':=by
 have Xe:prog.follows .mixedOrders=true:=by kernel_rfl
 have HS:=aL hs;clear hs;have hB0:Below w.heap.size w (w.alloc (.cells #[(0:Int),(0:Int)] 51)):=(aa _ _).alloc aR _;have hq0:=ai.new w 51 [(0:Int),(0:Int)];go_enter func71,ntmps71
 by_cases h80:80<l.length
 ·have HW:Hid (Tr.wrong l layer=(5,0)):=aL (by unfold Tr.wrong;rw[aM h80])
  go_wp2_with fail;refine aD (v:= .agg #[(5:Int),(0:Int)]) ?_ rfl ⟨b_ HW.out rfl,?_⟩
  ·simp[results,results71,go_sem]
  first|exact(aa _ _).alloc aR _|exact(hB0.setCell (by simp) _).setCell (by simp) _
 have HW:Hid (Tr.wrong l layer=Tr.ak layer (l.take 0) (l.drop 0)):=aL (by unfold Tr.wrong;rw[av h80];rfl)
 go_wp2_with fail;generalize w.alloc (.cells #[(0:Int),(0:Int)] 51)=w0 at*
 go_loopw [17] (λi wr=>∃k:Nat,k<=l.length/\i= .int .i64 k/\Hid (Tr.wrong l layer=Tr.ak layer (l.take k) (l.drop k))/\Hid (Tr.Right layer (l.take k))/\ai wr w.heap.size 51 [(0:Int),(0:Int)]/\Below w.heap.size w wr) (λi _=>l.length- (intOf i).toNat)
 case atStart=>exact⟨0,bL _,rfl,HW,aL (Tr.lM _),hq0,hB0⟩
 case round=>
  clear hq0 hB0 HW;obtain⟨k,hk,rfl,HW,HR,hq,hB⟩:=hrel
  by_cases hlt:k<l.length
  ·obtain⟨b,o,rfl,hb,h0,h1,h2,h3⟩:=(aC.at_ (hl.below hB) hlt)
   have HB:=aL (λ(e:Int) (h:Tr.bI (l.take k) l[k] layer=e) (he:e≠0)=>HW.out.trans (Tr.aX hlt rfl h he))
   have HG:=aL (λ(h:Tr.bI (l.take k) l[k] layer=0)=>(⟨HW.out.trans (Tr.bZ hlt rfl h),by rw[aF hlt];exact Tr.gJ.2 ⟨HR.out,h⟩⟩:Tr.wrong l layer=Tr.ak layer (l.take (k+1)) (l.drop (k+1))/\Tr.Right layer (l.take (k+1))))
   have V:=HS.out.at_ hlt
   have hbz:b<wr.heap.size:=bE hb hB.size;have hbne:w.heap.size≠b:=by omega
   clear HW;generalize l[k]=y at h0 h1 h2 h3 HB HG V;have cE:=Ci b (o+k*4) y layer wr ⟨h0,h1,h2,h3⟩ hbz V.1 V.2;clear h1 h2 h3;obtain⟨en,M⟩:∃en,en=Tr.entry y layer:=⟨_,rfl⟩;rw[<-M]at cE;have HE:=aL M.symm;clear M;obtain⟨j,q,Q,D⟩:=hq.two;go_wp2_with fail;refine cE.mono ?_
   rintro e w1 ⟨rfl,hb1⟩;clear cE j q Q D;have E:=hB.trans (hb1.mono hB.size);have L:=hq.below hb1 hq.lt;have U:=(hb1.cell (p:=⟨b,o+k*4,none⟩) hbz).trans h0;have g:b<w1.heap.size:=bE hbz hb1.size;clear hb1 hB hq h0;obtain⟨t,yk,yt,yo⟩:=y;dsimp only at U V
   rcases te:(en !=0)with _|_
   rotate_left
   ·have M:en≠0:=by simpa using te
    have Jl:=aL (HB.out en (wX HE.out M) M);clear M;obtain⟨j,q,Q,D⟩:=L.two;go_wp2_with fail;refine aD (v:= .agg #[.int .i64 en,k]) ?_ rfl ⟨b_ Jl.out rfl,?_⟩
    ·simp[results,results71,go_sem,j,q]
    exact(E.setCell (by simp) _).setCell (by simp) _
   have G:Hid (Tr.entry ⟨t,yk,yt,yo⟩ layer=0):=aL (by rw[HE.out];simpa using te)
   obtain⟨j,q,Q,D⟩:=L.two
   rcases k with _|m
   ·have I:Hid ((l.take 0).getLast?.any (λz=> !Tr.ahead z ⟨t,yk,yt,yo⟩)=false):=aL rfl
    go_wp2_with fail
    go_quiet (fail)
    have hB2:=below_drewN E nq;have x:=L.drewN nq;have hy2:(w1.drewN nq).cell? ⟨b,o,none⟩=some (.string t):=by simpa using U
    have abO:b<(w1.drewN nq).heap.size:=g;clear E L U g j q Q D;generalize w1.drewN nq=w2 at*;obtain⟨j,q,Q,D⟩:=x.two;go_wp2_with fail;refine(jC t w2 (by omega)).mono ?_
    rintro e w3 ⟨rfl,hD⟩;have a:=hB2.trans (hD.below (B:=w.heap.size));have F:=x.below (hD.below (B:=w2.heap.size)) x.lt;have hl3:=hl.below a;clear j q Q D;obtain⟨O,K⟩:∃O:ByteArray,O=⟨(Pt.ah t.data.toList).toArray⟩:=⟨_,rfl⟩;have H:O.data.toList=Pt.ah t.data.toList:=by rw[K]
    have hst:Pt.str (Pt.ah t.data.toList)= .string O:=by rw[K];rfl
    obtain⟨sn,hsn⟩:∃sn,Pt.str (Pt.nameOf t.data.toList)= .string sn:=⟨_,rfl⟩;rw[hst,hsn];have hsz2:O.size<4294967281:=by have:=(ny t).1;rw[<-H,af]at this;omega
    have cG:=get_any (some ⟨b,o,none⟩) c (l.take (0)) O w3 ((aC.take hl3 _).more a.size) (HS.out.take _) hsz2 (by rw[bR];omega)
    rw[show(l.take (0)).length=0 by rw[bR];omega,H]at cG
    clear K H hst hsn hl3 hD;go_wp2_with fail;refine cG.mono ?_
    rintro e w4 ⟨r,rfl,hr,N⟩;clear cG;have u:=a.trans (N.mono a.size);have Z:=F.below N F.lt;have S:=aL (qW (hr.2 (.inl HR.out.2.1)));clear hr N a F;generalize r.getD En.zero=d at S;generalize r.isSome=ok at S;obtain⟨dp,dk,dt,Y⟩:=d;simp only[En.agg,En.cells];dsimp only at S;obtain⟨j,q,Q,D⟩:=Z.two
    rcases ok with _|_
    ·go_wp2_with fail
     refine aD (v:= .agg #[(10:Int),(0:Int)]) ?_ rfl ⟨b_ (HB.out 10 (jf G.out I.out (S.out.trans rfl)) (by decide)) rfl,?_⟩
     ·simp[results,results71,go_sem,j,q,dx,D]
     have hZ:=(u.setCell (p:=⟨w.heap.size,0,none⟩) aR (.int .i64 10)).setCell (p:=⟨w.heap.size,1,none⟩) aR (.int .i64 0);exact hZ.alloc hZ.size _
    rcases tk:(dk !=2)with _|_
    ·have HN:=aL (HG.out (oL G.out I.out (S.out.trans (by rw[tk];rfl))))
     have dh:=u.alloc u.size (.cells #[dp,dk,dt,Y] 45);have hq5:=Z.alloc (.cells #[dp,dk,dt,Y] 45);go_wp2;go_roundw
     case rel=>exact⟨0+1,by omega,by go_num,aL HN.out.1,aL HN.out.2,hq5,dh⟩
     case measure=>simp[intOf];omega
    go_wp2_with fail;refine aD (v:= .agg #[(10:Int),(0:Int)]) ?_ rfl ⟨b_ (HB.out 10 (jf G.out I.out (S.out.trans (by rw[tk];rfl))) (by decide)) rfl,?_⟩
    ·simp[results,results71,go_sem,j,q,dx,D]
    have hZ:=(u.setCell (p:=⟨w.heap.size,0,none⟩) aR (.int .i64 10)).setCell (p:=⟨w.heap.size,1,none⟩) aR (.int .i64 0);exact hZ.alloc hZ.size _
   have hml:m<l.length:=by omega
   obtain⟨b',o',Ud,_,z0,_,_,_⟩:=(aC.at_ (hl.below E) hml)
   injection Ud with Ud
   injection Ud with Xf Xg
   subst Xf Xg;obtain⟨n,hn⟩:∃n,n=Pt.cmp l[m].P t.data.toList:=⟨_,rfl⟩;have HO:=aL (iQ (y:=⟨t,yk,yt,yo⟩) hml rfl hn.symm);have QF:=(HS.out.at_ hml).1
   have cC:=λW=>JP l[m].p t W QF V.1
   rw[show Pt.cmp l[m].p.data.toList t.data.toList=n from hn.symm]at cC
   clear hn;generalize l[m].p=zp at z0 cC QF;have z0':=cell_grown g z0;have y0':=cell_grown g U;have tm:decide ((0:Int)<((m+1:Nat):Int))=true:=fw (by omega)
   have hwm:IntKind.i64.wrap ((m:Nat):Int)=(m:Int):=lm _ (by omega)
   have hi1:(m:Int)+1<(l.length:Int):=by omega
   have hi0:(0:Int)<=(m:Int)+1:=by omega
   have hi2:((m:Int)+1).toNat=m+1:=by omega
   go_wp2_with fail
   go_quiet_grown ((go_at_call 79;exact Calls.grown_of (cC _)))
   have hB2:=E.trans (sG (w:=w1) E.size nq osq);have x:=L.below (sG (w:=w1) aR nq osq) L.lt;have hy2:=y0' nq osq;have abO:b<(grow (w1.drewN nq) osq).heap.size:=bE g (sG (w:=w1) aR nq osq).size;clear E L U g j q Q D z0 z0' y0' cC tm hwm hi1 hi0 hi2;generalize grow (w1.drewN nq) osq=w2 at*
   rcases tn:decide (0<=n)with _|_
   rotate_left
   ·obtain⟨j,q,Q,D⟩:=x.two
    have Jl:=aL (HB.out 2 (gV G.out (by rw[HO.out,tn])) (by decide))
    go_wp2_with fail;refine aD (v:= .agg #[(2:Int),.int .i64 (m+1)]) ?_ rfl ⟨b_ Jl.out rfl,?_⟩
    ·simp[results,results71,go_sem,j,q]
    exact(hB2.setCell (by simp) _).setCell (by simp) _
   have I:=aL (HO.out.trans tn);clear HO;obtain⟨j,q,Q,D⟩:=x.two;go_wp2_with fail;refine(jC t w2 (by omega)).mono ?_
   rintro e w3 ⟨rfl,hD⟩;have a:=hB2.trans (hD.below (B:=w.heap.size));have F:=x.below (hD.below (B:=w2.heap.size)) x.lt;have hl3:=hl.below a;clear j q Q D;obtain⟨O,K⟩:∃O:ByteArray,O=⟨(Pt.ah t.data.toList).toArray⟩:=⟨_,rfl⟩;have H:O.data.toList=Pt.ah t.data.toList:=by rw[K]
   have hst:Pt.str (Pt.ah t.data.toList)= .string O:=by rw[K];rfl
   obtain⟨sn,hsn⟩:∃sn,Pt.str (Pt.nameOf t.data.toList)= .string sn:=⟨_,rfl⟩;rw[hst,hsn];have hsz2:O.size<4294967281:=by have:=(ny t).1;rw[<-H,af]at this;omega
   have cG:=get_any (some ⟨b,o,none⟩) c (l.take ((m+1))) O w3 ((aC.take hl3 _).more a.size) (HS.out.take _) hsz2 (by rw[bR];omega)
   rw[show(l.take ((m+1))).length=(m+1)by rw[bR];omega,H]at cG
   clear K H hst hsn hl3 hD;go_wp2_with fail;refine cG.mono ?_
   rintro e w4 ⟨r,rfl,hr,N⟩;clear cG;have u:=a.trans (N.mono a.size);have Z:=F.below N F.lt;have S:=aL (qW (hr.2 (.inl HR.out.2.1)));clear hr N a F;generalize r.getD En.zero=d at S;generalize r.isSome=ok at S;obtain⟨dp,dk,dt,Y⟩:=d;simp only[En.agg,En.cells];dsimp only at S;obtain⟨j,q,Q,D⟩:=Z.two
   rcases ok with _|_
   ·go_wp2_with fail
    refine aD (v:= .agg #[(10:Int),.int .i64 (m+1)]) ?_ rfl ⟨b_ (HB.out 10 (jf G.out I.out (S.out.trans rfl)) (by decide)) rfl,?_⟩
    ·simp[results,results71,go_sem,j,q,dx,D]
    have hZ:=(u.setCell (p:=⟨w.heap.size,0,none⟩) aR (.int .i64 10)).setCell (p:=⟨w.heap.size,1,none⟩) aR (.int .i64 (m+1));exact hZ.alloc hZ.size _
   rcases tk:(dk !=2)with _|_
   ·have HN:=aL (HG.out (oL G.out I.out (S.out.trans (by rw[tk];rfl))))
    have dh:=u.alloc u.size (.cells #[dp,dk,dt,Y] 45);have hq5:=Z.alloc (.cells #[dp,dk,dt,Y] 45);go_wp2;go_roundw
    case rel=>exact⟨(m+1)+1,by omega,by go_num,aL HN.out.1,aL HN.out.2,hq5,dh⟩
    case measure=>simp[intOf];omega
   go_wp2_with fail;refine aD (v:= .agg #[(10:Int),.int .i64 (m+1)]) ?_ rfl ⟨b_ (HB.out 10 (jf G.out I.out (S.out.trans (by rw[tk];rfl))) (by decide)) rfl,?_⟩
   ·simp[results,results71,go_sem,j,q,dx,D]
   have hZ:=(u.setCell (p:=⟨w.heap.size,0,none⟩) aR (.int .i64 10)).setCell (p:=⟨w.heap.size,1,none⟩) aR (.int .i64 (m+1));exact hZ.alloc hZ.size _
  obtain rfl:k=l.length:=by omega
  have HZ:Hid (Tr.wrong l layer=(0,0)):=aL (by rw[HW.out,oF];rfl)
  obtain⟨j,q,Q,D⟩:=hq.two;go_wp2_with fail;refine aD (v:= .agg #[(0:Int),(0:Int)]) ?_ rfl ⟨b_ HZ.out rfl,?_⟩
  ·simp[results,results71,go_sem,j,q]
  exact(hB.setCell (by simp) _).setCell (by simp) _
theorem oM(A:Option Addr)(c:Nat)(l:List En)(w:World)(hl:aC w w A l)(hc:l.length<=c)(hs:Sm l)(hn:l.length<=2305843009213693952):Calls prog 84 #[.slice A l.length c] w λe w'=>e= .returned (.agg #[.int .i64 (Tr.wrong l false).1,.int .i64 (Tr.wrong l false).2])/\Below w w w':=by
 have a:Below w w (w.alloc (.cells #[(0:Int),(0:Int)] 51)):=(aa _ _).alloc aR _;have g:=ai.new w 51 [(0:Int),(0:Int)];have k:=λW h=>check_any A c l false W h hc hs hn
 obtain⟨m,b⟩:∃m,m=Tr.wrong l false:=⟨_,rfl⟩;rw[<-b]at k ⊢;obtain⟨x,y⟩:=m;dsimp only at k ⊢;go_enter func84,ntmps84;go_wp2_with fail;generalize w.alloc (.cells #[(0:Int),(0:Int)] 51)=o at*;refine(k o ((hl.below a).more a.size)).mono ?_
 rintro e p ⟨rfl,n⟩;have j:=a.trans (n.mono a.size);have i:=g.below n g.lt;have q:=i.two;go_wp2_with fail;refine aD (v:= .agg #[x,y]) ?_ rfl ⟨rfl,?_⟩
 ·simp[results,results84,go_sem,q]
 exact(j.setCell (by simp) _).setCell (by simp) _
theorem yO(A:Option Addr)(c:Nat)(l:List En)(w:World)(hl:aC w w A l)(hc:l.length<=c)(hs:Sm l)(hn:l.length<=2305843009213693952):Calls prog 37 #[.slice A l.length c] w λe w'=>e= .returned (.agg #[.int .i64 (Tr.wrong l true).1,.int .i64 (Tr.wrong l true).2])/\Below w w w':=by
 have a:Below w w (w.alloc (.cells #[(0:Int),(0:Int)] 51)):=(aa _ _).alloc aR _;have g:=ai.new w 51 [(0:Int),(0:Int)];have k:=λW h=>check_any A c l true W h hc hs hn
 obtain⟨m,b⟩:∃m,m=Tr.wrong l true:=⟨_,rfl⟩;rw[<-b]at k ⊢;obtain⟨x,y⟩:=m;dsimp only at k ⊢;go_enter func37,ntmps37;go_wp2_with fail;generalize w.alloc (.cells #[(0:Int),(0:Int)] 51)=o at*;refine(k o ((hl.below a).more a.size)).mono ?_
 rintro e p ⟨rfl,n⟩;have j:=a.trans (n.mono a.size);have i:=g.below n g.lt;have q:=i.two;go_wp2_with fail;refine aD (v:= .agg #[x,y]) ?_ rfl ⟨rfl,?_⟩
 ·simp[results,results37,go_sem,q]
 exact(j.setCell (by simp) _).setCell (by simp) _
def strLen:Value->Nat
 | .string s=>s.size
 |_=>0
theorem yP{l:List En}{p:Pt.Bs}{r:Option En}(h:r=Tr.get l p):Tr.hides l p=((r.isSome&&(r.getD En.zero).k !=2)||Tr.bP l (Pt.ah p)):=by
 unfold Tr.hides Tr.own;rw[<-h];cases r<;>rfl
theorem pX{l:List En}{q:Pt.Bs}{r:Option En}(hq:¬q=[])(h:r=Tr.get l q):Tr.bP l q=((r.isSome&&((r.getD En.zero).k !=2||(r.getD En.zero).o))||Tr.bP l (Pt.ah q)):=by
 rw[Tr.dC l hq];unfold Tr.bad;rw[<-h];cases r<;>rfl
theorem Cm(A:Option Addr)(c:Nat)(l:List En)(p:ByteArray)(w:World)(hl:aC w w.heap.size A l)(hs:Sm l)(hsrt:Tr.Srt l)(hp:p.size<4294967281)(hn:l.length<=2305843009213693952):Calls prog 41 #[.slice A l.length c,p] w λe w'=>e= .returned (.bool (Tr.hides l p.data.toList))/\Below w.heap.size w w':=by
 have HS:=aL hs;have HT:=aL hsrt;clear hs hsrt;go_enter func41,ntmps41;go_wp2
 go_loopw [5] (λv wr=>∃q:ByteArray,v= .string q/\(q=p\/(q.size<p.size/\Hid (Tr.hides l p.data.toList=Tr.bP l q.data.toList)))/\Below w.heap.size w wr) (λv _=>strLen v)
 case atStart=>exact⟨p,rfl,.inl rfl,aa _ _⟩
 case round=>
  obtain⟨q,rfl,o,K⟩:=hrel;have O:q.size<4294967281:=by
                     rcases o with h|h;·rw[h];exact hp
                     ·omega
  rcases aG q with⟨I,g1,Z⟩|⟨I,g1,Z⟩
  ·have Y:Hid (Tr.hides l p.data.toList=false):=by
    rcases o with h|⟨_,h⟩
    ·subst h;exact aL (by rw[I];exact Tr.BG l)
    exact aL (by rw[h.out,I];exact Tr.oG l)
   clear I;go_wp2;go_ret;exact⟨aU Y.out.symm,K⟩
  have L:=aL I;clear I;go_wp2_with fail;refine(get_any A c l q wr ((hl.below K).more K.size) HS.out O hn).mono ?_
  rintro e w1 ⟨r,rfl,U,Q⟩;have a:=K.trans (Q.mono K.size);have y:=aL (U.2 (.inl HT.out));clear U Q K
  rcases o with h|⟨W,V⟩
  ·subst h
   have n:=aL (yP y.out);clear y;generalize r.getD En.zero=d at n;generalize r.isSome=ok at n;have y:=n;obtain⟨G,z,H,x⟩:=d;simp only[En.agg,En.cells];dsimp only at n
   cases ok
   ·go_wp2_with fail
    refine(jC q _ (by omega)).mono ?_
    rintro e M ⟨rfl,t⟩;have m:=(a.alloc a.size (.cells #[G,z,H,x] 45)).trans (t.below (B:=w.heap.size));clear t;obtain⟨b,i⟩:∃b:ByteArray,b=⟨(Pt.ah q.data.toList).toArray⟩:=⟨_,rfl⟩;have g:b.data.toList=Pt.ah q.data.toList:=by rw[i]
    have k:Pt.str (Pt.ah q.data.toList)= .string b:=by rw[i];rfl
    obtain⟨u,j⟩:∃u,Pt.str (Pt.nameOf q.data.toList)= .string u:=⟨_,rfl⟩;rw[k,j];have D:b.size<q.size:=by have:=Tr.aI L.out;rw[<-g,af,af]at this;exact this
    have E:Hid (Tr.hides l q.data.toList=Tr.bP l b.data.toList):=aL (by rw[n.out,Gb,rz,g])
    clear i g k j y;go_wp2;go_roundw
    case rel=>exact⟨b,rfl,.inr ⟨by omega,E⟩,m⟩
    case measure=>simp[strLen];omega
   rcases F:(z !=2)with _|_
   ·cases x
    focus
     go_wp2_with fail;refine(jC q _ (by omega)).mono ?_
     rintro e M ⟨rfl,t⟩;have m:=(a.alloc a.size (.cells #[G,z,H,false] 45)).trans (t.below (B:=w.heap.size))
    rotate_left
    focus
     go_wp2_with fail;refine(jC q _ (by omega)).mono ?_
     rintro e M ⟨rfl,t⟩;have m:=(a.alloc a.size (.cells #[G,z,H,true] 45)).trans (t.below (B:=w.heap.size))
    all_goals
     clear t;obtain⟨b,i⟩:∃b:ByteArray,b=⟨(Pt.ah q.data.toList).toArray⟩:=⟨_,rfl⟩;have g:b.data.toList=Pt.ah q.data.toList:=by rw[i]
     have k:Pt.str (Pt.ah q.data.toList)= .string b:=by rw[i];rfl
     obtain⟨u,j⟩:∃u,Pt.str (Pt.nameOf q.data.toList)= .string u:=⟨_,rfl⟩;rw[k,j];have D:b.size<q.size:=by have:=Tr.aI L.out;rw[<-g,af,af]at this;exact this
     have E:Hid (Tr.hides l q.data.toList=Tr.bP l b.data.toList):=aL (by rw[n.out,F,Cv,rz,g])
     clear i g k j y;go_wp2;go_roundw
     case rel=>exact⟨b,rfl,.inr ⟨by omega,E⟩,m⟩
     case measure=>simp[strLen];omega
   go_wp2;go_ret;exact⟨aU (by rw[n.out,F,Cr,vo]),a.alloc a.size _⟩
  have n:=aL (V.out.trans (pX L.out y.out));clear y V;generalize r.getD En.zero=d at n;generalize r.isSome=ok at n;have y:=n;obtain⟨G,z,H,x⟩:=d;simp only[En.agg,En.cells];dsimp only at n;have N:¬q.toList=p.toList:=λe=>by
   have:=om List.length e;rw[kg,kg,af,af]at this;omega
  have S:(q.toList==p.toList)=false:=by rw[fq];exact N
  cases ok
  ·go_wp2_with fail
   refine(jC q _ (by omega)).mono ?_
   rintro e M ⟨rfl,t⟩;have m:=(a.alloc a.size (.cells #[G,z,H,x] 45)).trans (t.below (B:=w.heap.size));clear t;obtain⟨b,i⟩:∃b:ByteArray,b=⟨(Pt.ah q.data.toList).toArray⟩:=⟨_,rfl⟩;have g:b.data.toList=Pt.ah q.data.toList:=by rw[i]
   have k:Pt.str (Pt.ah q.data.toList)= .string b:=by rw[i];rfl
   obtain⟨u,j⟩:∃u,Pt.str (Pt.nameOf q.data.toList)= .string u:=⟨_,rfl⟩;rw[k,j];have D:b.size<q.size:=by have:=Tr.aI L.out;rw[<-g,af,af]at this;exact this
   have E:Hid (Tr.hides l p.data.toList=Tr.bP l b.data.toList):=aL (by rw[n.out,Gb,rz,g])
   clear i g k j y;go_wp2;go_roundw
   case rel=>exact⟨b,rfl,.inr ⟨by omega,E⟩,m⟩
   case measure=>simp[strLen];omega
  rcases F:(z !=2)with _|_
  ·cases x
   ·go_wp2_with fail
    refine(jC q _ (by omega)).mono ?_
    rintro e M ⟨rfl,t⟩;have m:=(a.alloc a.size (.cells #[G,z,H,false] 45)).trans (t.below (B:=w.heap.size));clear t;obtain⟨b,i⟩:∃b:ByteArray,b=⟨(Pt.ah q.data.toList).toArray⟩:=⟨_,rfl⟩;have g:b.data.toList=Pt.ah q.data.toList:=by rw[i]
    have k:Pt.str (Pt.ah q.data.toList)= .string b:=by rw[i];rfl
    obtain⟨u,j⟩:∃u,Pt.str (Pt.nameOf q.data.toList)= .string u:=⟨_,rfl⟩;rw[k,j];have D:b.size<q.size:=by have:=Tr.aI L.out;rw[<-g,af,af]at this;exact this
    have E:Hid (Tr.hides l p.data.toList=Tr.bP l b.data.toList):=aL (by rw[n.out,F,Bool.or_false,Cv,rz,g])
    clear i g k j y;go_wp2;go_roundw
    case rel=>exact⟨b,rfl,.inr ⟨by omega,E⟩,m⟩
    case measure=>simp[strLen];omega
   go_wp2;go_ret;exact⟨aU (by rw[n.out,F,rz,Cr,vo]),a.alloc a.size _⟩
  go_wp2;go_ret;exact⟨aU (by rw[n.out,F,vo,Cr,vo]),a.alloc a.size _⟩
theorem CB(fv:Value)(w:World):Calls prog 95 #[(),fv] w λe w'=>e= .returned (.tuple #[])/\w'=w:=by
 have c:=λa W=>AnyF.pdqsortCmpFunc_none (P:=prog) (ρ:=pdqEn_ren) pdqEn none 0 a fv W
 have b:∀W,Calls prog 122 #[.int .u64 0] W λe w'=>e= .returned (.int .i64 (Lib.bitLen 0:Nat))/\w'=W:=λW=>by
  have h:=Any.bits_Len (SlLaysF0.n15.bits (P:=prog) (ρ:=lenEn_ren) lenEn) 0 W (by omega) (by omega)
  exact h
 generalize Lib.bitLen 0=L at b;go_enter func95,ntmps95
 go_wp2_with (first|(go_at_call 122;refine(b _).mono ?_;rintro e w' ⟨rfl,rfl⟩)|(go_at_call 121;refine(c _ _).mono ?_;rintro e w' ⟨rfl,rfl⟩))
 go_end0
 exact⟨rfl,rfl⟩
theorem QG{l t:List En}{k:Nat}(hk:k<t.length)(h1:Tr.get l t[k].P=none)(h2:Tr.hides l t[k].P=false):Tr.keep l (t.take (k+1))=Tr.keep l (t.take k)++[t[k]]:=by
 rw[aF hk];unfold Tr.keep;rw[j3];simp[h1,h2]
theorem UA{l t:List En}{k:Nat}(hk:k<t.length)(h:(Tr.get l t[k].P).isSome=true\/Tr.hides l t[k].P=true):Tr.keep l (t.take (k+1))=Tr.keep l (t.take k):=by
 rw[aF hk];unfold Tr.keep;rw[j3];have:((Tr.get l t[k].P).isNone&& !Tr.hides l t[k].P)=false:=by
  rcases h with h|h
  ·rw[Option.isNone_eq_false_iff.2 h];rfl
  rw[h];simp
 simp[this]
theorem CE{l:List En}{k:Nat}(hk:k<l.length)(h:(l[k].k !=4)=true):Tr.shown (l.take (k+1))=Tr.shown (l.take k)++[l[k].clear]:=by
 rw[aF hk];unfold Tr.shown;rw[j3];simp[h]
theorem F6{l:List En}{k:Nat}(hk:k<l.length)(h:(l[k].k !=4)=false):Tr.shown (l.take (k+1))=Tr.shown (l.take k):=by
 rw[aF hk];unfold Tr.shown;rw[j3];simp[h]
theorem QH{l t:List En}(hl:Tr.Right true l)(ht:Tr.Right false t):(Tr.keep l t++Tr.shown l).length=(Tr.aJ l t).length:=by
 have i:=List.mergeSort_perm (Tr.keep l t++Tr.shown l) λa b=> !decide (Pt.cmp b.P a.P<0)
 have m:=List.pairwise_mergeSort (le:=λa b:En=> !decide (Pt.cmp b.P a.P<0)) (by
  intro a b c j k;rw[q9,nk]at*;intro g
  by_cases e:b.P=c.P
  ·rw[<-e]at g;exact j g
  ·exact j (Pt.jR (Tr.yc k (Fy e)) g)) (by
  intro a b;rw[Cq,q9,q9,nk,nk]
  by_cases h:Pt.cmp b.P a.P<0
  ·exact .inr (Tr.lt_asymm h)
  exact .inl h) (Tr.keep l t++Tr.shown l)
 have e:=Tr.wG hl ht i (Hd (λ{a b} h=>by rw[q9,nk]at h;exact h) m)
 rw[<-e,i.length_eq]
theorem jE{l t m:List En}{e:Int}{v:Value}(h:Tr.over l t=(m,e)):Ending.returned (.tuple #[v,e])= .returned (.tuple #[v,.int .i64 (Tr.over l t).2]):=by rw[h]
def qX(l t:List En)(w:World)(e:Ending)(w':World):Prop:=
 ∃v,e= .returned (.tuple #[v,.int .i64 (Tr.over l t).2])/\ag w' w v (Tr.over l t).1/\Below w w w'
theorem QI(A B:Option Addr)(c d:Nat)(l t:List En)(w:World)(hl:aC w w A l)(ht:aC w w B t)(hc:l.length<=c)(hd:t.length<=d)(hs:Sm l)(hst:Sm t)(hn:l.length<=2305843009213693952)(hnt:t.length<=2305843009213693952):Calls prog 69 #[.slice A l.length c,.slice B t.length d] w (qX l t w):=by
 obtain⟨i0,hi,hz0,hz1,hz2⟩:=lw jD;have c1:=λW h=>yO A c l W h hc hs hn
 have c2:=λW h=>oM B d t W h hd hst hnt
 obtain⟨pl,hpl⟩:∃pr,pr=Tr.wrong l true:=⟨_,rfl⟩;obtain⟨pt,hpt⟩:∃pr,pr=Tr.wrong t false:=⟨_,rfl⟩;rw[<-hpl]at c1;rw[<-hpt]at c2;have HL:=aL hpl.symm;have HT:=aL hpt.symm;have HS:=aL hs;have Fb:=aL hst;obtain⟨x,x'⟩:=pl;obtain⟨y,y'⟩:=pt;dsimp only at c1 c2;have n:=aa w w;unfold qX;go_enter func69,ntmps69;go_wp2_with fail;refine(c1 w hl).mono ?_
 rintro e w1 ⟨rfl,hb⟩;have hB1:=n.trans (hb.mono n.size);have H:=hB1.alloc hB1.size (.cells #[x,x'] 51);have hq2:=ai.new w1 51 [x,x']
 rcases tx:(x !=0)with _|_
 rotate_left
 ·have HO:Hid (Tr.over l t=([],x)):=aL (by unfold Tr.over;rw[HL.out,aM (by simpa using tx)])
  go_wp2_with fail;generalize w1.alloc (.cells #[x,x'] 51)=w2 at*;generalize w1.heap.size=g1 at*;have Z:=hq2.two
  go_quiet (fail)
  go_wp2;go_ret2;exact⟨_,jE HO.out,by rw[HO.out];exact ag.nil _ _,below_drewN H _⟩
 have U:Hid ((Tr.wrong l true).1=0):=aL (by rw[HL.out];simpa using tx)
 go_wp2_with fail;generalize w1.alloc (.cells #[x,x'] 51)=w2 at*;refine(c2 w2 (((ht).below H).more H.size)).mono ?_
 rintro e w3 ⟨rfl,hb⟩;have hB3:=H.trans (hb.mono H.size);have hB4:=hB3.alloc hB3.size (.cells #[y,y'] 51);have hq4:=ai.new w3 51 [y,y']
 rcases ty:(y !=0)with _|_
 rotate_left
 ·have HO:Hid (Tr.over l t=([],y)):=aL (by unfold Tr.over;rw[av (by simp[U.out]),HT.out,aM (by simpa using ty)])
  go_wp2_with fail;generalize w3.alloc (.cells #[y,y'] 51)=w4 at*;generalize w3.heap.size=g3 at*;have Z:=hq4.two
  go_quiet (fail)
  go_wp2;go_ret2;exact⟨_,jE HO.out,by rw[HO.out];exact ag.nil _ _,below_drewN hB4 _⟩
 have HT0:Hid ((Tr.wrong t false).1=0):=aL (by rw[HT.out];simpa using ty)
 have xA:=((Tr.az l true).1 U.out).1;have abP:=((Tr.az t false).1 HT0.out).1;have RL:=aL ((Tr.az l true).1 U.out).2;have RT:=aL ((Tr.az t false).1 HT0.out).2;go_wp2_with fail;generalize w3.alloc (.cells #[y,y'] 51)=w4 at*
 go_loopw [8,31] (λv i wr=>∃k:Nat,k<=t.length/\i= .int .i64 k/\ag wr w v (Tr.keep l (t.take k))/\Below w w wr) (λ_ i _=>t.length- (intOf i).toNat)
 case atStart=>exact⟨0,bL _,rfl,ag.nil _ _,hB4⟩
 case round=>
  obtain⟨k,hk,rfl,a,n⟩:=hrel
  by_cases r:k<t.length
  ·obtain⟨b,o,rfl,hb,h0,K,h2,h3⟩:=(aC.at_ (ht.below n) r)
   have KY:=aL (QG (l:=l) r);have KN:=aL (UA (l:=l) r);have hle:(Tr.keep l (t.take k)).length<=k:=by
    have K:=ko (λe=>(Tr.get l e.P).isNone&& !Tr.hides l e.P) (t.take k)
    rw[bR]at K;exact eT K (by omega)
   have hne:=aL (Tr.bu RT.out (cz r));have Y:=(Fb.out.at_ r).1
   generalize t[k]=z at h0 K h2 h3 KY KN hne Y;obtain⟨u,D,E,Q⟩:=z;dsimp only at h0 K h2 h3 Y;go_wp2_with fail;have V:=ai.new wr 45 [u,D,E,Q];have G:=n.alloc n.size (.cells #[u,D,E,Q] 45);have S:=aH a (.cells #[u,D,E,Q] 45);have hnb:some wr.heap.size≠u8.ownBlock:=own_ne a (.inr aR);generalize wr.alloc (.cells #[u,D,E,Q] 45)=w5 at*;generalize wr.heap.size=gy at*;refine(l_ A c l u w5 (((hl).below G).more G.size) HS.out Y hn).mono ?_
   rintro e w6 ⟨f,b6,rfl,hf,hb6⟩;have I:=G.trans (hb6.mono G.size);have uk:=V.below hb6 V.lt;have nz:=own_below S hb6 aR;have HF:=aL (D9 hf RL.out.2.1 hne.out);have j:=uk.four
   cases b6
   rotate_left
   ·have HN:=aL (KN.out (.inl HF.out.symm))
    go_wp2;go_roundw
    case rel=>exact⟨k+1,by omega,by go_num,by rw[HN.out];exact nz,I⟩
    case measure=>simp[intOf];omega
   have Ea:=aL (Option.not_isSome_iff_eq_none.1 (by rw[HF.out.symm];decide))
   go_wp2_with fail;refine(Cm A c l u w6 (((hl).below I).more I.size) HS.out RL.out.2.1 Y hn).mono ?_
   rintro e w7 ⟨rfl,hb7⟩;have jV:=I.trans (hb7.mono I.size);have QJ:=uk.below hb7 uk.lt;have pG:=own_below nz hb7 aR;have j:=QJ.four
   rcases th:Tr.hides l u with _|_
   rotate_left
   ·have HN:=aL (KN.out (.inr th))
    go_wp2;go_roundw
    case rel=>exact⟨k+1,by omega,by go_num,by rw[HN.out];exact pG,jV⟩
    case measure=>simp[intOf];omega
   have HN:=aL (KY.out Ea.out th)
   go_wp2_with (at_builtin;go_must (refine ax w7 rfl _ _ _ rfl w 45 i0 _ 4 48 underlying30 hi hz0 hz1 hz2 rfl (by decide) u8 _ _ rfl pG [u,D,E,Q] rfl rfl (by simp[Value.oneCell']) (by omega) (by decide) jV.size _ rfl ?_);intro v9 w9 M O _)
   go_roundw
   case rel=>exact⟨k+1,by omega,by go_num,ag.snoc (y:=⟨u,D,E,Q⟩) M HN.out,jV.grown O jV.size (λq e'=>(gH pG q e').1)⟩
   case measure=>simp[intOf];omega
  obtain rfl:k=t.length:=by omega
  rw[gN]at a;have hle0:(Tr.keep l t).length<=t.length:=ko _ _;go_wp2
  go_loopw [8,58] (λv i wr=>∃k:Nat,k<=l.length/\i= .int .i64 k/\ag wr w v (Tr.keep l t++Tr.shown (l.take k))/\Below w w wr) (λ_ i _=>l.length- (intOf i).toNat)
  case atStart=>exact⟨0,bL _,rfl,by rw[F4,show Tr.shown []=[]from rfl,ky];exact a,n⟩
  case round=>
   obtain⟨k,hk,rfl,a,n⟩:=hrel
   by_cases r:k<l.length
   ·obtain⟨b,o,rfl,hb,h0,K,h2,h3⟩:=(aC.at_ (hl.below n) r)
    have KY:=aL (CE r);have KN:=aL (F6 r);have hle:(Tr.keep l t++Tr.shown (l.take k)).length<=t.length+k:=by
     have K:=ko (λe:En=>e.k !=4) (l.take k)
     rw[bR]at K;rw[bq];have h2:(Tr.shown (l.take k)).length<=k:=by unfold Tr.shown;rw[ib];exact eT K (by omega)
     omega
    generalize l[k]=z at h0 K h2 h3 KY KN;obtain⟨u,D,E,Q⟩:=z;dsimp only at h0 K h2 h3 KY KN;have V:=ai.new wr 45 [u,D,E,Q];have adq:=ai.new wr 45 [u,D,E,false];have G:=n.alloc n.size (.cells #[u,D,E,Q] 45);have L:=n.alloc n.size (.cells #[u,D,E,false] 45);have S:=aH a (.cells #[u,D,E,Q] 45);have UB:=aH a (.cells #[u,D,E,false] 45)
    rcases tk:(D !=4)with _|_
    ·have HN:=aL (KN.out tk)
     go_wp2;go_roundw
     case rel=>exact⟨k+1,by omega,by go_num,by rw[HN.out];exact S,G⟩
     case measure=>simp[intOf];omega
    have HN:=aL (KY.out tk)
    go_wp2_with (at_builtin;go_must (refine ax (wr.alloc (.cells #[u,D,E,false] 45)) rfl _ _ _ rfl w 45 i0 _ 4 48 underlying30 hi hz0 hz1 hz2 rfl (by decide) u8 _ _ rfl UB [u,D,E,false] (by rw[bX];rfl) rfl (by simp[Value.oneCell']) (by omega) (by decide) L.size _ rfl ?_);intro v9 w9 M O _)
    go_roundw
    case rel=>exact⟨k+1,by omega,by go_num,ag.snoc (y:=⟨u,D,E,false⟩) M (by rw[HN.out,<-List.append_assoc];rfl),L.grown O L.size (λq e'=>(gH UB q e').1)⟩
    case measure=>simp[intOf];omega
   obtain rfl:k=l.length:=by omega
   rw[gN]at a;have N:=aL (QH RL.out RT.out);have HO:Hid (Tr.over l t=if 80<(Tr.aJ l t).length then([],5)else(Tr.aJ l t,0)):=aL (by unfold Tr.over;rw[av (by simp[U.out]),av (by simp[HT0.out])])
   have HP:=aL (λ(m:List En) (hp:m.Perm (Tr.keep l t++Tr.shown l)) h=>Tr.wG RL.out RT.out hp h)
   have lG:Hid (∀e∈Tr.keep l t++Tr.shown l,e.p.size<4294967281):=aL (λe he=>by
    rcases List.mem_append.1 he with h|h
    ·exact(Fb.out e (Tr.kR.1 h).1).1
    obtain⟨x,hx,_,rfl⟩:=Tr.eH.1 h;exact(HS.out x hx).1)
   generalize Tr.aJ l t=res at N HO HP;generalize Tr.keep l t++Tr.shown l=out at*
   by_cases h80:80<out.length
   ·have F:=aL (HO.out.trans (aM (by rw[<-N.out];exact h80)))
    rcases aB a with⟨hv,h0⟩|⟨g,cap,hv,_,_,_⟩
    ·omega
    subst hv;go_wp2;go_ret2;exact⟨_,jE F.out,by rw[F.out];exact ag.nil _ _,n⟩
   have F:=aL (HO.out.trans (av (by rw[<-N.out];exact h80)))
   rcases aB a with⟨hv,h0⟩|⟨g,cap,hv,hbg,_,_⟩
   ·subst hv
    have e0:out=[]:=List.length_eq_zero_iff.1 h0;subst e0;have hr:res=[]:=(HP.out [] (List.Perm.refl _) List.Pairwise.nil).symm;subst hr;go_wp2_with fail;refine(CB _ _).mono ?_
    rintro e w9 ⟨rfl,rfl⟩;go_wp2;go_ret2;exact⟨_,jE F.out,by rw[F.out];exact ag.nil _ _,n⟩
   subst hv;have eg:∀args w,(callFunc 113 args).run prog w= .ok (.enter 113 args) w:=enters_of func113 (by kernel_rfl) rfl
   have cS:=Cj 113 eg (λx y hx hy W=>Oi x y hx hy W) w g cap out wr a lG.out (by omega)
   go_wp2_with fail;refine cS.mono ?_
   rintro e w9 ⟨rfl,m,hp,hsm,oh,O⟩;have hm:=HP.out m hp hsm;subst hm;go_wp2;go_ret2;exact⟨_,jE F.out,by rw[F.out];show ag _ _ _ m;rw[<-hp.length_eq]at oh ⊢;exact oh,n.grown O n.size (λq e'=>by cases e';exact hbg)⟩
theorem yQ(A B:Option Addr)(c d:Nat)(l m:List En)(w:World)(hl:aC w w A l)(hm:aC w w B m)(hbl:l.length<=9223372036854775807)(he:l=m):Calls prog 17 #[.slice A l.length c,.slice B m.length d] w λe w'=>e= .returned (.bool true)/\Below w w w':=by
 subst he;go_enter func17,ntmps17;go_wp2
 go_loopw [13] (λi wr=>∃k:Nat,k<=l.length/\i= .int .i64 k/\Below w w wr) (λi _=>l.length- (intOf i).toNat)
 case atStart=>exact⟨0,bL _,rfl,aa _ _⟩
 case round=>
  obtain⟨k,I,rfl,a⟩:=hrel
  by_cases b:k<l.length
  ·obtain⟨G,Q,rfl,hbl,j⟩:=(aC.at_ (hl.below a) b)
   obtain⟨L,N,rfl,D,n⟩:=(aC.at_ (hm.below a) b)
   obtain⟨q,v,p,z⟩:=j;obtain⟨u,x,t,r⟩:=n;generalize l[k]=y at q v p z u x t r;obtain⟨F,M,K,H⟩:=y;dsimp only at q v p z u x t r;go_wp2_with fail;refine eO (by kernel_rfl) (by kernel_rfl) ?_
   repeat(first|go_big_quiet_step (fail)|quiet_step (fail))
   refine ic ?_
   intro O h;obtain⟨E,g⟩:=h;subst g;have o:=below_drewN a E;go_wp2;go_roundw
   case rel=>exact⟨k+1,b,by go_num,o⟩
   case measure=>simp[intOf];omega
  go_wp2;go_ret;exact⟨rfl,a⟩
def jc(w:World)(B:Nat)(A:Option Addr)(ls:List (List En)):Prop:=
 ∃vs:List Value,Rd w B 1 A ls.length vs/\∀k (h:k<ls.length),∃Ak ck,vs[k]? =some (.slice Ak ls[k].length ck)/\ls[k].length<=ck/\aC w B Ak ls[k]
theorem jc.below{w w':World}{B:Nat}{A:Option Addr}{ls:List (List En)}(h:jc w B A ls)(hb:Below B w w'):jc w' B A ls:=by
 obtain⟨b,i,c⟩:=h;refine⟨b,i.below hb,λk a=> ?_⟩
 obtain⟨j,m,e,l,g⟩:=c k a;exact⟨j,m,e,l,Rd.below g hb⟩
theorem jc.more{w:World}{B B':Nat}{A:Option Addr}{ls:List (List En)}(h:jc w B A ls)(hB:B<=B'):jc w B' A ls:=by
 obtain⟨b,i,c⟩:=h;refine⟨b,i.more hB,λk a=> ?_⟩
 obtain⟨j,m,e,l,g⟩:=c k a;exact⟨j,m,e,l,Rd.more g hB⟩
theorem jc.at_{w:World}{B:Nat}{A:Option Addr}{ls:List (List En)}(h:jc w B A ls){k:Nat}(hk:k<ls.length):∃b o Ak ck,A=some ⟨b,o,none⟩/\b<B/\w.cell? ⟨b,o+k,none⟩=some (.slice Ak ls[k].length ck)/\ls[k].length<=ck/\aC w B Ak ls[k]:=by
 obtain⟨n,i,c⟩:=h;obtain⟨b,o,e,j,l⟩:=i.2 (by omega)
 obtain⟨Ak,ck,m,a,g⟩:=c k hk;exact⟨b,o,Ak,ck,e,j,l k _ m,a,g⟩
def ZX(ls:List (List En)):Prop:=∀l∈ls,Sm l/\l.length<=2305843009213693952
theorem vH:∀{ls:List (List En)} {m:Nat} {e:Int},(Tr.aS (ls.drop m)).2=e->e≠0->Tr.aS ls=([],e)
 |ls,0,e,h,he=>by
  have h:(Tr.aS ls).2=e:=h;have b:=Tr.FD (ls:=ls) (by rw[h];exact he)
  rw[<-h,<-b]
 |[],m+1,e,h,he=>by rw[List.drop_nil]at h;exact absurd h.symm he
 |x::r,m+1,e,h,he=>by
  have a:=vH (ls:=r) (m:=m) h he;rw[Tr.aS,aM (by rw[a];exact he),a]
theorem yR{ls:List (List En)}{m:Nat}(hm:m<ls.length)(h:(Tr.aS (ls.drop (m+1))).2=0):Tr.aS (ls.drop m)=Tr.over ls[m] (Tr.aS (ls.drop (m+1))).1:=by
 rw[kw hm,Tr.wI h]
theorem lS{ls:List (List En)}{m:List En}{e:Int}{v:Value}(h:Tr.merge ls=(m,e)):Ending.returned (.tuple #[v,e])= .returned (.tuple #[v,.int .i64 (Tr.merge ls).2]):=by rw[h]
def gW(ls:List (List En))(w:World)(e:Ending)(w':World):Prop:=
 ∃v,e= .returned (.tuple #[v,.int .i64 (Tr.merge ls).2])/\ag w' w v (Tr.merge ls).1/\Below w w w'
theorem merge_any(A:Option Addr)(c:Nat)(ls:List (List En))(w:World)(hl:jc w w.heap.size A ls)(hs:ZX ls):Calls prog 33 #[.slice A ls.length c] w (gW ls w):=by
 have Z:=aL hs;clear hs;unfold gW
 by_cases S:5<ls.length
 ·have u:Hid (Tr.merge ls=([],5)):=aL (by unfold Tr.merge;rw[aM S])
  go_enter func33,ntmps33;go_wp2;go_ret2;exact⟨_,lS u.out,by rw[u.out];exact ag.nil _ _,aa _ _⟩
 have u:Hid (Tr.merge ls=Tr.aS ls):=aL (by unfold Tr.merge;rw[av S])
 go_enter func33,ntmps33;go_wp2
 go_loopw [4,5] (λv i wr=>∃k:Nat,k<=ls.length/\i= .int .i64 ((k:Int)-1)/\Hid ((Tr.aS (ls.drop k)).2=0)/\ag wr w.heap.size v (Tr.aS (ls.drop k)).1/\Below w.heap.size w wr) (λ_ i _=>(intOf i+1).toNat)
 case atStart=>
  refine⟨ls.length,aR,?_,aL (by rw[oF];rfl),by rw[oF];exact ag.nil _ _,aa _ _⟩
  first|rfl|(congr 1;exact lm _ (by omega))
 case round=>
  obtain⟨k,hk,rfl,H,a,r⟩:=hrel
  cases k with
  |zero=>
   have D:Hid (Tr.merge ls=((Tr.aS ls).1,0)):=aL (by rw[u.out];have:=H.out;rw[xL]at this;rw[<-this])
   rw[xL]at a;go_wp2;go_ret2;exact⟨_,lS D.out,by rw[D.out];exact a,r⟩
  |succ m=>
   have e1:((m+1:Nat):Int)-1=(m:Int):=by omega
   rw[e1];have q:m<ls.length:=by omega
   obtain⟨b,o,Am,V,rfl,hb,O,F,G⟩:=(hl.below r).at_ q
   have j:=aL (yR q H.out);have K:=aL (Tr.tJ H.out);have p:=aL (Z.out _ (cz q));have HE:=aL (λe=>vH (ls:=ls) (m:=m) (e:=e))
   have y:Hid ((Tr.over ls[m] (Tr.aS (ls.drop (m+1))).1).2=0->(Tr.aS (ls.drop m)).2=0):=aL (λh=>by rw[j.out];exact h)
   generalize ls[m]=x at O F G j p y;obtain⟨g,n⟩:∃g,g=(Tr.aS (ls.drop (m+1))).1:=⟨_,rfl⟩;rw[<-n]at a j K y;clear n;obtain⟨A2,W,rfl,M,N⟩:=ag.rd a;have z:=QI Am A2 V W x g wr (Rd.more G r.size) N F M p.out.1 (Tr.bn K.out.2) p.out.2 (by have:=K.out.1;omega)
   unfold qX at z;have Q:Hid (Tr.aS (ls.drop m)=Tr.over x g):=j;clear j;generalize hov:Tr.over x g=ov at z Q y;have Y:=aL hov;clear hov;obtain⟨res,l⟩:=ov;dsimp only at z y;go_wp2_with fail;refine z.mono ?_
   rintro e w1 ⟨v1,rfl,L,E⟩;have t:=r.trans (E.mono r.size);have B:=own_base L r.size;clear E z
   rcases U:(l !=0)with _|_
   ·have I:Hid (l=0):=aL (by simpa using U)
    go_wp2;go_roundw
    case rel=>exact⟨m,by omega,by go_num,aL (y.out I.out),by rw[Q.out];exact B,t⟩
    case measure=>simp[intOf]
   ·have D:Hid (Tr.merge ls=([],l)):=aL (by rw[u.out];exact HE.out l (by rw[Q.out]) (by simpa using U))
    go_wp2;go_ret2;exact⟨_,lS D.out,by rw[D.out];exact ag.nil _ _,t⟩
theorem MJ:(prog.info? 30).map (λi=>(i.zero,i.size,i.bytes))=some (some (.slice none 0 0),1,24):=by kernel_rfl
theorem Addr.add_plain'(b o k:Nat):(⟨b,o,none⟩:Addr).add k=⟨b,o+k,none⟩:=by
 unfold Addr.add
 split
 ·rename_i h;subst h;rfl
 rfl
theorem jc.nil(w:World)(B:Nat)(A:Option Addr):jc w B A []:=⟨[],Rd.nil,λk h=>absurd h (l5 k)⟩
def nS(w:World)(base:Nat)(v:Value)(ls:List (List En)):Prop:=
 ∃vs:List Value,w.ownsRow base 30 1 v ls.length vs/\∀k (h:k<ls.length),∃Ak ck,vs[k]? =some (.slice Ak ls[k].length ck)/\ls[k].length<=ck/\aC w base Ak ls[k]
theorem nS.rd{w:World}{base:Nat}{v:Value}{ls:List (List En)}(h:nS w base v ls)(hb:base<=w.heap.size):∃A c,v= .slice A ls.length c/\ls.length<=c/\jc w w A ls:=by
 obtain⟨i,j,o⟩:=h;have a:∀A,Rd w w 1 A ls.length i->jc w w A ls:=λA q=>⟨i,q,λk m=>by
  obtain⟨t,x,n,l,p⟩:=o k m;exact⟨t,x,n,l,Rd.more p hb⟩⟩
 rcases aB j with⟨rfl,r⟩|⟨g,b,rfl,_,_,u⟩
 ·have e:ls=[]:=List.length_eq_zero_iff.1 r
  subst e;exact⟨none,0,rfl,aR,jc.nil _ _ _⟩
 exact⟨some ⟨g,0,none⟩,b,rfl,u,a _ (Rd.iK j)⟩
section
variable {P:Program} (w:World)
theorem pY(base:Nat)(t ty e:TypeId)(i:TypeInfo)(z:Value)(size bytes:Nat)(ht:P.underlying t=some (.slice e))(hi:P.info? e=some i)(hz:i.zero=some z)(hsize:i.size=size)(hby:i.bytes=bytes)(hzs:z.cells.size=size)(hsz:0<size)(v:Value)(n:Nat)(xs:List Value)(hown:w.ownsRow base e size v n xs)(A:Option Addr)(m c:Nat)(news:List Value){B:Nat}(hr:Rd w B size A m news)(hA:A=none->c=0)(h1:∀u∈news,u.oneCell'=true)(h63:n+m<=maxLen)(hbytes:(n+m)*bytes<=140737488355328)(hbase:base<=w.heap.size):∃v' w',(Builtin.append_ #[t,t] ty #[v,.slice A m c]).run P w= .ok v' w'/\w'.ownsRow base e size v' (n+m) (xs++news)/\w.grownBy w' v.ownBlock/\(v'.ownBlock=v.ownBlock\/v'.ownBlock=some w.heap.size):=by
 rcases A with _|D
 ·have a:m=0:=by
   rcases nA m with h|h
   ·exact h
   obtain⟨b,o,k,_⟩:=hr.2 h;cases k
  subst a;obtain rfl:=hA rfl;have y:news=[]:=List.length_eq_zero_iff.1 (by rw[hr.1];simp)
  subst y;exact⟨v,w,run_append_owned_none (P:=P) (w:=w) base t ty e i size ht hi v n xs hown,by simpa using hown,Ao w _,.inl rfl⟩
 obtain⟨v',w',l,r,p,_,q⟩:=Er (P:=P) w base t ty e i z size bytes ht hi hz hsize hby hzs hsz v n xs hown D m c news hr.1 (λj u g=>by
  have a:0<m:=by
   rcases nA m with h|h
   ·have:news=[]:=List.length_eq_zero_iff.1 (by rw[hr.1,h];simp)
    rw[this]at g;cases g
   exact h
  obtain⟨b,o,k,E,x⟩:=hr.2 a
  cases k
  rw[Addr.add_plain'];exact x j u g) h1 h63 hbytes hbase
 exact⟨v',w',l,r,p,q⟩
end
section
variable {w:World} {o:Oper} {a:Act} {Q:Exit->Act->World->Prop} {base:Nat} {v:Value} {ls ms:List (List En)} {A:Option Addr} {c B:Nat} {ws:List Value}
theorem CG(ty:TypeId)(hown:nS w base v ls)(hr:Rd w B 1 A ms.length ws)(hws:∀k (h:k<ms.length),∃Ak ck,ws[k]? =some (.slice Ak ms[k].length ck)/\ms[k].length<=ck/\aC w base Ak ms[k])(hA:A=none->c=0)(hlen:ls.length+ms.length<=4000000000)(hbase:base<=w.heap.size):∃v' w',(Builtin.append_ #[31,31] ty #[v,.slice A ms.length c]).run prog w= .ok v' w'/\nS w' base v' (ls++ms)/\w.grownBy w' v.ownBlock:=by
 obtain⟨y,F,g,m,n⟩:=lw MJ;obtain⟨j,b,l⟩:=hown;have x:∀u∈ws,u.oneCell'=true:=λu D=>by
  obtain⟨k,i,rfl⟩:=mq D;obtain⟨Ak,ck,a,_,_⟩:=hws k (by have:=hr.1;omega)
  rw[bA i]at a;injection a with a
  rw[a];rfl
 obtain⟨v',w',t,E,r,_⟩:=pY (P:=prog) w base 31 ty 30 y _ 1 24 underlying31 F g m n rfl (by decide) v ls.length j b A ms.length c ws hr hA x (by unfold maxLen;omega) (by omega) hbase
 have q:Below base w w':=(aa base w).grown r hbase (λk e=>(b.lt k e).1)
 have z:j.length=ls.length:=by have:=b.1;omega
 refine⟨v',w',t,⟨j++ws,by rw[bq];exact E,λk i=> ?_⟩,r⟩
 rw[bq]at i
 by_cases e:k<ls.length
 ·obtain⟨Ak,ck,a,o,p⟩:=l k e
  rw[nE e];exact⟨Ak,ck,by rw[l6 (by omega)];exact a,o,Rd.below p q⟩
 obtain⟨Ak,ck,a,o,p⟩:=hws (k-ls.length) (by omega)
 rw[nW (by omega)]
 exact⟨Ak,ck,by rw[kr (by omega),z];exact a,o,Rd.below p q⟩
theorem Eb{ops:Array Oper}{rest:List Oper}(W:World)(hgd:o.guard=none)(s x:Operand)(ho:o.op= .call {callee:= .builtin .append,args:=#[s,x],argTypes:=#[31,31]})(hs:a.eval s=v)(hown:nS w base v ls)(m:Nat)(hx:a.eval x= .slice A m c)(hm:m=ms.length)(hr:Rd w B 1 A ms.length ws)(hws:∀k (h:k<ms.length),∃Ak ck,ws[k]? =some (.slice Ak ms[k].length ck)/\ms[k].length<=ck/\aC w base Ak ms[k])(hA:A=none->c=0)(hlen:ls.length+ms.length<=4000000000)(hbase:base<=w.heap.size)(hW:W=w)(h:∀v' w',nS w' base v' (ls++ms)->w.grownBy w' v.ownBlock->wpList prog ops Q rest (a.put o.dst v') w'):wpList prog ops Q (o::rest) a W:=by
 subst hW hm;obtain⟨v',w',b,g,e⟩:=CG (ty:=o.type) hown hr hws hA hlen hbase;exact Lib.wpList_append_run _ hgd s x _ _ ho _ _ hs hx v' w' b (h v' w' g e)
theorem JR{ops:Array Oper}{K:Act->World->Prop}{E:Prop}(W:World)(hgd:o.guard=none)(s x:Operand)(ho:o.op= .call {callee:= .builtin .append,args:=#[s,x],argTypes:=#[31,31]})(hs:a.eval s=v)(hown:nS w base v ls)(m:Nat)(hx:a.eval x= .slice A m c)(hm:m=ms.length)(hr:Rd w B 1 A ms.length ws)(hws:∀k (h:k<ms.length),∃Ak ck,ws[k]? =some (.slice Ak ms[k].length ck)/\ms[k].length<=ck/\aC w base Ak ms[k])(hA:A=none->c=0)(hlen:ls.length+ms.length<=4000000000)(hbase:base<=w.heap.size)(hW:W=w)(h:∀v' w',nS w' base v' (ls++ms)->w.grownBy w' v.ownBlock->K (a.put o.dst v') w'):if Region.wanted o (yielded ops a.tmps)=true then Oper.wp prog o a W K Q else E:=by
 have b:Region.wanted o (yielded ops a.tmps)=true:=by simp[Region.wanted,hgd]
 rw[aM b];subst hW hm;obtain⟨v',w',e,i,g⟩:=CG (ty:=o.type) hown hr hws hA hlen hbase;exact Lib.wp_append_run _ s x _ _ ho _ _ hs hx v' w' e (h v' w' i g)
end
theorem gX(A:Option Addr)(c:Nat)(l:List En)(w:World)(hl:aC w w A l)(hn:l.length<=2000000):Calls prog 30 #[.slice A l.length c] w λe w'=>∃v,e= .returned v/\ag w' w v l/\Below w w w':=by
 obtain⟨D,E,p,r,x⟩:=lw jD;have a:=λW n k=>Lib.run_eql_slice_nil (P:=prog) W 30 45 A n k 0 0 underlying30
 rcases A with _|z
 ·have q:l.length=0:=by
   rcases nA l.length with h|h
   ·exact h
   obtain⟨b,o,e,_⟩:=hl.2 h;cases e
  have m:l=[]:=zb q;subst m;simp only[Option.isNone_none]at a;go_enter func30,ntmps30;go_wp2;go_ret;exact⟨_,rfl,ag.nil _ _,aa _ _⟩
 simp only[Option.isNone_some]at a;have g:∀(j:Nat) (u:Value),(En.flat l)[j]? =some u->(w.alloc (.cells #[] 45)).cell? (z.add j)=some u:=by
  intro j u i;have F:j<(En.flat l).length:=(List.getElem?_eq_some_iff.1 i).1;have hn:0<l.length:=by rw[eU]at F;omega
  obtain⟨b,o,e,I,G⟩:=hl.2 hn
  cases e
  have ha:(⟨b,o,none⟩:Addr).add j=⟨b,o+j,none⟩:=by
   unfold Addr.add
   split
   ·rename_i q;subst q;rfl
   rfl
  rw[ha,dx _ _ _ (by show b<w;omega)]
  exact G j u i
 go_enter func30,ntmps30
 go_wp2_with (first
  |(at_builtin;go_must (refine Cs _ rfl _ _ _ rfl w 45 D _ 4 48 underlying30 E p r x rfl (by decide) (.slice w 0 0) 0 [] rfl (World.ownsRow_lit (e:=45) (size:=4) w #[] 0 aR (by decide) rfl) z l.length c (En.flat l) rfl (by exact hl.1) (by intro j u i;exact g j u i) (by intro u i;exact qU i) (by unfold maxLen;omega) (by omega) (by simp) ?_);intro K H y t _))
 go_ret;refine⟨_,rfl,by simpa[ag]using y,below_grown ((aa _ _).alloc aR _) t (by simp) (λk B=>by simp[Value.ownBlock]at B;omega)⟩
theorem CJ{P:Program}(w:World)(t t2 e e2 ty:TypeId)(ht:P.underlying t=some (.slice e))(ht2:P.underlying t2=some (.slice e2))(A:Option Addr)(n c:Nat)(x:Value):(Builtin.append_ #[t,t2] ty #[.slice A n c,x]).run P w=(Builtin.append_ #[t,t] ty #[.slice A n c,x]).run P w:=by
 simp[Builtin.append_,u7 ht,u7 ht2]
theorem qY{P:Program}(w:World)(dT sT ty elem:TypeId)(g o dLen dCap:Nat)(a:Addr)(sLen sCap:Nat)(cur:Array Value)(t:TypeId)(cs:List Value)(m:Nat)(hu:P.underlying dT=some (.slice elem))(hs:(P.info? elem).map (·.size)=some 4)(hg:w.heap[g]? =some (.cells cur t (0,0)))(hm:m=Nat.min sLen dLen)(hn:cs.length=m*4)(hsrc:∀j v,cs[j]? =some v->w.cell? (a.add j)=some v)(hfit:o+cs.length<=cur.size)(h1:∀v∈cs,v.oneCell'=true):(Builtin.copy_ #[dT,sT] ty #[.slice (some ⟨g,o,none⟩) dLen dCap,.slice (some a) sLen sCap]).run P w=
   .ok (goInt m) (w.setRow g (cur.toList.take o++cs++cur.toList.drop (o+cs.length)).toArray):=by
 have c:=run_loadCells_list (P:=P) w a cs hsrc;have b:=run_storeCells_at P g o t cs 0 cur w hg (by simpa using hfit) h1
 cases hq:P.info? elem with
 |none=>simp[hq]at hs
 |some i=>
  have e:i.size=4:=by simpa[hq]using hs
  simp only[tQ]at b;simp[Builtin.copy_,u7 hu,Builtin.lenOf,Builtin.firstCells,sizeOf,typeInfo,hq,e,<-hm,<-hn,c,b]
def dE(l:List En)(k:Nat)(x:En):List En:=l.take k++x::l.drop k
theorem vI(l:List En)(k:Nat)(x:En)(hk:k<=l.length):(dE l k x).length=l.length+1:=by
 unfold dE;rw[bq,gL,bR,gM];omega
theorem sH(l:List En)(k:Nat)(x:En):En.flat (dE l k x)=(En.flat l).take (k*4)++x.cells++(En.flat l).drop (k*4):=by
 unfold dE;rw[show l.take k++x::l.drop k=l.take k++([x]++l.drop k)from rfl,iE,iE,jU]
 have b:(En.flat l).drop (k*4)=En.flat (l.drop k):=by
  have h:=iE (l.take k) (l.drop k);rw[rR]at h;rw[h,<-jU,List.drop_append,zP (by rw[bR];omega),vv]
  rcases iB l.length k with a|a
  ·rw[zP (nL a)];simp[En.flat]
  rw[bR,eU,qd (by omega),Bb,xL]
 rw[b,tT]
 rfl
theorem QK{l:List En}{x:En}{k:Nat}(hk:k<=l.length)(h1:∀t (h:t<l.length),t<k->Pt.cmp l[t].P x.P<0)(h2:∀t (h:t<l.length),k<=t->0<=Pt.cmp l[t].P x.P)(hno:∀y∈l,y.P≠x.P):Tr.ins x l=dE l k x:=by
 induction l generalizing k with
 |nil=>unfold dE;simp[Tr.ins]
 |cons y r ih=>
  cases k with
  |zero=>
   have:=h2 0 (by simp) aR
   rw[Tr.ins,av (by simpa using this),av (hno y (by simp))]
   rfl
  |succ k=>
   have:=h1 0 (by simp) (by omega)
   rw[Tr.ins,aM (by simpa using this),ih (k:=k) (by simpa using hk) (λt h a=>h1 (t+1) (by simpa using h) (by omega)) (λt h a=>h2 (t+1) (by simpa using h) (by omega)) (λz b=>hno z (by simp[b]))]
   rfl
theorem add4(b o k:Nat):(⟨b,o,none⟩:Addr).add k=⟨b,o+k,none⟩:=by
 unfold Addr.add
 split
 ·rename_i h;subst h;rfl
 rfl
theorem info4:(prog.info? 45).map (·.size)=some 4:=by
 obtain⟨c,b,_,a,_⟩:=lw jD;rw[b];simp[a]
theorem cells_one(x:En):∀v∈x.cells,v.oneCell'=true:=by
 intro v a;simp[En.cells]at a
 rcases a with rfl|rfl|rfl|rfl<;>rfl
theorem jg(x:En):x.cells.length=4:=rfl
theorem F7(base g cap vb:Nat)(l:List En)(x:En)(w:World)(ho:ag w base (.slice g l.length cap) l)(hx:ai w vb 45 x.cells)(hbig:l.length<=1000000)(hbase:base<=w.heap.size):Calls prog 86 #[.slice g l.length cap,l.length,.slice vb 1 1] w λe w'=>∃v,e= .returned v/\ag w' base v (dE l l.length x)/\w.grownBy w' (some g)/\(v.ownBlock=some g\/v.ownBlock=some w.heap.size):=by
 obtain⟨r,z,n,o,i⟩:=lw jD;obtain⟨k,w',a,b,m,_,c⟩:=Er (P:=prog) w base 30 30 45 r _ 4 48 underlying30 z n o i rfl (by decide) _ _ _ ho ⟨vb,0,none⟩ 1 1 x.cells rfl (λj u y=>by rw[add4,mE];exact(hx.cell j).trans y) (cells_one x) (by unfold maxLen;omega) (by omega) hbase
 rw[<-CJ w 30 29 45 45 _ underlying30 underlying29]at a;have q:l.length<=cap:=by
  rcases aB ho with⟨h,_⟩|⟨_,_,h,_,_,A⟩
  ·cases h
  injection h with _ _ h;rw[h];exact A
 have D:Hid (ag w' base k (dE l l.length x)):=aL (by
  unfold ag;rw[vI l _ x aR,sH];have t:(En.flat l).take (l.length*4)=En.flat l:=by rw[fI];rw[eU];exact aR
  have B:(En.flat l).drop (l.length*4)=[]:=by rw[zP];rw[eU];exact aR
  rw[t,B,ky];exact b)
 have p:Hid (k.ownBlock=some g\/k.ownBlock=some w.heap.size):=aL c;go_enter func86,ntmps86
 go_wp2_with (at_builtin;refine Lib.wpList_append_run _ rfl _ _ _ _ rfl _ _ rfl rfl _ _ a ?_)
 all_goals (go_ret;exact⟨_,rfl,D.out,m,p.out⟩)
theorem Ol{cur xs x:List Value}{n k cap:Nat}(hx:x.length=4)(hs:cur.length=cap*4)(ht:cur.take (n*4)=xs)(hk:k<=n)(hn:n+1<=cap):((cur.take ((k+1)*4)++xs.drop (k*4)++cur.drop ((k+1)*4+(xs.drop (k*4)).length)).take (k*4)++x++(cur.take ((k+1)*4)++xs.drop (k*4)++cur.drop ((k+1)*4+(xs.drop (k*4)).length)).drop (k*4+x.length)).take ((n+1)*4)=xs.take (k*4)++x++xs.drop (k*4):=by
 have a:xs.length=n*4:=by rw[<-ht,bR,hs];omega
 have c:(cur.take ((k+1)*4)++xs.drop (k*4)++cur.drop ((k+1)*4+(xs.drop (k*4)).length)).take (k*4)=xs.take (k*4):=by
  rw[tT,sP (by rw[bR,hs];omega),Br,qd (by omega),<-ht,Br,qd (by omega)]
 have b:(cur.take ((k+1)*4)++xs.drop (k*4)++cur.drop ((k+1)*4+(xs.drop (k*4)).length)).drop (k*4+x.length)=xs.drop (k*4)++cur.drop ((k+1)*4+(xs.drop (k*4)).length):=by
  rw[hx,tT,List.drop_append,zP (by rw[bR];omega),vv,bR,hs,qd (by omega),show k*4+4- (k+1)*4=0 by omega,xL]
 rw[c,b,<-List.append_assoc,sP,fI]
 ·rw[bq,bq,bR,gM,hx,a];omega
 rw[bq,bq,bR,gM,hx,a];omega
theorem dW{w:World}{g:Nat}{cs:Array Value}:w.grownBy (w.setRow g cs) (some g):=
 ⟨rfl,rfl,rfl,by simp[World.setRow],λi _ a=>by
  simp only[World.setRow,AC];rw[av (λb=>a (by rw[b]))]⟩
theorem grown_drew{w w':World}{row:Option Nat}(h:w.drew.grownBy w' row):w.grownBy w' row:=⟨h.os,h.tape,h.output,h.size,h.block⟩
theorem AZ(base g cap vb k:Nat)(l:List En)(x:En)(w:World)(ho:ag w base (.slice (some ⟨g,0,none⟩) l.length cap) l)(hx:ai w vb 45 x.cells)(hne:vb≠g)(hk:k<l.length)(hbig:l.length<=1000000)(hroom:l.length+1<=cap):Calls prog 86 #[.slice (some ⟨g,0,none⟩) l.length cap,k,.slice (some ⟨vb,0,none⟩) 1 1] w λe w'=>∃v,e= .returned v/\ag w' base v (dE l k x)/\w.grownBy w' (some g)/\(v.ownBlock=some g\/v.ownBlock=some w.heap.size):=by
 obtain⟨D,h1|⟨g',c',b,hv,V,H,W,E,t,q⟩⟩:=ho
 ·cases h1.1
 injection hv with i hv2 S
 injection i with i
 injection i with i
 subst i S;obtain⟨n,Z⟩:∃n,n=l.length:=⟨_,rfl⟩;rw[<-Z]at hk hbig hroom W D q ⊢;have r:(En.flat l).length=n*4:=D;have hc63:cap<=9223372036854775807:=by unfold maxLen at E;exact E
 have a:b.toList.length=cap*4:=by simpa using t
 obtain⟨c,A⟩:∃c:List Value,c=b.toList.take ((k+1)*4)++(En.flat l).drop (k*4)++b.toList.drop ((k+1)*4+((En.flat l).drop (k*4)).length):=⟨_,rfl⟩;obtain⟨G,y⟩:∃G:List Value,G=c.take (k*4)++x.cells++c.drop (k*4+x.cells.length):=⟨_,rfl⟩;have z:((En.flat l).drop (k*4)).length=(n-k)*4:=by rw[gM,r];omega
 have p:c.length=cap*4:=by rw[A];simp only[bq,bR,gM,r,a];omega
 have o:=Ol (x:=x.cells) (jg x) a q (nL hk) hroom;rw[<-A,<-y]at o;have B:G.length=cap*4:=by rw[y,bq,bq,bR,gM,p,jg];omega
 have m:∀j u,(En.flat l)[j]? =some u->w.cell? ⟨g,j,none⟩=some u:=λj u N=>by
  rw[cell_of_row w g j b _ _ H];rw[<-q,Ck]at N
  split at N
  ·simpa using N
  cases N
 have K:∀ty F sc,(Builtin.copy_ #[30,30] ty #[.slice (some ⟨g,(k+1)*4,none⟩) (n-k) F,.slice (some ⟨g,k*4,none⟩) (n+1-k) sc]).run prog w.drew= .ok (goInt (n-k:Nat)) (w.drew.setRow g c.toArray):=λty F sc=>by
  rw[A]
  exact qY w.drew _ _ ty 45 g ((k+1)*4) (n-k) F ⟨g,k*4,none⟩ (n+1-k) sc b _ ((En.flat l).drop (k*4)) (n-k) underlying30 info4 H (by simp only[Nat.min_def];split<;>omega) z
   (λj v O=>by rw[add4];rw[Cn]at O;exact m _ v O) (by rw[z,t];omega) (λv hv=>qU (List.mem_of_mem_drop hv))
 have I:∀ty F,(Builtin.copy_ #[30,29] ty #[.slice (some ⟨g,k*4,none⟩) (n+1-k) F,.slice (some ⟨vb,0,none⟩) 1 1]).run prog (w.drew.setRow g c.toArray)= .ok (goInt (1:Nat)) ((w.drew.setRow g c.toArray).setRow g G.toArray):=λty F=>by
  have h:=qY (P:=prog) (w.drew.setRow g c.toArray) 30 29 ty 45 g (k*4) (n+1-k) F ⟨vb,0,none⟩ 1 1 c.toArray _ x.cells 1 underlying30 info4 (FE w.drew g b _ _ _ H) (by simp only[Nat.min_def];split<;>omega) rfl
   (λj v O=>by
    rw[add4,mE];have hb:=(dW (w:=w.drew) (g:=g) (cs:=c.toArray)).block vb hx.lt (λe=>hne (by injection e))
    exact(lc hb).trans ((hx.cell j).trans O)) (by rw[jg];simp[p];omega) (cells_one x)
  rw[h,y]
 have L:w.shape? vb=some (45,4):=by unfold World.shape?;unfold ai at hx;rw[hx];rfl
 have M:w.shape? g=some (45,cap*4):=by unfold World.shape?;rw[H];simp[t]
 have Q:∀Y U,(callFunc 118 #[.slice (some ⟨vb,0,none⟩) 1 1,.slice (some ⟨g,(k+1)*4,none⟩) Y U]).run prog w= .ok (.value (.bool false)) w:=λY U=>by
  rw[run_callFunc_extern func118 (by kernel_rfl) (by kernel_rfl) (by kernel_rfl) (e:=Extern.SlicesOverlaps.overlaps #[29,29] #[4]) (by kernel_rfl),
   Lib.run_overlaps_apart w 29 4 45 underlying29 4 (λw=>by kernel_rfl) ⟨vb,0,none⟩ ⟨g,(k+1)*4,none⟩ 1 1 Y U hne _ _ 4 (cap*4) L M (by omega) (hx.frozen _) (hx.frozen _)]
  rfl
 have Xe:prog.follows .mixedOrders=true:=by kernel_rfl
 have HF:Hid (ag ((w.drew.setRow g c.toArray).setRow g G.toArray) base (.slice (some ⟨g,0,none⟩) (n+1) cap) (dE l k x)):=aL (by
  unfold ag;rw[vI l k x (by omega),sH,<-Z]
  refine⟨by rw[bq,bq,bR,z,r,jg];omega,.inr ⟨g,cap,G.toArray,rfl,V,?_,hroom,E,by simpa using B,by simpa using o⟩⟩
  exact FE _ g _ _ _ _ (FE w.drew g b _ _ _ H))
 have HG:Hid (w.grownBy ((w.drew.setRow g c.toArray).setRow g G.toArray) (some g)):=aL (grown_drew (bG dW dW));have hz2:¬((k:Int)=(n:Int)):=by omega
 have hw1:IntKind.i64.wrap ((k:Int)+1)=(k:Int)+1:=lm _ (by omega)
 have hb1:(0:Int)<=(k:Int)+1:=by omega
 have hin:k<=n:=by omega
 have htn:((k:Int)+1).toNat=k+1:=by omega
 have hb2:¬(cap=k+1):=by omega
 have hb3:(k:Int)<=(n:Int)+1:=by omega
 have hb4:¬(cap=k):=by omega
 clear H q t A y a z p B o m hx L M D r Z;go_enter func86,ntmps86
 go_wp2_with (simp only[Q])
 go_region_law_o (refine step_copy_runI rfl _ _ 30 30 rfl _ _ (by simp[Act.eval,Act.put]) (by simp[Act.eval,Act.put]) (K _ _ _) ?_)
 go_wp2_with (at_builtin;refine wpList_copy_runI _ rfl _ _ 30 29 rfl _ _ rfl rfl (I _ _) ?_)
 go_ret;exact⟨_,rfl,HF.out,HG.out,.inl rfl⟩
theorem Om{row xs x:List Value}{n k:Nat}(hx:x.length=4)(hxl:xs.length=n*4)(ht:row.take (k*4)=xs.take (k*4))(hr:(n+1)*4<=row.length)(hk:k<=n):((row.take (k*4)++x++row.drop (k*4+x.length)).take ((k+1)*4)++xs.drop (k*4)++(row.take (k*4)++x++row.drop (k*4+x.length)).drop ((k+1)*4+(xs.drop (k*4)).length)).take ((n+1)*4)=xs.take (k*4)++x++xs.drop (k*4):=by
 have a:(row.take (k*4)++x++row.drop (k*4+x.length)).take ((k+1)*4)=xs.take (k*4)++x:=by
  rw[sP (by rw[bq,bR,hx];omega),fI (by rw[bq,bR,hx];omega),ht]
 rw[a,sP,fI]
 ·simp only[bq,bR,gM,hx,hxl];omega
 simp only[bq,bR,gM,hx,hxl];omega
theorem F8(base g cap vb k:Nat)(l:List En)(x:En)(w:World)(ho:ag w base (.slice (some ⟨g,0,none⟩) l.length cap) l)(hx:ai w vb 45 x.cells)(hk:k<l.length)(hbig:l.length<=1000000)(hroom:cap<l.length+1)(hbase:base<=w.heap.size):Calls prog 86 #[.slice (some ⟨g,0,none⟩) l.length cap,k,.slice (some ⟨vb,0,none⟩) 1 1] w λe w'=>∃v,e= .returned v/\ag w' base v (dE l k x)/\w.grownBy w' (some g)/\(v.ownBlock=some g\/v.ownBlock=some w.heap.size):=by
 have hgz:g<w.heap.size:=(gH ho g rfl).2;have hcc:=λj u hu=>(C8 ho (g:=g) rfl j u hu)
 have t:∀j u,(En.flat l)[j]? =some u->w.cell? ⟨g,j,none⟩=some u:=λj u hu=>by
  have:=hcc j u hu;rw[add4,mE]at this;exact this
 clear hcc;have E:=ho.1;have S:l.length<=cap:=by
  rcases aB ho with⟨h,_⟩|⟨_,_,h,_,_,hc⟩
  ·cases h
  injection h with _ _ h;rw[h];exact hc
 clear ho;obtain⟨i0,hi0,Z,hzs,Y⟩:=lw jD;obtain⟨n,hn⟩:∃n,n=l.length:=⟨_,rfl⟩;rw[<-hn]at hk hbig hroom E S ⊢;have p:(En.flat l).length=n*4:=E;have hvw:vb<w.heap.size:=hx.lt;have hkk:(n:Int)+1- (k:Int)=((n+1-k:Nat):Int):=by omega
 have V:k+(n+1-k)=n+1:=by omega
 have O:(Builtin.firstCells i0.size k (.slice (some ⟨g,0,none⟩) k cap)).run prog w.drew= .ok ((En.flat l).take (k*4)).toArray w.drew:=by
  rw[hzs]
  exact run_firstCells_some w.drew 4 k ⟨g,0,none⟩ k cap ((En.flat l).take (k*4)) (by rw[bR,p];omega) (λj v M=>by
   rw[add4,mE];rw[Ck]at M
   split at M
   ·exact t j v M
   cases M)
 have I:∀ty,(Builtin.append_ #[30,3] ty #[.slice (some ⟨g,0,none⟩) k cap,.int .i64 ((n:Int)+1- (k:Int))]).run prog w=
   .ok (.slice (some ⟨w.heap.size,0,none⟩) (n+1) (grownCap w (n+1) cap 45)) (w.drew.alloc (.cells (((En.flat l).take (k*4)).toArray++Builtin.zeroCells (Value.agg #[.string ⟨#[]⟩,(0:Int),.string ⟨#[]⟩,false]).cells (n+1-k)++Builtin.zeroCells (Value.agg #[.string ⟨#[]⟩,(0:Int),.string ⟨#[]⟩,false]).cells (grownCap w (n+1) cap 45- (n+1))) 45)):=λty=>by
  have h:=Lib.run_append_grow_zeros (P:=prog) w 30 3 ty 45 i0 _ .i64 .i64 underlying30 underlying3 hi0 Z (some ⟨g,0,none⟩) k cap ((En.flat l).take (k*4)) O (n+1-k) (by omega) (by omega) (by omega) (by omega) (by rw[Y];omega) (by rw[Y,V];exact growslice_fits (by omega) (by omega))
  rw[V]at h;rw[hkk];exact h
 obtain⟨G,hG⟩:∃G,G=grownCap w (n+1) cap 45:=⟨_,rfl⟩;obtain⟨b,y⟩:∃b:Array Value,b=((En.flat l).take (k*4)).toArray++Builtin.zeroCells (Value.agg #[.string ⟨#[]⟩,(0:Int),.string ⟨#[]⟩,false]).cells (n+1-k)++Builtin.zeroCells (Value.agg #[.string ⟨#[]⟩,(0:Int),.string ⟨#[]⟩,false]).cells (G- (n+1)):=⟨_,rfl⟩;have hGn:n+1<=G:=by rw[hG];exact grownCap_ge w _ _ _
 have U:G<=maxLen:=by rw[hG];exact grownCap_le_maxLen w (n+1) cap _ (by unfold maxLen;omega)
 rw[<-hG]at I;rw[<-y]at I;have F:b.toList.length=G*4:=by
  rw[y];simp[Builtin.zeroCells,Value.cells,p];omega
 have hRt:b.toList.take (k*4)=(En.flat l).take (k*4):=by
  rw[y];simp only[Array.toList_append,tT];rw[sP (by simp[p];omega),fI (by simp[p];omega)]
 obtain⟨i,r⟩:∃i,i=w.drew.alloc (.cells b 45):=⟨_,rfl⟩;rw[<-r]at I;have z:i.heap[w.heap.size]? =some (.cells b 45 (0,0)):=by rw[r];exact heap_alloc_new w.drew _
 have o:∀q,q<w.heap.size->i.heap[q]? =w.heap[q]? :=λq hq=>by rw[r];exact Bt w.drew _ q hq
 obtain⟨c,K⟩:∃c:List Value,c=b.toList.take (k*4)++x.cells++b.toList.drop (k*4+x.cells.length):=⟨_,rfl⟩;have A:c.length=G*4:=by rw[K];simp only[bq,bR,gM,F,jg];omega
 obtain⟨D,H⟩:∃D:List Value,D=c.take ((k+1)*4)++(En.flat l).drop (k*4)++c.drop ((k+1)*4+((En.flat l).drop (k*4)).length):=⟨_,rfl⟩;have L:((En.flat l).drop (k*4)).length=(n-k)*4:=by rw[gM,p];omega
 have N:D.length=G*4:=by rw[H];simp only[bq,bR,gM,A,p];omega
 have m:=Om (x:=x.cells) (jg x) p hRt (by rw[F];omega) (nL hk)
 rw[<-K,<-H]at m;have hcpA:∀(W:World),W.heap=i.heap->∀ty Q,(Builtin.copy_ #[30,29] ty #[.slice (some ⟨w.heap.size,k*4,none⟩) (n+1-k) Q,.slice (some ⟨vb,0,none⟩) 1 1]).run prog W= .ok (goInt (1:Nat)) (W.setRow w.heap.size c.toArray):=λW B ty Q=>by
  have h:=qY (P:=prog) W 30 29 ty 45 w.heap.size (k*4) (n+1-k) Q ⟨vb,0,none⟩ 1 1 b _ x.cells 1 underlying30 info4 (by rw[B];exact z) (by simp only[Nat.min_def];split<;>omega) rfl
   (λj v M=>by
    rw[add4,mE];exact(lc (w:=w) (w':=W) (a:=⟨vb,j,none⟩) (by rw[B];exact o vb hvw)).trans ((hx.cell j).trans M)) (by rw[jg,<-Array.length_toList,F];omega) (cells_one x)
  rw[h,K]
 have hcpB:∀(W:World),W.heap=(i.setRow w.heap.size c.toArray).heap->∀ty Q sc,(Builtin.copy_ #[30,30] ty #[.slice (some ⟨w.heap.size,(k+1)*4,none⟩) (n-k) Q,.slice (some ⟨g,k*4,none⟩) (n-k) sc]).run prog W= .ok (goInt (n-k:Nat)) (W.setRow w.heap.size D.toArray):=λW B ty Q sc=>by
  have hgg:W.heap[w.heap.size]? =some (.cells c.toArray 45 (0,0)):=by rw[B];exact FE i _ _ _ _ _ z
  have hg2:W.heap[g]? =w.heap[g]? :=by
   rw[B];have hb:=(dW (w:=i) (g:=w.heap.size) (cs:=c.toArray)).block g (by rw[r,bX];show g<w.heap.size+1;omega) (λe=>by injection e;omega)
   rw[hb];exact o g hgz
  have h:=qY (P:=prog) W 30 30 ty 45 w.heap.size ((k+1)*4) (n-k) Q ⟨g,k*4,none⟩ (n-k) sc c.toArray _ ((En.flat l).drop (k*4)) (n-k) underlying30 info4 hgg (by simp only[Nat.min_def];split<;>omega) L
   (λj v M=>by
    rw[add4];rw[Cn]at M;exact(lc (w:=w) (w':=W) (a:=⟨g,k*4+j,none⟩) hg2).trans (t _ v M)) (by rw[L];simp[A];omega) (λv hv=>qU (List.mem_of_mem_drop hv))
  rw[h,H]
 have HF:∀W:World,W.heap=((i.setRow w.heap.size c.toArray).setRow w.heap.size D.toArray).heap->ag W base (.slice (some ⟨w.heap.size,0,none⟩) (n+1) G) (dE l k x):=λW B=>by
  unfold ag;rw[vI l k x (by omega),sH,<-hn]
  refine⟨by rw[bq,bq,bR,L,p,jg];omega,.inr ⟨w.heap.size,G,D.toArray,rfl,hbase,?_,hGn,U,by simpa using N,by simpa using m⟩⟩
  rw[B];exact FE _ _ _ _ _ _ (FE i _ _ _ _ _ z)
 have HG:∀q,q<w.heap.size->((i.setRow w.heap.size c.toArray).setRow w.heap.size D.toArray).heap[q]? =w.heap[q]? :=λq hq=>by
  have hs:q<i.heap.size:=by rw[r,bX];show q<w.heap.size+1;omega
  have h1:=(dW (w:=i) (g:=w.heap.size) (cs:=c.toArray)).block q hs (λe=>by injection e;omega)
  have h2:=(dW (w:=i.setRow w.heap.size c.toArray) (g:=w.heap.size) (cs:=D.toArray)).block q (bE hs (dW (w:=i) (g:=w.heap.size) (cs:=c.toArray)).size) (λe=>by injection e;omega)
  exact(h2.trans h1).trans (o q hq)
 have HS:((i.setRow w.heap.size c.toArray).setRow w.heap.size D.toArray).heap.size=w.heap.size+1:=by
  simp[World.setRow,r,bX]
 have UC:Hid (∀W:World,W.heap=((i.setRow w.heap.size c.toArray).setRow w.heap.size D.toArray).heap->W.os=w.os->W.tape=w.tape->W.output=w.output->ag W base (.slice (some ⟨w.heap.size,0,none⟩) (n+1) G) (dE l k x)/\w.grownBy W (some g)):=
  aL (λW B h1 h2 h3=>⟨HF W B,⟨h1,h2,h3,by rw[B,HS];omega,λq hq _=>by rw[B];exact HG q hq⟩⟩)
 have hG63:G<=9223372036854775807:=by unfold maxLen at U;exact U
 have Xe:prog.follows .mixedOrders=true:=by kernel_rfl
 have hz2:¬((k:Int)=(n:Int)):=by omega
 have hz3:(cap:Int)<(n:Int)+1:=by omega
 have hw1:IntKind.i64.wrap ((k:Int)+1)=(k:Int)+1:=lm _ (by omega)
 have hb1:(0:Int)<=(k:Int)+1:=by omega
 have hin:k<=n:=by omega
 have htn:((k:Int)+1).toNat=k+1:=by omega
 have hb3:(k:Int)<=(n:Int):=by omega
 have hGi:¬(G=k):=by omega
 have hGim:¬(G=k+1):=by omega
 have hci:¬(cap=k):=by omega
 have hb5:(k:Int)<=(n:Int)+1:=by omega
 have hh1:(w.alloc (.cells b 45)).drew.heap=i.heap:=by rw[r];rfl
 have hh2:i.heap=i.heap:=rfl;clear hkk V O y hG F hRt z o K H A N L m HF HG HS p E hn t hx hi0 Z hzs Y;subst r;have hE:(((w.alloc (.cells b 45)).drew.setRow w.heap.size c.toArray).drew).heap=((w.drew.alloc (.cells b 45)).setRow w.heap.size c.toArray).heap:=rfl;go_enter func86,ntmps86
 go_wp2_with (first
  |(at_builtin;refine Lib.wpList_append_run _ rfl _ _ _ _ rfl _ _ rfl rfl _ _ (I _) ?_)
  |(at_builtin;refine wpList_copy_runI _ rfl _ _ 30 29 rfl _ _ rfl rfl (hcpA _ rfl _ _) ?_))
 go_region_law_o (refine step_copy_runI rfl _ _ 30 30 rfl (.slice (some ⟨w.heap.size,(k+1)*4,none⟩) (n-k) (G- (k+1))) (.slice (some ⟨g,k*4,none⟩) (n-k) (cap-k)) (by simp[Act.eval,Act.put]) (by simp[Act.eval,Act.put]) (hcpB _ hE 3 (G- (k+1)) (cap-k)) ?_)
 go_wp2
 go_ret;have m:=UC.out (((w.alloc (.cells b 45)).drew.setRow w.heap.size c.toArray).drew.setRow w.heap.size D.toArray) rfl rfl rfl rfl;exact⟨_,rfl,m.1,m.2,.inr rfl⟩
theorem wY(base g cap vb k:Nat)(l:List En)(x:En)(w:World)(ho:ag w base (.slice g l.length cap) l)(hx:ai w vb 45 x.cells)(hne:vb≠g)(hk:k<=l.length)(hbig:l.length<=1000000)(hbase:base<=w.heap.size):Calls prog 86 #[.slice g l.length cap,k,.slice vb 1 1] w λe w'=>∃v,e= .returned v/\ag w' base v (dE l k x)/\w.grownBy w' (some g)/\(v.ownBlock=some g\/v.ownBlock=some w.heap.size):=by
 rcases Cg hk with e|h
 ·subst e;exact F7 base g cap vb l x w ho hx hbig hbase
 rcases iB cap (l.length+1)with a|a
 ·exact F8 base g cap vb k l x w ho hx h hbig a hbase
 exact AZ base g cap vb k l x w ho hx hne h hbig a
theorem wZ(vb:Nat)(x:En)(w:World)(hx:ai w vb 45 x.cells):Calls prog 86 #[(),(0:Int),.slice vb 1 1] w λe w'=>∃v,e= .returned v/\ag w' w v [x]/\w.grownBy w' none:=by
 obtain⟨k,m,g,h,c⟩:=lw jD;obtain⟨n,w',a,b,i,_,_⟩:=Er (P:=prog) w w 30 30 45 k _ 4 48 underlying30 m g h c rfl (by decide) _ _ _ (ag.nil w w) ⟨vb,0,none⟩ 1 1 x.cells rfl (λj u l=>by rw[add4,mE];exact(hx.cell j).trans l) (cells_one x) (by decide) (by decide) aR
 rw[<-CJ w 30 29 45 45 _ underlying30 underlying29]at a;go_enter func86,ntmps86
 go_wp2_with (at_builtin;refine Lib.wpList_append_run _ rfl _ _ _ _ rfl _ _ rfl rfl _ _ a ?_)
 all_goals (go_ret;exact⟨_,rfl,b,i⟩)
def um(l:List En)(k:Nat):List En:=l.take k++l.drop (k+1)
theorem Oo(l:List En)(k:Nat)(hk:k<l.length):(um l k).length=l.length-1:=by
 unfold um;rw[bq,bR,gM];omega
theorem Oq(l:List En)(k:Nat)(hk:k<=l.length):(En.flat l).drop (k*4)=En.flat (l.drop k):=by
 have h:=iE (l.take k) (l.drop k);rw[rR]at h;rw[h,<-jU,List.drop_append,zP (by rw[bR];omega),vv,bR,eU,qd (by omega),Bb,xL]
theorem JS(l:List En)(k:Nat)(hk:k<l.length):En.flat (um l k)=(En.flat l).take (k*4)++(En.flat l).drop ((k+1)*4):=by
 unfold um;rw[iE,jU,Oq l (k+1) hk]
theorem JU{l:List En}{k:Nat}{p:Pt.Bs}(hs:Tr.Srt l)(hk:k<l.length)(hp:l[k].P=p):Tr.without l p=um l k:=by
 unfold Tr.without um;have e:l=l.take k++([l[k]]++l.drop (k+1)):=by
  rw[List.singleton_append,<-List.drop_eq_getElem_cons hk,rR]
 have b:∀j (a:j<l.length),j≠k->l[j].P≠p:=by
  intro j a g i
  rcases Nat.lt_or_gt_of_ne g with h|h
  ·have:=yK hs hk h;rw[hp]at this;rw[i,Pt.dB]at this;omega
  have:=yK hs a h;rw[hp]at this;rw[i,Pt.dB]at this;omega
 have m:(l.take k).filter (λe=>e.P !=p)=l.take k:=by
  rw[wN];intro y c;obtain⟨j,a,rfl⟩:=mq c;rw[bR]at a;rw[Cu]
  simpa using b j (by omega) (by omega)
 have o:(l.drop (k+1)).filter (λe=>e.P !=p)=l.drop (k+1):=by
  rw[wN];intro y c;obtain⟨j,a,rfl⟩:=mq c;rw[gM]at a;rw[GJ]
  simpa using b (k+1+j) (by omega) (by omega)
 have n:l.filter (λe=>e.P !=p)=(l.take k++([l[k]]++l.drop (k+1))).filter (λe=>e.P !=p):=om _ e
 rw[n,j3,j3,m,o];simp[hp]
section
variable {P:Program}
theorem A_{ops:Array Oper}{o:Oper}{a:Act}{w:World}{K:Act->World->Prop}{Q:Exit->Act->World->Prop}{E:Prop}(hgd:o.guard=none)(s x:Operand)(t tn:TypeId)(ho:o.op= .call {callee:= .builtin .append,args:=#[s,x],argTypes:=#[t,tn]})(vs vx:Value)(hs:a.eval s=vs)(hx:a.eval x=vx){v':Value}{w':World}(hr:(Builtin.append_ #[t,tn] o.type #[vs,vx]).run P w= .ok v' w')(h:K (a.put o.dst v') w'):if Region.wanted o (yielded ops a.tmps)=true then Oper.wp P o a w K Q else E:=by
 have b:Region.wanted o (yielded ops a.tmps)=true:=by simp[Region.wanted,hgd]
 rw[aM b];exact Lib.wp_append_run w s x t tn ho vs vx hs hx v' w' hr h
theorem Ba(w:World)(t ty e:TypeId)(ht:P.underlying t=some (.slice e))(hs:(P.info? e).map (·.size)=some 4)(g k cap m c:Nat)(ad:Addr)(cur:Array Value)(T:TypeId)(cs:List Value)(hg:w.heap[g]? =some (.cells cur T (0,0)))(hn:cs.length=m*4)(hsrc:∀j v,cs[j]? =some v->w.cell? (ad.add j)=some v)(hroom:k+m<=cap)(hfit:k*4+cs.length<=cur.size)(h1:∀v∈cs,v.oneCell'=true):(Builtin.append_ #[t,t] ty #[.slice g k cap,.slice (some ad) m c]).run P w= .ok (.slice g (k+m) cap) (w.setRow g (cur.toList.take (k*4)++cs++cur.toList.drop (k*4+cs.length)).toArray):=by
 have b:=run_loadCells_list (P:=P) w ad cs hsrc;have a:=run_storeCells_at P g (k*4) T cs 0 cur w hg (by simpa using hfit) h1
 simp only[tQ]at a;have ha:(g:Addr).add (k*4)=⟨g,k*4,none⟩:=by rw[add4,mE]
 cases hq:P.info? e with
 |none=>simp[hq]at hs
 |some i=>
  have h:i.size=4:=by simpa[hq]using hs
  simp[Builtin.append_,u7 ht,Builtin.lenOf,Builtin.firstCells,sizeOf,typeInfo,hq,h,<-hn,b,hroom,ha,a]
end
theorem MK:∀w,(zeroValue 45).run prog w= .ok (.agg #[Qs.e,(0:Int),Qs.e,false]) w:=λw=>by kernel_rfl
theorem w_(base g cap k:Nat)(l:List En)(w:World)(ho:ag w base (.slice (some ⟨g,0,none⟩) l.length cap) l)(hk:k<l.length)(hbig:l.length<=1000000):Calls prog 88 #[.slice (some ⟨g,0,none⟩) l.length cap,k,.int .i64 ((k:Int)+1)] w λe w'=>∃v,e= .returned v/\ag w' base v (um l k)/\w.grownBy w' (some g):=by
 have Y:prog.follows .mixedOrders=true:=by kernel_rfl
 obtain⟨F,h1|⟨g',c',m,Q,U,O,I,G,H,y⟩⟩:=ho
 ·cases h1.1
 injection Q with o hv2 S
 injection o with o
 injection o with o
 subst o S;obtain⟨n,V⟩:∃n,n=l.length:=⟨_,rfl⟩;rw[<-V]at hk hbig I F y ⊢;have M:(En.flat l).length=n*4:=F;have c:m.toList.length=cap*4:=by simpa using H
 have Z:cap<=9223372036854775807:=by unfold maxLen at G;exact G
 have p:∀j u,(En.flat l)[j]? =some u->w.cell? ⟨g,j,none⟩=some u:=λj u x=>by
  rw[cell_of_row w g j m _ _ O];rw[<-y,Ck]at x
  split at x
  ·simpa using x
  cases x
 obtain⟨a,b⟩:∃a,a=(En.flat l).drop ((k+1)*4):=⟨_,rfl⟩;have i:a.length=(n- (k+1))*4:=by rw[b,gM,M];omega
 obtain⟨A,hA,E⟩:∃A:Addr,(if cap=k+1 then some (⟨g,0,none⟩:Addr)else some ⟨g,(k+1)*4,none⟩)=some A/\Hid (∀t u,a[t]? =some u->w.drew.cell? (A.add t)=some u):=by
  by_cases h:cap=k+1
  ·refine⟨⟨g,0,none⟩,by simp[h],λt u x=> ?_⟩
   have h0:a.length=0:=by rw[i];omega
   rw[List.length_eq_zero_iff.1 h0]at x;simp at x
  refine⟨⟨g,(k+1)*4,none⟩,by simp[h],λt u x=> ?_⟩
  rw[add4];rw[b,Cn]at x;exact p _ u x
 obtain⟨B,z⟩:∃B:List Value,B=m.toList.take (k*4)++a++m.toList.drop (k*4+a.length):=⟨_,rfl⟩;have r:B.length=cap*4:=by rw[z];simp only[bq,bR,gM,i,c];omega
 have D:∀ty,(Builtin.append_ #[30,30] ty #[.slice (some ⟨g,0,none⟩) k cap,.slice (some A) (n- (k+1)) (cap- (k+1))]).run prog w.drew= .ok (.slice (some ⟨g,0,none⟩) (k+(n- (k+1))) cap) (w.drew.setRow g B.toArray):=λty=>by
  rw[z];exact Ba w.drew 30 ty 45 underlying30 info4 g k cap (n- (k+1)) (cap- (k+1)) A m _ a O i E.out (by omega) (by rw[i,H];omega) (λv Q=>by rw[b]at Q;exact qU (List.mem_of_mem_drop Q))
 have q:(w.drew.setRow g B.toArray).ownsRow base 45 4 (.slice (some ⟨g,0,none⟩) n cap) n (B.take (n*4)):=
  ⟨by rw[bR,r];omega,.inr ⟨g,cap,B.toArray,rfl,U,FE w.drew g m _ _ _ O,I,G,by simpa using r,by simp⟩⟩
 have L:k+(n- (k+1))=n-1:=by omega
 rw[L]at D;obtain⟨w9,W,K,N⟩:=kJ (P:=prog) (size:=4) 30 0 (.agg #[.string ⟨#[]⟩,(0:Int),.string ⟨#[]⟩,false]) underlying30 MK rfl (by simp[Value.cells,Value.oneCell']) q (n-1) (cap- (n-1)) (some ⟨g,(n-1)*4,none⟩) (by omega) (λ_=>rfl)
 have HF:Hid (ag w9 base (.slice (some ⟨g,0,none⟩) (n-1) cap) (um l k)/\w.grownBy w9 (some g)):=aL (by
  refine⟨?_,grown_drew (bG dW N)⟩
  unfold ag;rw[Oo l k (by omega),JS l k (by omega),<-V]
  have e:(B.take (n*4)).take ((n-1)*4)=(En.flat l).take (k*4)++(En.flat l).drop ((k+1)*4):=by
   rw[Br,qd (by omega),z,<-b,sP (by rw[bq,bR,c,i];omega),fI (by rw[bq,bR,c,i];omega),<-y,Br,qd (by omega)]
  rw[<-e];exact K)
 have hne1:¬((k:Int)=(k:Int)+1):=by omega
 have hw1:IntKind.i64.wrap ((k:Int)+1)=(k:Int)+1:=lm _ (by omega)
 have hb1:(0:Int)<=(k:Int)+1:=by omega
 have hb2:(k:Int)+1<=(n:Int):=by omega
 have hb3:(k:Int)<=(k:Int)+1:=by omega
 have htn:((k:Int)+1).toNat=k+1:=by omega
 have hin:k<=cap:=by omega
 have hb4:k+1<=n:=by omega
 have hb5:(n:Int)<=(cap:Int):=by omega
 have hb6:n-1<=n:=by omega
 have hb7:n<=cap:=I;have hb8:¬(cap=n-1):=by omega
 clear O y H z c r p b i q K N F M L V E;go_enter func88,ntmps88;go_wp2_with fail
 go_region_law_o (refine A_ rfl _ _ 30 30 rfl _ _ (by simp[Act.eval,Act.put]) (by simp[Act.eval,Act.put]) (D _) ?_)
 go_wp2_with (rw[W])
 go_ret;exact⟨_,rfl,HF.out.1,HF.out.2⟩
end Go.Proofs.YtjppfhgkanbemabGreatDoor
