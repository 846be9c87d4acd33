/- A part of the proof of SysTells: RF. -/
import Derived.Test.YtjppfhgkanbemabGreatDoorRwOpen
import Derived.Test.YtjppfhgkanbemabGreatDoorRE
import Derived.Test.YtjppfhgkanbemabGreatDoorZA
set_option maxHeartbeats 8000000
set_option maxRecDepth 100000
set_option linter.all false
namespace Go.Proofs.YtjppfhgkanbemabGreatDoor
open Go.Proofs.Tryz
open Go.RowKit Go.Shelf Go.Sort
theorem LY(p:Rl)(r:Rw)(c:Ca)(w:World)(h:aO w p r)(h0:c.kind<1\/16<c.kind):Calls prog 60 #[.pointer p.g,.agg #[c.kind,c.owner,c.fd,c.n,c.m,c.path,c.to,c.text,c.alone]] w (iJ p ((r,.no 1)) w):=by
 obtain⟨b,o,cf,l,j,t,u,cx,k⟩:=c;dsimp only at h0 ⊢;have E:w.heap.size<=w.heap.size+1:=by omega
 have I:p.g<w:=h.bz h.rH;have A:=((aa w w).alloc aR (.cells #[b,o,cf,l,j,t,u,cx,k] 24)).alloc (((aa w w).alloc aR (.cells #[b,o,cf,l,j,t,u,cx,k] 24)).size) (.cells #[(0:Int),(0:Int),Qs.e,()] 43);have x:=(h.below ((aa w w).alloc aR (.cells #[b,o,cf,l,j,t,u,cx,k] 24))).plus (.cells #[(0:Int),(0:Int),Qs.e,()] 43);have e:=ai.new (w.alloc (.cells #[b,o,cf,l,j,t,u,cx,k] 24)) 43 [(0:Int),(0:Int),Qs.e,()];have B:=(ai.new w 24 [b,o,cf,l,j,t,u,cx,k]).alloc (.cells #[(0:Int),(0:Int),Qs.e,()] 43);rw[bX]at x e;clear h;have F:decide (b<1)=true\/(decide (b<1)=false/\decide (16<b)=true):=by
  rcases si (b<1)with q|q
  ·exact .inl (fw q)
  exact .inr ⟨bN q,fw (h0.resolve_left q)⟩
 clear h0;go_enter func60,ntmps60;go_upto_region 1 with fail
 generalize (w.alloc (.cells #[b,o,cf,l,j,t,u,cx,k] 24)).alloc (.cells #[(0:Int),(0:Int),Qs.e,()] 43)=L at*;have y:=e.four;have z:=B.nine
 rcases F with F|⟨F,M⟩
 all_goals
  go_wp2_with fail;refine(aA 1 _).mono ?_
  rintro K N ⟨rfl,i⟩;have D:=x.below i;have H:=e.below i e.lt;have G:=A.trans (i.mono A.size);clear y z;have y:=H.four;go_wp2_with fail;refine aD (v:= .agg #[(1:Int),(0:Int),Qs.e,()]) ?_ rfl ?_
  ·simp[results,results60,go_sem,y]
  exact aZ (a:=(.no 1)) E D rfl rfl (Fr.of G) (Sub.refl _ _) rfl
theorem LZ(p:Rl)(r:Rw)(c:Ca)(w:World)(h:aO w p r)(h0:c.owner<0\/4<=c.owner)(h1:1<=c.kind/\c.kind<=16):Calls prog 60 #[.pointer p.g,.agg #[c.kind,c.owner,c.fd,c.n,c.m,c.path,c.to,c.text,c.alone]] w (iJ p ((r,.no 3)) w):=by
 obtain⟨i,b,cf,o,k,t,u,cx,l⟩:=c;dsimp only at h0 h1 ⊢;have E:w.heap.size<=w.heap.size+1:=by omega
 have I:p.g<w:=h.bz h.rH;have A:=((aa w w).alloc aR (.cells #[i,b,cf,o,k,t,u,cx,l] 24)).alloc (((aa w w).alloc aR (.cells #[i,b,cf,o,k,t,u,cx,l] 24)).size) (.cells #[(0:Int),(0:Int),Qs.e,()] 43);have x:=(h.below ((aa w w).alloc aR (.cells #[i,b,cf,o,k,t,u,cx,l] 24))).plus (.cells #[(0:Int),(0:Int),Qs.e,()] 43);have e:=ai.new (w.alloc (.cells #[i,b,cf,o,k,t,u,cx,l] 24)) 43 [(0:Int),(0:Int),Qs.e,()];have B:=(ai.new w 24 [i,b,cf,o,k,t,u,cx,l]).alloc (.cells #[(0:Int),(0:Int),Qs.e,()] 43);rw[bX]at x e;clear h;have F:decide (b<0)=true\/(decide (b<0)=false/\decide (3<b)=true):=by
  rcases si (b<0)with q|q
  ·exact .inl (fw q)
  exact .inr ⟨bN q,fw (by have:=h0.resolve_left q;omega)⟩
 have O:decide (i<1)=false:=bN (by omega)
 have Q:decide (16<i)=false:=bN (by omega)
 clear h0 h1;go_enter func60,ntmps60;go_upto_region 1 with fail
 generalize (w.alloc (.cells #[i,b,cf,o,k,t,u,cx,l] 24)).alloc (.cells #[(0:Int),(0:Int),Qs.e,()] 43)=L at*;have y:=e.four;have z:=B.nine
 rcases F with F|⟨F,M⟩
 all_goals
  go_wp2_with fail;refine(aA 3 _).mono ?_
  rintro K N ⟨rfl,j⟩;have D:=x.below j;have H:=e.below j e.lt;have G:=A.trans (j.mono A.size);clear y z;have y:=H.four;go_wp2_with fail;refine aD (v:= .agg #[(3:Int),(0:Int),Qs.e,()]) ?_ rfl ?_
  ·simp[results,results60,go_sem,y]
  exact aZ (a:=(.no 3)) E D rfl rfl (Fr.of G) (Sub.refl _ _) rfl
theorem Jf(p:Rl)(r:Rw)(c:Ca)(w:World)(h:aO w p r)(hk:jr r)(hcs:jK c)(h0:c.kind=1)(ho0:0<=c.owner)(dI:c.owner<4):Calls prog 60 #[.pointer p.g,.agg #[c.kind,c.owner,c.fd,c.n,c.m,c.path,c.to,c.text,c.alone]] w (iJ p (Rw.callOpen r c) w):=by
 obtain⟨a,b,cf,k,i,l,o,cx,j⟩:=c;dsimp only at h0 ho0 dI ⊢;have V:decide (b<0)=false:=bN (by omega)
 have S:decide (3<b)=false:=bN (by omega)
 have O:(a==1)=true:=by rw[h0];rfl
 have Y:decide (a<1)=false:=bN (by omega)
 have Z:decide (16<a)=false:=bN (by omega)
 have U:=aL hk;have K:=aL hcs;obtain⟨R,H⟩:∃R,R=Rw.callOpen r ⟨a,b,cf,k,i,l,o,cx,j⟩:=⟨_,rfl⟩;have D:=λW q=>LC (p.plus (w.heap.size+1)) r ⟨a,b,cf,k,i,l,o,cx,j⟩ W q hk hcs ho0 dI
 dsimp only at D;rw[<-H]at D ⊢;clear H;have E:w.heap.size<=w.heap.size+1:=by omega
 have M:p.g<w:=h.bz h.rH;have F:=((aa w w).alloc aR (.cells #[a,b,cf,k,i,l,o,cx,j] 24)).alloc (((aa w w).alloc aR (.cells #[a,b,cf,k,i,l,o,cx,j] 24)).size) (.cells #[(0:Int),(0:Int),Qs.e,()] 43);have u:=(h.below ((aa w w).alloc aR (.cells #[a,b,cf,k,i,l,o,cx,j] 24))).plus (.cells #[(0:Int),(0:Int),Qs.e,()] 43);have t:=ai.new (w.alloc (.cells #[a,b,cf,k,i,l,o,cx,j] 24)) 43 [(0:Int),(0:Int),Qs.e,()];have A:=(ai.new w 24 [a,b,cf,k,i,l,o,cx,j]).alloc (.cells #[(0:Int),(0:Int),Qs.e,()] 43);rw[bX]at u t;clear h;clear h0 ho0 dI hk hcs;go_enter func60,ntmps60;go_upto_region 1 with fail
 generalize (w.alloc (.cells #[a,b,cf,k,i,l,o,cx,j] 24)).alloc (.cells #[(0:Int),(0:Int),Qs.e,()] 43)=G at*;have y:=t.four;have z:=A.nine;go_wp2_with fail;refine(D G u).mono ?_
 intro e Q N;obtain⟨I,L,rfl,B,x⟩:=NF E (Fr.of F:Fr p.C w G) N;clear y z;have y:=(t.Yo u B).four;go_wp2_with fail;refine aD (v:= .agg #[R.2.err,R.2.n,R.2.text,.slice I R.2.names.length L]) ?_ rfl ?_
 ·simp[results,results60,go_sem,y]
 exact x
theorem Jg(p:Rl)(r:Rw)(c:Ca)(w:World)(h:aO w p r)(hk:jr r)(hcs:jK c)(h0:1<=c.kind/\c.kind<=16/\c.kind≠1/\c.kind≠6/\c.kind≠10/\c.kind≠7/\c.kind≠8/\c.kind≠9/\c.kind≠11/\c.kind≠12)(ho0:0<=c.owner)(dI:c.owner<4):Calls prog 60 #[.pointer p.g,.agg #[c.kind,c.owner,c.fd,c.n,c.m,c.path,c.to,c.text,c.alone]] w (iJ p (Rw.use r c) w):=by
 obtain⟨a,b,cf,k,i,l,o,cx,j⟩:=c;dsimp only at h0 ho0 dI ⊢;have o0:decide (b<0)=false:=bN (by omega)
 have o1:decide (3<b)=false:=bN (by omega)
 have kA:decide (a<1)=false:=bN (by omega)
 have kB:decide (16<a)=false:=bN (by omega)
 have U:(a==1)=false:=by simp only[fq];omega
 have k6:(a==6)=false:=by simp only[fq];omega
 have K:(a==10)=false:=by simp only[fq];omega
 have Z:(a==7)=false:=by simp only[fq];omega
 have V:(a==8)=false:=by simp only[fq];omega
 have k9:(a==9)=false:=by simp only[fq];omega
 have N:(a==11)=false:=by simp only[fq];omega
 have O:(a==12)=false:=by simp only[fq];omega
 have HK:=aL hk;have L:=aL hcs;obtain⟨R,H⟩:∃R,R=Rw.use r ⟨a,b,cf,k,i,l,o,cx,j⟩:=⟨_,rfl⟩;have D:=λW q=>P8 (p.plus (w.heap.size+1)) r ⟨a,b,cf,k,i,l,o,cx,j⟩ W q hk hcs ho0 dI
 dsimp only at D;rw[<-H]at D ⊢;clear H;have E:w.heap.size<=w.heap.size+1:=by omega
 have Q:p.g<w:=h.bz h.rH;have F:=((aa w w).alloc aR (.cells #[a,b,cf,k,i,l,o,cx,j] 24)).alloc (((aa w w).alloc aR (.cells #[a,b,cf,k,i,l,o,cx,j] 24)).size) (.cells #[(0:Int),(0:Int),Qs.e,()] 43);have u:=(h.below ((aa w w).alloc aR (.cells #[a,b,cf,k,i,l,o,cx,j] 24))).plus (.cells #[(0:Int),(0:Int),Qs.e,()] 43);have t:=ai.new (w.alloc (.cells #[a,b,cf,k,i,l,o,cx,j] 24)) 43 [(0:Int),(0:Int),Qs.e,()];have A:=(ai.new w 24 [a,b,cf,k,i,l,o,cx,j]).alloc (.cells #[(0:Int),(0:Int),Qs.e,()] 43);rw[bX]at u t;clear h;clear h0 ho0 dI hk hcs;go_enter func60,ntmps60;go_upto_region 1 with fail
 generalize (w.alloc (.cells #[a,b,cf,k,i,l,o,cx,j] 24)).alloc (.cells #[(0:Int),(0:Int),Qs.e,()] 43)=G at*;have y:=t.four;have z:=A.nine;go_wp2_with fail;refine(D G u).mono ?_
 intro e Y S;obtain⟨I,M,rfl,B,x⟩:=NF E (Fr.of F:Fr p.C w G) S;clear y z;have y:=(t.Yo u B).four;go_wp2_with fail;refine aD (v:= .agg #[R.2.err,R.2.n,R.2.text,.slice I R.2.names.length M]) ?_ rfl ?_
 ·simp[results,results60,go_sem,y]
 exact x
theorem L6(p:Rl)(r:Rw)(c:Ca)(w:World)(h:aO w p r)(hk:jr r)(hcs:jK c):Calls prog 60 #[.pointer p.g,.agg #[c.kind,c.owner,c.fd,c.n,c.m,c.path,c.to,c.text,c.alone]] w (iJ p (Rw.call r c) w):=by
 unfold Rw.call
 by_cases k:c.kind<1\/16<c.kind
 ·rw[aM k];exact LY p r c w h k
 rw[av k]
 by_cases i:c.owner<0\/4<=c.owner
 ·rw[aM i];exact LZ p r c w h i (by omega)
 rw[av i];have a:0<=c.owner:=by omega
 have b:c.owner<4:=by omega
 by_cases q:c.kind=1
 ·rw[aM q];exact Jf p r c w h hk hcs q a b
 rw[av q]
 by_cases j:c.kind=6\/c.kind=10
 ·rw[aM j];exact Tq p r c w h hk hcs j a b
 rw[av j]
 by_cases o:c.kind=7\/c.kind=8
 ·rw[aM o];exact Tz p r c w h hk hcs o a b
 rw[av o]
 by_cases e:c.kind=9
 ·rw[aM e];exact TJ p r c w h hk hcs e a b
 rw[av e]
 by_cases l:c.kind=11\/c.kind=12
 ·rw[aM l];exact Tt p r c w h hk hcs l a b
 rw[av l];exact Jg p r c w h hk hcs (by omega) a b
theorem Rd.same{w w':World}{B s:Nat}{A:Option Addr}{n:Nat}{xs:List Value}(h:Rd w B s A n xs)(hs:∀k,k<B->w'.heap[k]? =w.heap[k]?):Rd w' B s A n xs:=by
 refine⟨h.1,λi=> ?_⟩
 obtain⟨b,o,e,a,g⟩:=h.2 i;exact⟨b,o,e,a,λj u c=>(lc (hs b a)).trans (g j u c)⟩
theorem Jh{w:World}{B:Nat}{A A':Option Addr}{c c':Nat}{u:Un}(h:bT w B A A' c c' u){X:Nat->Prop}(hX:∀k,X k->B<=k)(hB:B<=w.heap.size):Off X w (λw=>bT w w A A' c c' u):=λg t n=>by
 have e:∀k,k<B->g.heap[k]? =w.heap[k]? :=λk e=>n k (by omega) λq=>by have:=hX k q;omega
 have m:bT g B A A' c c' u:=by
  refine⟨Rd.same h.up e,h.cap,?_,h.nil⟩
  obtain⟨p,a,b⟩:=h.low
  exact⟨p,Rd.same a e,λk q=>by
   obtain⟨o,r,j,i,l⟩:=b k q;exact⟨o,r,j,i,Rd.same l e⟩⟩
 exact m.more (by omega)
def qI(j:Nat):List (List (Option Nat)):=(List.range 4).map λo=>(List.range 8).map λk=>if o*8+k<j then none else some 0
theorem P9:∀(o:Fin 4) (k:Fin 8),(qI (o.1*8+k.1)).modify o.1 (λr=>r.set k.1 none)=qI (o.1*8+k.1+1):=by decide
theorem T_:qI 32=List.replicate 4 (List.replicate 8 none):=by decide
theorem Ua(j:Nat):(qI j).length=4:=by unfold qI;simp
theorem Au(j:Nat):∀x∈qI j,x.length=8:=λx a=>by
 unfold qI at a;obtain⟨o,_,rfl⟩:=List.mem_map.1 a;simp
def Rw.raw(F:List (List (Option Nat))):Rw:=⟨Un.zero,[],[],[],F⟩
theorem Rw.V6(j o k:Nat)(ho:o<4)(hk:k<8)(hj:j=o*8+k):Rw.setFd (Rw.raw (qI j)) o k none=Rw.raw (qI (j+1)):=by
 subst hj;unfold Rw.setFd Rw.raw;dsimp only;rw[P9 ⟨o,ho⟩ ⟨k,hk⟩]
theorem Rw.P_(u:Un):(Rw.set (Rw.raw (qI 32)) (u,0)).1=Rw.R (Sy.start u):=by
 rw[Rw.R_start,T_];unfold Rw.set;rw[av (λh=>h rfl)]
 rfl
theorem aO.raw{w:World}{g:Nat}(h:ai w g 107 [.slice none 0 0,.slice none 0 0,.slice none 0 0,.slice none 0 0,.slice none 0 0,.int .i64 0,.int .i64 0,.int .i64 0,.int .i64 0,.int .i64 0,.int .i64 0,.int .i64 0,.int .i64 0,.int .i64 0,.int .i64 0,.int .i64 0,.int .i64 0,.int .i64 0,.int .i64 0,.int .i64 0,.int .i64 0,.int .i64 0,.int .i64 0,.int .i64 0,.int .i64 0,.int .i64 0,.int .i64 0,.int .i64 0,.int .i64 0,.int .i64 0,.int .i64 0,.int .i64 0,.int .i64 0,.int .i64 0,.int .i64 0,.int .i64 0,.int .i64 0])(e:Nat->Prop)(he:∀k,e k->k<w.heap.size/\k≠g):aO w ⟨g,.slice none 0 0,.slice none 0 0,e⟩ (Rw.raw (qI 0)) where
 box:=⟨none,none,none,0,0,0,h,Off.always λ_=>⟨Rd.nil,aR,jc.nil _ _ _,λ_=>rfl⟩,Off.always λ_=>Rd.nil,aR⟩
 obs:=⟨[],rfl,jN _ _ _ _,λk h=>absurd h (l5 k)⟩
 des:=jN _ _ _ _
 ce:=λk a q=>by
  rcases a with a|a|a
  ·exact(he k q).2 a
  ·cases a
  ·cases a
 el:=λk q=>(he k q).1
theorem jr.abw{s:St}{n:Nat}(hi:Sy.In n s)(hn:n<=999)(hk:Sy.Ok s):jr (Rw.R s) where
 right:=hk.right
 tl:=hk.tl
 us:=dU hk.1
 put:=Ew hk
 rem:=λq k=>dU ((Tr.removeU_tree hk.1 q).2 k).1
 mov:=λa b k=>dU ((Tr.moveU_tree hk.1 a b).2 k).1
 ol:=by have:=hi.ol;show(s.obs.mapIdx _).length<=_;rw[pQ];omega
 dl:=by have:=hi.dl;show(s.des.map _).length<=_;rw[ib];omega
 fdl:=hi.fdl
 fdr:=hi.fdr
 fdd:=λx l d j=>by show d<(s.des.map _).length;rw[ib];exact hi.fdd x l d j
 ob:=λo m=>by
  obtain⟨i,p,rfl⟩:=mq (show o∈s.obs.mapIdx _ from m)
  rw[uW]
  split
  ·exact(hi.ob _ (cz _)).more (by omega)
  ·exact⟨bL _,bL _,bL _⟩
 tx:=λi=>by
  by_cases h:i∈s.files
  ·rw[Rw.R_textOf h];exact hi.textOf hk i
  ·have e:Rw.obAt (Rw.R s) i=Rw.zob:=by rw[Rw.R_obAt,av h]
   unfold Rw.textOf;rw[e,aM (show Rw.zob.P=[]from rfl)];exact bL _
 de:=λd j=>by
  obtain⟨x,l,rfl⟩:=List.mem_map.1 (show d∈s.des.map Rw.strip from j)
  obtain⟨a,b,c,_,_,f,g⟩:=hi.de x l;exact⟨by show _<(s.obs.mapIdx _).length;rw[pQ];exact a,b,c,f,g⟩
theorem V7{s:St}{n:Nat}(h2:RwL.J s)(h3:Sy.In n s):(List.range (Rw.R s).objs.length).countP (λi=>Rw.used (Rw.R s) i)=s.files.length:=by
 have c:(Rw.R s).objs.length=s.obs.length:=by simp[Rw.R]
 rw[c,<-RwL.countP_mem h3.fnd h3.fsub]
 congr 1
 funext i
 rw[Rw.R_used]
 by_cases a:i∈s.files
 ·rw[fw a]
  exact RwL.used_iff.2 ((h2.use i).1 a)
 rw[bN a]
 cases b:Sy.used s i
 ·rfl
 exact absurd ((h2.use i).2 (RwL.used_iff.1 b)) a
theorem fV.fr{X:Nat->Prop}{w w':World}{base:Nat}{v:Value}{l:List An}(h:fV X w base v l)(hb:Below w w w'):fV X w' base v l:=by
 obtain⟨g,j,i,m⟩:=h
 exact⟨g,j,jJ i (X:=λ_=>False) (Fr.of hb) λ_ _ e=>e,λk a=>by
  obtain⟨A,c,b,n⟩:=m k a;exact⟨A,c,b,n.on (Fr.of (X:=X) hb) (Sub.refl _ _)⟩⟩
theorem Ji(k:Nat)(f:Nat->Bool):(List.range (k+1)).countP f=(List.range k).countP f+(if f k=true then 1 else 0):=by
 rw[List.range_succ,List.countP_append,List.countP_singleton]
theorem Jj(A A' Al:Option Addr)(c c' cl:Nat)(u:Un)(l:List Ca)(w:World)(hu:bT w w.heap.size A A' c c' u)(hs:iR u)(hl:xx w Al l)(hls:∀x∈l,jK x)(hbig:l.length<=4000000):Calls prog 27 #[.agg #[.slice A u.U.length c,.slice A' u.L.length c'],.slice Al l.length cl] w (kP (Sy.play u l) w):=by
 have HL:=aL hl;have HLS:=aL hls;have Ve:=aL hs;have HUR:=aL hu;obtain⟨R,hR⟩:∃R,R=Sy.play u l:=⟨_,rfl⟩;rw[<-hR];have HR:=aL hR;clear hR;have cW:=λW q=>rW A A' c c' u W q hs
 have HW0:=aL (rfl:(Tr.wrongU u).1=(Tr.wrongU u).1);obtain⟨we,hwe⟩:∃we,we=Tr.wrongU u:=⟨_,rfl⟩;rw[<-hwe]at cW;have WN:=aL hwe;clear hwe HW0 hs hl hls;obtain⟨e0,ea⟩:=we;dsimp only at cW;have SK:Hid ((Tr.wrongU u).1=e0):=aL (by rw[<-WN.out])
 clear WN;have SL:=(aa w.heap.size w).alloc aR (.cells #[.slice A u.U.length c,.slice A' u.L.length c'] 33);have SN:=ai.new w 33 [.slice A u.U.length c,.slice A' u.L.length c'];have hu0:=(hu.below SL).more SL.size;clear hu;go_enter func27,ntmps27;go_upto_region 1 with fail
 have hB1:=SL.alloc SL.size (.cells #[.slice none 0 0,.slice none 0 0,.slice none 0 0,(0:Int)] 35);have hgu1:=SN.alloc (.cells #[.slice none 0 0,.slice none 0 0,.slice none 0 0,(0:Int)] 35);have hu1:bT _ _ A A' c c' u:=(hu0.below ((aa _ _).alloc aR (.cells #[.slice none 0 0,.slice none 0 0,.slice none 0 0,(0:Int)] 35))).more ((aa _ _).alloc aR (.cells #[.slice none 0 0,.slice none 0 0,.slice none 0 0,(0:Int)] 35)).size;have hz1:=ai.new (w.alloc (.cells #[.slice A u.U.length c,.slice A' u.L.length c'] 33)) 35 [.slice none 0 0,.slice none 0 0,.slice none 0 0,(0:Int)];have hsa:(w.alloc (.cells #[.slice A u.U.length c,.slice A' u.L.length c'] 33)).heap.size=w.heap.size+1:=bX _ _;rw[hsa]at hz1;clear SL SN hu0 hsa;generalize (w.alloc (.cells #[.slice A u.U.length c,.slice A' u.L.length c'] 33)).alloc (.cells #[.slice none 0 0,.slice none 0 0,.slice none 0 0,(0:Int)] 35)=w1 at*;have Z:=hgu1.two;have z:=hz1.four;go_wp2_with fail;refine(cW w1 hu1).mono ?_
 rintro e w2 ⟨rfl,hb⟩;have hB2:=hB1.trans (hb.mono hB1.size);have hgu2:=hgu1.below hb hgu1.lt;have hz2:=hz1.below hb hz1.lt;have hu2:=(hu1.below hb).more hb.size;clear Z z hB1 hgu1 hz1 hu1 hb cW;have hB3:=hB2.alloc hB2.size (.cells #[e0,ea] 51);have Iw:=hgu2.alloc (.cells #[e0,ea] 51);have hz3:=hz2.alloc (.cells #[e0,ea] 51);have hb3:Below w2.heap.size w2 (w2.alloc (.cells #[e0,ea] 51)):=(aa _ w2).alloc aR _;have hu3:=(hu2.below hb3).more hb3.size;have hf3:=ai.new w2 51 [e0,ea];have acj:w.heap.size+1<w2.heap.size:=hz2.lt;go_upto_region 2 with fail
 clear hB2 hgu2 hz2 hu2 hb3;generalize w2.alloc (.cells #[e0,ea] 51)=w3 at*;generalize w2.heap.size=gf at*;have Z:=Iw.two;have z:=hz3.four;have Y:=hf3.two
 rcases te:(e0 !=0)with _|_
 rotate_left
 ·have hne:e0≠0:=by simpa using te
  have HF:=aL (HR.out.trans (Sy.Iu SK.out hne));clear hne;have ack:¬gf=w.heap.size+1:=by omega
  have acm:¬w.heap.size+1=gf:=by omega
  go_upto_region 3 with fail
  go_region_with (fail)
  all_goals
   go_wp2_with fail;refine aD (v:= .tuple #[.agg #[.slice none 0 0,.slice none 0 0,.slice none 0 0,(0:Int)],.slice none 0 0,e0]) ?_ rfl ?_
   ·simp[results,results27,go_sem,z]
   rw[HF.out];refine kP.bad ?_
   first|exact((((hB3.setCell (p:=⟨w.heap.size+1,0,none⟩) (iN _) _).setCell (p:=⟨w.heap.size+1,1,none⟩) (iN _) _).setCell (p:=⟨w.heap.size+1,2,none⟩) (iN _) _).setCell (p:=⟨w.heap.size+1,3,none⟩) (iN _) _)|exact((((hB3.setCell (p:=⟨w.heap.size+1,0,none⟩) (iN _) _).setCell (p:=⟨w.heap.size+1,1,none⟩) (iN _) _).setCell (p:=⟨w.heap.size+1,2,none⟩) (iN _) _).setCell (p:=⟨w.heap.size+1,3,none⟩) (iN _) _).drew
 obtain rfl:e0=0:=by simpa using te
 clear te
 rcases tl:decide ((80:Int)<(l.length:Int))with _|_
 rotate_left
 ·have HF:=aL (HR.out.trans (Sy.Dw SK.out (by have:=iA tl;omega)))
  go_wp2_with fail;refine aD (v:= .tuple #[.agg #[.slice none 0 0,.slice none 0 0,.slice none 0 0,(0:Int)],.slice none 0 0,(5:Int)]) ?_ rfl ?_
  ·simp[results,results27,go_sem,z]
  rw[HF.out];exact kP.bad ((((hB3.setCell (p:=⟨w.heap.size+1,0,none⟩) (iN _) _).setCell (p:=⟨w.heap.size+1,1,none⟩) (iN _) _).setCell (p:=⟨w.heap.size+1,2,none⟩) (iN _) _).setCell (p:=⟨w.heap.size+1,3,none⟩) (iN _) _)
 have xA:l.length<=80:=by have:=j6 tl;omega
 have HF:=aL (HR.out.trans (Sy.NC SK.out xA));clear HR;have ZE:=aL (Sy.start_ok (u:=u) SK.out);clear SK;go_upto_region 6 with fail
 clear tl Y hf3 z Z;have hb4:Below w3.heap.size w3 (w3.alloc (.cells #[.slice none 0 0,.slice none 0 0,.slice none 0 0,.slice none 0 0,.slice none 0 0,.int .i64 0,.int .i64 0,.int .i64 0,.int .i64 0,.int .i64 0,.int .i64 0,.int .i64 0,.int .i64 0,.int .i64 0,.int .i64 0,.int .i64 0,.int .i64 0,.int .i64 0,.int .i64 0,.int .i64 0,.int .i64 0,.int .i64 0,.int .i64 0,.int .i64 0,.int .i64 0,.int .i64 0,.int .i64 0,.int .i64 0,.int .i64 0,.int .i64 0,.int .i64 0,.int .i64 0,.int .i64 0,.int .i64 0,.int .i64 0,.int .i64 0,.int .i64 0] 107)):=(aa _ w3).alloc aR _;have hB4:=hB3.alloc hB3.size (.cells #[.slice none 0 0,.slice none 0 0,.slice none 0 0,.slice none 0 0,.slice none 0 0,.int .i64 0,.int .i64 0,.int .i64 0,.int .i64 0,.int .i64 0,.int .i64 0,.int .i64 0,.int .i64 0,.int .i64 0,.int .i64 0,.int .i64 0,.int .i64 0,.int .i64 0,.int .i64 0,.int .i64 0,.int .i64 0,.int .i64 0,.int .i64 0,.int .i64 0,.int .i64 0,.int .i64 0,.int .i64 0,.int .i64 0,.int .i64 0,.int .i64 0,.int .i64 0,.int .i64 0,.int .i64 0,.int .i64 0,.int .i64 0,.int .i64 0,.int .i64 0] 107);have KP:=Iw.alloc (.cells #[.slice none 0 0,.slice none 0 0,.slice none 0 0,.slice none 0 0,.slice none 0 0,.int .i64 0,.int .i64 0,.int .i64 0,.int .i64 0,.int .i64 0,.int .i64 0,.int .i64 0,.int .i64 0,.int .i64 0,.int .i64 0,.int .i64 0,.int .i64 0,.int .i64 0,.int .i64 0,.int .i64 0,.int .i64 0,.int .i64 0,.int .i64 0,.int .i64 0,.int .i64 0,.int .i64 0,.int .i64 0,.int .i64 0,.int .i64 0,.int .i64 0,.int .i64 0,.int .i64 0,.int .i64 0,.int .i64 0,.int .i64 0,.int .i64 0,.int .i64 0] 107);have jY:=hz3.alloc (.cells #[.slice none 0 0,.slice none 0 0,.slice none 0 0,.slice none 0 0,.slice none 0 0,.int .i64 0,.int .i64 0,.int .i64 0,.int .i64 0,.int .i64 0,.int .i64 0,.int .i64 0,.int .i64 0,.int .i64 0,.int .i64 0,.int .i64 0,.int .i64 0,.int .i64 0,.int .i64 0,.int .i64 0,.int .i64 0,.int .i64 0,.int .i64 0,.int .i64 0,.int .i64 0,.int .i64 0,.int .i64 0,.int .i64 0,.int .i64 0,.int .i64 0,.int .i64 0,.int .i64 0,.int .i64 0,.int .i64 0,.int .i64 0,.int .i64 0,.int .i64 0] 107);have hs4:=ai.new w3 107 [.slice none 0 0,.slice none 0 0,.slice none 0 0,.slice none 0 0,.slice none 0 0,.int .i64 0,.int .i64 0,.int .i64 0,.int .i64 0,.int .i64 0,.int .i64 0,.int .i64 0,.int .i64 0,.int .i64 0,.int .i64 0,.int .i64 0,.int .i64 0,.int .i64 0,.int .i64 0,.int .i64 0,.int .i64 0,.int .i64 0,.int .i64 0,.int .i64 0,.int .i64 0,.int .i64 0,.int .i64 0,.int .i64 0,.int .i64 0,.int .i64 0,.int .i64 0,.int .i64 0,.int .i64 0,.int .i64 0,.int .i64 0,.int .i64 0,.int .i64 0];have Yi:w.heap.size+1<w3.heap.size:=hz3.lt;have hgs0:w.heap.size<w3.heap.size:=Iw.lt;go_upto_region 7 with fail
 clear hb4 hB3 Iw hz3 hu3;generalize w3.alloc (.cells #[.slice none 0 0,.slice none 0 0,.slice none 0 0,.slice none 0 0,.slice none 0 0,.int .i64 0,.int .i64 0,.int .i64 0,.int .i64 0,.int .i64 0,.int .i64 0,.int .i64 0,.int .i64 0,.int .i64 0,.int .i64 0,.int .i64 0,.int .i64 0,.int .i64 0,.int .i64 0,.int .i64 0,.int .i64 0,.int .i64 0,.int .i64 0,.int .i64 0,.int .i64 0,.int .i64 0,.int .i64 0,.int .i64 0,.int .i64 0,.int .i64 0,.int .i64 0,.int .i64 0,.int .i64 0,.int .i64 0,.int .i64 0,.int .i64 0,.int .i64 0] 107)=w4 at*;generalize w3.heap.size=t at*;have mY:=aO.raw hs4 (λk=>k=w.heap.size+1) λk N=>⟨by rw[N];exact jY.lt,by omega⟩
 clear hs4;go_wp2
 go_loopw [30] (λi wr=>∃o:Nat,o<=4/\i= .int .i64 o/\Hid (aO wr ⟨t,.slice none 0 0,.slice none 0 0,λk=>k=w.heap.size+1⟩ (Rw.raw (qI (o*8))))/\Hid (ai wr (w.heap.size+1) 35 [.slice none 0 0,.slice none 0 0,.slice none 0 0,(0:Int)])/\Hid (ai wr w.heap.size 33 [.slice A u.U.length c,.slice A' u.L.length c'])/\Below w.heap.size w wr) (λi _=>4- (intOf i).toNat)
 case atStart=>exact⟨0,bL _,rfl,aL mY,aL jY,aL KP,hB4⟩
 case round=>
  clear mY jY KP hB4;obtain⟨o,ho,rfl,H,HZ,HQ,K⟩:=hrel
  by_cases I:o<4
  ·go_wp2
   go_loopw [33] (λi wr=>∃k:Nat,k<=8/\i= .int .i64 k/\Hid (aO wr ⟨t,.slice none 0 0,.slice none 0 0,λk=>k=w.heap.size+1⟩ (Rw.raw (qI (o*8+k))))/\Hid (ai wr (w.heap.size+1) 35 [.slice none 0 0,.slice none 0 0,.slice none 0 0,(0:Int)])/\Hid (ai wr w.heap.size 33 [.slice A u.U.length c,.slice A' u.L.length c'])/\Below w.heap.size w wr) (λi _=>8- (intOf i).toNat)
   case atStart=>exact⟨0,bL _,rfl,H,HZ,HQ,K⟩
   case round=>
    clear H HZ HQ K;obtain⟨k,N,rfl,H,HZ,HQ,K⟩:=hrel
    by_cases hlk:k<8
    ·have lH:=H.out.setFd (Au _) (o:=o) (k:=k) hlk none
     rw[Rw.V6 _ o k I hlk rfl,show tC none= .int .i64 (-1)from rfl]at lH
     have h1:o<(Rw.raw (qI (o*8+k))).fds.length:=by show o<(qI _).length;rw[Ua];exact I
     have h2:k<(Rw.raw (qI (o*8+k))).fds[o].length:=by rw[Au _ _ (cz h1)];exact hlk
     have hcf:=H.out.xY (Au _) h1 h2;have hfz:∀q,wr.frozen? ⟨t,q,none⟩=false:=by obtain⟨cs,hb⟩:=H.out.blk;exact hb.frozen
     have jo:=HZ.out.far (p:=⟨t,5+o*8+k,none⟩) (show w.heap.size+1≠t by omega) (.int .i64 (-1))
     have hq5:=HQ.out.far (p:=⟨t,5+o*8+k,none⟩) (show w.heap.size≠t by omega) (.int .i64 (-1))
     have dh:=K.setCell (p:=⟨t,5+o*8+k,none⟩) (show w.heap.size<=t by omega) (.int .i64 (-1))
     have Nw:(0:Int)<=(o:Int):=gD _;have ib2:(o:Int)<4:=by omega
     have WL:(0:Int)<=(k:Int):=gD _;have WM:(k:Int)<8:=by omega
     dsimp only at hcf;go_wp2;go_roundw
     case rel=>exact⟨k+1,hlk,by go_num,aL lH,aL jo,aL hq5,dh⟩
     case measure=>simp[intOf];omega
    obtain rfl:k=8:=by omega
    go_wp2;go_roundw
    case rel=>exact⟨o+1,I,by go_num,by rw[show(o+1)*8=o*8+8 by omega];exact H,HZ,HQ,K⟩
    case measure=>simp[intOf];omega
  obtain rfl:o=4:=by omega
  have hoff:Off (Rl.X ⟨t,.slice none 0 0,.slice none 0 0,λk=>k=w.heap.size+1⟩) wr (λw=>bT w w.heap.size A A' c c' u):=Jh (HUR.out.below K) (λk N=>by
   rcases N with(N|N|N)|N
   ·have N:k=t:=N;omega
   ·cases N
   ·cases N
   have N:k=w.heap.size+1:=N;omega) K.size
  have cS:=kD ⟨t,.slice none 0 0,.slice none 0 0,λk=>k=w.heap.size+1⟩ (Rw.raw (qI 32)) A A' c c' (u,0) wr H.out (λ_=>hoff) (λ_=>Ve.out)
  unfold qE at cS;rw[Rw.P_]at cS;have Z:=HQ.out.two;go_wp2_with fail;refine cS.mono ?_
  rintro e w7 ⟨rfl,iU,lh⟩;have jV:Below w.heap.size w w7:=K.trans (lh.below (B:=w.heap.size) K.size λk N=>by have N:k=t:=N;omega)
  have fM:=HZ.out.fr lh (show¬w.heap.size+1=t by omega)
  clear Z hoff cS lh K H HZ HQ;have Qj:Hid (∀k,k<=l.length->Sy.In k (Sy.calls (Sy.start u) (l.take k)).1):=aL λk N=>by
   have h1:=Sy.zS (l.take k) (Sy.start_in u) ZE.out;rw[bR,qd N,mE]at h1;exact h1
  have Vq:Hid (∀k,Sy.Ok (Sy.calls (Sy.start u) (l.take k)).1):=aL λk=>(Sy.calls_ok ZE.out).1
  have HJS:Hid (∀k,RwL.J (Sy.calls (Sy.start u) (l.take k)).1):=aL λk=>(RwL.R_calls (l:=l.take k) (Sy.start_in u) ZE.out (RwL.J_start u)).2.1
  have Vr:Hid (w.heap.size+1<t):=aL Yi;obtain⟨i0,hif,hi0,hi1,M⟩:=lw Nz;go_wp2
  go_loopw [11,50] (λva i wr=>∃(k:Nat) (p:Rl),k<=l.length/\i= .int .i64 k/\Hid (aO wr p (Rw.R (Sy.calls (Sy.start u) (l.take k)).1))/\Hid (p.g=t/\p.e=(λj=>j=w.heap.size+1\/va.ownBlock=some j)/\∀j,p.C j->w.heap.size+2<=j)/\Hid (fV p.X wr (w.heap.size+2) va (Sy.calls (Sy.start u) (l.take k)).2)/\Hid (ai wr (w.heap.size+1) 35 [.slice none 0 0,.slice none 0 0,.slice none 0 0,(0:Int)])/\Below w.heap.size w wr/\w.heap.size+2<=wr.heap.size) (λ_ i _=>l.length- (intOf i).toNat)
  case atStart=>
   refine⟨0,⟨t,.slice none 0 0,.slice none 0 0,λk=>k=w.heap.size+1⟩,bL _,rfl,aL iU,aL ⟨rfl,?_,?_⟩,aL (fV.nil _ _ _),aL fM,jV,by have:=iU.bz iU.rH;have h2:=Vr.out;show w.heap.size+2<=w7.heap.size;have:t<w7.heap.size:=this;omega⟩
   ·funext j
    exact propext ⟨λq=> .inl q,λq=>q.elim id λq=>by cases q⟩
   intro j D;have h2:=Vr.out
   rcases D with D|D|D
   ·have D:j=t:=D;omega
   ·cases D
   cases D
  case round=>
   clear iU fM jV;obtain⟨k,p,N,rfl,H,HP,HO,HZ,K,hsz⟩:=hrel
   by_cases I:k<l.length
   ·obtain⟨b,o,Kr,hca⟩:=HL.out k I
    subst Kr;have hbw:=hca.lt;have F:=aL (Sy.zT (s:=Sy.start u) I);have hcr:=hca.below K;have hsm:=HLS.out _ (cz I);obtain⟨a,hsk⟩:∃x,x=Sy.calls (Sy.start u) (l.take k):=⟨_,rfl⟩;have hin:=Qj.out k N;have V8:=Vq.out k;have hjs:=HJS.out k;rw[<-hsk]at H HO F hin V8 hjs;clear hsk hca;obtain⟨y,hy⟩:∃y,y=l[k]:=⟨_,rfl⟩;rw[<-hy]at F hcr hsm;clear hy;have cC:=λW q=>L6 p (Rw.R a.1) y W q (jr.abw hin (by omega) V8) hsm
    rw[RwL.R_call hin V8 hjs y]at cC;obtain⟨r,hr⟩:∃r,r=Sy.call a.1 y:=⟨_,rfl⟩;rw[<-hr]at F cC;rw[HP.out.1]at cC;clear hr hin V8 hjs hsm;obtain⟨yk,yo,yf,yn,ym,yp,yt,yx,ya⟩:=y;dsimp only at cC;have HCC:=aL cC;clear cC;obtain⟨hcb,c0,c1,c2,c3,c4,c5,c6,c7,c8⟩:=hcr;dsimp only at c0 c1 c2 c3 c4 c5 c6 c7 c8;obtain⟨vs,hv1,hv2,hv3⟩:=HO.out;have HV3:=aL hv3;obtain⟨Ug,Uh,hva⟩:=jl hv2;subst hva;have aco:a.2.length<=80:=by
     have h1:k<=80:=by omega
     have h2:=om (λx=>x.2.length) F.out
     simp only[Sy.calls_len,bq,bR,gL,sw]at h2;omega
    clear hv3;have hlt2:decide ((k:Int)<(l.length:Int))=true:=fw (by omega)
    have hbx:=(aa wr.heap.size wr).alloc aR (.cells #[yk,yo,yf,yn,ym,yp,yt,yx,ya] 24);have HAx:=aL (H.out.below hbx);have HZx:=aL (HZ.out.below hbx HZ.out.lt);have hBx:=K.trans (hbx.mono K.size);have ac0:=eT hsz hbx.size;have hvx:(wr.alloc (.cells #[yk,yo,yf,yn,ym,yp,yt,yx,ya] 24)).ownsRow (w.heap.size+2) 43 4 (.slice Ug a.2.length Uh) a.2.length (dQ a.2 vs):=jJ hv2 (X:=λ_=>False) (Fr.of hbx) λ_ _ e=>e
    have HVX:=aL hvx;have ac1:Hid (∀j (h:j<a.2.length),∃A c,vs[j]? =some (.slice A a.2[j].names.length c)/\Off p.X (wr.alloc (.cells #[yk,yo,yf,yn,ym,yp,yt,yx,ya] 24)) λw=>bH w w.heap.size A a.2[j].names):=aL λj D=>by
     obtain⟨Aj,cj,e1,e2⟩:=HV3.out j D;exact⟨Aj,cj,e1,e2.on (Fr.of (X:=p.X) hbx) (Sub.refl _ _)⟩
    have hyb:=ai.new wr 24 [yk,yo,yf,yn,ym,yp,yt,yx,ya];go_upto_region 21 with fail
    clear c0 c1 c2 c3 c4 c5 c6 c7 c8 hv2 HV3 HO H HZ K hsz hbx hvx;generalize wr.alloc (.cells #[yk,yo,yf,yn,ym,yp,yt,yx,ya] 24)=wx at*;generalize wr.heap.size=gy at*;obtain⟨c0,c1,c2,c3,c4,c5,c6,c7,c8⟩:=hyb.nine;go_wp2_with fail;clear c0 c1 c2 c3 c4 c5 c6 c7 c8 hyb;refine(HCC.out wx HAx.out).mono ?_
    rintro e w1 ⟨p',v,rfl,⟨An,cn,rfl,hno⟩,hA1,SQ,EJ,hF1,hS1⟩;have qi:=aL hno;clear hno;have hown1:w1.ownsRow (w.heap.size+2) 43 4 (.slice Ug a.2.length Uh) a.2.length (dQ a.2 vs):=jJ HVX.out hF1 λj D q=>HAx.out.ce j q (by rw[HP.out.2.1];exact .inr D)
    have hB1:Below w.heap.size w w1:=hBx.trans (hF1.below (B:=w.heap.size) hBx.size λj D=>by have:=HP.out.2.2 j D;omega)
    have hz1:=HZx.out.fr hF1 λq=>by have:=HP.out.2.2 _ q;omega
    have hsz1:w.heap.size+2<=w1.heap.size:=eT ac0 hF1.size
    go_wp2_with (at_builtin;go_must (refine ax w1 rfl _ _ _ rfl (w.heap.size+2) 43 i0 _ 4 56 underlying36 hif hi0 hi1 M rfl (by decide) (.slice Ug a.2.length Uh) _ _ rfl hown1 [r.2.err,r.2.n,r.2.text,.slice An r.2.names.length cn] rfl rfl (by simp[Value.oneCell']) (by omega) (by decide) hsz1 _ rfl ?_);intro v3 w3 Bo E at3;obtain⟨A3,c3,rfl⟩:=jl Bo)
    go_roundw
    case rel=>
     have hpX:Fr p.X wx w1:=hF1.wide λ_ _ q=> .inl q
     have Yj:Sub wx p'.X p.X:=λj D q=>q.elim (λq=> .inl (hS1 j D q)) λq=> .inr (by rw[<-EJ];exact q)
     have hY:Fr (λj=>(Value.slice Ug a.2.length Uh).ownBlock=some j) w1 w3:=Fr.grown E λj D=>D
     have hYe:∀j,j<w1.heap.size->(Value.slice Ug a.2.length Uh).ownBlock=some j->p'.e j:=λj _ q=>by rw[EJ,HP.out.2.1];exact .inr q
     have hlt3:∀j,(Value.slice A3 (a.2.length+1) c3).ownBlock=some j->w.heap.size+2<=j/\j<w3.heap.size:=λj q=>gH Bo j q
     have hA3:=hA1.grow hY hYe (λj=>j=w.heap.size+1\/(Value.slice A3 (a.2.length+1) c3).ownBlock=some j) (λj q=>⟨λD=>by
       rw[EJ,HP.out.2.1]
       rcases q with q|q
       ·exact .inl q
       ·rcases at3 with e|e
        ·exact .inr (e▸q)
        rw[e]at q;injection q with q;omega,by
       rcases q with q|q
       ·have:=E.size;omega
       exact(hlt3 j q).2⟩)
     refine⟨k+1,{p' with e:=λj=>j=w.heap.size+1\/(Value.slice A3 (a.2.length+1) c3).ownBlock=some j},I,by go_num,aL (by rw[F.out];exact hA3),aL ⟨SQ.trans HP.out.1,rfl,λj q=> ?_⟩,aL ?_,aL ?_,?_,eT hsz1 E.size⟩
     ·have q:p'.C j:=q
      rcases iB j wx.heap.size with D|D
      ·exact HP.out.2.2 j (hS1 j D q)
      omega
     ·rw[F.out]
      refine fV.snoc (X:=p'.X) (w:=w1) hv1 (λj D=> ?_) qi.out (hY.wide λj D q=> .inr (hYe j D q)) (λj D q=> ?_) Bo rfl
      ·obtain⟨Aj,cj,e1,e2⟩:=ac1.out j D
       exact⟨Aj,cj,e1,e2.on hpX Yj⟩
      rcases q with q|q
      ·exact .inl q
      right
      rw[EJ,HP.out.2.1]
      rcases q with q|q
      ·exact .inl q
      rcases at3 with e|e
      ·exact .inr (e▸q)
      rw[e]at q;injection q with q;omega
     ·exact hz1.grown E λe=>by
       have:=(gH hown1 _ e.symm).1;omega
     exact hB1.grown E hB1.size λj D=>by have:=(gH hown1 _ D).1;omega
    case measure=>simp[intOf];omega
   obtain rfl:k=l.length:=by omega
   have hj2:=HJS.out l.length;have M:=Qj.out l.length aR;have hok2:=Vq.out l.length;rw[gN]at H HO hj2 M hok2;obtain⟨a,hsk⟩:∃x,x=Sy.calls (Sy.start u) l:=⟨_,rfl⟩;have HF2:=aL HF.out;rw[<-hsk]at H HO HF2 hj2 M hok2;clear hsk HF;have Ul:=aL (V7 hj2 M);have hN0:(Rw.R a.1).objs.length=a.1.obs.length:=by simp[Rw.R]
   rw[hN0]at Ul;have xA:l.length<=80:=by omega
   have adU:a.1.obs.length<=80:=by have:=M.ol;omega
   have HCU:=aL (λW q i=>Ar p (Rw.R a.1) i W q M.fdl M.fdr (jr.abw M (by omega) hok2).fdd)
   clear hj2 M hok2;obtain⟨vs,hov⟩:=H.out.own;obtain⟨AO,cO,DK⟩:=iI hov;clear hov;have hg3:=H.out.cells;obtain⟨_,_,_,_,_,_,_,_,_,g3,_,_,_,_,_,abx⟩:=hg3;rw[DK,HP.out.1,hN0]at g3;rw[HP.out.1]at abx;go_wp2
   go_loopw [14,66] (λv i wx=>∃m:Nat,m<=a.1.obs.length/\i= .int .i64 m/\v= .int .i64 (((List.range m).countP λi=>Rw.used (Rw.R a.1) i:Nat):Int)/\Hid (aO wx p (Rw.R a.1))/\Hid (fV p.X wx (w.heap.size+2) u11 a.2)/\Hid (ai wx (w.heap.size+1) 35 [.slice none 0 0,.slice none 0 0,.slice none 0 0,(0:Int)])/\Below w.heap.size w wx/\w.heap.size+2<=wx.heap.size) (λ_ i _=>a.1.obs.length- (intOf i).toNat)
   case atStart=>exact⟨0,bL _,rfl,rfl,H,HO,HZ,K,hsz⟩
   case round=>
    clear H HO HZ K hsz g3 abx;obtain⟨m,hm,rfl,rfl,H,HO,HZ,K,hsz⟩:=hrel
    by_cases I:m<a.1.obs.length
    ·have hcn:((List.range m).countP λi=>Rw.used (Rw.R a.1) i)<=m:=by
      have:=List.countP_le_length (p:=λi=>Rw.used (Rw.R a.1) i) (l:=List.range m)
      rw[Ex]at this;exact this
     have HN:=aL (Ji m λi=>Rw.used (Rw.R a.1) i)
     have G:=HCU.out;rw[HP.out.1]at G;generalize hq:((List.range m).countP λi=>Rw.used (Rw.R a.1) i)=cn at*
     clear hq;have hlt1:decide ((m:Int)<(a.1.obs.length:Int))=true:=fw (by omega)
     go_wp2_with fail;refine(G _ H.out m).mono ?_
     rintro e w1 ⟨rfl,hb⟩;have HA1:=aL (H.out.below hb);have Zu:=aL (HO.out.fr hb);have HZ1:=aL (HZ.out.below hb HZ.out.lt);have hB1:=K.trans (hb.mono K.size);have hsz1:=eT hsz hb.size;clear H HO HZ K hsz G hb
     rcases tu:Rw.used (Rw.R a.1) m with _|_
     ·have Xu:Hid (((List.range (m+1)).countP λi=>Rw.used (Rw.R a.1) i)=cn):=aL (HN.out.trans (by rw[av (by rw[tu];simp)];rfl))
      go_wp2;go_roundw
      case rel=>exact⟨m+1,I,by go_num,by rw[Xu.out],HA1,Zu,HZ1,hB1,hsz1⟩
      case measure=>simp[intOf];omega
     have Xu:=aL (HN.out.trans (by rw[aM tu]))
     go_wp2;go_roundw
     case rel=>exact⟨m+1,I,by go_num,by rw[Xu.out];go_num,HA1,Zu,HZ1,hB1,hsz1⟩
     case measure=>simp[intOf];omega
    obtain rfl:m=a.1.obs.length:=by omega
    rw[Ul.out];clear Ul HCU;have hcl:=H.out.cells;obtain⟨Q,S,O,G,V,cT,g0,g1,g2,_,_,hU,hT,Np,ZF,gz⟩:=hcl;rw[HP.out.1]at g0 g1 g2 ZF gz;have HU:=aL hU;have HT:=aL hT;have z:=HZ.out.four;have hne1:¬w.heap.size+1=t:=by have:=Vr.out;omega
    have hne2:¬t=w.heap.size+1:=by have:=Vr.out;omega
    have acp:w.heap.size+1≠t:=hne1;clear hU hT;have g0:wr.cell? ⟨t,0,none⟩=some (.slice Q a.1.u.U.length G):=g0;have g1:wr.cell? ⟨t,1,none⟩=some (.slice S a.1.u.L.length V):=g1;have g2:wr.cell? ⟨t,2,none⟩=some (.slice O a.1.T.length cT):=g2;have hK4:(((((wr.setCell ⟨w.heap.size+1,0,none⟩ (.slice Q a.1.u.U.length G)).setCell ⟨w.heap.size+1,1,none⟩ (.slice S a.1.u.L.length V)).setCell ⟨w.heap.size+1,2,none⟩ (.slice O a.1.T.length cT)).setCell ⟨w.heap.size+1,3,none⟩ (.int .i64 a.1.files.length)).drew).cell? ⟨t,0,none⟩=some (.slice Q a.1.u.U.length G)/\(((((wr.setCell ⟨w.heap.size+1,0,none⟩ (.slice Q a.1.u.U.length G)).setCell ⟨w.heap.size+1,1,none⟩ (.slice S a.1.u.L.length V)).setCell ⟨w.heap.size+1,2,none⟩ (.slice O a.1.T.length cT)).setCell ⟨w.heap.size+1,3,none⟩ (.int .i64 a.1.files.length)).drew).cell? ⟨t,1,none⟩=some (.slice S a.1.u.L.length V)/\(((((wr.setCell ⟨w.heap.size+1,0,none⟩ (.slice Q a.1.u.U.length G)).setCell ⟨w.heap.size+1,1,none⟩ (.slice S a.1.u.L.length V)).setCell ⟨w.heap.size+1,2,none⟩ (.slice O a.1.T.length cT)).setCell ⟨w.heap.size+1,3,none⟩ (.int .i64 a.1.files.length)).drew).cell? ⟨t,2,none⟩=some (.slice O a.1.T.length cT):=by
     have lW:Fr (λj=>j=w.heap.size+1) wr ((((wr.setCell ⟨w.heap.size+1,0,none⟩ (.slice Q a.1.u.U.length G)).setCell ⟨w.heap.size+1,1,none⟩ (.slice S a.1.u.L.length V)).setCell ⟨w.heap.size+1,2,none⟩ (.slice O a.1.T.length cT)).setCell ⟨w.heap.size+1,3,none⟩ (.int .i64 a.1.files.length)):=((((Fr.refl (λj=>j=w.heap.size+1) wr).at_ 0 _).at_ 1 _).at_ 2 _).at_ 3 _
     exact⟨(lc (lW.block t gz hne2)).trans g0,(lc (lW.block t gz hne2)).trans g1,(lc (lW.block t gz hne2)).trans g2⟩
    go_upto_region 30 with fail
    go_region_held3 (λW=>W.cell? ⟨t,0,none⟩=some (.slice Q a.1.u.U.length G)/\W.cell? ⟨t,1,none⟩=some (.slice S a.1.u.L.length V)/\W.cell? ⟨t,2,none⟩=some (.slice O a.1.T.length cT)) (first|exact⟨g0,g1,g2⟩|exact hK4|go_keep) (fail)
    all_goals
     have lW:Fr (λj=>j=w.heap.size+1) wr ((((wr.setCell ⟨w.heap.size+1,0,none⟩ (.slice Q a.1.u.U.length G)).setCell ⟨w.heap.size+1,1,none⟩ (.slice S a.1.u.L.length V)).setCell ⟨w.heap.size+1,2,none⟩ (.slice O a.1.T.length cT)).setCell ⟨w.heap.size+1,3,none⟩ (.int .i64 a.1.files.length)):=((((Fr.refl (λj=>j=w.heap.size+1) wr).at_ 0 _).at_ 1 _).at_ 2 _).at_ 3 _
     have Vs:=lW.wide (X:=p.X) λj _ q=> .inr (by rw[HP.out.2.1];exact .inl q)
     have jv:=K.trans ((lW.below (B:=w.heap.size) (by omega) λj q=>by have q:j=w.heap.size+1:=q;omega))
     have hU9:=(HU.out.on Vs (Sub.refl _ _)).here;have hT9:=(HT.out.on Vs (Sub.refl _ _)).here;obtain⟨vs,hv1,hv2,hv3⟩:=HO.out;have Uf:o_ ((((wr.setCell ⟨w.heap.size+1,0,none⟩ (.slice Q a.1.u.U.length G)).setCell ⟨w.heap.size+1,1,none⟩ (.slice S a.1.u.L.length V)).setCell ⟨w.heap.size+1,2,none⟩ (.slice O a.1.T.length cT)).setCell ⟨w.heap.size+1,3,none⟩ (.int .i64 a.1.files.length)) u11 a.2:=fV.rd (X:=p.X) (base:=w.heap.size+2) ⟨vs,hv1,jJ hv2 lW λj D q=>by have:=(gH hv2 j D).1;have q:j=w.heap.size+1:=q;omega,λj D=>by
      obtain⟨Aj,cj,e1,e2⟩:=hv3 j D;exact⟨Aj,cj,e1,e2.on Vs (Sub.refl _ _)⟩⟩
     have pg:ai (((((wr.setCell ⟨w.heap.size+1,0,none⟩ (.slice Q a.1.u.U.length G)).setCell ⟨w.heap.size+1,1,none⟩ (.slice S a.1.u.L.length V)).setCell ⟨w.heap.size+1,2,none⟩ (.slice O a.1.T.length cT)).setCell ⟨w.heap.size+1,3,none⟩ (.int .i64 a.1.files.length)).drew) (w.heap.size+1) 35 [.slice Q a.1.u.U.length G,.slice S a.1.u.L.length V,.slice O a.1.T.length cT,a.1.files.length]:=((((HZ.out.bY 0 _).bY 1 _).bY 2 _).bY 3 _).drew;have kU:bT (((((wr.setCell ⟨w.heap.size+1,0,none⟩ (.slice Q a.1.u.U.length G)).setCell ⟨w.heap.size+1,1,none⟩ (.slice S a.1.u.L.length V)).setCell ⟨w.heap.size+1,2,none⟩ (.slice O a.1.T.length cT)).setCell ⟨w.heap.size+1,3,none⟩ (.int .i64 a.1.files.length)).drew) (((((wr.setCell ⟨w.heap.size+1,0,none⟩ (.slice Q a.1.u.U.length G)).setCell ⟨w.heap.size+1,1,none⟩ (.slice S a.1.u.L.length V)).setCell ⟨w.heap.size+1,2,none⟩ (.slice O a.1.T.length cT)).setCell ⟨w.heap.size+1,3,none⟩ (.int .i64 a.1.files.length)).drew).heap.size Q S G V a.1.u:=hU9.below (aa _ _).drew;have kT:aC (((((wr.setCell ⟨w.heap.size+1,0,none⟩ (.slice Q a.1.u.U.length G)).setCell ⟨w.heap.size+1,1,none⟩ (.slice S a.1.u.L.length V)).setCell ⟨w.heap.size+1,2,none⟩ (.slice O a.1.T.length cT)).setCell ⟨w.heap.size+1,3,none⟩ (.int .i64 a.1.files.length)).drew) (((((wr.setCell ⟨w.heap.size+1,0,none⟩ (.slice Q a.1.u.U.length G)).setCell ⟨w.heap.size+1,1,none⟩ (.slice S a.1.u.L.length V)).setCell ⟨w.heap.size+1,2,none⟩ (.slice O a.1.T.length cT)).setCell ⟨w.heap.size+1,3,none⟩ (.int .i64 a.1.files.length)).drew).heap.size O a.1.T:=hT9;have kO:o_ (((((wr.setCell ⟨w.heap.size+1,0,none⟩ (.slice Q a.1.u.U.length G)).setCell ⟨w.heap.size+1,1,none⟩ (.slice S a.1.u.L.length V)).setCell ⟨w.heap.size+1,2,none⟩ (.slice O a.1.T.length cT)).setCell ⟨w.heap.size+1,3,none⟩ (.int .i64 a.1.files.length)).drew) u11 a.2:=Uf;have kB:Below w.heap.size w (((((wr.setCell ⟨w.heap.size+1,0,none⟩ (.slice Q a.1.u.U.length G)).setCell ⟨w.heap.size+1,1,none⟩ (.slice S a.1.u.L.length V)).setCell ⟨w.heap.size+1,2,none⟩ (.slice O a.1.T.length cT)).setCell ⟨w.heap.size+1,3,none⟩ (.int .i64 a.1.files.length)).drew):=jv.drew;clear lW Vs jv hU9 hT9 hv1 hv2 hv3 Uf z g0 g1 g2 ZF gz;generalize ((((wr.setCell ⟨w.heap.size+1,0,none⟩ (.slice Q a.1.u.U.length G)).setCell ⟨w.heap.size+1,1,none⟩ (.slice S a.1.u.L.length V)).setCell ⟨w.heap.size+1,2,none⟩ (.slice O a.1.T.length cT)).setCell ⟨w.heap.size+1,3,none⟩ (.int .i64 a.1.files.length)).drew=w9 at*;have z:=pg.four;go_wp2_with fail;refine aD (v:= .tuple #[.agg #[.slice Q a.1.u.U.length G,.slice S a.1.u.L.length V,.slice O a.1.T.length cT,a.1.files.length],u11,(0:Int)]) ?_ rfl ?_
     ·simp[results,results27,go_sem,z]
     rw[HF2.out];exact⟨Q,S,G,V,O,cT,u11,rfl,kU,kT,Np,kO,kB⟩
theorem o_.V_{w w':World}{v:Value}{l:List An}(h:o_ w v l)(hb:Below w w w'):o_ w' v l:=by
 obtain⟨A,c,e,g,j,i,m⟩:=h
 exact⟨A,c,e,g,j,(Rd.below i hb).more hb.size,λk a=>by
  obtain⟨n,p,b,o⟩:=m k a;exact⟨n,p,b,(Rd.below o hb).more hb.size⟩⟩
theorem xx.V_{w w':World}{A:Option Addr}{l:List Ca}(h:xx w A l)(hb:Below w w w'):xx w' A l:=λk a=>by
 obtain⟨b,o,e,g⟩:=h k a;exact⟨b,o,e,g.below hb⟩
theorem o_.cells{w:World}{v:Value}{l:List An}(h:o_ w v l):∃A c,v= .slice A l.length c/\∀k,(hk:k<l.length)->∃b o Ak ck,A=some ⟨b,o,none⟩/\b<w.heap.size/\w.cell? ⟨b,o+k*4,none⟩=some (.int .i64 l[k].err)/\w.cell? ⟨b,o+(k*4+1),none⟩=some (.int .i64 l[k].n)/\w.cell? ⟨b,o+(k*4+2),none⟩=some (.string l[k].text)/\w.cell? ⟨b,o+(k*4+3),none⟩=some (.slice Ak l[k].names.length ck)/\bH w w Ak l[k].names:=by
 obtain⟨A,c,D,m,r,p,t⟩:=h;refine⟨A,c,m,λk hk=> ?_⟩
 obtain⟨b,o,e,x,g⟩:=p.2 (by omega)
 obtain⟨Ak,ck,j,B⟩:=t k hk;obtain⟨u,a,q,y,i,z⟩:=aaG r hk;rw[j]at a;injection a with a
 subst a;exact⟨b,o,Ak,ck,e,x,g _ _ q,g _ _ y,g _ _ i,g _ _ z,B⟩
theorem We(u:Un)(l:List Ca):iR (Sy.play u l).1.1/\(Sy.play u l).1.2.1.length<=80:=by
 by_cases h:(Sy.play u l).2.2=0
 ·exact⟨dU (Sy.play_ok2 h).1,(Sy.play_ok2 h).2.2.2.1⟩
 have b:iR Un.zero:=by
  refine⟨λl a=> ?_,by decide,λl a=> ?_⟩
  ·have a:l=[]:=by simpa[Un.all,Un.zero]using a
   subst a;exact⟨(λ_ h=>nomatch h),by decide⟩
  have a:l=[]:=by simpa[Un.all,Un.zero]using a
  subst a;decide
 rw[Sy.play_bad0 h];exact⟨b,bL _⟩
theorem sysTells_any(A A':Option Addr)(c c':Nat)(u:Un)(Al:Option Addr)(cl:Nat)(l:List Ca)(w:World)(hu:bT w w A A' c c' u)(hs:iR u)(hl:xx w Al l)(hsm:∀x∈l,jK x)(hn:l.length<=4000000):Calls prog 6 #[.agg #[.slice A u.U.length c,.slice A' u.L.length c'],.slice Al l.length cl] w λe w'=>e= .returned (.bool true)/\Below w w w':=by
 have HS:=aL hs;have HU:=aL hu;have HL:=aL hl;have lG:=aL hsm;have H:=(aa w w).alloc aR (.cells #[.slice A u.U.length c,.slice A' u.L.length c'] 33);have hq1:=ai.new w 33 [.slice A u.U.length c,.slice A' u.L.length c'];clear hu hs hl hsm;have v:∀a∈(Sy.play u l).2.1,a.names.length<=80:=Sy.play_names;have hps:=We u l;have hlen:(Sy.play u l).2.1.length<=4000000:=by
  by_cases h:(Sy.play u l).2.2=0
  ·rw[(Sy.play_len h).1];exact hn
  rw[Sy.play_bad0 h];exact bL _
 obtain⟨r,hr⟩:∃r,r=Sy.play u l:=⟨_,rfl⟩;rw[<-hr]at v hps hlen;have HR:=aL hr.symm;have HNM:=aL v;have HPS:=aL hps;clear hr v hps;obtain⟨⟨u2,T2,n2⟩,an,e2⟩:=r;dsimp only at HNM HPS hlen;go_enter func6,ntmps6;go_upto_region 1 with fail
 generalize w.alloc (.cells #[.slice A u.U.length c,.slice A' u.L.length c'] 33)=w1 at*;have S:=SI A A' Al c c' cl u l w1 ((HU.out.below H).more H.size) HS.out (HL.out.V_ H) lG.out hn;rw[HR.out]at S;unfold kP at S;dsimp only at S;have HC:=aL S;clear S;have q:=hq1.two;go_wp2_with fail;clear q;refine HC.out.mono ?_
 rintro e w3 ⟨A2,I,c2,O,V,N,va,rfl,Qd,hT2,-,hO2,y⟩;have hB3:=H.trans (y.mono H.size);have hq3:=hq1.below y hq1.lt;clear y H hq1 HC;have E:=(aa w3 w3).alloc aR (.cells #[.slice A2 u2.U.length c2,.slice I u2.L.length O,.slice V T2.length N,n2] 35);have G:=hB3.trans (E.mono hB3.size);have hq4:=hq3.below E hq3.lt;have hU4:=(Qd.below E).more E.size;have hT4:=(Rd.below hT2 E).more E.size;have hO4:=hO2.V_ E;have hs4:=ai.new w3 35 [.slice A2 u2.U.length c2,.slice I u2.L.length O,.slice V T2.length N,n2];clear E hB3 hT2 hO2 Qd hq3;go_upto_region 2 with fail
 change Code.wp _ _ _ _ (w3.alloc (.cells #[.slice A2 u2.U.length c2,.slice I u2.L.length O,.slice V T2.length N,n2] 35))
 generalize w3.alloc (.cells #[.slice A2 u2.U.length c2,.slice I u2.L.length O,.slice V T2.length N,n2] 35)=w4 at*;generalize w3.heap.size=gs at*;have S:=Jj A A' Al c c' cl u l w4 ((HU.out.below G).more G.size) HS.out (HL.out.V_ G) lG.out hn;rw[HR.out]at S;unfold kP at S;dsimp only at S;have HC:=aL S;clear S;have q:=hq4.two;go_wp2_with fail;clear q;refine HC.out.mono ?_
 rintro e w5 ⟨A3,Z,c3,c3',Q,Y,vb,rfl,hU3,hT3,-,hO3,y⟩;have dh:=G.trans (y.mono G.size);have hs5:=hs4.below y hs4.lt;have hU5:=(hU4.below y).more y.size;have hT5:=(Rd.below hT4 y).more y.size;have Js:=hO4.V_ y;clear y G hs4 hT4 hO4 HC hU4 hq4;have g:=(aa w5 w5).alloc aR (.cells #[.slice A3 u2.U.length c3,.slice Z u2.L.length c3',.slice Q T2.length Y,n2] 35);have pI:=dh.trans (g.mono dh.size);have hs6:=hs5.below g hs5.lt;have hU6:=(hU5.below g).more g.size;have hT6:=(Rd.below hT5 g).more g.size;have AA:=Js.V_ g;have hV6:=(hU3.below g).more g.size;have hY6:=(Rd.below hT3 g).more g.size;have hP6:=hO3.V_ g;have hx6:=ai.new w5 35 [.slice A3 u2.U.length c3,.slice Z u2.L.length c3',.slice Q T2.length Y,n2];clear g dh hs5 hT5 Js hT3 hU5 hU3 hO3;go_upto_region 3 with fail
 change Code.wp _ _ _ _ (w5.alloc (.cells #[.slice A3 u2.U.length c3,.slice Z u2.L.length c3',.slice Q T2.length Y,n2] 35))
 generalize w5.alloc (.cells #[.slice A3 u2.U.length c3,.slice Z u2.L.length c3',.slice Q T2.length Y,n2] 35)=M at*;generalize w5.heap.size=gx at*;obtain⟨Aa,ca,hva,-⟩:=AA.cells;obtain⟨Ab,cb,hvb,-⟩:=hP6.cells;obtain⟨m,hm⟩:∃m,m=an.length:=⟨_,rfl⟩;rw[<-hm]at hva hvb hlen;subst hva hvb;have HM:=aL hm;clear hm;have tne:(e2 !=e2)=false:=by simp
 have tme:((m:Int) !=(m:Int))=false:=by simp
 have s:=hs6.four;have z:=hx6.four;have cS:=BB u2 T2 n2 A2 I A3 Z V Q c2 O c3 c3' N Y M hU6 hV6 hT6 hY6 HPS.out.1 (by have:=HPS.out.2;omega)
 go_wp2_with fail;refine cS.mono ?_
 rintro e w8 ⟨rfl,y⟩;have sK:=pI.trans (y.mono pI.size);have XO:=AA.V_ y;have hP8:=hP6.V_ y;clear s z y pI hs6 hx6 hT6 hY6 hU6 hV6 AA hP6 cS;obtain⟨Aa',ca',hva,abA⟩:=XO.cells;obtain⟨Ab',cb',hvb,abB⟩:=hP8.cells;injection hva with ac5 ac6 ac7
 injection hvb with ac8 ac9 ada
 subst ac5 ac7 ac8 ada;have adb:=aL abA;have ade:=aL abB;clear abA abB XO hP8 ac6 ac9;have hmm:m<=an.length:=uE HM.out;go_wp2
 go_loopw [44] (λi wr=>∃k:Nat,k<=m/\i= .int .i64 k/\Below w8 w8 wr) (λi _=>m- (intOf i).toNat)
 case atStart=>exact⟨0,bL _,rfl,aa _ _⟩
 case round=>
  obtain⟨k,hk,rfl,B⟩:=hrel
  by_cases hlt:k<m
  ·have hkl:k<an.length:=by omega
   obtain⟨b,o,Ak,ck,rfl,K,p0,p1,p2,p3,pn⟩:=adb.out k hkl;obtain⟨j,t,Bk,dk,rfl,D,r0,r1,r2,r3,rn⟩:=ade.out k hkl;have hnn:=HNM.out an[k] (cz hkl);generalize an[k]=x at p0 p1 p2 p3 pn r0 r1 r2 r3 rn hnn;have hbr:b<wr:=bE K B.size;have F:j<wr:=bE D B.size;replace p0:wr.cell? ⟨b,o+k*4,none⟩=_:=(B.cell (p:=⟨b,o+k*4,none⟩) K).trans p0;replace p1:wr.cell? ⟨b,o+k*4+1,none⟩=_:=(B.cell (p:=⟨b,o+k*4+1,none⟩) K).trans p1;replace p2:wr.cell? ⟨b,o+k*4+2,none⟩=_:=(B.cell (p:=⟨b,o+k*4+2,none⟩) K).trans p2;replace p3:wr.cell? ⟨b,o+k*4+3,none⟩=_:=(B.cell (p:=⟨b,o+k*4+3,none⟩) K).trans p3;replace r0:wr.cell? ⟨j,t+k*4,none⟩=_:=(B.cell (p:=⟨j,t+k*4,none⟩) D).trans r0;replace r1:wr.cell? ⟨j,t+k*4+1,none⟩=_:=(B.cell (p:=⟨j,t+k*4+1,none⟩) D).trans r1;replace r2:wr.cell? ⟨j,t+k*4+2,none⟩=_:=(B.cell (p:=⟨j,t+k*4+2,none⟩) D).trans r2;replace r3:wr.cell? ⟨j,t+k*4+3,none⟩=_:=(B.cell (p:=⟨j,t+k*4+3,none⟩) D).trans r3;have pn:=(Rd.below pn B).more B.size;have rn:=(Rd.below rn B).more B.size;go_wp2_with fail
   go_region_held3 (λW=>W.cell? ⟨b,o+k*4,none⟩=some (.int .i64 x.err)/\W.cell? ⟨b,o+k*4+1,none⟩=some (.int .i64 x.n)/\W.cell? ⟨b,o+k*4+2,none⟩=some (.string x.text)/\W.cell? ⟨b,o+k*4+3,none⟩=some (.slice Ak x.names.length ck)/\W.cell? ⟨j,t+k*4,none⟩=some (.int .i64 x.err)/\W.cell? ⟨j,t+k*4+1,none⟩=some (.int .i64 x.n)/\W.cell? ⟨j,t+k*4+2,none⟩=some (.string x.text)/\W.cell? ⟨j,t+k*4+3,none⟩=some (.slice Bk x.names.length dk))
    (first|exact⟨p0,p1,p2,p3,r0,r1,r2,r3⟩|exact hS6|go_keep)
    (first|(go_at_call 29;refine(Az x Ak Bk ck dk _ (by exact pn) (by exact rn) (by omega)).mono ?_;rintro e M ⟨rfl,g⟩;have hS6:M.cell? ⟨b,o+k*4,none⟩=some (.int .i64 x.err)/\M.cell? ⟨b,o+k*4+1,none⟩=some (.int .i64 x.n)/\M.cell? ⟨b,o+k*4+2,none⟩=some (.string x.text)/\M.cell? ⟨b,o+k*4+3,none⟩=some (.slice Ak x.names.length ck)/\M.cell? ⟨j,t+k*4,none⟩=some (.int .i64 x.err)/\M.cell? ⟨j,t+k*4+1,none⟩=some (.int .i64 x.n)/\M.cell? ⟨j,t+k*4+2,none⟩=some (.string x.text)/\M.cell? ⟨j,t+k*4+3,none⟩=some (.slice Bk x.names.length dk):=⟨(g.cell (p:=⟨b,o+k*4,none⟩) (by exact hbr)).trans p0,(g.cell (p:=⟨b,o+k*4+1,none⟩) (by exact hbr)).trans p1,(g.cell (p:=⟨b,o+k*4+2,none⟩) (by exact hbr)).trans p2,(g.cell (p:=⟨b,o+k*4+3,none⟩) (by exact hbr)).trans p3,(g.cell (p:=⟨j,t+k*4,none⟩) (by exact F)).trans r0,(g.cell (p:=⟨j,t+k*4+1,none⟩) (by exact F)).trans r1,(g.cell (p:=⟨j,t+k*4+2,none⟩) (by exact F)).trans r2,(g.cell (p:=⟨j,t+k*4+3,none⟩) (by exact F)).trans r3⟩))
   all_goals
    have hb':Below wr wr M:=((aa _ wr).drew).trans g;clear p0 p1 p2 p3 r0 r1 r2 r3 pn rn;go_wp2;go_roundw
    case rel=>exact⟨k+1,hlt,by go_num,B.trans (hb'.mono B.size)⟩
    case measure=>simp[intOf];omega
  obtain rfl:k=m:=by omega
  go_wp2;go_ret;exact⟨rfl,sK.trans (B.mono sK.size)⟩
end Go.Proofs.YtjppfhgkanbemabGreatDoor
