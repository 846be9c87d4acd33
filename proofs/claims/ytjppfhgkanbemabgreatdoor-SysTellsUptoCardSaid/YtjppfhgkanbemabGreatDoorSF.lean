/- A part of the proof of SysTells: SF. -/
import Derived.Test.YtjppfhgkanbemabGreatDoorSC
import Derived.Test.YtjppfhgkanbemabGreatDoorLB
import Derived.Test.YtjppfhgkanbemabGreatDoorSB
import Derived.Deep.MidRow
import Derived.Deep.AppendLies
set_option maxHeartbeats 8000000
set_option maxRecDepth 100000
set_option linter.all false
namespace Go.Proofs.YtjppfhgkanbemabGreatDoor
open Tryz
open Go.RowKit Go.Shelf Go.Sort
abbrev xE(w:World)(g:Nat):Prop:=∃cs,ai w g 149 cs
theorem xE.keep{w w':World}{g:Nat}{row:Option Nat}(h:xE w g)(hg:w.grownBy w' row)(hr:some g≠row):xE w' g:=by
 obtain⟨a,h⟩:=h;exact⟨a,h.grown hg hr⟩
theorem zO(gb gd gi x:Nat)(w:World)(hb:w.cell? gb=some (ptr gd))(_:gb<w)(hd:w.cell? gd=some (ptr gi))(_:gd<w)(h1:xE w x)(h2:xE w gi):Calls prog 137 #[ptr x,.pointer gb] w λe w'=>e= .returned (.bool (x==gi))/\w'=w:=by
 obtain⟨_,h1⟩:=h1;obtain⟨_,h2⟩:=h2;have a:=Nq w h1 h2;unfold ptr at*;clear h1 h2;go_enter func137,ntmps137;go_wp2;go_ret;exact⟨rfl,rfl⟩
theorem KD(A:Option Addr)(c gb gd gi:Nat)(l:List Nat)(w:World)(hl:Rd w w 1 A l.length (l.map ptr))(hbig:l.length<=1000000)(hb:w.cell? gb=some (ptr gd))(hgb:gb<w)(hd:w.cell? gd=some (ptr gi))(hgd:gd<w)(h1:∀x∈l,xE w x)(h2:xE w gi):Calls prog 170 #[.slice A l.length c,.func (.func 137) #[] #[.pointer gb]] w λe w'=>∃i:Int,e= .returned (.int .i64 i)/\sU (λx:Nat=>x==gi) l i/\w'=w:=by
 have D:=aL hl;have B:=aL (λx g=>zO gb gd gi x w hb hgb hd hgd (h1 x g) h2)
 clear hb hgb hd hgd h1 h2 hl;go_enter func170,ntmps170
 go_wp2
 go_loopw [8] (λi wr=>Hid (wr=w)/\∃k:Nat,k<=l.length/\i= .int .i64 k/\Hid (∀x∈l.take k,(x==gi)=false)) (λi _=>l.length- (intOf i).toNat)
 case atStart=>exact⟨aL rfl,0,bL _,rfl,aL (by simp)⟩
 case round=>
  obtain⟨t,k,F,rfl,j⟩:=hrel;obtain rfl:=t.out;clear t
  by_cases a:k<l.length
  ·obtain⟨b,o,rfl,z,m⟩:=D.out.2 (by omega)
   have u:=m k (ptr l[k]) (by rw[pE,bA a];rfl)
   clear m;have q:=B.out l[k] (cz a);have n:Hid ((l[k]==gi)=false->∀x∈l.take (k+1),(x==gi)=false):=aL (by
    intro h x g;rw[aF a,gF]at g
    rcases g with g|g
    ·exact j.out x g
    simp at g;rw[g];exact h)
   have p:Hid ((l[k]==gi)=true->sU (λx:Nat=>x==gi) l k):=aL λh=> .inr ⟨k,rfl,a,h,j.out⟩
   obtain⟨y,r⟩:∃y,y=l[k]:=⟨_,rfl⟩;rw[<-r]at u q n p;clear r;unfold ptr at u q;go_wp2_with fail;refine q.mono ?_
   rintro e E ⟨rfl,rfl⟩
   rcases v:(y==gi)with _|_
   ·go_wp2
    go_roundw
    case rel=>exact⟨by first|exact aL rfl|exact aL trivial,k+1,a,by go_num,aL (n.out v)⟩
    case measure=>simp[intOf];omega
   go_wp2;go_ret;exact⟨_,rfl,p.out v,rfl⟩
  go_wp2;go_ret;refine⟨_,rfl,.inl ⟨rfl,?_⟩,rfl⟩
  have:=j.out;rw[fI (by omega)]at this
  exact this
theorem Ph{l:List Nat}{gi:Nat}(h:∀x∈l,(x==gi)=false):l.filter (λx=> !(x==gi))=l:=by
 rw[wN];intro x a;simp only[h x a]
 rfl
theorem Va:∀w,(zeroValue 144).run prog w= .ok (.pointer none) w:=λw=>by kernel_rfl
theorem Ih(base g cap gb gd gi:Nat)(l:List Nat)(w:World)(ho:w.ownsRow base 144 1 (.slice g l.length cap) l.length (l.map ptr))(hbig:l.length<=1000000)(hb:w.cell? gb=some (ptr gd))(hgb:gb<w)(hd:w.cell? gd=some (ptr gi))(hgd:gd<w)(h1:∀x∈l,xE w x)(h2:xE w gi)(hne:gb≠g)(hne2:gd≠g):Calls prog 136 #[.slice g l.length cap,.func (.func 137) #[] #[.pointer gb]] w λe w'=>∃v,e= .returned v/\w'.ownsRow base 144 1 v (l.filter λx=> !(x==gi)).length ((l.filter λx=> !(x==gi)).map ptr)/\(v.ownBlock=some g)/\w.grownBy w' (some g):=by
 have hl:Rd w w 1 (some ⟨g,0,none⟩) l.length (l.map ptr):=Rd.iK ho;have W:l.length<=cap:=by
  rcases aB ho with⟨h,_⟩|⟨g',c',h,_,_,G⟩
  ·cases h
  injection h with _ _ h;rw[h];exact G
 have Z:∀wr:World,w.grownBy wr (some g)->∀x∈l,Calls prog 137 #[ptr x,.pointer gb] wr λe w'=>e= .returned (.bool (x==gi))/\w'=wr:=λwr o x hx=>by
  have O:∀y,xE w y->some y≠some g:=λy B e=>by
   injection e with e
   subst e;obtain⟨cs,B⟩:=B;exact iG ho B (by decide) rfl
  have e1:wr.cell? gb=w.cell? gb:=lc (o.block gb hgb (by intro e;injection e with e;exact hne e))
  have e2:wr.cell? gd=w.cell? gd:=lc (o.block gd hgd (by intro e;injection e with e;exact hne2 e))
  exact zO gb gd gi x wr (e1.trans hb) (bE hgb o.size) (e2.trans hd) (bE hgd o.size) ((h1 x hx).keep o (O x (h1 x hx))) (h2.keep o (O gi h2))
 have HF:=aL Z;have cI:=KD _ cap gb gd gi l w hl hbig hb hgb hd hgd h1 h2;have K:∀wr:World,w.grownBy wr (some g)->g<wr:=λwr o=>by
  rcases aB ho with⟨n,_⟩|⟨g',c',n,_,hz,_⟩
  ·cases n
  injection n with n;injection n with n;injection n with n;rw[n];exact bE hz o.size
 clear Z hb hgb hd hgd h1 h2 hl;go_enter func136,ntmps136;go_wp2_with fail;refine cI.mono ?_
 rintro e Q ⟨i,rfl,hi,z⟩;have q:w.grownBy Q (some g):=by rw[z];exact Ao w _
 have t:Q.ownsRow base 144 1 (.slice g l.length cap) l.length (l.map ptr):=by rw[z];exact ho
 clear z ho cI
 rcases hi with⟨rfl,b⟩|⟨k,rfl,F,hp,b⟩
 ·have Hn:=aL (Ph b)
  clear b;go_wp2;go_ret;exact⟨_,rfl,by rw[Hn.out];exact t,rfl,q⟩
 have m:=aL (iM.start (p:=(λx:Nat=>x==gi)) F hp b)
 clear hp b;have H:((k:Int)== -1)=false:=by simp
 go_wp2
 go_loopw [5,6] (λvi vj wr=>∃(i j:Nat) (r:List Nat),vi= .int .i64 i/\vj= .int .i64 j/\j<=l.length/\i<l.length/\Hid (iM (λx:Nat=>x==gi) l r i j)/\wr.ownsRow base 144 1 (.slice g l.length cap) l.length (r.map ptr)/\w.grownBy wr (some g)) (λ_ j _=>l.length- (intOf j).toNat)
 case atStart=>exact⟨k,k+1,l,rfl,by go_num,F,F,m,t,q⟩
 case round=>
  clear m t q H F;obtain⟨i,j,r,rfl,rfl,hjl,D,m,a,c⟩:=hrel
  by_cases E:j<l.length
  ·have L:j<r.length:=by rw[m.out.len];exact E
   have I:=aL (m.out.at_ E)
   have h0:wr.cell? ⟨g,j,none⟩=some (ptr r[j]):=(a.cellAt j (by omega)).trans (by rw[pE,bA L];rfl)
   have Y:=HF.out wr c r[j] (by rw[I.out];exact cz E)
   generalize B:r[j]=y at*;have V:=aL (I.out.symm);clear B I;have hgw:=K wr c;unfold ptr at h0 Y;go_wp2_with fail;refine Y.mono ?_
   rintro e S ⟨rfl,rfl⟩
   rcases G:(y==gi)with _|_
   ·have U:i<(r.map ptr).length:=by rw[ib,m.out.len];exact D
    have c0:∃u,S.cell? ⟨g,i,none⟩=some u:=⟨_,(a.cellAt i (by omega)).trans (bA U)⟩
    obtain⟨u0,c0⟩:=c0;have fz:S.frozen? ⟨g,i,none⟩=false:=a.frozenAt i;clear U;go_wp2;go_roundw
    case rel=>
     obtain⟨o1,g1⟩:=a.stored i (.pointer y);have hd:=m.out.keep E V.out G;exact⟨i+1,j+1,_,by go_num,by go_num,by omega,by have:=hd.lt;omega,aL hd,by rw[List.map_set];exact o1,bG c g1⟩
    case measure=>simp[intOf];omega
   go_wp2;go_roundw
   case rel=>exact⟨i,j+1,r,rfl,by go_num,by omega,D,aL (m.out.skip E V.out G),a,c⟩
   case measure=>simp[intOf];omega
  have ej:j=l.length:=by omega
  subst ej;have hic:i<=cap:=by omega
  obtain⟨w9,hrun,A,M⟩:=kJ (P:=prog) (size:=1) 66 0 (.pointer none) underlying66 Va rfl (by simp[Value.cells,Value.oneCell']) a i (cap-i) (some ⟨g,i,none⟩) (by omega) (λ_=>by rw[FJ])
  go_wp2;go_ret;refine⟨_,rfl,?_,rfl,bG c M⟩
  rw[FJ,<-List.map_take]at A;have hd:=m.out.done;have N:(l.filter λx=> !(x==gi)).length=i:=by
   rw[<-hd,bR,m.out.len];omega
  rw[N,<-hd];exact A
theorem Ii{P:Program}(w:World){t te:TypeId}(p:Option Addr)(hp:P.underlying t=some (.pointer te)):(binOp .eql t (.pointer p) (.pointer none)).run P w= .ok (.bool p.isNone) w:=by
 have h:∀d:Nat,(Op.equalIn (d+1) t (.pointer p) (.pointer none)).run P w= .ok p.isNone w:=λd=>by
  cases p<;>simp[Op.equalIn,u7 hp]
 simp only[binOp];simp[Op.equal,Op.maxDepth,h 9999]
theorem Bh{P:Program}(w:World){t te:TypeId}(p:Option Addr)(hp:P.underlying t=some (.pointer te)):(binOp .neq t (.pointer p) (.pointer none)).run P w= .ok (.bool (!p.isNone)) w:=by
 have h:∀d:Nat,(Op.equalIn (d+1) t (.pointer p) (.pointer none)).run P w= .ok p.isNone w:=λd=>by
  cases p<;>simp[Op.equalIn,u7 hp]
 simp only[binOp];simp[Op.equal,Op.maxDepth,h 9999]
def leads(s:St)(i:Nat)(x:Option Nat):Bool:=match x with
 |some d=>(Sy.deAt s d).o==i
 |none=>false
theorem Sv(s:St)(i:Nat):Sy.used s i=s.fds.any λr=>r.any (leads s i):=rfl
theorem Pj(p:Pl)(s:St)(n gb i:Nat)(x:Option Nat)(w:World)(h:aQ w p s)(hi:Sy.In n s)(hx:∀d,x=some d->d<s.des.length)(hl:i<s.obs.length)(hb:w.cell? gb=some (ptr (p.f i)))(_:gb<w):Calls prog 169 #[sN p.D x,.pointer gb] w λe w'=>e= .returned (.bool (leads s i x))/\Below w w w':=by
 have u:=λ(W:World) (p:Option Addr)=>Bh (P:=prog) W p underlying67
 cases x with
 |none=>
  have A:leads s i none=false:=rfl;rw[A];unfold sN ptr at*;clear hb;go_enter func169,ntmps169;go_upto_region 1 with fail
  refine eO (by kernel_rfl) (by kernel_rfl) ?_
  repeat(first|go_big_quiet_step (fail)|quiet_step (fail))
  refine ic ?_
  intro E b;obtain⟨l,a⟩:=b;go_wp2;go_ret;exact⟨rfl,by rw[a];exact below_drewN (aa _ _) l⟩
 |some d=>
  have r:=hx d rfl;have j:=h.de d r;have m:=(hi.deAt r).1;obtain⟨_,k⟩:=h.G5 m;obtain⟨_,g⟩:=h.G5 hl;have y:Hid ((p.f (Sy.deAt s d).o==p.f i)=leads s i (some d)):=aL (by
   show _=((Sy.deAt s d).o==i)
   by_cases q:(Sy.deAt s d).o=i
   ·rw[q];simp
   ·have G:p.f (Sy.deAt s d).o≠p.f i:=λe=>q (h.RG m hl e)
    rw[beq_eq_false_iff_ne.2 q,beq_eq_false_iff_ne.2 G])
  have c:∀W:World,W.heap=w.heap->(binOp .eql 144 (.pointer (some ⟨p.f (Sy.deAt s d).o,0,none⟩)) (.pointer (p.f i:Nat))).run prog W= .ok (.bool (p.f (Sy.deAt s d).o==p.f i)) W:=λW t=>Nq W (by unfold ai at k ⊢;rw[t];exact k) (by unfold ai at g ⊢;rw[t];exact g)
  have L:=c w rfl;have B:=λn=>c (w.drewN n) rfl
  clear c k g h hi hx m hl;unfold J_ at j;have z:=j.four;obtain⟨R,v⟩:∃R,R=leads s i (some d):=⟨_,rfl⟩;rw[<-v]at y ⊢;clear v j;unfold Pl.f Pl.d sN ptr at*
  change Calls prog 169 #[.pointer (p.D.getD d 0:Nat),.pointer gb] w _
  generalize p.F.getD (Sy.deAt s d).o 0=H at*;generalize p.F.getD i 0=K at*;generalize p.D.getD d 0=I at*;generalize Sy.deAt s d=de at*;go_enter func169,ntmps169;go_upto_region 1 with fail
  refine eO (by kernel_rfl) (by kernel_rfl) ?_
  repeat(first|go_big_quiet_step (fail)|quiet_step (fail))
  refine ic ?_
  intro E b;obtain⟨l,a⟩:=b;go_wp2;go_ret;exact⟨by rw[y.out];rfl,by rw[a];exact below_drewN (aa _ _) l⟩
theorem Vb{α:Type}{p:α->Bool}{l:List α}{i:Int}(h:sU p l i):decide (0<=i)=l.any p:=by
 rcases h with⟨rfl,h⟩|⟨k,rfl,a,h,_⟩
 ·rw[show l.any p=false from by rw[GQ];intro x b;simp[h x b]];rfl
 rw[show l.any p=true from List.any_eq_true.2 ⟨_,cz a,h⟩]
 exact fw (by omega)
theorem KE(p:Pl)(s:St)(n gb g i:Nat)(r:List (Option Nat))(w:World)(h:aQ w p s)(hi:Sy.In n s)(hr:r.length=8)(hx:∀d,some d∈r->d<s.des.length)(hl:i<s.obs.length)(hg:g<w)(hc:∀k,(hk:k<r.length)->w.cell? ⟨g,k,none⟩=some (sN p.D r[k]))(hb:w.cell? gb=some (ptr (p.f i)))(hgb:gb<w):Calls prog 191 #[.slice g 8 8,.func (.func 169) #[] #[.pointer gb]] w λe w'=>∃j:Int,e= .returned (.int .i64 j)/\sU (leads s i) r j/\Below w w w':=by
 have G:=aL (λ(wr:World) (a:Below w w wr) (k:Nat) (hk:k<r.length)=>(⟨(a.cell (p:=⟨g,k,none⟩) hg).trans (hc k hk),Pj p s n gb i r[k] wr (h.below a) hi (λd F=>hx d (F▸cz hk)) hl ((a.cell (p:=gb) hgb).trans hb) (bE hgb a.size)⟩:wr.cell? ⟨g,k,none⟩=some (sN p.D r[k])/\Calls prog 169 #[sN p.D r[k],.pointer gb] wr λe w'=>e= .returned (.bool (leads s i r[k]))/\Below wr wr w'))
 clear hb hgb hx h hi hl hc;go_enter func191,ntmps191
 go_wp2
 go_loopw [8] (λj wr=>∃k:Nat,k<=8/\j= .int .i64 k/\Hid (∀x∈r.take k,leads s i x=false)/\Below w w wr) (λj _=>8- (intOf j).toNat)
 case atStart=>exact⟨0,bL _,rfl,aL (by simp),aa _ _⟩
 case round=>
  obtain⟨k,hk,rfl,b,a⟩:=hrel
  by_cases u:k<8
  ·have c:k<r.length:=by omega
   obtain⟨B,z⟩:=G.out wr a k c;have m:Hid (leads s i r[k]=false->∀x∈r.take (k+1),leads s i x=false):=aL (by
    intro h x hx;rw[aF c,gF]at hx
    rcases hx with hx|hx
    ·exact b.out x hx
    simp at hx;rw[hx];exact h)
   have t:Hid (leads s i r[k]=true->sU (leads s i) r k):=aL λh=> .inr ⟨k,rfl,c,h,b.out⟩
   obtain⟨y,A⟩:∃y,y=r[k]:=⟨_,rfl⟩;rw[<-A]at B z m t;clear A;obtain⟨E,q⟩:∃E,sN p.D y= .pointer E:=by cases y<;>exact⟨_,rfl⟩
   rw[q]at B z;clear q;have H:=bE hg a.size;go_wp2_with fail;refine z.mono ?_
   rintro e I ⟨rfl,v⟩;have o:=a.trans (v.mono a.size)
   rcases l:leads s i y with _|_
   ·go_wp2
    go_roundw
    case rel=>exact⟨k+1,u,by go_num,aL (m.out l),o⟩
    case measure=>simp[intOf];omega
   go_wp2;go_ret;exact⟨_,rfl,t.out l,o⟩
  go_wp2;go_ret;refine⟨_,rfl,.inl ⟨rfl,?_⟩,a⟩
  have:=b.out;rw[fI (by omega)]at this
  exact this
theorem Bi(p:Pl)(s:St)(n gb g i:Nat)(r:List (Option Nat))(w:World)(h:aQ w p s)(hi:Sy.In n s)(hr:r.length=8)(hx:∀d,some d∈r->d<s.des.length)(hl:i<s.obs.length)(hg:g<w)(hc:∀k,(hk:k<r.length)->w.cell? ⟨g,k,none⟩=some (sN p.D r[k]))(hb:w.cell? gb=some (ptr (p.f i)))(hgb:gb<w):Calls prog 168 #[.slice g 8 8,.func (.func 169) #[] #[.pointer gb]] w λe w'=>e= .returned (.bool (r.any (leads s i)))/\Below w w w':=by
 have c:=KE p s n gb g i r w h hi hr hx hl hg hc hb hgb;clear h hi hr hx hl hg hc hb hgb;go_enter func168,ntmps168;go_wp2_with fail;refine c.mono ?_
 rintro e l ⟨j,rfl,a,hb⟩;have b:=aL (Vb a);clear a;go_wp2;go_ret;exact⟨by rw[<-b.out];rfl,hb⟩
theorem XY(c0 c1 c2 c3 c4 c5 c6 c7 c8 c9 c10 c11 c12 c13 c14 c15 c16 c17 c18 c19 c20 c21 Ij c23 c24 c25 Ik Il c28 c29 Io c31:Value)(W:World):(Instr.index 69 (.agg #[c0,c1,c2,c3,c4,c5,c6,c7,c8,c9,c10,c11,c12,c13,c14,c15,c16,c17,c18,c19,c20,c21,Ij,c23,c24,c25,Ik,Il,c28,c29,Io,c31]) (.int .i64 0)).run prog W= .ok (.agg #[c0,c1,c2,c3,c4,c5,c6,c7]) W:=by kernel_rfl
theorem XZ(c0 c1 c2 c3 c4 c5 c6 c7 c8 c9 c10 c11 c12 c13 c14 c15 c16 c17 c18 c19 c20 c21 Ij c23 c24 c25 Ik Il c28 c29 Io c31:Value)(W:World):(Instr.index 69 (.agg #[c0,c1,c2,c3,c4,c5,c6,c7,c8,c9,c10,c11,c12,c13,c14,c15,c16,c17,c18,c19,c20,c21,Ij,c23,c24,c25,Ik,Il,c28,c29,Io,c31]) (.int .i64 1)).run prog W= .ok (.agg #[c8,c9,c10,c11,c12,c13,c14,c15]) W:=by kernel_rfl
theorem X0(c0 c1 c2 c3 c4 c5 c6 c7 c8 c9 c10 c11 c12 c13 c14 c15 c16 c17 c18 c19 c20 c21 Ij c23 c24 c25 Ik Il c28 c29 Io c31:Value)(W:World):(Instr.index 69 (.agg #[c0,c1,c2,c3,c4,c5,c6,c7,c8,c9,c10,c11,c12,c13,c14,c15,c16,c17,c18,c19,c20,c21,Ij,c23,c24,c25,Ik,Il,c28,c29,Io,c31]) (.int .i64 2)).run prog W= .ok (.agg #[c16,c17,c18,c19,c20,c21,Ij,c23]) W:=by kernel_rfl
theorem X3(c0 c1 c2 c3 c4 c5 c6 c7 c8 c9 c10 c11 c12 c13 c14 c15 c16 c17 c18 c19 c20 c21 Ij c23 c24 c25 Ik Il c28 c29 Io c31:Value)(W:World):(Instr.index 69 (.agg #[c0,c1,c2,c3,c4,c5,c6,c7,c8,c9,c10,c11,c12,c13,c14,c15,c16,c17,c18,c19,c20,c21,Ij,c23,c24,c25,Ik,Il,c28,c29,Io,c31]) (.int .i64 3)).run prog W= .ok (.agg #[c24,c25,Ik,Il,c28,c29,Io,c31]) W:=by kernel_rfl
theorem ab5{D:List Nat}{fds:List (List (Option Nat))}(hl:fds.length=4)(hr:∀r∈fds,r.length=8){k:Nat}(hk:k<4):∃a0 a1 a2 a3 a4 a5 a6 a7:Option Addr,
  (fds.getD k []).map (sN D)=[.pointer a0,.pointer a1,.pointer a2,.pointer a3,.pointer a4,.pointer a5,.pointer a6,.pointer a7]/\
  ∀W,(Instr.index 69 (.agg (Sy.bW D fds).toArray) (.int .i64 k)).run prog W= .ok (.agg #[.pointer a0,.pointer a1,.pointer a2,.pointer a3,.pointer a4,.pointer a5,.pointer a6,.pointer a7]) W:=by
 have one:∀r:List (Option Nat),r.length=8->∃a0 a1 a2 a3 a4 a5 a6 a7:Option Addr,r.map (sN D)=[.pointer a0,.pointer a1,.pointer a2,.pointer a3,.pointer a4,.pointer a5,.pointer a6,.pointer a7]:=λr h=>by
  have b:∀x,∃a,sN D x= .pointer a:=λx=>by cases x<;>exact⟨_,rfl⟩
  match r,h with
  |[x0,x1,x2,x3,x4,x5,x6,x7],_=>
   obtain⟨a0,Q⟩:=b x0;obtain⟨a1,U⟩:=b x1;obtain⟨a2,O⟩:=b x2;obtain⟨a3,Z⟩:=b x3;obtain⟨a4,S⟩:=b x4;obtain⟨a5,Y⟩:=b x5;obtain⟨a6,h6⟩:=b x6;obtain⟨a7,V⟩:=b x7;exact⟨a0,a1,a2,a3,a4,a5,a6,a7,by simp[Q,U,O,Z,S,Y,h6,V]⟩
 match fds,hl with
 |[r0,r1,r2,r3],_=>
  obtain⟨a0,a1,a2,a3,a4,a5,a6,a7,ha⟩:=one r0 (hr _ (by simp))
  obtain⟨p,j,H,o,G,l,m,z,n⟩:=one r1 (hr _ (by simp))
  obtain⟨M,w,y,B,L,E,K,q,N⟩:=one r2 (hr _ (by simp))
  obtain⟨A,t,g,i,I,F,v,u,c⟩:=one r3 (hr _ (by simp))
  have e:(Sy.bW D [r0,r1,r2,r3]).toArray=#[.pointer a0,.pointer a1,.pointer a2,.pointer a3,.pointer a4,.pointer a5,.pointer a6,.pointer a7,.pointer p,.pointer j,.pointer H,.pointer o,.pointer G,.pointer l,.pointer m,.pointer z,.pointer M,.pointer w,.pointer y,.pointer B,.pointer L,.pointer E,.pointer K,.pointer q,.pointer A,.pointer t,.pointer g,.pointer i,.pointer I,.pointer F,.pointer v,.pointer u]:=by
   unfold Sy.bW;simp[ha,n,N,c]
  rw[e];obtain h|h|h|h:k=0\/k=1\/k=2\/k=3:=by omega
  ·subst h;exact⟨a0,a1,a2,a3,a4,a5,a6,a7,ha,λW=>XY _ _ _ _ _ _ _ _ _ _ _ _ _ _ _ _ _ _ _ _ _ _ _ _ _ _ _ _ _ _ _ _ W⟩
  ·subst h;exact⟨p,j,H,o,G,l,m,z,n,λW=>XZ _ _ _ _ _ _ _ _ _ _ _ _ _ _ _ _ _ _ _ _ _ _ _ _ _ _ _ _ _ _ _ _ W⟩
  ·subst h;exact⟨M,w,y,B,L,E,K,q,N,λW=>X0 _ _ _ _ _ _ _ _ _ _ _ _ _ _ _ _ _ _ _ _ _ _ _ _ _ _ _ _ _ _ _ _ W⟩
  ·subst h;exact⟨A,t,g,i,I,F,v,u,c,λW=>X3 _ _ _ _ _ _ _ _ _ _ _ _ _ _ _ _ _ _ _ _ _ _ _ _ _ _ _ _ _ _ _ _ W⟩
theorem Sz{α:Type}{p:α->Bool}{l:List α}{k:Nat}(hk:k<l.length)(h:(l.take k).any p=false):(l.take (k+1)).any p=p l[k]:=by
 rw[aF hk,AJ,h,rz];simp
theorem Vd{α:Type}{p:α->Bool}{l:List α}{k:Nat}(hk:k<l.length)(h:p l[k]=true):l.any p=true:=List.any_eq_true.2 ⟨_,cz hk,h⟩
theorem SB(p:Pl)(s:St)(n i:Nat)(w:World)(h:aQ w p s)(hi:Sy.In n s)(hl:i<s.obs.length):Calls prog 135 #[.pointer p.gs,ptr (p.f i)] w λe w'=>e= .returned (.bool (Sy.used s i))/\Below w w w':=by
 have hA:=aL h;have HI:=aL hi;rw[Sv];have l:=(aa w w).alloc aR (.cells #[ptr (p.f i)] 144);have t:=ai.new w 144 [ptr (p.f i)];unfold ptr at l t ⊢;have hgs:p.gs<w:=h.bz h.jq;have y:Hid (∀W,Below w w W->World.rangeAt W p.gs 4 (Sy.bW p.D s.fds)):=aL λW hW j v hv=>by
  obtain⟨AU,AL,AT,cU,cL,cT,Z,_⟩:=(h.below hW).box;rw[Z.cell (4+j),show 4+j=j+1+1+1+1 by omega]
  exact hv
 have o:Hid ((prog.info? 69).map (·.size)=some (Sy.bW p.D s.fds).length):=aL (by rw[Sy.Ry hi.fdr,hi.fdl];kernel_rfl)
 have q:=aL (λk (hk:k<4)=>ab5 (D:=p.D) hi.fdl hi.fdr hk)
 have m:=aL hi.fdl;clear h hi;obtain⟨CL,A⟩:∃C,C=Sy.bW p.D s.fds:=⟨_,rfl⟩;rw[<-A]at y q o;clear A;obtain⟨C,A⟩:∃C,C=CL.toArray:=⟨_,rfl⟩;rw[<-A]at q;have HC:=aL A;clear A;go_enter func135,ntmps135;go_upto_region 1 with fail
 generalize w.alloc (.cells #[.pointer (p.f i:Nat)] 144)=w1 at*
 go_wp2_with ((refine wpList_load_mid rfl 69 _ rfl p.gs 4 rfl CL _ (y.out w1 l) underlying69 rfl o.out ?_);rw[<-HC.out])
 go_loopw [11] (λj wr=>∃k:Nat,k<=4/\j= .int .i64 k/\Hid ((s.fds.take k).any (λr=>r.any (leads s i))=false)/\Below w w wr/\ai wr w 144 [.pointer (p.f i:Nat)]) (λj _=>4- (intOf j).toNat)
 case atStart=>exact⟨0,bL _,rfl,aL (by simp),l,t⟩
 case round=>
  clear l t;obtain⟨k,hk,rfl,a,hB,hz⟩:=hrel
  by_cases B:k<4
  ·obtain⟨O,Q,S,I,L,K,N,F,b,hix⟩:=q.out k B
   have c:k<s.fds.length:=by rw[m.out];exact B
   have H:s.fds.getD k []=s.fds[k]:=by rw[bi,bA c];rfl
   rw[H]at b;have E:Hid ((s.fds[k].any (leads s i))=false->(s.fds.take (k+1)).any (λr=>r.any (leads s i))=false):=aL λh=>(Sz c a.out).trans h
   have Y:Hid ((s.fds[k].any (leads s i))=true->s.fds.any (λr=>r.any (leads s i))=true):=aL λh=>Vd (p:=λr=>r.any (leads s i)) c h
   have G:s.fds[k].length=8:=HI.out.fdr _ (cz c);have U:∀d,some d∈s.fds[k]->d<s.des.length:=λd hd=>HI.out.fdd _ (cz c) d hd
   have z:Hid (∀W g,Below w w W->ai W g 68 [.pointer O,.pointer Q,.pointer S,.pointer I,.pointer L,.pointer K,.pointer N,.pointer F]->ai W w 144 [.pointer (p.f i:Nat)]->Calls prog 168 #[.slice g 8 8,.func (.func 169) #[] #[.pointer w]] W λe w'=>e= .returned (.bool (s.fds[k].any (leads s i)))/\Below W W w'):=aL λW g hW hg M=>
    Bi p s n w g i s.fds[k] W (hA.out.below hW) HI.out G U hl hg.lt (λj hj=>by
     rw[hg.cell j,<-b,pE,bA hj];rfl) (M.cell 0) M.lt
   obtain⟨R,hR⟩:∃R,R=s.fds[k].any (leads s i):=⟨_,rfl⟩;rw[<-hR]at z E Y;clear hR b G U H y;go_upto_region 4 with fail
   have x:=hB.alloc hB.size (.cells #[.pointer O,.pointer Q,.pointer S,.pointer I,.pointer L,.pointer K,.pointer N,.pointer F] 68);have hg2:=ai.new wr 68 [.pointer O,.pointer Q,.pointer S,.pointer I,.pointer L,.pointer K,.pointer N,.pointer F];have u:=hz.alloc (.cells #[.pointer O,.pointer Q,.pointer S,.pointer I,.pointer L,.pointer K,.pointer N,.pointer F] 68);generalize wr.alloc (.cells #[.pointer O,.pointer Q,.pointer S,.pointer I,.pointer L,.pointer K,.pointer N,.pointer F] 68)=w2 at*;have c1:=z.out w2 wr x hg2 u;clear hix z hB hz;go_wp2_with fail;refine c1.mono ?_
   rintro e w3 ⟨rfl,Z⟩;have V:=x.trans (Z.mono x.size);have hz3:=u.below Z u.lt
   cases R
   ·have HS:=aL (E.out rfl)
    go_wp2;go_roundw
    case rel=>exact⟨k+1,by omega,by go_num,HS,V,hz3⟩
    case measure=>simp[intOf];omega
   have HS:=aL (Y.out rfl);go_wp2;go_ret;exact⟨by rw[HS.out];rfl,V⟩
  have a:=a.out;rw[fI (by rw[m.out];omega)]at a
  have qi:=aL a;clear a;go_wp2;go_ret;exact⟨by rw[qi.out];rfl,hB⟩
theorem aW.off{w:World}{lo:Nat}{v:Value}{l:List Lk}(h:aW w lo v l){X:Nat->Prop}(hx:∀k,X k->k<lo):∃A c,v= .slice A l.length c/\l.length<=c/\Off X w λw=>dJ w w A l:=xR h hx
theorem Pm(p:Pl)(s:St)(n i b o:Nat)(c:Ca)(w:World)(h:aQ w p s)(hi:Sy.In n s)(hl:i<s.obs.length)(hc:lu w b o c):Calls prog 110 #[.pointer p.gs,.pointer (some ⟨b,o,none⟩),.pointer (p.f i:Nat)] w (mD p (Sy.callLock s c i) w):=by
 have hA:=aL h;obtain⟨A,cp,hf,hfo,Z⟩:=h.ob i hl;have HFO:=aL hfo;clear hfo;have hln:=(hi.obAt i).2.2;obtain⟨R,hR⟩:∃R,R=Sy.callLock s c i:=⟨_,rfl⟩;rw[<-hR];unfold Sy.callLock at hR;dsimp only at hR;have x:=aL hR;clear hR hi h;obtain⟨ob,hob⟩:∃ob,ob=Sy.obAt s i:=⟨_,rfl⟩;rw[<-hob]at x hf HFO Z hln;have HOB:=aL hob;clear hob;obtain⟨pa,t,l⟩:=ob;dsimp only at hf HFO Z hln x;have hA0:=hA.out.plus (.cells #[(0:Int),(0:Int),Qs.e,()] 43);have hB0:=(aa w w).alloc aR (.cells #[(0:Int),(0:Int),Qs.e,()] 43);have hz0:=ai.new w 43 [(0:Int),(0:Int),Qs.e,()];have hc0:=hc.below hB0;have hf0:=hf.alloc (.cells #[(0:Int),(0:Int),Qs.e,()] 43);have O:¬w.heap.size=p.f i:=λe=>by have:=hf.lt;omega
 have hcw:¬b=w.heap.size:=λe=>by have:=hc.1;omega
 go_enter func110,ntmps110;go_upto_region 1 with fail
 generalize w.alloc (.cells #[(0:Int),(0:Int),Qs.e,()] 43)=w0 at*;have vP:=aL hc0;obtain⟨hcb,c0,c1,c2,c3,c4,c5,c6,c7,c8⟩:=vP.out;have hB1:=(hB0.alloc hB0.size (.cells #[c.owner,c.n,c.m,c.alone] 166)).drew;have E:=hA0.below (((aa _ w0).alloc aR (.cells #[c.owner,c.n,c.m,c.alone] 166)).drew);have hz1:=(hz0.alloc (.cells #[c.owner,c.n,c.m,c.alone] 166)).drew;have V:=(hf0.alloc (.cells #[c.owner,c.n,c.m,c.alone] 166)).drew;have ry:=aL (vP.out.below (((aa _ w0).alloc aR (.cells #[c.owner,c.n,c.m,c.alone] 166)).drew));have hl1:ai (w0.alloc (.cells #[c.owner,c.n,c.m,c.alone] 166)).drew w0 166 [c.owner,c.n,c.m,c.alone]:=ai.new _ _ _;have hxl:w.heap.size<w0:=hz0.lt
 go_region_held3 (λW=>W.cell? ⟨b,o+1,none⟩=some (.int .i64 c.owner)/\W.cell? ⟨b,o+3,none⟩=some (.int .i64 c.n)/\W.cell? ⟨b,o+4,none⟩=some (.int .i64 c.m)/\W.cell? ⟨b,o+8,none⟩=some (.bool c.alone)) (first|go_keep|exact⟨c1,c3,c4,c8⟩) (fail)
 clear hcb c0 c1 c2 c3 c4 c5 c6 c7 c8;generalize (w0.alloc (.cells #[c.owner,c.n,c.m,c.alone] 166)).drew=z at*;generalize w0.heap.size=B at*;clear hA0 hB0 hz0 hf0 hc0 vP hf;obtain⟨j,hgf⟩:∃j,j=p.f i:=⟨_,rfl⟩;have u:=aL hgf;rw[<-hgf]at O V ⊢;clear hgf;obtain⟨hcb,c0,c1,c2,c3,c4,c5,c6,c7,c8⟩:=ry.out;obtain⟨l0,l1,l2,l3,lf,lz⟩:=hl1.four;obtain⟨F,H,I,G,zf,Y⟩:=hz1.four;obtain⟨f0,f1,f2,ff,fz⟩:=V.three;have ab6:Hid (Off (p.plus w).X z (λw=>dJ w w A l)):=aL (by
  obtain⟨A',c',y,ho',_⟩:=E.ob i hl;rw[<-HOB.out]at y ho';rw[show Pl.f (p.plus w) i=j from u.out.symm]at y
  have e2:=(y.cell 2).symm.trans (V.cell 2);injection e2 with e2
  injection e2 with e2
  rw[<-e2];exact ho')
 have hrd:∀W,Below z z W->dJ W W A l:=λW q=>(ab6.out.on (Fr.of (X:=(p.plus w).X) q) (Sub.refl _ _)).here
 have hbd:Below z z z.drew:=(aa _ z).drew;have S6:∀r,Below z z r->(r.cell? ⟨j,2,none⟩=some (.slice A l.length cp)/\r.cell? B=some (.int .i64 c.owner)/\r.cell? ⟨B,1,none⟩=some (.int .i64 c.n)/\r.cell? ⟨B,2,none⟩=some (.int .i64 c.m)/\r.cell? ⟨B,3,none⟩=some (.bool c.alone)):=λr hb=>⟨(hb.cell (p:=⟨j,2,none⟩) fz).trans f2,(hb.cell (p:=B) lz).trans l0,(hb.cell (p:=⟨B,1,none⟩) lz).trans l1,(hb.cell (p:=⟨B,2,none⟩) lz).trans l2,(hb.cell (p:=⟨B,3,none⟩) lz).trans l3⟩
 rcases t15:(c.kind==15)with _|_
 ·have x:=aL x.out
  have N:¬c.kind=15:=by simpa using t15
  rw[av N]at x;have cT:=λW q=>take_any A cp l ⟨c.owner,c.n,c.m,c.alone⟩ W (hrd W q) Z (by omega)
  dsimp only at cT;go_upto_region 5 with fail
  go_region_held3 (λW=>W.cell? ⟨j,2,none⟩=some (.slice A l.length cp)/\W.cell? B=some (.int .i64 c.owner)/\W.cell? ⟨B,1,none⟩=some (.int .i64 c.n)/\W.cell? ⟨B,2,none⟩=some (.int .i64 c.m)/\W.cell? ⟨B,3,none⟩=some (.bool c.alone)) (first|exact⟨f2,l0,l1,l2,l3⟩|exact Q|go_keep) (first|(go_at_call 138;refine(cT z.drew hbd).mono ?_;rintro e r ⟨v6,m,err,rfl,hrel,nz,hb6⟩;have g:Below z z r:=hbd.trans hb6;have Q:=S6 r g;obtain⟨S,U,rfl,hcq,AA⟩:=aW.off nz (X:=(p.plus w).X) (λk hk=>E.mX hk)))
  all_goals
   have HIS:=aL (U9 hrel);clear hrel cT;have D:=E.below g;have L:=hz1.below g Y;have uB:=V.below g fz;have M:Fr p.C w r:=(Fr.of hB1:Fr p.C w z).bf g;clear F H I G zf Y f0 f1 f2 ff fz l0 l1 l2 l3 lf lz Q hcb c0 c1 c2 c3 c4 c5 c6 c7 c8;obtain⟨F,H,I,G,zf,Y⟩:=L.four;obtain⟨f0,f1,f2,ff,fz⟩:=uB.three;have x:=aL x.out;rw[HIS.out]at x
   rcases te:(err==0)with _|_
   ·have HF:Hid (R=(s,.no err)):=aL (by rw[x.out,av (by simpa using te)])
    clear x;go_wp2_with fail;refine aD (v:= .agg #[err,(0:Int),Qs.e,()]) ?_ rfl ?_
    ·simp[results,results110,go_sem,F,H,I,G]
    rw[HF.out];exact aN (a:=(.no err)) aR D rfl rfl M (Sub.refl _ _) rfl
   obtain rfl:err=0:=by simpa using te
   have HF:Hid (R=(Sy.setOb s i (λo=>{o with l:=m}),.no 0)):=aL (by rw[x.out,aM rfl])
   clear te;clear x;have K:Fr (λk=>k=j) r (r.setCell ⟨j,2,none⟩ (.slice S m.length U)):=(Fr.refl (λk=>k=j) r).at_ 2 _
   have iU:=D.setOb (i:=i) hl (by rw[show Pl.f (p.plus w) i=j from u.out.symm];exact K) (λo=>{o with l:=m}) (by
    rw[show Pl.f (p.plus w) i=j from u.out.symm]
    obtain⟨A',c',y,_,_⟩:=D.ob i hl;rw[show Pl.f (p.plus w) i=j from u.out.symm]at y
    exact⟨S,U,y.bY 2 _,AA.on (K.wide (X:=(p.plus w).X) λ_ _ e=>by rw[e,u.out];exact Pl.cx (E.Fe hl)) (Sub.refl _ _),hcq⟩)
   have fM:=L.far (p:=⟨j,2,none⟩) O (.slice S m.length U);have rV:Fr p.C w (r.setCell ⟨j,2,none⟩ (.slice S m.length U)):=M.setCell (p:=⟨j,2,none⟩) (by show p.C j;rw[u.out];exact hA.out.Fe hl) _
   have hx2:¬j=w.heap.size:=λe=>O e.symm
   go_upto_region 8 with fail
   clear F H I G zf Y f0 f1 f2 ff fz;generalize r.setCell ⟨j,2,none⟩ (.slice S m.length U)=w7 at*;obtain⟨F,H,I,G,zf,Y⟩:=fM.four;go_wp2_with fail;refine aD (v:= .agg #[(0:Int),(0:Int),Qs.e,()]) ?_ rfl ?_
   ·simp[results,results110,go_sem,F,H,I,G]
   rw[HF.out];exact aN (a:=(.no 0)) aR iU rfl rfl rV (Sub.refl _ _) rfl
 have x:=aL x.out;have N:c.kind=15:=by simpa using t15
 rw[aM N]at x;have cT:=λW q=>Sr A cp l ⟨c.owner,c.n,c.m,c.alone⟩ W (hrd W q) Z (by omega)
 dsimp only at cT;go_upto_region 5 with fail
 go_region_held3 (λW=>W.cell? ⟨j,2,none⟩=some (.slice A l.length cp)/\W.cell? B=some (.int .i64 c.owner)/\W.cell? ⟨B,1,none⟩=some (.int .i64 c.n)/\W.cell? ⟨B,2,none⟩=some (.int .i64 c.m)/\W.cell? ⟨B,3,none⟩=some (.bool c.alone)) (first|exact⟨f2,l0,l1,l2,l3⟩|exact Q|go_keep) (first|(go_at_call 139;refine(cT z.drew hbd).mono ?_;rintro e r ⟨v6,m,err,rfl,hrel,nz,hb6⟩;have g:Below z z r:=hbd.trans hb6;have Q:=S6 r g;obtain⟨S,U,rfl,hcq,AA⟩:=aW.off nz (X:=(p.plus w).X) (λk hk=>E.mX hk)))
 all_goals
  have HIS:=aL (U_ hrel);clear hrel cT;have D:=E.below g;have L:=hz1.below g Y;have uB:=V.below g fz;have M:Fr p.C w r:=(Fr.of hB1:Fr p.C w z).bf g;clear F H I G zf Y f0 f1 f2 ff fz l0 l1 l2 l3 lf lz Q hcb c0 c1 c2 c3 c4 c5 c6 c7 c8;obtain⟨F,H,I,G,zf,Y⟩:=L.four;obtain⟨f0,f1,f2,ff,fz⟩:=uB.three;have x:=aL x.out;rw[HIS.out]at x
  rcases te:(err==0)with _|_
  ·have HF:Hid (R=(s,.no err)):=aL (by rw[x.out,av (by simpa using te)])
   clear x;go_wp2_with fail;refine aD (v:= .agg #[err,(0:Int),Qs.e,()]) ?_ rfl ?_
   ·simp[results,results110,go_sem,F,H,I,G]
   rw[HF.out];exact aN (a:=(.no err)) aR D rfl rfl M (Sub.refl _ _) rfl
  obtain rfl:err=0:=by simpa using te
  have HF:Hid (R=(Sy.setOb s i (λo=>{o with l:=m}),.no 0)):=aL (by rw[x.out,aM rfl])
  clear te;clear x;have K:Fr (λk=>k=j) r (r.setCell ⟨j,2,none⟩ (.slice S m.length U)):=(Fr.refl (λk=>k=j) r).at_ 2 _
  have iU:=D.setOb (i:=i) hl (by rw[show Pl.f (p.plus w) i=j from u.out.symm];exact K) (λo=>{o with l:=m}) (by
   rw[show Pl.f (p.plus w) i=j from u.out.symm]
   obtain⟨A',c',y,_,_⟩:=D.ob i hl;rw[show Pl.f (p.plus w) i=j from u.out.symm]at y
   exact⟨S,U,y.bY 2 _,AA.on (K.wide (X:=(p.plus w).X) λ_ _ e=>by rw[e,u.out];exact Pl.cx (E.Fe hl)) (Sub.refl _ _),hcq⟩)
  have fM:=L.far (p:=⟨j,2,none⟩) O (.slice S m.length U);have rV:Fr p.C w (r.setCell ⟨j,2,none⟩ (.slice S m.length U)):=M.setCell (p:=⟨j,2,none⟩) (by show p.C j;rw[u.out];exact hA.out.Fe hl) _
  have hx2:¬j=w.heap.size:=λe=>O e.symm
  go_upto_region 8 with fail
  clear F H I G zf Y f0 f1 f2 ff fz;generalize r.setCell ⟨j,2,none⟩ (.slice S m.length U)=w7 at*;obtain⟨F,H,I,G,zf,Y⟩:=fM.four;go_wp2_with fail;refine aD (v:= .agg #[(0:Int),(0:Int),Qs.e,()]) ?_ rfl ?_
  ·simp[results,results110,go_sem,F,H,I,G]
  rw[HF.out];exact aN (a:=(.no 0)) aR iU rfl rfl rV (Sub.refl _ _) rfl
theorem Sy.Pn{n:Nat}{s:St}(h:Sy.In n s)(o k d:Nat):Sy.In (n+1) (Sy.setDe (Sy.setOb (Sy.setFd s o k none) (Sy.deAt s d).o λx=>{x with l:=Lk.leave x.l o}) d λx=>{x with refs:=x.refs-1}):=by
 have m:=(h.more (iN n)).setFd o k none (λ_ h=>nomatch h)
 have c:=m.setOb (Sy.deAt s d).o (f:=λx=>{x with l:=Lk.leave x.l o}) λx a=>⟨a.1,a.2.1,eT (Sy.y9 _ _) a.2.2⟩
 refine c.des (gP ..) λx a=> ?_
 rcases Sy.qZ a with b|⟨y,b,rfl⟩
 ·exact c.de x b
 have j:(Sy.setOb (Sy.setFd s o k none) (Sy.deAt s d).o λx=>{x with l:=Lk.leave x.l o}).obs.length=s.obs.length:=gP ..
 obtain⟨e,p,g,r,q,i⟩:=h.de y b;exact⟨by rw[j];exact e,p,g,by show -((n+1:Nat):Int)<=y.refs-1;omega,by show y.refs-1<=((n+1:Nat):Int);omega,i⟩
theorem Sy.zQ{s:St}{d:Nat}(hd:d<s.des.length)(f:De->De):Sy.deAt (Sy.setDe s d f) d=f (Sy.deAt s d):=by
 unfold Sy.deAt Sy.setDe;simp only[bi,List.getElem?_modify_eq];rw[bA hd];rfl
theorem EE{f:Nat->Nat}{l:List Nat}{i:Nat}(h:∀j∈l,f j=f i->j=i):(l.map f).filter (λx=> !(x==f i))=(l.filter λj=>j !=i).map f:=by
 induction l with
 |nil=>rfl
 |cons a t b=>
  have b:=b λj g=>h j (oo _ g)
  by_cases e:a=i
  ·subst e;simp[b]
  ·have m:f a≠f i:=λq=>e (h a (tF ..) q)
   have c:(f a==f i)=false:=by simp[m]
   have k:(a !=i)=true:=by simp[e]
   rw[ww,List.filter_cons,c,List.filter_cons,k,b]
   rfl
theorem Ip(gb:Nat)(w:World):Calls prog 136 #[(),.func (.func 137) #[] #[.pointer gb]] w λe w'=>e= .returned (.slice none 0 0)/\w'=w:=by
 have c:Calls prog 170 #[(),.func (.func 137) #[] #[.pointer gb]] w λe w'=>e= .returned (.int .i64 (-1))/\w'=w:=by
  go_enter func170,ntmps170
  go_wp2
  go_loopw [8] (λi wr=>Hid (wr=w)/\i= .int .i64 0) (λi _=>0)
  case atStart=>exact⟨aL rfl,rfl⟩
  case round=>
   obtain⟨a,rfl⟩:=hrel;have b:=aL a.out;clear a;go_wp2;go_ret;exact⟨rfl,b.out⟩
 go_enter func136,ntmps136;go_wp2_with fail;refine c.mono ?_
 rintro e g ⟨rfl,rfl⟩;go_wp2;go_ret;exact⟨rfl,rfl⟩
theorem Bj(p:Pl)(s:St)(n o k d:Nat)(w:World)(h:aQ w p s)(hi:Sy.In n s)(hn:n<=999)(ho:o<4)(hk:k<8)(hd:Sy.fdAt s o k=some d):Calls prog 109 #[.pointer p.gs,o,k] w (mD p (Sy.callClose s o k d) w):=by
 have hA:=aL h;have HI:=aL hi;have V:=aL (Sy.Pn hi o k d);have I:d<s.des.length:=hi.fdAt hd;have hfd:=h.fds hi ho hk;rw[hd,show sN p.D (some d)= .pointer (p.d d:Nat)from rfl,<-Nat.add_assoc]at hfd
 obtain⟨N,hda,aas,hr1,hr2,_⟩:=hi.deAt I;obtain⟨R,hR⟩:∃R,R=Sy.callClose s o k d:=⟨_,rfl⟩;rw[<-hR];unfold Sy.callClose at hR;dsimp only at hR;rw[Sy.zQ (show d<(Sy.setOb (Sy.setFd s o k none) (Sy.deAt s d).o λx=>{x with l:=Lk.leave x.l o}).des.length from I)]at hR
 have hdd:Sy.deAt (Sy.setOb (Sy.setFd s o k none) (Sy.deAt s d).o λx=>{x with l:=Lk.leave x.l o}) d=Sy.deAt s d:=rfl
 rw[hdd]at hR;have HR:=aL hR;clear hR hdd hd;have hD:=h.de d I;unfold J_ at hD;have hob:=h.ob (Sy.deAt s d).o N;have hll:=(hi.obAt (Sy.deAt s d).o).2.2;have hgd:=h.OX I;have hgf:=h.Ko N;have X4:=h.f_d N I;have hlt1:=h.bz h.jq;have hlt2:=h.bz (h.Kq I);have hlt3:=h.bz (h.Fe N);have Dv:=aL (rfl:Sy.deAt s d=Sy.deAt s d);generalize hde:Sy.deAt s d=de at*;have HDE:=aL hde;clear hde Dv;obtain⟨i,fl,at_,refs⟩:=de
 dsimp only at*;obtain⟨A,cp,hF,hFO,hFC⟩:=hob;have HFO:=aL hFO;clear hFO;obtain⟨H,X5⟩:∃l,l=(Sy.obAt s i).l:=⟨_,rfl⟩;have Qg:=aL X5;rw[<-X5]at hF HFO hFC hll;clear X5;generalize (Sy.obAt s i).p=opa at*;generalize (Sy.obAt s i).t=ota at*;have hA0:=hA.out.plus (.cells #[(0:Int),(0:Int),Qs.e,()] 43);have hB0:=(aa w w).alloc aR (.cells #[(0:Int),(0:Int),Qs.e,()] 43);have hz0:=ai.new w 43 [(0:Int),(0:Int),Qs.e,()];have hD:=hD.alloc (.cells #[(0:Int),(0:Int),Qs.e,()] 43);have hF:=hF.alloc (.cells #[(0:Int),(0:Int),Qs.e,()] 43);have hfd:(w.alloc (.cells #[(0:Int),(0:Int),Qs.e,()] 43)).cell? ⟨p.gs,4+o*8+k,none⟩=some (.pointer (p.d d:Nat)):=(dx w (.cells #[(0:Int),(0:Int),Qs.e,()] 43) ⟨p.gs,4+o*8+k,none⟩ hlt1).trans hfd;have hbx:∃cs,ai (w.alloc (.cells #[(0:Int),(0:Int),Qs.e,()] 43)) p.gs 71 cs:=hA0.blk;have hgz:∀q,(w.alloc (.cells #[(0:Int),(0:Int),Qs.e,()] 43)).frozen? ⟨p.gs,q,none⟩=false:=by obtain⟨cs,G⟩:=hbx;exact G.frozen
 have hg1:p.gs<(w.alloc (.cells #[(0:Int),(0:Int),Qs.e,()] 43)).heap.size:=by rw[bX];omega
 have hw0:w.heap.size<(w.alloc (.cells #[(0:Int),(0:Int),Qs.e,()] 43)).heap.size:=by rw[bX];omega
 clear hbx h hi;go_enter func109,ntmps109;go_upto_region 1 with fail
 generalize w.alloc (.cells #[(0:Int),(0:Int),Qs.e,()] 43)=w0 at*;go_upto_region 2 with fail
 have hA1:=hA0.below ((aa _ w0).alloc aR (.cells #[.pointer (p.d d:Nat)] 67));have hB1:=hB0.alloc hB0.size (.cells #[.pointer (p.d d:Nat)] 67);have hz1:=hz0.alloc (.cells #[.pointer (p.d d:Nat)] 67);have hD1:=hD.alloc (.cells #[.pointer (p.d d:Nat)] 67);have hF1:=hF.alloc (.cells #[.pointer (p.d d:Nat)] 67);have hh1:=ai.new w0 67 [.pointer (p.d d:Nat)];obtain⟨M,hgh⟩:∃M,M=w0.heap.size:=⟨_,rfl⟩;have adA:w.heap.size<M:=by omega
 have hfd1:(w0.alloc (.cells #[.pointer (p.d d:Nat)] 67)).cell? ⟨p.gs,4+o*8+k,none⟩=some (.pointer (p.d d:Nat)):=(dx w0 (.cells #[.pointer (p.d d:Nat)] 67) ⟨p.gs,4+o*8+k,none⟩ hg1).trans hfd;have sV:∀q,(w0.alloc (.cells #[.pointer (p.d d:Nat)] 67)).frozen? ⟨p.gs,q,none⟩=false:=by obtain⟨cs,G⟩:=hA1.blk;exact G.frozen
 have ab7:p.gs<(w0.alloc (.cells #[.pointer (p.d d:Nat)] 67)).heap.size:=by rw[bX];omega
 rw[<-hgh]at hh1 ⊢;clear hgh hfd hgz;generalize w0.alloc (.cells #[.pointer (p.d d:Nat)] 67)=w1 at*;clear hA0 hB0 hz0 hD hF hg1 hw0;go_upto_region 3 with fail
 clear hfd1 sV ab7;have K:=hA1.setFd (o:=o) (k:=k) ⟨HI.out.fdl,HI.out.fdr⟩ ho hk none;rw[show sN (p.plus w).D none= .pointer none from rfl,<-Nat.add_assoc]at K
 have hF2:Fr p.C w (w1.setCell ⟨p.gs,4+o*8+k,none⟩ (.pointer none)):=Fr.setCell (Fr.of hB1) (p:=⟨p.gs,4+o*8+k,none⟩) (.inl rfl) _;have hz2:=hz1.far (p:=⟨p.gs,4+o*8+k,none⟩) (show w.heap.size≠p.gs by omega) (.pointer none)
 have Q:=hD1.far (p:=⟨p.gs,4+o*8+k,none⟩) (Fy hgd) (.pointer none);have hf2:=hF1.far (p:=⟨p.gs,4+o*8+k,none⟩) (Fy hgf) (.pointer none);have hh2:=hh1.far (p:=⟨p.gs,4+o*8+k,none⟩) (show M≠p.gs by omega) (.pointer none)
 have hsz2:w1.heap.size=(w1.setCell ⟨p.gs,4+o*8+k,none⟩ (.pointer none)).heap.size:=by simp
 generalize w1.setCell ⟨p.gs,4+o*8+k,none⟩ (.pointer none)=w2 at*;clear hA1 hB1 hz1 hD1 hF1 hh1 hsz2;obtain⟨s1,Y⟩:∃s1,s1=Sy.setFd s o k none:=⟨_,rfl⟩;have hl1:i<s1.obs.length:=by rw[Y];exact N
 have hl2:d<s1.des.length:=by rw[Y];exact I
 have Zu:Hid (Sy.obAt s1 i=Sy.obAt s i):=aL (by rw[Y];rfl)
 have HD1:Hid (Sy.deAt s1 d=⟨i,fl,at_,refs⟩):=aL (by rw[Y];exact HDE.out)
 rw[<-Y]at K HR V;clear Y;obtain⟨c,X6⟩:∃c,c=p.f i:=⟨_,rfl⟩;obtain⟨r,X7⟩:∃r,r=p.d d:=⟨_,rfl⟩;have y:=aL X6;have HGD:=aL X7;rw[show ptr (p.F.getD i 0)= .pointer (p.f i:Nat)from rfl]at Q
 rw[<-X6]at hf2 X4 hgf hlt3 Q;rw[<-X7]at Q hh2 X4 hgd hlt2;clear X6 X7;obtain⟨q0,qf,qz⟩:=hh2.one;obtain⟨d0,d1,d2,d3,df,dz⟩:=Q.four;obtain⟨f0,f1,f2,ff,fz⟩:=hf2.three;have hbd:Below w2 w2 w2.drew:=(aa _ w2).drew;have aaw:Hid (Off (p.plus w).X w2 (λw=>dJ w w A H)):=aL (by
  obtain⟨A',c',S,B,_⟩:=K.ob i hl1;rw[Zu.out,<-Qg.out]at S B;have e1:Pl.f (p.plus w) i=c:=y.out.symm;rw[e1]at S;have e2:=(S.cell 2).symm.trans (hf2.cell 2);injection e2 with e2
  injection e2 with e2
  rw[<-e2];exact B)
 have cL:=λW (q:Below w2 w2 W)=>Kz A cp H o W (((aaw.out.on (Fr.of (X:=(p.plus w).X) q) (Sub.refl _ _))).here) (by omega)
 have S6:∀w6,Below w2 w2 w6->(w6.cell? ⟨M,0,none⟩=some (.pointer (some ⟨r,0,none⟩))/\w6.cell? ⟨r,0,none⟩=some (.pointer (some ⟨c,0,none⟩))):=λw6 G=>⟨(G.cell (p:=M) qz).trans q0,(G.cell (p:=r) dz).trans d0⟩
 have hfh:c≠M:=by omega
 go_cut [] (λwx=>aQ wx (p.plus w) (Sy.setOb s1 i λx=>{x with l:=Lk.leave x.l o})/\ai wx w 43 [(0:Int),(0:Int),Qs.e,()]/\ai wx r 147 [.pointer (some ⟨c,0,none⟩),fl,at_,refs]/\ai wx M 67 [.pointer (some ⟨r,0,none⟩)]/\Fr p.C w wx)
 case first=>
  go_region_law (first|(go_simp;go_at_call 134;refine(cL w2.drew hbd).mono ?_;rintro e w6 ⟨v6,rfl,nz,hb6⟩;have m:Below w2 w2 w6:=hbd.trans hb6;have hS6:=S6 w6 m;obtain⟨A6,c6,rfl,hc6,AA⟩:=aW.off nz (X:=(p.plus w).X) (λk hk=>K.mX hk);have uB:=hf2.below m fz;have ff6:=uB.frozen;have fz6:=uB.lt;have f26:=uB.cell 2))
  all_goals
   have nG:=K.below m;have kW:=hz2.below m hz2.lt;have hD6:=Q.below m dz;have hh6:=hh2.below m qz;have uH:=hF2.bf m;have Ff:Fr (λk=>k=c) w6 (w6.setCell ⟨c,2,none⟩ (.slice A6 (Lk.leave H o).length c6)):=(Fr.refl (λk=>k=c) w6).at_ 2 _
   have iU:=nG.setOb hl1 (by rw[show Pl.f (p.plus w) i=c from y.out.symm];exact Ff) (λx=>{x with l:=Lk.leave x.l o}) (by
    rw[Zu.out];rw[show Pl.f (p.plus w) i=c from y.out.symm]
    obtain⟨A',c',S,_,_⟩:=nG.ob i hl1;rw[Zu.out,show Pl.f (p.plus w) i=c from y.out.symm]at S
    refine⟨A6,c6,?_,?_,by show(Lk.leave (Sy.obAt s i).l o).length<=c6;rw[<-Qg.out];exact hc6⟩
    ·have h1:=S.bY 2 (.slice A6 (Lk.leave H o).length c6)
     rw[Qg.out]at h1 ⊢;exact h1
    show Off _ _ λw=>dJ w w A6 (Lk.leave (Sy.obAt s i).l o)
    rw[<-Qg.out];exact AA.on (Ff.wide (X:=(p.plus w).X) λ_ _ e=>by rw[e,y.out];exact Pl.cx (K.Fe hl1)) (Sub.refl _ _))
   have fM:=kW.far (p:=⟨c,2,none⟩) (show w.heap.size≠c by omega) (.slice A6 (Lk.leave H o).length c6)
   have O:=hD6.far (p:=⟨c,2,none⟩) (Fy X4) (.slice A6 (Lk.leave H o).length c6);have hh7:=hh6.far (p:=⟨c,2,none⟩) (show M≠c by omega) (.slice A6 (Lk.leave H o).length c6)
   have rV:Fr p.C w (w6.setCell ⟨c,2,none⟩ (.slice A6 (Lk.leave H o).length c6)):=uH.setCell (p:=⟨c,2,none⟩) (by show p.C c;rw[y.out];exact hA.out.Fe N) _
   go_wp2;go_meet
   case rel=>exact⟨iU,fM,O,hh7,rV⟩
 case rest=>
  obtain⟨iU,fM,O,hh7,rV⟩:=hcut;generalize wc=w7 at*;clear q0 qf qz d0 d1 d2 d3 df dz f0 f1 f2 ff fz S6 cL aaw hbd K hz2 Q hf2 hh2 hF2;have Zt:d<(Sy.setOb s1 i λx=>{x with l:=Lk.leave x.l o}).des.length:=hl2
  obtain⟨q0,qf,qz⟩:=hh7.one;obtain⟨d0,d1,d2,d3,df,dz⟩:=O.four;have hwr:IntKind.i64.wrap (refs-1)=refs-1:=lm _ (by omega)
  go_upto_region 5 with fail
  have Ff:Fr (λk=>k=r) w7 (w7.setCell ⟨r,3,none⟩ (.int .i64 (refs-1))):=(Fr.refl (λk=>k=r) w7).at_ 3 _
  have vN:=iU.setDe Zt (by rw[show Pl.d (p.plus w) d=r from HGD.out.symm];exact Ff) (λx=>{x with refs:=x.refs-1}) (by
   rw[show Sy.deAt (Sy.setOb s1 i λx=>{x with l:=Lk.leave x.l o}) d=⟨i,fl,at_,refs⟩from HD1.out,show Pl.d (p.plus w) d=r from HGD.out.symm]
   have h1:=O.bY 3 (.int .i64 (refs-1));rw[y.out]at h1;exact h1)
  have uy:=fM.far (p:=⟨r,3,none⟩) (show w.heap.size≠r by omega) (.int .i64 (refs-1))
  have hD8:=O.bY 3 (.int .i64 (refs-1));have hh8:=hh7.far (p:=⟨r,3,none⟩) (show M≠r by omega) (.int .i64 (refs-1))
  have xn:Fr p.C w (w7.setCell ⟨r,3,none⟩ (.int .i64 (refs-1))):=rV.setCell (p:=⟨r,3,none⟩) (by show p.C r;rw[HGD.out];exact hA.out.Kq I) _
  rw[show([.pointer (some ⟨c,0,none⟩),.int .i64 fl,.int .i64 at_,.int .i64 refs]:List Value).set 3 (.int .i64 (refs-1))=[.pointer (some ⟨c,0,none⟩),.int .i64 fl,.int .i64 at_,.int .i64 (refs-1)]from rfl]at hD8
  generalize w7.setCell ⟨r,3,none⟩ (.int .i64 (refs-1))=w8 at*;clear iU fM O hh7 rV Ff q0 qf qz d0 d1 d2 d3 df dz hwr;obtain⟨q0,qf,qz⟩:=hh8.one;obtain⟨d0,d1,d2,d3,df,dz⟩:=hD8.four;have z:=uy.four;obtain⟨u,hs3⟩:∃u,u=Sy.setDe (Sy.setOb s1 i λx=>{x with l:=Lk.leave x.l o}) d λx=>{x with refs:=x.refs-1}:=⟨_,rfl⟩
  have hl3:i<u.obs.length:=by rw[hs3];show i<(List.modify _ _ _).length;rw[gP];exact hl1
  rw[<-hs3]at vN HR V;clear hs3
  rcases t0:(refs-1==0)with _|_
  ·have HF:Hid (R=(u,.ok)):=aL (by rw[HR.out,av (λq=>by have:=q.1;simp[this]at t0)])
   clear HR;go_wp2_with fail;refine aD (v:= .agg #[(0:Int),(0:Int),Qs.e,()]) ?_ rfl ?_
   ·simp[results,results109,go_sem,z]
   rw[HF.out];exact aN (a:= .ok) aR vN rfl rfl xn (Sub.refl _ _) rfl
  have hr0:refs-1=0:=by simpa using t0
  have cU:=SB (p.plus w) u (n+1) i w8 vN V.out hl3;rw[show ptr (Pl.f (p.plus w) i)= .pointer (some ⟨c,0,none⟩)from by rw[y.out];rfl]at cU
  obtain⟨us,hus⟩:∃us,us=Sy.used u i:=⟨_,rfl⟩;rw[<-hus]at cU;have Ve:=aL hus;clear hus;go_wp2_with fail;refine cU.mono ?_
  rintro e w9 ⟨rfl,G⟩;have b:=vN.below G;have pg:=uy.below G uy.lt;have hh9:=hh8.below G hh8.lt;have hD9:=hD8.below G hD8.lt;have lW:=xn.bf G;clear vN uy hh8 hD8 xn G q0 qf qz d0 d1 d2 d3 df dz z;obtain⟨q0,qf,qz⟩:=hh9.one;obtain⟨d0,d1,d2,d3,df,dz⟩:=hD9.four;have z:=pg.four
  cases us
  rotate_left
  ·have HF:Hid (R=(u,.ok)):=aL (by rw[HR.out,av (λq=>by have:=q.2;rw[<-Ve.out]at this;cases this)])
   clear HR;go_wp2_with fail;refine aD (v:= .agg #[(0:Int),(0:Int),Qs.e,()]) ?_ rfl ?_
   ·simp[results,results109,go_sem,z]
   rw[HF.out];exact aN (a:= .ok) aR b rfl rfl lW (Sub.refl _ _) rfl
  have HF:Hid (R=({u with files:=u.files.filter λj=>j !=i},.ok)):=aL (by rw[HR.out,aM ⟨hr0,Ve.out.symm⟩])
  clear HR;have ab8:∀q,w9.frozen? ⟨p.gs,q,none⟩=false:=by obtain⟨cs,G⟩:=b.blk;exact G.frozen
  have aax:=b.bz b.jq;obtain⟨v,hvv⟩:∃v,v=p.v:=⟨_,rfl⟩;have HV:=aL hvv;have g3:w9.cell? ⟨p.gs,3,none⟩=some v:=by rw[hvv];exact b.zF
  clear hvv;have ab9:Calls prog 136 #[v,.func (.func 137) #[] #[.pointer (some ⟨M,0,none⟩)]] w9 λe w'=>∃v',e= .returned v'/\w'.ownsRow 0 144 1 v' (u.files.filter λj=>j !=i).length ((u.files.filter λj=>j !=i).map λj=>ptr (p.f j))/\(∀k,v'.ownBlock=some k->p.v.ownBlock=some k)/\w9.grownBy w' p.v.ownBlock:=by
   have hfl:=b.files
   rcases aB b.files with⟨E,h0⟩|⟨g,cap,E,_,hgg,hcc⟩
   ·have E:p.v= .slice none 0 0:=E
    rw[HV.out,E];refine(Ip M w9).mono ?_
    rintro e w' ⟨rfl,rfl⟩;have h9:u.files=[]:=List.length_eq_zero_iff.1 h0;rw[h9];exact⟨_,rfl,jN _ _ _ _,(λ_ q=>by cases q),Ao _ _⟩
   have E:p.v= .slice g u.files.length cap:=E;have hvg:p.v.ownBlock=some g:=by rw[E];rfl
   have hne1:M≠g:=λe=>iG b.files hh9 (by decide) (by rw[e];exact hvg)
   have hne2:r≠g:=λe=>iG b.files hD9 (by decide) (by rw[e];exact hvg)
   rw[show(p.plus w).v=p.v from rfl,E]at hfl
   have hml:(u.files.map λj=>ptr (Pl.f (p.plus w) j))=(u.files.map λj=>p.f j).map ptr:=by rw[List.map_map];rfl
   rw[hml]at hfl;have hlen:(u.files.map λj=>p.f j).length=u.files.length:=ib ..
   rw[<-hlen]at hfl;have hall:∀x∈(u.files.map λj=>p.f j),xE w9 x:=λx hx=>by
    obtain⟨j,hj,rfl⟩:=List.mem_map.1 hx;exact b.G5 (V.out.fsub j hj)
   have hgi:xE w9 c:=by have:=b.G5 hl3;rw[show Pl.f (p.plus w) i=c from y.out.symm]at this;exact this
   have hfz:=V.out.fl;have c1:=Ih 0 g cap M r c (u.files.map λj=>p.f j) w9 hfl (by omega) (hh9.cell 0) hh9.lt (hD9.cell 0) hD9.lt hall hgi hne1 hne2
   rw[HV.out,E];rw[hlen]at c1;refine c1.mono ?_
   rintro e w' ⟨v',rfl,B,U,L⟩;have hinj:∀j∈u.files,p.f j=p.f i->j=i:=λj hj e=>b.RG (V.out.fsub j hj) hl3 e
   have aay:=EE hinj;rw[<-y.out]at aay;rw[aay,ib,List.map_map]at B;exact⟨v',rfl,B,λk hk=>by rw[U]at hk;exact hk,L⟩
  have hzv:some w.heap.size≠p.v.ownBlock:=λe=>iG b.files pg (by decide) e.symm
  go_wp2_with fail;refine ab9.mono ?_
  rintro e Z ⟨v',rfl,B,U,L⟩;obtain⟨A9,c9,rfl⟩:=jl B;obtain⟨nf,hnf⟩:∃nf,nf=(u.files.filter λj=>j !=i).length:=⟨_,rfl⟩
  rw[<-hnf]at B U ⊢;have HNF:=aL hnf;clear hnf;have xG:=pg.grown L hzv;have hgv:some p.gs≠p.v.ownBlock:=λe=>b.RF e.symm
  obtain⟨csb,aca⟩:=b.blk;have WC:=ai.grown aca L hgv;have aaz:∀q,Z.frozen? ⟨p.gs,q,none⟩=false:=WC.frozen;have aaA:p.gs<Z:=WC.lt;have g10:Z.cell? ⟨p.gs,3,none⟩=some v:=(lc (L.block p.gs aax hgv)).trans g3;have hq1:Fr (λk=>k=p.gs\/p.v.ownBlock=some k) w9 (Z.setCell ⟨p.gs,3,none⟩ (.slice A9 nf c9)):=(Fr.grown (X:=λk=>k=p.gs\/p.v.ownBlock=some k) L λk hk=> .inr hk).setCell (p:=⟨p.gs,3,none⟩) (.inl rfl) (.slice A9 nf c9)
  have X8:=b.G8 (.slice A9 nf c9) (u.files.filter λj=>j !=i) hq1 (λk hk=> .inl (U k hk)) (λcs G=>(ai.grown G L hgv).bY 3 (.slice A9 nf c9)) (HNF.out▸ownsRow_setCell_other B (λe=>b.RF (U _ e)) (.slice A9 nf c9))
  have Iq:Fr p.C w (Z.setCell ⟨p.gs,3,none⟩ (.slice A9 nf c9)):=lW.trans hq1 λk _ q=>q.elim (λe=> .inl e) λe=> .inr (.inr (.inr e))
  have Bl:=xG.far (p:=⟨p.gs,3,none⟩) (show w.heap.size≠p.gs by omega) (.slice A9 nf c9)
  clear q0 qf qz d0 d1 d2 d3 df dz z g3 ab8 aax;go_upto_region 7 with fail
  generalize Z.setCell ⟨p.gs,3,none⟩ (.slice A9 nf c9)=WB at*;clear g10 aaz aaA;have z:=Bl.four;go_wp2_with fail;refine aD (v:= .agg #[(0:Int),(0:Int),Qs.e,()]) ?_ rfl ?_
  ·simp[results,results109,go_sem,z]
  rw[HF.out]
  exact aN (p:=p) (p':={p with v:= .slice A9 nf c9}) (a:= .ok) aR X8 rfl rfl Iq (λk _ q=>by
   rcases q with q|q|q|q
   ·exact .inl q
   ·exact .inr (.inl q)
   ·exact .inr (.inr (.inl q))
   exact .inr (.inr (.inr (U k q)))) rfl
end Go.Proofs.YtjppfhgkanbemabGreatDoor
