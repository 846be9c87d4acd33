/- A part of the proof of SysTells: LB. -/
import Derived.Test.YtjppfhgkanbemabGreatDoorMA
import Derived.Deep.RegionHeld3
import Derived.Test.YtjppfhgkanbemabGreatDoorShelf
import Derived.Test.YtjppfhgkanbemabGreatDoorMB
set_option maxHeartbeats 3000000
set_option maxRecDepth 100000
set_option linter.all false
namespace Go.Proofs.YtjppfhgkanbemabGreatDoor
open Tryz
open Go.RowKit
theorem oZ:(prog.info? 166).map (λi=>(i.zero,i.size,i.bytes))=some (some (.agg #[(0:Int),(0:Int),(0:Int),false]),4,32):=by kernel_rfl
def aW(w:World)(base:Nat)(v:Value)(l:List Lk):Prop:=w.ownsRow base 166 4 v l.length (Lk.flat l)
theorem nD(l r:List Lk):Lk.flat (l++r)=Lk.flat l++Lk.flat r:=by simp[Lk.flat]
theorem aW.snoc{w:World}{base n:Nat}{v:Value}{xs:List Value}{l m:List Lk}{y:Lk}(h:w.ownsRow base 166 4 v (n+1) (xs++[.int .i64 y.o,.int .i64 y.f,.int .i64 y.t,.bool y.a]))(e:m=l++[y])(hn:n=l.length:=by rfl)(hx:xs=Lk.flat l:=by rfl):aW w base v m:=by
 subst e hn hx;unfold aW;rw[nD,bq];exact h
theorem zK(
         A:Option Addr)(c b o:Nat)(l:List Lk)(x:Lk)(w:World)(hl:dJ w w A l)(hn:l.length<=1000)(hx:GZ w b o x)(hb:b<w):Calls prog 175 #[.slice A l.length c,.pointer (some ⟨b,o,none⟩)] w λe w'=>∃v,e= .returned v/\aW w' w v (Lk.cut l x)/\Below w w w':=by
 obtain⟨i0,hi,hz0,hz1,hz2⟩:=lw oZ;obtain⟨Y,N,I,xa⟩:=x;go_enter func175,ntmps175
 go_wp2
 go_loopw [5,10] (λv i wr=>∃k:Nat,k<=l.length/\i= .int .i64 k/\aW wr w v (Lk.cut (l.take k) ⟨Y,N,I,xa⟩)/\Below w w wr)
  (λ_ i _=>l.length- (intOf i).toNat)
 case atStart=>exact⟨0,bL _,rfl,jN _ _ _ _,aa _ _⟩
 case round=>
  obtain⟨k,O,rfl,hown,hB⟩:=hrel
  by_cases Z:k<l.length
  ·obtain⟨bl,ol,rfl,hbl,hat⟩:=(dJ.at_ (hl.below hB) Z)
   obtain⟨h0,h1,h2,h3⟩:=hat;have hno:(Lk.cut (l.take k) ⟨Y,N,I,xa⟩).length<=2*k:=by have:=Lk.QM (l.take k) ⟨Y,N,I,xa⟩;rw[bR]at this;omega
   generalize hyk:l[k]=y at h0 h1 h2 h3;obtain⟨p,t,q,u⟩:=y;have Hs:=aL (Lk.QN Z ⟨Y,N,I,xa⟩ hyk);clear hyk;dsimp only at h0 h1 h2 h3;go_wp2_with fail;clear h0 h1 h2 h3;have S:Below w w (wr.alloc (.cells #[p,t,q,u] 166)):=hB.alloc hB.size _;have U:ai (wr.alloc (.cells #[p,t,q,u] 166)) wr 166 [p,t,q,u]:=ai.new _ _ _;have ho1:aW (wr.alloc (.cells #[p,t,q,u] 166)) _ _ _:=aH hown _;have Q:some wr.heap.size≠u5.ownBlock:=own_ne hown (.inr aR);have hgy:w.heap.size<=wr.heap.size:=hB.size;clear hB hown;generalize wr.alloc (.cells #[p,t,q,u] 166)=w1 at*;generalize wr.heap.size=gy at*;have z:=U.four;obtain⟨F,H,E,G⟩:=hx.below S hb;dsimp only at F H E G;have h:b<w1:=bE hb S.size
   rcases Ud:(p !=Y)with _|_
   ·rcases hb1:decide (q<=N)with _|_
    ·rcases hb2:decide (I<=t)with _|_
     ·have hyo:p=Y:=by simpa using Ud
      have Ho:=aL hyo;clear hyo;refine eO (by kernel_rfl) (by kernel_rfl) ?_
      repeat(first|go_big_quiet_step (fail)|quiet_step (fail))
      refine ic ?_
      intro w2 m;obtain⟨n,a⟩:=m;have g:=below_drewN S n;have K:=U.drewN n;have B:=own_drewN ho1 n;rw[<-a]at g K B;clear a S U ho1 z F H E G h;have z:=K.four;obtain⟨F,H,E,G⟩:=hx.below g hb;dsimp only at F H E G;have h:b<w2:=bE hb g.size;go_wp2_with fail
      rcases hp:decide (t<N)with _|_
      ·refine eO (by kernel_rfl) (by kernel_rfl) ?_
       repeat(first|go_big_quiet_step (fail)|quiet_step (fail))
       refine ic ?_
       intro w3 m;obtain⟨n,a⟩:=m;have j:=below_drewN g n;have D:=K.drewN n;have r:=own_drewN B n;rw[<-a]at j D r;clear a g K B z F H E G h;have z:=D.four;obtain⟨F,H,E,G⟩:=hx.below j hb;dsimp only at F H E G;have h:b<w3:=bE hb j.size;go_wp2_with fail
       rcases hq:decide (I<q)with _|_
       ·refine eO (by kernel_rfl) (by kernel_rfl) ?_
        repeat(first|go_big_quiet_step (fail)|quiet_step (fail))
        refine ic ?_
        intro w4 m;obtain⟨n,a⟩:=m;have L:=below_drewN j n;have V:=D.drewN n;have dI:=own_drewN r n;rw[<-a]at L V dI;clear a j D r z F H E G h;have z:=V.four;obtain⟨F,H,E,G⟩:=hx.below L hb;dsimp only at F H E G;have h:b<w4:=bE hb L.size;go_wp2;go_roundw
        case rel=>
         have e:Lk.mW ⟨Y,N,I,xa⟩ ⟨p,t,q,u⟩=[]:=by
          rw[Lk.xN (x:=⟨Y,N,I,xa⟩) (y:=⟨p,t,q,u⟩) Ho.out (by simpa using hb1) (by simpa using hb2)]
          rw[av (show¬t<N from by simpa using hp),av (show¬I<q from by simpa using hq)]
          rfl
         rw[e]at Hs;exact⟨k+1,Z,by go_num,by rw[Hs.out,ky];exact dI,L⟩
        case measure=>simp[intOf];omega
       refine eO (by kernel_rfl) (by kernel_rfl) ?_
       repeat(first|go_big_quiet_step (fail)|quiet_step (fail))
       refine ic ?_
       intro w4 m;obtain⟨n,a⟩:=m;have L:=below_drewN j n;have V:=D.drewN n;have dI:=own_drewN r n;rw[<-a]at L V dI;clear a j D r z F H E G h;have z:=V.four;obtain⟨F,H,E,G⟩:=hx.below L hb;dsimp only at F H E G;have h:b<w4:=bE hb L.size;go_wp2_with fail;have hdo:aW w4.drew w u5 _:=dI
       go_region_held3 (λw'=>w'.cell? gy=some (.int .i64 p)/\w'.cell? ⟨gy,1,none⟩=some (.int .i64 t)/\w'.cell? ⟨gy,2,none⟩=some (.int .i64 q)/\w'.cell? ⟨gy,3,none⟩=some (.bool u)/\w'.cell? ⟨b,o+1,none⟩=some (.int .i64 N)/\w'.cell? ⟨b,o+2,none⟩=some (.int .i64 I))
        (first
         |go_keep
         |exact⟨(V.drew.grown GM Q).cell 0,(V.drew.grown GM Q).cell 1,(V.drew.grown GM Q).cell 2,(V.drew.grown GM Q).cell 3,(hx.below (below_grown (below_drewN L 1) GM L.size (λk O=>(dI.lt k O).1)) hb).2.1,(hx.below (below_grown (below_drewN L 1) GM L.size (λk O=>(dI.lt k O).1)) hb).2.2.1⟩)
        ((refine qQ w4.drew rfl _ _ _ rfl w 166 i0 _ 4 32 underlying136 hi hz0 hz1 hz2 rfl (by decide) u5 _ _ rfl hdo [p,I,q,u] rfl rfl (by simp[Value.oneCell']) (by omega) (by decide) L.size _ rfl ?_;intro v6 w6 hw6 GM U5))
       go_wp2;go_roundw
       case rel=>
        have e:Lk.mW ⟨Y,N,I,xa⟩ ⟨p,t,q,u⟩=[⟨p,I,q,u⟩]:=by
         rw[Lk.xN (x:=⟨Y,N,I,xa⟩) (y:=⟨p,t,q,u⟩) Ho.out (by simpa using hb1) (by simpa using hb2)]
         rw[av (show¬t<N from by simpa using hp),aM (show I<q from by simpa using hq)]
         rfl
        rw[e]at Hs;exact⟨k+1,Z,by go_num,aW.snoc hw6 (Hs.out),below_grown (below_drewN L 1) GM L.size (λk O=>(dI.lt k O).1)⟩
       case measure=>simp[intOf];omega
      refine eO (by kernel_rfl) (by kernel_rfl) ?_
      repeat(first|go_big_quiet_step (fail)|quiet_step (fail))
      refine ic ?_
      intro w3 m;obtain⟨n,a⟩:=m;have j:=below_drewN g n;have D:=K.drewN n;have r:=own_drewN B n;rw[<-a]at j D r;clear a g K B z F H E G h;have z:=D.four;obtain⟨F,H,E,G⟩:=hx.below j hb;dsimp only at F H E G;have h:b<w3:=bE hb j.size;go_wp2_with fail;have hdo:aW w3.drew w u5 _:=r
      go_region_held3 (λw'=>w'.cell? gy=some (.int .i64 p)/\w'.cell? ⟨gy,1,none⟩=some (.int .i64 t)/\w'.cell? ⟨gy,2,none⟩=some (.int .i64 q)/\w'.cell? ⟨gy,3,none⟩=some (.bool u)/\w'.cell? ⟨b,o+1,none⟩=some (.int .i64 N)/\w'.cell? ⟨b,o+2,none⟩=some (.int .i64 I))
       (first
        |go_keep
        |exact⟨(D.drew.grown hg5 Q).cell 0,(D.drew.grown hg5 Q).cell 1,(D.drew.grown hg5 Q).cell 2,(D.drew.grown hg5 Q).cell 3,(hx.below (below_grown (below_drewN j 1) hg5 j.size (λk O=>(r.lt k O).1)) hb).2.1,(hx.below (below_grown (below_drewN j 1) hg5 j.size (λk O=>(r.lt k O).1)) hb).2.2.1⟩)
       ((refine qQ w3.drew rfl _ _ _ rfl w 166 i0 _ 4 32 underlying136 hi hz0 hz1 hz2 rfl (by decide) u5 _ _ rfl hdo [p,t,N,u] rfl rfl (by simp[Value.oneCell']) (by omega) (by decide) j.size _ rfl ?_;intro v5 w5 hw5 hg5 aau))
      go_wp2_with fail;have dh:Below w w w5:=below_grown (below_drewN j 1) hg5 j.size (λk O=>(r.lt k O).1)
      have rM:=D.drew.grown hg5 Q;have hgs:gy<w3.drew.heap.size:=D.lt;have xg:aW w5 w v5 (Lk.cut (l.take k) ⟨Y,N,I,xa⟩++[⟨p,t,N,u⟩]):=aW.snoc hw5 rfl;have hne5:some gy≠v5.ownBlock:=Oa aau Q D.lt;clear j D r hdo hw5 hg5 aau z F H E G h;have z:=rM.four;obtain⟨F,H,E,G⟩:=hx.below dh hb;dsimp only at F H E G;have h:b<w5:=bE hb dh.size
      rcases hq:decide (I<q)with _|_
      ·refine eO (by kernel_rfl) (by kernel_rfl) ?_
       repeat(first|go_big_quiet_step (fail)|quiet_step (fail))
       refine ic ?_
       intro w6 m;obtain⟨n,a⟩:=m;have M:=below_drewN dh n;have W:=rM.drewN n;have nz:=own_drewN xg n;rw[<-a]at M W nz;clear a dh rM xg z F H E G h;have z:=W.four;obtain⟨F,H,E,G⟩:=hx.below M hb;dsimp only at F H E G;have h:b<w6:=bE hb M.size;go_wp2;go_roundw
       case rel=>
        have e:Lk.mW ⟨Y,N,I,xa⟩ ⟨p,t,q,u⟩=[⟨p,t,N,u⟩]:=by
         rw[Lk.xN (x:=⟨Y,N,I,xa⟩) (y:=⟨p,t,q,u⟩) Ho.out (by simpa using hb1) (by simpa using hb2)]
         rw[aM (show t<N from by simpa using hp),av (show¬I<q from by simpa using hq)]
         rfl
        rw[e]at Hs;exact⟨k+1,Z,by go_num,by rw[Hs.out];exact nz,M⟩
       case measure=>simp[intOf];omega
      refine eO (by kernel_rfl) (by kernel_rfl) ?_
      repeat(first|go_big_quiet_step (fail)|quiet_step (fail))
      refine ic ?_
      intro w6 m;obtain⟨n,a⟩:=m;have M:=below_drewN dh n;have W:=rM.drewN n;have nz:=own_drewN xg n;rw[<-a]at M W nz;clear a dh rM xg z F H E G h;have z:=W.four;obtain⟨F,H,E,G⟩:=hx.below M hb;dsimp only at F H E G;have h:b<w6:=bE hb M.size;go_wp2_with fail;have hdo:aW w6.drew w v5 _:=nz
      go_region_held3 (λw'=>w'.cell? gy=some (.int .i64 p)/\w'.cell? ⟨gy,1,none⟩=some (.int .i64 t)/\w'.cell? ⟨gy,2,none⟩=some (.int .i64 q)/\w'.cell? ⟨gy,3,none⟩=some (.bool u)/\w'.cell? ⟨b,o+1,none⟩=some (.int .i64 N)/\w'.cell? ⟨b,o+2,none⟩=some (.int .i64 I))
       (first
        |go_keep
        |exact⟨(W.drew.grown Ep (hne5)).cell 0,(W.drew.grown Ep (hne5)).cell 1,(W.drew.grown Ep (hne5)).cell 2,(W.drew.grown Ep (hne5)).cell 3,(hx.below (below_grown (below_drewN M 1) Ep M.size (λk O=>(nz.lt k O).1)) hb).2.1,(hx.below (below_grown (below_drewN M 1) Ep M.size (λk O=>(nz.lt k O).1)) hb).2.2.1⟩)
       ((refine qQ w6.drew rfl _ _ _ rfl w 166 i0 _ 4 32 underlying136 hi hz0 hz1 hz2 rfl (by decide) v5 _ _ rfl hdo [p,I,q,u] rfl rfl (by simp[Value.oneCell']) (by first|omega|(simp only[bq,gL,sw];omega)) (by decide) M.size _ rfl ?_;intro v8 w8 hw8 Ep XP))
      go_wp2;go_roundw
      case rel=>
       have e:Lk.mW ⟨Y,N,I,xa⟩ ⟨p,t,q,u⟩=[⟨p,t,N,u⟩,⟨p,I,q,u⟩]:=by
        rw[Lk.xN (x:=⟨Y,N,I,xa⟩) (y:=⟨p,t,q,u⟩) Ho.out (by simpa using hb1) (by simpa using hb2)]
        rw[aM (show t<N from by simpa using hp),aM (show I<q from by simpa using hq)]
        rfl
       rw[e]at Hs;exact⟨k+1,Z,by go_num,aW.snoc (l:=Lk.cut (l.take k) ⟨Y,N,I,xa⟩++[⟨p,t,N,u⟩]) (y:=⟨p,I,q,u⟩) hw8 (by rw[Hs.out];simp),below_grown (below_drewN M 1) Ep M.size (λk O=>(nz.lt k O).1)⟩
      case measure=>simp[intOf];omega
     refine eO (by kernel_rfl) (by kernel_rfl) ?_
     repeat(first|go_big_quiet_step (fail)|quiet_step (fail))
     refine ic ?_
     intro w2 m;obtain⟨n,a⟩:=m;have g:=below_drewN S n;have K:=U.drewN n;have B:=own_drewN ho1 n;rw[<-a]at g K B;clear a S U ho1 z F H E G h;have z:=K.four;obtain⟨F,H,E,G⟩:=hx.below g hb;dsimp only at F H E G;have h:b<w2:=bE hb g.size
     go_wp2_with (first|(at_builtin;refine ax w2 rfl _ _ _ rfl w 166 i0 _ 4 32 underlying136 hi hz0 hz1 hz2 rfl (by decide) u5 _ _ rfl B [p,t,q,u] rfl rfl (by simp[Value.oneCell']) (by omega) (by decide) g.size _ rfl ?_;intro v3 w3 r hg3 _))
     go_roundw
     case rel=>
      have e:Lk.mW ⟨Y,N,I,xa⟩ ⟨p,t,q,u⟩=[⟨p,t,q,u⟩]:=Lk.yT (.inr (.inr (by simpa using hb2)))
      rw[e]at Hs;exact⟨k+1,Z,by go_num,aW.snoc r Hs.out,below_grown g hg3 g.size (λk O=>(B.lt k O).1)⟩
     case measure=>simp[intOf];omega
    refine eO (by kernel_rfl) (by kernel_rfl) ?_
    repeat(first|go_big_quiet_step (fail)|quiet_step (fail))
    refine ic ?_
    intro w2 m;obtain⟨n,a⟩:=m;have g:=below_drewN S n;have K:=U.drewN n;have B:=own_drewN ho1 n;rw[<-a]at g K B;clear a S U ho1 z F H E G h;have z:=K.four;obtain⟨F,H,E,G⟩:=hx.below g hb;dsimp only at F H E G;have h:b<w2:=bE hb g.size
    go_wp2_with (first|(at_builtin;refine ax w2 rfl _ _ _ rfl w 166 i0 _ 4 32 underlying136 hi hz0 hz1 hz2 rfl (by decide) u5 _ _ rfl B [p,t,q,u] rfl rfl (by simp[Value.oneCell']) (by omega) (by decide) g.size _ rfl ?_;intro v3 w3 r hg3 _))
    go_roundw
    case rel=>
     have e:Lk.mW ⟨Y,N,I,xa⟩ ⟨p,t,q,u⟩=[⟨p,t,q,u⟩]:=Lk.yT (.inr (.inl (by simpa using hb1)))
     rw[e]at Hs;exact⟨k+1,Z,by go_num,aW.snoc r Hs.out,below_grown g hg3 g.size (λk O=>(B.lt k O).1)⟩
    case measure=>simp[intOf];omega
   refine eO (by kernel_rfl) (by kernel_rfl) ?_
   repeat(first|go_big_quiet_step (fail)|quiet_step (fail))
   refine ic ?_
   intro w2 m;obtain⟨n,a⟩:=m;have g:=below_drewN S n;have K:=U.drewN n;have B:=own_drewN ho1 n;rw[<-a]at g K B;clear a S U ho1 z F H E G h;have z:=K.four;obtain⟨F,H,E,G⟩:=hx.below g hb;dsimp only at F H E G;have h:b<w2:=bE hb g.size
   go_wp2_with (first|(at_builtin;refine ax w2 rfl _ _ _ rfl w 166 i0 _ 4 32 underlying136 hi hz0 hz1 hz2 rfl (by decide) u5 _ _ rfl B [p,t,q,u] rfl rfl (by simp[Value.oneCell']) (by omega) (by decide) g.size _ rfl ?_;intro v3 w3 r hg3 _))
   go_roundw
   case rel=>
    have e:Lk.mW ⟨Y,N,I,xa⟩ ⟨p,t,q,u⟩=[⟨p,t,q,u⟩]:=Lk.yT (.inl (by simpa using Ud))
    rw[e]at Hs;exact⟨k+1,Z,by go_num,aW.snoc r Hs.out,below_grown g hg3 g.size (λk O=>(B.lt k O).1)⟩
   case measure=>simp[intOf];omega
  go_wp2;go_ret;have e:l.take k=l:=fI (by omega)
  rw[e]at hown;exact⟨_,rfl,hown,hB⟩
open Go.RowKit Go.Sort Go.Shelf
def Ez(a b:Int):Int:=if a<b then -1 else if b<a then 1 else 0
def orI(a b:Int):Int:=if a=0 then b else a
def Lk.cf(x y:Lk):Int:=orI (Ez x.o y.o) (Ez x.f y.f)
theorem H_{k:IntKind}{a b:Int}(h:a=b):Ending.returned (.int k a)= .returned (.int k b):=by rw[h]
theorem EC(a b:Int)(w:World):Calls prog 198 #[a,b] w λe w'=>e= .returned (.int .i64 (Ez a b))/\w=w':=by
 by_cases g:a<b
 ·have c:Hid (Ez a b= -1):=aM g
  go_enter func198,ntmps198
  go_wp2
  go_ret;exact⟨by rw[c.out];rfl,rfl⟩
 by_cases h:b<a
 focus
  have c:Hid (Ez a b=1):=(av g).trans (aM h)
 rotate_left
 focus
  have c:Hid (Ez a b=0):=(av g).trans (av h)
 all_goals
  go_enter func198,ntmps198
  go_wp2
  go_ret;exact⟨by rw[c.out];rfl,rfl⟩
theorem XQ(g:Nat)(a b:Int)(c:Nat)(w:World)(ha:w.cell? g=some (.int .i64 a))(hb:w.cell? ⟨g,1,none⟩=some (.int .i64 b)):Calls prog 197 #[.slice g 2 c] w λe w'=>e= .returned (.int .i64 (orI a b))/\w=w':=by
 have n:∀k:Nat,k<2->w.cell? ⟨g,k,none⟩=some (.int .i64 (if k=0 then a else b)):=λk r=>by
  rcases k with _|_|k
  ·exact ha
  ·exact hb
  omega
 go_enter func197,ntmps197
 go_wp2
 go_loop [8] (λi=>∃k:Nat,k<=2/\i= .int .i64 k/\Hid ((0<k->a=0)/\(1<k->b=0))) (λi=>2- (intOf i).toNat)
 case atStart=>exact⟨0,by omega,rfl,λh=>absurd h (by omega),λh=>absurd h (by omega)⟩
 case round=>
  obtain⟨k,r,rfl,l⟩:=hrel
  by_cases o:k<2
  ·have p:=n k o
   generalize hy:(if k=0 then a else b)=y at p
   have q:=aL hy
   rcases j:(y !=0)with _|_
   ·go_wp2
    go_round
    case rel=>
     have m:y=0:=by simpa using j
     have e:=q.out;rw[m]at e;refine⟨k+1,by omega,by go_num,λ_=> ?_,λ_=> ?_⟩
     ·rcases nA k with h|h
      ·simpa[h]using e
      exact l.out.1 h
     have:k=1:=by omega
     simpa[this]using e
    case measure=>simp[intOf];omega
   go_wp2
   go_ret;refine⟨?_,rfl⟩
   have m:y≠0:=by simpa using j
   have e:=q.out;refine H_ ?_
   unfold orI
   rcases nA k with h|h
   ·rw[aM h]at e
    subst e;rw[av m]
   rw[av (by omega)]at e
   rw[aM (l.out.1 h),e]
  go_wp2
  go_ret;have t:k=2:=by omega
  refine⟨H_ ?_,rfl⟩
  unfold orI;rw[aM (l.out.1 (by omega)),l.out.2 (by omega)]
theorem O8(x y:Lk)(W:World):Calls prog 196 #[.agg x.cells.toArray,.agg y.cells.toArray] W λe w'=>e= .returned (.int .i64 (Lk.cf x y))/\Gr W w':=by
 obtain⟨b,c,k,h⟩:=x;obtain⟨g,a,j,i⟩:=y;simp only[Lk.cells];go_enter func196,ntmps196;go_wp2_with fail
 go_region_held3 (λw'=>w'.cell? W.heap.size=some (.int .i64 b)/\w'.cell? ⟨W.heap.size,1,none⟩=some (.int .i64 c)/\w'.cell? (W.heap.size+1:Nat)=some (.int .i64 g)/\w'.cell? ⟨W.heap.size+1,1,none⟩=some (.int .i64 a))
  (first|go_keep)
  (first
   |(go_at_call 198;refine(EC _ _ _).mono ?_;rintro e w' ⟨rfl,rfl⟩)
   |(go_at_call 197;refine(XQ _ (Ez b g) (Ez c a) _ _ (by go_simp) (by go_simp)).mono ?_;rintro e w' ⟨rfl,rfl⟩))
 all_goals go_wp2
 all_goals go_ret
 all_goals exact⟨rfl,by repeat(first|exact Gr.refl _|apply Gr.drew|apply Gr.drewN|apply Gr.alloc)⟩
theorem xX(x y:Lk):ltOf Lk.cf x y=Lk.less x y:=by
 unfold ltOf Lk.cf orI Ez Lk.less
 by_cases a:x.o<y.o
 ·simp[a]
 by_cases c:y.o<x.o
 ·have:¬x.o=y.o:=by omega
  simp[a,c,this]
 have e:x.o=y.o:=by omega
 rw[e]
 by_cases b:x.f<y.f
 ·simp[b]
 by_cases g:y.f<x.f<;>simp[b,g]
instance:Inhabited Lk:=⟨Lk.zero⟩
theorem XR:SWO (ltOf Lk.cf) where
 irrefl x:=by rw[xX];simp[Lk.less]
 trans x y z h1 h2:=by rw[xX]at*;simp[Lk.less]at*;omega
 ntrans x y z h1 h2:=by rw[xX]at*;simp[Lk.less]at*;omega
theorem RZ:∀w,(isAgg (sortLk_ren.t 24)).run prog w= .ok true w:=λw=>by kernel_rfl
theorem O9:∀w,(Go.sizeOf (sortLk_ren.t 24)).run prog w= .ok 4 w:=λw=>by kernel_rfl
theorem Ky(base g cap:Nat)(l:List Lk)(w:World)(h:aW w base (.slice g l.length cap) l)(hsz:l.length<=1000):Calls prog 195 #[.slice g l.length cap,.func (.func 196) #[] #[]] w λe w'=>e= .returned (.tuple #[])/\
   ∃l':List Lk,l'.Perm l/\(l'.Pairwise λx y=>Lk.less y x=false)/\aW w' base (.slice g l.length cap) l'/\w.grownBy w' (some g):=by
 have k:∀a w,(callFunc 196 a).run prog w= .ok (.enter 196 a) w:=enters_of func196 (by kernel_rfl) rfl
 have c:=QD sortLk 4 RZ O9 Lk.cells (λ_=>rfl) (λx v i=>by simp[Lk.cells]at i;rcases i with rfl|rfl|rfl|rfl<;>rfl) Lk.cf XR 196 #[] base 166 g l.length cap l w k
  (λW x y=>O8 x y W) h rfl (by omega)
 refine Calls.mono (P:=prog) (f:=195) c ?_
 rintro e w' ⟨rfl,l',b,m,j,n⟩;refine⟨rfl,l',b,by simpa only[xX]using m,?_,n⟩
 unfold aW;rw[b.length_eq];exact j
theorem Du(r:List Lk)(y:Lk):(Lk.flat (r++[y]))[r.length*4+0]? =some (.int .i64 y.o)/\(Lk.flat (r++[y]))[r.length*4+1]? =some (.int .i64 y.f)/\(Lk.flat (r++[y]))[r.length*4+2]? =some (.int .i64 y.t)/\(Lk.flat (r++[y]))[r.length*4+3]? =some (.bool y.a):=by
 have h:=Et (r++[y]) r.length (by simp)
 simpa using h
theorem mG(l:List Lk):(Lk.flat l).length=l.length*4:=by
 induction l with
 |nil=>rfl
 |cons x r ih=>rw[show Lk.flat (x::r)=x.cells++Lk.flat r from rfl,bq,ih,gL];simp only[Lk.cells,gL,sw];omega
theorem aW.last{w:World}{base:Nat}{v:Value}{r:List Lk}{yo yf yt z:Int}{ya:Bool}(h:w.ownsRow base 166 4 v (r.length+1) ((Lk.flat (r++[⟨yo,yf,yt,ya⟩])).set (r.length*4+2) (.int .i64 z))):aW w base v (r++[⟨yo,yf,z,ya⟩]):=by
 unfold aW;have e:(Lk.flat (r++[⟨yo,yf,yt,ya⟩])).set (r.length*4+2) (.int .i64 z)=Lk.flat (r++[⟨yo,yf,z,ya⟩]):=by
  rw[nD,nD,List.set_append_right _ _ (by rw[mG];omega),mG,show r.length*4+2-r.length*4=2 from by omega]
  rfl
 rw[<-e]
 simpa using h
theorem R_(base g cap:Nat)(l:List Lk)(w:World)(h:aW w base (.slice g l.length cap) l)(hsz:l.length<=1000):Calls prog 174 #[.slice g l.length cap] w λe w'=>∃v l',e= .returned v/\l'.Perm l/\(l'.Pairwise λx y=>Lk.less y x=false)/\aW w' w v (Lk.tidy l')/\w.grownBy w' (some g):=by
 obtain⟨i0,hi,W,Z,hz2⟩:=lw oZ;go_enter func174,ntmps174;go_wp2_with fail;refine(Ky base g cap l w h hsz).mono ?_
 rintro e D ⟨rfl,l',hp,hs,ho,hg⟩;rw[<-hp.length_eq]at hsz ho ⊢;have hl:dJ D D (some ⟨g,0,none⟩) l':=by
  have:=Rd.iK ho;exact this
 have Hp:=aL hp;have Hs0:=aL hs;have Hg:=aL hg;have hbase:w.heap.size<=D.heap.size:=hg.size;clear hp hs hg h ho;go_wp2
 go_loopw [3,11] (λv i wr=>∃k:Nat,k<=l'.length/\i= .int .i64 k/\aW wr D v (Lk.tidy (l'.take k))/\Below D D wr) (λ_ i _=>l'.length- (intOf i).toNat)
 case atStart=>exact⟨0,bL _,rfl,jN _ _ _ _,aa _ _⟩
 case round=>
  obtain⟨k,U,rfl,a,E⟩:=hrel
  by_cases K:k<l'.length
  ·obtain⟨bl,ol,hA,hbl,hat⟩:=(dJ.at_ (hl.below E) K)
   cases hA
   obtain⟨h0,h1,h2,h3⟩:=hat;have hno:(Lk.tidy (l'.take k)).length<=k:=by have:=Lk.UF (l'.take k);rw[bR]at this;omega
   generalize hxk:l'[k]=x at h0 h1 h2 h3;obtain⟨m,c,j,b⟩:=x;have Hs:=aL (Lk.Ot K hxk);clear hxk;dsimp only at h0 h1 h2 h3;simp only[mE]at h0 h1 h2 h3;generalize hos:Lk.tidy (l'.take k)=os at*;have Ho:=aL hos;clear hos
   rcases aB a with⟨hv,hn0⟩|⟨g',L,hv,hbg,B,hnc⟩
   ·obtain rfl:os=[]:=zb hn0
    subst hv;clear hn0;go_wp2_with fail;clear h0 h1 h2 h3;have u:Below D D (wr.alloc (.cells #[m,c,j,b] 166)):=E.alloc E.size _;have q:ai (wr.alloc (.cells #[m,c,j,b] 166)) wr 166 [m,c,j,b]:=ai.new _ _ _;have A:=aH a (.cells #[m,c,j,b] 166);have hgx:D.heap.size<=wr.heap.size:=E.size;clear E a;generalize wr.alloc (.cells #[m,c,j,b] 166)=w2 at*;generalize wr.heap.size=gx at*;have z:=q.four;refine eO (by kernel_rfl) (by kernel_rfl) ?_
    repeat(first|go_big_quiet_step (fail)|quiet_step (fail))
    refine ic ?_
    intro S F;obtain⟨G,o⟩:=F;have n:=below_drewN u G;have t:=q.drewN G;have p:=own_drewN A G;rw[<-o]at n t p;clear o u q A z;have z:=t.four
    go_wp2_with (first|(at_builtin;go_must (refine ax S rfl _ _ _ rfl D 166 i0 _ 4 32 underlying136 hi W Z hz2 rfl (by decide) (.slice none 0 0) _ _ rfl p [m,c,j,b] rfl rfl (by simp[Value.oneCell']) (by omega) (by decide) n.size _ rfl ?_);intro v3 w9 H I _))
    go_roundw
    case rel=>exact⟨k+1,K,by go_num,aW.snoc (l:=[]) (y:=⟨m,c,j,b⟩) (hn:=by simp) H (Hs.out.trans (by rfl)),below_grown n I n.size (λk U=>(p.lt k U).1)⟩
    case measure=>simp[intOf];omega
   rcases tO os with rfl|⟨r,y,rfl⟩
   ·rw[sw]at hv
    subst hv;go_wp2_with fail;clear h0 h1 h2 h3;have u:Below D D (wr.alloc (.cells #[m,c,j,b] 166)):=E.alloc E.size _;have q:ai (wr.alloc (.cells #[m,c,j,b] 166)) wr 166 [m,c,j,b]:=ai.new _ _ _;have A:=aH a (.cells #[m,c,j,b] 166);have hgx:D.heap.size<=wr.heap.size:=E.size;clear E a;generalize wr.alloc (.cells #[m,c,j,b] 166)=w2 at*;generalize wr.heap.size=gx at*;have z:=q.four;refine eO (by kernel_rfl) (by kernel_rfl) ?_
    repeat(first|go_big_quiet_step (fail)|quiet_step (fail))
    refine ic ?_
    intro S F;obtain⟨G,o⟩:=F;have n:=below_drewN u G;have t:=q.drewN G;have p:=own_drewN A G;rw[<-o]at n t p;clear o u q A z;have z:=t.four
    go_wp2_with (first|(at_builtin;go_must (refine ax S rfl _ _ _ rfl D 166 i0 _ 4 32 underlying136 hi W Z hz2 rfl (by decide) (.slice g' 0 L) _ _ rfl p [m,c,j,b] rfl rfl (by simp[Value.oneCell']) (by omega) (by decide) n.size _ rfl ?_);intro v3 w9 H I _))
    go_roundw
    case rel=>exact⟨k+1,K,by go_num,aW.snoc (l:=[]) (y:=⟨m,c,j,b⟩) (hn:=by simp) H (Hs.out.trans (by rfl)),below_grown n I n.size (λk U=>(p.lt k U).1)⟩
    case measure=>simp[intOf];omega
   obtain⟨Y,yf,V,ya⟩:=y;simp only[p8,bq,gL,sw,mE]at*;subst hv;replace a:wr.ownsRow D 166 4 (.slice g' (r.length+1) L) (r.length+1) (Lk.flat (r++[⟨Y,yf,V,ya⟩])):=by
    have:=a;unfold aW at this;rw[bq]at this;exact this
   obtain⟨M,O,Q,N⟩:=Du r ⟨Y,yf,V,ya⟩;have M:=(a.cellAt (r.length*4+0) (by omega)).trans M
   have O:=(a.cellAt (r.length*4+1) (by omega)).trans O
   have Q:=(a.cellAt (r.length*4+2) (by omega)).trans Q
   have N:=(a.cellAt (r.length*4+3) (by omega)).trans N
   simp only[tQ]at M;dsimp only at M O Q N
   rcases t0:(Y==m)with _|_
   ·go_wp2_with fail
    clear h0 h1 h2 h3;have u:Below D D (wr.alloc (.cells #[m,c,j,b] 166)):=E.alloc E.size _;have q:ai (wr.alloc (.cells #[m,c,j,b] 166)) wr 166 [m,c,j,b]:=ai.new _ _ _;have A:=aH a (.cells #[m,c,j,b] 166);have hgx:D.heap.size<=wr.heap.size:=E.size;have M:=(dx wr (.cells #[m,c,j,b] 166) _ B).trans M;have O:=(dx wr (.cells #[m,c,j,b] 166) _ B).trans O;have Q:=(dx wr (.cells #[m,c,j,b] 166) _ B).trans Q;have N:=(dx wr (.cells #[m,c,j,b] 166) _ B).trans N;clear E a;generalize wr.alloc (.cells #[m,c,j,b] 166)=w2 at*;generalize wr.heap.size=gx at*;have z:=q.four;refine eO (by kernel_rfl) (by kernel_rfl) ?_
    repeat(first|go_big_quiet_step (fail)|quiet_step (fail))
    refine ic ?_
    intro S F;obtain⟨G,o⟩:=F;have n:=below_drewN u G;have t:=q.drewN G;have p:=own_drewN A G;rw[<-o]at n t p;clear o u q A z M O Q N;have z:=t.four
    go_wp2_with (first|(at_builtin;go_must (refine ax S rfl _ _ _ rfl D 166 i0 _ 4 32 underlying136 hi W Z hz2 rfl (by decide) (.slice g' (r.length+1) L) _ _ rfl p [m,c,j,b] rfl rfl (by simp[Value.oneCell']) (by omega) (by decide) n.size _ rfl ?_);intro v3 w9 H I _))
    go_roundw
    case rel=>exact⟨k+1,K,by go_num,aW.snoc (l:=r++[⟨Y,yf,V,ya⟩]) (y:=⟨m,c,j,b⟩) (hn:=by simp) H (Hs.out.trans (by exact Lk.jd r ⟨Y,yf,V,ya⟩ ⟨m,c,j,b⟩ (by simp[Lk.touch,t0]))),below_grown n I n.size (λk U=>(p.lt k U).1)⟩
    case measure=>simp[intOf];omega
   rcases t1:(V==c)with _|_
   ·go_wp2_with fail
    clear h0 h1 h2 h3;have u:Below D D (wr.alloc (.cells #[m,c,j,b] 166)):=E.alloc E.size _;have q:ai (wr.alloc (.cells #[m,c,j,b] 166)) wr 166 [m,c,j,b]:=ai.new _ _ _;have A:=aH a (.cells #[m,c,j,b] 166);have hgx:D.heap.size<=wr.heap.size:=E.size;have M:=(dx wr (.cells #[m,c,j,b] 166) _ B).trans M;have O:=(dx wr (.cells #[m,c,j,b] 166) _ B).trans O;have Q:=(dx wr (.cells #[m,c,j,b] 166) _ B).trans Q;have N:=(dx wr (.cells #[m,c,j,b] 166) _ B).trans N;clear E a;generalize wr.alloc (.cells #[m,c,j,b] 166)=w2 at*;generalize wr.heap.size=gx at*;have z:=q.four;refine eO (by kernel_rfl) (by kernel_rfl) ?_
    repeat(first|go_big_quiet_step (fail)|quiet_step (fail))
    refine ic ?_
    intro S F;obtain⟨G,o⟩:=F;have n:=below_drewN u G;have t:=q.drewN G;have p:=own_drewN A G;rw[<-o]at n t p;clear o u q A z M O Q N;have z:=t.four
    go_wp2_with (first|(at_builtin;go_must (refine ax S rfl _ _ _ rfl D 166 i0 _ 4 32 underlying136 hi W Z hz2 rfl (by decide) (.slice g' (r.length+1) L) _ _ rfl p [m,c,j,b] rfl rfl (by simp[Value.oneCell']) (by omega) (by decide) n.size _ rfl ?_);intro v3 w9 H I _))
    go_roundw
    case rel=>exact⟨k+1,K,by go_num,aW.snoc (l:=r++[⟨Y,yf,V,ya⟩]) (y:=⟨m,c,j,b⟩) (hn:=by simp) H (Hs.out.trans (by exact Lk.jd r ⟨Y,yf,V,ya⟩ ⟨m,c,j,b⟩ (by simp[Lk.touch,t1]))),below_grown n I n.size (λk U=>(p.lt k U).1)⟩
    case measure=>simp[intOf];omega
   rcases t2:(ya==b)with _|_
   ·go_wp2_with fail
    clear h0 h1 h2 h3;have u:Below D D (wr.alloc (.cells #[m,c,j,b] 166)):=E.alloc E.size _;have q:ai (wr.alloc (.cells #[m,c,j,b] 166)) wr 166 [m,c,j,b]:=ai.new _ _ _;have A:=aH a (.cells #[m,c,j,b] 166);have hgx:D.heap.size<=wr.heap.size:=E.size;have M:=(dx wr (.cells #[m,c,j,b] 166) _ B).trans M;have O:=(dx wr (.cells #[m,c,j,b] 166) _ B).trans O;have Q:=(dx wr (.cells #[m,c,j,b] 166) _ B).trans Q;have N:=(dx wr (.cells #[m,c,j,b] 166) _ B).trans N;clear E a;generalize wr.alloc (.cells #[m,c,j,b] 166)=w2 at*;generalize wr.heap.size=gx at*;have z:=q.four;refine eO (by kernel_rfl) (by kernel_rfl) ?_
    repeat(first|go_big_quiet_step (fail)|quiet_step (fail))
    refine ic ?_
    intro S F;obtain⟨G,o⟩:=F;have n:=below_drewN u G;have t:=q.drewN G;have p:=own_drewN A G;rw[<-o]at n t p;clear o u q A z M O Q N;have z:=t.four
    go_wp2_with (first|(at_builtin;go_must (refine ax S rfl _ _ _ rfl D 166 i0 _ 4 32 underlying136 hi W Z hz2 rfl (by decide) (.slice g' (r.length+1) L) _ _ rfl p [m,c,j,b] rfl rfl (by simp[Value.oneCell']) (by omega) (by decide) n.size _ rfl ?_);intro v3 w9 H I _))
    go_roundw
    case rel=>exact⟨k+1,K,by go_num,aW.snoc (l:=r++[⟨Y,yf,V,ya⟩]) (y:=⟨m,c,j,b⟩) (hn:=by simp) H (Hs.out.trans (by exact Lk.jd r ⟨Y,yf,V,ya⟩ ⟨m,c,j,b⟩ (by simp[Lk.touch,t2]))),below_grown n I n.size (λk U=>(p.lt k U).1)⟩
    case measure=>simp[intOf];omega
   go_wp2_with fail;clear h0 h1 h2 h3;have u:Below D D (wr.alloc (.cells #[m,c,j,b] 166)):=E.alloc E.size _;have q:ai (wr.alloc (.cells #[m,c,j,b] 166)) wr 166 [m,c,j,b]:=ai.new _ _ _;have A:=aH a (.cells #[m,c,j,b] 166);have hgx:D.heap.size<=wr.heap.size:=E.size;have M:=(dx wr (.cells #[m,c,j,b] 166) _ B).trans M;have O:=(dx wr (.cells #[m,c,j,b] 166) _ B).trans O;have Q:=(dx wr (.cells #[m,c,j,b] 166) _ B).trans Q;have N:=(dx wr (.cells #[m,c,j,b] 166) _ B).trans N;clear E a;generalize wr.alloc (.cells #[m,c,j,b] 166)=w2 at*;generalize wr.heap.size=gx at*;have z:=q.four;refine eO (by kernel_rfl) (by kernel_rfl) ?_
   repeat(first|go_big_quiet_step (fail)|quiet_step (fail))
   refine ic ?_
   intro S F;obtain⟨G,o⟩:=F;have n:=below_drewN u G;have t:=q.drewN G;have p:=own_drewN A G;rw[<-o]at n t p;clear o u q A z M O Q N;have z:=t.four;have hfz:S.frozen? ⟨g',r.length*4+2,none⟩=false:=p.frozenAt _;have hcl:S.cell? ⟨g',r.length*4+2,none⟩=some (.int .i64 V):=(p.cellAt _ (by omega)).trans (Du r ⟨Y,yf,V,ya⟩).2.2.1
   go_wp2;go_roundw
   case rel=>
    obtain⟨s1,s2⟩:=p.stored (r.length*4+2) (.int .i64 j);refine⟨k+1,K,by go_num,?_,n.grown s2 n.size (λk U=>by cases U;exact hbg)⟩
    rw[Hs.out,Lk.mi r ⟨Y,yf,V,ya⟩ ⟨m,c,j,b⟩ (by simp only[Lk.touch,kI];exact⟨⟨t0,t1⟩,t2⟩)]
    exact aW.last s1
   case measure=>simp[intOf];omega
  go_wp2;go_ret;have e:l'.take k=l':=fI (by omega)
  rw[e]at a;exact⟨_,l',rfl,Hp.out,Hs0.out,own_base a hbase,dN Hg.out E⟩
theorem zL(g:Nat)(x:Lk)(ow:Int)(w:World)(hx:w.cell? g=some (.int .i64 ow))(hg:g<w):Calls prog 167 #[.agg #[x.o,x.f,x.t,x.a],.pointer g] w λe w'=>e= .returned (.bool (x.o==ow))/\Below w w w':=by
 obtain⟨b,i,c,h⟩:=x;dsimp only;go_enter func167,ntmps167;go_wp2;go_ret;exact⟨rfl,(aa _ _).alloc aR _⟩
theorem qA{l:List Lk}{u:Value}(h:u∈Lk.flat l):u.oneCell'=true:=by
 simp only[Lk.flat,Fw,Lk.cells,iX,List.mem_nil_iff,or_false]at h;obtain⟨x,_,rfl|rfl|rfl|rfl⟩:=h<;>rfl
theorem XT{w:World}{B size n:Nat}{ad:Addr}{xs:List Value}(h:Rd w B size (some ad) n xs){j:Nat}{u:Value}(hu:xs[j]? =some u){w':World}(hw:w'=w.alloc (.cells #[] 166))(hB:B<=w.heap.size):w'.cell? (ad.add j)=some u:=by
 have i:j<xs.length:=by
  rcases iB j xs.length with a|a
  ·exact a
  rw[j4 a]at hu;cases hu
 have g:0<n:=by
  rcases nA n with a|a
  ·have:=h.1;rw[a]at this;omega
  exact a
 obtain⟨b,o,e,k,c⟩:=h.2 g
 cases e
 have ha:(⟨b,o,none⟩:Addr).add j=⟨b,o+j,none⟩:=by
  unfold Addr.add
  split
  ·rename_i a;subst a;rfl
  rfl
 rw[ha,hw,dx _ _ _ (by show b<w;omega)]
 exact c j u hu
theorem clone_any(A:Option Addr)(c:Nat)(l:List Lk)(w:World)(hl:dJ w w A l)(hn:l.length<=2000000):Calls prog 166 #[.slice A l.length c] w λe w'=>∃v,e= .returned v/\aW w' w v l/\Below w w w':=by
 obtain⟨x,B,p,q,g⟩:=lw oZ;have a:=λW n k=>Lib.run_eql_slice_nil (P:=prog) W 136 166 A n k 0 0 underlying136
 rcases A with _|D
 ·have z:l.length=0:=by
   rcases nA l.length with h|h
   ·exact h
   obtain⟨b,o,e,_⟩:=hl.2 h;cases e
  have m:l=[]:=zb z;subst m;simp only[Option.isNone_none]at a;go_enter func166,ntmps166;go_wp2;go_ret;exact⟨_,rfl,jN _ _ _ _,aa _ _⟩
 simp only[Option.isNone_some]at a;go_enter func166,ntmps166
 go_wp2_with (first
  |(at_builtin;go_must (refine Cs _ rfl _ _ _ rfl w 166 x _ 4 32 underlying136 B p q g rfl (by decide) (.slice w 0 0) 0 [] rfl (World.ownsRow_lit (e:=166) (size:=4) w #[] 0 aR (by decide) rfl) D l.length c (Lk.flat l) rfl (by exact hl.1) (by intro j u r;exact XT hl r rfl aR) (by intro u r;exact qA r) (by unfold maxLen;omega) (by omega) (by simp) ?_);intro F E i t _))
 go_ret;refine⟨_,rfl,by simpa[aW]using i,below_grown ((aa _ _).alloc aR _) t (by simp) (λk y=>by simp[Value.ownBlock]at y;omega)⟩
def sU{α:Type}(p:α->Bool)(l:List α)(i:Int):Prop:=
 (i= -1/\∀x∈l,p x=false)\/∃k:Nat,i=k/\∃hk:k<l.length,p l[k]=true/\∀x∈l.take k,p x=false
theorem zM(A:Option Addr)(c g:Nat)(l:List Lk)(ow:Int)(w:World)(hl:dJ w w A l)(hbig:l.length<=9223372036854775807)(hx:w.cell? g=some (.int .i64 ow))(hg:g<w):Calls prog 190 #[.slice A l.length c,.func (.func 167) #[] #[.pointer g]] w λe w'=>∃i:Int,e= .returned (.int .i64 i)/\sU (λx:Lk=>x.o==ow) l i/\Below w w w':=by
 go_enter func190,ntmps190
 go_wp2
 go_loopw [8] (λi wr=>∃k:Nat,k<=l.length/\i= .int .i64 k/\Hid (∀x∈l.take k,(x.o==ow)=false)/\Below w w wr) (λi _=>l.length- (intOf i).toNat)
 case atStart=>exact⟨0,bL _,rfl,(show∀x∈l.take 0,(x.o==ow)=false by simp),aa _ _⟩
 case round=>
  obtain⟨k,K,rfl,j,n⟩:=hrel
  by_cases a:k<l.length
  ·obtain⟨b,o,rfl,I,E,F,D,G⟩:=(dJ.at_ (hl.below n) a)
   have r:wr.cell? g=some (.int .i64 ow):=(n.cell hg).trans hx;have t:g<wr:=bE hg n.size;have q:Hid (∀y,l[k]=y->(y.o==ow)=false->∀x∈l.take (k+1),(x.o==ow)=false):=by
    intro y m h x hx;rw[aF a,gF]at hx
    rcases hx with hx|hx
    ·exact j.out x hx
    simp at hx;rw[hx,m];exact h
   have v:Hid (∀y,l[k]=y->(y.o==ow)=true->sU (λx:Lk=>x.o==ow) l k):=λy m h=> .inr ⟨k,rfl,a,by rw[m];exact h,j.out⟩
   generalize m:l[k]=y at E F D G;have z:=aL m;go_wp2_with fail;refine(zL g y ow _ r t).mono ?_
   rintro e H ⟨rfl,u⟩;have p:=n.trans (u.mono n.size)
   rcases B:(y.o==ow)with _|_
   ·go_wp2
    go_roundw
    case rel=>exact⟨k+1,a,by go_num,q.out y z.out B,p⟩
    case measure=>simp[intOf];omega
   go_wp2;go_ret;exact⟨_,rfl,v.out y z.out B,p⟩
  go_wp2;go_ret;refine⟨_,rfl,.inl ⟨rfl,?_⟩,n⟩
  have:=j.out;rw[fI (by omega)]at this
  exact this
structure iM{α:Type}(p:α->Bool)(l r:List α)(i j:Nat):Prop where
 len:r.length=l.length
 lt:i<j
 le:j<=l.length
 kept:r.take i=(l.take j).filter λx=> !p x
 rest:r.drop j=l.drop j
section
variable {α:Type} {p:α->Bool} {l r:List α} {i j:Nat}
theorem iM.start{k:Nat}(hk:k<l.length)(hp:p l[k]=true)(hno:∀x∈l.take k,p x=false):iM p l l k (k+1):=by
 refine⟨rfl,by omega,hk,?_,rfl⟩
 rw[aF hk,j3];have e:(l.take k).filter (λx=> !p x)=l.take k:=by
  rw[wN];intro x a;simp[hno x a]
 rw[e];simp[hp]
theorem iM.at_(h:iM p l r i j)(hj:j<l.length):r[j]'(by rw[h.len];exact hj)=l[j]:=by
 have:=om (λq=>q[0]?) h.rest
 simp only[Cn,tQ]at this;rw[bA (by rw[h.len];exact hj),bA hj]at this
 injection this
theorem iM.skip(h:iM p l r i j)(hj:j<l.length){x:α}(hx:l[j]=x)(hp:p x=true):iM p l r i (j+1):=by
 refine⟨h.len,by have:=h.lt;omega,hj,?_,?_⟩
 ·rw[h.kept,aF hj,j3,hx]
  simp[hp]
 rw[<-List.drop_drop,h.rest,xS]
theorem iM.keep(h:iM p l r i j)(hj:j<l.length){x:α}(hx:l[j]=x)(hp:p x=false):iM p l (r.set i x) (i+1) (j+1):=by
 have a:i<r.length:=by rw[h.len];have:=h.lt;omega
 refine⟨by rw[zm];exact h.len,by have:=h.lt;omega,hj,?_,?_⟩
 ·rw[aF (by rw[zm];exact a),aF hj,j3,hx,<-h.kept,List.take_set_of_le aR]
  simp[hp]
 rw[List.drop_set_of_lt (by have:=h.lt;omega),<-List.drop_drop,h.rest,xS]
theorem iM.done(h:iM p l r i l.length):r.take i=l.filter λx=> !p x:=by
 rw[h.kept,gN]
end
theorem Si(r:List Lk)(i:Nat)(hi:i<r.length)(x:Lk):(((((Lk.flat r).set (i*4) (.int .i64 x.o)).set (i*4+1) (.int .i64 x.f)).set (i*4+2) (.int .i64 x.t)).set (i*4+3) (.bool x.a))=Lk.flat (r.set i x):=by
 induction r generalizing i with
 |nil=>simp at hi
 |cons y r ih=>
  have e:Lk.flat (y::r)=[.int .i64 y.o,.int .i64 y.f,.int .i64 y.t,.bool y.a]++Lk.flat r:=rfl;rw[e]
  rcases i with _|i
  ·rfl
  ·rw[Av,show Lk.flat (y::r.set i x)=[.int .i64 y.o,.int .i64 y.f,.int .i64 y.t,.bool y.a]++Lk.flat (r.set i x)from rfl,<-ih i (by simpa using hi)]
   have a:∀q,(i+1)*4+q=(i*4+q)+4:=λq=>by omega
   rw[show(i+1)*4=i*4+4 from by omega]
   simp only[Nat.add_right_comm _ 4]
   rfl
theorem O_(r:List Lk)(i:Nat):(Lk.flat r).take (i*4)=Lk.flat (r.take i):=by
 induction r generalizing i with
 |nil=>simp[Lk.flat]
 |cons y r ih=>
  rcases i with _|i
  ·simp[Lk.flat]
  ·have e:Lk.flat (y::r)=[.int .i64 y.o,.int .i64 y.f,.int .i64 y.t,.bool y.a]++Lk.flat r:=rfl
   rw[List.take_succ_cons,e,show Lk.flat (y::r.take i)=[.int .i64 y.o,.int .i64 y.f,.int .i64 y.t,.bool y.a]++Lk.flat (r.take i)from rfl,<-ih i,show(i+1)*4=i*4+4 from by omega]
   rfl
theorem Sj{l:List Lk}{ow:Int}(h:∀x∈l,(x.o==ow)=false):l.filter (λx=> !(x.o==ow))=l:=by
 rw[wN];intro x a;simp only[h x a]
 rfl
theorem U6:∀w,(zeroValue 166).run prog w= .ok (.agg #[(0:Int),(0:Int),(0:Int),false]) w:=λw=>by kernel_rfl
theorem Ia(base g cap gb:Nat)(l:List Lk)(ow:Int)(w:World)(ho:aW w base (.slice g l.length cap) l)(hbig:l.length<=2000000)(hx:w.cell? gb=some (.int .i64 ow))(hgb:gb<w)(hne:gb≠g):Calls prog 165 #[.slice g l.length cap,.func (.func 167) #[] #[.pointer gb]] w λe w'=>∃v,e= .returned v/\aW w' base v (l.filter λx=> !(x.o==ow))/\w.grownBy w' (some g):=by
 have hl:dJ w w (some ⟨g,0,none⟩) l:=Rd.iK ho;have hcap:l.length<=cap:=by
  rcases aB ho with⟨h,_⟩|⟨g',c',h,_,_,hc⟩
  ·cases h
  injection h with _ _ h;rw[h];exact hc
 go_enter func165,ntmps165;go_wp2_with fail;refine(zM _ cap gb l ow w hl (by omega) hx hgb).mono ?_
 rintro e w1 ⟨i,rfl,hi,m⟩;have L:=own_below ho m aR;have K:w.grownBy w1 (some g):=dN (Ao w _) m;have hx1:w1.cell? gb=some (.int .i64 ow):=(m.cell hgb).trans hx;have Z:gb<w1:=bE hgb m.size
 rcases hi with⟨rfl,n⟩|⟨k,rfl,hk,hp,n⟩
 ·have Hn:=aL (Sj n)
  go_wp2;go_ret;exact⟨_,rfl,by rw[Hn.out];exact L,K⟩
 have A:=aL (iM.start (p:=(λx:Lk=>x.o==ow)) hk hp n)
 have hk1:((k:Int)== -1)=false:=by simp
 go_wp2
 go_loopw [5,6] (λvi vj wr=>∃(i j:Nat) (r:List Lk),vi= .int .i64 i/\vj= .int .i64 j/\j<=l.length/\i<l.length/\Hid (iM (λx:Lk=>x.o==ow) l r i j)/\wr.ownsRow base 166 4 (.slice g l.length cap) l.length (Lk.flat r)/\w.grownBy wr (some g)/\wr.cell? gb=some (.int .i64 ow)/\gb<wr) (λ_ j _=>l.length- (intOf j).toNat)
 case atStart=>exact⟨k,k+1,l,rfl,by go_num,hk,hk,A,L,K,hx1,Z⟩
 case round=>
  obtain⟨i,j,r,rfl,rfl,hjl,hil,A,a,M,V,Q5⟩:=hrel
  by_cases hj:j<l.length
  ·have hrl:j<r.length:=by rw[A.out.len];exact hj
   have Hr:=aL (A.out.at_ hj)
   obtain⟨f0,f1,f2,f3⟩:=Et r j hrl;have h0:=(a.cellAt (j*4+0) (by omega)).trans f0
   have h1:=(a.cellAt (j*4+1) (by omega)).trans f1
   have h2:=(a.cellAt (j*4+2) (by omega)).trans f2
   have h3:=(a.cellAt (j*4+3) (by omega)).trans f3
   simp only[tQ]at h0;generalize hy:r[j]=y at*;have Hl:=aL (Hr.out.symm);obtain⟨t,B,D,E⟩:=y;dsimp only at h0 h1 h2 h3;have hgz:g<wr:=by
                    rcases aB a with⟨G,_⟩|⟨g',c',G,_,hz,_⟩;·cases G
                    ·injection G with G;injection G with G;injection G with G;rw[G];exact hz
   go_wp2_with fail;have ho2:=aH a (.cells #[t,B,D,E] 166);have hg2:=wP M (.cells #[t,B,D,E] 166);have H:=(dx wr (.cells #[t,B,D,E] 166) ⟨gb,0,none⟩ Q5).trans V;have F:gb<(wr.alloc (.cells #[t,B,D,E] 166)).heap.size:=by simp;omega
   have I:ai (wr.alloc (.cells #[t,B,D,E] 166)) wr 166 [t,B,D,E]:=ai.new _ _ _;generalize wr.alloc (.cells #[t,B,D,E] 166)=w2 at*;generalize wr.heap.size=gy at*;refine(zL gb ⟨t,B,D,E⟩ ow _ H F).mono ?_
   rintro e U ⟨rfl,m⟩;have b:=own_below ho2 m aR;have Y:=dN hg2 m;have O:=(m.cell (p:=gb) F).trans H;have hz3:=bE F m.size;have hy3:=I.below m I.lt;have z:=hy3.four;dsimp only
   rcases hc:(t==ow)with _|_
   ·have q0:i*4<l.length*4:=by omega
    have S:i*4+3<(Lk.flat r).length:=by rw[mG,A.out.len];omega
    have c0:∃u,U.cell? ⟨g,i*4,none⟩=some u:=⟨_,(b.cellAt _ (by omega)).trans (bA (by omega))⟩
    have c1:∃u,U.cell? ⟨g,i*4+1,none⟩=some u:=⟨_,(b.cellAt _ (by omega)).trans (bA (by omega))⟩
    have c2:∃u,U.cell? ⟨g,i*4+2,none⟩=some u:=⟨_,(b.cellAt _ (by omega)).trans (bA (by omega))⟩
    have c3:∃u,U.cell? ⟨g,i*4+3,none⟩=some u:=⟨_,(b.cellAt _ (by omega)).trans (bA (by omega))⟩
    obtain⟨u0,c0⟩:=c0;obtain⟨u1,c1⟩:=c1;obtain⟨u2,c2⟩:=c2;obtain⟨u3,c3⟩:=c3;have fz:∀q,U.frozen? ⟨g,q,none⟩=false:=λq=>b.frozenAt q
    go_wp2;go_roundw
    case rel=>
     obtain⟨o4,g4⟩:=t_ b (i*4) (.int .i64 t) (.int .i64 B) (.int .i64 D) (.bool E);rw[Si r i (by rw[A.out.len];exact hil) ⟨t,B,D,E⟩]at o4
     have N:=A.out.keep hj Hl.out hc;have c:∀(W:World) q (u:Value),(W.setCell ⟨g,q,none⟩ u).cell? gb=W.cell? gb:=λW q u=>World.cell?_setCell_other W ⟨g,q,none⟩ ⟨gb,0,none⟩ u (by intro h;injection h with h;omega)
     exact⟨i+1,j+1,_,by go_num,by go_num,by omega,by have:=N.lt;omega,N,o4,bG Y g4,by rw[c,c,c,c];exact O,bE hz3 g4.size⟩
    case measure=>simp[intOf];omega
   go_wp2;go_roundw
   case rel=>exact⟨i,j+1,r,rfl,by go_num,by omega,hil,A.out.skip hj Hl.out hc,b,Y,O,hz3⟩
   case measure=>simp[intOf];omega
  have ej:j=l.length:=by omega
  subst ej;have hic:i<=cap:=by omega
  obtain⟨w9,hrun,Q,sZ⟩:=kJ (P:=prog) (size:=4) 136 0 (.agg #[(0:Int),(0:Int),(0:Int),false]) underlying136 U6 rfl (by simp[Value.cells,Value.oneCell']) a i (cap-i) (some ⟨g,i*4,none⟩) (by omega) (λ_=>rfl)
  go_wp2;go_ret;refine⟨_,rfl,?_,bG M sZ⟩
  rw[O_]at Q;have N:=A.out.done;have hli:(l.filter λx=> !(x.o==ow)).length=i:=by
   rw[<-N,bR,A.out.len];omega
  unfold aW;rw[hli,<-N];exact Q
theorem Ib(gb:Nat)(ow:Int)(w:World)(hx:w.cell? gb=some (.int .i64 ow))(hgb:gb<w):Calls prog 165 #[(),.func (.func 167) #[] #[.pointer gb]] w λe w'=>e= .returned (.slice none 0 0)/\Below w w w':=by
 go_enter func165,ntmps165;go_wp2_with fail;refine(zM none 0 gb [] ow w Rd.nil (by simp) hx hgb).mono ?_
 rintro e g ⟨i,rfl,a,c⟩
 rcases a with⟨rfl,_⟩|⟨k,rfl,b,_⟩
 ·go_wp2
  go_ret;exact⟨rfl,c⟩
 simp at b
theorem Kz(A:Option Addr)(c:Nat)(l:List Lk)(ow:Int)(w:World)(hl:dJ w w A l)(hn:l.length<=2000000):Calls prog 134 #[.slice A l.length c,ow] w λe w'=>∃v,e= .returned v/\aW w' w v (Lk.leave l ow)/\Below w w w':=by
 go_enter func134,ntmps134;go_wp2_with fail;have a:Below w w (w.alloc (.cells #[ow] 3)):=(aa _ _).alloc aR _;have h:ai (w.alloc (.cells #[ow] 3)) w 3 [ow]:=ai.new _ _ _;generalize w.alloc (.cells #[ow] 3)=q at*;refine(clone_any A c l q ((hl.below a).more a.size) hn).mono ?_
 rintro e t ⟨v,rfl,r,j⟩;have b:=a.trans (j.mono a.size);have i:=h.below j h.lt;have B:=h.lt
 rcases aB r with⟨n,z⟩|⟨g,o,n,x,_,_⟩
 ·subst n
  have e:l=[]:=zb z;subst e;go_wp2_with fail;refine(Ib w ow t (i.cell 0) i.lt).mono ?_
  rintro e y ⟨rfl,j⟩;go_wp2;go_ret;exact⟨_,rfl,jN _ _ _ _,b.trans (j.mono b.size)⟩
 subst n;go_wp2_with fail;refine(Ia q g o w l ow t r hn (i.cell 0) i.lt (by omega)).mono ?_
 rintro e y ⟨v,rfl,p,m⟩;go_wp2;go_ret;exact⟨_,rfl,own_base p (by omega),below_grown b m b.size (λk u=>by cases u;omega)⟩
theorem ai.XU{w:World}{g:Nat}{t:TypeId}{xo xf xt:Int}{xa:Bool}(h:ai w g t [xo,xf,xt,xa]):GZ w g 0 ⟨xo,xf,xt,xa⟩:=
 ⟨h.cell 0,h.cell 1,h.cell 2,h.cell 3⟩
theorem KA(g:Nat)(y x:Lk)(w:World)(hx:ai w g 166 [x.o,x.f,x.t,x.a]):Calls prog 193 #[.agg #[y.o,y.f,y.t,y.a],.pointer g] w λe w'=>e= .returned (.bool (Lk.clash y x))/\Below w w w':=by
 obtain⟨i,j,l,b⟩:=x;obtain⟨m,c,k,h⟩:=y;have z:=hx.four;dsimp only at*;go_enter func193,ntmps193;go_wp2_with fail;refine(Dj _ _ _ _ ⟨m,c,k,h⟩ ⟨i,j,l,b⟩ _ ⟨by go_simp,by go_simp,by go_simp,by go_simp⟩ ⟨by go_simp,by go_simp,by go_simp,by go_simp⟩).mono ?_
 rintro e w' ⟨rfl,n,rfl⟩;go_wp2;go_ret;exact⟨rfl,below_drewN ((aa _ _).alloc aR _) _⟩
theorem KC(A:Option Addr)(n c g:Nat)(l:List Lk)(x:Lk)(w:World)(hl:dJ w w A l)(hn:n<=l.length)(hbig:n<=9223372036854775807)(hx:ai w g 166 [x.o,x.f,x.t,x.a]):Calls prog 190 #[.slice A n c,.func (.func 193) #[] #[.pointer g]] w λe w'=>∃i:Int,e= .returned (.int .i64 i)/\(0<=i↔(l.take n).any (λy=>Lk.clash y x)=true)/\Below w w w':=by
 have q:=hx.lt;go_enter func190,ntmps190
 go_wp2
 go_loopw [8] (λi wr=>∃k:Nat,k<=n/\i= .int .i64 k/\Hid ((l.take k).any (λy=>Lk.clash y x)=false)/\Below w w wr) (λi _=>n- (intOf i).toNat)
 case atStart=>exact⟨0,bL _,rfl,rfl,aa _ _⟩
 case round=>
  obtain⟨k,I,rfl,j,p⟩:=hrel
  by_cases r:k<n
  ·obtain⟨b,o,rfl,H,G,K,F,L⟩:=(dJ.at_ (hl.below p) (by omega:k<l.length))
   have u:=hx.below p q;have h:Hid ((l.take (k+1)).any (λy=>Lk.clash y x)=Lk.clash l[k] x):=by
    show _=_
    rw[aF (by omega),AJ,j.out]
    simp
   generalize hy:l[k]=y at*;have M:=aL hy;go_wp2_with fail;refine(KA g y x _ u).mono ?_
   rintro e E ⟨rfl,v⟩;have m:=p.trans (v.mono p.size)
   rcases z:Lk.clash y x with _|_
   ·go_wp2
    go_roundw
    case rel=>exact⟨k+1,r,by go_num,by rw[z]at h;exact h,m⟩
    case measure=>simp[intOf];omega
   go_wp2;go_ret;refine⟨_,rfl,?_,m⟩
   have D:(l.take (k+1)).any (λy=>Lk.clash y x)=true:=h.out.trans z
   have B:(l.take n).any (λy=>Lk.clash y x)=true:=by
    have:l.take n=l.take (k+1)++(l.take n).drop (k+1):=by
     rw[show l.take (k+1)=(l.take n).take (k+1)from by rw[Br];congr 1;omega,rR]
    rw[this,AJ,D,vo]
   rw[B];simp
  go_wp2;go_ret;refine⟨_,rfl,?_,p⟩
  have:k=n:=by omega
  subst this;rw[j.out];simp
theorem kN(A:Option Addr)(n c g:Nat)(l:List Lk)(x:Lk)(w:World)(hl:dJ w w A l)(hn:n<=l.length)(hbig:n<=9223372036854775807)(hx:ai w g 166 [x.o,x.f,x.t,x.a]):Calls prog 192 #[.slice A n c,.func (.func 193) #[] #[.pointer g]] w λe w'=>e= .returned (.bool ((l.take n).any (λy=>Lk.clash y x)))/\Below w w w':=by
 have b:=KC A n c g l x w hl hn hbig hx;generalize (l.take n).any (λy=>Lk.clash y x)=r at*
 go_enter func192,ntmps192;go_wp2_with fail;refine b.mono ?_
 rintro e m ⟨i,rfl,h,j⟩;have k:=aL h;go_wp2;go_ret;refine⟨?_,j⟩
 have e:decide (0<=i)=r:=by
  rw[vR,mI];exact k.out
 rw[<-e]
 rfl
theorem vV(A:Option Addr)(c:Nat)(l:List Lk)(w:World)(hl:dJ w w A l)(hc:l.length<=c)(hbig:l.length<=9223372036854775807):Calls prog 171 #[.slice A l.length c] w λe w'=>e= .returned (.agg #[.int .i64 (Lk.wrong l).1,.int .i64 (Lk.wrong l).2])/\Below w w w':=by
 by_cases U7:40<l.length
 ·have Hn:Hid (Lk.wrong l=(5,0)):=aM U7
  go_enter func171,ntmps171;go_wp2_with fail;refine aD (v:= .agg #[(5:Int),(0:Int)]) ?_ rfl ⟨by rw[Hn.out],?_⟩
  ·simp[results,results171,go_sem]
  exact(aa _ _).alloc aR _
 have Hn:Hid (Lk.wrong l=Lk.ak [] l):=av U7;go_enter func171,ntmps171;go_wp2
 go_loopw [11] (λi wr=>∃k:Nat,k<=l.length/\i= .int .i64 k/\Hid (Lk.ak [] l=Lk.ak (l.take k) (l.drop k))/\Below w w wr/\ai wr w 51 [(0:Int),(0:Int)]) (λi _=>l.length- (intOf i).toNat)
 case atStart=>exact⟨0,bL _,rfl,rfl,(aa _ _).alloc aR _,ai.new _ _ _⟩
 case round=>
  obtain⟨k,hk,rfl,Hw,n,W⟩:=hrel;obtain⟨O,N,V,S⟩:=W.two
  by_cases Z:k<l.length
  ·obtain⟨b,o,rfl,hb,h0,h1,h2,h3⟩:=(dJ.at_ (hl.below n) Z)
   have hbz:b<wr:=bE hb n.size;have hkc:k<=c:=by omega
   generalize hy:l[k]=y at*;obtain⟨g,a,h,j⟩:=y;have Hy:=aL hy;clear hy;dsimp only at h0 h1 h2 h3
   rcases d0:decide (g<0)with _|_
   ·rcases d1:decide (4<=g)with _|_
    focus
     rcases d2:decide (a<0)with _|_
     ·rcases d3:decide (h<=a)with _|_
      focus
       rcases d4:decide (1000<h)with _|_
       ·have U:Lk.range ⟨g,a,h,j⟩=false:=by simp only[Lk.range,d0,d1,d2,d3,d4];rfl
        rcases k with _|m
        ·simp only[FR,tQ]at h0 h1 h2 h3
         go_wp2_with fail;clear h0 h1 h2 h3;have Q:=n.alloc n.size (.cells #[g,a,h,j] 166);have K:=W.alloc (.cells #[g,a,h,j] 166);have I:ai (wr.alloc (.cells #[g,a,h,j] 166)) wr 166 [g,a,h,j]:=ai.new _ _ _;have gxB:w.heap.size<=wr.heap.size:=n.size;clear n W O N V S;generalize wr.alloc (.cells #[g,a,h,j] 166)=w1 at*;generalize wr.heap.size=gx at*;obtain⟨O,N,V,S⟩:=K.two;obtain⟨D,E,B,H,F,G⟩:=I.four;refine eO (by kernel_rfl) (by kernel_rfl) ?_
         repeat(first|go_big_quiet_step (fail)|quiet_step (fail))
         refine ic ?_
         intro w2 hw';obtain⟨nq,u⟩:=hw';have r:=below_drewN Q nq;have t:=K.drewN nq;have p:=I.drewN nq;rw[<-u]at r t p;clear Q K I O N D E B H V S F G u;obtain⟨O,N,V,S⟩:=t.two;obtain⟨D,E,B,H,F,G⟩:=p.four;go_wp2_with fail;refine(kN _ 0 c gx l ⟨g,a,h,j⟩ _ (hl.below r|>.more r.size) (by omega) (by omega) p).mono ?_
         rintro e w3 ⟨rfl,hb⟩;have hB3:=r.trans (hb.mono r.size);have hr3:=t.below hb t.lt;have hx3:=p.below hb p.lt;clear r t p O N D E B H V S F G hb;obtain⟨O,N,V,S⟩:=hr3.two;obtain⟨D,E,B,H,F,G⟩:=hx3.four;have M:=Lk.zG l (x:=⟨g,a,h,j⟩)
         rcases hcl:(l.take 0).any (λy=>Lk.clash y ⟨g,a,h,j⟩)with _|_
         ·go_wp2_with fail
          have L:Lk.bI (l.take 0) ⟨g,a,h,j⟩=0:=Lk.kY U M hcl;have hnx:=Lk.bZ Z Hy.out L;go_roundw
          case rel=>exact⟨0+1,by omega,by go_num,Hw.out.trans hnx,hB3,hr3⟩
          case measure=>simp[intOf];omega
         go_wp2_with fail;have L:Lk.bI (l.take 0) ⟨g,a,h,j⟩=8:=Lk.g_ U M hcl;have z:Lk.ak [] l=(8,((0:Nat):Int)):=by rw[Hw.out];exact Lk.aX Z Hy.out L (by decide)
         refine aD (v:= .agg #[(8:Int),.int .i64 ((0:Nat):Int)]) ?_ rfl ⟨by rw[Hn.out,z],?_⟩
         ·simp[results,results171,go_sem,O,N]
         exact((hB3.setCell (by exact aR) _).setCell (by exact aR) _)
        have hqk:m<l.length:=by omega
        obtain⟨b',o',hA',_,Y⟩:=(dJ.at_ (hl.below n) hqk)
        cases hA'
        generalize hq:l[m]=q at*;obtain⟨yo,yf,yt,ya⟩:=q;have Hq:=aL hq;clear hq
        rcases e6:decide (g<yo)with _|_
        ·rcases e7:(yo==g)with _|_
         ·go_wp2_with fail
          clear h0 h1 h2 h3;have y0:=(dx wr (.cells #[g,a,h,j] 166) _ (show b<wr from by omega)).trans Y.1
          have y1:=(dx wr (.cells #[g,a,h,j] 166) _ (show b<wr from by omega)).trans Y.2.1
          have y2:=(dx wr (.cells #[g,a,h,j] 166) _ (show b<wr from by omega)).trans Y.2.2.1
          have y3:=(dx wr (.cells #[g,a,h,j] 166) _ (show b<wr from by omega)).trans Y.2.2.2
          clear Y;dsimp only at y0 y1 y2 y3;have Q:=n.alloc n.size (.cells #[g,a,h,j] 166);have K:=W.alloc (.cells #[g,a,h,j] 166);have I:ai (wr.alloc (.cells #[g,a,h,j] 166)) wr 166 [g,a,h,j]:=ai.new _ _ _;have gxB:w.heap.size<=wr.heap.size:=n.size;clear n W O N V S;generalize wr.alloc (.cells #[g,a,h,j] 166)=w1 at*;generalize wr.heap.size=gx at*;obtain⟨O,N,V,S⟩:=K.two;obtain⟨D,E,B,H,F,G⟩:=I.four;refine eO (by kernel_rfl) (by kernel_rfl) ?_
          repeat(first|go_big_quiet_step (fail)|quiet_step (fail))
          refine ic ?_
          intro w2 hw';obtain⟨nq,u⟩:=hw';have r:=below_drewN Q nq;have t:=K.drewN nq;have p:=I.drewN nq;rw[<-u]at r t p;clear Q K I O N D E B H V S F G u y0 y1 y2 y3;obtain⟨O,N,V,S⟩:=t.two;obtain⟨D,E,B,H,F,G⟩:=p.four;go_wp2_with fail;refine(kN _ (m+1) c gx l ⟨g,a,h,j⟩ _ (hl.below r|>.more r.size) (by omega) (by omega) p).mono ?_
          rintro e w3 ⟨rfl,hb⟩;have hB3:=r.trans (hb.mono r.size);have hr3:=t.below hb t.lt;have hx3:=p.below hb p.lt;clear r t p O N D E B H V S F G hb;obtain⟨O,N,V,S⟩:=hr3.two;obtain⟨D,E,B,H,F,G⟩:=hx3.four;have M:=(Lk.iQ (by omega) Hq.out (by simp only[Lk.order,e6,e7];rfl):(((l.take (m+1)).getLast?.any λy=>Lk.order y ⟨g,a,h,j⟩)=false))
          rcases hcl:(l.take (m+1)).any (λy=>Lk.clash y ⟨g,a,h,j⟩)with _|_
          ·go_wp2_with fail
           have L:Lk.bI (l.take (m+1)) ⟨g,a,h,j⟩=0:=Lk.kY U M hcl;have hnx:=Lk.bZ Z Hy.out L;go_roundw
           case rel=>exact⟨(m+1)+1,by omega,by go_num,Hw.out.trans hnx,hB3,hr3⟩
           case measure=>simp[intOf];omega
          go_wp2_with fail;have L:Lk.bI (l.take (m+1)) ⟨g,a,h,j⟩=8:=Lk.g_ U M hcl;have z:Lk.ak [] l=(8,(((m+1):Nat):Int)):=by rw[Hw.out];exact Lk.aX Z Hy.out L (by decide)
          refine aD (v:= .agg #[(8:Int),.int .i64 (((m+1):Nat):Int)]) ?_ rfl ⟨by rw[Hn.out,z],?_⟩
          ·simp[results,results171,go_sem,O,N]
          exact((hB3.setCell (by exact aR) _).setCell (by exact aR) _)
         rcases e8:decide (a<yt)with _|_
         focus
          rcases e9:(yt==a)with _|_
          ·go_wp2_with fail
           clear h0 h1 h2 h3;have y0:=(dx wr (.cells #[g,a,h,j] 166) _ (show b<wr from by omega)).trans Y.1
           have y1:=(dx wr (.cells #[g,a,h,j] 166) _ (show b<wr from by omega)).trans Y.2.1
           have y2:=(dx wr (.cells #[g,a,h,j] 166) _ (show b<wr from by omega)).trans Y.2.2.1
           have y3:=(dx wr (.cells #[g,a,h,j] 166) _ (show b<wr from by omega)).trans Y.2.2.2
           clear Y;dsimp only at y0 y1 y2 y3;have Q:=n.alloc n.size (.cells #[g,a,h,j] 166);have K:=W.alloc (.cells #[g,a,h,j] 166);have I:ai (wr.alloc (.cells #[g,a,h,j] 166)) wr 166 [g,a,h,j]:=ai.new _ _ _;have gxB:w.heap.size<=wr.heap.size:=n.size;clear n W O N V S;generalize wr.alloc (.cells #[g,a,h,j] 166)=w1 at*;generalize wr.heap.size=gx at*;obtain⟨O,N,V,S⟩:=K.two;obtain⟨D,E,B,H,F,G⟩:=I.four;refine eO (by kernel_rfl) (by kernel_rfl) ?_
           repeat(first|go_big_quiet_step (fail)|quiet_step (fail))
           refine ic ?_
           intro w2 hw';obtain⟨nq,u⟩:=hw';have r:=below_drewN Q nq;have t:=K.drewN nq;have p:=I.drewN nq;rw[<-u]at r t p;clear Q K I O N D E B H V S F G u y0 y1 y2 y3;obtain⟨O,N,V,S⟩:=t.two;obtain⟨D,E,B,H,F,G⟩:=p.four;go_wp2_with fail;refine(kN _ (m+1) c gx l ⟨g,a,h,j⟩ _ (hl.below r|>.more r.size) (by omega) (by omega) p).mono ?_
           rintro e w3 ⟨rfl,hb⟩;have hB3:=r.trans (hb.mono r.size);have hr3:=t.below hb t.lt;have hx3:=p.below hb p.lt;clear r t p O N D E B H V S F G hb;obtain⟨O,N,V,S⟩:=hr3.two;obtain⟨D,E,B,H,F,G⟩:=hx3.four;have M:=(Lk.iQ (by omega) Hq.out (by simp only[Lk.order,e6,e7,e8,e9];rfl):(((l.take (m+1)).getLast?.any λy=>Lk.order y ⟨g,a,h,j⟩)=false))
           rcases hcl:(l.take (m+1)).any (λy=>Lk.clash y ⟨g,a,h,j⟩)with _|_
           ·go_wp2_with fail
            have L:Lk.bI (l.take (m+1)) ⟨g,a,h,j⟩=0:=Lk.kY U M hcl;have hnx:=Lk.bZ Z Hy.out L;go_roundw
            case rel=>exact⟨(m+1)+1,by omega,by go_num,Hw.out.trans hnx,hB3,hr3⟩
            case measure=>simp[intOf];omega
           go_wp2_with fail;have L:Lk.bI (l.take (m+1)) ⟨g,a,h,j⟩=8:=Lk.g_ U M hcl;have z:Lk.ak [] l=(8,(((m+1):Nat):Int)):=by rw[Hw.out];exact Lk.aX Z Hy.out L (by decide)
           refine aD (v:= .agg #[(8:Int),.int .i64 (((m+1):Nat):Int)]) ?_ rfl ⟨by rw[Hn.out,z],?_⟩
           ·simp[results,results171,go_sem,O,N]
           exact((hB3.setCell (by exact aR) _).setCell (by exact aR) _)
          rcases e10:(ya==j)with _|_
          ·go_wp2_with fail
           clear h0 h1 h2 h3;have y0:=(dx wr (.cells #[g,a,h,j] 166) _ (show b<wr from by omega)).trans Y.1
           have y1:=(dx wr (.cells #[g,a,h,j] 166) _ (show b<wr from by omega)).trans Y.2.1
           have y2:=(dx wr (.cells #[g,a,h,j] 166) _ (show b<wr from by omega)).trans Y.2.2.1
           have y3:=(dx wr (.cells #[g,a,h,j] 166) _ (show b<wr from by omega)).trans Y.2.2.2
           clear Y;dsimp only at y0 y1 y2 y3;have Q:=n.alloc n.size (.cells #[g,a,h,j] 166);have K:=W.alloc (.cells #[g,a,h,j] 166);have I:ai (wr.alloc (.cells #[g,a,h,j] 166)) wr 166 [g,a,h,j]:=ai.new _ _ _;have gxB:w.heap.size<=wr.heap.size:=n.size;clear n W O N V S;generalize wr.alloc (.cells #[g,a,h,j] 166)=w1 at*;generalize wr.heap.size=gx at*;obtain⟨O,N,V,S⟩:=K.two;obtain⟨D,E,B,H,F,G⟩:=I.four;refine eO (by kernel_rfl) (by kernel_rfl) ?_
           repeat(first|go_big_quiet_step (fail)|quiet_step (fail))
           refine ic ?_
           intro w2 hw';obtain⟨nq,u⟩:=hw';have r:=below_drewN Q nq;have t:=K.drewN nq;have p:=I.drewN nq;rw[<-u]at r t p;clear Q K I O N D E B H V S F G u y0 y1 y2 y3;obtain⟨O,N,V,S⟩:=t.two;obtain⟨D,E,B,H,F,G⟩:=p.four;go_wp2_with fail;refine(kN _ (m+1) c gx l ⟨g,a,h,j⟩ _ (hl.below r|>.more r.size) (by omega) (by omega) p).mono ?_
           rintro e w3 ⟨rfl,hb⟩;have hB3:=r.trans (hb.mono r.size);have hr3:=t.below hb t.lt;have hx3:=p.below hb p.lt;clear r t p O N D E B H V S F G hb;obtain⟨O,N,V,S⟩:=hr3.two;obtain⟨D,E,B,H,F,G⟩:=hx3.four;have M:=(Lk.iQ (by omega) Hq.out (by simp only[Lk.order,e6,e7,e8,e9,e10];rfl):(((l.take (m+1)).getLast?.any λy=>Lk.order y ⟨g,a,h,j⟩)=false))
           rcases hcl:(l.take (m+1)).any (λy=>Lk.clash y ⟨g,a,h,j⟩)with _|_
           ·go_wp2_with fail
            have L:Lk.bI (l.take (m+1)) ⟨g,a,h,j⟩=0:=Lk.kY U M hcl;have hnx:=Lk.bZ Z Hy.out L;go_roundw
            case rel=>exact⟨(m+1)+1,by omega,by go_num,Hw.out.trans hnx,hB3,hr3⟩
            case measure=>simp[intOf];omega
           go_wp2_with fail;have L:Lk.bI (l.take (m+1)) ⟨g,a,h,j⟩=8:=Lk.g_ U M hcl;have z:Lk.ak [] l=(8,(((m+1):Nat):Int)):=by rw[Hw.out];exact Lk.aX Z Hy.out L (by decide)
           refine aD (v:= .agg #[(8:Int),.int .i64 (((m+1):Nat):Int)]) ?_ rfl ⟨by rw[Hn.out,z],?_⟩
           ·simp[results,results171,go_sem,O,N]
           exact((hB3.setCell (by exact aR) _).setCell (by exact aR) _)
          go_wp2_with fail;clear h0 h1 h2 h3;have y0:=(dx wr (.cells #[g,a,h,j] 166) _ (show b<wr from by omega)).trans Y.1
          have y1:=(dx wr (.cells #[g,a,h,j] 166) _ (show b<wr from by omega)).trans Y.2.1
          have y2:=(dx wr (.cells #[g,a,h,j] 166) _ (show b<wr from by omega)).trans Y.2.2.1
          have y3:=(dx wr (.cells #[g,a,h,j] 166) _ (show b<wr from by omega)).trans Y.2.2.2
          clear Y;dsimp only at y0 y1 y2 y3;have Q:=n.alloc n.size (.cells #[g,a,h,j] 166);have K:=W.alloc (.cells #[g,a,h,j] 166);have I:ai (wr.alloc (.cells #[g,a,h,j] 166)) wr 166 [g,a,h,j]:=ai.new _ _ _;have gxB:w.heap.size<=wr.heap.size:=n.size;clear n W O N V S;generalize wr.alloc (.cells #[g,a,h,j] 166)=w1 at*;generalize wr.heap.size=gx at*;obtain⟨O,N,V,S⟩:=K.two;obtain⟨D,E,B,H,F,G⟩:=I.four;refine eO (by kernel_rfl) (by kernel_rfl) ?_
          repeat(first|go_big_quiet_step (fail)|quiet_step (fail))
          refine ic ?_
          intro w2 hw';obtain⟨nq,u⟩:=hw';have r:=below_drewN Q nq;have t:=K.drewN nq;have p:=I.drewN nq;rw[<-u]at r t p;clear Q K I O N D E B H V S F G u y0 y1 y2 y3;obtain⟨O,N,V,S⟩:=t.two;obtain⟨D,E,B,H,F,G⟩:=p.four;have M:=(Lk.iQ (by omega) Hq.out (by simp only[Lk.order,e6,e7,e8,e9,e10];rfl):(((l.take (m+1)).getLast?.any λy=>Lk.order y ⟨g,a,h,j⟩)=true))
         rotate_left
         focus
          go_wp2_with fail;clear h0 h1 h2 h3;have y0:=(dx wr (.cells #[g,a,h,j] 166) _ (show b<wr from by omega)).trans Y.1
          have y1:=(dx wr (.cells #[g,a,h,j] 166) _ (show b<wr from by omega)).trans Y.2.1
          have y2:=(dx wr (.cells #[g,a,h,j] 166) _ (show b<wr from by omega)).trans Y.2.2.1
          have y3:=(dx wr (.cells #[g,a,h,j] 166) _ (show b<wr from by omega)).trans Y.2.2.2
          clear Y;dsimp only at y0 y1 y2 y3;have Q:=n.alloc n.size (.cells #[g,a,h,j] 166);have K:=W.alloc (.cells #[g,a,h,j] 166);have I:ai (wr.alloc (.cells #[g,a,h,j] 166)) wr 166 [g,a,h,j]:=ai.new _ _ _;have gxB:w.heap.size<=wr.heap.size:=n.size;clear n W O N V S;generalize wr.alloc (.cells #[g,a,h,j] 166)=w1 at*;generalize wr.heap.size=gx at*;obtain⟨O,N,V,S⟩:=K.two;obtain⟨D,E,B,H,F,G⟩:=I.four;refine eO (by kernel_rfl) (by kernel_rfl) ?_
          repeat(first|go_big_quiet_step (fail)|quiet_step (fail))
          refine ic ?_
          intro w2 hw';obtain⟨nq,u⟩:=hw';have r:=below_drewN Q nq;have t:=K.drewN nq;have p:=I.drewN nq;rw[<-u]at r t p;clear Q K I O N D E B H V S F G u y0 y1 y2 y3;obtain⟨O,N,V,S⟩:=t.two;obtain⟨D,E,B,H,F,G⟩:=p.four;have M:=(Lk.iQ (by omega) Hq.out (by simp only[Lk.order,e6,e7,e8];rfl):(((l.take (m+1)).getLast?.any λy=>Lk.order y ⟨g,a,h,j⟩)=true))
         all_goals
          go_wp2_with fail;have L:Lk.bI (l.take (m+1)) ⟨g,a,h,j⟩=2:=Lk.gV U M;have z:Lk.ak [] l=(2,(((m+1):Nat):Int)):=by rw[Hw.out];exact Lk.aX Z Hy.out L (by decide)
          refine aD (v:= .agg #[(2:Int),.int .i64 (((m+1):Nat):Int)]) ?_ rfl ⟨by rw[Hn.out,z],?_⟩
          ·simp[results,results171,go_sem,O,N]
          exact((r.setCell (by exact aR) _).setCell (by exact aR) _)
        go_wp2_with fail;clear h0 h1 h2 h3;have y0:=(dx wr (.cells #[g,a,h,j] 166) _ (show b<wr from by omega)).trans Y.1
        have y1:=(dx wr (.cells #[g,a,h,j] 166) _ (show b<wr from by omega)).trans Y.2.1
        have y2:=(dx wr (.cells #[g,a,h,j] 166) _ (show b<wr from by omega)).trans Y.2.2.1
        have y3:=(dx wr (.cells #[g,a,h,j] 166) _ (show b<wr from by omega)).trans Y.2.2.2
        clear Y;dsimp only at y0 y1 y2 y3;have Q:=n.alloc n.size (.cells #[g,a,h,j] 166);have K:=W.alloc (.cells #[g,a,h,j] 166);have I:ai (wr.alloc (.cells #[g,a,h,j] 166)) wr 166 [g,a,h,j]:=ai.new _ _ _;have gxB:w.heap.size<=wr.heap.size:=n.size;clear n W O N V S;generalize wr.alloc (.cells #[g,a,h,j] 166)=w1 at*;generalize wr.heap.size=gx at*;obtain⟨O,N,V,S⟩:=K.two;obtain⟨D,E,B,H,F,G⟩:=I.four;refine eO (by kernel_rfl) (by kernel_rfl) ?_
        repeat(first|go_big_quiet_step (fail)|quiet_step (fail))
        refine ic ?_
        intro w2 hw';obtain⟨nq,u⟩:=hw';have r:=below_drewN Q nq;have t:=K.drewN nq;have p:=I.drewN nq;rw[<-u]at r t p;clear Q K I O N D E B H V S F G u y0 y1 y2 y3;obtain⟨O,N,V,S⟩:=t.two;obtain⟨D,E,B,H,F,G⟩:=p.four;have M:=(Lk.iQ (by omega) Hq.out (by simp only[Lk.order,e6];rfl):(((l.take (m+1)).getLast?.any λy=>Lk.order y ⟨g,a,h,j⟩)=true))
        go_wp2_with fail;have L:Lk.bI (l.take (m+1)) ⟨g,a,h,j⟩=2:=Lk.gV U M;have z:Lk.ak [] l=(2,(((m+1):Nat):Int)):=by rw[Hw.out];exact Lk.aX Z Hy.out L (by decide)
        refine aD (v:= .agg #[(2:Int),.int .i64 (((m+1):Nat):Int)]) ?_ rfl ⟨by rw[Hn.out,z],?_⟩
        ·simp[results,results171,go_sem,O,N]
        exact((r.setCell (by exact aR) _).setCell (by exact aR) _)
       have U:Lk.range ⟨g,a,h,j⟩=true:=by simp only[Lk.range,d0,d1,d2,d3,d4];rfl
      rotate_left
      focus
       have U:Lk.range ⟨g,a,h,j⟩=true:=by simp only[Lk.range,d0,d1,d2,d3];rfl
      all_goals
       go_wp2_with fail;have L:Lk.bI (l.take k) ⟨g,a,h,j⟩=3:=Lk.nC U;have z:Lk.ak [] l=(3,((k:Nat):Int)):=by rw[Hw.out];exact Lk.aX Z Hy.out L (by decide)
       refine aD (v:= .agg #[(3:Int),.int .i64 ((k:Nat):Int)]) ?_ rfl ⟨by rw[Hn.out,z],?_⟩
       ·simp[results,results171,go_sem,O,N,S]
       exact((n.setCell (by exact aR) _).setCell (by exact aR) _).alloc (by simpa[World.setCell]using n.size) _
     have U:Lk.range ⟨g,a,h,j⟩=true:=by simp only[Lk.range,d0,d1,d2];rfl
    rotate_left
    focus
     have U:Lk.range ⟨g,a,h,j⟩=true:=by simp only[Lk.range,d0,d1];rfl
    all_goals
     go_wp2_with fail;have L:Lk.bI (l.take k) ⟨g,a,h,j⟩=3:=Lk.nC U;have z:Lk.ak [] l=(3,((k:Nat):Int)):=by rw[Hw.out];exact Lk.aX Z Hy.out L (by decide)
     refine aD (v:= .agg #[(3:Int),.int .i64 ((k:Nat):Int)]) ?_ rfl ⟨by rw[Hn.out,z],?_⟩
     ·simp[results,results171,go_sem,O,N,S]
     exact((n.setCell (by exact aR) _).setCell (by exact aR) _).alloc (by simpa[World.setCell]using n.size) _
   have U:Lk.range ⟨g,a,h,j⟩=true:=by simp only[Lk.range,d0];rfl
   go_wp2_with fail;have L:Lk.bI (l.take k) ⟨g,a,h,j⟩=3:=Lk.nC U;have z:Lk.ak [] l=(3,((k:Nat):Int)):=by rw[Hw.out];exact Lk.aX Z Hy.out L (by decide)
   refine aD (v:= .agg #[(3:Int),.int .i64 ((k:Nat):Int)]) ?_ rfl ⟨by rw[Hn.out,z],?_⟩
   ·simp[results,results171,go_sem,O,N,S]
   exact((n.setCell (by exact aR) _).setCell (by exact aR) _).alloc (by simpa[World.setCell]using n.size) _
  go_wp2_with fail;have z:Lk.ak [] l=(0,0):=by
   rw[Hw.out,zw (by omega)];rfl
  refine aD (v:= .agg #[(0:Int),(0:Int)]) ?_ rfl ⟨by rw[Hn.out,z],?_⟩
  ·simp[results,results171,go_sem,O,N]
  exact(n.setCell (by exact aR) _).setCell (by exact aR) _
theorem Sl(w:World)(B:Nat)(x:Lk)(hB:w.heap.size<B):dJ (w.alloc (.cells #[x.o,x.f,x.t,x.a] 166)) B (some ⟨w.heap.size,0,none⟩) [x]:=
 ⟨rfl,λ_=>⟨w.heap.size,0,rfl,hB,λj u b=>by
  rw[mE];exact((ai.new w 166 [x.o,x.f,x.t,x.a]).cell j).trans b⟩⟩
theorem Ic(a b:Int)(W:World):(Instr.field 51 (.agg #[a,b]) 0).run prog W= .ok (.int .i64 a) W:=by kernel_rfl
theorem Ie(g:Nat)(x:Lk)(w:World)(hx:ai w g 166 [x.o,x.f,x.t,x.a]):Calls prog 172 #[.pointer g] w λe w'=>e= .returned (.int .i64 (Lk.wrong [x]).1)/\Below w w w':=by
 obtain⟨h,i,j,b⟩:=x;have z:=hx.four;dsimp only at*;have m:=Ic;have c:=λW=>vV (some ⟨w.heap.size,0,none⟩) 1 [⟨h,i,j,b⟩] W
 generalize Lk.wrong [⟨h,i,j,b⟩]=r at*;obtain⟨p,n⟩:=r;dsimp only at*;go_enter func172,ntmps172;go_wp2_with fail;have k:=Sl w (w.heap.size+1) ⟨h,i,j,b⟩ (by omega)
 refine(c _ (by simpa using k) aR (by simp)).mono ?_
 rintro e w' ⟨rfl,l⟩;go_wp2;go_ret;exact⟨rfl,(((aa _ _).alloc aR _).trans (l.mono (by simp)))⟩
def rG(l:List Lk)(x:Lk)(m:List Lk)(err:Int):Prop:=
 ((Lk.wrong l).1≠0/\m=[]/\err=(Lk.wrong l).1)\/
 ((Lk.wrong l).1=0/\(Lk.wrong [x]).1≠0/\m=[]/\err=(Lk.wrong [x]).1)\/
 ((Lk.wrong l).1=0/\(Lk.wrong [x]).1=0/\(Lk.meets l x).isSome=true/\m=[]/\err=13)\/
 ((
  Lk.wrong l).1=0/\(Lk.wrong [x]).1=0/\(Lk.meets l x).isSome=false/\∃l':List Lk,l'.Perm (Lk.cut l x++[x])/\(l'.Pairwise λx y=>Lk.less y x=false)/\
  ((40<(Lk.tidy l').length/\m=[]/\err=5)\/((Lk.tidy l').length<=40/\m=Lk.tidy l'/\err=0)))
def uG(l:List Lk)(x:Lk)(m:List Lk)(err:Int):Prop:=
 ((Lk.wrong l).1≠0/\m=[]/\err=(Lk.wrong l).1)\/
 ((Lk.wrong l).1=0/\(Lk.wrong [x]).1≠0/\m=[]/\err=(Lk.wrong [x]).1)\/
 ((Lk.wrong l).1=0/\(Lk.wrong [x]).1=0/\((40<(Lk.cut l x).length/\m=[]/\err=5)\/((Lk.cut l x).length<=40/\m=Lk.cut l x/\err=0)))
theorem ku(w:World)(base:Nat):aW w base (.slice none 0 0) []:=jN _ _ _ _
theorem Ig{l:List Lk}(h:(Lk.wrong l).1=0):l.length<=40:=by
 unfold Lk.wrong at h
 split at h
 ·cases h
 omega
theorem Sr(A:Option Addr)(c:Nat)(l:List Lk)(x:Lk)(w:World)(hl:dJ w w.heap.size A l)(hc:l.length<=c)(hbig:l.length<=9223372036854775807):Calls prog 139 #[.slice A l.length c,.agg #[x.o,x.f,x.t,x.a]] w λe w'=>∃v m err,e= .returned (.tuple #[v,.int .i64 err])/\uG l x m err/\aW w' w.heap.size v m/\Below w.heap.size w w':=by
 obtain⟨O,M,N,L⟩:=x;dsimp only;have Z:Below w.heap.size w w:=aa _ _;go_enter func139,ntmps139;go_wp2_with fail;have K:=Z.alloc Z.size (.cells #[O,M,N,L] 166);have U:ai (w.alloc (.cells #[O,M,N,L] 166)) w.heap.size 166 [O,M,N,L]:=ai.new _ _ _;clear Z;generalize w.alloc (.cells #[O,M,N,L] 166)=w1 at*;obtain⟨g,h,b,k,i,j⟩:=U.four;have V:=vV A c l w1 (hl.below K|>.more K.size) hc hbig
 generalize hwl:Lk.wrong l=wl at V;obtain⟨H,S⟩:=wl;have Hw:=aL (om Prod.fst hwl);clear hwl;dsimp only at V;refine V.mono ?_
 rintro e Q ⟨rfl,F⟩;clear V;have u:=K.trans (F.mono K.size);have I:=U.below F U.lt;clear K U g h b k i j F;obtain⟨g,h,b,k,i,j⟩:=I.four
 rcases t:(H !=0)with _|_
 ·have tw:H=0:=by simpa using t
  have Hz:Hid ((Lk.wrong l).1=0):=Hw.out.trans tw;have U8:=Ig Hz.out;clear tw;go_wp2_with fail;have G:=u.alloc u.size (.cells #[H,S] 51);have p:=I.alloc (.cells #[H,S] 51);have r:ai (Q.alloc (.cells #[H,S] 51)) Q.heap.size 51 [H,S]:=ai.new _ _ _;have gfB:w.heap.size<=Q.heap.size:=u.size;clear u I g h b k i j;generalize Q.alloc (.cells #[H,S] 51)=w3 at*;generalize Q.heap.size=gf at*;obtain⟨g,h,b,k,i,j⟩:=p.four;obtain⟨y,D,B,E⟩:=r.two;have V:=Ie w.heap.size ⟨O,M,N,L⟩ w3 p;generalize hwl:(Lk.wrong [⟨O,M,N,L⟩]).1=ws at V;have Hs:=aL hwl;clear hwl;refine V.mono ?_
  rintro e w4 ⟨rfl,F⟩;clear V;have n:=G.trans (F.mono G.size);have q:=p.below F p.lt;have z:=r.below F r.lt;clear G p r g h b k y D i j B E F;obtain⟨g,h,b,k,i,j⟩:=q.four;obtain⟨y,D,B,E⟩:=z.two
  rcases t2:(ws !=0)with _|_
  ·have tw:ws=0:=by simpa using t2
   have Hsz:Hid ((Lk.wrong [⟨O,M,N,L⟩]).1=0):=Hs.out.trans tw;clear tw;go_wp2_with fail;refine(zK A c w.heap.size 0 l ⟨O,M,N,L⟩ w4 (hl.below n|>.more n.size) (by omega) q.XU q.lt).mono ?_
   rintro e w5 ⟨v,rfl,ho,F⟩;have xg:=own_base ho n.size;have Y:=n.trans (F.mono n.size);have hx5:=q.below F q.lt;have hf5:=z.below F z.lt;clear n q z g h b k y D i j B E F;obtain⟨g,h,b,k,i,j⟩:=hx5.four;obtain⟨y,D,B,E⟩:=hf5.two
   rcases aB ho with⟨hv,hn0⟩|⟨g',cap',hv,_,_,_⟩
   ·subst hv
    have e0:Lk.cut l ⟨O,M,N,L⟩=[]:=zb hn0;go_wp2;go_ret2;exact⟨_,_,_,rfl,.inr (.inr ⟨Hz.out,Hsz.out,.inr ⟨by rw[e0];decide,rfl,rfl⟩⟩),xg,Y⟩
   subst hv
   rcases t4:decide ((40:Int)<((Lk.cut l ⟨O,M,N,L⟩).length:Int))with _|_
   ·go_wp2
    go_ret2;exact⟨_,_,_,rfl,.inr (.inr ⟨Hz.out,Hsz.out,.inr ⟨by have:=j6 t4;omega,rfl,rfl⟩⟩),xg,Y⟩
   go_wp2;go_ret2;exact⟨_,_,_,rfl,.inr (.inr ⟨Hz.out,Hsz.out,.inl ⟨by have:=iA t4;omega,rfl,rfl⟩⟩),ku _ _,Y⟩
  go_wp2;go_ret2;exact⟨.slice none 0 0,[],_,rfl,.inr (.inl ⟨Hz.out,by rw[Hs.out];simpa using t2,rfl,Hs.out.symm⟩),ku _ _,n⟩
 go_wp2_with fail;have G:=u.alloc u.size (.cells #[H,S] 51);have p:=I.alloc (.cells #[H,S] 51);have r:ai (Q.alloc (.cells #[H,S] 51)) Q.heap.size 51 [H,S]:=ai.new _ _ _;have gfB:w.heap.size<=Q.heap.size:=u.size;clear u I g h b k i j;generalize Q.alloc (.cells #[H,S] 51)=w3 at*;generalize Q.heap.size=gf at*;obtain⟨g,h,b,k,i,j⟩:=p.four;obtain⟨y,D,B,E⟩:=r.two;refine eO (by kernel_rfl) (by kernel_rfl) ?_
 repeat(first|go_big_quiet_step (fail)|quiet_step (fail))
 refine ic ?_
 intro w4 hw';obtain⟨nq,W⟩:=hw';have n:=below_drewN G nq;have q:=p.drewN nq;have z:=r.drewN nq;rw[<-W]at n q z;clear G p r g h b k y D i j B E W;obtain⟨g,h,b,k,i,j⟩:=q.four;obtain⟨y,D,B,E⟩:=z.two;go_wp2;go_ret2;exact⟨.slice none 0 0,[],_,rfl,.inl ⟨by rw[Hw.out];simpa using t,rfl,Hw.out.symm⟩,ku _ _,n⟩
theorem take_any(A:Option Addr)(c:Nat)(l:List Lk)(x:Lk)(w:World)(hl:dJ w w.heap.size A l)(hc:l.length<=c)(hbig:l.length<=9223372036854775807):Calls prog 138 #[.slice A l.length c,.agg #[x.o,x.f,x.t,x.a]] w λe w'=>∃v m err,e= .returned (.tuple #[v,.int .i64 err])/\rG l x m err/\aW w' w.heap.size v m/\Below w.heap.size w w':=by
 obtain⟨q,z,r,u⟩:=x;dsimp only;have hB0:Below w.heap.size w w:=aa _ _;go_enter func138,ntmps138;go_wp2_with fail;have hB1:=hB0.alloc hB0.size (.cells #[q,z,r,u] 166);have hx1:ai (w.alloc (.cells #[q,z,r,u] 166)) w.heap.size 166 [q,z,r,u]:=ai.new _ _ _;clear hB0;generalize w.alloc (.cells #[q,z,r,u] 166)=w1 at*;obtain⟨i,j,n,p,g,h⟩:=hx1.four;have Y:=vV A c l w1 (hl.below hB1|>.more hB1.size) hc hbig
 generalize hwl:Lk.wrong l=wl at Y;obtain⟨we,wa⟩:=wl;have Hw:=aL (om Prod.fst hwl);clear hwl;dsimp only at Y;refine Y.mono ?_
 rintro e w2 ⟨rfl,Z⟩;clear Y;have M:=hB1.trans (Z.mono hB1.size);have hx2:=hx1.below Z hx1.lt;clear hB1 hx1 i j n p g h Z;obtain⟨i,j,n,p,g,h⟩:=hx2.four
 rcases t:(we !=0)with _|_
 ·have tw:we=0:=by simpa using t
  have Hz:Hid ((Lk.wrong l).1=0):=Hw.out.trans tw;have U8:=Ig Hz.out;clear tw;go_wp2_with fail;have hB3:=M.alloc M.size (.cells #[we,wa] 51);have I:=hx2.alloc (.cells #[we,wa] 51);have L:ai (w2.alloc (.cells #[we,wa] 51)) w2.heap.size 51 [we,wa]:=ai.new _ _ _;have gfB:w.heap.size<=w2.heap.size:=M.size;clear M hx2 i j n p g h;generalize w2.alloc (.cells #[we,wa] 51)=w3 at*;generalize w2.heap.size=gf at*;obtain⟨i,j,n,p,g,h⟩:=I.four;obtain⟨E,D,B,G⟩:=L.two;have Y:=Ie w.heap.size ⟨q,z,r,u⟩ w3 I;generalize hwl:(Lk.wrong [⟨q,z,r,u⟩]).1=ws at Y;have Hs:=aL hwl;clear hwl;refine Y.mono ?_
  rintro e w4 ⟨rfl,Z⟩;clear Y;have K:=hB3.trans (Z.mono hB3.size);have S:=I.below Z I.lt;have W:=L.below Z L.lt;clear hB3 I L i j n p E D g h B G Z;obtain⟨i,j,n,p,g,h⟩:=S.four;obtain⟨E,D,B,G⟩:=W.two
  rcases t2:(ws !=0)with _|_
  ·have tw:ws=0:=by simpa using t2
   have Hsz:Hid ((Lk.wrong [⟨q,z,r,u⟩]).1=0):=Hs.out.trans tw;clear tw;go_wp2_with fail;have Y:=OU A c l ⟨q,z,r,u⟩ w4 (hl.below K|>.more K.size) hbig
   generalize hmt:Lk.meets l ⟨q,z,r,u⟩=Q at Y;have Hm:Hid ((Lk.meets l ⟨q,z,r,u⟩).isSome=Q.isSome):=by rw[hmt];rfl
   clear hmt;generalize Q.getD Lk.zero=mz at Y;generalize Q.isSome=mb at*;obtain⟨mo,mf,Q,ma⟩:=mz;simp only[Lk.agg,Lk.cells]at Y;refine Calls.mono (P:=prog) (f:=173) Y ?_
   rintro e w5 ⟨rfl,Z⟩;clear Y;have N:=K.trans (Z.mono K.size);have hx5:=S.below Z S.lt;have hf5:=W.below Z W.lt;clear K S W i j n p E D g h B G Z;obtain⟨i,j,n,p,g,h⟩:=hx5.four;obtain⟨E,D,B,G⟩:=hf5.two
   rcases mb with _|_
   ·go_wp2_with fail
    have b:=N.alloc N.size (.cells #[mo,mf,Q,ma] 166);have H:=hx5.alloc (.cells #[mo,mf,Q,ma] 166);have uB:=hf5.alloc (.cells #[mo,mf,Q,ma] 166);have hm6:ai (w5.alloc (.cells #[mo,mf,Q,ma] 166)) w5.heap.size 166 [mo,mf,Q,ma]:=ai.new _ _ _;have gmB:w.heap.size<=w5.heap.size:=N.size;clear N hx5 hf5 i j n p E D g h B G;generalize w5.alloc (.cells #[mo,mf,Q,ma] 166)=U at*;generalize w5.heap.size=gm at*;obtain⟨i,j,n,p,g,h⟩:=H.four;obtain⟨E,D,B,G⟩:=uB.two;have bm:=hm6.four;obtain⟨i0,hi,hz0,hz1,hz2⟩:=lw oZ;have hlA:dJ U.drew U.drew.heap.size A l:=(hl.below (below_drewN b 1)).more b.size;have hlB:dJ (U.alloc (.cells #[q,z,r,u] 166)).drew (U.alloc (.cells #[q,z,r,u] 166)).drew.heap.size A l:=(hl.below (below_drewN (b.alloc b.size _) 1)).more (b.alloc b.size _).size;have hxA:ai U.drew w.heap.size 166 [q,z,r,u]:=H.drew;have hxB:ai (U.alloc (.cells #[q,z,r,u] 166)).drew w.heap.size 166 [q,z,r,u]:=(H.alloc _).drew;have hTB:ai (U.alloc (.cells #[q,z,r,u] 166)).drew U.heap.size 166 [q,z,r,u]:=ai.new _ _ _;have hcl:=Lk.QM l ⟨q,z,r,u⟩;have ab2:=H.lt
    go_region_held3 (λw'=>w'.cell? ⟨w.heap.size,0,none⟩=some (.int .i64 q)/\w'.cell? ⟨w.heap.size,1,none⟩=some (.int .i64 z)/\w'.cell? ⟨w.heap.size,2,none⟩=some (.int .i64 r)/\w'.cell? ⟨w.heap.size,3,none⟩=some (.bool u))
     (first
      |go_keep
      |exact⟨Jm.cell 0,Jm.cell 1,Jm.cell 2,Jm.cell 3⟩
      |exact⟨Xl.cell 0,Xl.cell 1,Xl.cell 2,Xl.cell 3⟩
      |exact⟨F.cell 0,F.cell 1,F.cell 2,F.cell 3⟩
      |exact⟨(F.alloc _).cell 0,(F.alloc _).cell 1,(F.alloc _).cell 2,(F.alloc _).cell 3⟩
      |exact⟨(H.alloc _).cell 0,(H.alloc _).cell 1,(H.alloc _).cell 2,(H.alloc _).cell 3⟩)
     (first
      |(go_at_call 175;refine(zK A c w.heap.size 0 l ⟨q,z,r,u⟩ _ (by exact hlA) (by omega) (by exact hxA.XU) (by exact hxA.lt)).mono ?_;rintro e w7 ⟨v7,rfl,V,O⟩;have jV:Below w.heap.size w w7:=(below_drewN b 1).trans (O.mono b.size);have F:=hxA.below O hxA.lt;have fM:U.heap.size<=w7.heap.size:=O.size)
      |(go_at_call 175;refine(zK A c w.heap.size 0 l ⟨q,z,r,u⟩ _ (by exact hlB) (by omega) (by exact hxB.XU) (by exact hxB.lt)).mono ?_;rintro e w7 ⟨v7,rfl,V,O⟩;have jV:Below w.heap.size w w7:=(below_drewN (b.alloc b.size _) 1).trans (O.mono (b.alloc b.size _).size);have F:=hxB.below O hxB.lt;have hT7:=hTB.below O hTB.lt;have fM:U.heap.size<=w7.heap.size:=eT (by simp) O.size)
      |(refine BQ (w7.alloc (.cells #[q,z,r,u] 166)) rfl _ _ _ rfl U.heap.size 166 i0 _ 4 32 underlying136 hi hz0 hz1 hz2 rfl (by decide) v7 _ _ rfl (aH (own_base V (by simp)) _) w7.heap.size 166 [q,z,r,u] rfl (ai.new _ _ _) rfl (by simp[Value.oneCell']) (by omega) (by decide) (by simp;omega) ?_;intro v8 w8 hw8 Ep XP;have sK:Below w.heap.size w w8:=below_grown (jV.alloc jV.size _) Ep (by simp;have:=jV.size;omega) (λk hk=>by have:=(V.lt k hk).1;simp at this;have:=b.size;omega);have Xl:=(F.alloc _).grown Ep (own_ne V (.inl (by exact ab2)));obtain⟨g8,aav,XV,ab3⟩:=MF hw8;subst XV)
      |(refine BQ w7 rfl _ _ _ rfl U.heap.size 166 i0 _ 4 32 underlying136 hi hz0 hz1 hz2 rfl (by decide) v7 _ _ rfl (own_base V (by simp)) U.heap.size 166 [q,z,r,u] rfl hT7 rfl (by simp[Value.oneCell']) (by omega) (by decide) (by omega) ?_;intro v8 w8 hw8 Ep XP;have sK:Below w.heap.size w w8:=below_grown jV Ep jV.size (λk hk=>by have:=(V.lt k hk).1;simp at this;have:=b.size;omega);have Xl:=F.grown Ep (own_ne V (.inl (by simp;omega)));obtain⟨g8,aav,XV,ab3⟩:=MF hw8;subst XV)
      |(go_at_call 174;have c9:=R_ U.heap.size g8 aav (Lk.cut l ⟨q,z,r,u⟩++[⟨q,z,r,u⟩]) w8 (aW.snoc (l:=Lk.cut l ⟨q,z,r,u⟩) (y:=⟨q,z,r,u⟩) (by simpa using hw8) rfl) (by simp;omega);simp only[bq,gL,sw,mE]at c9;refine c9.mono ?_;rintro e w9 ⟨v9,l9,rfl,hp9,hs9,oh,sZ⟩;have jv:Below w.heap.size w w9:=below_grown sK sZ sK.size (λk hk=>by cases hk;have:=b.size;omega);have Jm:=Xl.grown sZ (by intro he;injection he with he;omega)))
    all_goals
     rcases aB oh with⟨hv,h0⟩|⟨g9,adz,hv,_,_,_⟩
     ·subst hv
      go_wp2;go_ret2;exact⟨_,_,_,rfl,.inr (.inr (.inr ⟨Hz.out,Hsz.out,Hm.out,l9,hp9,hs9,.inr ⟨by omega,rfl,rfl⟩⟩)),own_base oh sK.size,jv⟩
     subst hv
     rcases t4:decide ((40:Int)<((Lk.tidy l9).length:Int))with _|_
     ·go_wp2
      go_ret2;exact⟨_,_,_,rfl,.inr (.inr (.inr ⟨Hz.out,Hsz.out,Hm.out,l9,hp9,hs9,.inr ⟨by have:=j6 t4;omega,rfl,rfl⟩⟩)),own_base oh sK.size,jv⟩
     go_wp2;go_ret2;exact⟨_,_,_,rfl,.inr (.inr (.inr ⟨Hz.out,Hsz.out,Hm.out,l9,hp9,hs9,.inl ⟨by have:=iA t4;omega,rfl,rfl⟩⟩)),ku _ _,jv⟩
   go_wp2_with fail;have b:=N.alloc N.size (.cells #[mo,mf,Q,ma] 166);have H:=hx5.alloc (.cells #[mo,mf,Q,ma] 166);have uB:=hf5.alloc (.cells #[mo,mf,Q,ma] 166);have hm6:ai (w5.alloc (.cells #[mo,mf,Q,ma] 166)) w5.heap.size 166 [mo,mf,Q,ma]:=ai.new _ _ _;have gmB:w.heap.size<=w5.heap.size:=N.size;clear N hx5 hf5 i j n p E D g h B G;generalize w5.alloc (.cells #[mo,mf,Q,ma] 166)=U at*;generalize w5.heap.size=gm at*;obtain⟨i,j,n,p,g,h⟩:=H.four;obtain⟨E,D,B,G⟩:=uB.two;have bm:=hm6.four;go_ret2;exact⟨.slice none 0 0,[],_,rfl,.inr (.inr (.inl ⟨Hz.out,Hsz.out,Hm.out,rfl,rfl⟩)),ku _ _,b⟩
  go_wp2;go_ret2;exact⟨.slice none 0 0,[],_,rfl,.inr (.inl ⟨Hz.out,by rw[Hs.out];simpa using t2,rfl,Hs.out.symm⟩),ku _ _,K⟩
 go_wp2_with fail;have hB3:=M.alloc M.size (.cells #[we,wa] 51);have I:=hx2.alloc (.cells #[we,wa] 51);have L:ai (w2.alloc (.cells #[we,wa] 51)) w2.heap.size 51 [we,wa]:=ai.new _ _ _;have gfB:w.heap.size<=w2.heap.size:=M.size;clear M hx2 i j n p g h;generalize w2.alloc (.cells #[we,wa] 51)=w3 at*;generalize w2.heap.size=gf at*;obtain⟨i,j,n,p,g,h⟩:=I.four;obtain⟨E,D,B,G⟩:=L.two;refine eO (by kernel_rfl) (by kernel_rfl) ?_
 repeat(first|go_big_quiet_step (fail)|quiet_step (fail))
 refine ic ?_
 intro w4 hw';obtain⟨nq,hw''⟩:=hw';have K:=below_drewN hB3 nq;have S:=I.drewN nq;have W:=L.drewN nq;rw[<-hw'']at K S W;clear hB3 I L i j n p E D g h B G hw'';obtain⟨i,j,n,p,g,h⟩:=S.four;obtain⟨E,D,B,G⟩:=W.two;go_wp2;go_ret2;exact⟨.slice none 0 0,[],_,rfl,.inl ⟨by rw[Hw.out];simpa using t,rfl,Hw.out.symm⟩,ku _ _,K⟩
namespace Lk
open Tryz
theorem zN(x:Lk):∀l:List Lk,(insert x l).Perm (x::l)
 |[]=>List.Perm.refl _
 |y::r=>by
  unfold insert
  split
  ·exact((zN x r).cons y).trans (List.Perm.swap x y r)
  ·exact List.Perm.refl _
theorem vW:∀l:List Lk,(sort l).Perm l
 |[]=>List.Perm.refl _
 |x::r=>(zN x (sort r)).trans ((vW r).cons x)
theorem pW(x y:Lk):less x y=true↔x.o<y.o\/(x.o=y.o/\x.f<y.f):=by
 simp[less]
theorem Nv(x y:Lk):less x y=false↔¬(x.o<y.o\/(x.o=y.o/\x.f<y.f)):=by
 rw[<-pW];simp
theorem Su(x:Lk):∀l:List Lk,(l.Pairwise λx y=>less y x=false)->(insert x l).Pairwise λx y=>less y x=false
 |[],_=>nQ _ _
 |y::r,h=>by
  rw[l8]at h;unfold insert
  split
  ·rename_i hl
   rw[pW]at hl;refine List.pairwise_cons.2 ⟨λz hz=> ?_,Su x r h.2⟩
   rcases List.mem_cons.1 ((zN x r).mem_iff.1 hz)with rfl|hz
   ·rw[Nv];omega
   ·exact h.1 z hz
  ·rename_i hl
   have hl:less y x=false:=by simpa using hl
   refine List.pairwise_cons.2 ⟨λz hz=> ?_,List.pairwise_cons.2 h⟩
   rcases List.mem_cons.1 hz with rfl|hz
   ·exact hl
   ·have a:=h.1 z hz
    rw[Nv]at hl a ⊢;omega
theorem ED:∀l:List Lk,(sort l).Pairwise λx y=>less y x=false
 |[]=>List.Pairwise.nil
 |x::r=>Su x (sort r) (ED r)
theorem Pg{l l':List Lk}{x:Lk}(h:Right l)(hx:range x=false)(hp:l'.Perm (cut l x++[x]))(hs:l'.Pairwise λx y=>less y x=false):tidy l'=tidy (sort (cut l x++[x])):=by
 have b:=((iH _).1 h).1;obtain⟨g,e⟩:=zJ b hx hp hs;obtain⟨c,i⟩:=zJ b hx (vW _) (ED (cut l x++[x]));exact vT g c λo k a=>(e o k a).trans (i o k a).symm
end Lk
theorem U9{l m:List Lk}{x:Lk}{err:Int}(h:rG l x m err):Lk.take l x=(m,err):=by
 unfold Lk.take
 rcases h with⟨h,rfl,rfl⟩|⟨b,h,rfl,rfl⟩|⟨b,c,g,rfl,rfl⟩|⟨b,c,g,o,j,n,h⟩
 ·rw[aM h]
 ·rw[av (by simp[b]),aM h]
 ·rw[av (by simp[b]),av (by simp[c]),aM g]
 have k:=((Lk.az l).1 b).2;have i:=(Lk.Dt x).1 ((Lk.az [x]).1 c).2;have e:=Lk.Pg k i j n;rw[av (by simp[b]),av (by simp[c]),av (by simp[g]),<-e]
 rcases h with⟨a,rfl,rfl⟩|⟨a,rfl,rfl⟩
 ·rw[aM a]
 rw[av (by omega)]
theorem U_{l m:List Lk}{x:Lk}{err:Int}(h:uG l x m err):Lk.free l x=(m,err):=by
 unfold Lk.free
 rcases h with⟨h,rfl,rfl⟩|⟨b,h,rfl,rfl⟩|⟨b,c,h⟩
 ·rw[aM h]
 ·rw[av (by simp[b]),aM h]
 rw[av (by simp[b]),av (by simp[c])]
 rcases h with⟨a,rfl,rfl⟩|⟨a,rfl,rfl⟩
 ·rw[aM a]
 rw[av (by omega)]
end Go.Proofs.YtjppfhgkanbemabGreatDoor
