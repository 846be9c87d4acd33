/- A part of the proof of SysTells: MI. -/
import Derived.Test.YtjppfhgkanbemabGreatDoorME
import Derived.Test.YtjppfhgkanbemabGreatDoorMB
import Derived.Deep.CutBlock
import Derived.Deep.DeepCutAuto
import Derived.BigRegion
set_option maxHeartbeats 3000000
set_option maxRecDepth 100000
set_option linter.all false
namespace Go.Proofs.YtjppfhgkanbemabGreatDoor
open Tryz
open Go.RowKit Go.Shelf Go.Sort
structure bT(w:World)(B:Nat)(A A':Option Addr)(c c':Nat)(u:Un):Prop where
 up:aC w B A u.U
 cap:u.U.length<=c
 low:jc w B A' u.L
 nil:A'=none->c'=0
theorem bT.below{w w':World}{B:Nat}{A A':Option Addr}{c c':Nat}{u:Un}(h:bT w B A A' c c' u)(hb:Below B w w'):bT w' B A A' c c' u:=⟨Rd.below h.up hb,h.cap,h.low.below hb,h.nil⟩
theorem bT.more{w:World}{B B':Nat}{A A':Option Addr}{c c':Nat}{u:Un}(h:bT w B A A' c c' u)(hB:B<=B'):bT w B' A A' c c' u:=⟨Rd.more h.up hB,h.cap,h.low.more hB,h.nil⟩
def iR(u:Un):Prop:=ZX u.all/\u.L.length<=2000000/\∀l∈u.all,l.length<=2000000
def unV(A A':Option Addr)(c c':Nat)(u:Un):List Value:=[.slice A u.U.length c,.slice A' u.L.length c']
theorem QW(w:World)(base:Nat)(v:Value)(hb:base<=w.heap.size)(_:v.oneCell'=true):(w.alloc (.cells #[v] 30)).ownsRow base 30 1 (.slice w 1 1) 1 [v]:=
 ⟨rfl,.inr ⟨w.heap.size,1,#[v],rfl,hb,heap_alloc_new w _,aR,by decide,rfl,rfl⟩⟩
theorem MV{w:World}{base:Nat}{A:Option Addr}{c:Nat}{l:List En}(hb:base<=w.heap.size)(hl:aC w base A l)(hc:l.length<=c):nS (w.alloc (.cells #[.slice A l.length c] 30)) base (.slice w 1 1) [l]:=
 ⟨[.slice A l.length c],QW w base _ hb rfl,λk a=>by
  obtain rfl:k=0:=by simpa using a
  exact⟨A,c,rfl,hc,Rd.alloc hl hb _⟩⟩
theorem MW(g:Nat)(A A':Option Addr)(c c':Nat)(u:Un)(w:World)(hg:ai w g 33 (unV A A' c c' u))(hu:bT w w A A' c c' u)(hs:iR u):Calls prog 34 #[.pointer g] w λe w'=>∃v,e= .returned v/\nS w' w v u.all/\Below w w w':=by
 obtain⟨l,ls⟩:=u;obtain⟨B,o,H,G⟩:=hu;have N:=hs.2.1;unfold unV at hg;dsimp only at hg B o H G N;obtain⟨L,O,Y,U⟩:=hg.two;obtain⟨ws,F,E⟩:=H;have a:nS (w.alloc (.cells #[.slice A l.length c] 30)).drew w (.slice w 1 1) [l]:=MV aR B o;have y:Rd (w.alloc (.cells #[.slice A l.length c] 30)).drew w 1 A' ls.length ws:=Rd.alloc F aR _;have x:∀k (h:k<ls.length),∃z D,ws[k]? =some (.slice z ls[k].length D)/\ls[k].length<=D/\aC (w.alloc (.cells #[.slice A l.length c] 30)).drew w z ls[k]:=λk I=>by
  obtain⟨z,D,K,Q,S⟩:=E k I;exact⟨z,D,K,Q,Rd.alloc S aR _⟩
 have m:Below w w (w.alloc (.cells #[.slice A l.length c] 30)).drew:=((aa _ w).alloc aR _).drew;have t:=m.size;have b:ai (w.alloc (.cells #[.slice A l.length c] 30)).drew g 33 [.slice A l.length c,.slice A' ls.length c']:=hg.alloc _;have i:(w.alloc (.cells #[.slice A l.length c] 30)).drew.cell? g=some (.slice A l.length c)/\(w.alloc (.cells #[.slice A l.length c] 30)).drew.cell? ⟨g,1,none⟩=some (.slice A' ls.length c'):=⟨b.cell 0,b.cell 1⟩;have j:∀n,(w.alloc (.cells #[.slice A l.length c] 30)).drew.grownBy n (Value.slice w 1 1).ownBlock->n.cell? g=some (.slice A l.length c)/\n.cell? ⟨g,1,none⟩=some (.slice A' ls.length c'):=λn h=>
  have o:=b.grown h (by show some g≠some w.heap.size;intro e;injection e with e;omega)
  ⟨o.cell 0,o.cell 1⟩
 go_enter func34,ntmps34;go_upto_region 1 with fail
 go_region_held3 (λW=>W.cell? g=some (.slice A l.length c)/\W.cell? ⟨g,1,none⟩=some (.slice A' ls.length c'))
  (first|exact⟨L,O⟩|exact i|exact j n r|go_keep)
  ((
   refine JR (w:=(w.alloc (.cells #[.slice A l.length c] 30)).drew) (v:= .slice w 1 1) (base:=w.heap.size) (ls:=[l]) (ms:=ls) (A:=A') (c:=c') (ws:=ws) _ rfl _ _ rfl rfl a ls.length rfl rfl y x G (by simp only[gL,sw];omega) t rfl ?_
   intro Z n p r))
 go_wp2;go_ret;exact⟨_,rfl,p,m.grown r m.size (λq M=>by obtain⟨V,B,_⟩:=a;exact(B.lt q M).1)⟩
theorem zh{ls:List (List En)}{k:Nat}(i:Nat)(hk:k<ls.length){e:Int}(h0:∀l∈ls.take k,(Tr.wrong l true).1=0)(he:(Tr.wrong ls[k] true).1=e)(hne:e≠0):Tr.fZ ls i=(e,((i+k:Nat):Int)):=by
 induction ls generalizing k i with
 |nil=>simp at hk
 |cons x r ih=>
  cases k with
  |zero=>
   have he:(Tr.wrong x true).1=e:=he;unfold Tr.fZ;rw[he,aM hne];rfl
  |succ k=>
   have a:=h0 x (by simp)
   unfold Tr.fZ;rw[a,av (by decide),ih (i+1) (k:=k) (by simpa using hk) (λl b=>h0 l (by simp[b])) he]
   congr 2
   omega
theorem gY{p:Int×Int}{e a:Int}(h:p=(e,a)):Ending.returned (.agg #[e,a])= .returned (.agg #[p.1,p.2]):=by rw[h]
theorem zi(A A':Option Addr)(c c':Nat)(u:Un)(w:World)(hu:bT w w A A' c c' u)(hs:iR u):Calls prog 15 #[.agg #[.slice A u.U.length c,.slice A' u.L.length c']] w λe w'=>e= .returned (.agg #[.int .i64 (Tr.wrongU u).1,.int .i64 (Tr.wrongU u).2])/\Below w w w':=by
 have HS:=aL hs;have hn:=hs.2.1;clear hs;obtain⟨p,hp⟩:∃p,p=Tr.wrongU u:=⟨_,rfl⟩;have HP:=aL hp.symm;rw[<-hp];clear hp;obtain⟨l,ls⟩:=u;dsimp only at hn ⊢;have HU:=aL hu;clear hu;have hB0:=((aa w w).alloc aR (.cells #[.slice A l.length c,.slice A' ls.length c'] 33));have E:=hB0.alloc hB0.size (.cells #[(0:Int),(0:Int)] 51);have D:=(ai.new w 33 [.slice A l.length c,.slice A' ls.length c']).alloc (.cells #[(0:Int),(0:Int)] 51);have K:=ai.new (w.alloc (.cells #[.slice A l.length c,.slice A' ls.length c'] 33)) 51 [(0:Int),(0:Int)];have hlt:w.heap.size<w.heap.size+1:=uR _;clear hB0;go_enter func15,ntmps15;go_upto_region 1 with fail
 simp only[bX]at K;generalize (w.alloc (.cells #[.slice A l.length c,.slice A' ls.length c'] 33)).alloc (.cells #[(0:Int),(0:Int)] 51)=w1 at*;generalize w.heap.size+1=gf at*
 by_cases t4:4<ls.length
 ·have HO:Hid (p=(5,0)):=aL (by rw[<-HP.out];unfold Tr.wrongU;rw[aM t4])
  have y:=D.two;have j:=K.two;go_wp2_with fail;refine aD (v:= .agg #[(5:Int),(0:Int)]) ?_ rfl ⟨gY HO.out,?_⟩
  ·simp[results,results15,go_sem,j]
  exact(E.setCell (by simp;omega) _).setCell (by simp;omega) _
 have Z:Hid (p=if(Tr.fZ (l::ls) 0).1≠0 then Tr.fZ (l::ls) 0 else((Tr.aS (l::ls)).2,0)):=aL (by rw[<-HP.out];unfold Tr.wrongU;rw[av t4];rfl)
 have Xt:Hid (Tr.merge (l::ls)=Tr.aS (l::ls)):=aL (by unfold Tr.merge;rw[av (by rw[gL];omega)])
 clear HP;have S:=λW hb hq=>MW w A A' c c' ⟨l,ls⟩ W hq ((HU.out.below hb).more hb.size) HS.out
 have y:=D.two;go_wp2_with fail;clear y;refine(S w1 E D).mono ?_
 rintro e w2 ⟨v2,rfl,ho2,I⟩;obtain⟨A2,c2,rfl,hc2,hr2⟩:=ho2.rd I.size;have N:=E.trans (I.mono E.size);have hq2:=D.below I D.lt;have hf2:=K.below I K.lt;clear I E D K ho2;have Z7:Hid ((⟨l,ls⟩:Un).all=l::ls):=aL rfl;rw[Z7.out]at hr2;have hlen:(⟨l,ls⟩:Un).all.length=ls.length+1:=rfl;have hlen2:(l::ls).length=ls.length+1:=rfl;rw[hlen]at*;have lG:Hid (ZX (l::ls)):=aL HS.out.1;go_wp2_with fail;generalize l::ls=r at*
 go_loopw [15] (λi wr=>∃k:Nat,k<=r.length/\i= .int .i64 k/\Hid (∀x∈r.take k,(Tr.wrong x true).1=0)/\ai wr w 33 [.slice A l.length c,.slice A' ls.length c']/\ai wr gf 51 [(0:Int),(0:Int)]/\Below w2 w2 wr) (λi _=>r.length- (intOf i).toNat)
 case atStart=>exact⟨0,bL _,rfl,aL (λx O=>by simp at O),hq2,hf2,aa _ _⟩
 case round=>
  obtain⟨k,hk,rfl,HK,F,n,g⟩:=hrel;have G:=N.trans (g.mono N.size);clear hq2 hf2
  by_cases t:k<r.length
  ·have hki:(k:Int)<(ls.length:Int)+1:=by omega
   obtain⟨b,o,Ak,ck,rfl,hbk,hc1,hcl,hrd⟩:=(hr2.below g).at_ t
   have V:=aL (lG.out _ (cz t));have HE:=aL (λe=>zh (ls:=r) (k:=k) 0 t (e:=e) HK.out)
   have HN:Hid ((Tr.wrong r[k] true).1=0->∀x∈r.take (k+1),(Tr.wrong x true).1=0):=aL (λh x O=>by
    rw[aF t,gF,eD]at O
    rcases O with O|rfl
    ·exact HK.out x O
    exact h)
   generalize r[k]=x at hc1 hcl hrd V HE HN;have cW:=yO Ak ck x wr (Rd.more hrd g.size) hcl V.out.1 V.out.2;generalize Tr.wrong x true=q at cW HE HN;obtain⟨M,qa⟩:=q;dsimp only at cW HE HN;go_wp2_with fail;refine cW.mono ?_
   rintro e w4 ⟨rfl,a⟩;have Q:=(g.trans (a.mono g.size)).alloc (g.trans (a.mono g.size)).size (.cells #[M,qa] 51);have H:=N.trans (Q.mono N.size);have hq4:=(F.below a F.lt).alloc (.cells #[M,qa] 51);have B:=(n.below a n.lt).alloc (.cells #[M,qa] 51);have hx4:=ai.new w4 51 [M,qa];have hgx:gf<w4:=(n.below a n.lt).lt;clear cW a F n G g
   rcases te:(M !=0)with _|_
   ·have Xu:=aL (HN.out (by simpa using te))
    go_wp2;go_roundw
    case rel=>exact⟨k+1,by omega,by go_num,Xu,hq4,B,Q⟩
    case measure=>simp[intOf];omega
   have Y:M≠0:=by simpa using te
   have HO:Hid (p=(M,(k:Int))):=aL (by
    have h:=HE.out M rfl Y;rw[Z.out,h,aM Y];simp)
   clear Y;go_upto_region 8 with fail
   generalize w4.alloc (.cells #[M,qa] 51)=w5 at*;generalize w4.heap.size=gx at*;have j:=B.two;have z:=hx4.two;go_wp2_with fail;refine aD (v:= .agg #[M,k]) ?_ rfl ⟨gY HO.out,?_⟩
   ·simp[results,results15,go_sem,j]
   exact(H.setCell (by simp;omega) _).setCell (by simp;omega) _
  obtain rfl:k=r.length:=by omega
  have hki:¬((r.length:Nat):Int)<(ls.length:Int)+1:=by omega
  have HZ:Hid (p=((Tr.merge r).2,0)):=aL (by
   rw[Z.out,av,Xt.out];have:=(Tr.lF (ls:=r) 0).2 (λx O=>HK.out x (by rw[gN];exact O))
   simp[this])
  clear Z Xt;go_wp2_with fail;refine(S wr G F).mono ?_
  rintro e w4 ⟨v4,rfl,dI,a⟩;obtain⟨A4,c4,rfl,hc4,hr4⟩:=dI.rd a.size;have H:=G.trans (a.mono G.size);have B:=n.below a n.lt;clear a dI G g F n;rw[Z7.out]at hr4;have cM:=merge_any A4 c4 r w4 hr4 lG.out;unfold gW at cM;generalize Tr.merge r=m at cM HZ;obtain⟨ml,me⟩:=m;dsimp only at cM HZ;rw[hlen2]at cM;go_wp2_with fail;refine cM.mono ?_
  rintro e w5 ⟨v5,rfl,xg,hb5⟩;have dh:=H.trans (hb5.mono H.size);have hf5:=B.below hb5 B.lt;clear cM xg hb5 H B;have j:=hf5.two
  rcases te:(me !=0)with _|_
  ·have he0:me=0:=by simpa using te
   subst he0;go_wp2_with fail;refine aD (v:= .agg #[(0:Int),(0:Int)]) ?_ rfl ⟨gY HZ.out,?_⟩
   ·simp[results,results15,go_sem,j]
   exact(dh.setCell (by simp;omega) _).setCell (by simp;omega) _
  go_wp2_with fail;refine aD (v:= .agg #[me,(0:Int)]) ?_ rfl ⟨gY HZ.out,?_⟩
  ·simp[results,results15,go_sem,j]
  exact(dh.setCell (by simp;omega) _).setCell (by simp;omega) _
theorem Gz{p:List En×Int}{m:List En}{e:Int}{v:Value}(h:p=(m,e)):Ending.returned (.tuple #[v,e])= .returned (.tuple #[v,p.2]):=by rw[h]
def kM(u:Un)(w:World)(e:Ending)(w':World):Prop:=
 ∃v,e= .returned (.tuple #[v,.int .i64 (Tr.seenU u).2])/\ag w' w v (Tr.seenU u).1/\Below w w w'
theorem C9(A A':Option Addr)(c c':Nat)(u:Un)(w:World)(hu:bT w w A A' c c' u)(hs:iR u):Calls prog 13 #[.agg #[.slice A u.U.length c,.slice A' u.L.length c']] w (kM u w):=by
 have Q:=aL hs;clear hs;unfold kM;obtain⟨p,O⟩:∃p,p=Tr.seenU u:=⟨_,rfl⟩;have HP:=aL O;rw[<-O];clear O;obtain⟨l,a⟩:=u;dsimp only at*;have HU:=aL hu;clear hu;have B:=λW h=>zi A A' c c' ⟨l,a⟩ W h Q.out
 dsimp only at B;have HT:=aL (λh:Tr.Fine ⟨l,a⟩=>h.1)
 have I:=aL (Tr.fine_iff ⟨l,a⟩).1;have S:=aL (λh:(Tr.wrongU ⟨l,a⟩).1≠0=>(show Tr.seenU ⟨l,a⟩=([],(Tr.wrongU ⟨l,a⟩).1)by unfold Tr.seenU;rw[aM h]))
 generalize hq:Tr.wrongU ⟨l,a⟩=q at B I S;clear hq;obtain⟨k,D⟩:=q;dsimp only at B I S;have b:=((aa w w).alloc aR (.cells #[.slice A l.length c,.slice A' a.length c'] 33));have i:=(ai.new w 33 [.slice A l.length c,.slice A' a.length c']);go_enter func13,ntmps13;go_upto_region 1 with fail
 generalize w.alloc (.cells #[.slice A l.length c,.slice A' a.length c'] 33)=w1 at*;have z:=i.two;go_wp2_with fail;clear z;refine(B w1 ((HU.out.below b).more b.size)).mono ?_
 rintro e F ⟨rfl,j⟩;have g:=(b.trans (j.mono b.size)).alloc (b.trans (j.mono b.size)).size (.cells #[k,D] 51);have Y:=(i.below j i.lt).alloc (.cells #[k,D] 51);have G:=ai.new F 51 [k,D];clear B j b i
 rcases te:(k !=0)with _|_
 rotate_left
 ·have HO:Hid (p=([],k)):=aL (by rw[HP.out];exact S.out (by simpa using te))
  go_upto_region 3 with fail
  generalize F.alloc (.cells #[k,D] 51)=Z at*;generalize F.heap.size=gx at*;have x:=G.two
  go_quiet (fail)
  go_wp2;go_ret2;exact⟨_,Gz HO.out,by rw[HO.out];exact ag.nil _ _,below_drewN g _⟩
 have E:k=0:=by simpa using te
 have y:=aL (I.out E);have HM:Hid (p=Tr.merge (l::a)):=aL (by
  rw[HP.out,Tr.lZ y.out];unfold Tr.merge;rw[av (by have h:=y.out.1;have h:a.length<=4:=h;rw[gL];omega)];rfl)
 clear E;go_upto_region 4 with fail
 generalize F.alloc (.cells #[k,D] 51)=Z at*;go_wp2_with fail;refine(MW w A A' c c' ⟨l,a⟩ Z Y ((HU.out.below g).more g.size) Q.out).mono ?_
 rintro e w4 ⟨v4,rfl,t,o⟩;obtain⟨A4,c4,rfl,hc4,r⟩:=t.rd o.size;have m:=g.trans (o.mono g.size);clear o t;have H:Hid ((⟨l,a⟩:Un).all=l::a):=aL rfl;rw[H.out]at r;have v:(⟨l,a⟩:Un).all.length=a.length+1:=rfl;have n:(l::a).length=a.length+1:=rfl;have V:=merge_any A4 c4 (l::a) w4 r Q.out.1;unfold gW at V;rw[<-HM.out,n]at V;rw[v]at*;go_wp2_with fail;refine V.mono ?_
 rintro e w5 ⟨v5,rfl,K,M⟩;have N:=m.trans (M.mono m.size);go_wp2;go_ret2;exact⟨_,rfl,own_base K m.size,N⟩
structure bC(B g:Nat)(w w':World):Prop where
 os:w'.os=w.os
 tape:w'.tape=w.tape
 output:w'.output=w.output
 size:w.heap.size<=w'.heap.size
 block:∀k,k<B->k≠g->w'.heap[k]? =w.heap[k]?
theorem bC.refl(B g:Nat)(w:World):bC B g w w:=⟨rfl,rfl,rfl,aR,λ_ _ _=>rfl⟩
theorem bC.trans{B g:Nat}{a b c:World}(h:bC B g a b)(k:bC B g b c):bC B g a c:=
 ⟨k.os.trans h.os,k.tape.trans h.tape,k.output.trans h.output,eT h.size k.size,λi j e=>(k.block i j e).trans (h.block i j e)⟩
theorem bC.of{B B' g:Nat}{w w':World}(h:Below B' w w')(hB:B<=B'):bC B g w w':=⟨h.os,h.tape,h.output,h.size,λk a _=>h.block k (by omega)⟩
theorem bC.grown{B g:Nat}{w w':World}{row:Option Nat}(h:w.grownBy w' row)(hB:B<=w.heap.size)(hr:∀k,row=some k->B<=k):bC B g w w':=bC.of ((aa B w).grown h hB hr) aR
theorem bC.set{B g:Nat}(w:World)(i:Nat)(u:Value):bC B g w (w.setCell ⟨g,i,none⟩ u):=
 ⟨rfl,rfl,rfl,by simp,λk _ a=>mh w ⟨g,i,none⟩ u k a⟩
theorem bC.below{B B' g:Nat}{w w':World}(h:bC B g w w')(hB:B'<=B)(hg:B'<=g):Below B' w w':=⟨h.os,h.tape,h.output,h.size,λk a=>h.block k (by omega) (by omega)⟩
theorem ai.rQ{w w':World}{B g k:Nat}{t:TypeId}{cs:List Value}(h:ai w k t cs)(hb:bC B g w w')(hk:k<B)(hg:k≠g):ai w' k t cs:=(hb.block k hk hg).trans h
def Kp(w:World)(base g:Nat)(v:Value)(l:List En):Prop:=∃A c,v= .slice A l.length c/\l.length<=c/\aC w base A l/\∀a,A=some a->a.block≠g
theorem Kp.keep{w w':World}{base g:Nat}{v:Value}{l:List En}(h:Kp w base g v l)(hb:bC base g w w'):Kp w' base g v l:=by
 obtain⟨A,c,q,p,n,m⟩:=h;refine⟨A,c,q,p,⟨n.1,λx=> ?_⟩,m⟩
 obtain⟨b,o,e,i,t⟩:=n.2 x;refine⟨b,o,e,i,λj u r=> ?_⟩
 have k:b≠g:=m _ e;exact(lc (a:=⟨b,o+j,none⟩) (hb.block b i k)).trans (t j u r)
theorem Kp.iK{w:World}{base g:Nat}{v:Value}{l:List En}(h:ag w (g+1) v l)(hb:w.heap.size<=base):Kp w base g v l:=by
 obtain⟨A,c,rfl,b,e⟩:=h.rd;refine⟨A,c,rfl,b,Rd.more e hb,λa ha=> ?_⟩
 subst ha;have:=(gH h a.block rfl).1;omega
theorem Kp.more{w:World}{base base' g:Nat}{v:Value}{l:List En}(h:Kp w base g v l)(hb:base<=base'):Kp w base' g v l:=by
 obtain⟨A,c,a,b,i,e⟩:=h;exact⟨A,c,a,b,Rd.more i hb,e⟩
theorem Kp.nil(w:World)(base g:Nat):Kp w base g (.slice none 0 0) []:=⟨none,0,rfl,aR,Rd.nil,λ_ h=>nomatch h⟩
theorem fH{w:World}{base g:Nat}{e:TypeId}{size n:Nat}{v:Value}{xs:List Value}(h:w.ownsRow base e size v n xs)(hg:some g≠v.ownBlock)(i:Nat)(u:Value):(w.setCell ⟨g,i,none⟩ u).ownsRow base e size v n xs:=by
 obtain⟨l,o|⟨j,c,a,k,p,m,r,q⟩⟩:=h
 ·exact⟨l,.inl o⟩
 refine⟨l,.inr ⟨j,c,a,k,p,?_,r,q⟩⟩
 have b:j≠g:=λe=>hg (by rw[k,e];rfl)
 exact(mh w ⟨g,i,none⟩ u j b).trans m
structure Chg(w:World)(gc base:Nat)(err:Int)(U B S:List En):Prop where
 ex:∃vU vB vS,ai w gc 90 [vU,vB,vS,err]/\ag w base vU U/\Kp w base gc vB B/\Kp w base gc vS S
 lt:gc<base
 size:base<=w.heap.size
theorem Tr.rC{u:Un}(h:Tr.Fine u):Tr.merge u.L=(Tr.ay u,0):=by
 have b:=h.1;have a:=(Tr.fine_parts h).2.2.2.2.2.2.1;unfold Tr.merge;rw[av (by omega)]
 unfold Tr.ay;rw[<-a]
def qh(u:Un)(w:World)(e:Ending)(w':World):Prop:=
 ∃gc base B,e= .returned (.pointer (some ⟨gc,0,none⟩))/\Chg w' gc base (Tr.seenU u).2 u.U B (Tr.seenU u).1/\((Tr.seenU u).2=0->B=Tr.ay u)/\w.heap.size<=gc/\Below w w w'
theorem vK(gu:Nat)(A A':Option Addr)(c c':Nat)(u:Un)(w:World)(hq:ai w gu 33 [.slice A u.U.length c,.slice A' u.L.length c'])(hu:bT w w A A' c c' u)(hs:iR u):Calls prog 44 #[.pointer gu] w (qh u w):=by
 have HS:=aL hs;have Zl:=aL (hs.2.2 u.U (by simp[Un.all]))
 clear hs;unfold qh;have cS:=λW h=>C9 A A' c c' u W h HS.out
 unfold kM at cS;have HF:=aL (λh:(Tr.seenU u).2=0=>Tr.rC (Tr.jb.1 h))
 generalize Tr.seenU u=p at cS HF;obtain⟨m,t⟩:=p;dsimp only at*;have HU:=aL hu;clear hu;obtain⟨l,k⟩:=u;dsimp only at*;have B:=((aa w w).alloc aR (.cells #[(),(),(),(0:Int)] 90));have K:=hq.alloc (.cells #[(),(),(),(0:Int)] 90);have Z:=ai.new w 90 [(),(),(),(0:Int)];have hgu:=hq.lt;go_enter func44,ntmps44;go_upto_region 2 with fail
 clear hq;generalize hw1:w.alloc (.cells #[(),(),(),(0:Int)] 90)=w1 at*;have hgc:w.heap.size<=w.heap.size:=aR;generalize QX:w.heap.size=a at hgu Z;have V:gu≠a:=by omega
 have hsz1:w1.heap.size=a+1:=by rw[<-hw1];simp[QX]
 have q:=K.two;go_wp2_with fail;clear q;refine(cS w1 ((HU.out.below B).more B.size)).mono ?_
 rintro e w2 ⟨v2,rfl,Y,S⟩;have hB2:=B.trans (S.mono B.size);have hq2:=K.below S K.lt;have hc2:=Z.below S Z.lt;rw[hsz1]at Y;have hk2:=Kp.iK Y aR;obtain⟨o,n,hv2,_,_⟩:=ag.rd Y;subst hv2;clear S B K Z cS Y hw1 hsz1;have g:=(hB2.setCell (p:=⟨a,2,none⟩) (by show w.heap.size<=a;omega) (.slice o m.length n)).setCell (p:=⟨a,3,none⟩) (by show w.heap.size<=a;omega) (.int .i64 t)
 have H:=(hq2.far (p:=⟨a,2,none⟩) V (.slice o m.length n)).far (p:=⟨a,3,none⟩) V (.int .i64 t);have i:ai ((w2.setCell ⟨a,2,none⟩ (.slice o m.length n)).setCell ⟨a,3,none⟩ (.int .i64 t)) a 90 [(),(),(.slice o m.length n),t]:=(hc2.bY 2 (.slice o m.length n)).bY 3 (.int .i64 t);have F:=(hk2.keep (bC.set _ 2 (.slice o m.length n))).keep (bC.set _ 3 (.int .i64 t));have hs3:w2.heap.size<=((w2.setCell ⟨a,2,none⟩ (.slice o m.length n)).setCell ⟨a,3,none⟩ (.int .i64 t)).heap.size:=by simp
 have z:=hc2.four;go_upto_region 3 with fail
 clear z hB2 hq2 hc2 hk2;generalize (w2.setCell ⟨a,2,none⟩ (.slice o m.length n)).setCell ⟨a,3,none⟩ (.int .i64 t)=w3 at*;have F:=F.more hs3;clear hs3;have z:=i.four
 rcases te:(t==0)with _|_
 ·have N:t≠0:=by simpa using te
  have q:=H.two;go_wp2_with fail;clear q z;refine(gX A c l w3 ((HU.out.below g).more g.size).up Zl.out).mono ?_
  rintro e w6 ⟨M,rfl,j,b⟩;have I:=(g.trans (b.mono g.size)).setCell (p:=a) (by show w.heap.size<=a;omega) M
  have G:=i.below b i.lt;have C_:ai (w6.setCell ⟨a,0,none⟩ M) a 90 [M,(),(.slice o m.length n),t]:=G.bY 0 M;obtain⟨v,y,hv6,_,_⟩:=ag.rd j;subst hv6;have hgl:a<w3:=i.lt;have pG:ag (w6.setCell ⟨a,0,none⟩ (.slice v l.length y)) w3 (.slice v l.length y) l:=fH j (λe=>by have:=(gH j a e.symm).1;omega) 0 (.slice v l.length y)
  have z:=G.four;go_wp2;go_ret;refine⟨a,w3.heap.size,[],rfl,⟨⟨(.slice v l.length y),(),(.slice o m.length n),C_,pG,(Kp.nil _ _ _),(F.keep (bC.of b aR)).keep (bC.set _ 0 (.slice v l.length y))⟩,hgl,by simp;exact b.size⟩,λh=>absurd h N,uE (by first|rfl|exact QX),by first|exact I|exact QX▸I⟩
 have N:t=0:=by simpa using te
 have HM:=aL (HF.out N);clear HF te;subst N;have q:=H.two;go_wp2_with fail;clear q z;have cM:=merge_any A' c' k w3 ((HU.out.below g).more g.size).low (λx hx=>HS.out.1 x (by simp[Un.all,hx]))
 unfold gW at cM;rw[HM.out]at cM;dsimp only at cM;refine cM.mono ?_
 rintro e w4 ⟨v4,rfl,dI,r⟩;have hB4:=g.trans (r.mono g.size);have hq4:=H.below r H.lt;have hc4:=i.below r i.lt;have hk4:=(F.keep (bC.of r aR)).more r.size;have hm4:=Kp.iK (own_base dI (show a+1<=w3.heap.size from i.lt)) aR
 obtain⟨D,E,hv4,_,_⟩:=ag.rd dI;subst hv4;clear r g H i F cM dI;have Q:=(hB4.setCell (p:=⟨a,1,none⟩) (by show w.heap.size<=a;omega) (.slice D (Tr.ay ⟨l,k⟩).length E)).setCell (p:=⟨a,3,none⟩) (by show w.heap.size<=a;omega) (.int .i64 0)
 have hq5:=(hq4.far (p:=⟨a,1,none⟩) V (.slice D (Tr.ay ⟨l,k⟩).length E)).far (p:=⟨a,3,none⟩) V (.int .i64 0);have O:ai ((w4.setCell ⟨a,1,none⟩ (.slice D (Tr.ay ⟨l,k⟩).length E)).setCell ⟨a,3,none⟩ (.int .i64 0)) a 90 [(),(.slice D (Tr.ay ⟨l,k⟩).length E),(.slice o m.length n),(0:Int)]:=(hc4.bY 1 (.slice D (Tr.ay ⟨l,k⟩).length E)).bY 3 (.int .i64 0);have hk5:=(hk4.keep (bC.set _ 1 (.slice D (Tr.ay ⟨l,k⟩).length E))).keep (bC.set _ 3 (.int .i64 0));have hm5:=(hm4.keep (bC.set _ 1 (.slice D (Tr.ay ⟨l,k⟩).length E))).keep (bC.set _ 3 (.int .i64 0));have hs5:w4.heap.size<=((w4.setCell ⟨a,1,none⟩ (.slice D (Tr.ay ⟨l,k⟩).length E)).setCell ⟨a,3,none⟩ (.int .i64 0)).heap.size:=by simp
 have z:=hc4.four;go_upto_region 5 with fail
 clear z hB4 hq4 hc4 hk4 hm4;generalize (w4.setCell ⟨a,1,none⟩ (.slice D (Tr.ay ⟨l,k⟩).length E)).setCell ⟨a,3,none⟩ (.int .i64 0)=w5 at*;have hk5:=hk5.more hs5;have hm5:=hm5.more hs5;clear hs5;have z:=O.four;have q:=hq5.two;go_wp2_with fail;clear q z;refine(gX A c l w5 ((HU.out.below Q).more Q.size).up Zl.out).mono ?_
 rintro e w6 ⟨M,rfl,j,b⟩;have I:=(Q.trans (b.mono Q.size)).setCell (p:=a) (by show w.heap.size<=a;omega) M
 have G:=O.below b O.lt;have C_:ai (w6.setCell ⟨a,0,none⟩ M) a 90 [M,(.slice D (Tr.ay ⟨l,k⟩).length E),(.slice o m.length n),(0:Int)]:=G.bY 0 M;obtain⟨v,y,hv6,_,_⟩:=ag.rd j;subst hv6;have hgl:a<w5:=O.lt;have pG:ag (w6.setCell ⟨a,0,none⟩ (.slice v l.length y)) w5 (.slice v l.length y) l:=fH j (λe=>by have:=(gH j a e.symm).1;omega) 0 (.slice v l.length y)
 have z:=G.four;go_wp2;go_ret;refine⟨a,rfl,w5.heap.size,Tr.ay ⟨l,k⟩,⟨⟨(.slice v l.length y),(.slice D (Tr.ay ⟨l,k⟩).length E),(.slice o m.length n),C_,pG,(((hm5.keep (bC.of b aR)).keep (bC.set _ 0 (.slice v l.length y)))),(hk5.keep (bC.of b aR)).keep (bC.set _ 0 (.slice v l.length y))⟩,hgl,by simp;exact b.size⟩,rfl,uE (by first|rfl|exact QX),by first|exact I|exact QX▸I⟩
theorem PH{l:List En}{p:Pt.Bs}{k:Nat}(hk:k<l.length)(hp:p≠[])(hno:∀y∈l.take k,y.P≠p)(he:l[k].P=p):Tr.get l p=some l[k]:=by
 unfold Tr.get;rw[av hp];have e:l.find? (λe=>e.P==p)=(l.take k++l[k]::l.drop (k+1)).find? (λe=>e.P==p):=by
  rw[<-List.drop_eq_getElem_cons hk,rR]
 rw[e,List.find?_append,List.find?_eq_none.2 (λy a=>by simp[hno y a]),Option.none_or,List.find?_cons]
 simp[he]
theorem NG{y:En}{p:ByteArray}(h:(y.p.toList==p.toList)=false):y.P≠p.data.toList:=by
 rw[fq,kg,kg]at h;exact h
theorem NH{y:En}{p:ByteArray}(h:(y.p.toList==p.toList)=true):y.P=p.data.toList:=by
 rw[p9,kg,kg]at h;exact h
theorem a_(A:Option Addr)(c:Nat)(l:List En)(p:ByteArray)(w:World)(hl:aC w w A l)(hn:l.length<=2305843009213693952):Calls prog 43 #[.slice A l.length c,p] w λe w'=>∃r:Option En,e= .returned (.tuple #[(r.getD En.zero).agg,r.isSome])/\r=Tr.get l p.data.toList/\Below w w w':=by
 rcases aG p with⟨a,g1,Z⟩|⟨a,g1,Z⟩
 ·have x:Hid (some En.root=Tr.get l p):=aL (by rw[a,Tr.dL])
  clear a;go_enter func43,ntmps43;go_wp2_with fail;refine aD (v:= .tuple #[En.root.agg,true]) ?_ rfl ⟨some En.root,rfl,x.out,?_⟩
  ·simp[results,results43,go_sem,En.root,En.agg,En.cells]
  exact(aa _ _).alloc aR _
 have Y:=aL a;clear a;have B:Below w w (w.alloc (.cells #[Qs.e,(0:Int),Qs.e,false] 45)):=(aa _ _).alloc aR _;have z:=ai.new w 45 [Qs.e,(0:Int),Qs.e,false];go_enter func43,ntmps43;go_wp2_with fail;generalize w.alloc (.cells #[Qs.e,(0:Int),Qs.e,false] 45)=w0 at*
 go_loopw [13] (λi wr=>∃k:Nat,k<=l.length/\i= .int .i64 k/\Hid (∀y∈l.take k,y.P≠p.data.toList)/\ai wr w 45 [Qs.e,(0:Int),Qs.e,false]/\Below w w wr) (λi _=>l.length- (intOf i).toNat)
 case atStart=>exact⟨0,bL _,rfl,aL (λy g=>by simp at g),z,B⟩
 case round=>
  clear z B;obtain⟨k,hk,rfl,m,H,F⟩:=hrel
  by_cases j:k<l.length
  ·obtain⟨b,o,rfl,hb,a,S,O,U⟩:=(aC.at_ (hl.below F) j)
   have Q:=aL (PH j Y.out m.out);have D:Hid (l[k].P≠p.data.toList->∀y∈l.take (k+1),y.P≠p.data.toList):=aL (λh y g=>by
    rw[aF j,gF,eD]at g
    rcases g with g|rfl
    ·exact m.out y g
    exact h)
   generalize l[k]=y at a S O U Q D;obtain⟨n,E,u,t⟩:=y;dsimp only at a S O U;have L:=H.alloc (.cells #[n,E,u,t] 45);have G:=F.alloc F.size (.cells #[n,E,u,t] 45)
   rcases q:(n.toList==p.toList)with _|_
   ·have HN:=aL (D.out (NG q))
    go_wp2;go_roundw
    case rel=>exact⟨k+1,by omega,by go_num,HN,L,G⟩
    case measure=>simp[intOf];omega
   have x:=aL (Q.out (NH q)).symm;obtain⟨M,K,N,I,rf,W⟩:=H.four;have hlw:w.heap.size<wr:=H.lt;go_wp2_with fail;refine aD (v:= .tuple #[(En.mk n E u t).agg,true]) ?_ rfl ⟨some ⟨n,E,u,t⟩,rfl,x.out,?_⟩
   ·simp[results,results43,go_sem,En.agg,En.cells,M,K,N,I,dx,W]
   first
   |exact((((G.setCell (by simp) _).setCell (by simp) _).setCell (by simp) _).setCell (by simp) _)
   |(
     have V:=(((F.setCell (p:=w.heap.size) aR (.string n)).setCell (p:=⟨w.heap.size,1,none⟩) aR (.int .i64 E)).setCell (p:=⟨w.heap.size,2,none⟩) aR (.string u)).setCell (p:=⟨w.heap.size,3,none⟩) aR (.bool t);exact V.alloc V.size _)
  obtain rfl:k=l.length:=by omega
  have x:Hid (none=Tr.get l p):=aL ((Tr.get_none Y.out).2 (λy g=>m.out y (by rw[gN];exact g))).symm
  obtain⟨M,K,N,I,rf,W⟩:=H.four;go_wp2_with fail;refine aD (v:= .tuple #[En.zero.agg,false]) ?_ rfl ⟨none,rfl,x.out,?_⟩
  ·simp[results,results43,go_sem,En.zero,En.agg,En.cells,M,K,N,I]
  exact((((F.setCell (by simp) _).setCell (by simp) _).setCell (by simp) _).setCell (by simp) _)
theorem uK(x:En)(layer:Bool)(w:World)(hs:x.p.size<4294967281)(ht:x.t.size<4294967281):Calls prog 72 #[.agg #[x.p,x.k,x.t,x.o],layer] w λe w'=>e= .returned (.int .i64 (Tr.entry x layer))/\Below w w w':=by
 have c:=aL (entry_eq x layer);have r:=λW=>iD x.p W hs
 obtain⟨q,h,l,n⟩:=x;have H:(En.mk q h l n).P=q.data.toList:=rfl;rw[H]at c;dsimp only at c hs ht r ⊢;generalize Pt.clean q.data.toList=y at c r;generalize Tr.entry ⟨q,h,l,n⟩ layer=K at c;clear H;have b:Below w w (w.alloc (.cells #[q,h,l,n] 45)):=(aa _ _).alloc aR _;have i:=ai.new w 45 [q,h,l,n];have I:w.alloc (.cells #[q,h,l,n] 45)=w.alloc (.cells #[q,h,l,n] 45):=rfl;go_enter func72,ntmps72;go_upto_region 1 with fail
 clear I;generalize w.alloc (.cells #[q,h,l,n] 45)=L at*;have z:=i.four
 cases layer
 ·by_cases u:h<1
  ·have v:decide (h<1)=true:=fw u
   go_wp2;go_ret;exact⟨aK (by rw[c.out];simp[v]),b⟩
  by_cases D:4<h
  ·have v:decide (h<1)=false:=bN u
   have G:decide (4<h)=true:=fw D;have B:decide (3<h)=true:=fw (by omega)
   go_wp2;go_ret;exact⟨aK (by rw[c.out];simp[v,B]),b⟩
  have E:h=1\/h=2\/h=3\/h=4:=by omega
  clear u D
  rcases E with rfl|rfl|rfl|rfl
  focus
   go_wp2_with fail;refine(r _).mono ?_
   rintro e A ⟨rfl,a⟩;replace b:=b.trans (a.mono b.size);have g:=i.below a i.lt;clear a z i;have z:=g.four
   cases y
   ·go_wp2
    go_ret;exact⟨aK (by rw[c.out];simp),b⟩
   rcases j:decide ((100:Int)<l.size)with _|_
   rotate_left
   ·go_wp2
    go_ret;exact⟨aK (by rw[c.out];simp[j]),b⟩
  rotate_left
  focus
   go_wp2_with fail;refine(r _).mono ?_
   rintro e A ⟨rfl,a⟩;replace b:=b.trans (a.mono b.size);have g:=i.below a i.lt;clear a z i;have z:=g.four
   cases y
   ·go_wp2
    go_ret;exact⟨aK (by rw[c.out];simp),b⟩
   rcases j:decide ((100:Int)<l.size)with _|_
   rotate_left
   ·go_wp2
    go_ret;exact⟨aK (by rw[c.out];simp[j]),b⟩
  rotate_left
  focus
   go_wp2_with fail;refine(r _).mono ?_
   rintro e A ⟨rfl,a⟩;replace b:=b.trans (a.mono b.size);have g:=i.below a i.lt;clear a z i;have z:=g.four
   cases y
   ·go_wp2
    go_ret;exact⟨aK (by rw[c.out];simp),b⟩
   rcases j:decide ((100:Int)<l.size)with _|_
   rotate_left
   ·go_wp2
    go_ret;exact⟨aK (by rw[c.out];simp[j]),b⟩
  rotate_left
  focus
   go_wp2;go_ret;exact⟨aK (by rw[c.out];simp),b⟩
  all_goals
   rcases aG l with⟨_,F,m⟩|⟨_,F,m⟩
   ·cases n
    ·go_wp2
     go_ret;exact⟨aK (by rw[c.out];simp[j,m]),b⟩
    go_wp2;go_ret;exact⟨aK (by rw[c.out];simp[j,m]),b⟩
   cases n
   ·go_wp2
    go_ret;exact⟨aK (by rw[c.out];simp[j,m]),b⟩
   go_wp2;go_ret;exact⟨aK (by rw[c.out];simp[j,m]),b⟩
 by_cases u:h<1
 ·have v:decide (h<1)=true:=fw u
  go_wp2;go_ret;exact⟨aK (by rw[c.out];simp[v]),b⟩
 by_cases D:4<h
 ·have v:decide (h<1)=false:=bN u
  have G:decide (4<h)=true:=fw D;have B:decide (3<h)=true:=fw (by omega)
  go_wp2;go_ret;exact⟨aK (by rw[c.out];simp[v,G]),b⟩
 have E:h=1\/h=2\/h=3\/h=4:=by omega
 clear u D
 rcases E with rfl|rfl|rfl|rfl
 focus
  go_wp2_with fail;refine(r _).mono ?_
  rintro e A ⟨rfl,a⟩;replace b:=b.trans (a.mono b.size);have g:=i.below a i.lt;clear a z i;have z:=g.four
  cases y
  ·go_wp2
   go_ret;exact⟨aK (by rw[c.out];simp),b⟩
  rcases j:decide ((100:Int)<l.size)with _|_
  rotate_left
  ·go_wp2
   go_ret;exact⟨aK (by rw[c.out];simp[j]),b⟩
 rotate_left
 focus
  go_wp2_with fail;refine(r _).mono ?_
  rintro e A ⟨rfl,a⟩;replace b:=b.trans (a.mono b.size);have g:=i.below a i.lt;clear a z i;have z:=g.four
  cases y
  ·go_wp2
   go_ret;exact⟨aK (by rw[c.out];simp),b⟩
  rcases j:decide ((100:Int)<l.size)with _|_
  rotate_left
  ·go_wp2
   go_ret;exact⟨aK (by rw[c.out];simp[j]),b⟩
 rotate_left
 focus
  go_wp2_with fail;refine(r _).mono ?_
  rintro e A ⟨rfl,a⟩;replace b:=b.trans (a.mono b.size);have g:=i.below a i.lt;clear a z i;have z:=g.four
  cases y
  ·go_wp2
   go_ret;exact⟨aK (by rw[c.out];simp),b⟩
  rcases j:decide ((100:Int)<l.size)with _|_
  rotate_left
  ·go_wp2
   go_ret;exact⟨aK (by rw[c.out];simp[j]),b⟩
 rotate_left
 focus
  go_wp2_with fail;refine(r _).mono ?_
  rintro e A ⟨rfl,a⟩;replace b:=b.trans (a.mono b.size);have g:=i.below a i.lt;clear a z i;have z:=g.four
  cases y
  ·go_wp2
   go_ret;exact⟨aK (by rw[c.out];simp),b⟩
  rcases j:decide ((100:Int)<l.size)with _|_
  rotate_left
  ·go_wp2
   go_ret;exact⟨aK (by rw[c.out];simp[j]),b⟩
 all_goals
  rcases aG l with⟨_,F,m⟩|⟨_,F,m⟩
  ·cases n
   ·go_wp2
    go_ret;exact⟨aK (by rw[c.out];simp[j,m]),b⟩
   go_wp2;go_ret;exact⟨aK (by rw[c.out];simp[j,m]),b⟩
  cases n
  ·go_wp2
   go_ret;exact⟨aK (by rw[c.out];simp[j,m]),b⟩
  go_wp2;go_ret;exact⟨aK (by rw[c.out];simp[j,m]),b⟩
theorem Dx{x:En}:∀{l:List En},(∀y∈l,Pt.cmp y.P x.P<0)->Tr.ins x l=l++[x]
 |[],_=>rfl
 |y::r,h=>by
  rw[Tr.ins,aM (h y (by simp)),Dx (λz hz=>h z (by simp[hz]))];rfl
theorem IC{x z:En}:∀{l:List En},Tr.Srt (l++[z])->(∃y∈l,¬Pt.cmp y.P x.P<0)->Tr.ins x (l++[z])=Tr.ins x l++[z]/\z.P≠x.P
 |[],_,h=>by obtain⟨y,hy,_⟩:=h;cases hy
 |a::r,hs,h=>by
  have g:Pt.cmp a.P z.P<0:=Tr.eG hs z (by simp)
  by_cases c:Pt.cmp a.P x.P<0
  ·have b:∃y∈r,¬Pt.cmp y.P x.P<0:=by
    obtain⟨y,hy,i⟩:=h
    rcases List.mem_cons.1 hy with rfl|hy
    ·exact absurd c i
    ·exact⟨y,hy,i⟩
   obtain⟨j,k⟩:=IC (Tr.gI hs) b;refine⟨?_,k⟩
   rw[tL,Tr.ins,aM c,j,Tr.ins,aM c];rfl
  ·rw[tL,Tr.ins,av c,Tr.ins,av c]
   by_cases b:a.P=x.P
   ·rw[aM b,aM b]
    exact⟨rfl,λe=>by rw[e,<-b,Pt.dB]at g;omega⟩
   ·rw[av b,av b]
    refine⟨rfl,λe=> ?_⟩
    rw[e]at g;exact c g
theorem Dy{x z:En}:∀{l:List En},(∀y∈l,Pt.cmp y.P x.P<0)->¬Pt.cmp z.P x.P<0->Tr.ins x (l++[z])=if z.P=x.P then l++[x]else l++[x]++[z]
 |[],_,h=>by
  rw[vv,Tr.ins,av h]
  split<;>rfl
 |a::r,h,hz=>by
  rw[tL,Tr.ins,aM (h a (by simp)),Dy (λy hy=>h y (by simp[hy])) hz]
  split<;>rfl
theorem KT(x:En):∀l:List En,(Tr.ins x l).length<=l.length+1
 |[]=>by simp[Tr.ins]
 |y::r=>by
  unfold Tr.ins;have:=KT x r
  split
  ·simp only[gL];omega
  ·split<;>simp
def qB(t:List En)(x:En)(k:Nat)(d:Bool)(out:List En):Prop:=
 (d=false/\(∀y∈t.take k,Pt.cmp y.P x.P<0)/\out=t.take k)\/(d=true/\(∃y∈t.take k,¬Pt.cmp y.P x.P<0)/\out=Tr.ins x (t.take k))
theorem qB.le{t:List En}{x:En}{k:Nat}{d:Bool}{out:List En}(h:qB t x k d out):out.length<=k+1:=by
 rcases h with⟨_,_,rfl⟩|⟨_,_,rfl⟩
 ·rw[bR];omega
 have:=KT x (t.take k);rw[bR]at this;omega
theorem mM(A:Option Addr)(c:Nat)(t:List En)(x:En)(w:World)(ht:aC w w A t)(hs:Sm t)(hsrt:Tr.Srt t)(hx:x.p.size<4294967281)(hn:t.length<=4000000):Calls prog 87 #[.slice A t.length c,.agg #[x.p,x.k,x.t,x.o]] w λe w'=>∃v,e= .returned v/\ag w' w v (Tr.ins x t)/\Below w w w':=by
 obtain⟨i0,hi,Q,hz1,W⟩:=lw jD;have HS:=aL hs;have HT:=aL hsrt;clear hs hsrt;obtain⟨a,u,r,n⟩:=x;dsimp only at hx ⊢;have hB0:Below w w (w.alloc (.cells #[a,u,r,n] 45)):=(aa _ _).alloc aR _;have hx0:=ai.new w 45 [a,u,r,n];go_enter func87,ntmps87;go_upto_block 0 with fail
 have hz1':(w.alloc (.cells #[a,u,r,n] 45)).heap.size=w.heap.size+1:=bX _ _;generalize w.alloc (.cells #[a,u,r,n] 45)=w0 at*
 go_cut [5,6] (λv d wx=>∃db g,d= .bool db/\ag wx (w.heap.size+1) v g/\Hid (qB t ⟨a,u,r,n⟩ t.length db g)/\ai wx w 45 [a,u,r,n]/\Below w w wx)
 case first=>
  go_wp2
  go_loopw [5,6,11] (λv d i wr=>∃(k:Nat) (db:Bool) (g:List En),k<=t.length/\i= .int .i64 k/\d= .bool db/\ag wr (w.heap.size+1) v g/\Hid (qB t ⟨a,u,r,n⟩ k db g)/\ai wr w 45 [a,u,r,n]/\Below w w wr) (λ_ _ i _=>t.length- (intOf i).toNat)
  case atStart=>exact⟨0,false,[],bL _,rfl,rfl,ag.nil _ _,aL (.inl ⟨rfl,λy hy=>by simp at hy,rfl⟩),hx0,hB0⟩
  case round=>
   clear hx0 hB0;obtain⟨k,db,g,hk,rfl,rfl,B,HO,M,hB⟩:=hrel
   by_cases hlt:k<t.length
   ·obtain⟨b,o,hA,hb,h0,h1,V,h3⟩:=(aC.at_ (ht.below hB) hlt)
    subst hA;have hle:=HO.out.le;have hsz:=(HS.out.at_ hlt).1
    have Fb:Hid (Tr.Srt (t.take k++[t[k]])):=aL (by rw[<-List.take_succ_eq_append_getElem hlt];exact HT.out.sublist (List.take_sublist _ _))
    have I:=aL (aF hlt);generalize t[k]=z at h0 h1 V h3 Fb I hsz;obtain⟨l,F,G,E⟩:=z;dsimp only at h0 h1 V h3 hsz;have rM:=ai.new wr 45 [l,F,G,E];have K:=M.alloc (.cells #[l,F,G,E] 45);have dh:=hB.alloc hB.size (.cells #[l,F,G,E] 45);have xg:=aH B (.cells #[l,F,G,E] 45);have hnx:some w.heap.size≠u5.ownBlock:=own_ne B (.inl (uR _));have hny:some wr.heap.size≠u5.ownBlock:=own_ne B (.inr aR);have hsz1:w.heap.size+1<=wr.heap.size:=M.lt
    cases db
    ·have HF:Hid ((∀y∈t.take k,Pt.cmp y.P (En.P ⟨a,u,r,n⟩)<0)/\g=t.take k):=aL (by
      rcases HO.out with⟨_,h1,V⟩|⟨h,_⟩
      ·exact⟨h1,V⟩
      cases h)
     have Z:=K.four;go_wp2_with fail;clear h0 h1 V h3 B hB M Z;generalize wr.alloc (.cells #[l,F,G,E] 45)=w5 at*;generalize wr.heap.size=gy at*;refine(FX l a w5 hsz hx).mono ?_
     rintro e w6 ⟨rfl,hb6⟩;have S:=dh.trans (hb6.mono dh.size);have uk:=rM.below hb6 rM.lt;have hx6:=K.below hb6 K.lt;have U:=own_below xg hb6 aR;have KL:w.heap.size+1<=w6.heap.size:=hx6.lt;clear hb6 dh rM K xg;have Z:=hx6.four;have Y:=uk.four
     by_cases D:Pt.cmp l a.data.toList<0
     ·have tl:decide (Pt.cmp l a.data.toList<0)=true:=fw D
      have hne:¬l.toList=a.toList:=λe=>by
       rw[kg,kg]at e;rw[e,Pt.dB]at D;omega
      have hneb:(l.toList==a.toList)=false:=by rw[fq];exact hne
      have HN:Hid (qB t ⟨a,u,r,n⟩ (k+1) false (g++[⟨l,F,G,E⟩])):=aL (.inl ⟨rfl,λy hy=>by
       rw[I.out]at hy
       rcases List.mem_append.1 hy with h|h
       ·exact HF.out.1 y h
       rw[List.mem_singleton.1 h];exact D,by rw[I.out,HF.out.2]⟩)
      have hlt3:=aL D;clear D
      go_wp2_with (at_builtin;go_must (refine ax w6 rfl _ _ _ rfl (w.heap.size+1) 45 i0 _ 4 48 underlying30 hi Q hz1 W rfl (by decide) u5 _ _ rfl U [l,F,G,E] rfl rfl (by simp[Value.oneCell']) (by omega) (by decide) KL _ rfl ?_);intro v9 w9 H O aaY)
      go_roundw
      case rel=>exact⟨k+1,false,_,by omega,by go_num,rfl,ag.snoc (y:=⟨l,F,G,E⟩) H rfl,HN,hx6.grown O hnx,S.grown O S.size (λq e'=>by have:=(gH U q e').1;omega)⟩
      case measure=>simp[intOf];omega
     have tl:decide (Pt.cmp l a.data.toList<0)=false:=bN D;have HI:=aL (Dy (x:=⟨a,u,r,n⟩) (z:=⟨l,F,G,E⟩) HF.out.1 D);have HEx:Hid (∃y∈t.take (k+1),¬Pt.cmp y.P (En.P ⟨a,u,r,n⟩)<0):=aL ⟨⟨l,F,G,E⟩,by rw[I.out];simp,D⟩
     clear D
     rcases N:(l.toList==a.toList)with _|_
     ·have hne:¬l.toList=a.toList:=by rw[fq]at N;exact N
      have HN:Hid (qB t ⟨a,u,r,n⟩ (k+1) true (g++[⟨a,u,r,n⟩]++[⟨l,F,G,E⟩])):=aL (.inr ⟨rfl,HEx.out,by
       rw[I.out,HI.out,av,HF.out.2];exact NG (y:=⟨l,F,G,E⟩) N⟩)
      go_wp2_with (first
       |(
         at_builtin;refine ax w6 rfl _ _ _ rfl (w.heap.size+1) 45 i0 _ 4 48 underlying30 hi Q hz1 W rfl (by decide) u5 _ _ rfl U [a,u,r,n] rfl rfl (by simp[Value.oneCell']) (by omega) (by decide) KL _ rfl ?_
         intro v7 w7 Yy L acy;have pG:ag w7 (w.heap.size+1) v7 (g++[⟨a,u,r,n⟩]):=ag.snoc (y:=⟨a,u,r,n⟩) Yy rfl;have hx7:=hx6.grown L hnx;have QJ:=uk.grown L hny;have jV:=S.grown L S.size (λq e'=>by have:=(gH U q e').1;omega)
         have acz:w.heap.size+1<=w7.heap.size:=hx7.lt;have acA:some w.heap.size≠v7.ownBlock:=own_ne pG (.inl (uR _));have m:=QJ.four;have j:=hx7.four;have adk:(g++[En.mk a u r n]).length<=4000010:=by rw[bq];simp;omega)
       |(
         at_builtin;refine ax w7 rfl _ _ _ rfl (w.heap.size+1) 45 i0 _ 4 48 underlying30 hi Q hz1 W rfl (by decide) v7 _ _ rfl pG [l,F,G,E] rfl rfl (by simp[Value.oneCell']) (by omega) (by decide) acz _ rfl ?_
         intro v8 w8 acB Ep XP))
      go_roundw
      case rel=>exact⟨k+1,true,_,by omega,by go_num,rfl,ag.snoc (y:=⟨l,F,G,E⟩) acB rfl,HN,hx7.grown Ep acA,jV.grown Ep jV.size (λq e'=>by have:=(gH pG q e').1;omega)⟩
      case measure=>simp[intOf];omega
     have heq:l.toList=a.toList:=by rw[p9]at N;exact N
     have HN:Hid (qB t ⟨a,u,r,n⟩ (k+1) true (g++[⟨a,u,r,n⟩])):=aL (.inr ⟨rfl,HEx.out,by
      rw[I.out,HI.out,aM,HF.out.2];exact NH (y:=⟨l,F,G,E⟩) N⟩)
     obtain rfl:l=a:=ik (by rw[kg,kg]at heq;exact heq)
     clear heq N
     go_wp2_with (
            at_builtin;go_must (refine ax w6 rfl _ _ _ rfl (w.heap.size+1) 45 i0 _ 4 48 underlying30 hi Q hz1 W rfl (by decide) u5 _ _ rfl U [l,u,r,n] rfl rfl (by simp[Value.oneCell']) (by omega) (by decide) KL _ rfl ?_)
            intro v7 w7 Yy L acy;have pG:ag w7 (w.heap.size+1) v7 (g++[⟨l,u,r,n⟩]):=ag.snoc (y:=⟨l,u,r,n⟩) Yy rfl;have hx7:=hx6.grown L hnx;have QJ:=uk.grown L hny;have jV:=S.grown L S.size (λq e'=>by have:=(gH U q e').1;omega)
            have m:=QJ.four;have j:=hx7.four)
     go_roundw
     case rel=>exact⟨k+1,true,_,by omega,by go_num,rfl,pG,HN,hx7,jV⟩
     case measure=>simp[intOf];omega
    have HD:=aL (show Tr.ins ⟨a,u,r,n⟩ (t.take k++[⟨l,F,G,E⟩])=g++[⟨l,F,G,E⟩]/\En.P ⟨l,F,G,E⟩≠En.P ⟨a,u,r,n⟩/\∃y∈t.take k,¬Pt.cmp y.P (En.P ⟨a,u,r,n⟩)<0 from by
     rcases HO.out with⟨h,_⟩|⟨_,h1,V⟩
     ·cases h
     have:=IC Fb.out h1;exact⟨by rw[V];exact this.1,this.2,h1⟩)
    have hne:¬l.toList=a.toList:=λe=>by
     rw[kg,kg]at e;exact HD.out.2.1 e
    have hneb:(l.toList==a.toList)=false:=by rw[fq];exact hne
    have HN:Hid (qB t ⟨a,u,r,n⟩ (k+1) true (g++[⟨l,F,G,E⟩])):=aL (.inr ⟨rfl,by
     obtain⟨y,hy,h⟩:=HD.out.2.2;exact⟨y,by rw[I.out];exact wh _ hy,h⟩,by rw[I.out,HD.out.1]⟩)
    have Z:=K.four;have Y:=rM.four;have hsz5:w.heap.size+1<=(wr.alloc (.cells #[l,F,G,E] 45)).heap.size:=K.lt
    go_wp2_with (at_builtin;go_must (refine ax (wr.alloc (.cells #[l,F,G,E] 45)) rfl _ _ _ rfl (w.heap.size+1) 45 i0 _ 4 48 underlying30 hi Q hz1 W rfl (by decide) u5 _ _ rfl xg [l,F,G,E] (by rw[bX];rfl) rfl (by simp[Value.oneCell']) (by omega) (by decide) hsz5 _ rfl ?_);intro v9 w9 H O aaY)
    go_roundw
    case rel=>exact⟨k+1,true,_,by omega,by go_num,rfl,ag.snoc (y:=⟨l,F,G,E⟩) H rfl,HN,K.grown O hnx,dh.grown O dh.size (λq e'=>by have:=(gH xg q e').1;omega)⟩
    case measure=>simp[intOf];omega
   obtain rfl:k=t.length:=by omega
   go_wp2;go_meet
   case rel=>exact⟨db,g,rfl,B,HO,M,hB⟩
 case rest=>
  clear hx0 hB0;obtain⟨db,g,rfl,B,HO,M,hB⟩:=hcut;have hle:=HO.out.le;have Z:=M.four;have hsz1:w.heap.size+1<=wc.heap.size:=M.lt
  cases db
  ·have HF:Hid (Tr.ins ⟨a,u,r,n⟩ t=g++[⟨a,u,r,n⟩]):=aL (by
    rcases HO.out with⟨_,h1,V⟩|⟨h,_⟩
    ·rw[gN]at h1 V
     rw[Dx h1,V]
    cases h)
   go_wp2_with (at_builtin;go_must (refine ax wc rfl _ _ _ rfl (w.heap.size+1) 45 i0 _ 4 48 underlying30 hi Q hz1 W rfl (by decide) u5 _ _ rfl B [a,u,r,n] rfl rfl (by simp[Value.oneCell']) (by omega) (by decide) hsz1 _ rfl ?_);intro v9 w9 H O aaY)
   go_ret;exact⟨_,rfl,by rw[HF.out];exact own_base (ag.snoc (y:=⟨a,u,r,n⟩) H rfl) (iN _),hB.grown O hB.size (λq e'=>by have:=(gH B q e').1;omega)⟩
  have HF:Hid (Tr.ins ⟨a,u,r,n⟩ t=g):=aL (by
   rcases HO.out with⟨h,_⟩|⟨_,_,V⟩
   ·cases h
   rw[gN]at V;exact V.symm)
  go_wp2;go_ret;exact⟨_,rfl,by rw[HF.out];exact own_base B (iN _),hB⟩
theorem fP(A:Option Addr)(c:Nat)(l:List En)(layer:Bool)(w:World)(hl:aC w w A l)(hc:l.length<=c)(hs:Sm l)(hn:l.length<=2305843009213693952):Calls prog 38 #[.slice A l.length c,layer] w λe w'=>e= .returned (.agg #[.int .i64 (Tr.wrong l layer).1,.int .i64 (Tr.wrong l layer).2])/\Below w w w':=by
 have HS:=aL hs;clear hs;have hB0:Below w w (w.alloc (.cells #[(0:Int),(0:Int)] 51)):=(aa _ _).alloc aR _;have hq0:=ai.new w 51 [(0:Int),(0:Int)];go_enter func38,ntmps38
 by_cases h80:80<l.length
 ·have HW:Hid (Tr.wrong l layer=(5,0)):=aL (by unfold Tr.wrong;rw[aM h80])
  go_wp2_with fail;refine aD (v:= .agg #[(5:Int),(0:Int)]) ?_ rfl ⟨b_ HW.out rfl,?_⟩
  ·simp[results,results38,go_sem]
  first|exact(aa _ _).alloc aR _|exact(hB0.setCell (by simp) _).setCell (by simp) _
 have HW:Hid (Tr.wrong l layer=Tr.ak layer (l.take 0) (l.drop 0)):=aL (by unfold Tr.wrong;rw[av h80];rfl)
 go_wp2_with fail;generalize w.alloc (.cells #[(0:Int),(0:Int)] 51)=w0 at*
 go_loopw [18] (λi wr=>∃k:Nat,k<=l.length/\i= .int .i64 k/\Hid (Tr.wrong l layer=Tr.ak layer (l.take k) (l.drop k))/\Hid (Tr.Right layer (l.take k))/\ai wr w 51 [(0:Int),(0:Int)]/\Below w w wr) (λi _=>l.length- (intOf i).toNat)
 case atStart=>exact⟨0,bL _,rfl,HW,aL (Tr.lM _),hq0,hB0⟩
 case round=>
  clear hq0 hB0 HW;obtain⟨k,hk,rfl,HW,HR,hq,hB⟩:=hrel
  by_cases Z:k<l.length
  ·obtain⟨b,o,rfl,hb,h0,h1,h2,h3⟩:=(aC.at_ (hl.below hB) Z)
   have HB:=aL (λ(e:Int) (h:Tr.bI (l.take k) l[k] layer=e) (he:e≠0)=>HW.out.trans (Tr.aX Z rfl h he))
   have HG:=aL (λ(h:Tr.bI (l.take k) l[k] layer=0)=>(⟨HW.out.trans (Tr.bZ Z rfl h),by rw[aF Z];exact Tr.gJ.2 ⟨HR.out,h⟩⟩:Tr.wrong l layer=Tr.ak layer (l.take (k+1)) (l.drop (k+1))/\Tr.Right layer (l.take (k+1))))
   have U:=HS.out.at_ Z
   clear HW;generalize l[k]=y at h0 h1 h2 h3 HB HG U;have cE:=λW=>uK y layer W U.1 U.2
   obtain⟨en,L⟩:∃en,en=Tr.entry y layer:=⟨_,rfl⟩;rw[<-L]at cE;have HE:=aL L.symm;clear L;obtain⟨q,yk,yt,yo⟩:=y;dsimp only at h0 h1 h2 h3 U cE;have hy0:=ai.new wr 45 [q,yk,yt,yo];have a:=hB.alloc hB.size (.cells #[q,yk,yt,yo] 45);have hq1:=hq.alloc (.cells #[q,yk,yt,yo] 45);have hgy:w.heap.size≠wr.heap.size:=by have:=hq.lt;omega
   obtain⟨t,u,O,F⟩:=hq.two;go_wp2_with fail;clear t u O F h0 h1 h2 h3 hq hB hb;generalize wr.alloc (.cells #[q,yk,yt,yo] 45)=w0 at*;generalize wr.heap.size=gy at*;refine(cE w0).mono ?_
   rintro e w1 ⟨rfl,hb1⟩;have j:=hq1.below hb1 hq1.lt;have N:=hy0.below hb1 hy0.lt;replace a:=a.trans (hb1.mono a.size);clear cE hb1 hq1 hy0
   rcases te:(en !=0)with _|_
   rotate_left
   ·have L:en≠0:=by simpa using te
    have Jl:=aL (HB.out en (wX HE.out L) L);clear L;obtain⟨t,u,O,F⟩:=j.two;go_wp2_with fail;refine aD (v:= .agg #[.int .i64 en,k]) ?_ rfl ⟨b_ Jl.out rfl,?_⟩
    ·simp[results,results38,go_sem,t,u]
    exact(a.setCell (by simp) _).setCell (by simp) _
   have H:Hid (Tr.entry ⟨q,yk,yt,yo⟩ layer=0):=aL (by rw[HE.out];simpa using te)
   obtain⟨t,u,O,F⟩:=j.two
   rcases k with _|m
   ·have I:Hid ((l.take 0).getLast?.any (λz=> !Tr.ahead z ⟨q,yk,yt,yo⟩)=false):=aL rfl
    go_wp2_with fail
    go_quiet (fail)
    have hB2:=below_drewN a nq;have E:=j.drewN nq;have hy2:=N.drewN nq;clear a j N t u O F;generalize w1.drewN nq=w2 at*;obtain⟨t,u,O,F⟩:=E.two;obtain⟨y0,y1,y2,y3,yfr,yz⟩:=hy2.four;go_wp2_with fail;refine(dw q w2 (by omega)).mono ?_
    rintro e w3 ⟨rfl,hD⟩;have g:=hB2.trans (hD.below (B:=w.heap.size));have G:=E.below (hD.below (B:=w2.heap.size)) E.lt;have hl3:=hl.below g;clear t u O F y0 y1 y2 y3 yfr yz hy2;obtain⟨S,K⟩:∃S:ByteArray,S=⟨(Pt.ah q).toArray⟩:=⟨_,rfl⟩;have hsl:S.data.toList=Pt.ah q.data.toList:=by rw[K]
    have hst:Pt.str (Pt.ah q)= .string S:=by rw[K];rfl
    obtain⟨sn,hsn⟩:∃sn,Pt.str (Pt.nameOf q)= .string sn:=⟨_,rfl⟩;rw[hst,hsn];have cG:=a_ (some ⟨b,o,none⟩) c (l.take (0)) S w3 ((aC.take hl3 _).more g.size) (by rw[bR];omega)
    rw[show(l.take (0)).length=0 by rw[bR];omega,hsl]at cG
    clear K hsl hst hsn hl3 hD;go_wp2_with fail;refine cG.mono ?_
    rintro e w4 ⟨r,rfl,hr,M⟩;clear cG;have x:=g.trans (M.mono g.size);have Y:=G.below M G.lt;have Q:=aL (qW hr);clear hr M g G;generalize r.getD En.zero=d at Q;generalize r.isSome=ok at Q;obtain⟨dp,dk,dt,V⟩:=d;simp only[En.agg,En.cells];dsimp only at Q;obtain⟨t,u,O,F⟩:=Y.two
    rcases ok with _|_
    ·go_wp2_with fail
     refine aD (v:= .agg #[(10:Int),(0:Int)]) ?_ rfl ⟨b_ (HB.out 10 (jf H.out I.out (Q.out.trans rfl)) (by decide)) rfl,?_⟩
     ·simp[results,results38,go_sem,t,u,dx,F]
     have hZ:=(x.setCell (p:=w.heap.size) aR (.int .i64 10)).setCell (p:=⟨w.heap.size,1,none⟩) aR (.int .i64 0);exact hZ.alloc hZ.size _
    rcases tk:(dk !=2)with _|_
    ·have HN:=aL (HG.out (oL H.out I.out (Q.out.trans (by rw[tk];rfl))))
     have dh:=x.alloc x.size (.cells #[dp,dk,dt,V] 45);have hq5:=Y.alloc (.cells #[dp,dk,dt,V] 45);go_wp2;go_roundw
     case rel=>exact⟨0+1,by omega,by go_num,aL HN.out.1,aL HN.out.2,hq5,dh⟩
     case measure=>simp[intOf];omega
    go_wp2_with fail;refine aD (v:= .agg #[(10:Int),(0:Int)]) ?_ rfl ⟨b_ (HB.out 10 (jf H.out I.out (Q.out.trans (by rw[tk];rfl))) (by decide)) rfl,?_⟩
    ·simp[results,results38,go_sem,t,u,dx,F]
    have hZ:=(x.setCell (p:=w.heap.size) aR (.int .i64 10)).setCell (p:=⟨w.heap.size,1,none⟩) aR (.int .i64 0);exact hZ.alloc hZ.size _
   have hml:m<l.length:=by omega
   obtain⟨b',o',Ud,hbb,z0,_,_,_⟩:=(aC.at_ (hl.below a) hml)
   injection Ud with Ud
   injection Ud with Xf Xg
   subst Xf Xg;obtain⟨n,hn⟩:∃n,n=Pt.cmp l[m].P q.data.toList:=⟨_,rfl⟩;have HO:=aL (iQ (y:=⟨q,yk,yt,yo⟩) hml rfl hn.symm);have QF:=(HS.out.at_ hml).1
   have cC:=λW=>FX l[m].p q W QF U.1
   rw[show Pt.cmp l[m].p.data.toList q.data.toList=n from hn.symm]at cC
   clear hn;generalize l[m].p=zp at z0 cC QF;have hbw:b<w1:=bE hbb a.size;have tm:decide ((0:Int)<((m+1:Nat):Int))=true:=fw (by omega)
   have hwm:IntKind.i64.wrap ((m:Nat):Int)=(m:Int):=lm _ (by omega)
   have hi1:(m:Int)+1<(l.length:Int):=by omega
   have hi0:(0:Int)<=(m:Int)+1:=by omega
   have hi2:((m:Int)+1).toNat=m+1:=by omega
   have hi3:(m:Int)<(l.length:Int):=by omega
   obtain⟨y0,y1,y2,y3,yfr,yz⟩:=N.four;go_upto_region 9 with fail
   go_cut [44] (λv wx=>v= .bool (decide (0<=n))/\Below w1 w1 wx)
   case first=>
    go_region_held3 (λW=>W.cell? ⟨b,o+m*4,none⟩=some (.string zp)/\W.cell? gy=some (.string q))
     (first|go_keep|exact⟨z0,y0⟩|exact⟨(D.cell (p:=⟨b,o+m*4,none⟩) hbw).trans z0,(D.cell (p:=gy) yz).trans y0⟩)
     (first
      |(go_at_call 73;refine(cC _).mono ?_;rintro e w2 ⟨rfl,hb2'⟩;have D:Below w1 w1 w2:=(Below.drew (aa w1 w1)).trans (hb2'.mono aR)))
    all_goals go_wp2_with fail
    all_goals go_meet
    all_goals exact⟨om Value.bool (by rw[vR];simp),D⟩
   case rest=>
    obtain⟨rfl,D⟩:=hcut;have hB2:=a.trans (D.mono a.size);have E:=j.below D j.lt;have hy2:=N.below D N.lt;clear a j N t u O F z0 y0 y1 y2 y3 yfr yz cC tm hwm hi1 hi0 hi2 hi3 D hbw hbb;generalize hwc:wc=w2 at*;clear hwc
    rcases tn:decide (0<=n)with _|_
    rotate_left
    ·obtain⟨t,u,O,F⟩:=E.two
     have Jl:=aL (HB.out 2 (gV H.out (by rw[HO.out,tn])) (by decide))
     go_wp2_with fail;refine aD (v:= .agg #[(2:Int),.int .i64 (m+1)]) ?_ rfl ⟨b_ Jl.out rfl,?_⟩
     ·simp[results,results38,go_sem,t,u]
     exact(hB2.setCell (by simp) _).setCell (by simp) _
    have I:=aL (HO.out.trans tn);clear HO;obtain⟨t,u,O,F⟩:=E.two;obtain⟨y0,y1,y2,y3,yfr,yz⟩:=hy2.four;go_wp2_with fail;refine(dw q w2 (by omega)).mono ?_
    rintro e w3 ⟨rfl,hD⟩;have g:=hB2.trans (hD.below (B:=w.heap.size));have G:=E.below (hD.below (B:=w2.heap.size)) E.lt;have hl3:=hl.below g;clear t u O F y0 y1 y2 y3 yfr yz hy2;obtain⟨S,K⟩:∃S:ByteArray,S=⟨(Pt.ah q).toArray⟩:=⟨_,rfl⟩;have hsl:S.data.toList=Pt.ah q.data.toList:=by rw[K]
    have hst:Pt.str (Pt.ah q)= .string S:=by rw[K];rfl
    obtain⟨sn,hsn⟩:∃sn,Pt.str (Pt.nameOf q)= .string sn:=⟨_,rfl⟩;rw[hst,hsn];have cG:=a_ (some ⟨b,o,none⟩) c (l.take ((m+1))) S w3 ((aC.take hl3 _).more g.size) (by rw[bR];omega)
    rw[show(l.take ((m+1))).length=(m+1)by rw[bR];omega,hsl]at cG
    clear K hsl hst hsn hl3 hD;go_wp2_with fail;refine cG.mono ?_
    rintro e w4 ⟨r,rfl,hr,M⟩;clear cG;have x:=g.trans (M.mono g.size);have Y:=G.below M G.lt;have Q:=aL (qW hr);clear hr M g G;generalize r.getD En.zero=d at Q;generalize r.isSome=ok at Q;obtain⟨dp,dk,dt,V⟩:=d;simp only[En.agg,En.cells];dsimp only at Q;obtain⟨t,u,O,F⟩:=Y.two
    rcases ok with _|_
    ·go_wp2_with fail
     refine aD (v:= .agg #[(10:Int),.int .i64 (m+1)]) ?_ rfl ⟨b_ (HB.out 10 (jf H.out I.out (Q.out.trans rfl)) (by decide)) rfl,?_⟩
     ·simp[results,results38,go_sem,t,u,dx,F]
     have hZ:=(x.setCell (p:=w.heap.size) aR (.int .i64 10)).setCell (p:=⟨w.heap.size,1,none⟩) aR (.int .i64 (m+1));exact hZ.alloc hZ.size _
    rcases tk:(dk !=2)with _|_
    ·have HN:=aL (HG.out (oL H.out I.out (Q.out.trans (by rw[tk];rfl))))
     have dh:=x.alloc x.size (.cells #[dp,dk,dt,V] 45);have hq5:=Y.alloc (.cells #[dp,dk,dt,V] 45);go_wp2;go_roundw
     case rel=>exact⟨(m+1)+1,by omega,by go_num,aL HN.out.1,aL HN.out.2,hq5,dh⟩
     case measure=>simp[intOf];omega
    go_wp2_with fail;refine aD (v:= .agg #[(10:Int),.int .i64 (m+1)]) ?_ rfl ⟨b_ (HB.out 10 (jf H.out I.out (Q.out.trans (by rw[tk];rfl))) (by decide)) rfl,?_⟩
    ·simp[results,results38,go_sem,t,u,dx,F]
    have hZ:=(x.setCell (p:=w.heap.size) aR (.int .i64 10)).setCell (p:=⟨w.heap.size,1,none⟩) aR (.int .i64 (m+1));exact hZ.alloc hZ.size _
  obtain rfl:k=l.length:=by omega
  have HZ:Hid (Tr.wrong l layer=(0,0)):=aL (by rw[HW.out,oF];rfl)
  obtain⟨t,u,O,F⟩:=hq.two;go_wp2_with fail;refine aD (v:= .agg #[(0:Int),(0:Int)]) ?_ rfl ⟨b_ HZ.out rfl,?_⟩
  ·simp[results,results38,go_sem,t,u]
  exact(hB.setCell (by simp) _).setCell (by simp) _
theorem uM(A:Option Addr)(c:Nat)(l:List En)(p:ByteArray)(w:World)(hl:aC w w A l)(hp:p.size<4294967281)(hn:l.length<=2305843009213693952):Calls prog 93 #[.slice A l.length c,p] w λe w'=>e= .returned (.bool (Tr.hides l p))/\Below w w w':=by
 go_enter func93,ntmps93;go_wp2_with fail;refine(a_ A c l p w hl hn).mono ?_
 rintro e V ⟨r,rfl,I,F⟩;have g:=F;have m:=aL (yP I);clear I F;generalize r.getD En.zero=d at m;generalize r.isSome=ok at m;obtain⟨G,D,H,t⟩:=d;simp only[En.agg,En.cells];dsimp only at m
 cases ok
 ·go_wp2_with fail
  refine(dw p _ (by omega)).mono ?_
  rintro e N ⟨rfl,n⟩;have k:=(g.alloc g.size (.cells #[G,D,H,t] 45)).trans (n.below (B:=w.heap.size));clear n;obtain⟨b,h⟩:∃b:ByteArray,b=⟨(Pt.ah p).toArray⟩:=⟨_,rfl⟩;have a:b.data.toList=Pt.ah p.data.toList:=by rw[h]
  have j:Pt.str (Pt.ah p)= .string b:=by rw[h];rfl
  obtain⟨o,i⟩:∃o,Pt.str (Pt.nameOf p)= .string o:=⟨_,rfl⟩;rw[j,i];have u:b.size<=p.size:=by have:=(ny p).1;rw[<-a,af]at this;exact this
  have x:Hid (Tr.hides l p.data.toList=Tr.bP l b):=aL (by rw[m.out,Gb,rz,a])
  clear h a j i;go_wp2
  go_loopw [7] (λv wr=>∃q:ByteArray,v= .string q/\q.size<4294967281/\Hid (Tr.hides l p.data.toList=Tr.bP l q)/\Below w w wr) (λv _=>strLen v)
  case atStart=>exact⟨b,rfl,by omega,x,k⟩
  case round=>
   clear k x u;obtain⟨q,rfl,U,L,y⟩:=hrel
   rcases aG q with⟨z,S,Q⟩|⟨z,S,Q⟩
   ·have O:Hid (Tr.hides l p.data.toList=false):=aL (by rw[L.out,z];exact Tr.oG l)
    clear z;go_wp2;go_ret;exact⟨aU O.out.symm,y⟩
   have M:=aL z;clear z;go_wp2_with fail;refine(a_ A c l q wr (((hl).below y).more y.size) hn).mono ?_
   rintro e V ⟨r,rfl,I,F⟩;have g:=y.trans (F.mono y.size);have m:=aL (L.out.trans (pX M.out I));clear I F y L;generalize r.getD En.zero=d at m;generalize r.isSome=ok at m;obtain⟨G,D,H,t⟩:=d;simp only[En.agg,En.cells];dsimp only at m
   cases ok
   ·go_wp2_with fail
    refine(dw q _ (by omega)).mono ?_
    rintro e N ⟨rfl,n⟩;have k:=(g.alloc g.size (.cells #[G,D,H,t] 45)).trans (n.below (B:=w.heap.size));clear n;obtain⟨b,h⟩:∃b:ByteArray,b=⟨(Pt.ah q).toArray⟩:=⟨_,rfl⟩;have a:b.data.toList=Pt.ah q.data.toList:=by rw[h]
    have j:Pt.str (Pt.ah q)= .string b:=by rw[h];rfl
    obtain⟨o,i⟩:∃o,Pt.str (Pt.nameOf q)= .string o:=⟨_,rfl⟩;rw[j,i];have u:b.size<=q.size:=by have:=(ny q).1;rw[<-a,af]at this;exact this
    have K:b.size<q.size:=by have:=Tr.aI M.out;rw[<-a,af,af]at this;exact this
    have x:Hid (Tr.hides l p.data.toList=Tr.bP l b):=aL (by rw[m.out,Gb,rz,a])
    clear h a j i;go_wp2;go_roundw
    case rel=>exact⟨b,rfl,by omega,x,k⟩
    case measure=>simp[strLen];omega
   rcases E:(D !=2)with _|_
   ·cases t
    ·go_wp2_with fail
     refine(dw q _ (by omega)).mono ?_
     rintro e N ⟨rfl,n⟩;have k:=(g.alloc g.size (.cells #[G,D,H,false] 45)).trans (n.below (B:=w.heap.size));clear n;obtain⟨b,h⟩:∃b:ByteArray,b=⟨(Pt.ah q).toArray⟩:=⟨_,rfl⟩;have a:b.data.toList=Pt.ah q.data.toList:=by rw[h]
     have j:Pt.str (Pt.ah q)= .string b:=by rw[h];rfl
     obtain⟨o,i⟩:∃o,Pt.str (Pt.nameOf q)= .string o:=⟨_,rfl⟩;rw[j,i];have u:b.size<=q.size:=by have:=(ny q).1;rw[<-a,af]at this;exact this
     have K:b.size<q.size:=by have:=Tr.aI M.out;rw[<-a,af,af]at this;exact this
     have x:Hid (Tr.hides l p.data.toList=Tr.bP l b):=aL (by rw[m.out,E,Bool.or_false,Cv,rz,a])
     clear h a j i;go_wp2;go_roundw
     case rel=>exact⟨b,rfl,by omega,x,k⟩
     case measure=>simp[strLen];omega
    go_wp2;go_ret;exact⟨aU (by rw[m.out,E,rz,Cr,vo]),g.alloc g.size _⟩
   go_wp2;go_ret;exact⟨aU (by rw[m.out,E,vo,Cr,vo]),g.alloc g.size _⟩
 rcases E:(D !=2)with _|_
 ·go_wp2_with fail
  refine(dw p _ (by omega)).mono ?_
  rintro e N ⟨rfl,n⟩;have k:=(g.alloc g.size (.cells #[G,D,H,t] 45)).trans (n.below (B:=w.heap.size));clear n;obtain⟨b,h⟩:∃b:ByteArray,b=⟨(Pt.ah p).toArray⟩:=⟨_,rfl⟩;have a:b.data.toList=Pt.ah p.data.toList:=by rw[h]
  have j:Pt.str (Pt.ah p)= .string b:=by rw[h];rfl
  obtain⟨o,i⟩:∃o,Pt.str (Pt.nameOf p)= .string o:=⟨_,rfl⟩;rw[j,i];have u:b.size<=p.size:=by have:=(ny p).1;rw[<-a,af]at this;exact this
  have x:Hid (Tr.hides l p.data.toList=Tr.bP l b):=aL (by rw[m.out,E,Cv,rz,a])
  clear h a j i;go_wp2
  go_loopw [7] (λv wr=>∃q:ByteArray,v= .string q/\q.size<4294967281/\Hid (Tr.hides l p.data.toList=Tr.bP l q)/\Below w w wr) (λv _=>strLen v)
  case atStart=>exact⟨b,rfl,by omega,x,k⟩
  case round=>
   clear k x u;obtain⟨q,rfl,U,L,y⟩:=hrel
   rcases aG q with⟨z,S,Q⟩|⟨z,S,Q⟩
   ·have O:Hid (Tr.hides l p.data.toList=false):=aL (by rw[L.out,z];exact Tr.oG l)
    clear z;go_wp2;go_ret;exact⟨aU O.out.symm,y⟩
   have M:=aL z;clear z;go_wp2_with fail;refine(a_ A c l q wr (((hl).below y).more y.size) hn).mono ?_
   rintro e V ⟨r,rfl,I,F⟩;have g:=y.trans (F.mono y.size);have m:=aL (L.out.trans (pX M.out I));clear I F y L;generalize r.getD En.zero=d at m;generalize r.isSome=ok at m;obtain⟨G,D,H,t⟩:=d;simp only[En.agg,En.cells];dsimp only at m
   cases ok
   ·go_wp2_with fail
    refine(dw q _ (by omega)).mono ?_
    rintro e N ⟨rfl,n⟩;have k:=(g.alloc g.size (.cells #[G,D,H,t] 45)).trans (n.below (B:=w.heap.size));clear n;obtain⟨b,h⟩:∃b:ByteArray,b=⟨(Pt.ah q).toArray⟩:=⟨_,rfl⟩;have a:b.data.toList=Pt.ah q.data.toList:=by rw[h]
    have j:Pt.str (Pt.ah q)= .string b:=by rw[h];rfl
    obtain⟨o,i⟩:∃o,Pt.str (Pt.nameOf q)= .string o:=⟨_,rfl⟩;rw[j,i];have u:b.size<=q.size:=by have:=(ny q).1;rw[<-a,af]at this;exact this
    have K:b.size<q.size:=by have:=Tr.aI M.out;rw[<-a,af,af]at this;exact this
    have x:Hid (Tr.hides l p.data.toList=Tr.bP l b):=aL (by rw[m.out,Gb,rz,a])
    clear h a j i;go_wp2;go_roundw
    case rel=>exact⟨b,rfl,by omega,x,k⟩
    case measure=>simp[strLen];omega
   rcases E:(D !=2)with _|_
   ·cases t
    ·go_wp2_with fail
     refine(dw q _ (by omega)).mono ?_
     rintro e N ⟨rfl,n⟩;have k:=(g.alloc g.size (.cells #[G,D,H,false] 45)).trans (n.below (B:=w.heap.size));clear n;obtain⟨b,h⟩:∃b:ByteArray,b=⟨(Pt.ah q).toArray⟩:=⟨_,rfl⟩;have a:b.data.toList=Pt.ah q.data.toList:=by rw[h]
     have j:Pt.str (Pt.ah q)= .string b:=by rw[h];rfl
     obtain⟨o,i⟩:∃o,Pt.str (Pt.nameOf q)= .string o:=⟨_,rfl⟩;rw[j,i];have u:b.size<=q.size:=by have:=(ny q).1;rw[<-a,af]at this;exact this
     have K:b.size<q.size:=by have:=Tr.aI M.out;rw[<-a,af,af]at this;exact this
     have x:Hid (Tr.hides l p.data.toList=Tr.bP l b):=aL (by rw[m.out,E,Bool.or_false,Cv,rz,a])
     clear h a j i;go_wp2;go_roundw
     case rel=>exact⟨b,rfl,by omega,x,k⟩
     case measure=>simp[strLen];omega
    go_wp2;go_ret;exact⟨aU (by rw[m.out,E,rz,Cr,vo]),g.alloc g.size _⟩
   go_wp2;go_ret;exact⟨aU (by rw[m.out,E,vo,Cr,vo]),g.alloc g.size _⟩
 go_wp2;go_ret;exact⟨aU (by rw[m.out,E,Cr,vo]),g.alloc g.size _⟩
theorem PK{l t:List En}{k:Nat}(hk:k<t.length)(h:Tr.hides l t[k].P=false):Tr.keepR l (t.take (k+1))=Tr.keepR l (t.take k)++[t[k]]:=by
 rw[aF hk];unfold Tr.keepR;rw[j3];simp[h]
theorem S_{l t:List En}{k:Nat}(hk:k<t.length)(h:Tr.hides l t[k].P=true):Tr.keepR l (t.take (k+1))=Tr.keepR l (t.take k):=by
 rw[aF hk];unfold Tr.keepR;rw[j3];simp[h]
theorem je(xs a:List En)(x:En):Tr.aV (xs++[x]) a=Tr.ins x (Tr.aV xs a):=by unfold Tr.aV;rw[EA];rfl
theorem iy:∀(xs a:List En),(Tr.aV xs a).length<=a.length+xs.length
 |[],a=>aR
 |x::xs,a=>by
  have h1:=iy xs (Tr.ins x a);have b:=KT x a
  show(Tr.aV xs (Tr.ins x a)).length<=_
  rw[gL];omega
theorem IE(A B:Option Addr)(c d:Nat)(l t:List En)(w:World)(hl:aC w w A l)(ht:aC w w B t)(hc:l.length<=c)(hd:t.length<=d)(hs:Sm l)(hst:Sm t)(hn:l.length<=2305843009213693952)(hnt:t.length<=2305843009213693952):Calls prog 70 #[.slice A l.length c,.slice B t.length d] w (qX l t w):=by
 obtain⟨i0,hi,hz0,hz1,hz2⟩:=lw jD;have c1:=λW h=>fP A c l true W h hc hs hn
 have c2:=λW h=>fP B d t false W h hd hst hnt
 obtain⟨pl,hpl⟩:∃pr,pr=Tr.wrong l true:=⟨_,rfl⟩;obtain⟨pt,hpt⟩:∃pr,pr=Tr.wrong t false:=⟨_,rfl⟩;rw[<-hpl]at c1;rw[<-hpt]at c2;have HL:=aL hpl.symm;have HT:=aL hpt.symm;have HS:=aL hs;have Fb:=aL hst;obtain⟨x,x'⟩:=pl;obtain⟨y,y'⟩:=pt;clear hpl hpt hs hst;dsimp only at c1 c2;have n:=aa w w;unfold qX;go_enter func70,ntmps70;go_wp2_with fail;refine(c1 w hl).mono ?_
 rintro e w1 ⟨rfl,Y⟩;have hB1:=n.trans (Y.mono n.size);clear Y n c1;have F:=hB1.alloc hB1.size (.cells #[x,x'] 51);have hq2:=ai.new w1 51 [x,x']
 rcases tx:(x !=0)with _|_
 rotate_left
 ·have Q:Hid (Tr.over l t=([],x)):=aL (by unfold Tr.over;rw[HL.out,aM (by simpa using tx)])
  go_wp2_with fail;generalize w1.alloc (.cells #[x,x'] 51)=w2 at*;generalize w1.heap.size=g1 at*;have j:=hq2.two
  go_quiet (fail)
  go_wp2;go_ret2;exact⟨_,jE Q.out,by rw[Q.out];exact ag.nil _ _,below_drewN F _⟩
 have O:Hid ((Tr.wrong l true).1=0):=aL (by rw[HL.out];simpa using tx)
 go_wp2_with fail;generalize w1.alloc (.cells #[x,x'] 51)=w2 at*;clear hq2 hB1;refine(c2 w2 (((ht).below F).more F.size)).mono ?_
 rintro e w3 ⟨rfl,Y⟩;have hB3:=F.trans (Y.mono F.size);clear Y F c2;have hB4:=hB3.alloc hB3.size (.cells #[y,y'] 51);have hq4:=ai.new w3 51 [y,y']
 rcases ty:(y !=0)with _|_
 rotate_left
 ·have Q:Hid (Tr.over l t=([],y)):=aL (by unfold Tr.over;rw[av (by simp[O.out]),HT.out,aM (by simpa using ty)])
  go_wp2_with fail;generalize w3.alloc (.cells #[y,y'] 51)=w4 at*;generalize w3.heap.size=g3 at*;have j:=hq4.two
  go_quiet (fail)
  go_wp2;go_ret2;exact⟨_,jE Q.out,by rw[Q.out];exact ag.nil _ _,below_drewN hB4 _⟩
 have HT0:Hid ((Tr.wrong t false).1=0):=aL (by rw[HT.out];simpa using ty)
 have xA:=((Tr.az l true).1 O.out).1;have abP:=((Tr.az t false).1 HT0.out).1;have RL:=aL ((Tr.az l true).1 O.out).2;have RT:=aL ((Tr.az t false).1 HT0.out).2;go_wp2_with fail;generalize w3.alloc (.cells #[y,y'] 51)=w4 at*;clear hq4 hB3
 go_loopw [8,29] (λv i wr=>∃k:Nat,k<=t.length/\i= .int .i64 k/\ag wr w v (Tr.keepR l (t.take k))/\Below w w wr) (λ_ i _=>t.length- (intOf i).toNat)
 case atStart=>exact⟨0,bL _,rfl,ag.nil _ _,hB4⟩
 case round=>
  obtain⟨k,hk,rfl,a,n⟩:=hrel;clear hB4
  by_cases g:k<t.length
  ·obtain⟨b,o,rfl,Y,h0,G,h2,h3⟩:=(aC.at_ (ht.below n) g)
   have KY:=aL (PK (l:=l) g);have KN:=aL (S_ (l:=l) g);have hle:(Tr.keepR l (t.take k)).length<=k:=by
    have G:=ko (λe=> !Tr.hides l e.P) (t.take k)
    rw[bR]at G;exact eT G (by omega)
   have hsz:=(Fb.out.at_ g).1
   generalize t[k]=z at h0 G h2 h3 KY KN hsz;obtain⟨r,u,E,M⟩:=z;dsimp only at h0 G h2 h3 hsz;go_wp2_with fail;have rM:=ai.new wr 45 [r,u,E,M];have D:=n.alloc n.size (.cells #[r,u,E,M] 45);have N:=aH a (.cells #[r,u,E,M] 45);clear h0 G h2 h3 Y n a;generalize wr.alloc (.cells #[r,u,E,M] 45)=w6 at*;generalize wr.heap.size=gy at*;refine(uM A c l r w6 (((hl).below D).more D.size) hsz hn).mono ?_
   rintro e w7 ⟨rfl,U⟩;have S:=D.trans (U.mono D.size);have QJ:=rM.below U rM.lt;have pG:=own_below N U aR;clear U D rM N;have m:=QJ.four
   rcases th:Tr.hides l r with _|_
   rotate_left
   ·have HN:=aL (KN.out th)
    go_wp2;go_roundw
    case rel=>exact⟨k+1,by omega,by go_num,by rw[HN.out];exact pG,S⟩
    case measure=>simp[intOf];omega
   have HN:=aL (KY.out th)
   go_wp2_with (at_builtin;go_must (refine ax w7 rfl _ _ _ rfl w 45 i0 _ 4 48 underlying30 hi hz0 hz1 hz2 rfl (by decide) u8 _ _ rfl pG [r,u,E,M] rfl rfl (by simp[Value.oneCell']) (by omega) (by decide) S.size _ rfl ?_);intro v9 w9 H sZ _)
   go_roundw
   case rel=>exact⟨k+1,by omega,by go_num,ag.snoc (y:=⟨r,u,E,M⟩) H HN.out,S.grown sZ S.size (λq e'=>(gH pG q e').1)⟩
   case measure=>simp[intOf];omega
  obtain rfl:k=t.length:=by omega
  rw[gN]at a;have hle0:(Tr.keepR l t).length<=t.length:=ko _ _;go_wp2
  go_loopw [8,45] (λv i wr=>∃k:Nat,k<=l.length/\i= .int .i64 k/\ag wr w v (Tr.aV (Tr.shown (l.take k)) (Tr.keepR l t))/\Below w w wr) (λ_ i _=>l.length- (intOf i).toNat)
  case atStart=>exact⟨0,bL _,rfl,a,n⟩
  case round=>
   clear a n;obtain⟨k,hk,rfl,a,n⟩:=hrel
   by_cases g:k<l.length
   ·obtain⟨b,o,rfl,Y,h0,G,h2,h3⟩:=(aC.at_ (hl.below n) g)
    have KY:=aL (CE g);have KN:=aL (F6 g);have hle:(Tr.aV (Tr.shown (l.take k)) (Tr.keepR l t)).length<=200:=by
     have G:=ko (λe:En=>e.k !=4) (l.take k)
     rw[bR]at G;have h2:(Tr.shown (l.take k)).length<=k:=by unfold Tr.shown;rw[ib];exact eT G (by omega)
     have h3:=iy (Tr.shown (l.take k)) (Tr.keepR l t);omega
    have L:=HS.out.at_ g
    obtain⟨K,p⟩:∃K,K=Tr.aV (Tr.shown (l.take k)) (Tr.keepR l t):=⟨_,rfl⟩;have aa0:Hid (Tr.Srt K):=aL (by rw[p];exact Tr.fD (Tr.aY RT.out.2.1 _))
    have acC:Hid (Sm K):=aL (by
     intro e he;rw[p,Tr.r_ (Tr.uU (RL.out.2.1.sublist (List.take_sublist _ _))) (show Tr.Srt (Tr.keepR l t)from Tr.aY RT.out.2.1 _)]at he
     rcases he with h|⟨h,_⟩
     ·obtain⟨x,hx,_,rfl⟩:=Tr.eH.1 h
      exact HS.out x (xV hx)
     exact Fb.out e (List.mem_filter.1 h).1)
    rw[<-p]at a hle;have V:=aL p;clear p;generalize l[k]=z at h0 G h2 h3 KY KN L;obtain⟨r,u,E,M⟩:=z;dsimp only at h0 G h2 h3 KY KN L;have D:=n.alloc n.size (.cells #[r,u,E,M] 45);have Z:=n.alloc n.size (.cells #[r,u,E,false] 45);have N:=aH a (.cells #[r,u,E,M] 45);have UB:=aH a (.cells #[r,u,E,false] 45)
    rcases tk:(u !=4)with _|_
    ·have HN:=aL (KN.out tk)
     go_wp2;go_roundw
     case rel=>exact⟨k+1,by omega,by go_num,by rw[HN.out,<-V.out];exact N,D⟩
     case measure=>simp[intOf];omega
    have HN:=aL (KY.out tk);obtain⟨Aa,ca,hua,hca,rda⟩:=ag.rd UB;subst hua;have hsz5:w.heap.size<=(wr.alloc (.cells #[r,u,E,false] 45)).heap.size:=Z.size;have cW:=mM Aa ca K ⟨r,u,E,false⟩ (wr.alloc (.cells #[r,u,E,false] 45)) rda acC.out aa0.out L.1 (by omega)
    go_wp2_with fail;refine cW.mono ?_
    rintro e w9 ⟨v9,rfl,H,Uj⟩;have jv:=Z.trans (Uj.mono hsz5);go_wp2;go_roundw
    case rel=>exact⟨k+1,by omega,by go_num,by rw[HN.out,je,<-V.out];exact own_base H hsz5,jv⟩
    case measure=>simp[intOf];omega
   obtain rfl:k=l.length:=by omega
   rw[gN]at a;have Q:Hid (Tr.over l t=if 80<(Tr.aJ l t).length then([],5)else(Tr.aJ l t,0)):=aL (by unfold Tr.over;rw[av (by simp[O.out]),av (by simp[HT0.out])])
   have a:ag wr w u8 (Tr.aJ l t):=a;generalize Tr.aJ l t=res at Q a;obtain⟨Aa,ca,rfl,hca,rda⟩:=ag.rd a
   by_cases h80:80<res.length
   ·have I:=aL (Q.out.trans (aM h80))
    go_wp2;go_ret2;exact⟨_,jE I.out,by rw[I.out];exact ag.nil _ _,n⟩
   have I:=aL (Q.out.trans (av h80));go_wp2;go_ret2;exact⟨_,jE I.out,by rw[I.out];exact a,n⟩
theorem lI(A:Option Addr)(c:Nat)(ls:List (List En))(w:World)(hl:jc w w A ls)(hs:ZX ls):Calls prog 35 #[.slice A ls.length c] w (gW ls w):=by
 have HS:=aL hs;clear hs;unfold gW
 by_cases W:5<ls.length
 ·have z:Hid (Tr.merge ls=([],5)):=aL (by unfold Tr.merge;rw[aM W])
  go_enter func35,ntmps35;go_wp2;go_ret2;exact⟨_,lS z.out,by rw[z.out];exact ag.nil _ _,aa _ _⟩
 have z:Hid (Tr.merge ls=Tr.aS ls):=aL (by unfold Tr.merge;rw[av W])
 go_enter func35,ntmps35;go_wp2
 go_loopw [4,13] (λv i wr=>∃k:Nat,k<=ls.length/\i= .int .i64 ((ls.length-k:Nat):Int)/\Hid ((Tr.aS (ls.drop k)).2=0)/\ag wr w v (Tr.aS (ls.drop k)).1/\Below w w wr) (λ_ i _=>ls.length- (intOf i).toNat)
 case atStart=>exact⟨ls.length,aR,by rw[Bb];rfl,aL (by rw[oF];rfl),by rw[oF];exact ag.nil _ _,aa _ _⟩
 case round=>
  obtain⟨k,hk,rfl,L,a,u⟩:=hrel
  cases k with
  |zero=>
   have G:Hid (Tr.merge ls=((Tr.aS ls).1,0)):=aL (by rw[z.out];have:=L.out;rw[xL]at this;rw[<-this])
   rw[xL]at a;rw[Nat.sub_zero];go_wp2;go_ret2;exact⟨_,lS G.out,by rw[G.out];exact a,u⟩
  |succ m=>
   have r:m<ls.length:=by omega
   obtain⟨j,Z⟩:∃j,j=ls.length- (m+1):=⟨_,rfl⟩;rw[<-Z];have HJ:Hid (m+1+j=ls.length):=aL (by omega)
   have hjl:j<ls.length:=by omega
   have B:IntKind.i64.wrap ((ls.length:Int)-1)=(ls.length:Int)-1:=lm _ (by omega)
   have t:IntKind.i64.wrap ((ls.length:Int)-1- (j:Int))=(m:Int):=by rw[lm _ (by omega)];omega
   clear Z;obtain⟨b,o,Am,cm,rfl,hb,U,I,K⟩:=(hl.below u).at_ r
   have l:=aL (yR r L.out);have N:=aL (Tr.tJ L.out);have q:=aL (HS.out _ (cz r));have HE:=aL (λe=>vH (ls:=ls) (m:=m) (e:=e))
   have D:Hid ((Tr.over ls[m] (Tr.aS (ls.drop (m+1))).1).2=0->(Tr.aS (ls.drop m)).2=0):=aL (λh=>by rw[l.out];exact h)
   generalize ls[m]=x at U I K l q D;obtain⟨g,p⟩:∃g,g=(Tr.aS (ls.drop (m+1))).1:=⟨_,rfl⟩;rw[<-p]at a l N D;clear p;obtain⟨A2,c2,rfl,Q,S⟩:=ag.rd a;have E:=IE Am A2 cm c2 x g wr (Rd.more K u.size) S I Q q.out.1 (Tr.bn N.out.2) q.out.2 (by have:=N.out.1;omega)
   unfold qX at E;have V:Hid (Tr.aS (ls.drop m)=Tr.over x g):=l;clear l;generalize hov:Tr.over x g=ov at E V D;have HOV:=aL hov;clear hov;obtain⟨res,n⟩:=ov;dsimp only at E D;go_wp2_with fail;refine E.mono ?_
   rintro e w1 ⟨v1,rfl,O,H⟩;have y:=u.trans (H.mono u.size);have F:=own_base O u.size;clear H E
   rcases Y:(n !=0)with _|_
   ·have M:Hid (n=0):=aL (by simpa using Y)
    clear B t;go_wp2;go_roundw
    case rel=>exact⟨m,by omega,by have:=HJ.out;rw[show ls.length-m=j+1 by omega];go_num,aL (D.out M.out),by rw[V.out];exact F,y⟩
    case measure=>simp[intOf];omega
   ·have G:Hid (Tr.merge ls=([],n)):=aL (by rw[z.out];exact HE.out n (by rw[V.out]) (by simpa using Y))
    go_wp2;go_ret2;exact⟨_,lS G.out,by rw[G.out];exact ag.nil _ _,y⟩
theorem zV(A A':Option Addr)(c c':Nat)(u:Un)(w:World)(hu:bT w w A A' c c' u)(hs:iR u):Calls prog 36 #[.agg #[.slice A u.U.length c,.slice A' u.L.length c']] w λe w'=>∃v,e= .returned v/\nS w' w v u.all/\Below w w w':=by
 obtain⟨l,ls⟩:=u;obtain⟨i,H,F,I⟩:=hu;have O:=hs.2.1;dsimp only at i H F I O;have a:=(aa w w).alloc aR (.cells #[.slice A l.length c,.slice A' ls.length c'] 33);have j:=ai.new w 33 [.slice A l.length c,.slice A' ls.length c'];have i:=Rd.below i a;have F:=F.below a;go_enter func36,ntmps36;go_upto_region 1 with fail
 generalize w.alloc (.cells #[.slice A l.length c,.slice A' ls.length c'] 33)=m at*;obtain⟨ws,B,n⟩:=F;have b:nS (m.alloc (.cells #[.slice A l.length c] 30)) w (.slice m 1 1) [l]:=MV a.size i H;have y:Rd (m.alloc (.cells #[.slice A l.length c] 30)) w 1 A' ls.length ws:=Rd.alloc B a.size _;have x:∀k (h:k<ls.length),∃D E,ws[k]? =some (.slice D ls[k].length E)/\ls[k].length<=E/\aC (m.alloc (.cells #[.slice A l.length c] 30)) w D ls[k]:=λk K=>by
  obtain⟨D,E,M,Q,S⟩:=n k K;exact⟨D,E,M,Q,Rd.alloc S a.size _⟩
 have g:Below w w (m.alloc (.cells #[.slice A l.length c] 30)):=a.alloc a.size _;have t:=g.size;have o:=j.alloc (.cells #[.slice A l.length c] 30);have z:=j.two;have p:=o.two;clear j o B n i
 go_wp2_with (at_builtin;go_must (refine Eb (w:=m.alloc (.cells #[.slice A l.length c] 30)) (v:= .slice m 1 1) (base:=w.heap.size) (ls:=[l]) (ms:=ls) (A:=A') (c:=c') (ws:=ws) _ rfl _ _ rfl rfl b ls.length rfl rfl y x I (by simp only[gL,sw];omega) t rfl ?_);intro Y V r G)
 go_ret;exact⟨_,rfl,r,g.grown G g.size (λq N=>by obtain⟨W,i,_⟩:=b;exact(i.lt q N).1)⟩
theorem rW(A A':Option Addr)(c c':Nat)(u:Un)(w:World)(hu:bT w w A A' c c' u)(hs:iR u):Calls prog 16 #[.agg #[.slice A u.U.length c,.slice A' u.L.length c']] w λe w'=>e= .returned (.agg #[.int .i64 (Tr.wrongU u).1,.int .i64 (Tr.wrongU u).2])/\Below w w w':=by
 have HS:=aL hs;have hn:=hs.2.1;clear hs;obtain⟨p,hp⟩:∃p,p=Tr.wrongU u:=⟨_,rfl⟩;have HP:=aL hp.symm;rw[<-hp];clear hp;obtain⟨l,ls⟩:=u;dsimp only at hn ⊢;have HU:=aL hu;clear hu;have hB0:=((aa w w).alloc aR (.cells #[.slice A l.length c,.slice A' ls.length c'] 33));have D:=hB0.alloc hB0.size (.cells #[(0:Int),(0:Int)] 51);have I:=(ai.new w 33 [.slice A l.length c,.slice A' ls.length c']).alloc (.cells #[(0:Int),(0:Int)] 51);have K:=ai.new (w.alloc (.cells #[.slice A l.length c,.slice A' ls.length c'] 33)) 51 [(0:Int),(0:Int)];have hlt:w.heap.size<w.heap.size+1:=uR _;clear hB0;go_enter func16,ntmps16;go_upto_region 1 with fail
 simp only[bX]at K;generalize (w.alloc (.cells #[.slice A l.length c,.slice A' ls.length c'] 33)).alloc (.cells #[(0:Int),(0:Int)] 51)=w1 at*;generalize w.heap.size+1=gf at*
 by_cases t4:4<ls.length
 ·have HO:Hid (p=(5,0)):=aL (by rw[<-HP.out];unfold Tr.wrongU;rw[aM t4])
  have y:=I.two;have j:=K.two;go_wp2_with fail;refine aD (v:= .agg #[(5:Int),(0:Int)]) ?_ rfl ⟨gY HO.out,?_⟩
  ·simp[results,results16,go_sem,j]
  exact(D.setCell (by simp;omega) _).setCell (by simp;omega) _
 have Z:Hid (p=if(Tr.fZ (l::ls) 0).1≠0 then Tr.fZ (l::ls) 0 else((Tr.aS (l::ls)).2,0)):=aL (by rw[<-HP.out];unfold Tr.wrongU;rw[av t4];rfl)
 have Xt:Hid (Tr.merge (l::ls)=Tr.aS (l::ls)):=aL (by unfold Tr.merge;rw[av (by rw[gL];omega)])
 clear HP;have S:=λW (hb:Below w w W)=>zV A A' c c' ⟨l,ls⟩ W ((HU.out.below hb).more hb.size) HS.out
 have y:=I.two;go_wp2_with fail;clear y;refine(S w1 D).mono ?_
 rintro e w2 ⟨v2,rfl,ho2,H⟩;obtain⟨A2,c2,rfl,hc2,hr2⟩:=ho2.rd H.size;have N:=D.trans (H.mono D.size);have hq2:=I.below H I.lt;have hf2:=K.below H K.lt;clear H D I K ho2;have Z7:Hid ((⟨l,ls⟩:Un).all=l::ls):=aL rfl;rw[Z7.out]at hr2;have hlen:(⟨l,ls⟩:Un).all.length=ls.length+1:=rfl;have hlen2:(l::ls).length=ls.length+1:=rfl;rw[hlen]at*;have lG:Hid (ZX (l::ls)):=aL HS.out.1;go_wp2_with fail;generalize l::ls=r at*
 go_loopw [16] (λi wr=>∃k:Nat,k<=r.length/\i= .int .i64 k/\Hid (∀x∈r.take k,(Tr.wrong x true).1=0)/\ai wr w 33 [.slice A l.length c,.slice A' ls.length c']/\ai wr gf 51 [(0:Int),(0:Int)]/\Below w2 w2 wr) (λi _=>r.length- (intOf i).toNat)
 case atStart=>exact⟨0,bL _,rfl,aL (λx O=>by simp at O),hq2,hf2,aa _ _⟩
 case round=>
  obtain⟨k,hk,rfl,HK,E,n,g⟩:=hrel;have F:=N.trans (g.mono N.size);clear hq2 hf2
  by_cases t:k<r.length
  ·have hki:(k:Int)<(ls.length:Int)+1:=by omega
   obtain⟨b,o,Ak,ck,rfl,hbk,hc1,hcl,hrd⟩:=(hr2.below g).at_ t
   have V:=aL (lG.out _ (cz t));have HE:=aL (λe=>zh (ls:=r) (k:=k) 0 t (e:=e) HK.out)
   have HN:Hid ((Tr.wrong r[k] true).1=0->∀x∈r.take (k+1),(Tr.wrong x true).1=0):=aL (λh x O=>by
    rw[aF t,gF,eD]at O
    rcases O with O|rfl
    ·exact HK.out x O
    exact h)
   generalize r[k]=x at hc1 hcl hrd V HE HN;have cW:=fP Ak ck x true wr (Rd.more hrd g.size) hcl V.out.1 V.out.2;generalize Tr.wrong x true=q at cW HE HN;obtain⟨M,qa⟩:=q;dsimp only at cW HE HN;go_wp2_with fail;refine cW.mono ?_
   rintro e w4 ⟨rfl,a⟩;have Q:=(g.trans (a.mono g.size)).alloc (g.trans (a.mono g.size)).size (.cells #[M,qa] 51);have G:=N.trans (Q.mono N.size);have hq4:=(E.below a E.lt).alloc (.cells #[M,qa] 51);have B:=(n.below a n.lt).alloc (.cells #[M,qa] 51);have hx4:=ai.new w4 51 [M,qa];have hgx:gf<w4:=(n.below a n.lt).lt;clear cW a E n F g
   rcases te:(M !=0)with _|_
   ·have Xu:=aL (HN.out (by simpa using te))
    go_wp2;go_roundw
    case rel=>exact⟨k+1,by omega,by go_num,Xu,hq4,B,Q⟩
    case measure=>simp[intOf];omega
   have Y:M≠0:=by simpa using te
   have HO:Hid (p=(M,(k:Int))):=aL (by
    have h:=HE.out M rfl Y;rw[Z.out,h,aM Y];simp)
   clear Y;go_upto_region 8 with fail
   generalize w4.alloc (.cells #[M,qa] 51)=w5 at*;generalize w4.heap.size=gx at*;have j:=B.two;have z:=hx4.two;go_wp2_with fail;refine aD (v:= .agg #[M,k]) ?_ rfl ⟨gY HO.out,?_⟩
   ·simp[results,results16,go_sem,j]
   exact(G.setCell (by simp;omega) _).setCell (by simp;omega) _
  obtain rfl:k=r.length:=by omega
  have hki:¬((r.length:Nat):Int)<(ls.length:Int)+1:=by omega
  have HZ:Hid (p=((Tr.merge r).2,0)):=aL (by
   rw[Z.out,av,Xt.out];have:=(Tr.lF (ls:=r) 0).2 (λx O=>HK.out x (by rw[gN];exact O))
   simp[this])
  clear Z Xt;have y:=E.two;go_wp2_with fail;clear y;refine(S wr F).mono ?_
  rintro e w4 ⟨v4,rfl,dI,a⟩;obtain⟨A4,c4,rfl,hc4,hr4⟩:=dI.rd a.size;have G:=F.trans (a.mono F.size);have B:=n.below a n.lt;clear a dI F g E n;rw[Z7.out]at hr4;have cM:=lI A4 c4 r w4 hr4 lG.out;unfold gW at cM;generalize Tr.merge r=m at cM HZ;obtain⟨ml,me⟩:=m;dsimp only at cM HZ;rw[hlen2]at cM;go_wp2_with fail;refine cM.mono ?_
  rintro e w5 ⟨v5,rfl,xg,hb5⟩;have dh:=G.trans (hb5.mono G.size);have hf5:=B.below hb5 B.lt;clear cM xg hb5 G B;have j:=hf5.two
  rcases te:(me !=0)with _|_
  ·have he0:me=0:=by simpa using te
   subst he0;go_wp2_with fail;refine aD (v:= .agg #[(0:Int),(0:Int)]) ?_ rfl ⟨gY HZ.out,?_⟩
   ·simp[results,results16,go_sem,j]
   exact(dh.setCell (by simp;omega) _).setCell (by simp;omega) _
  go_wp2_with fail;refine aD (v:= .agg #[me,(0:Int)]) ?_ rfl ⟨gY HZ.out,?_⟩
  ·simp[results,results16,go_sem,j]
  exact(dh.setCell (by simp;omega) _).setCell (by simp;omega) _
theorem lJ(A A':Option Addr)(c c':Nat)(u:Un)(w:World)(hu:bT w w A A' c c' u)(hs:iR u):Calls prog 14 #[.agg #[.slice A u.U.length c,.slice A' u.L.length c']] w (kM u w):=by
 have Q:=aL hs;clear hs;unfold kM;obtain⟨p,O⟩:∃p,p=Tr.seenU u:=⟨_,rfl⟩;have HP:=aL O;rw[<-O];clear O;obtain⟨l,a⟩:=u;dsimp only at*;have HU:=aL hu;clear hu;have B:=λW h=>rW A A' c c' ⟨l,a⟩ W h Q.out
 dsimp only at B;have HT:=aL (λh:Tr.Fine ⟨l,a⟩=>h.1)
 have I:=aL (Tr.fine_iff ⟨l,a⟩).1;have S:=aL (λh:(Tr.wrongU ⟨l,a⟩).1≠0=>(show Tr.seenU ⟨l,a⟩=([],(Tr.wrongU ⟨l,a⟩).1)by unfold Tr.seenU;rw[aM h]))
 generalize hq:Tr.wrongU ⟨l,a⟩=q at B I S;clear hq;obtain⟨k,D⟩:=q;dsimp only at B I S;have b:=((aa w w).alloc aR (.cells #[.slice A l.length c,.slice A' a.length c'] 33));have i:=(ai.new w 33 [.slice A l.length c,.slice A' a.length c']);go_enter func14,ntmps14;go_upto_region 1 with fail
 generalize w.alloc (.cells #[.slice A l.length c,.slice A' a.length c'] 33)=w1 at*;have z:=i.two;go_wp2_with fail;clear z;refine(B w1 ((HU.out.below b).more b.size)).mono ?_
 rintro e F ⟨rfl,j⟩;have g:=(b.trans (j.mono b.size)).alloc (b.trans (j.mono b.size)).size (.cells #[k,D] 51);have Y:=(i.below j i.lt).alloc (.cells #[k,D] 51);have G:=ai.new F 51 [k,D];clear B j b i
 rcases te:(k !=0)with _|_
 rotate_left
 ·have HO:Hid (p=([],k)):=aL (by rw[HP.out];exact S.out (by simpa using te))
  go_upto_region 3 with fail
  generalize F.alloc (.cells #[k,D] 51)=Z at*;generalize F.heap.size=gx at*;have x:=G.two
  go_quiet (fail)
  go_wp2;go_ret2;exact⟨_,Gz HO.out,by rw[HO.out];exact ag.nil _ _,below_drewN g _⟩
 have E:k=0:=by simpa using te
 have y:=aL (I.out E);have HM:Hid (p=Tr.merge (l::a)):=aL (by
  rw[HP.out,Tr.lZ y.out];unfold Tr.merge;rw[av (by have h:=y.out.1;have h:a.length<=4:=h;rw[gL];omega)];rfl)
 clear E;go_upto_region 4 with fail
 generalize F.alloc (.cells #[k,D] 51)=Z at*;have z:=Y.two;go_wp2_with fail;clear z;refine(zV A A' c c' ⟨l,a⟩ Z ((HU.out.below g).more g.size) Q.out).mono ?_
 rintro e w4 ⟨v4,rfl,t,o⟩;obtain⟨A4,c4,rfl,hc4,r⟩:=t.rd o.size;have m:=g.trans (o.mono g.size);clear o t;have H:Hid ((⟨l,a⟩:Un).all=l::a):=aL rfl;rw[H.out]at r;have v:(⟨l,a⟩:Un).all.length=a.length+1:=rfl;have n:(l::a).length=a.length+1:=rfl;have V:=lI A4 c4 (l::a) w4 r Q.out.1;unfold gW at V;rw[<-HM.out,n]at V;rw[v]at*;go_wp2_with fail;refine V.mono ?_
 rintro e w5 ⟨v5,rfl,K,M⟩;have N:=m.trans (M.mono m.size);go_wp2;go_ret2;exact⟨_,rfl,own_base K m.size,N⟩
end Go.Proofs.YtjppfhgkanbemabGreatDoor
