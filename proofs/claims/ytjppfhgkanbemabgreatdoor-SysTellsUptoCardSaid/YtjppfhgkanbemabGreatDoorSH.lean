/- A part of the proof of SysTells: SH. -/
import Derived.Test.YtjppfhgkanbemabGreatDoorSG
set_option maxHeartbeats 8000000
set_option maxRecDepth 100000
set_option linter.all false
namespace Go.Proofs.YtjppfhgkanbemabGreatDoor
open Tryz
open Go.RowKit Go.Shelf Go.Sort
namespace Sy
open Tryz
theorem zS:∀(l:List Ca) {s:St} {n:Nat},In n s->Ok s->In (n+l.length) (calls s l).1
 |[],_,_,h,_=>h
 |c::r,s,n,h,ho=>by
  have h1:=zS r (h.call ho c) (call_good ho c).1;have e:n+(c::r).length=n+1+r.length:=by rw[gL];omega
  rw[e];exact h1
theorem zT{s:St}{l:List Ca}{k:Nat}(hk:k<l.length):calls s (l.take (k+1))=((call (calls s (l.take k)).1 l[k]).1,(calls s (l.take k)).2++[(call (calls s (l.take k)).1 l[k]).2]):=by
 rw[aF hk,CY]
 rfl
end Sy
def dQ(l:List An)(vs:List Value):List Value:=(l.zip vs).flatMap λx=>[.int .i64 x.1.err,.int .i64 x.1.n,.string x.1.text,x.2]
theorem Vo{l:List An}{vs:List Value}(h:vs.length=l.length)(a:An)(v:Value):dQ (l++[a]) (vs++[v])=dQ l vs++[.int .i64 a.err,.int .i64 a.n,.string a.text,v]:=by
 unfold dQ;rw[List.zip_append h.symm,List.flatMap_append]
 rfl
theorem aaG{l:List An}{vs:List Value}(h:vs.length=l.length){k:Nat}(hk:k<l.length):∃v,vs[k]? =some v/\(dQ l vs)[k*4]? =some (.int .i64 l[k].err)/\(dQ l vs)[k*4+1]? =some (.int .i64 l[k].n)/\(dQ l vs)[k*4+2]? =some (.string l[k].text)/\(dQ l vs)[k*4+3]? =some v:=by
 induction l generalizing vs k with
 |nil=>exact absurd hk (l5 _)
 |cons a t ih=>
  cases vs with
  |nil=>simp at h
  |cons v r=>
   have e:dQ (a::t) (v::r)=[.int .i64 a.err,.int .i64 a.n,.string a.text,v]++dQ t r:=rfl;rw[e]
   cases k with
   |zero=>exact⟨v,rfl,rfl,rfl,rfl,rfl⟩
   |succ k=>
    obtain⟨u,g,b,m,c,i⟩:=ih (vs:=r) (by simpa using h) (k:=k) (by simpa using hk)
    have s:∀j,([.int .i64 a.err,.int .i64 a.n,.string a.text,v]++dQ t r)[(k+1)*4+j]? =(dQ t r)[k*4+j]? :=λj=>by
     rw[kr (by simp;omega)]
     congr 1
     simp;omega
    exact⟨u,g,(s 0).trans b,(s 1).trans m,(s 2).trans c,(s 3).trans i⟩
def fV(X:Nat->Prop)(w:World)(base:Nat)(v:Value)(l:List An):Prop:=
 ∃vs:List Value,vs.length=l.length/\w.ownsRow base 43 4 v l.length (dQ l vs)/\∀k (h:k<l.length),∃A c,vs[k]? =some (.slice A l[k].names.length c)/\Off X w λw=>bH w w A l[k].names
theorem fV.nil(X:Nat->Prop)(w:World)(base:Nat):fV X w base (.slice none 0 0) []:=⟨[],rfl,jN _ _ _ _,λk h=>absurd h (l5 k)⟩
theorem fV.snoc{X Y:Nat->Prop}{w w':World}{base n:Nat}{v':Value}{l:List An}{a:An}{A:Option Addr}{c:Nat}{vs:List Value}(h1:vs.length=l.length)(h2:∀k (h:k<l.length),∃A c,vs[k]? =some (.slice A l[k].names.length c)/\Off X w λw=>bH w w A l[k].names)(ha:Off X w λw=>bH w w A a.names)(hf:Fr X w w')(hs:Sub w Y X)(ho:w'.ownsRow base 43 4 v' n (dQ l vs++[.int .i64 a.err,.int .i64 a.n,.string a.text,.slice A a.names.length c]))(hn:n=l.length+1):fV Y w' base v' (l++[a]):=by
 refine⟨vs++[.slice A a.names.length c],by simp[h1],?_,λk b=> ?_⟩
 ·rw[Vo h1,bq]
  subst hn;exact ho
 rw[bq]at b
 by_cases e:k<l.length
 ·obtain⟨j,o,g,m⟩:=h2 k e
  rw[nE e];exact⟨j,o,by rw[l6 (by omega)];exact g,m.on hf hs⟩
 have i:k=l.length:=by simp at b;omega
 subst i;rw[nW aR];simp only[Bb,Fs];exact⟨A,c,by rw[kr (by omega),h1,Bb];rfl,ha.on hf hs⟩
theorem aQ.grow{w w':World}{p:Pl}{s:St}{Y:Nat->Prop}(h:aQ w p s)(hf:Fr Y w w')(hY:∀k,k<w.heap.size->Y k->p.e k)(e':Nat->Prop)(he:∀k,e' k->(k<w.heap.size->p.e k)/\k<w'.heap.size):aQ w' {p with e:=e'} s:=by
 have b:=h.fr hf hY;have D:Fr p.X w w':=hf.wide λk a y=> .inr (hY k a y)
 have z:Sub w (Pl.X {p with e:=e'}) p.X:=λk a q=>q.elim (λq=> .inl q) λq=> .inr ((he k q).1 a)
 refine⟨?_,b.files,b.fl,b.dl,λi E=> ?_,b.de,b.fn,b.dn,λk a q=>h.ce k a ((he k q).1 (h.bz a)),λk a=>(he k a).2⟩
 ·obtain⟨O,H,M,L,I,N,l,_,_,K⟩:=b.box
  obtain⟨t,m,n,j,u,o,g,v,r,x⟩:=h.box;have B:ai w' p.gs 71 _:=g.fr hf λy=>h.ce _ h.jq (hY _ g.lt y)
  exact⟨t,m,n,j,u,o,B,v.on D z,r.on D z,x⟩
 obtain⟨A,c,l,G,F⟩:=h.ob i E;exact⟨A,c,l.fr hf λy=>h.ce _ (h.Fe E) (hY _ l.lt y),G.on D z,F⟩
def Sy.fresh:St:=⟨Un.zero,[],[],[],[],List.replicate 4 (List.replicate 8 none)⟩
def Vp:List Value:=[(),(),(),(),.pointer none,.pointer none,.pointer none,.pointer none,.pointer none,.pointer none,.pointer none,.pointer none,.pointer none,.pointer none,.pointer none,.pointer none,.pointer none,.pointer none,.pointer none,.pointer none,.pointer none,.pointer none,.pointer none,.pointer none,.pointer none,.pointer none,.pointer none,.pointer none,.pointer none,.pointer none,.pointer none,.pointer none,.pointer none,.pointer none,.pointer none,.pointer none]
theorem aQ.fresh{w:World}{g:Nat}(h:ai w g 71 Vp)(e:Nat->Prop)(he:∀k,e k->k<w.heap.size/\k≠g):aQ w ⟨g,[],[],(),e⟩ Sy.fresh where
 box:=⟨none,none,none,0,0,0,h,Off.always λ_=>⟨Rd.nil,aR,jc.nil _ _ _,λ_=>rfl⟩,Off.always λ_=>Rd.nil,aR⟩
 files:=jN _ _ _ _
 fl:=rfl
 dl:=rfl
 ob:=λ_ h=>absurd h (l5 _)
 de:=λ_ h=>absurd h (l5 _)
 fn:=F5
 dn:=F5
 ce:=λk a q=>by
  rcases a with a|a|a|a
  ·exact(he k q).2 a
  ·cases a
  ·cases a
  ·cases a
 el:=λk q=>(he k q).1
theorem Sy.Py(u:Un):Sy.set Sy.fresh (u,0)=(Sy.start u,(Tr.seenU u).2):=by
 unfold Sy.set;rw[av (λh=>h rfl)]
 rfl
def xx(w:World)(A:Option Addr)(l:List Ca):Prop:=∀k,(hk:k<l.length)->∃b o,A=some ⟨b,o,none⟩/\lu w b (o+k*9) l[k]
def o_(w:World)(v:Value)(l:List An):Prop:=∃A c vs,v= .slice A l.length c/\vs.length=l.length/\Rd w w 4 A l.length (dQ l vs)/\∀k (h:k<l.length),∃Ak ck,vs[k]? =some (.slice Ak l[k].names.length ck)/\bH w w Ak l[k].names
theorem fV.rd{X:Nat->Prop}{w:World}{base:Nat}{v:Value}{l:List An}(h:fV X w base v l):o_ w v l:=by
 obtain⟨b,o,i,q⟩:=h;have key:∀A c,v= .slice A l.length c->Rd w w 4 A l.length (dQ l b)->o_ w v l:=λA c a n=>⟨A,c,b,a,o,n,λk j=>by
  obtain⟨r,u,m,t⟩:=q k j;exact⟨r,u,m,t.here⟩⟩
 rcases aB i with⟨a,p⟩|⟨g,cap,a,_,_,_⟩
 ·have e:l=[]:=List.length_eq_zero_iff.1 p
  subst e;exact key none 0 a Rd.nil
 subst a;exact key _ _ rfl (Rd.iK i)
def kP(r:(Un×List En×Nat)×List An×Int)(w:World)(e:Ending)(w':World):Prop:=
 ∃A A' c c' AT cT v,e= .returned (.tuple #[.agg #[.slice A r.1.1.U.length c,.slice A' r.1.1.L.length c',.slice AT r.1.2.1.length cT,r.1.2.2],v,r.2.2])/\bT w' w' A A' c c' r.1.1/\aC w' w' AT r.1.2.1/\r.1.2.1.length<=cT/\o_ w' v r.2.1/\Below w w w'
theorem kP.bad{w w':World}{e:Int}(h:Below w w w'):kP ((Un.zero,[],0),[],e) w (.returned (.tuple #[.agg #[(),(),(),(0:Int)],(),e])) w':=
 ⟨none,none,0,0,none,0,_,rfl,⟨Rd.nil,aR,jc.nil _ _ _,λ_=>rfl⟩,Rd.nil,aR,⟨none,0,[],rfl,rfl,Rd.nil,λk h=>absurd h (l5 k)⟩,h⟩
theorem Nz:(prog.info? 43).map (λi=>(i.zero,i.size,i.bytes))=some (some (.agg #[(0:Int),(0:Int),Qs.e,()]),4,56):=by kernel_rfl
theorem Sy.Iu{u:Un}{l:List Ca}{x:Int}(h:(Tr.wrongU u).1=x)(hx:x≠0):Sy.play u l=((Un.zero,[],0),[],x):=by unfold Sy.play;rw[h,aM hx]
theorem Sy.Dw{u:Un}{l:List Ca}(h:(Tr.wrongU u).1=0)(hl:80<l.length):Sy.play u l=((Un.zero,[],0),[],5):=by unfold Sy.play;rw[h,av (λq=>q rfl),aM hl]
theorem Sy.NC{u:Un}{l:List Ca}(h:(Tr.wrongU u).1=0)(hl:l.length<=80):Sy.play u l=(((Sy.calls (Sy.start u) l).1.u,(Sy.calls (Sy.start u) l).1.T,(Sy.calls (Sy.start u) l).1.files.length),(Sy.calls (Sy.start u) l).2,0):=by unfold Sy.play;rw[h,av (λq=>q rfl),av (by omega)]
theorem Pz(u:Un):(Sy.set Sy.fresh (u,0)).1=Sy.start u:=by rw[Sy.Py]
theorem SI(A A' Al:Option Addr)(c c' cl:Nat)(u:Un)(l:List Ca)(w:World)(hu:bT w w A A' c c' u)(hs:iR u)(hl:xx w Al l)(hls:∀x∈l,jK x)(hbig:l.length<=4000000):Calls prog 11 #[.agg #[.slice A u.U.length c,.slice A' u.L.length c'],.slice Al l.length cl] w (kP (Sy.play u l) w):=by
 have HL:=aL hl;have HLS:=aL hls;have Ve:=aL hs;have HUR:=aL hu;obtain⟨R,hR⟩:∃R,R=Sy.play u l:=⟨_,rfl⟩;rw[<-hR];have HR:=aL hR;clear hR;have cW:=λW q=>zi A A' c c' u W q hs
 have HW0:=aL (rfl:(Tr.wrongU u).1=(Tr.wrongU u).1);obtain⟨we,hwe⟩:∃we,we=Tr.wrongU u:=⟨_,rfl⟩;rw[<-hwe]at cW;have WN:=aL hwe;clear hwe HW0 hs hl hls;obtain⟨e0,ea⟩:=we;dsimp only at cW;have SK:Hid ((Tr.wrongU u).1=e0):=aL (by rw[<-WN.out])
 clear WN;have SL:=(aa w w).alloc aR (.cells #[.slice A u.U.length c,.slice A' u.L.length c'] 33);have SN:=ai.new w 33 [.slice A u.U.length c,.slice A' u.L.length c'];have hu0:=(hu.below SL).more SL.size;clear hu;go_enter func11,ntmps11;go_upto_region 1 with fail
 have hB1:=SL.alloc SL.size (.cells #[(),(),(),(0:Int)] 35);have hgu1:=SN.alloc (.cells #[(),(),(),(0:Int)] 35);have hu1:bT _ _ A A' c c' u:=(hu0.below ((aa _ _).alloc aR (.cells #[(),(),(),(0:Int)] 35))).more ((aa _ _).alloc aR (.cells #[(),(),(),(0:Int)] 35)).size;have hz1:=ai.new (w.alloc (.cells #[.slice A u.U.length c,.slice A' u.L.length c'] 33)) 35 [(),(),(),(0:Int)];have hsa:(w.alloc (.cells #[.slice A u.U.length c,.slice A' u.L.length c'] 33)).heap.size=w.heap.size+1:=bX _ _;rw[hsa]at hz1;clear SL SN hu0 hsa;generalize (w.alloc (.cells #[.slice A u.U.length c,.slice A' u.L.length c'] 33)).alloc (.cells #[(),(),(),(0:Int)] 35)=w1 at*;have z:=hgu1.two;obtain⟨z0,z1,z2,z3,zf,zz⟩:=hz1.four;go_wp2_with fail;refine(cW w1 hu1).mono ?_
 rintro e w2 ⟨rfl,M⟩;have hB2:=hB1.trans (M.mono hB1.size);have hgu2:=hgu1.below M hgu1.lt;have hz2:=hz1.below M hz1.lt;have hu2:=(hu1.below M).more M.size;clear z z0 z1 z2 z3 zf zz hB1 hgu1 hz1 hu1 M cW;have hB3:=hB2.alloc hB2.size (.cells #[e0,ea] 51);have Iw:=hgu2.alloc (.cells #[e0,ea] 51);have hz3:=hz2.alloc (.cells #[e0,ea] 51);have K:Below w2 w2 (w2.alloc (.cells #[e0,ea] 51)):=(aa _ w2).alloc aR _;have hu3:=(hu2.below K).more K.size;have hf3:=ai.new w2 51 [e0,ea];have acj:w.heap.size+1<w2:=hz2.lt;go_upto_region 2 with fail
 clear hB2 hgu2 hz2 hu2 K;generalize w2.alloc (.cells #[e0,ea] 51)=w3 at*;generalize w2.heap.size=gf at*;have z:=Iw.two;obtain⟨z0,z1,z2,z3,zf,zz⟩:=hz3.four;obtain⟨f0,f1,ff,fz⟩:=hf3.two
 cases te:e0 !=0
 rotate_left
 ·have hne:e0≠0:=by simpa using te
  have HF:=aL (HR.out.trans (Sy.Iu SK.out hne));clear hne;have ack:¬gf=w.heap.size+1:=by omega
  have acm:¬w.heap.size+1=gf:=by omega
  go_upto_region 3 with fail
  go_region_with (fail)
  all_goals
   go_wp2_with fail;refine aD (v:= .tuple #[.agg #[(),(),(),(0:Int)],(),e0]) ?_ rfl ?_
   ·simp[results,results11,go_sem,z0,z1,z2,z3]
   rw[HF.out];refine kP.bad ?_
   first|exact((((hB3.setCell (p:=(w.heap.size+1:Nat)) (iN _) _).setCell (p:=⟨w.heap.size+1,1,none⟩) (iN _) _).setCell (p:=⟨w.heap.size+1,2,none⟩) (iN _) _).setCell (p:=⟨w.heap.size+1,3,none⟩) (iN _) _)|exact((((hB3.setCell (p:=(w.heap.size+1:Nat)) (iN _) _).setCell (p:=⟨w.heap.size+1,1,none⟩) (iN _) _).setCell (p:=⟨w.heap.size+1,2,none⟩) (iN _) _).setCell (p:=⟨w.heap.size+1,3,none⟩) (iN _) _).drew
 obtain rfl:e0=0:=by simpa using te
 clear te
 cases tl:decide ((80:Int)<(l.length:Int))
 rotate_left
 ·have HF:=aL (HR.out.trans (Sy.Dw SK.out (by have:=iA tl;omega)))
  go_wp2_with fail;refine aD (v:= .tuple #[.agg #[(),(),(),(0:Int)],(),(5:Int)]) ?_ rfl ?_
  ·simp[results,results11,go_sem,z0,z1,z2,z3]
  rw[HF.out];exact kP.bad ((((hB3.setCell (p:=(w.heap.size+1:Nat)) (iN _) _).setCell (p:=⟨w.heap.size+1,1,none⟩) (iN _) _).setCell (p:=⟨w.heap.size+1,2,none⟩) (iN _) _).setCell (p:=⟨w.heap.size+1,3,none⟩) (iN _) _)
 have xA:l.length<=80:=by have:=j6 tl;omega
 have HF:=aL (HR.out.trans (Sy.NC SK.out xA));clear HR;have ZE:=aL (Sy.start_ok (u:=u) SK.out);clear SK;have hUl:u.U.length<=2000000:=Ve.out.2.2 _ (by unfold Un.all;simp)
 have hUL:∀x∈u.L,x.length<=2000000:=λx hx=>Ve.out.2.2 x (by unfold Un.all;simp[hx])
 have HLL:=aL hUL;have hLn:=Ve.out.2.1;clear hUL;go_upto_region 6 with fail
 clear tl f0 f1 ff fz hf3 z0 z1 z2 z3 zf zz z;have hb4:Below w3 w3 (w3.alloc (.cells #[(),(),(),(),.pointer none,.pointer none,.pointer none,.pointer none,.pointer none,.pointer none,.pointer none,.pointer none,.pointer none,.pointer none,.pointer none,.pointer none,.pointer none,.pointer none,.pointer none,.pointer none,.pointer none,.pointer none,.pointer none,.pointer none,.pointer none,.pointer none,.pointer none,.pointer none,.pointer none,.pointer none,.pointer none,.pointer none,.pointer none,.pointer none,.pointer none,.pointer none] 71)):=(aa _ w3).alloc aR _;have hB4:=hB3.alloc hB3.size (.cells #[(),(),(),(),.pointer none,.pointer none,.pointer none,.pointer none,.pointer none,.pointer none,.pointer none,.pointer none,.pointer none,.pointer none,.pointer none,.pointer none,.pointer none,.pointer none,.pointer none,.pointer none,.pointer none,.pointer none,.pointer none,.pointer none,.pointer none,.pointer none,.pointer none,.pointer none,.pointer none,.pointer none,.pointer none,.pointer none,.pointer none,.pointer none,.pointer none,.pointer none] 71);have KP:=Iw.alloc (.cells #[(),(),(),(),.pointer none,.pointer none,.pointer none,.pointer none,.pointer none,.pointer none,.pointer none,.pointer none,.pointer none,.pointer none,.pointer none,.pointer none,.pointer none,.pointer none,.pointer none,.pointer none,.pointer none,.pointer none,.pointer none,.pointer none,.pointer none,.pointer none,.pointer none,.pointer none,.pointer none,.pointer none,.pointer none,.pointer none,.pointer none,.pointer none,.pointer none,.pointer none] 71);have jY:=hz3.alloc (.cells #[(),(),(),(),.pointer none,.pointer none,.pointer none,.pointer none,.pointer none,.pointer none,.pointer none,.pointer none,.pointer none,.pointer none,.pointer none,.pointer none,.pointer none,.pointer none,.pointer none,.pointer none,.pointer none,.pointer none,.pointer none,.pointer none,.pointer none,.pointer none,.pointer none,.pointer none,.pointer none,.pointer none,.pointer none,.pointer none,.pointer none,.pointer none,.pointer none,.pointer none] 71);have hu4:=(hu3.below hb4).more hb4.size;have hs4:=ai.new w3 71 [(),(),(),(),.pointer none,.pointer none,.pointer none,.pointer none,.pointer none,.pointer none,.pointer none,.pointer none,.pointer none,.pointer none,.pointer none,.pointer none,.pointer none,.pointer none,.pointer none,.pointer none,.pointer none,.pointer none,.pointer none,.pointer none,.pointer none,.pointer none,.pointer none,.pointer none,.pointer none,.pointer none,.pointer none,.pointer none,.pointer none,.pointer none,.pointer none,.pointer none];have Yi:w.heap.size+1<w3:=hz3.lt;have aaH:(w3.alloc (.cells #[(),(),(),(),.pointer none,.pointer none,.pointer none,.pointer none,.pointer none,.pointer none,.pointer none,.pointer none,.pointer none,.pointer none,.pointer none,.pointer none,.pointer none,.pointer none,.pointer none,.pointer none,.pointer none,.pointer none,.pointer none,.pointer none,.pointer none,.pointer none,.pointer none,.pointer none,.pointer none,.pointer none,.pointer none,.pointer none,.pointer none,.pointer none,.pointer none,.pointer none] 71)).heap.size=w3.heap.size+1:=bX _ _;go_upto_region 7 with fail
 clear hb4 hB3 Iw hz3 hu3;generalize w3.alloc (.cells #[(),(),(),(),.pointer none,.pointer none,.pointer none,.pointer none,.pointer none,.pointer none,.pointer none,.pointer none,.pointer none,.pointer none,.pointer none,.pointer none,.pointer none,.pointer none,.pointer none,.pointer none,.pointer none,.pointer none,.pointer none,.pointer none,.pointer none,.pointer none,.pointer none,.pointer none,.pointer none,.pointer none,.pointer none,.pointer none,.pointer none,.pointer none,.pointer none,.pointer none] 71)=w4 at*;generalize w3.heap.size=I at*;have z:=KP.two;go_wp2_with fail;refine(gX A c u.U w4 hu4.up hUl).mono ?_
 rintro e H ⟨vU,rfl,hoU,M⟩;obtain⟨AV,cV,rfl,hcV,hrV⟩:=ag.rd hoU;have dh:=hB4.trans (M.mono hB4.size);have acn:=KP.below M KP.lt;have jo:=jY.below M jY.lt;have hs5:=hs4.below M hs4.lt;have Pq:=(hu4.below M).more M.size;have hsz5:I+1<=H.heap.size:=by have:=M.size;omega
 rw[aaH]at hoU;clear z hB4 KP jY hs4 hu4 M aaH;have hb6:Below H H (H.alloc (.cells #[.slice AV u.U.length cV,()] 33)):=(aa _ H).alloc aR _;have nz:=ai.new H 33 [.slice AV u.U.length cV,()];have aaI:=acn.alloc (.cells #[.slice AV u.U.length cV,()] 33);have KL:(H.alloc (.cells #[.slice AV u.U.length cV,()] 33)).heap.size=H.heap.size+1:=bX _ _;have hll:jc H H A' u.L:=Pq.low;go_upto_region 8 with fail
 generalize H.alloc (.cells #[.slice AV u.U.length cV,()] 33)=w6 at*;have z:=aaI.two;go_wp2_with fail;clear z;obtain⟨L,Xx⟩:∃L,L=u.L:=⟨_,rfl⟩;have HLE:=aL Xx;rw[<-Xx]at hll hLn HLL ⊢;clear Xx
 go_loopw [35] (λi wr=>∃(k:Nat) (vk:Value),k<=L.length/\i= .int .i64 k/\ai wr H 33 [.slice AV u.U.length cV,vk]/\dS wr (H.heap.size+1) vk (L.take k)/\Below H H wr/\H.heap.size+1<=wr.heap.size) (λi _=>L.length- (intOf i).toNat)
 case atStart=>exact⟨0,(),bL _,rfl,nz,dS.nil _ _,hb6,uE KL.symm⟩
 case round=>
  clear nz hb6 KL aaI;obtain⟨k,vk,D,rfl,hwr,hfr,S,hsz⟩:=hrel
  by_cases G:k<L.length
  ·obtain⟨ws,hrw,hel⟩:=(hll.below S)
   obtain⟨Ak,ck,f1,f2,f3⟩:=hel k G;have hlk:=HLL.out L[k] (cz G);have HT:Hid (L.take (k+1)=L.take k++[L[k]]):=aL (aF G);have f3:=f3.more S.size;obtain⟨b,o,Kr,M,hcell⟩:=hrw.2 (by omega)
   have h0:=hcell k _ f1;subst Kr;clear hel hrw hcell f1;generalize L[k]=m at f2 f3 hlk HT h0;obtain⟨z0,z1,zf,zz⟩:=hwr.two;go_wp2_with fail;have f3':aC wr.drew wr.drew.heap.size Ak m:=f3;have hkl:(L.take k).length<=4000000:=by rw[bR];omega
   have hvk:∀q,vk.ownBlock=some q->H.heap.size+1<=q/\q<wr.heap.size:=λq e=>by
    obtain⟨vs,g1,_⟩:=hfr;exact gH g1 q e
   go_region_law (first
     |(
       refine uw (w:=w2.alloc (.cells #[.slice A2 m.length c2] 30)) _ rfl _ _ rfl rfl hfr3 rfl Xy hr2' hc2 hne2 hkl (eT hsz K.size) rfl ?_
       intro v4 w4 aaJ hg4;have aaK:=Xz.grown hg4 (λe=>by have:=(hvk _ e.symm).1;omega)
       obtain⟨z0,z1,zf,zz⟩:=aaK.two;obtain⟨A4,c4,hv4,_,_⟩:=aaJ.rd;rw[show(L.take k++[m]).length=k+1 by rw[bq,bR];simp;omega]at hv4
       subst hv4)
     |(
       go_simp;go_at_call 30;refine(gX Ak ck m _ (by exact f3') hlk).mono ?_;rintro e w2 ⟨v2,rfl,ho2,hb2⟩
       have hb2':Below wr wr w2:=((aa _ wr).drew).trans hb2;obtain⟨A2,c2,E,hc2,hr2⟩:=ag.rd ho2;have hne2:0<m.length->∀a,A2=some a->H.heap.size+1<=a.block/\some a.block≠vk.ownBlock:=λ_ a ha=>by
        subst E;subst ha;have g2:wr.heap.size<=a.block:=(gH ho2 a.block rfl).1;exact⟨by omega,λe=>by have:=(hvk _ e.symm).2;omega⟩
       subst E;have hwr2:=hwr.below hb2' hwr.lt;have hfr2:=hfr.below hb2';have Xy:=ai.new w2 30 [.slice A2 m.length c2];have hr2':aC (w2.alloc (.cells #[.slice A2 m.length c2] 30)) (w2.alloc (.cells #[.slice A2 m.length c2] 30)).heap.size A2 m:=(Rd.alloc hr2 aR _).more (by simp)
       have hfr3:dS (w2.alloc (.cells #[.slice A2 m.length c2] 30)) (H.heap.size+1) vk (L.take k):=hfr2.below ((aa _ _).alloc aR _);have K:=hb2'.alloc hb2'.size (.cells #[.slice A2 m.length c2] 30);have Xz:=hwr2.alloc (.cells #[.slice A2 m.length c2] 30);obtain⟨z0,z1,zf,zz⟩:=hwr2.two))
   all_goals
    have hB4:=(S.trans (K.mono S.size)).grown hg4 (eT S.size K.size) (λq e=>by have:=(hvk q e).1;omega)
    have hs4:H.heap.size+1<=w4.heap.size:=eT (eT hsz K.size) hg4.size;clear z0 z1 zf zz;go_wp2;go_roundw
    case rel=>exact⟨k+1,.slice A4 (k+1) c4,G,by go_num,aaK.bY 1 _,by rw[HT.out];exact aaJ.far (by omega) 1 _,hB4.setCell (p:=⟨H.heap.size,1,none⟩) aR _,by simpa using hs4⟩
    case measure=>simp[intOf];omega
  obtain rfl:k=L.length:=by omega
  rw[gN,HLE.out]at hfr;clear hll HLL G D;have hoW:ag wr (I+1) (.slice AV u.U.length cV) u.U:=own_below hoU S aR;obtain⟨A6,xC,Vm,SG,a1,a2,UK⟩:=Q4 (lo:=I+1) hoW hfr aR (by omega)
  injection a1 with a1 a3 a4
  subst a1 a4 a2;have Q5:=jo.below S jo.lt;have hsr:=hs5.below S hs5.lt;have hBr:=dh.trans (S.mono dh.size);have hAr:=aQ.fresh hsr (λk=>k=w.heap.size+1) λk D=>⟨by rw[D];exact Q5.lt,by omega⟩
  have hoff:Off (Pl.X ⟨I,[],[],(),λk=>k=w.heap.size+1⟩) wr (λw=>bT w w AV xC cV SG ⟨u.U,u.L⟩):=gZ.off UK λk D=>by
   rcases D with(D|D|D|D)|D
   ·have D:k=I:=D;omega
   ·cases D
   ·cases D
   ·cases D
   have D:k=w.heap.size+1:=D;omega
  have cS:=jZ ⟨I,[],[],(),λk=>k=w.heap.size+1⟩ Sy.fresh AV xC cV SG (u,0) wr hAr (λ_=>hoff) (λ_=>Ve.out)
  unfold qp at cS;rw[Pz]at cS;have y:=hwr.two;go_wp2_with fail;refine cS.mono ?_
  rintro e w7 ⟨rfl,iU,lh⟩;have jV:Below w w w7:=hBr.trans (lh.below (B:=w.heap.size) hBr.size λk D=>by have D:k=I:=D;omega)
  have fM:=Q5.fr lh (show¬w.heap.size+1=I by omega)
  clear y hAr hoff UK hoW hwr hfr S Q5 hsr hBr cS lh hsz;have Qj:Hid (∀k,k<=l.length->Sy.In k (Sy.calls (Sy.start u) (l.take k)).1):=aL λk D=>by
   have h1:=Sy.zS (l.take k) (Sy.start_in u) ZE.out;rw[bR,qd D,mE]at h1;exact h1
  have Vq:Hid (∀k,Sy.Ok (Sy.calls (Sy.start u) (l.take k)).1):=aL λk=>(Sy.calls_ok ZE.out).1
  have Vr:Hid (w.heap.size+1<I):=aL Yi;obtain⟨i0,hif,hi0,hi1,hi2⟩:=lw Nz;go_wp2
  go_loopw [12,52] (λva i wr=>∃(k:Nat) (p:Pl),k<=l.length/\i= .int .i64 k/\Hid (aQ wr p (Sy.calls (Sy.start u) (l.take k)).1)/\Hid (p.gs=I/\p.e=(λj=>j=w.heap.size+1\/va.ownBlock=some j)/\∀j,p.C j->w.heap.size+2<=j)/\Hid (fV p.X wr (w.heap.size+2) va (Sy.calls (Sy.start u) (l.take k)).2)/\Hid (ai wr (w.heap.size+1) 35 [(),(),(),(0:Int)])/\Below w w wr/\w.heap.size+2<=wr.heap.size) (λ_ i _=>l.length- (intOf i).toNat)
  case atStart=>
   refine⟨0,⟨I,[],[],(),λk=>k=w.heap.size+1⟩,bL _,rfl,aL iU,aL ⟨rfl,?_,?_⟩,aL (fV.nil _ _ _),aL fM,jV,by have:=iU.bz iU.jq;have h2:=Vr.out;show w.heap.size+2<=w7.heap.size;have:I<w7:=this;omega⟩
   ·funext j
    exact propext ⟨λq=> .inl q,λq=>q.elim id λq=>by cases q⟩
   intro j h;have h2:=Vr.out
   rcases h with h|h|h|h
   ·have h:j=I:=h;omega
   ·cases h
   ·cases h
   cases h
  case round=>
   clear iU fM jV;obtain⟨k,p,D,rfl,HA,HP,HO,HZ,S,hsz⟩:=hrel
   by_cases G:k<l.length
   ·obtain⟨b,o,Kr,hca⟩:=HL.out k G
    subst Kr;have hbw:=hca.lt;have F:=aL (Sy.zT (s:=Sy.start u) G);have hcp:¬p.C b:=λq=>by have:=HP.out.2.2 b q;omega
    have cC:=SH p _ k b (o+k*9) l[k] wr HA.out (Qj.out k D) (by omega) (Vq.out k) (hca.below S) hcp (HLS.out _ (cz G))
    rw[HP.out.1]at cC;obtain⟨g,hsk⟩:∃x,x=Sy.calls (Sy.start u) (l.take k):=⟨_,rfl⟩;rw[<-hsk]at HA HO F cC;clear hsk hca;obtain⟨r,hr⟩:∃r,r=Sy.call g.1 l[k]:=⟨_,rfl⟩;rw[<-hr]at F cC;clear hr;obtain⟨vs,hv1,E,hv3⟩:=HO.out;have HV3:=aL hv3;obtain⟨Ug,Uh,hva⟩:=jl E;subst hva;have hlen:=E.2;have aco:g.2.length<=80:=by
     have h1:k<=80:=by omega
     have h2:=om (λx=>x.2.length) F.out
     simp only[Sy.calls_len,bq,bR,gL,sw]at h2;omega
    clear hlen hv3;have hlt2:(k:Int)<(l.length:Int):=by omega
    go_wp2_with fail;refine cC.mono ?_
    rintro e w1 ⟨p',v,rfl,⟨An,cn,rfl,hno⟩,hA1,SQ,EJ,hF1,hS1⟩;have qi:=aL hno;clear hno;have N:w1.ownsRow (w.heap.size+2) 43 4 (.slice Ug g.2.length Uh) g.2.length (dQ g.2 vs):=jJ E hF1 λj h q=>HA.out.ce j q (by rw[HP.out.2.1];exact .inr h)
    have hB1:Below w w w1:=S.trans (hF1.below (B:=w.heap.size) S.size λj h=>by have:=HP.out.2.2 j h;omega)
    have hz1:=HZ.out.fr hF1 λq=>by have:=HP.out.2.2 _ q;omega
    have hsz1:w.heap.size+2<=w1.heap.size:=eT hsz hF1.size;clear E
    go_wp2_with (at_builtin;go_must (refine ax w1 rfl _ _ _ rfl (w.heap.size+2) 43 i0 _ 4 56 underlying36 hif hi0 hi1 hi2 rfl (by decide) (.slice Ug g.2.length Uh) _ _ rfl N [r.2.err,r.2.n,r.2.text,.slice An r.2.names.length cn] rfl rfl (by simp[Value.oneCell']) (by omega) (by decide) hsz1 _ rfl ?_);intro v3 w3 Bo t at3;obtain⟨A3,c3,rfl⟩:=jl Bo)
    go_roundw
    case rel=>
     have hpX:Fr p.X wr w1:=hF1.wide λ_ _ q=> .inl q
     have Yj:Sub wr p'.X p.X:=λj h q=>q.elim (λq=> .inl (hS1 j h q)) λq=> .inr (by rw[<-EJ];exact q)
     have hY:Fr (λj=>(Value.slice Ug g.2.length Uh).ownBlock=some j) w1 w3:=Fr.grown t λj h=>h
     have hYe:∀j,j<w1.heap.size->(Value.slice Ug g.2.length Uh).ownBlock=some j->p'.e j:=λj _ q=>by rw[EJ,HP.out.2.1];exact .inr q
     have hlt3:∀j,(Value.slice A3 (g.2.length+1) c3).ownBlock=some j->w.heap.size+2<=j/\j<w3.heap.size:=λj q=>gH Bo j q
     have hA3:=hA1.grow hY hYe (λj=>j=w.heap.size+1\/(Value.slice A3 (g.2.length+1) c3).ownBlock=some j) (λj q=>⟨λh=>by
       rw[EJ,HP.out.2.1]
       rcases q with q|q
       ·exact .inl q
       ·rcases at3 with e|e
        ·exact .inr (e▸q)
        rw[e]at q;injection q with q;omega,by
       rcases q with q|q
       ·have:=t.size;omega
       exact(hlt3 j q).2⟩)
     refine⟨k+1,{p' with e:=λj=>j=w.heap.size+1\/(Value.slice A3 (g.2.length+1) c3).ownBlock=some j},G,by go_num,aL (by rw[F.out];exact hA3),aL ⟨SQ.trans HP.out.1,rfl,λj q=> ?_⟩,aL ?_,aL ?_,?_,eT hsz1 t.size⟩
     ·have q:p'.C j:=q
      rcases iB j wr with h|h
      ·exact HP.out.2.2 j (hS1 j h q)
      omega
     ·rw[F.out]
      refine fV.snoc (X:=p'.X) (w:=w1) hv1 (λj h=> ?_) qi.out (hY.wide λj h q=> .inr (hYe j h q)) (λj h q=> ?_) Bo rfl
      ·obtain⟨Aj,cj,e1,e2⟩:=HV3.out j h
       exact⟨Aj,cj,e1,e2.on hpX Yj⟩
      rcases q with q|q
      ·exact .inl q
      right
      rw[EJ,HP.out.2.1]
      rcases q with q|q
      ·exact .inl q
      rcases at3 with e|e
      ·exact .inr (e▸q)
      rw[e]at q;injection q with q;omega
     ·exact hz1.grown t λe=>by
       have:=(gH N _ e.symm).1;omega
     exact hB1.grown t hB1.size λj h=>by have:=(gH N _ h).1;omega
    case measure=>simp[intOf];omega
   obtain rfl:k=l.length:=by omega
   rw[gN]at HA HO;obtain⟨g,hsk⟩:∃x,x=Sy.calls (Sy.start u) l:=⟨_,rfl⟩;have HF2:=aL HF.out;rw[<-hsk]at HA HO HF2;clear hsk HF;obtain⟨V,Y,Q,O,Z,cT,hbx,hU,hT,Np⟩:=HA.out.box;have HU:=aL hU;have HT:=aL hT;obtain⟨Af,cf,hvf,_⟩:=HA.out.uC;rw[hvf,HP.out.1]at hbx;obtain⟨g0,g1,g2,g3,ZF,gz⟩:=hbx.top;obtain⟨z0,z1,z2,z3,zf,zz⟩:=HZ.out.four;have hne1:¬w.heap.size+1=I:=by have:=Vr.out;omega
   have hne2:¬I=w.heap.size+1:=by have:=Vr.out;omega
   have acp:w.heap.size+1≠I:=hne1;clear hU hT hbx;go_upto_region 20 with fail
   go_region_held3 (λW=>W.cell? I=some (.slice V g.1.u.U.length O)/\W.cell? ⟨I,1,none⟩=some (.slice Y g.1.u.L.length Z)/\W.cell? ⟨I,2,none⟩=some (.slice Q g.1.T.length cT)/\W.cell? ⟨I,3,none⟩=some (.slice Af g.1.files.length cf)) (first|exact⟨g0,g1,g2,g3⟩|go_keep) (fail)
   all_goals
    have lW:Fr (λj=>j=w.heap.size+1) wr ((((wr.setCell ⟨w.heap.size+1,0,none⟩ (.slice V g.1.u.U.length O)).setCell ⟨w.heap.size+1,1,none⟩ (.slice Y g.1.u.L.length Z)).setCell ⟨w.heap.size+1,2,none⟩ (.slice Q g.1.T.length cT)).setCell ⟨w.heap.size+1,3,none⟩ (.int .i64 g.1.files.length)):=((((Fr.refl (λj=>j=w.heap.size+1) wr).at_ 0 _).at_ 1 _).at_ 2 _).at_ 3 _
    have Vs:=lW.wide (X:=p.X) λj _ q=> .inr (by rw[HP.out.2.1];exact .inl q)
    have jv:=S.trans ((lW.below (B:=w.heap.size) (by omega) λj q=>by have q:j=w.heap.size+1:=q;omega))
    have hU9:=(HU.out.on Vs (Sub.refl _ _)).here;have hT9:=(HT.out.on Vs (Sub.refl _ _)).here;obtain⟨vs,hv1,E,hv3⟩:=HO.out;have Uf:o_ ((((wr.setCell ⟨w.heap.size+1,0,none⟩ (.slice V g.1.u.U.length O)).setCell ⟨w.heap.size+1,1,none⟩ (.slice Y g.1.u.L.length Z)).setCell ⟨w.heap.size+1,2,none⟩ (.slice Q g.1.T.length cT)).setCell ⟨w.heap.size+1,3,none⟩ (.int .i64 g.1.files.length)) _ g.2:=fV.rd (X:=p.X) (base:=w.heap.size+2) ⟨vs,hv1,jJ E lW λj h q=>by have:=(gH E j h).1;have q:j=w.heap.size+1:=q;omega,λj h=>by
     obtain⟨Aj,cj,e1,e2⟩:=hv3 j h;exact⟨Aj,cj,e1,e2.on Vs (Sub.refl _ _)⟩⟩
    have pg:ai (((((wr.setCell ⟨w.heap.size+1,0,none⟩ (.slice V g.1.u.U.length O)).setCell ⟨w.heap.size+1,1,none⟩ (.slice Y g.1.u.L.length Z)).setCell ⟨w.heap.size+1,2,none⟩ (.slice Q g.1.T.length cT)).setCell ⟨w.heap.size+1,3,none⟩ (.int .i64 g.1.files.length)).drew) (w.heap.size+1) 35 [.slice V g.1.u.U.length O,.slice Y g.1.u.L.length Z,.slice Q g.1.T.length cT,g.1.files.length]:=((((HZ.out.bY 0 _).bY 1 _).bY 2 _).bY 3 _).drew;have kU:bT (((((wr.setCell ⟨w.heap.size+1,0,none⟩ (.slice V g.1.u.U.length O)).setCell ⟨w.heap.size+1,1,none⟩ (.slice Y g.1.u.L.length Z)).setCell ⟨w.heap.size+1,2,none⟩ (.slice Q g.1.T.length cT)).setCell ⟨w.heap.size+1,3,none⟩ (.int .i64 g.1.files.length)).drew) (((((wr.setCell ⟨w.heap.size+1,0,none⟩ (.slice V g.1.u.U.length O)).setCell ⟨w.heap.size+1,1,none⟩ (.slice Y g.1.u.L.length Z)).setCell ⟨w.heap.size+1,2,none⟩ (.slice Q g.1.T.length cT)).setCell ⟨w.heap.size+1,3,none⟩ (.int .i64 g.1.files.length)).drew).heap.size V Y O Z g.1.u:=hU9.below (aa _ _).drew;have kT:aC (((((wr.setCell ⟨w.heap.size+1,0,none⟩ (.slice V g.1.u.U.length O)).setCell ⟨w.heap.size+1,1,none⟩ (.slice Y g.1.u.L.length Z)).setCell ⟨w.heap.size+1,2,none⟩ (.slice Q g.1.T.length cT)).setCell ⟨w.heap.size+1,3,none⟩ (.int .i64 g.1.files.length)).drew) (((((wr.setCell ⟨w.heap.size+1,0,none⟩ (.slice V g.1.u.U.length O)).setCell ⟨w.heap.size+1,1,none⟩ (.slice Y g.1.u.L.length Z)).setCell ⟨w.heap.size+1,2,none⟩ (.slice Q g.1.T.length cT)).setCell ⟨w.heap.size+1,3,none⟩ (.int .i64 g.1.files.length)).drew).heap.size Q g.1.T:=hT9;have kO:o_ (((((wr.setCell ⟨w.heap.size+1,0,none⟩ (.slice V g.1.u.U.length O)).setCell ⟨w.heap.size+1,1,none⟩ (.slice Y g.1.u.L.length Z)).setCell ⟨w.heap.size+1,2,none⟩ (.slice Q g.1.T.length cT)).setCell ⟨w.heap.size+1,3,none⟩ (.int .i64 g.1.files.length)).drew) u12 g.2:=Uf;have kB:Below w w (((((wr.setCell ⟨w.heap.size+1,0,none⟩ (.slice V g.1.u.U.length O)).setCell ⟨w.heap.size+1,1,none⟩ (.slice Y g.1.u.L.length Z)).setCell ⟨w.heap.size+1,2,none⟩ (.slice Q g.1.T.length cT)).setCell ⟨w.heap.size+1,3,none⟩ (.int .i64 g.1.files.length)).drew):=jv.drew;clear lW Vs jv hU9 hT9 hv1 E hv3 Uf z0 z1 z2 z3 zf zz g0 g1 g2 g3 ZF gz;generalize ((((wr.setCell ⟨w.heap.size+1,0,none⟩ (.slice V g.1.u.U.length O)).setCell ⟨w.heap.size+1,1,none⟩ (.slice Y g.1.u.L.length Z)).setCell ⟨w.heap.size+1,2,none⟩ (.slice Q g.1.T.length cT)).setCell ⟨w.heap.size+1,3,none⟩ (.int .i64 g.1.files.length)).drew=w9 at*;obtain⟨z0,z1,z2,z3,zf,zz⟩:=pg.four;go_wp2_with fail;refine aD (v:= .tuple #[.agg #[.slice V g.1.u.U.length O,.slice Y g.1.u.L.length Z,.slice Q g.1.T.length cT,g.1.files.length],u12,(0:Int)]) ?_ rfl ?_
    ·simp[results,results11,go_sem,z0,z1,z2,z3]
    rw[HF2.out];exact⟨V,Y,O,Z,Q,cT,u12,rfl,kU,kT,Np,kO,kB⟩
end Go.Proofs.YtjppfhgkanbemabGreatDoor
