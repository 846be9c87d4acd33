/- SysTells: at any union and calls it returns true, and the arguments read as they did (the second form's card: where the arguments together are of bulk at most 1 -/
import Derived.Test.YtjppfhgkanbemabGreatDoorCards
import Derived.Test.YtjppfhgkanbemabGreatDoorTie
import Derived.Test.YtjppfhgkanbemabGreatDoorRF
set_option maxHeartbeats 8000000
set_option maxRecDepth 100000
set_option linter.all false
namespace Go.Proofs.YtjppfhgkanbemabGreatDoor.sysTells
open Go.Proofs.Tryz
open Go.ChangeShapes Go.WideShapes Go.ChangeAt Go.RowKit
theorem lifted(os:Os)(started:os.Started)(H:Type)(enc:TypeId×Value→H)(F:Stop.Interp):
  ReturnsInHanded {} Tryz.checked os 6 .any ((Rows.OpenSpec.upto Rows.sysTellsSpec).preRow enc Tryz.prog Tryz.f6 Rows.sysTellsUptoRow.domain false Rows.sysTellsUptoRow.laid) (((Rows.OpenSpec.upto Rows.sysTellsSpec).at F).post enc Tryz.prog Tryz.f6 false true false false):=by
 have hx:DataW.whole enc Tryz.prog ((laidWorld os).forCall (fun _ _=>0) ⟨#[],#[.agg #[.slice none 0 0,.slice none 0 0],.slice none 0 0],[]⟩).memory Tryz.f6.params.toList Rows.sysTellsSpec.vars false #[Value.agg #[.slice none 0 0,.slice none 0 0],.slice none 0 0].toList 8=some ([.agg [.nil,.nil],.nil],[],[]):=by kernel_rfl
 refine returnsInHanded_of_row (C:=Tryz.checked) (s:=Rows.OpenSpec.upto Rows.sysTellsSpec) own started (by kernel_rfl) Tryz.func6
  (witness_row_at (enc:=enc) (C:=Tryz.checked) false (laidWorld os) #[.agg #[.slice none 0 0,.slice none 0 0],.slice none 0 0] rfl (by kernel_rfl) (by kernel_rfl) (by kernel_rfl)
   (OpenSpec.preRow_of_cond 8 hx (by kernel_rfl) (fun k n=>by cases n;kernel_rfl) (by kernel_rfl) (laid_met os _))) ?_
 intro W base args ds gs before b D _ c _ _ _ _;have a:∀(j:Nat) t v,Tryz.f6.params[j]? =some t→args[j]? =some v→Value.okWide Tryz.prog W .any base t v:=b;have g:=D;obtain⟨p,q,l,hV,rfl,hfz,hnd⟩:=D;have I:DataW.TrodAll enc Tryz.prog W 0 (fun _=>true) true Tryz.f6.params.toList args.toList ds p:=l
 rw [Tryz.params6]at I a;obtain⟨M,vs0,d0,U,L,q0,w,rfl,rfl,B,Z⟩:=trodAll_cons I;obtain⟨G,Q,d1,ds1,K,q1,rfl,rfl,rfl,E,O⟩:=trodAll_cons Z;obtain⟨rfl,rfl,rfl⟩:=trodAll_nil O;obtain rfl:args=#[M,G]:=by cases args;simp_all
 obtain⟨rfl,rfl⟩:=trodVars_none hV;have n:=Xd (c _ rfl);have Y:Rows.uptoBulk d0≤1048576:=Nat.le_trans (vG (by simp)) n
 obtain⟨A0,B0,c0,x,u0,rfl,z,r,hn0⟩:=Yl Y (a 0 _ M rfl rfl) B;have N:Rows.uptoBulk d1≤1048576:=Nat.le_trans (vG (by simp)) n
 obtain⟨V,c1,l1,rfl,hc1,S,A,u⟩:=Yk N (a 1 _ G rfl rfl) E;clear l b;simp only [List.append_nil]at g;have i:∀y∈L++(K++[]),y.block<W.heap.size:=fun y m=>g.lt y (by simpa using m)
 refine(sysTells_any A0 B0 c0 x u0 V c1 l1 W z r A u (by omega)).mono fun e W' ⟨he,o⟩=> ?_
 subst he;refine⟨_,rfl,_,_,_,[],L++(K++[]),[],g,(trodAll_cons_mk (shut_bool Tryz.underlying4 _) trodAll_mk0),?_,rfl,o.frame _,fun h=>by cases h⟩
 exact(trodAll_cons_mk (Below.trod laidOut (by kernel_rfl) (of_decide_eq_true (by kernel_rfl)) B o fun y m=>i y (by simp [m])) (trodAll_cons_mk (Below.trod laidOut (by kernel_rfl) (of_decide_eq_true (by kernel_rfl)) E o fun y m=>i y (by simp [m])) trodAll_mk0))
theorem said:Rows.SysTellsUptoSaid:=
 OpenClaim.holds_of_cond 6 Tryz.f6 rfl rfl rfl rfl rfl rfl rfl ⟨rfl,rfl,rfl,rfl,rfl⟩ rfl rfl rfl rfl rfl (by kernel_rfl) Tryz.func6 (by kernel_rfl)
  (of_decide_eq_true (by kernel_rfl)) (by unfold Func.isWrapper;first|(rw [if_pos (by decide+kernel)];kernel_rfl)|(rw [if_neg (by decide+kernel)];exact⟨rfl,rfl⟩))
  (fun b started H a _ F=>by rw [OpenClaim.pre_eq_preRow];exact lifted b started H a F)
theorem plain(f:FuncId)(fn:Func)(hf:Tryz.pinned.checked.prog.funcNamed "tracings/tracelaw6.SysTells"  =some f) (hfn:Tryz.pinned.checked.prog.funcs[f]? =some fn):
  false=Tryz.pinned.checked.prog.looks []∧∀(j:Nat) t,fn.params[j]? =some t→Tryz.pinned.checked.prog.wantsStandIn t=false:=by
 obtain rfl:f=6:=Option.some.inj ((show Tryz.prog.funcNamed "tracings/tracelaw6.SysTells"  =some 6 by kernel_rfl).symm.trans hf)|>.symm
 obtain rfl:fn=Tryz.f6:=(Option.some.inj (Tryz.func6.symm.trans hfn)).symm;refine⟨by kernel_rfl,fun j t a=> ?_⟩
 rw [Tryz.params6]at a
 match j,a with
 |0,a=>exact(Option.some.inj a)▸(show Tryz.prog.wantsStandIn 33=false by kernel_rfl)
 |1,a=>exact(Option.some.inj a)▸(show Tryz.prog.wantsStandIn 28=false by kernel_rfl)
 |j+2,a=>exact absurd a (by simp)
theorem proved:Rows.SysTellsUptoCardSaid:=
 Claim7.holds_tied_plain_at .later [] _ _ _ _ said (fun _ h=>by cases h) (by kernel_rfl) (fun _ h=>by cases h) sysTellsUpto_row_tie rfl ⟨rfl,rfl⟩ (by kernel_rfl) rfl plain (by kernel_rfl)
#print axioms proved
end Go.Proofs.YtjppfhgkanbemabGreatDoor.sysTells
