/-
 ListingSpoils: whatever the input whose bulk is at most 1048576, the law returns true; the input reads as it did. The listed package-level variables hold what the program's text lays in them (a tied card). No other condition.
-/
import Derived.Test.YtflobbpcabopjaaGreatDoorArg
import Derived.Test.YtflobbpcabopjaaGreatDoorPost
import Derived.Test.YtflobbpcabopjaaGreatDoorLpRt
import Derived.Test.YtflobbpcabopjaaGreatDoorLs0
import Derived.Test.YtflobbpcabopjaaGreatDoorTab
import Derived.Test.YtflobbpcabopjaaGreatDoorRows
import Derived.Test.YtflobbpcabopjaaGreatDoorTie
import Derived.Test.YtflobbpcabopjaaGreatDoorCards
import Derived.WalkKit
import Derived.ProofKit
import Derived.OpenShut
import Derived.LaidMore
import Derived.LaidOnce
import Derived.SevenTiedAt
import Derived.Deep.DeepHandedRow
import Derived.Deep.DeepWitnessRowRef
set_option linter.unusedVariables false set_option maxRecDepth 100000
set_option maxHeartbeats 0
namespace Go.Proofs.YtflobbpcabopjaaGreatDoor.closeListingSpoils
open Go Go.Abs Go.ChangeShapes Go.WideShapes Go.ChangeAt Go.RowKit
theorem B1T(xs:List V)(has:C5N Tryz.prog [29,3] xs)(hsm:bkL xs≤1048576):Pure Tryz.prog 6 xs (.bool true):=by
 obtain⟨v0,r0,rfl,h0,s0⟩:=has.cons
 obtain⟨n0,rfl,w0⟩:=h0.struct zh
 obtain⟨v1,r1,rfl,h1,s1⟩:=s0.cons
 obtain⟨n1,rfl,w1⟩:=h1.int Tryz.underlying3
 obtain rfl:=s1.nil
 exact B0Q n0 w0 n1 w1 hsm
theorem own:ownKnob Tryz.prog.godebug=none:=by kernel_rfl
theorem T1{P:Program}{w:World}{l:List (String×DataW Unit)}(fuel M:Nat)
  (h:((DataW.laidRun P w fuel (l.map (·.1))).bind fun x=>if nodupBits M x.2 0&&laidRowsB P w x.2 then some x.1 else none)=some l):laidMet P l w:=by
 obtain⟨⟨a,ps⟩,hx,d⟩:=Option.bind_eq_some_iff.1 h
 split at d
 ·rename_i hb
  simp only [Bool.and_eq_true]at hb
  obtain rfl:=Option.some.inj d
  exact laidMet_of_run (ps:=ps) fuel hx (decide_eq_true (nodupBits_sound hb.1).1) hb.2
 ·cases d
noncomputable def W1 (os:Os):World:=
 let w0:=World.doorLaid Tryz.prog 96 os
 {w0 with heap:=w0.heap.modify 3 fun
  | .cells _ t frozen=> .cells (Go.Pinned.utf8FirstZ.map fun(z:Nat)=>Value.int .u8 (z:Int)).toArray t frozen
  |o=>o}
theorem A8d(os:Os)(args:Array Value):laidMetH Tryz.prog Rows.listingSpoilsUptoRow.laid ((W1 os).forCall (fun _ _=>0) ⟨#[],args,[]⟩).memory:=
 laidMetH_of_parts3 (fuel:=8) (T1 8 257 zh) zh zh
theorem T5(os:Os){H:Type}(enc:TypeId×Value→H):DataW.whole enc Tryz.prog ((W1 os).forCall (fun _ _=>0) ⟨#[], #[.agg #[.string ⟨#[]⟩,.int .i64 0,.int .i64 0,.bool false,.int .i64 0,.slice none 0 0,.slice none 0 0,.slice none 0 0,.slice none 0 0,.slice none 0 0,.slice none 0 0],.int .i64 0],[]⟩).memory Tryz.f6.params.toList Rows.listingSpoilsSpec.vars false #[.agg #[.string ⟨#[]⟩,.int .i64 0,.int .i64 0,.bool false,.int .i64 0,.slice none 0 0,.slice none 0 0,.slice none 0 0,.slice none 0 0,.slice none 0 0,.slice none 0 0],.int .i64 0].toList 8=some ([.agg [.lit (.string []),.lit (.int .i64 0),.lit (.int .i64 0),.lit (.bool false),.lit (.int .i64 0),.nil,.nil,.nil,.nil,.nil,.nil],.lit (.int .i64 0)],[],[]):=by kernel_rfl
theorem B5l(os:Os)(started:os.Started)(H:Type)(enc:TypeId×Value→H)(F:Stop.Interp):
  ReturnsInHanded {} Tryz.checked os 6 .any ((Rows.OpenSpec.upto Rows.listingSpoilsSpec).preRow enc Tryz.prog Tryz.f6 Rows.listingSpoilsUptoRow.domain false Rows.listingSpoilsUptoRow.laid) (((Rows.OpenSpec.upto Rows.listingSpoilsSpec).at F).post enc Tryz.prog Tryz.f6 false true false false):=by
 refine returnsInHanded_of_row (C:=Tryz.checked) (s:=Rows.OpenSpec.upto Rows.listingSpoilsSpec) own started zh Tryz.func6
  (witness_row_atRef (enc:=enc) (C:=Tryz.checked) false (W1 os) #[.agg #[.string ⟨#[]⟩,.int .i64 0,.int .i64 0,.bool false,.int .i64 0,.slice none 0 0,.slice none 0 0,.slice none 0 0,.slice none 0 0,.slice none 0 0,.slice none 0 0],.int .i64 0] rfl zh zh zh
    (OpenSpec.preRow_of_cond 8 (T5 os enc) zh (fun k hk=>by cases hk;kernel_rfl) zh (A8d os _))) ?_
 intro W base args ds gs before hval hW _ hcond hwt hL hS _
 have hpar:Tryz.f6.params.toList= [29,3]:=by rw [Tryz.params6]
 have hb:Rows.uptoBulkAll (ds++gs)≤1048576:=of_decide_eq_true (hcond _ rfl)
 rw [A7Z]at hb
 refine A4K (fun ds=>Rows.uptoBulkAll ds≤1048576) (P:=Tryz.prog) (fid:=6) (f:=Tryz.f6) (s:=Rows.listingSpoilsSpec) (ts:= [29,9,3,4,22,23,24,25,26,27,72,78,81,84,76]) (tb:=4) zh zh (slices_full_of _ zh) zh
  (by rw [hpar];decide) (by rw [hpar];intro t ht;exact Nat.lt_of_lt_of_le (show t<85 by revert t;decide) (of_decide_eq_true zh)) rfl ?_ zh zh ?_ (B3g hL hS (i:=7) (j:=2)) hval hW hwt zd
 ·intro ds hl
  rw [hpar]at hl
  match ds,hl with
  | [d0,d1],_=>rfl
 ·intro xs ds has hAs hbk
  rw [hpar]at has
  exact B1T xs has (Nat.le_trans (C2K hAs) hbk)
end Go.Proofs.YtflobbpcabopjaaGreatDoor.closeListingSpoils
