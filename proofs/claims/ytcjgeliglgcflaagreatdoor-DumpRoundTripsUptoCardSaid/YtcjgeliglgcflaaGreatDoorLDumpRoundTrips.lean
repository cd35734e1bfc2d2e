/-
 DumpRoundTrips: whatever the input whose bulk is at most 1048576, the law returns true; the input reads as it did. The listed package-level variables hold what the program's text lays in them (a tied card). No other condition.
-/
import Derived.Test.YtcjgeliglgcflaaGreatDoorMDumpRoundTrips
import Derived.WalkKit
import Derived.ProofKit
import Derived.OpenShut
import Derived.LaidMore
import Derived.LaidOnce
import Derived.SevenTiedAt
import Derived.Deep.DeepHandedRow
import Derived.Deep.DeepWitnessRowRef
set_option linter.unusedVariables false
set_option linter.unusedSimpArgs false
set_option maxRecDepth 100000
set_option maxHeartbeats 0
namespace Go.Proofs.YtcjgeliglgcflaaGreatDoor.closeDumpRoundTrips
open Go Go.Abs Go.ChangeShapes Go.WideShapes Go.ChangeAt Go.RowKit
theorem C5T:joinedFacts Tryz.pinned.checked.prog 3 Tryz.f3 (Rows.OpenSpec.upto Rows.dumpRoundTripsSpec).bare Rows.dumpRoundTripsUptoRow=true:=by
 unfold joinedFacts
 simp only [Bool.and_eq_true]
 repeat' refine And.intro ?_ ?_
 all_goals as_aux_lemma=>kernel_rfl
theorem over:Rows.dumpRoundTripsUptoRow.holds Tryz.pinned (Rows.OpenSpec.upto Rows.dumpRoundTripsSpec):=
 OpenClaim.holds_of_cond 3 Tryz.f3 rfl rfl rfl rfl rfl rfl rfl ⟨rfl,rfl,rfl,rfl,rfl⟩ rfl rfl rfl rfl rfl (by kernel_rfl) Tryz.func3 C5T
  (of_decide_eq_true (by kernel_rfl)) (by unfold Func.isWrapper;first|(rw [if_pos (by decide+kernel)];kernel_rfl)|(rw [if_neg (by decide+kernel)];exact⟨rfl,rfl⟩))
  (fun os started H enc _ F=>by rw [OpenClaim.pre_eq_preRow];exact C6y os started H enc F)
end Go.Proofs.YtcjgeliglgcflaaGreatDoor.closeDumpRoundTrips
namespace Go.Proofs.YtcjgeliglgcflaaGreatDoor
open Go
theorem dumpRoundTrips_holds:Rows.DumpRoundTripsUptoCardSaid:=
 Claim7.holds_tied_plain_at .later [] [.data,.data,.data,.listed,.data] true (true, "49b533781a6ff35fe56d4f5a8f3624cdb41b5527b83590ca9e0ee7987df0cccb") true
  closeDumpRoundTrips.over (fun _ h=>by cases h) (by kernel_rfl) (fun _ h=>by cases h) dumpRoundTripsUpto_row_tie rfl ⟨rfl,rfl⟩ (by kernel_rfl) rfl
  (fun f fn hf hfn=>by
    obtain rfl:f=3:=Option.some.inj ((show Tryz.prog.funcNamed "scripting/scriptinglaw40.DumpRoundTrips" =some 3 by kernel_rfl).symm.trans hf)|>.symm
    obtain rfl:fn=Tryz.f3:=(Option.some.inj (Tryz.func3.symm.trans hfn)).symm
    exact⟨by kernel_rfl,fun j t ht=>by
     rw [Tryz.params3]at ht
     have hm:t∈ [29]:=by simpa using Array.mem_of_getElem? ht
     have hall:([29].all fun u=> !Tryz.prog.wantsStandIn u)=true:=by kernel_rfl
     exact(show Tryz.prog.wantsStandIn t=false by simpa using List.all_eq_true.1 hall t hm)⟩)
  (by kernel_rfl)
end Go.Proofs.YtcjgeliglgcflaaGreatDoor
