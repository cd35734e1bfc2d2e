/-
 ListingSpoils: whatever the input whose bulk is at most 1048576, the law returns true; the input reads as it did. The listed package-level variables hold what the program's text lays in them (a tied card). No other condition.
-/
import Derived.Test.YtflobbpcabopjaaGreatDoorNListingSpoils
set_option linter.unusedVariables false set_option maxRecDepth 100000
set_option maxHeartbeats 0
namespace Go.Proofs.YtflobbpcabopjaaGreatDoor
open Go
theorem listingSpoils_holds:Rows.ListingSpoilsUptoCardSaid:=
 Claim7.holds_tied_plain_at .later [] [.data,.data,.data,.data,.sentinel,.sentinel,.listed,.data,.pinned] true (true, "dd9345d9462673cf43aaa5262cff85285d4971b9bd503c603716bf3e62043d4c") true
  closeListingSpoils.over (fun _ h=>by cases h) (by kernel_rfl) (fun _ h=>by cases h) listingSpoilsUpto_row_tie rfl ⟨rfl,rfl⟩ (by kernel_rfl) rfl
  (fun f fn hf hfn=>by
    obtain rfl:f=6:=Option.some.inj ((show Tryz.prog.funcNamed "scripting/scriptinglaw34.ListingSpoils" =some 6 by kernel_rfl).symm.trans hf)|>.symm
    obtain rfl:fn=Tryz.f6:=(Option.some.inj (Tryz.func6.symm.trans hfn)).symm
    exact⟨by kernel_rfl,fun j t ht=>by
     rw [Tryz.params6]at ht
     have hm:t∈ [29,3]:=by simpa using Array.mem_of_getElem? ht
     have hall:([29,3].all fun u=> !Tryz.prog.wantsStandIn u)=true:=by kernel_rfl
     exact(show Tryz.prog.wantsStandIn t=false by simpa using List.all_eq_true.1 hall t hm)⟩)
  (by kernel_rfl)
end Go.Proofs.YtflobbpcabopjaaGreatDoor
