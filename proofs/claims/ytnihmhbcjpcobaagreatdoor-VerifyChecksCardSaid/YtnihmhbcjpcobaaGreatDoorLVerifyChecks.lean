/-
 VerifyChecks: whatever the input, the law returns true; the input reads as it did. The listed package-level variables hold what the program's text lays in them (a tied card). No other condition.
-/
import Derived.Test.YtnihmhbcjpcobaaGreatDoorTsub
import Derived.Test.YtnihmhbcjpcobaaGreatDoorPost
import Derived.Test.YtnihmhbcjpcobaaGreatDoorRvZ
import Derived.Test.YtnihmhbcjpcobaaGreatDoorTab
import Derived.Test.YtnihmhbcjpcobaaGreatDoorRows
import Derived.Test.YtnihmhbcjpcobaaGreatDoorTie
import Derived.Test.YtnihmhbcjpcobaaGreatDoorCards
import Derived.WalkKit
import Derived.ProofKit
import Derived.OpenShut
import Derived.LaidMore
import Derived.LaidOnce
import Derived.SevenTiedAt
set_option linter.unusedVariables false
set_option linter.unusedSimpArgs false
set_option maxRecDepth 100000
namespace Go.Proofs.YtnihmhbcjpcobaaGreatDoor.closeVerifyChecks
open Go Go.Abs Go.ChangeShapes Go.WideShapes Go.ChangeAt Go.RowKit
theorem B1b(xs:List V)(has:A9L Tryz.prog [29] xs):Pure Tryz.prog 3 xs (.bool true):=by
 obtain⟨v0,r0,rfl,h0,s0⟩:=has.cons
 obtain⟨n0,rfl,w0⟩:=h0.struct (by kernel_rfl)
 obtain rfl:=s0.nil
 exact B0M n0 w0
theorem own:ownKnob Tryz.prog.godebug=none:=by kernel_rfl
theorem C2o(os:Os)(args:Array Value):laidMetH Tryz.prog Rows.verifyChecksRow.laid ((World.doorLaid Tryz.prog 33 os).forCall (fun _ _=>0) ⟨#[],args,[]⟩).memory:=
 laidMetH_of_parts3 (fuel:=8) (laidMet_of_run' 8 (by kernel_rfl) (by kernel_rfl)) (by kernel_rfl) (by kernel_rfl)
theorem C7h(os:Os)(started:os.Started)(H:Type)(enc:TypeId×Value→H):
  ReturnsInHanded {} Tryz.checked os 3 .any (fun w args=>(Rows.verifyChecksSpec.pre enc Tryz.prog Tryz.f3 [] false w args∧laidMetH Tryz.prog Rows.verifyChecksRow.laid w)∧sizedMet enc Tryz.prog Tryz.f3 (OpenSpec.ofChange Rows.verifyChecksSpec) false w args)
   (Rows.verifyChecksSpec.post enc Tryz.prog Tryz.f3 false true false false):=by
 refine returnsInHanded_of_change_and (C:=Tryz.checked) (X:=fun w _=>laidMetH Tryz.prog Rows.verifyChecksRow.laid w) (fun _ _ _ hh h=>h.of_heap hh) own started (by kernel_rfl) Tryz.func3
  (ChangeSpec.witness_shaped (enc:=enc) (C:=Tryz.checked) (os:=os) (X:=fun w _=>laidMetH Tryz.prog Rows.verifyChecksRow.laid w) false (World.doorLaid Tryz.prog 33 os) #[.agg #[.string ⟨#[]⟩,.int .i64 0,.int .i64 0,.bool false,.int .i64 0,.slice none 0 0,.slice none 0 0,.slice none 0 0,.slice none 0 0,.slice none 0 0,.slice none 0 0]] 8 rfl (World.shaped_of_RefB (by kernel_rfl) (by kernel_rfl)) (by kernel_rfl) (by kernel_rfl) (by kernel_rfl) (C2o os _)) ?_
 intro W base args ds gs before hval hW _ hsz hL _
 have hpar:Tryz.f3.params.toList= [29]:=by rw [Tryz.params3]
 refine B5t (P:=Tryz.prog) (fid:=3) (f:=Tryz.f3) (s:=Rows.verifyChecksSpec) (ts:= [29,9,3,4,22,23,24,25,26,27,37,77,58,81,75]) (tb:=4) (by kernel_rfl) (by kernel_rfl) (slices_full_of _ (by kernel_rfl)) (by kernel_rfl)
  (by rw [hpar];decide) (by rw [hpar];intro t ht;exact Nat.lt_of_lt_of_le (show t<82 by revert t;decide) (of_decide_eq_true (by kernel_rfl))) rfl ?_ (by kernel_rfl) (by kernel_rfl) ?_ (C0J hL) hval hW hsz
 ·intro ds hl
  rw [hpar]at hl
  match ds,hl with
  | [d0],_=>rfl
 ·intro xs has
  rw [hpar]at has
  exact B1b xs has
theorem over:Rows.verifyChecksRow.holds Tryz.pinned (OpenSpec.ofChange Rows.verifyChecksSpec):=
 OpenClaim.holds_of_wide 3 Tryz.f3 rfl rfl rfl rfl rfl rfl rfl ⟨rfl,rfl,rfl,rfl,rfl⟩ rfl rfl rfl rfl rfl (by kernel_rfl) Tryz.func3 (by kernel_rfl)
  (of_decide_eq_true (by kernel_rfl)) (by unfold Func.isWrapper;first|(rw [if_pos (by decide+kernel)];kernel_rfl)|(rw [if_neg (by decide+kernel)];exact⟨rfl,rfl⟩))
  (fun os started H enc _=>C7h os started H enc)
end Go.Proofs.YtnihmhbcjpcobaaGreatDoor.closeVerifyChecks
namespace Go.Proofs.YtnihmhbcjpcobaaGreatDoor
open Go
theorem verifyChecks_holds:Rows.VerifyChecksCardSaid:=
 Claim7.holds_tied_plain_at .later [] [.listed,.data] true (true, "81494f41614ef4a178fb80c282e16855c2dcba8354bc0fe29df38550405e29ff") false
  closeVerifyChecks.over (fun _ h=>by cases h) (by kernel_rfl) (fun _ h=>by cases h) verifyChecks_row_tie rfl ⟨rfl,rfl⟩ (by kernel_rfl) rfl
  (fun f fn hf hfn=>by
    obtain rfl:f=3:=Option.some.inj ((show Tryz.prog.funcNamed "scripting/scriptinglaw36.VerifyChecks" =some 3 by kernel_rfl).symm.trans hf)|>.symm
    obtain rfl:fn=Tryz.f3:=(Option.some.inj (Tryz.func3.symm.trans hfn)).symm
    exact⟨by kernel_rfl,fun j t ht=>by
     rw [Tryz.params3]at ht
     have hm:t∈ [29]:=by simpa using Array.mem_of_getElem? ht
     have hall:([29].all fun u=> !Tryz.prog.wantsStandIn u)=true:=by kernel_rfl
     exact(show Tryz.prog.wantsStandIn t=false by simpa using List.all_eq_true.1 hall t hm)⟩)
  (by kernel_rfl)
end Go.Proofs.YtnihmhbcjpcobaaGreatDoor
