/-
 DumpRoundTrips: whatever the input whose bulk is at most 1048576, the law returns true; the input reads as it did. The listed package-level variables hold what the program's text lays in them (a tied card). No other condition.
-/
import Derived.Test.YtcjgeliglgcflaaGreatDoorArg
import Derived.Test.YtcjgeliglgcflaaGreatDoorPost
import Derived.Test.YtcjgeliglgcflaaGreatDoorDmT
import Derived.Test.YtcjgeliglgcflaaGreatDoorDmB
import Derived.Test.YtcjgeliglgcflaaGreatDoorTab
import Derived.Test.YtcjgeliglgcflaaGreatDoorRows
import Derived.Test.YtcjgeliglgcflaaGreatDoorTie
import Derived.Test.YtcjgeliglgcflaaGreatDoorCards
import Derived.WalkKit
import Derived.ProofKit
import Derived.OpenShut
import Derived.LaidMore
import Derived.LaidOnce
import Derived.SevenTiedAt
import Derived.Deep.DeepHandedRow
import Derived.Deep.DeepWitnessRowRef
set_option linter.unusedVariables false
set_option linter.unusedSimpArgs false
set_option maxRecDepth 100000
set_option maxHeartbeats 0
namespace Go.Proofs.YtcjgeliglgcflaaGreatDoor.closeDumpRoundTrips
open Go Go.Abs Go.ChangeShapes Go.WideShapes Go.ChangeAt Go.RowKit
theorem A7X(xs:List V)(has:C9g Tryz.prog [29] xs)(hsm:bkL xs≤1048576):Pure Tryz.prog 3 xs (.bool true):=by
 obtain⟨v0,r0,rfl,h0,s0⟩:=has.cons
 obtain⟨n0,rfl,w0⟩:=h0.struct (by kernel_rfl)
 obtain rfl:=s0.nil
 exact A7l n0 w0 hsm
theorem own:ownKnob Tryz.prog.godebug=none:=by kernel_rfl
theorem B0L{P:Program}{w:World}{l:List (String×DataW Unit)}(fuel M:Nat)
  (h:((DataW.laidRun P w fuel (l.map (·.1))).bind fun x=>if nodupBits M x.2 0&&laidRowsB P w x.2 then some x.1 else none)=some l):laidMet P l w:=by
 obtain⟨⟨a,ps⟩,hx,d⟩:=Option.bind_eq_some_iff.1 h
 split at d
 ·rename_i hb
  simp only [Bool.and_eq_true]at hb
  obtain rfl:=Option.some.inj d
  exact laidMet_of_run (ps:=ps) fuel hx (decide_eq_true (nodupBits_sound hb.1).1) hb.2
 ·cases d
noncomputable def B2o (os:Os):World:=World.doorLaid Tryz.prog 48 os
theorem C1c(os:Os)(args:Array Value):laidMetH Tryz.prog Rows.dumpRoundTripsUptoRow.laid ((B2o os).forCall (fun _ _=>0) ⟨#[],args,[]⟩).memory:=
 laidMetH_of_parts3 (fuel:=8) (B0L 8 257 (by kernel_rfl)) (by kernel_rfl) (by kernel_rfl)
theorem V9(os:Os){H:Type}(enc:TypeId×Value→H):DataW.whole enc Tryz.prog ((B2o os).forCall (fun _ _=>0) ⟨#[], #[.agg #[.string ⟨#[]⟩,.int .i64 0,.int .i64 0,.bool false,.int .i64 0,.slice none 0 0,.slice none 0 0,.slice none 0 0,.slice none 0 0,.slice none 0 0,.slice none 0 0]],[]⟩).memory Tryz.f3.params.toList Rows.dumpRoundTripsSpec.vars false #[.agg #[.string ⟨#[]⟩,.int .i64 0,.int .i64 0,.bool false,.int .i64 0,.slice none 0 0,.slice none 0 0,.slice none 0 0,.slice none 0 0,.slice none 0 0,.slice none 0 0]].toList 8=some ([.agg [.lit (.string []),.lit (.int .i64 0),.lit (.int .i64 0),.lit (.bool false),.lit (.int .i64 0),.nil,.nil,.nil,.nil,.nil,.nil]],[],[]):=by kernel_rfl
theorem C6y(os:Os)(started:os.Started)(H:Type)(enc:TypeId×Value→H)(F:Stop.Interp):
  ReturnsInHanded {} Tryz.checked os 3 .any ((Rows.OpenSpec.upto Rows.dumpRoundTripsSpec).preRow enc Tryz.prog Tryz.f3 Rows.dumpRoundTripsUptoRow.domain false Rows.dumpRoundTripsUptoRow.laid) (((Rows.OpenSpec.upto Rows.dumpRoundTripsSpec).at F).post enc Tryz.prog Tryz.f3 false true false false):=by
 refine returnsInHanded_of_row (C:=Tryz.checked) (s:=Rows.OpenSpec.upto Rows.dumpRoundTripsSpec) own started (by kernel_rfl) Tryz.func3
  (witness_row_atRef (enc:=enc) (C:=Tryz.checked) false (B2o os) #[.agg #[.string ⟨#[]⟩,.int .i64 0,.int .i64 0,.bool false,.int .i64 0,.slice none 0 0,.slice none 0 0,.slice none 0 0,.slice none 0 0,.slice none 0 0,.slice none 0 0]] rfl (by kernel_rfl) (by kernel_rfl) (by kernel_rfl)
    (OpenSpec.preRow_of_cond 8 (V9 os enc) (by kernel_rfl) (fun k hk=>by cases hk;kernel_rfl) (by kernel_rfl) (C1c os _))) ?_
 intro W base args ds gs before hval hW _ hcond hwt hL hS _
 have hpar:Tryz.f3.params.toList= [29]:=by rw [Tryz.params3]
 have hb:Rows.uptoBulkAll (ds++gs)≤1048576:=of_decide_eq_true (hcond _ rfl)
 rw [B5h]at hb
 refine B2U (fun ds=>Rows.uptoBulkAll ds≤1048576) (P:=Tryz.prog) (fid:=3) (f:=Tryz.f3) (s:=Rows.dumpRoundTripsSpec) (ts:= [29,9,3,4,22,23,24,25,26,27,68,74,77,80,72]) (tb:=4) (by kernel_rfl) (by kernel_rfl) (slices_full_of _ (by kernel_rfl)) (by kernel_rfl)
  (by rw [hpar];decide) (by rw [hpar];intro t ht;exact Nat.lt_of_lt_of_le (show t<81 by revert t;decide) (of_decide_eq_true (by kernel_rfl))) rfl ?_ (by kernel_rfl) (by kernel_rfl) ?_ (B9H hL hS (i:=4) (j:=2)) hval hW hwt (by omega)
 ·intro ds hl
  rw [hpar]at hl
  match ds,hl with
  | [d0],_=>rfl
 ·intro xs ds has hAs hbk
  rw [hpar]at has
  exact A7X xs has (Nat.le_trans (C4z hAs) hbk)
end Go.Proofs.YtcjgeliglgcflaaGreatDoor.closeDumpRoundTrips
