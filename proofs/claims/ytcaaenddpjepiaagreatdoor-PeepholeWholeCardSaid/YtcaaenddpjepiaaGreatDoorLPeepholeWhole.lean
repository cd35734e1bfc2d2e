/-
 PeepholeWhole: whatever the input, the law returns true; the input reads as it did. The listed package-level variables hold what the program's text lays in them (a tied card). No other condition.
-/
import Derived.Test.YtcaaenddpjepiaaGreatDoorTsub
import Derived.Test.YtcaaenddpjepiaaGreatDoorWhZ
import Derived.Test.YtcaaenddpjepiaaGreatDoorTab
import Derived.Test.YtcaaenddpjepiaaGreatDoorRows
import Derived.Test.YtcaaenddpjepiaaGreatDoorTie
import Derived.Test.YtcaaenddpjepiaaGreatDoorCards
import Derived.WalkKit
import Derived.ProofKit
import Derived.OpenShut
import Derived.LaidMore
import Derived.LaidOnce
import Derived.SevenTiedAt
set_option linter.unusedVariables false
set_option linter.unusedSimpArgs false
set_option maxRecDepth 100000
namespace Go.Proofs.YtcaaenddpjepiaaGreatDoor.closePeepholeWhole
open Go Go.Abs Go.ChangeShapes Go.WideShapes Go.ChangeAt Go.RowKit
theorem B2A(x:List V)(h:B2f Tryz.prog [29] x):Pure Tryz.prog 3 x (.bool true):=by
 obtain⟨v,r,rfl,a,s⟩:=h.cons
 obtain⟨n,rfl,w⟩:=a.struct zj
 obtain rfl:=s.nil
 exact B1I n w
theorem own:ownKnob Tryz.prog.godebug=none:=by kernel_rfl
theorem C8o(os:Os)(args:Array Value):laidMetH Tryz.prog Rows.peepholeWholeRow.laid ((World.doorLaid Tryz.prog 33 os).forCall (fun _ _=>0) ⟨#[],args,[]⟩).memory:=
 laidMetH_of_parts3 (fuel:=8) (laidMet_of_run' 8 zj zj) zj zj
theorem D3I(os:Os)(c:os.Started)(H:Type)(enc:TypeId×Value→H):
  ReturnsInHanded {} Tryz.checked os 3 .any (fun w b=>(Rows.peepholeWholeSpec.pre enc Tryz.prog Tryz.f3 [] false w b∧laidMetH Tryz.prog Rows.peepholeWholeRow.laid w)∧sizedMet enc Tryz.prog Tryz.f3 (OpenSpec.ofChange Rows.peepholeWholeSpec) false w b)
   (Rows.peepholeWholeSpec.post enc Tryz.prog Tryz.f3 false true false false):=by
 refine returnsInHanded_of_change_and (C:=Tryz.checked) (X:=fun w _=>laidMetH Tryz.prog Rows.peepholeWholeRow.laid w) (fun _ _ _ n h=>h.of_heap n) own c zj Tryz.func3
  (ChangeSpec.witness_shaped (enc:=enc) (C:=Tryz.checked) (os:=os) (X:=fun w _=>laidMetH Tryz.prog Rows.peepholeWholeRow.laid w) false (World.doorLaid Tryz.prog 33 os) #[.agg #[.string ⟨#[]⟩,.int .i64 0,.int .i64 0,.bool false,.int .i64 0,.slice none 0 0,.slice none 0 0,.slice none 0 0,.slice none 0 0,.slice none 0 0,.slice none 0 0]] 8 rfl (World.shaped_of_RefB zj zj) zj zj zj (C8o os _)) ?_
 intro W j b l p g e o _ i m _
 have a:Tryz.f3.params.toList= [29]:=by rw [Tryz.params3]
 refine B9M (P:=Tryz.prog) (fid:=3) (f:=Tryz.f3) (s:=Rows.peepholeWholeSpec) (ts:= [29,9,3,4,22,23,24,25,26,27,38,63,66,69,61]) (tb:=4) zj zj (slices_full_of _ zj) zj
  (by rw [a];decide) (by rw [a];intro t q;exact Nat.lt_of_lt_of_le (show t<70 by revert t;decide) (of_decide_eq_true zj)) rfl ?_ zj zj ?_ (C6y m) e o i
 ·intro l k
  rw [a]at k
  match l,k with
  | [d0],_=>rfl
 ·intro x d
  rw [a]at d
  exact B2A x d
theorem over:Rows.peepholeWholeRow.holds Tryz.pinned (OpenSpec.ofChange Rows.peepholeWholeSpec):=
 OpenClaim.holds_of_wide 3 Tryz.f3 rfl rfl rfl rfl rfl rfl rfl ⟨rfl,rfl,rfl,rfl,rfl⟩ rfl rfl rfl rfl rfl zj Tryz.func3 zj
  (of_decide_eq_true zj) (by unfold Func.isWrapper;first|(rw [if_pos (by decide+kernel)];kernel_rfl)|(rw [if_neg (by decide+kernel)];exact⟨rfl,rfl⟩))
  (fun o s H e _=>D3I o s H e)
end Go.Proofs.YtcaaenddpjepiaaGreatDoor.closePeepholeWhole
namespace Go.Proofs.YtcaaenddpjepiaaGreatDoor
open Go
theorem peepholeWhole_holds:Rows.PeepholeWholeCardSaid:=
 Claim7.holds_tied_plain_at .later [] [.listed,.data] true (true, "b6caaaadfc62d4ecffad34043673460e0b79f38066a255d800e2024975bda5eb") false
  closePeepholeWhole.over (fun _ h=>by cases h) zj (fun _ h=>by cases h) peepholeWhole_row_tie rfl ⟨rfl,rfl⟩ zj rfl
  (fun f g d b=>by
    obtain rfl:f=3:=Option.some.inj ((show Tryz.prog.funcNamed "scripting/scriptinglaw41.PeepholeWhole" =some 3 by kernel_rfl).symm.trans d)|>.symm
    obtain rfl:g=Tryz.f3:=(Option.some.inj (Tryz.func3.symm.trans b)).symm
    exact⟨by kernel_rfl,fun j t c=>by
     rw [Tryz.params3]at c
     have e:t∈ [29]:=by simpa using Array.mem_of_getElem? c
     have a:([29].all fun u=> !Tryz.prog.wantsStandIn u)=true:=by kernel_rfl
     exact(show Tryz.prog.wantsStandIn t=false by simpa using List.all_eq_true.1 a t e)⟩)
  zj
end Go.Proofs.YtcaaenddpjepiaaGreatDoor
