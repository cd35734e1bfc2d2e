/-
 ListingReads: whatever the input, the law returns true; the input reads as it did. The listed package-level variables hold what the program's text lays in them (a tied card). No other condition.
-/
import Derived.Test.YtflobbpcabopjaaGreatDoorArg
import Derived.Test.YtflobbpcabopjaaGreatDoorPost
import Derived.Test.YtflobbpcabopjaaGreatDoorLpPf
import Derived.Test.YtflobbpcabopjaaGreatDoorLs0
import Derived.Test.YtflobbpcabopjaaGreatDoorTab
import Derived.Test.YtflobbpcabopjaaGreatDoorRows
import Derived.Test.YtflobbpcabopjaaGreatDoorTie
import Derived.Test.YtflobbpcabopjaaGreatDoorCards
import Derived.WalkKit
import Derived.ProofKit
import Derived.OpenShut
import Derived.LaidMore
import Derived.LaidOnce
import Derived.SevenTiedAt
import Derived.Deep.DeepHandedRow
import Derived.Deep.DeepWitnessRowRef
set_option linter.unusedVariables false set_option maxRecDepth 100000
set_option maxHeartbeats 0
namespace Go.Abs
theorem ret_and_shaped {H : Type} {enc : TypeId × Value → H} {a : Assume} {C : Checked} {os : Os} {f : FuncId} {fn : Func} {s : ChangeSpec} {conds : List PathCond} {apart fresh handsOn again : Bool} {X : World → Array Value → Prop}
    (hX : ∀ (w w' : World) (args : Array Value), w.heap = w'.heap → X w args → X w' args)
    (own : ownKnob C.prog.godebug = none) (started : os.Started) (noInit : C.prog.inits.idxOf? f = none) (hfn : C.prog.funcs[f]? = some fn)
    (witness : ∃ (w : World) (tape : Tape) (i : Input), w.os = os ∧ (w.forCall tape i).Shaped C.prog ∧ i.vars = [] ∧ Input.okWide C.prog (w.forCall tape i) .any w.heap.size f i ∧
      ((s.pre enc C.prog fn conds apart (w.forCall tape i).memory i.args ∧ X (w.forCall tape i).memory i.args) ∧ sizedMet enc C.prog fn (OpenSpec.ofChange s) apart (w.forCall tape i).memory i.args) ∧ a.holds C.prog (lone (Frame.enter C.prog f i.args .normal) [] (w.forCall tape i)))
    (contract : ∀ (W : World) (base : Nat) (args : Array Value) (ds gs : List (DataW H)) (before : List MemPlace),
      (∀ (j : Nat) t v, fn.params[j]? = some t → args[j]? = some v → Value.okWide C.prog W .any base t v) →
      DataW.Whole enc C.prog fn.params.toList s.vars apart W args.toList ds gs before →
      (DataW.weightsEach C.prog (fn.params.toList ++ s.plain.varTypes C.prog) (ds ++ gs)).all (· ≤ reachBytes) = true → X W args → W.ShapedOpen C.prog →
      Calls C.prog f args W fun e W' => ∃ v, e = .returned v ∧ s.post enc C.prog fn apart fresh handsOn again W args v W') :
    ReturnsInHanded a C os f .any (fun w args => (s.pre enc C.prog fn conds apart w args ∧ X w args) ∧ sizedMet enc C.prog fn (OpenSpec.ofChange s) apart w args) (s.post enc C.prog fn apart fresh handsOn again) := by
  refine returnsInHanded_of_calls own started noInit witness ?_
  intro w tape i _ hsh _ hok hpre hholds
  obtain ⟨_, _, _, fn', hfn', _, _, _, _, hval⟩ := hok
  have e : fn' = fn := Option.some.inj (hfn'.symm.trans hfn)
  subst e
  obtain ⟨⟨⟨ds, gs, before, hw, hc⟩, hx⟩, hz⟩ := hpre
  have hw' := DataW.Whole.of_heap (w' := w.forCall tape i) (by rfl) hw
  refine (contract (w.forCall tape i) w.heap.size i.args ds gs before hval hw' (hz.weights hw) (hX _ _ _ (by rfl) hx) hsh).mono fun e W' ⟨v, he, hp⟩ => ?_
  subst he
  exact ChangeSpec.post_blind hp
end Go.Abs
namespace Go.Proofs.YtflobbpcabopjaaGreatDoor.closeReadsAll
open Go Go.Abs Go.ChangeShapes Go.WideShapes Go.ChangeAt Go.RowKit
theorem B3h(xs:List V)(has:C5N Tryz.prog [9] xs):Pure Tryz.prog 4 xs (.bool true):=by
 obtain⟨v0,r0,rfl,h0,s0⟩:=has.cons
 obtain⟨n0,rfl,w0⟩:=h0.str Tryz.underlying9
 obtain rfl:=s0.nil
 exact readsAny n0
theorem own:ownKnob Tryz.prog.godebug=none:=by kernel_rfl
theorem T1{P:Program}{w:World}{l:List (String×DataW Unit)}(fuel M:Nat)
  (h:((DataW.laidRun P w fuel (l.map (·.1))).bind fun x=>if nodupBits M x.2 0&&laidRowsB P w x.2 then some x.1 else none)=some l):laidMet P l w:=by
 obtain⟨⟨a,ps⟩,hx,d⟩:=Option.bind_eq_some_iff.1 h
 split at d
 ·rename_i hb
  simp only [Bool.and_eq_true]at hb
  obtain rfl:=Option.some.inj d
  exact laidMet_of_run (ps:=ps) fuel hx (decide_eq_true (nodupBits_sound hb.1).1) hb.2
 ·cases d
noncomputable def W1 (os:Os):World:=
 let w0:=World.doorLaid Tryz.prog 96 os
 {w0 with heap:=w0.heap.modify 3 fun
  | .cells _ t frozen=> .cells (Go.Pinned.utf8FirstZ.map fun(z:Nat)=>Value.int .u8 (z:Int)).toArray t frozen
  |o=>o}
theorem A8d(os:Os)(args:Array Value):laidMetH Tryz.prog Rows.listingReadsRow.laid ((W1 os).forCall (fun _ _=>0) ⟨#[],args,[]⟩).memory:=
 laidMetH_of_parts3 (fuel:=8) (T1 8 257 zh) zh zh
theorem B5l(os:Os)(started:os.Started)(H:Type)(enc:TypeId×Value→H):
  ReturnsInHanded {} Tryz.checked os 4 .any (fun w args=>(Rows.listingReadsSpec.pre enc Tryz.prog Tryz.f4 [] false w args∧laidMetH Tryz.prog Rows.listingReadsRow.laid w)∧sizedMet enc Tryz.prog Tryz.f4 (OpenSpec.ofChange Rows.listingReadsSpec) false w args)
   (Rows.listingReadsSpec.post enc Tryz.prog Tryz.f4 false true false false):=by
 refine ret_and_shaped (C:=Tryz.checked) (X:=fun w _=>laidMetH Tryz.prog Rows.listingReadsRow.laid w) (fun _ _ _ hh h=>h.of_heap hh) own started (by kernel_rfl) Tryz.func4
  (ChangeSpec.witness_shaped (enc:=enc) (C:=Tryz.checked) (os:=os) (X:=fun w _=>laidMetH Tryz.prog Rows.listingReadsRow.laid w) false (W1 os) #[.string ⟨#[]⟩] 8 rfl (World.shaped_of_RefB (by kernel_rfl) (by kernel_rfl)) (by kernel_rfl) (by kernel_rfl) (by kernel_rfl) (A8d os _)) ?_
 intro W base args ds gs before hval hW hsz hL hS
 have hpar:Tryz.f4.params.toList= [9]:=by rw [Tryz.params4]
 refine A4K (fun _=>True) (P:=Tryz.prog) (fid:=4) (f:=Tryz.f4) (s:=Rows.listingReadsSpec) (ts:= [9,4]) (tb:=4) (by kernel_rfl) (by kernel_rfl) (slices_full_of _ (by kernel_rfl)) (by kernel_rfl)
  (by rw [hpar];decide) (by rw [hpar];intro t ht;exact Nat.lt_of_lt_of_le (show t<10 by revert t;decide) (of_decide_eq_true (by kernel_rfl))) rfl ?_ (by kernel_rfl) (by kernel_rfl) ?_ (B3g hL hS (i:=7) (j:=2)) hval hW hsz trivial
 ·intro ds hl
  rw [hpar]at hl
  match ds,hl with
  | [d0],_=>rfl
 ·intro xs ds has _ _
  rw [hpar]at has
  exact B3h xs has
end Go.Proofs.YtflobbpcabopjaaGreatDoor.closeReadsAll
