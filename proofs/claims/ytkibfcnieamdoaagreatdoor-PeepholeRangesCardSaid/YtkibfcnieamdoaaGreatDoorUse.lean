/-
  Sets of registers as arrays: 'uses' and 'defines' of flow. No condition.
-/
import Derived.Test.YtkibfcnieamdoaaGreatDoorPut
import Derived.Test.YtkibfcnieamdoaaGreatDoorRwM
set_option linter.unusedVariables false
set_option linter.unusedSimpArgs false
set_option maxRecDepth 100000
set_option maxHeartbeats 0
namespace Go.Proofs.YtkibfcnieamdoaaGreatDoor
open Go.Abs
attribute [local irreducible] CallS Run
-- EV: Ins.v, Ins.row
def upsF (N : Nat) (us : List (List UInt8 × Bool × Int)) (f : Nat → Bool) : Nat → Bool := us.foldl (fun f u => if u.2.1 then putB N [u.2.2] (-1) f else f) f
theorem upsF_succ {N : Nat} {us : List (List UInt8 × Bool × Int)} {k : Nat} {u : List UInt8 × Bool × Int} {f : Nat → Bool} (h : us[k]? = some u) : upsF N (us.take (k + 1)) f = if u.2.1 then putB N [u.2.2] (-1) (upsF N (us.take k) f) else upsF N (us.take k) f := by
  unfold upsF
  rw [List.take_add_one, h, Option.toList_some, List.foldl_append]; rfl
def usesB (p : Pro) (i : Ins) : Nat → Bool :=
  let f := putB (regN p.regs) (reads i).1 (reads i).2 fun _ => false
  if i.op = 22 ∧ 0 ≤ i.b ∧ i.b < p.protos.length then upsF (regN p.regs) ((p.protos[i.b.toNat]?).elim [] (·.ups)) f else f
theorem rowF_bool (f : Nat → Bool) : ∀ c ∈ rowF f, ∃ b, c = .bool b := fun c hc => by
  unfold rowF at hc
  obtain ⟨x, _, rfl⟩ := List.mem_map.1 hc
  exact ⟨_, rfl⟩
theorem uses_pure (p : Pro) (i : Ins) (hsub : p.row.map (V.sub lost) = p.row) (hup : ∀ q ∈ p.protos, q.ups.length ≤ 100000) : Pure Tryz.prog 42 [.agg p.row, i.v] (.iptr [rowF (usesB p i)] 0 0) := by
  refine Pure.ofPtr (rowF_bool _) (CallS.enterK flow_uses_ok (Nat.le_of_ble_eq_true rfl) fun Q hQ => ?_)
  have hput := fun l a b c f bb st n h1 => put_c p.regs l a b c f bb st n h1
  have hrd := reads_in i
  have hpr := p.row_eq
  generalize hN : regN p.regs = N at *
  have hu : usesB p i = if i.op = 22 ∧ 0 ≤ i.b ∧ i.b < p.protos.length then upsF N ((p.protos[i.b.toNat]?).elim [] (·.ups)) (putB N (reads i).1 (reads i).2 fun _ => false) else putB N (reads i).1 (reads i).2 fun _ => false := by rw [← hN]; rfl
  generalize usesB p i = U at *
  have hlenP : (p.protos.map Pro.row).length = p.protos.length := List.length_map ..
  have hrowP : ∀ (k : Nat) (x : Pro), p.protos[k]? = some x → (p.protos.map Pro.row)[k]? = some x.row := fun k x h => by rw [List.getElem?_map, h]; rfl
  have hszP : rowsz (p.protos.map Pro.row) 11 = True := eq_true fun r hr => by obtain ⟨y, _, rfl⟩ := List.mem_map.1 hr; rw [Pro.row_eq]; rfl
  have hcr : (reads i).1.length ≤ 100000 := by
    have := asc_len (asc_reads i) (fun x hx => (hrd.1 x hx).1) (fun x hx => (hrd.1 x hx).2)
    omega
  rw [hpr] at hsub ⊢
  generalize p.protos.map Pro.row = PR at *
  generalize p.code.map Ins.row = c5 at *
  generalize p.lines.map zline = c6 at *
  generalize p.ups.map upRow = c9 at *
  simp only [List.map_cons, List.map_nil, List.cons.injEq, and_true, true_and, V.sub, subLL_map, V.isl.injEq] at hsub
  refine Run.go 100 ?_
  simp -implicitDefEqProofs only [go_sem, Ins.v, Ins.row, initSl]
  refine CallS.pureF (reads_pure i) (by simp -implicitDefEqProofs only [go_sem, Ins.v, Ins.row]) ?_
  simp -implicitDefEqProofs only [go_sem, Ins.v, Ins.row, ← rowF_none]
  refine CallS.at [0] [1, 2] (hput _ _ hcr hrd.2.1 _ _ _ _ (by decide) _ _ _ _ _ _ _ _ _ _ (by simp -implicitDefEqProofs only [go_sem, Ins.v, Ins.row, hsub])) rfl rfl ?_
  rintro r h' n' hn ⟨rfl, rfl⟩
  simp -implicitDefEqProofs only [go_sem, Ins.v, Ins.row]
  by_cases hcl : i.op = 22 ∧ 0 ≤ i.b ∧ i.b < p.protos.length
  rotate_left
  · rw [if_neg hcl] at hu
    by_cases h1 : i.op = 22
    · by_cases h2 : 0 ≤ i.b
      · have h3 := eq_false (fun h => hcl ⟨h1, h2, h⟩)
        have h2 := eq_true h2
        simp -implicitDefEqProofs only [go_sem, Ins.v, Ins.row, h1, h2, h3, hlenP]
        subst hQ; subst hu
        exact .is ⟨_, _, _, rfl, rfl⟩
      · have h2 := eq_false h2
        simp -implicitDefEqProofs only [go_sem, Ins.v, Ins.row, h1, h2]
        subst hQ; subst hu
        exact .is ⟨_, _, _, rfl, rfl⟩
    · simp -implicitDefEqProofs only [go_sem, Ins.v, Ins.row, h1]
      subst hQ; subst hu
      exact .is ⟨_, _, _, rfl, rfl⟩
  · rw [if_pos hcl] at hu
    obtain ⟨q, hq⟩ : ∃ q, p.protos[i.b.toNat]? = some q := ⟨p.protos[i.b.toNat]'(by omega), by simp⟩
    have hqr := hrowP _ _ hq
    have hupq := hup q (List.mem_of_getElem? hq)
    rw [q.row_eq] at hqr
    rw [hq] at hu
    simp only [Option.elim_some] at hu
    have h1 := hcl.1
    have h2 := eq_true hcl.2.1
    have h3 := eq_true hcl.2.2
    have h4 : (i.b.toNat < p.protos.length) = True := eq_true (by omega)
    have hlU : (q.ups.map upRow).length = q.ups.length := List.length_map ..
    have hrU : ∀ (k : Nat) (x : List UInt8 × Bool × Int), q.ups[k]? = some x → (q.ups.map upRow)[k]? = some [.str x.1, .bool x.2.1, .int .i64 x.2.2] := fun k x h => by rw [List.getElem?_map, h]; rfl
    have hzU : rowsz (q.ups.map upRow) 3 = True := eq_true fun r hr => by obtain ⟨y, _, rfl⟩ := List.mem_map.1 hr; rfl
    generalize q.ups.map upRow = UR at *
    generalize hf0 : putB N (reads i).1 (reads i).2 (fun _ => false) = f0 at *
    simp -implicitDefEqProofs only [go_sem, Ins.v, Ins.row, h1, h2, h3, h4, hlenP, hszP, hqr, Option.some.injEq, forall_eq']
    refine Run.roundsK (fun (x : Nat × Nat) => ⟨[(46, .int .i64 x.1), (45, .int .i64 q.ups.length), (44, .isl UR), (5, .ptr (42 * 10000 + 11) 2 0 0), (3, .ptr (42 * 10000 + 3) 1 0 0), (2, .ptr (42 * 10000 + 2) 0 0 0)], [((42 * 10000 + 11), 2, .rows 4096 [rowF (upsF N (q.ups.take x.1) f0)]), ((42 * 10000 + 3), 1, .rows 5 [[.int .i64 22, .int .i64 i.a, .int .i64 i.b, .int .i64 i.c, .int .i64 i.d]]), ((42 * 10000 + 2), 0, .rows 11 [[.str p.name, .int .i64 p.line, .int .i64 p.params, .bool p.vararg, .int .i64 p.regs, .isl c5, .isl c6, .isl p.consts, .isl PR, .isl c9, .isl p.vars]])], x.2⟩)
      (fun x => x.1 ≤ q.ups.length) (fun x => q.ups.length - x.1) (0, n') (Weak.wk (by simp -implicitDefEqProofs only [go_sem, Ins.v, Ins.row, hlU, List.take_zero, upsF, List.foldl_nil])) (by simp only; omega) ?_
    rintro ⟨k, m⟩ hk ih
    simp only at hk ih ⊢
    have hz : ((k + 1 : Nat) : Int) = (k : Int) + 1 := by omega
    refine Run.unf flow_uses_l0_eq (Run.go 100 ?_)
    by_cases c : (k : Int) < q.ups.length
    · obtain ⟨u, hx⟩ : ∃ u, q.ups[k]? = some u := ⟨q.ups[k]'(by omega), by simp⟩
      have hr := hrU k u hx
      have k0 : ((0 : Int) ≤ (k : Int)) = True := eq_true (by omega)
      have k1 : ((k : Int) < (q.ups.length : Int)) = True := eq_true c
      have k2 : (k < q.ups.length) = True := eq_true (by omega)
      have e := upsF_succ (N := N) (f := f0) hx
      generalize upsF N (q.ups.take k) f0 = F at *
      cases hl : u.2.1 with
      | false =>
        rw [hl] at e
        simp only [Bool.false_eq_true, if_false] at e
        simp -implicitDefEqProofs only [go_sem, Ins.v, Ins.row, hlU, hr, hzU, k0, k1, k2, hl, Option.some.injEq, forall_eq']
        refine ⟨by omega, ?_⟩
        refine ih _ (k + 1, m + 1) (by simp only; omega) (by simp only; omega) (Weak.wk ?_)
        simp only [hz, e]
        simp -implicitDefEqProofs only [go_sem, Ins.v, Ins.row]
      | true =>
        rw [hl] at e
        simp only [if_true] at e
        simp -implicitDefEqProofs only [go_sem, Ins.v, Ins.row, hlU, hr, hzU, k0, k1, k2, hl, Option.some.injEq, forall_eq']
        refine CallS.at [1] [2, 3] (hput [u.2.2] (-1) (by simp) (by omega) _ _ _ _ (by decide) _ _ _ _ _ _ _ _ _ _ (by simp -implicitDefEqProofs only [go_sem, Ins.v, Ins.row, hsub])) rfl rfl ?_
        rintro r h' n2 hn ⟨rfl, rfl⟩
        simp -implicitDefEqProofs only [go_sem, Ins.v, Ins.row]
        refine ⟨by omega, ?_⟩
        refine ih _ (k + 1, n2) (by simp only; omega) (by simp only; omega) (Weak.wk ?_)
        simp only [hz, e]
        simp -implicitDefEqProofs only [go_sem, Ins.v, Ins.row]
    · have e : k = q.ups.length := by omega
      subst e
      rw [List.take_length] 
      simp -implicitDefEqProofs only [go_sem, Ins.v, Ins.row, c, hlU]
      rw [← hu]
      subst hQ
      exact .is ⟨_, _, _, rfl, rfl⟩
def defsB (p : Pro) (at_ : Nat) (to_ : Int) : Nat → Bool :=
  match p.code[at_]? with
  | some i => if (i.op = 24 ∨ i.op = 26) ∧ ¬ (to_ = i.b ∧ to_ ≠ at_ + 1) ∨ i.op = 23 ∧ to_ = i.b then fun _ => false else putB (regN p.regs) (writes i).1 (writes i).2 fun _ => false
  | none => fun _ => false
theorem defs_pure (p : Pro) (at_ : Nat) (to_ : Int) (hat : at_ < p.code.length) (hc : p.code.length ≤ 100000) (hsub : p.row.map (V.sub lost) = p.row) : Pure Tryz.prog 43 [.agg p.row, .int .i64 at_, .int .i64 to_] (.iptr [rowF (defsB p at_ to_)] 0 0) := by
  refine Pure.ofPtr (rowF_bool _) (CallS.enterK flow_defines_ok (Nat.le_of_ble_eq_true rfl) fun Q hQ => ?_)
  have hput := fun l a b c f bb st n h1 => put_c p.regs l a b c f bb st n h1
  have hpr := p.row_eq
  obtain ⟨i, hi⟩ : ∃ i, p.code[at_]? = some i := ⟨p.code[at_]'hat, by simp [hat]⟩
  have hrd := writes_in i
  generalize hN : regN p.regs = N at *
  have hu : defsB p at_ to_ = if (i.op = 24 ∨ i.op = 26) ∧ ¬ (to_ = i.b ∧ to_ ≠ at_ + 1) ∨ i.op = 23 ∧ to_ = i.b then fun _ => false else putB N (writes i).1 (writes i).2 fun _ => false := by unfold defsB; rw [hi, ← hN]
  generalize defsB p at_ to_ = U at *
  have hlen : (p.code.map Ins.row).length = p.code.length := List.length_map ..
  have hr : (p.code.map Ins.row)[at_]? = some i.row := by rw [List.getElem?_map, hi]; rfl
  have hsz : rowsz (p.code.map Ins.row) 5 = True := eq_true fun r hr => by obtain ⟨y, _, rfl⟩ := List.mem_map.1 hr; rfl
  have hcr : (writes i).1.length ≤ 100000 := by
    have := asc_len (asc_writes i) (fun x hx => (hrd.1 x hx).1) (fun x hx => (hrd.1 x hx).2)
    omega
  rw [hpr] at hsub ⊢
  generalize p.protos.map Pro.row = c8 at *
  generalize p.code.map Ins.row = es at *
  generalize p.lines.map zline = c6 at *
  generalize p.ups.map upRow = c9 at *
  simp only [List.map_cons, List.map_nil, List.cons.injEq, and_true, true_and, V.sub, subLL_map, V.isl.injEq] at hsub
  have k0 : ((0 : Int) ≤ (at_ : Int)) = True := eq_true (by omega)
  have k1 : ((at_ : Int) < (p.code.length : Int)) = True := eq_true (by omega)
  have k2 : (at_ < p.code.length) = True := eq_true hat
  refine Run.go 100 ?_
  simp -implicitDefEqProofs only [go_sem, Ins.v, Ins.row, initSl, hlen, hr, hsz, k0, k1, k2, Option.some.injEq, forall_eq']
  have hwp := writes_pure i
  repeat' (first | refine And.intro ?_ ?_ | refine fun h => ?_)
  all_goals (try simp only [Bool.not_eq_eq_eq_not, Bool.not_true, Bool.not_false, decide_eq_false_iff_not, decide_eq_true_eq, Decidable.not_not] at *)
  all_goals first
    | omega
    | (rw [if_pos (by omega)] at hu
       subst hQ; subst hu
       exact .is ⟨_, _, _, rfl, by rw [rowF_none]; rfl⟩)
    | (rw [if_neg (by omega)] at hu
       refine CallS.pureF hwp (by simp -implicitDefEqProofs only [go_sem, Ins.v, Ins.row]) ?_
       simp -implicitDefEqProofs only [go_sem, Ins.v, Ins.row, ← rowF_none]
       refine CallS.at [1] [0, 2] (hput _ _ hcr hrd.2.1 _ _ _ _ (by decide) _ _ _ _ _ _ _ _ _ _ (by simp -implicitDefEqProofs only [go_sem, Ins.v, Ins.row, hsub])) rfl rfl ?_
       rintro r h' n' hn ⟨rfl, rfl⟩
       simp -implicitDefEqProofs only [go_sem, Ins.v, Ins.row]
       subst hQ; subst hu
       exact .is ⟨_, _, _, rfl, rfl⟩)
end Go.Proofs.YtkibfcnieamdoaaGreatDoor
