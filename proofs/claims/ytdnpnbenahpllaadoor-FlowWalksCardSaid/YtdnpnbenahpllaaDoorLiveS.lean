/-
  Functions of the statements about live registers: 'has', 'few', 'captures', 'captured', 'written'. No condition.
-/
import Derived.Test.YtdnpnbenahpllaaDoorLiveP
import Derived.Test.YtdnpnbenahpllaaDoorOpc5
set_option linter.unusedVariables false
set_option linter.unusedSimpArgs false
set_option maxRecDepth 100000
set_option maxHeartbeats 0
namespace Go.Proofs.YtdnpnbenahpllaaDoor
open Go.Abs
attribute [local irreducible] CallS Run
-- EV: Ins.v, Ins.row

theorem any_at' {α : Type} {l : List α} {f : α → Bool} {k : Nat} {x : α} (hx : l[k]? = some x) (h : f x = true) : l.any f = true := List.any_eq_true.2 ⟨x, List.mem_of_getElem? hx, h⟩
theorem any_next' {α : Type} {l : List α} {f : α → Bool} {k : Nat} {x : α} (h : (l.take k).any f = false) (hx : l[k]? = some x) (hf : f x = false) : (l.take (k + 1)).any f = false := by
  rw [List.take_add_one, hx, List.any_append, h]; simp [hf]
theorem any_all' {α : Type} {l : List α} {f : α → Bool} (h : (l.take l.length).any f = false) : l.any f = false := by rwa [List.take_length] at h

theorem has_pure (l : List Int) (z : Int) (hl : l.length ≤ 1000000) : Pure Tryd.prog 15 [.isl (l.map zrw), .int .i64 z] (.bool (l.any fun x => decide (x = z))) := by
  have hrow : ∀ (k : Nat) (x : Int), l[k]? = some x → (l.map zrw)[k]? = some [.int .i64 x] := fun k x h => zrw_at h
  have hlen : (l.map zrw).length = l.length := List.length_map ..
  have hsz := rowszZ' l
  generalize hv : (l.any fun x => decide (x = z)) = v
  generalize l.map zrw = es at *
  refine Pure.of 0 (CallS.enter scriptinglaw35_has_ok (Nat.le_of_ble_eq_true rfl) (Run.go 100 ?_))
  simp -implicitDefEqProofs only [go_sem, Ins.v, Ins.row, initSl, hlen]
  refine Run.keep [8, 7, 1, 0] ?_
  refine Run.rounds (fun (x : Nat) => ⟨[(8, .int .i64 x), (7, .int .i64 l.length), (1, .int .i64 z), (0, .isl es)], [], 0⟩) (fun x => x ≤ l.length ∧ ((l.take x).any fun x => decide (x = z)) = false) (fun x => l.length - x) 0 (by simp -implicitDefEqProofs only [go_sem, Ins.v, Ins.row]) ⟨Nat.zero_le _, rfl⟩ ?_
  rintro k ⟨hk, hno⟩ ih
  refine Run.unf scriptinglaw35_has_l0_eq (Run.go 100 ?_)
  by_cases hlt : k < l.length
  · have q0 : ((k : Int) < (l.length : Int)) = True := eq_true (by omega)
    have q1 : ((0 : Int) ≤ (k : Int)) = True := eq_true (by omega)
    obtain ⟨x, hx⟩ : ∃ x, l[k]? = some x := ⟨l[k], by simp [hlt]⟩
    have hxr := hrow k x hx
    have hzk : ((k + 1 : Nat) : Int) = (k : Int) + 1 := by omega
    by_cases c : x = z
    · have ha := any_at' (f := fun x => decide (x = z)) hx (decide_eq_true c)
      rw [hv] at ha
      subst ha
      simp -implicitDefEqProofs only [go_sem, Ins.v, Ins.row, q0, q1, hlen, hsz, hxr, c, hlt, Option.some.injEq, forall_eq']
    · simp -implicitDefEqProofs only [go_sem, Ins.v, Ins.row, q0, q1, hlen, hsz, hxr, c, hlt, Option.some.injEq, forall_eq']
      refine ⟨by omega, ?_⟩
      exact ih _ (k + 1) ⟨by omega, any_next' hno hx (decide_eq_false c)⟩ (by omega) (by simp -implicitDefEqProofs only [go_sem, Ins.v, Ins.row, hzk])
  have e : k = l.length := by omega
  subst e
  have m := any_all' hno
  rw [hv] at m
  subst m
  simp -implicitDefEqProofs only [go_sem, Ins.v, Ins.row, Int.lt_irrefl]

/-- A function of which at most 60 registers are looked at. -/
def fewP (p : Pro) : Pro := { p with regs := if 60 < p.regs then 60 else p.regs }
theorem few_pure (p : Pro) (hsub : p.row.map (V.sub lost) = p.row) : Pure Tryd.prog 8 [.agg p.row] (.agg (fewP p).row) := by
  refine Pure.of 0 (CallS.enter scriptinglaw35_few_ok (Nat.le_of_ble_eq_true rfl) (Run.go 100 ?_))
  rw [(fewP p).row_eq]
  rw [p.row_eq] at hsub ⊢
  simp only [fewP]
  generalize p.protos.map Pro.row = c8 at *
  generalize p.code.map Ins.row = c5 at *
  generalize p.lines.map zline = c6 at *
  generalize p.ups.map upRow = c9 at *
  simp only [List.map_cons, List.map_nil, List.cons.injEq, and_true, true_and, V.sub, subLL_map, V.isl.injEq] at hsub
  by_cases c : 60 < p.regs
  · simp -implicitDefEqProofs only [go_sem, Ins.v, Ins.row, initSl, c]
    exact hsub
  · simp -implicitDefEqProofs only [go_sem, Ins.v, Ins.row, initSl, c]
    exact hsub

def capB (q : Pro) (z : Int) : Bool := q.ups.any fun u => u.2.1 && decide (u.2.2 = z)
theorem captures_pure (q : Pro) (z : Int) (hl : q.ups.length ≤ 1000000) : Pure Tryd.prog 36 [.agg q.row, .int .i64 z] (.bool (capB q z)) := by
  obtain ⟨h1, h2⟩ := pro_row11 q
  have g9 : q.row[9]? = some (.isl (q.ups.map upRow)) := by rw [q.row_eq]; rfl
  have k9 : (q.ups.map upRow).length = q.ups.length := List.length_map ..
  have z9 := rowszP upRow 3 (fun _ => rfl) q.ups
  have r9 : ∀ (k : Nat) x, q.ups[k]? = some x → (q.ups.map upRow)[k]? = some [.str x.1, .bool x.2.1, .int .i64 x.2.2] := fun k x hk => by rw [List.getElem?_map, hk]; rfl
  generalize hv : capB q z = v
  unfold capB at hv
  generalize q.ups.map upRow = es at *
  generalize q.row = pr at *
  refine Pure.of 0 (CallS.enter scriptinglaw35_captures_ok (Nat.le_of_ble_eq_true rfl) (Run.go 100 ?_))
  simp -implicitDefEqProofs only [go_sem, Ins.v, Ins.row, initSl, h1, h2, g9, k9]
  refine Run.keep [9, 8, 2, 1] ?_
  refine Run.rounds (fun (x : Nat) => ⟨[(9, .int .i64 x), (8, .int .i64 q.ups.length), (2, .ptr (36 * 10000 + 2) 0 0 0), (1, .int .i64 z)], [((36 * 10000 + 2), 0, .rows 11 [pr])], 1⟩) (fun x => x ≤ q.ups.length ∧ ((q.ups.take x).any fun u => u.2.1 && decide (u.2.2 = z)) = false) (fun x => q.ups.length - x) 0 (by simp -implicitDefEqProofs only [go_sem, Ins.v, Ins.row]) ⟨Nat.zero_le _, rfl⟩ ?_
  rintro k ⟨hk, hno⟩ ih
  refine Run.unf scriptinglaw35_captures_l0_eq (Run.go 100 ?_)
  by_cases hlt : k < q.ups.length
  · have q0 : ((k : Int) < (q.ups.length : Int)) = True := eq_true (by omega)
    have q1 : ((0 : Int) ≤ (k : Int)) = True := eq_true (by omega)
    obtain ⟨⟨un, ul, ui⟩, hx⟩ : ∃ x, q.ups[k]? = some x := ⟨q.ups[k], by simp [hlt]⟩
    have hxr := r9 k _ hx
    simp only at hxr
    have hzk : ((k + 1 : Nat) : Int) = (k : Int) + 1 := by omega
    cases ul with
    | false =>
      simp -implicitDefEqProofs only [go_sem, Ins.v, Ins.row, q0, q1, h1, h2, g9, k9, z9, hxr, hlt, Option.some.injEq, forall_eq']
      refine ⟨by omega, ?_⟩
      exact ih _ (k + 1) ⟨by omega, any_next' hno hx rfl⟩ (by omega) (by simp -implicitDefEqProofs only [go_sem, Ins.v, Ins.row, hzk])
    | true =>
      by_cases c : ui = z
      · have ha := any_at' (f := fun u : List UInt8 × Bool × Int => u.2.1 && decide (u.2.2 = z)) hx (by simp [c])
        rw [hv] at ha
        subst ha
        simp -implicitDefEqProofs only [go_sem, Ins.v, Ins.row, q0, q1, h1, h2, g9, k9, z9, hxr, c, hlt, Option.some.injEq, forall_eq']
      · simp -implicitDefEqProofs only [go_sem, Ins.v, Ins.row, q0, q1, h1, h2, g9, k9, z9, hxr, c, hlt, Option.some.injEq, forall_eq']
        refine ⟨by omega, ?_⟩
        exact ih _ (k + 1) ⟨by omega, any_next' hno hx (by simp [c])⟩ (by omega) (by simp -implicitDefEqProofs only [go_sem, Ins.v, Ins.row, hzk])
  have e : k = q.ups.length := by omega
  subst e
  have m := any_all' hno
  rw [hv] at m
  subst m
  simp -implicitDefEqProofs only [go_sem, Ins.v, Ins.row, Int.lt_irrefl]

theorem chk_closure {i : Ins} (h : chk i = 0) : i.op = 22 → 0 ≤ i.b := by
  unfold chk at h
  cases ho : isOp i.op with
  | false => rw [ho] at h; simp at h
  | true =>
    obtain ⟨op, a, b, c, d⟩ := i
    simp only at h ho ⊢
    rintro rfl; simp [frm, frmN, frmT, isOp, fit1, fit2, low, high, lowT, highT, lastR, mm2] at h; omega

/-- What an instruction captures. -/
def captB (p : Pro) (i : Ins) (z : Int) : Bool := decide (i.op = 22 ∧ 0 ≤ i.b ∧ i.b < p.protos.length) && (p.protos[i.b.toNat]?).elim false fun q => capB q z

theorem captured_pure (p : Pro) (hsub : p.row.map (V.sub lost) = p.row) (hup : ∀ q ∈ p.protos, q.ups.length ≤ 1000000) (i : Ins) (z : Int) : Pure Tryd.prog 18 [.agg p.row, .agg i.row, .int .i64 z] (.bool (captB p i z)) := by
  obtain ⟨h1, h2⟩ := pro_row11 p
  have hck := rcheck_pure i
  have g8 : p.row[8]? = some (.isl (p.protos.map Pro.row)) := by rw [p.row_eq]; rfl
  have k8 : (p.protos.map Pro.row).length = p.protos.length := List.length_map ..
  have z8 := rowszP Pro.row 11 (fun q => (pro_row11 q).1) p.protos
  have r8 : ∀ (k : Nat) x, p.protos[k]? = some x → (p.protos.map Pro.row)[k]? = some (Pro.row x) := fun k x hk => by rw [List.getElem?_map, hk]; rfl
  have hcl := chk_closure (i := i)
  have hsb : ∀ q ∈ p.protos, q.row.map (V.sub lost) = q.row := fun q hq => by
    rw [p.row_eq] at hsub
    simp only [List.map_cons, List.map_nil, List.cons.injEq, and_true, true_and, V.sub, subLL_map, V.isl.injEq] at hsub
    have h8 := hsub.2.2.2.1
    rw [List.map_map] at h8
    have := List.map_inj_left.1 h8 q hq
    simpa using this
  generalize hv : captB p i z = v
  unfold captB at hv
  generalize p.protos.map Pro.row = es at *
  generalize p.row = pr at *
  obtain ⟨op, a, b, c, d⟩ := i
  simp only [Ins.v, Ins.row] at *
  generalize chk ⟨op, a, b, c, d⟩ = ck at *
  refine Pure.of 0 (CallS.enter scriptinglaw35_captured_ok (Nat.le_of_ble_eq_true rfl) (Run.go 100 ?_))
  by_cases ho : op = 22
  case neg =>
    rw [decide_eq_false (fun h => ho h.1)] at hv
    subst hv
    simp -implicitDefEqProofs only [go_sem, Ins.v, Ins.row, initSl, h1, h2, ho, Bool.false_and]
  subst ho
  by_cases hb0 : 0 ≤ b
  case neg =>
    rw [decide_eq_false (fun h => hb0 h.2.1)] at hv
    subst hv
    have c1 : ¬ ck = 0 := fun h => hb0 (hcl h rfl)
    simp -implicitDefEqProofs only [go_sem, Ins.v, Ins.row, initSl, h1, h2]
    refine CallS.pureF hck (by simp -implicitDefEqProofs only [go_sem, Ins.v, Ins.row]) ?_
    simp -implicitDefEqProofs only [go_sem, Ins.v, Ins.row, c1, hb0, ge_iff_le, Bool.false_and]
  by_cases hbl : b < (p.protos.length : Int)
  case neg =>
    rw [decide_eq_false (fun h => hbl h.2.2)] at hv
    subst hv
    have d3 : ((p.protos.length : Int) ≤ b) = True := eq_true (by omega)
    simp -implicitDefEqProofs only [go_sem, Ins.v, Ins.row, initSl, h1, h2]
    refine CallS.pureF hck (by simp -implicitDefEqProofs only [go_sem, Ins.v, Ins.row]) ?_
    by_cases c1 : ck = 0
    · simp -implicitDefEqProofs only [go_sem, Ins.v, Ins.row, c1, hb0, hbl, d3, h1, h2, g8, k8, ge_iff_le, Bool.false_and]
    · simp -implicitDefEqProofs only [go_sem, Ins.v, Ins.row, c1, hb0, hbl, d3, h1, h2, g8, k8, ge_iff_le, Bool.false_and]
  rw [decide_eq_true ⟨rfl, hb0, hbl⟩] at hv
  obtain ⟨q, hq⟩ : ∃ q, p.protos[b.toNat]? = some q := ⟨p.protos[b.toNat]'(by omega), by simp⟩
  have hqr := r8 _ q hq
  have hqm := List.mem_of_getElem? hq
  have hcp := captures_pure q z (hup q hqm)
  have hqs := hsb q hqm
  obtain ⟨y1, y2⟩ := pro_row11 q
  rw [hq] at hv
  simp only [Option.elim_some, Bool.true_and] at hv
  rw [hv] at hcp
  generalize q.row = qr at *
  have d3 : ((p.protos.length : Int) ≤ b) = False := eq_false (by omega)
  have d4 : (b.toNat < p.protos.length) = True := eq_true (by omega)
  have hb0' := eq_true hb0
  have hbl' := eq_true hbl
  simp -implicitDefEqProofs only [go_sem, Ins.v, Ins.row, initSl, h1, h2]
  refine CallS.pureF hck (by simp -implicitDefEqProofs only [go_sem, Ins.v, Ins.row]) ?_
  by_cases c1 : ck = 0
  · simp -implicitDefEqProofs only [go_sem, Ins.v, Ins.row, c1, hb0', hbl', d3, d4, h1, h2, g8, k8, z8, hqr, y1, y2, ge_iff_le, Option.some.injEq, forall_eq']
    refine CallS.pureF hcp (by simp -implicitDefEqProofs only [go_sem, Ins.v, Ins.row, hqs]) ?_
    simp -implicitDefEqProofs only [go_sem, Ins.v, Ins.row]
  · simp -implicitDefEqProofs only [go_sem, Ins.v, Ins.row, c1, hb0', hbl', d3, d4, h1, h2, g8, k8, z8, hqr, y1, y2, ge_iff_le, Option.some.injEq, forall_eq']
    refine CallS.pureF hcp (by simp -implicitDefEqProofs only [go_sem, Ins.v, Ins.row, hqs]) ?_
    simp -implicitDefEqProofs only [go_sem, Ins.v, Ins.row]

/-- What an instruction writes on the way to a successor. -/
def wrtB (p : Pro) (a : Nat) (x z : Int) : Bool :=
  match p.code[a]? with
  | some i => if (i.op = 24 ∨ i.op = 26) ∧ ¬ (x = i.b ∧ x ≠ a + 1) ∨ i.op = 23 ∧ x = i.b then false else ((writes i).1.any fun y => decide (y = z)) || decide (0 ≤ (writes i).2 ∧ (writes i).2 ≤ z)
  | none => false
theorem written_pure (p : Pro) (hsub : p.row.map (V.sub lost) = p.row) (hc : p.code.length ≤ 10000) (a : Nat) (ha : a < p.code.length) (x z : Int) : Pure Tryd.prog 17 [.agg p.row, .int .i64 a, .int .i64 x, .int .i64 z] (.bool (wrtB p a x z)) := by
  obtain ⟨h1, h2⟩ := pro_row11 p
  have g5 : p.row[5]? = some (.isl (p.code.map Ins.row)) := by rw [p.row_eq]; rfl
  have k5 : (p.code.map Ins.row).length = p.code.length := List.length_map ..
  have z5 := rowszP Ins.row 5 (fun _ => rfl) p.code
  obtain ⟨i, hi⟩ : ∃ i, p.code[a]? = some i := ⟨p.code[a], by simp [ha]⟩
  have hir : (p.code.map Ins.row)[a]? = some i.row := by rw [List.getElem?_map, hi]; rfl
  have hw := writes_pure i
  have w2 := writes_in i
  have l2 := asc_len (asc_writes i) (fun x hx => (w2.1 x hx).1) (fun x hx => (w2.1 x hx).2)
  have hh := has_pure (writes i).1 z (by omega)
  have s2 := subZ' (writes i).1
  generalize hv : wrtB p a x z = v
  unfold wrtB at hv
  rw [hi] at hv
  simp only at hv
  generalize (writes i).1.any (fun y => decide (y = z)) = hb at *
  generalize (writes i).2 = wf at *
  generalize (writes i).1.map zrw = ws at *
  generalize p.code.map Ins.row = es at *
  generalize p.row = pr at *
  obtain ⟨op, a', b, c, d⟩ := i
  simp only [Ins.v, Ins.row] at *
  have q0 : ((0 : Int) ≤ (a : Int)) = True := eq_true (by omega)
  have q1 : ((a : Int) < (p.code.length : Int)) = True := eq_true (by omega)
  refine Pure.of 0 (CallS.enter scriptinglaw35_written_ok (Nat.le_of_ble_eq_true rfl) (Run.go 100 ?_))
  simp -implicitDefEqProofs only [go_sem, Ins.v, Ins.row, initSl, h1, h2, g5, k5, z5, hir, ha, q0, q1, Option.some.injEq, forall_eq']
  have tail : v = (hb || decide (0 ≤ wf ∧ wf ≤ z)) → (hb = true → true = v) ∧ (hb = false → (0 ≤ wf → decide (wf ≤ z) = v) ∧ (¬ 0 ≤ wf → false = v)) := fun h => by
    subst h
    refine ⟨fun h => by rw [h]; rfl, fun h => ⟨fun h0 => by rw [h]; by_cases c : wf ≤ z <;> simp [c, h0], fun h0 => by rw [h]; simp [h0]⟩⟩
  repeat' (first | refine And.intro ?_ ?_ | refine fun h => ?_)
  all_goals first
    | omega
    | (rw [if_pos (by omega)] at hv; exact hv)
    | (rw [if_neg (by omega)] at hv
       refine CallS.pureF hw (by simp -implicitDefEqProofs only [go_sem, Ins.v, Ins.row]) ?_
       simp -implicitDefEqProofs only [go_sem, Ins.v, Ins.row]
       refine CallS.pureF hh (by simp -implicitDefEqProofs only [go_sem, Ins.v, Ins.row, s2]) ?_
       simp -implicitDefEqProofs only [go_sem, Ins.v, Ins.row, ge_iff_le]
       exact ⟨(tail hv.symm).2, (tail hv.symm).1⟩)
end Go.Proofs.YtdnpnbenahpllaaDoor
