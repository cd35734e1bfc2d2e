/-
  The reference's sets of registers: 'registers', 'marks', 'uses', 'defines'. No condition.
-/
import Derived.Test.YtdnpnbenahpllaaDoorLiveP
import Derived.Test.YtdnpnbenahpllaaDoorRr2
set_option linter.unusedVariables false
set_option linter.unusedSimpArgs false
set_option maxRecDepth 100000
set_option maxHeartbeats 0
namespace Go.Proofs.YtdnpnbenahpllaaDoor
open Go.Abs
attribute [local irreducible] CallS Run
-- EV: Ins.v, Ins.row

theorem boolR_set {N x : Nat} {f : Nat → Bool} (h : x < N) : (boolR N f).set x [.bool true] = boolR N (fun y => f y || decide (y = x)) := by
  refine List.ext_getElem? fun j => ?_
  rw [List.getElem?_set, boolR_len]
  by_cases hj : j < N
  · rw [boolR_at hj, boolR_at hj]
    by_cases d : x = j
    · subst d; simp [hj]
    · rw [if_neg d]; simp [Ne.symm d]
  · rw [List.getElem?_eq_none (by rw [boolR_len]; omega), List.getElem?_eq_none (by rw [boolR_len]; omega)]
    split <;> first | omega | rfl
theorem boolR_sz (N : Nat) (f : Nat → Bool) : rowsz (boolR N f) 1 = True := eq_true fun r hr => by obtain ⟨y, _, rfl⟩ := List.mem_map.1 hr; rfl
theorem boolR_frz (d : Nat) (h : Heap) (N : Nat) (f : Nat → Bool) : (boolR N f).map (fun r => r.map (frz d h)) = boolR N f := by
  unfold boolR
  rw [List.map_map]
  exact List.map_congr_left fun y _ => by cases d <;> rfl

theorem registers_pure (p : Pro) : Pure Tryd.prog 23 [.agg p.row] (.int .i64 (regN p.regs)) := by
  obtain ⟨h1, h2⟩ := pro_row11 p
  have g4 : p.row[4]? = some (.int .i64 p.regs) := by rw [p.row_eq]; rfl
  generalize p.row = pr at *
  refine Pure.of 0 (CallS.enter scriptingref35_registers_ok (Nat.le_of_ble_eq_true rfl) (Run.go 100 ?_))
  simp -implicitDefEqProofs only [go_sem, Ins.v, Ins.row, initSl, h1, h2, g4]
  unfold regN
  (repeat' split) <;> omega

theorem marks_call (N : Nat) (hN : N ≤ 4096) (l : List Int) (hl : l.length ≤ 100000) (from_ : Int) (n0 : Nat) : CallS Tryd.prog 39 [.int .i64 N, .isl (l.map zrw), .int .i64 from_] [] n0 fun r h' _ => ∃ st, r = .sl (39 * 10000 + 11) st 0 N ∧ h' = [((39 * 10000 + 11), st, .rows 1 (boolR N (putB N l from_ fun _ => false)))] := by
  have hrow : ∀ (k : Nat) (x : Int), l[k]? = some x → (l.map zrw)[k]? = some [.int .i64 x] := fun k x h => zrw_at h
  have hlen : (l.map zrw).length = l.length := List.length_map ..
  have hsz := rowszZ' l
  generalize l.map zrw = es at *
  have key : ∃ g, g = putB N l from_ (fun _ => false) := ⟨_, rfl⟩
  obtain ⟨g, hg⟩ := key
  rw [← hg]
  refine CallS.enterK scriptingref35_marks_ok (Nat.le_of_ble_eq_true rfl) fun Q hQ => Run.go 100 ?_
  simp -implicitDefEqProofs only [go_sem, Ins.v, Ins.row, initSl]
  refine ⟨by omega, by omega, ?_⟩
  rw [← boolR_none N]
  refine Run.keep [8, 7, 2, 1, 0] ?_
  refine Run.rounds (fun (k : Nat) => ⟨[(8, .int .i64 k), (7, .sl (39 * 10000 + 11) n0 0 N), (2, .int .i64 from_), (1, .isl es), (0, .int .i64 N)], [((39 * 10000 + 11), n0, .rows 1 (boolR N (putT N l k fun _ => false)))], n0 + 1⟩) (fun k => k ≤ l.length) (fun k => l.length - k) 0 (by simp -implicitDefEqProofs only [go_sem, Ins.v, Ins.row, putT_zero]) (Nat.zero_le _) ?_
  rintro k hk ih
  refine Run.unf scriptingref35_marks_l0_eq (Run.go 100 ?_)
  have hzk : ((k + 1 : Nat) : Int) = (k : Int) + 1 := by omega
  by_cases hlt : k < l.length
  · have q0 : ((k : Int) < (l.length : Int)) = True := eq_true (by omega)
    have q1 : ((0 : Int) ≤ (k : Int)) = True := eq_true (by omega)
    obtain ⟨x, hx⟩ : ∃ x, l[k]? = some x := ⟨l[k], by simp [hlt]⟩
    have hxr := hrow k x hx
    by_cases c : 0 ≤ x ∧ x < (N : Int)
    · obtain ⟨xx, rfl⟩ : ∃ xx : Nat, x = xx := ⟨x.toNat, by omega⟩
      have x0 : ((0 : Int) ≤ (xx : Int)) = True := eq_true (by omega)
      have x1 : ((xx : Int) < (N : Int)) = True := eq_true c.2
      have x2 : xx < N := by omega
      have hy := putT_yes (f := fun _ => false) hx x2
      have hs := boolR_set (f := putT N l k fun _ => false) x2
      rw [hy] at hs
      have hbl := boolR_len N (putT N l k fun _ => false)
      have hbz := boolR_sz N (putT N l k fun _ => false)
      have fin := fun s => ih s (k + 1) (by omega) (by omega)
      rw [← hs] at fin
      obtain ⟨bv, hbv⟩ : ∃ b, (boolR N (putT N l k fun _ => false))[xx]? = some [.bool b] := ⟨_, boolR_at x2⟩
      generalize boolR N (putT N l k fun _ => false) = B at *
      simp -implicitDefEqProofs only [go_sem, Ins.v, Ins.row, q0, q1, hlen, hsz, hxr, hlt, x0, x1, x2, hbl, hbz, hbv, ge_iff_le, Option.some.injEq, forall_eq']
      refine ⟨by omega, fin _ (by simp -implicitDefEqProofs only [go_sem, Ins.v, Ins.row, hzk])⟩
    · have hn := putT_no (N := N) (f := fun _ => false) hx c
      have fin := fun s => ih s (k + 1) (by omega) (by omega)
      rw [hn] at fin
      by_cases c0 : 0 ≤ x
      · have c1 : ¬ x < (N : Int) := fun h => c ⟨c0, h⟩
        simp -implicitDefEqProofs only [go_sem, Ins.v, Ins.row, q0, q1, hlen, hsz, hxr, hlt, c0, c1, ge_iff_le, Option.some.injEq, forall_eq']
        refine ⟨by omega, fin _ (by simp -implicitDefEqProofs only [go_sem, Ins.v, Ins.row, hzk])⟩
      · simp -implicitDefEqProofs only [go_sem, Ins.v, Ins.row, q0, q1, hlen, hsz, hxr, hlt, c0, ge_iff_le, Option.some.injEq, forall_eq']
        refine ⟨by omega, fin _ (by simp -implicitDefEqProofs only [go_sem, Ins.v, Ins.row, hzk])⟩
  have e : k = l.length := by omega
  subst e
  clear ih hlt hk
  simp -implicitDefEqProofs only [go_sem, Ins.v, Ins.row, Int.lt_irrefl, hlen]
  refine Run.keep [9, 7, 0] ?_
  by_cases hf : 0 ≤ from_
  case neg =>
    rw [putB_no (by omega)] at hg
    refine Run.rounds (fun (_ : Unit) => ⟨[(9, .int .i64 from_), (7, .sl (39 * 10000 + 11) n0 0 N), (0, .int .i64 N)], [((39 * 10000 + 11), n0, .rows 1 (boolR N (putT N l l.length fun _ => false)))], n0 + 1⟩) (fun _ => True) (fun _ => 0) () (by simp -implicitDefEqProofs only [go_sem, Ins.v, Ins.row]) trivial ?_
    rintro _ _ _
    refine Run.unf scriptingref35_marks_l1_eq (Run.go 100 ?_)
    simp -implicitDefEqProofs only [go_sem, Ins.v, Ins.row, hf, ge_iff_le]
    subst hQ
    exact .is ⟨n0, rfl, by rw [hg]⟩
  obtain ⟨ff, rfl⟩ : ∃ ff : Nat, from_ = ff := ⟨from_.toNat, by omega⟩
  refine Run.rounds (fun (j : Nat) => ⟨[(9, .int .i64 (ff + j : Nat)), (7, .sl (39 * 10000 + 11) n0 0 N), (0, .int .i64 N)], [((39 * 10000 + 11), n0, .rows 1 (boolR N (putU N l ff ((ff + j : Nat) : Int) fun _ => false)))], n0 + 1⟩) (fun _ => True) (fun j => N - (ff + j)) 0 (by simp only [Nat.add_zero, putU_start]; simp -implicitDefEqProofs only [go_sem, Ins.v, Ins.row]) trivial ?_
  rintro j _ ih
  refine Run.unf scriptingref35_marks_l1_eq (Run.go 100 ?_)
  have v0 : ((0 : Int) ≤ ((ff + j : Nat) : Int)) = True := eq_true (by omega)
  have hzj : ((ff + (j + 1) : Nat) : Int) = ((ff + j : Nat) : Int) + 1 := by omega
  generalize hx : ff + j = x at *
  by_cases c : x < N
  · have v1 : ((x : Int) < (N : Int)) = True := eq_true (by omega)
    have hy := putU_step (N := N) (l := l) (a := (ff : Int)) (f := fun _ => false) (x := x) (by omega) c
    have hs := boolR_set (f := putU N l ff x fun _ => false) c
    rw [hy] at hs
    have hbl := boolR_len N (putU N l ff x fun _ => false)
    have hbz := boolR_sz N (putU N l ff x fun _ => false)
    have fin := fun s => ih s (j + 1) trivial (by omega)
    simp only [hzj] at fin
    rw [← hs] at fin
    obtain ⟨bv, hbv⟩ : ∃ b, (boolR N (putU N l ff x fun _ => false))[x]? = some [.bool b] := ⟨_, boolR_at c⟩
    generalize boolR N (putU N l ff x fun _ => false) = B at *
    simp -implicitDefEqProofs only [go_sem, Ins.v, Ins.row, v0, v1, c, hbl, hbz, hbv, ge_iff_le, Option.some.injEq, forall_eq']
    refine ⟨by omega, fin _ (by simp -implicitDefEqProofs only [go_sem, Ins.v, Ins.row])⟩
  · have v1 : ((x : Int) < (N : Int)) = False := eq_false (by omega)
    have he := putU_end (N := N) (l := l) (a := (ff : Int)) (x := (x : Int)) (f := fun _ => false) (by omega) (by omega)
    simp -implicitDefEqProofs only [go_sem, Ins.v, Ins.row, v0, v1, ge_iff_le]
    subst hQ
    exact .is ⟨n0, rfl, by rw [hg, ← he]⟩

theorem rdefs_pure (p : Pro) (hsub : p.row.map (V.sub lost) = p.row) (a : Nat) (ha : a < p.code.length) (hc : p.code.length ≤ 10000) (x : Int) : Pure Tryd.prog 26 [.agg p.row, .int .i64 a, .int .i64 x, .int .i64 (regN p.regs)] (.isl (boolR (regN p.regs) (defP p a x))) := by
  obtain ⟨h1, h2⟩ := pro_row11 p
  have g5 : p.row[5]? = some (.isl (p.code.map Ins.row)) := by rw [p.row_eq]; rfl
  have k5 : (p.code.map Ins.row).length = p.code.length := List.length_map ..
  have z5 := rowszP Ins.row 5 (fun _ => rfl) p.code
  obtain ⟨i, hi⟩ : ∃ i, p.code[a]? = some i := ⟨p.code[a], by simp [ha]⟩
  have hir : (p.code.map Ins.row)[a]? = some i.row := by rw [List.getElem?_map, hi]; rfl
  have hw := rwrites_pure i
  have w2 := writes_in i
  have l2 := asc_len (asc_writes i) (fun x hx => (w2.1 x hx).1) (fun x hx => (w2.1 x hx).2)
  have hN := regN_le p.regs
  have hm := fun n => marks_call (regN p.regs) hN (writes i).1 (by omega) (writes i).2 n
  have hv : defP p a x = if (i.op = 24 ∨ i.op = 26) ∧ ¬ (x = i.b ∧ x ≠ a + 1) ∨ i.op = 23 ∧ x = i.b then fun _ => false else putB (regN p.regs) (writes i).1 (writes i).2 fun _ => false := by unfold defP defsB; rw [hi]
  have hfz := fun d h f => boolR_frz d h (regN p.regs) f
  have hbl := fun f => boolR_len (regN p.regs) f
  generalize defP p a x = g at *
  generalize putB (regN p.regs) (writes i).1 (writes i).2 (fun _ => false) = g2 at *
  generalize (writes i).2 = wf at *
  generalize (writes i).1.map zrw = ws at *
  generalize regN p.regs = N at *
  generalize p.code.map Ins.row = es at *
  generalize p.row = pr at *
  obtain ⟨op, a', b, c, d⟩ := i
  simp only [Ins.v, Ins.row] at *
  have q0 : ((0 : Int) ≤ (a : Int)) = True := eq_true (by omega)
  have q1 : ((a : Int) < (p.code.length : Int)) = True := eq_true (by omega)
  refine Pure.of 1 (CallS.enter scriptingref35_defines_ok (Nat.le_of_ble_eq_true rfl) (Run.go 100 ?_))
  simp -implicitDefEqProofs only [go_sem, Ins.v, Ins.row, initSl, h1, h2, g5, k5, z5, hir, ha, q0, q1, Option.some.injEq, forall_eq']
  repeat' (first | refine And.intro ?_ ?_ | refine fun h => ?_)
  all_goals (try simp only [Bool.not_eq_eq_eq_not, Bool.not_true, Bool.not_false, decide_eq_false_iff_not, decide_eq_true_eq, Decidable.not_not] at *)
  all_goals first
    | omega
    | (rw [if_pos (by omega)] at hv
       rw [hv, List.take_of_length_le (by simp), ← boolR_none]
       exact hfz _ _ _)
    | (rw [if_neg (by omega)] at hv
       refine CallS.pureF hw (by simp -implicitDefEqProofs only [go_sem, Ins.v, Ins.row]) ?_
       simp -implicitDefEqProofs only [go_sem, Ins.v, Ins.row]
       refine CallS.at [] [] (hm _) rfl rfl ?_
       rintro r h' n' hn ⟨st, rfl, rfl⟩
       simp -implicitDefEqProofs only [go_sem, Ins.v, Ins.row, hbl, hfz]
       rw [hv, List.take_of_length_le (by rw [boolR_len]; exact Nat.le_refl _)]
       exact hfz _ _ _)

theorem upsF_step {N : Nat} {us : List (List UInt8 × Bool × Int)} {k : Nat} {un : List UInt8} {ul : Bool} {ui : Int} {f : Nat → Bool} (h : us[k]? = some (un, ul, ui)) : upsF N (us.take (k + 1)) f = if ul then putB N [ui] (-1) (upsF N (us.take k) f) else upsF N (us.take k) f := upsF_succ h
theorem putB_one {N x : Nat} {f : Nat → Bool} (h : x < N) : putB N [(x : Int)] (-1) f = fun y => f y || decide (y = x) := by
  funext y
  unfold putB
  by_cases c : y = x
  · subst c; simp [h]
  · have : ¬ (y : Int) = (x : Int) := by omega
    simp [c, this]
theorem putB_out {N : Nat} {z : Int} {f : Nat → Bool} (h : ¬ (0 ≤ z ∧ z < (N : Int))) : putB N [z] (-1) f = f := by
  funext y
  unfold putB
  by_cases c : y < N
  · have : ¬ (y : Int) = z := by omega
    simp [c, this]
  · simp [c]

theorem ruses_pure (p : Pro) (hsub : p.row.map (V.sub lost) = p.row) (hup : ∀ q ∈ p.protos, q.ups.length ≤ 100000) (a : Nat) (ha : a < p.code.length) (hc : p.code.length ≤ 10000) : Pure Tryd.prog 24 [.agg p.row, .int .i64 a, .int .i64 (regN p.regs)] (.isl (boolR (regN p.regs) (useP p a))) := by
  obtain ⟨h1, h2⟩ := pro_row11 p
  have g5 : p.row[5]? = some (.isl (p.code.map Ins.row)) := by rw [p.row_eq]; rfl
  have k5 : (p.code.map Ins.row).length = p.code.length := List.length_map ..
  have z5 := rowszP Ins.row 5 (fun _ => rfl) p.code
  have g8 : p.row[8]? = some (.isl (p.protos.map Pro.row)) := by rw [p.row_eq]; rfl
  have k8 : (p.protos.map Pro.row).length = p.protos.length := List.length_map ..
  have z8 := rowszP Pro.row 11 (fun q => (pro_row11 q).1) p.protos
  have r8 : ∀ (k : Nat) x, p.protos[k]? = some x → (p.protos.map Pro.row)[k]? = some (Pro.row x) := fun k x hk => by rw [List.getElem?_map, hk]; rfl
  obtain ⟨i, hi⟩ : ∃ i, p.code[a]? = some i := ⟨p.code[a], by simp [ha]⟩
  have hir : (p.code.map Ins.row)[a]? = some i.row := by rw [List.getElem?_map, hi]; rfl
  have hw := rreads_pure i
  have w2 := reads_in i
  have l2 := asc_len (asc_reads i) (fun x hx => (w2.1 x hx).1) (fun x hx => (w2.1 x hx).2)
  have hN := regN_le p.regs
  have hm := fun n => marks_call (regN p.regs) hN (reads i).1 (by omega) (reads i).2 n
  have hv : useP p a = if i.op = 22 ∧ 0 ≤ i.b ∧ i.b < p.protos.length then upsF (regN p.regs) ((p.protos[i.b.toNat]?).elim [] (·.ups)) (putB (regN p.regs) (reads i).1 (reads i).2 fun _ => false) else putB (regN p.regs) (reads i).1 (reads i).2 fun _ => false := by
    funext r; unfold useP; rw [hi]; rfl
  have hfz := fun d h f => boolR_frz d h (regN p.regs) f
  have hbl := fun f => boolR_len (regN p.regs) f
  have hbz := fun f => boolR_sz (regN p.regs) f
  generalize useP p a = g at *
  generalize hg0 : putB (regN p.regs) (reads i).1 (reads i).2 (fun _ => false) = f0 at *
  generalize (reads i).2 = wf at *
  generalize (reads i).1.map zrw = ws at *
  generalize hNe : regN p.regs = N at *
  generalize p.code.map Ins.row = es at *
  generalize p.protos.map Pro.row = PR at *
  generalize p.row = pr at *
  obtain ⟨op, a', b, c, d⟩ := i
  simp only [Ins.v, Ins.row] at *
  have q0 : ((0 : Int) ≤ (a : Int)) = True := eq_true (by omega)
  have q1 : ((a : Int) < (p.code.length : Int)) = True := eq_true (by omega)
  have tk : ∀ f, (boolR N f).take N = boolR N f := fun f => List.take_of_length_le (by rw [hbl]; exact Nat.le_refl _)
  refine Pure.of 1 (CallS.enter scriptingref35_uses_ok (Nat.le_of_ble_eq_true rfl) (Run.go 100 ?_))
  simp -implicitDefEqProofs only [go_sem, Ins.v, Ins.row, initSl, h1, h2, g5, k5, z5, hir, ha, q0, q1, Option.some.injEq, forall_eq']
  refine CallS.pureF hw (by simp -implicitDefEqProofs only [go_sem, Ins.v, Ins.row]) ?_
  simp -implicitDefEqProofs only [go_sem, Ins.v, Ins.row]
  refine CallS.at [] [0, 1] (hm _) rfl rfl ?_
  rintro r h' n' hn ⟨st, rfl, rfl⟩
  by_cases ho : op = 22
  case neg =>
    rw [if_neg (fun h => ho h.1)] at hv
    simp -implicitDefEqProofs only [go_sem, Ins.v, Ins.row, ho, hbl, tk, hfz]
    rw [hv]
  subst ho
  by_cases hb0 : 0 ≤ b
  case neg =>
    rw [if_neg (fun h => hb0 h.2.1)] at hv
    have hb1 : (b < 0) = True := eq_true (by omega)
    simp -implicitDefEqProofs only [go_sem, Ins.v, Ins.row, hb1, hbl, tk, hfz]
    rw [hv]
  have hb1 : (b < 0) = False := eq_false (by omega)
  by_cases hbl2 : b < (p.protos.length : Int)
  case neg =>
    rw [if_neg (fun h => hbl2 h.2.2)] at hv
    have d3 : ((p.protos.length : Int) ≤ b) = True := eq_true (by omega)
    simp -implicitDefEqProofs only [go_sem, Ins.v, Ins.row, hb1, d3, h1, h2, g8, k8, ge_iff_le, hbl, tk, hfz]
    rw [hv]
  rw [if_pos ⟨rfl, hb0, hbl2⟩] at hv
  obtain ⟨q, hq⟩ : ∃ q, p.protos[b.toNat]? = some q := ⟨p.protos[b.toNat]'(by omega), by simp⟩
  have hqr := r8 _ q hq
  have hqu := hup q (List.mem_of_getElem? hq)
  obtain ⟨y1, y2⟩ := pro_row11 q
  have y9 : q.row[9]? = some (.isl (q.ups.map upRow)) := by rw [q.row_eq]; rfl
  have k9 : (q.ups.map upRow).length = q.ups.length := List.length_map ..
  have z9 := rowszP upRow 3 (fun _ => rfl) q.ups
  have r9 : ∀ (k : Nat) x, q.ups[k]? = some x → (q.ups.map upRow)[k]? = some [.str x.1, .bool x.2.1, .int .i64 x.2.2] := fun k x hk => by rw [List.getElem?_map, hk]; rfl
  rw [hq] at hv
  simp only [Option.elim_some] at hv
  generalize q.ups.map upRow = us at *
  generalize q.row = qr at *
  have d3 : ((p.protos.length : Int) ≤ b) = False := eq_false (by omega)
  have d4 : (b.toNat < p.protos.length) = True := eq_true (by omega)
  have hb0' := eq_true hb0
  have hbl' := eq_true hbl2
  simp -implicitDefEqProofs only [go_sem, Ins.v, Ins.row, hb1, d3, d4, hb0', hbl', h1, h2, g8, k8, z8, hqr, y1, y2, y9, ge_iff_le, Option.some.injEq, forall_eq']
  refine Run.keep [12, 11, 10, 2] ?_
  refine Run.rounds (fun (k : Nat) => ⟨[(12, .int .i64 k), (11, .isl us), (10, .sl (39 * 10000 + 11) st 0 N), (2, .int .i64 N)], [((39 * 10000 + 11), st, .rows 1 (boolR N (upsF N (q.ups.take k) f0)))], n'⟩) (fun k => k ≤ q.ups.length) (fun k => q.ups.length - k) 0 (by simp -implicitDefEqProofs only [go_sem, Ins.v, Ins.row, List.take_zero, upsF, List.foldl_nil]) (Nat.zero_le _) ?_
  rintro k hk ih
  refine Run.unf scriptingref35_uses_l0_eq (Run.go 100 ?_)
  have hzk : ((k + 1 : Nat) : Int) = (k : Int) + 1 := by omega
  by_cases hlt : k < q.ups.length
  · have v0 : ((k : Int) < (q.ups.length : Int)) = True := eq_true (by omega)
    have v1 : ((0 : Int) ≤ (k : Int)) = True := eq_true (by omega)
    obtain ⟨⟨un, ul, ui⟩, hx⟩ : ∃ x, q.ups[k]? = some x := ⟨q.ups[k], by simp [hlt]⟩
    have hxr := r9 k _ hx
    simp only at hxr
    have hs := upsF_step (N := N) (f := f0) hx
    have fin := fun s => ih s (k + 1) (by omega) (by omega)
    clear ih
    cases ul with
    | false =>
      rw [if_neg (by simp)] at hs
      rw [hs] at fin
      simp -implicitDefEqProofs only [go_sem, Ins.v, Ins.row, v0, v1, k9, z9, hxr, hlt, Option.some.injEq, forall_eq']
      refine ⟨by omega, fin _ (by simp -implicitDefEqProofs only [go_sem, Ins.v, Ins.row, hzk])⟩
    | true =>
      rw [if_pos rfl] at hs
      by_cases c : 0 ≤ ui ∧ ui < (N : Int)
      · obtain ⟨xx, rfl⟩ : ∃ xx : Nat, ui = xx := ⟨ui.toNat, by omega⟩
        have x0 : ((0 : Int) ≤ (xx : Int)) = True := eq_true (by omega)
        have x1 : ((xx : Int) < (N : Int)) = True := eq_true c.2
        have x2 : xx < N := by omega
        rw [putB_one x2] at hs
        have hs2 := boolR_set (f := upsF N (q.ups.take k) f0) x2
        rw [hs, ← hs2] at fin
        have hb3 := hbl (upsF N (q.ups.take k) f0)
        have hb4 := hbz (upsF N (q.ups.take k) f0)
        obtain ⟨bv, hbv⟩ : ∃ b, (boolR N (upsF N (q.ups.take k) f0))[xx]? = some [.bool b] := ⟨_, boolR_at x2⟩
        generalize boolR N (upsF N (q.ups.take k) f0) = B at *
        simp -implicitDefEqProofs only [go_sem, Ins.v, Ins.row, v0, v1, k9, z9, hxr, hlt, x0, x1, x2, hb3, hb4, hbv, ge_iff_le, Option.some.injEq, forall_eq']
        refine ⟨by omega, fin _ (by simp -implicitDefEqProofs only [go_sem, Ins.v, Ins.row, hzk])⟩
      · rw [putB_out c] at hs
        rw [hs] at fin
        by_cases c0 : 0 ≤ ui
        · have c1 : ¬ ui < (N : Int) := fun h => c ⟨c0, h⟩
          simp -implicitDefEqProofs only [go_sem, Ins.v, Ins.row, v0, v1, k9, z9, hxr, hlt, c0, c1, ge_iff_le, Option.some.injEq, forall_eq']
          refine ⟨by omega, fin _ (by simp -implicitDefEqProofs only [go_sem, Ins.v, Ins.row, hzk])⟩
        · simp -implicitDefEqProofs only [go_sem, Ins.v, Ins.row, v0, v1, k9, z9, hxr, hlt, c0, ge_iff_le, Option.some.injEq, forall_eq']
          refine ⟨by omega, fin _ (by simp -implicitDefEqProofs only [go_sem, Ins.v, Ins.row, hzk])⟩
  have e : k = q.ups.length := by omega
  subst e
  rw [List.take_length]
  simp -implicitDefEqProofs only [go_sem, Ins.v, Ins.row, Int.lt_irrefl, k9, hbl, tk, hfz]
  rw [hv]
end Go.Proofs.YtdnpnbenahpllaaDoor
