/-
  OpcodeReturns: the walk. No condition.
-/
import Derived.Test.YtembaiapafbfcaaDoorPar
import Derived.Test.YtembaiapafbfcaaDoorEnc
set_option linter.unusedVariables false
set_option linter.unusedSimpArgs false
set_option maxRecDepth 100000
set_option maxHeartbeats 0
namespace Go.Proofs.YtembaiapafbfcaaDoor
open Go Go.Abs
attribute [local irreducible] CallS Run
-- EV: Ins.v, Ins.row

theorem ins_of {row : List V} (h : Typed Tryd.prog 23 row) : ∃ i : Ins, row = i.row ∧ inB i.a ∧ inB i.b ∧ inB i.c ∧ inB i.d := by
  have h := h.fields Tryd.underlying23
  obtain ⟨a1, b1, rfl, h1, a2, b2, rfl, h2, a3, b3, rfl, h3, a4, b4, rfl, h4, a5, b5, rfl, h5, rfl⟩ := h
  obtain ⟨n1, rfl, _⟩ := h1.int_inv Tryd.underlying3
  obtain ⟨n2, rfl, g2⟩ := h2.int_inv Tryd.underlying3
  obtain ⟨n3, rfl, g3⟩ := h3.int_inv Tryd.underlying3
  obtain ⟨n4, rfl, g4⟩ := h4.int_inv Tryd.underlying3
  obtain ⟨n5, rfl, g5⟩ := h5.int_inv Tryd.underlying3
  have key : ∀ {n : Int}, (Lit.int .i64 n).wf = true → inB n := fun {n} h => by
    simp only [Lit.wf, Bool.and_eq_true, decide_eq_true_eq] at h
    have e1 : IntKind.min .i64 = -9223372036854775808 := by decide
    have e2 : IntKind.max .i64 = 9223372036854775807 := by decide
    rw [e1, e2] at h
    exact h
  exact ⟨⟨n1, n2, n3, n4, n5⟩, rfl, key g2, key g3, key g4, key g5⟩
theorem pieces_len : ∀ (ks xs : List Int), (∀ x ∈ xs, inB x) → (piecesL ks xs).length ≤ 22 * xs.length
  | [], xs, _ => by simp [piecesL]
  | _ :: _, [], _ => by simp [piecesL]
  | k :: ks, x :: xs, h => by
    have ih := pieces_len ks xs fun y hy => h y (List.mem_cons_of_mem _ hy)
    have hx := pcs_len k x (h x List.mem_cons_self)
    unfold pcs at hx
    rw [piecesL, List.length_append, List.length_cons]
    omega
theorem text_len (i : Ins) (h : inB i.a ∧ inB i.b ∧ inB i.c ∧ inB i.d) : (textL i).length ≤ 100000 := by
  unfold textL
  split
  · have h1 := frm_word_len i.op
    have h2 := pieces_len (frm i.op).ks i.fs fun x hx => by
      simp only [Ins.fs, List.mem_cons, List.not_mem_nil, or_false] at hx
      rcases hx with rfl | rfl | rfl | rfl
      · exact h.1
      · exact h.2.1
      · exact h.2.2.1
      · exact h.2.2.2
    have h3 : i.fs.length = 4 := rfl
    rw [List.length_append]; omega
  · simp
theorem chk_small {i : Ins} (h : chk i = 0) : ∀ x ∈ i.fs, -1000000 ≤ x ∧ x ≤ 1000000 := by
  obtain ⟨_, ⟨b1, b2⟩, ⟨c1, c2⟩, ⟨d1, d2⟩, ⟨e1, e2⟩⟩ := enc_facts h
  intro x hx
  simp only [Ins.fs, List.mem_cons, List.not_mem_nil, or_false] at hx
  rcases hx with rfl | rfl | rfl | rfl <;> omega
theorem small_inB {i : Ins} (h : chk i = 0) : inB i.a ∧ inB i.b ∧ inB i.c ∧ inB i.d := by
  obtain ⟨_, ⟨b1, b2⟩, ⟨c1, c2⟩, ⟨d1, d2⟩, ⟨e1, e2⟩⟩ := enc_facts h
  exact ⟨⟨by omega, by omega⟩, ⟨by omega, by omega⟩, ⟨by omega, by omega⟩, ⟨by omega, by omega⟩⟩
theorem parse_text {i : Ins} (h : chk i = 0) : parseV (textL i) = .tup [i.v, .int .i64 0] := by
  have ho := (chk_fit1 h).1
  have hr := text_read h (chk_small h)
  unfold parseV
  rw [text_split ho]
  have hw := (word_of ho).2
  simp only [hw]
  have h1 : (0 : Int) ≤ i.op - 1 := by
    obtain ⟨n, hn, h1, h2⟩ := isOp_nat ho
    omega
  rw [if_pos h1, show i.op - 1 + 1 = i.op by omega, hr]
  obtain ⟨op, a, b, c, d⟩ := i
  simp only [parseI, Ins.fs, if_true, if_pos h]
/-- What is parsed is what is written. -/
theorem parseV_cases (s : List UInt8) : (∃ i : Ins, chk i = 0 ∧ textL i = s ∧ parseV s = .tup [i.v, .int .i64 0]) ∨ ∃ e : Int, e ≠ 0 ∧ parseV s = .tup [zI, .int .i64 e] := by
  have hI : ∀ op T, (∃ i : Ins, chk i = 0 ∧ textL i = s ∧ parseI op s T = .tup [i.v, .int .i64 0]) ∨ ∃ e : Int, e ≠ 0 ∧ parseI op s T = .tup [zI, .int .i64 e] := by
    intro op T
    unfold parseI
    split
    · split
      · split
        · rename_i h1 h2; exact .inl ⟨_, h2, h1, rfl⟩
        · rename_i h1 h2; exact .inr ⟨_, h2, rfl⟩
      · exact .inr ⟨4, by decide, rfl⟩
    · exact .inr ⟨4, by decide, rfl⟩
  unfold parseV
  split
  · exact .inr ⟨9, by decide, rfl⟩
  · split
    · exact hI _ _
    · exact .inr ⟨9, by decide, rfl⟩

theorem u64_b {n : Int} (h : (Lit.int .u64 n).wf = true) : 0 ≤ n ∧ n < 18446744073709551616 := by
  simp only [Lit.wf, Bool.and_eq_true, decide_eq_true_eq] at h
  have h1 : IntKind.min .u64 = 0 := rfl
  have h2 : IntKind.max .u64 = 18446744073709551615 := by decide
  rw [h1, h2] at h
  omega
theorem opcodeReturns_args (n0 : List V) (w0 : Typed Tryd.prog 23 n0) (n1 : Int) (w1 : (Lit.int .u64 n1).wf = true) (n2 : List UInt8) (w2 : n2.length ≤ reachBytes) : Abs.Pure Tryd.prog 3 [.agg n0, .int .u64 n1, .str n2] (.bool true) := by
  obtain ⟨i, rfl, hib⟩ := ins_of w0
  obtain ⟨u0, u1⟩ := u64_b w1
  have c1 := check_pure i
  have cd := decode_pure n1 u0 u1
  have hdec : (chk (decI n1) = 0 ∧ n1 < 4611686018427387904 ∧ decV n1 = .tup [(decI n1).v, .int .i64 0]) ∨ ∃ e : Int, e ≠ 0 ∧ decV n1 = .tup [zI, .int .i64 e] := by
    unfold decV
    by_cases h : 4611686018427387904 ≤ n1
    · exact .inr ⟨4, by decide, by rw [if_pos h]; rfl⟩
    · rw [if_neg h]
      by_cases h2 : chk (decI n1) = 0
      · exact .inl ⟨h2, by omega, by rw [if_pos h2, h2]⟩
      · exact .inr ⟨_, h2, by rw [if_neg h2]; rfl⟩
  refine Pure.of 0 (CallS.enter scriptinglaw32_OpcodeReturns_ok (Nat.le_of_ble_eq_true rfl) (Run.go 100 ?_))
  simp -implicitDefEqProofs only [go_sem, Ins.v, Ins.row, initSl]
  refine CallS.pureF c1 (by simp -implicitDefEqProofs only [go_sem, Ins.v, Ins.row]) ?_
  by_cases hc : chk i = 0
  · have ce := encode_pure i
    have ee : encV i = .tup [.int .u64 (encZ i), .int .i64 0] := by unfold encV; rw [if_pos hc, hc]
    rw [ee] at ce
    obtain ⟨z0, z1, z2⟩ := enc_dec hc
    have cde := decode_pure (encZ i) z0 (by omega)
    have ede : decV (encZ i) = .tup [i.v, .int .i64 0] := by unfold decV; rw [if_neg (by omega), z2, if_pos hc, hc]
    rw [ede] at cde
    have ct := text_pure i hib
    have hs := chk_small hc
    have htl : (textL i).length ≤ 100000 := text_len i hib
    have cp := parse_pure (textL i) htl
    rw [parse_text hc] at cp
    simp -implicitDefEqProofs only [go_sem, Ins.v, Ins.row, hc]
    refine CallS.pureF ce (by simp -implicitDefEqProofs only [go_sem, Ins.v, Ins.row]) ?_
    simp -implicitDefEqProofs only [go_sem, Ins.v, Ins.row]
    refine CallS.pureF cde (by simp -implicitDefEqProofs only [go_sem, Ins.v, Ins.row]) ?_
    simp -implicitDefEqProofs only [go_sem, Ins.v, Ins.row]
    refine CallS.pureF ct (by simp -implicitDefEqProofs only [go_sem, Ins.v, Ins.row]) ?_
    simp -implicitDefEqProofs only [go_sem, Ins.v, Ins.row]
    refine CallS.pureF cp (by simp -implicitDefEqProofs only [go_sem, Ins.v, Ins.row]) ?_
    simp -implicitDefEqProofs only [go_sem, Ins.v, Ins.row]
    rcases hdec with ⟨d1, d2, d3⟩ | ⟨e0, d1, d3⟩
    · rw [d3] at cd
      have ce2 := encode_pure (decI n1)
      rw [show encV (decI n1) = .tup [.int .u64 n1, .int .i64 0] by unfold encV; rw [if_pos d1, d1, dec_enc u0 d2 d1]] at ce2
      have cc2 := check_pure (decI n1)
      rw [d1] at cc2
      generalize decI n1 = dj at *
      refine CallS.pureF cd (by simp -implicitDefEqProofs only [go_sem, Ins.v, Ins.row]) ?_
      simp -implicitDefEqProofs only [go_sem, Ins.v, Ins.row]
      refine CallS.pureF ce2 (by simp -implicitDefEqProofs only [go_sem, Ins.v, Ins.row]) ?_
      simp -implicitDefEqProofs only [go_sem, Ins.v, Ins.row]
      refine CallS.pureF cc2 (by simp -implicitDefEqProofs only [go_sem, Ins.v, Ins.row]) ?_
      by_cases hlong : (200 : Int) < (n2.length : Int)
      · simp -implicitDefEqProofs only [go_sem, Ins.v, Ins.row, hlong]
        refine CallS.pureF awake_pure (by simp -implicitDefEqProofs only [go_sem, Ins.v, Ins.row]) ?_
        simp -implicitDefEqProofs only [go_sem, Ins.v, Ins.row]
      have hpar := parse_pure n2 (by omega)
      rcases parseV_cases n2 with ⟨j, j1, j2, j3⟩ | ⟨e, j1, j3⟩
      · rw [j3] at hpar
        have cj := check_pure j
        have tj := text_pure j (small_inB j1)
        rw [j1] at cj
        rw [j2] at tj
        simp -implicitDefEqProofs only [go_sem, Ins.v, Ins.row, hlong]
        refine CallS.pureF hpar (by simp -implicitDefEqProofs only [go_sem, Ins.v, Ins.row]) ?_
        simp -implicitDefEqProofs only [go_sem, Ins.v, Ins.row]
        refine CallS.pureF cj (by simp -implicitDefEqProofs only [go_sem, Ins.v, Ins.row]) ?_
        simp -implicitDefEqProofs only [go_sem, Ins.v, Ins.row]
        refine CallS.pureF tj (by simp -implicitDefEqProofs only [go_sem, Ins.v, Ins.row]) ?_
        simp -implicitDefEqProofs only [go_sem, Ins.v, Ins.row]
        refine CallS.pureF awake_pure (by simp -implicitDefEqProofs only [go_sem, Ins.v, Ins.row]) ?_
        simp -implicitDefEqProofs only [go_sem, Ins.v, Ins.row]
      · rw [j3] at hpar
        simp -implicitDefEqProofs only [go_sem, Ins.v, Ins.row, hlong]
        refine CallS.pureF hpar (by simp -implicitDefEqProofs only [go_sem, Ins.v, Ins.row, zI]) ?_
        simp -implicitDefEqProofs only [go_sem, Ins.v, Ins.row, zI, j1]
        refine CallS.pureF awake_pure (by simp -implicitDefEqProofs only [go_sem, Ins.v, Ins.row]) ?_
        simp -implicitDefEqProofs only [go_sem, Ins.v, Ins.row]
    · rw [d3] at cd
      refine CallS.pureF cd (by simp -implicitDefEqProofs only [go_sem, Ins.v, Ins.row, zI]) ?_
      have d1' : (e0 = 0) = False := eq_false d1
      by_cases hlong : (200 : Int) < (n2.length : Int)
      · simp -implicitDefEqProofs only [go_sem, Ins.v, Ins.row, zI, d1', hlong]
        refine CallS.pureF awake_pure (by simp -implicitDefEqProofs only [go_sem, Ins.v, Ins.row]) ?_
        simp -implicitDefEqProofs only [go_sem, Ins.v, Ins.row]
      have hpar := parse_pure n2 (by omega)
      rcases parseV_cases n2 with ⟨j, j1, j2, j3⟩ | ⟨e, j1, j3⟩
      · rw [j3] at hpar
        have cj := check_pure j
        have tj := text_pure j (small_inB j1)
        rw [j1] at cj
        rw [j2] at tj
        simp -implicitDefEqProofs only [go_sem, Ins.v, Ins.row, zI, d1', hlong]
        refine CallS.pureF hpar (by simp -implicitDefEqProofs only [go_sem, Ins.v, Ins.row]) ?_
        simp -implicitDefEqProofs only [go_sem, Ins.v, Ins.row]
        refine CallS.pureF cj (by simp -implicitDefEqProofs only [go_sem, Ins.v, Ins.row]) ?_
        simp -implicitDefEqProofs only [go_sem, Ins.v, Ins.row]
        refine CallS.pureF tj (by simp -implicitDefEqProofs only [go_sem, Ins.v, Ins.row]) ?_
        simp -implicitDefEqProofs only [go_sem, Ins.v, Ins.row]
        refine CallS.pureF awake_pure (by simp -implicitDefEqProofs only [go_sem, Ins.v, Ins.row]) ?_
        simp -implicitDefEqProofs only [go_sem, Ins.v, Ins.row]
      · rw [j3] at hpar
        simp -implicitDefEqProofs only [go_sem, Ins.v, Ins.row, zI, d1', hlong]
        refine CallS.pureF hpar (by simp -implicitDefEqProofs only [go_sem, Ins.v, Ins.row, zI]) ?_
        simp -implicitDefEqProofs only [go_sem, Ins.v, Ins.row, zI, j1]
        refine CallS.pureF awake_pure (by simp -implicitDefEqProofs only [go_sem, Ins.v, Ins.row]) ?_
        simp -implicitDefEqProofs only [go_sem, Ins.v, Ins.row]
  · simp -implicitDefEqProofs only [go_sem, Ins.v, Ins.row, hc]
    rcases hdec with ⟨d1, d2, d3⟩ | ⟨e0, d1, d3⟩
    · rw [d3] at cd
      have ce2 := encode_pure (decI n1)
      rw [show encV (decI n1) = .tup [.int .u64 n1, .int .i64 0] by unfold encV; rw [if_pos d1, d1, dec_enc u0 d2 d1]] at ce2
      have cc2 := check_pure (decI n1)
      rw [d1] at cc2
      generalize decI n1 = dj at *
      refine CallS.pureF cd (by simp -implicitDefEqProofs only [go_sem, Ins.v, Ins.row]) ?_
      simp -implicitDefEqProofs only [go_sem, Ins.v, Ins.row]
      refine CallS.pureF ce2 (by simp -implicitDefEqProofs only [go_sem, Ins.v, Ins.row]) ?_
      simp -implicitDefEqProofs only [go_sem, Ins.v, Ins.row]
      refine CallS.pureF cc2 (by simp -implicitDefEqProofs only [go_sem, Ins.v, Ins.row]) ?_
      by_cases hlong : (200 : Int) < (n2.length : Int)
      · simp -implicitDefEqProofs only [go_sem, Ins.v, Ins.row, hlong]
        refine CallS.pureF awake_pure (by simp -implicitDefEqProofs only [go_sem, Ins.v, Ins.row]) ?_
        simp -implicitDefEqProofs only [go_sem, Ins.v, Ins.row]
      have hpar := parse_pure n2 (by omega)
      rcases parseV_cases n2 with ⟨j, j1, j2, j3⟩ | ⟨e, j1, j3⟩
      · rw [j3] at hpar
        have cj := check_pure j
        have tj := text_pure j (small_inB j1)
        rw [j1] at cj
        rw [j2] at tj
        simp -implicitDefEqProofs only [go_sem, Ins.v, Ins.row, hlong]
        refine CallS.pureF hpar (by simp -implicitDefEqProofs only [go_sem, Ins.v, Ins.row]) ?_
        simp -implicitDefEqProofs only [go_sem, Ins.v, Ins.row]
        refine CallS.pureF cj (by simp -implicitDefEqProofs only [go_sem, Ins.v, Ins.row]) ?_
        simp -implicitDefEqProofs only [go_sem, Ins.v, Ins.row]
        refine CallS.pureF tj (by simp -implicitDefEqProofs only [go_sem, Ins.v, Ins.row]) ?_
        simp -implicitDefEqProofs only [go_sem, Ins.v, Ins.row]
        refine CallS.pureF awake_pure (by simp -implicitDefEqProofs only [go_sem, Ins.v, Ins.row]) ?_
        simp -implicitDefEqProofs only [go_sem, Ins.v, Ins.row]
      · rw [j3] at hpar
        simp -implicitDefEqProofs only [go_sem, Ins.v, Ins.row, hlong]
        refine CallS.pureF hpar (by simp -implicitDefEqProofs only [go_sem, Ins.v, Ins.row, zI]) ?_
        simp -implicitDefEqProofs only [go_sem, Ins.v, Ins.row, zI, j1]
        refine CallS.pureF awake_pure (by simp -implicitDefEqProofs only [go_sem, Ins.v, Ins.row]) ?_
        simp -implicitDefEqProofs only [go_sem, Ins.v, Ins.row]
    · rw [d3] at cd
      refine CallS.pureF cd (by simp -implicitDefEqProofs only [go_sem, Ins.v, Ins.row, zI]) ?_
      have d1' : (e0 = 0) = False := eq_false d1
      by_cases hlong : (200 : Int) < (n2.length : Int)
      · simp -implicitDefEqProofs only [go_sem, Ins.v, Ins.row, zI, d1', hlong]
        refine CallS.pureF awake_pure (by simp -implicitDefEqProofs only [go_sem, Ins.v, Ins.row]) ?_
        simp -implicitDefEqProofs only [go_sem, Ins.v, Ins.row]
      have hpar := parse_pure n2 (by omega)
      rcases parseV_cases n2 with ⟨j, j1, j2, j3⟩ | ⟨e, j1, j3⟩
      · rw [j3] at hpar
        have cj := check_pure j
        have tj := text_pure j (small_inB j1)
        rw [j1] at cj
        rw [j2] at tj
        simp -implicitDefEqProofs only [go_sem, Ins.v, Ins.row, zI, d1', hlong]
        refine CallS.pureF hpar (by simp -implicitDefEqProofs only [go_sem, Ins.v, Ins.row]) ?_
        simp -implicitDefEqProofs only [go_sem, Ins.v, Ins.row]
        refine CallS.pureF cj (by simp -implicitDefEqProofs only [go_sem, Ins.v, Ins.row]) ?_
        simp -implicitDefEqProofs only [go_sem, Ins.v, Ins.row]
        refine CallS.pureF tj (by simp -implicitDefEqProofs only [go_sem, Ins.v, Ins.row]) ?_
        simp -implicitDefEqProofs only [go_sem, Ins.v, Ins.row]
        refine CallS.pureF awake_pure (by simp -implicitDefEqProofs only [go_sem, Ins.v, Ins.row]) ?_
        simp -implicitDefEqProofs only [go_sem, Ins.v, Ins.row]
      · rw [j3] at hpar
        simp -implicitDefEqProofs only [go_sem, Ins.v, Ins.row, zI, d1', hlong]
        refine CallS.pureF hpar (by simp -implicitDefEqProofs only [go_sem, Ins.v, Ins.row, zI]) ?_
        simp -implicitDefEqProofs only [go_sem, Ins.v, Ins.row, zI, j1]
        refine CallS.pureF awake_pure (by simp -implicitDefEqProofs only [go_sem, Ins.v, Ins.row]) ?_
        simp -implicitDefEqProofs only [go_sem, Ins.v, Ins.row]
end Go.Proofs.YtembaiapafbfcaaDoor
