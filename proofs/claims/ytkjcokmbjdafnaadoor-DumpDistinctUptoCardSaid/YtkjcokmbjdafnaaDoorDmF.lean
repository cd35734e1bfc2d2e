/-
  What the writer of functions puts behind its bytes. No condition.
-/
import Derived.Test.YtkjcokmbjdafnaaDoorDmN
import Derived.Test.YtkjcokmbjdafnaaDoorFnCk
set_option linter.unusedVariables false
set_option linter.unusedSimpArgs false
set_option maxRecDepth 100000
set_option maxHeartbeats 0
namespace Go.Proofs.YtkjcokmbjdafnaaDoor
open Go.Abs
attribute [local irreducible] CallS Run
abbrev fN (k : Nat) : Nat := 14 * 10000 + k
-- EV: dW, dB, fN
def numsL (l : List Int) : List Int := l.flatMap numL
theorem nums_len : ∀ l : List Int, (numsL l).length = 8 * l.length
  | [] => rfl
  | z :: r => by
    have := nums_len r
    unfold numsL at this ⊢
    rw [List.flatMap_cons, List.length_append, this, numL_len, List.length_cons]
    omega
def insZs (i : Ins) : List Int := [i.op, i.a, i.b, i.c, i.d]
def vrZs (v : Vr) : List Int := [v.reg, v.lo, v.hi, v.attr]
def upL (u : Upv) : List Int := strL u.name ++ [if u.loc then 1 else 0] ++ numL u.idx
def vrL (v : Vr) : List Int := strL v.name ++ numsL (vrZs v)
mutual
def encF : Fn → List Int
  | ⟨name, line, params, vararg, regs, code, lines, consts, l, ups, vars⟩ =>
    strL name ++ numL line ++ numL params ++ [if vararg then 1 else 0] ++ numL regs ++ numL code.length ++ code.flatMap (fun i => numsL (insZs i)) ++ numL lines.length ++ numsL lines ++ numL consts.length ++ consts.flatMap valL ++ numL l.length ++ encL l ++ numL ups.length ++ ups.flatMap upL ++ numL vars.length ++ vars.flatMap vrL
def encL : List Fn → List Int
  | [] => []
  | q :: r => encF q ++ encL r
end
theorem encF_eq (p : Fn) : encF p = strL p.name ++ numL p.line ++ numL p.params ++ [if p.vararg then 1 else 0] ++ numL p.regs ++ numL p.code.length ++ p.code.flatMap (fun i => numsL (insZs i)) ++ numL p.lines.length ++ numsL p.lines ++ numL p.consts.length ++ p.consts.flatMap valL ++ numL p.protos.length ++ encL p.protos ++ numL p.ups.length ++ p.ups.flatMap upL ++ numL p.vars.length ++ p.vars.flatMap vrL := by
  obtain ⟨a, b, c, d, e, f, g, h, i, j, k⟩ := p
  rw [encF]
theorem encL_flat : ∀ l : List Fn, encL l = l.flatMap encF
  | [] => rfl
  | q :: r => by rw [encL, encL_flat r]; rfl
theorem flat_next {α : Type} {f : α → List Int} {l : List α} {k : Nat} {x : α} (h : l[k]? = some x) : (l.take (k + 1)).flatMap f = (l.take k).flatMap f ++ f x := by
  rw [List.take_add_one, h, List.flatMap_append]
  simp
theorem flat_count {α : Type} {f : α → List Int} (hf : ∀ x, 1 ≤ (f x).length) : ∀ l : List α, l.length ≤ (l.flatMap f).length
  | [] => Nat.zero_le _
  | x :: r => by
    have := flat_count hf r
    have := hf x
    rw [List.flatMap_cons, List.length_append, List.length_cons]
    omega
theorem flat_le {α : Type} {f : α → List Int} (l : List α) (k : Nat) : ((l.take k).flatMap f).length ≤ (l.flatMap f).length := by
  conv => rhs; rw [← List.take_append_drop k l]
  rw [List.flatMap_append, List.length_append]
  omega
theorem func_call (p : Fn) : ∀ (sW s n : Nat) (l : List Int), l.length + (encF p).length ≤ 80000000000000 →
    CallS Tryd.prog 14 [.ptr dW sW 0 0, .agg p.row] (wrH dW sW dB s l) n fun r h' n' => r = .tup [] ∧ ∃ s', h' = wrH dW sW dB s' (l ++ encF p) := by
  induction p using Fn.ind with
  | h p ih =>
  intro sW s n l hl
  have hWB : dW ≠ dB := by decide
  have nc := fun s l hl z n => puts_of (num_call dW sW dB s n hWB l hl z)
  have tc := fun s l hl b n => puts_of (truth_call dW sW dB s n hWB l hl b)
  have sc := fun s l t hl n => puts_of (str_call dW sW dB s n hWB l t hl)
  have vc := fun s l v hl n => puts_of (value_call sW s n l v hl)
  have fc := fun q hq s n l hl => puts_of (ih q hq sW s n l hl)
  clear ih
  rw [encF_eq] at hl ⊢
  rw [Fn.row_eq]
  have hlC : (p.code.map Ins.row).length = p.code.length := List.length_map ..
  have hlL : (p.lines.map lrow).length = p.lines.length := List.length_map ..
  have hlK : (p.consts.map Kst.row).length = p.consts.length := List.length_map ..
  have hlP : (p.protos.map Fn.row).length = p.protos.length := List.length_map ..
  have hlU : (p.ups.map Upv.row).length = p.ups.length := List.length_map ..
  have hlV : (p.vars.map Vr.row).length = p.vars.length := List.length_map ..
  have hzC : rowsz (p.code.map Ins.row) 5 = True := eq_true (fun r hr => by obtain ⟨y, _, rfl⟩ := List.mem_map.1 hr; rfl)
  have hzL : rowsz (p.lines.map lrow) 1 = True := eq_true (fun r hr => by obtain ⟨y, _, rfl⟩ := List.mem_map.1 hr; rfl)
  have hzK : rowsz (p.consts.map Kst.row) 5 = True := eq_true (fun r hr => by obtain ⟨y, _, rfl⟩ := List.mem_map.1 hr; rfl)
  have hzP : rowsz (p.protos.map Fn.row) 11 = True := eq_true (fun r hr => by obtain ⟨y, _, rfl⟩ := List.mem_map.1 hr; exact Fn.row_len y)
  have hzU : rowsz (p.ups.map Upv.row) 3 = True := eq_true (fun r hr => by obtain ⟨y, _, rfl⟩ := List.mem_map.1 hr; rfl)
  have hzV : rowsz (p.vars.map Vr.row) 5 = True := eq_true (fun r hr => by obtain ⟨y, _, rfl⟩ := List.mem_map.1 hr; rfl)
  generalize hCR : p.code.map Ins.row = CR at *
  generalize hLR : p.lines.map lrow = LR at *
  generalize hKR : p.consts.map Kst.row = KR at *
  generalize hPR : p.protos.map Fn.row = PR at *
  generalize hUR : p.ups.map Upv.row = UR at *
  generalize hVR : p.vars.map Vr.row = VR at *
  refine CallS.enterK dump_writer_function_ok (Nat.le_of_ble_eq_true rfl) fun Q hQ => Run.go 100 ?_
  have hsl : ∀ t : List UInt8, (strL t).length = 8 + t.length := fun t => by unfold strL; rw [List.length_append, numL_len, List.length_map]
  simp only [List.length_append, hsl, numL_len, List.length_cons, List.length_nil] at hl
  have hcC := flat_count (f := fun i => numsL (insZs i)) (fun i => by rw [nums_len]; show 1 ≤ 8 * 5; decide) p.code
  have hcL := flat_count (f := numL) (fun z => by rw [numL_len]; decide) p.lines
  have hcK := flat_count (f := valL) (fun v => by unfold valL; simp) p.consts
  have hcP := flat_count (f := encF) (fun q => by rw [encF_eq]; simp only [List.length_append, numL_len]; omega) p.protos
  have hcU := flat_count (f := upL) (fun u => by unfold upL; simp only [List.length_append, List.length_singleton]; omega) p.ups
  have hcV := flat_count (f := vrL) (fun v => by unfold vrL; simp only [List.length_append, hsl]; omega) p.vars
  rw [encL_flat, show numsL p.lines = p.lines.flatMap numL from rfl] at hl hQ
  simp only [← List.append_assoc] at hQ
  unfold wrH
  simp -implicitDefEqProofs only [go_sem, dW, dB, fN, initSl]
  refine CallS.at [1, 2] [0] (sc s l p.name (by omega) _) rfl rfl ?_
  rintro r h' n1 hn1 ⟨rfl, s1, L1, e1, k1, rfl⟩
  rw [← e1] at hQ
  rw [hsl] at k1
  simp -implicitDefEqProofs only [go_sem, dW, dB, fN, wrH]
  refine CallS.at [0, 1] [2] (nc s1 L1 (by omega) _ _) rfl rfl ?_
  rintro r h' n2 hn2 ⟨rfl, s2, L2, e2, k2, rfl⟩
  rw [← e2] at hQ
  rw [numL_len] at k2
  simp -implicitDefEqProofs only [go_sem, dW, dB, fN, wrH]
  refine CallS.at [0, 1] [2] (nc s2 L2 (by omega) _ _) rfl rfl ?_
  rintro r h' n3 hn3 ⟨rfl, s3, L3, e3, k3, rfl⟩
  rw [← e3] at hQ
  rw [numL_len] at k3
  simp -implicitDefEqProofs only [go_sem, dW, dB, fN, wrH]
  refine CallS.at [0, 1] [2] (tc s3 L3 (by omega) _ _) rfl rfl ?_
  rintro r h' n4 hn4 ⟨rfl, s4, L4, e4, k4, rfl⟩
  rw [← e4] at hQ
  rw [List.length_singleton] at k4
  simp -implicitDefEqProofs only [go_sem, dW, dB, fN, wrH]
  refine CallS.at [0, 1] [2] (nc s4 L4 (by omega) _ _) rfl rfl ?_
  rintro r h' n5 hn5 ⟨rfl, s5, L5, e5, k5, rfl⟩
  rw [← e5] at hQ
  rw [numL_len] at k5
  simp -implicitDefEqProofs only [go_sem, dW, dB, fN, wrH, hlC]
  refine CallS.at [0, 1] [2] (nc s5 L5 (by omega) _ _) rfl rfl ?_
  rintro r h' n6 hn6 ⟨rfl, s6, L6, e6, k6, rfl⟩
  rw [← e6] at hQ
  rw [numL_len] at k6
  simp -implicitDefEqProofs only [go_sem, dW, dB, fN, wrH, hlC]
  -- LOOPS
  refine Run.roundsK (fun (x : Nat × Nat × Nat) => ⟨[(48, .int .i64 x.1), (47, .int .i64 p.code.length), (46, .isl CR), (3, .ptr (fN 3) n 0 0), (0, .ptr dW sW 0 0)], wrH dW sW dB x.2.1 (L6 ++ (p.code.take x.1).flatMap (fun i => numsL (insZs i))) ++ [(fN 3, n, .rows 11 [[.str p.name, .int .i64 p.line, .int .i64 p.params, .bool p.vararg, .int .i64 p.regs, .isl CR, .isl LR, .isl KR, .isl PR, .isl UR, .isl VR]])], x.2.2⟩) (fun x => x.1 ≤ p.code.length) (fun x => p.code.length - x.1) (0, s6, n6) ?_ (Nat.zero_le _) ?_
  · exact .turn id ⟨.refl _, .refl _, .refl _, .refl _, .refl _, trivial⟩ (.of fun e he => ⟨e, by simpa [wrH] using he, rfl, rfl, .refl _⟩)
  rintro ⟨k, t1, m1⟩ hk lp
  dsimp only at hk lp ⊢
  refine Run.unf dump_writer_function_l0_eq (Run.go 100 ?_)
  have hfl := flat_le (f := (fun i => numsL (insZs i))) p.code k
  obtain ⟨M1, eM1⟩ : ∃ L, L = L6 ++ (p.code.take k).flatMap (fun i => numsL (insZs i)) := ⟨_, rfl⟩
  have kM1 := congrArg List.length eM1
  rw [List.length_append] at kM1
  rw [← eM1]
  by_cases c : (k : Int) < p.code.length
  · obtain ⟨i, hi⟩ : ∃ i, p.code[k]? = some i := ⟨p.code[k]'(by omega), by simp⟩
    have hir : CR[k]? = some [.int .i64 i.op, .int .i64 i.a, .int .i64 i.b, .int .i64 i.c, .int .i64 i.d] := by rw [← hCR, List.getElem?_map, hi]; rfl
    have hnx := flat_next (f := (fun i => numsL (insZs i))) hi
    have hfl2 := flat_le (f := (fun i => numsL (insZs i))) p.code (k + 1)
    rw [hnx, List.length_append] at hfl2
    have k0 : ((0 : Int) ≤ (k : Int)) = True := eq_true (by omega)
    have k1' : (k < p.code.length) = True := eq_true (by omega)
    have fin := fun s' s2 m2 => lp s' (k + 1, s2, m2) (by dsimp only; omega) (by dsimp only; omega)
    dsimp only at fin
    rw [hnx, ← List.append_assoc, ← eM1] at fin
    simp -implicitDefEqProofs only [go_sem, dW, dB, fN, wrH, c, k0, k1', hlC, hzC, hir, Option.some.injEq, forall_eq']
    obtain ⟨stI, hstI⟩ : ∃ st, st = m1 + 1 := ⟨_, rfl⟩
    rw [← hstI]
    have hiz : ∀ j, (((insZs i).take j).length ≤ 5) := fun j => by rw [List.length_take]; exact Nat.min_le_right _ _
    have hil : ∀ j, (numsL ((insZs i).take j)).length = 8 * ((insZs i).take j).length := fun j => nums_len _
    refine Run.roundsK (fun (y : Nat × Nat × Nat) => ⟨[(64, .int .i64 y.1), (63, .int .i64 5), (62, .sl (fN 62) stI 0 5), (48, .int .i64 k), (47, .int .i64 p.code.length), (46, .isl CR), (3, .ptr (fN 3) n 0 0), (0, .ptr dW sW 0 0)], wrH dW sW dB y.2.1 (M1 ++ numsL ((insZs i).take y.1)) ++ [(fN 62, stI, .rows 1 ((insZs i).map lrow)), (fN 3, n, .rows 11 [[.str p.name, .int .i64 p.line, .int .i64 p.params, .bool p.vararg, .int .i64 p.regs, .isl CR, .isl LR, .isl KR, .isl PR, .isl UR, .isl VR]])], y.2.2⟩) (fun y => y.1 ≤ 5) (fun y => 5 - y.1) (0, t1, (stI + 1)) ?_ (Nat.zero_le _) ?_
    · exact .turn id ⟨.refl _, .refl _, .refl _, .refl _, .refl _, .refl _, .refl _, .refl _, trivial⟩ (.of fun e he => ⟨e, by simp only [wrH, List.take_zero, numsL, List.flatMap_nil, List.append_nil, List.cons_append, List.nil_append, List.mem_cons, List.not_mem_nil, or_false] at he ⊢; rcases he with h | h | h | h <;> simp [h, insZs, vrZs, lrow], rfl, rfl, .refl _⟩)
    rintro ⟨j, sj, nj⟩ hj lpi
    dsimp only at hj lpi ⊢
    refine Run.unf dump_writer_function_l1_eq (Run.go 100 ?_)
    have hlZ : ((insZs i).map lrow).length = 5 := rfl
    have hzZ : rowsz ((insZs i).map lrow) 1 = True := eq_true (fun r hr => by obtain ⟨y, _, rfl⟩ := List.mem_map.1 hr; rfl)
    have hrZ : ∀ z, (insZs i)[j]? = some z → ((insZs i).map lrow)[j]? = some [.int .i64 z] := fun z h => by rw [List.getElem?_map, h]; rfl
    obtain ⟨Lj, ej⟩ : ∃ L, L = M1 ++ numsL ((insZs i).take j) := ⟨_, rfl⟩
    have kj := congrArg List.length ej
    rw [List.length_append, hil] at kj
    have hij := hiz j
    rw [← ej]
    by_cases cj : (j : Int) < 5
    · obtain ⟨z, hz⟩ : ∃ z, (insZs i)[j]? = some z := ⟨(insZs i)[j]'(by show j < 5; omega), by simp⟩
      have hzr := hrZ z hz
      have hnz := flat_next (f := numL) hz
      have j0 : ((0 : Int) ≤ (j : Int)) = True := eq_true (by omega)
      have j1 : (j < 5) = True := eq_true (by omega)
      have finj := fun s' s2 m2 => lpi s' (j + 1, s2, m2) (by dsimp only; omega) (by dsimp only; omega)
      dsimp only at finj
      rw [show numsL ((insZs i).take (j + 1)) = _ from hnz, ← List.append_assoc, ← show Lj = M1 ++ ((insZs i).take j).flatMap numL from ej] at finj
      generalize (insZs i).map lrow = ZR at *
      simp -implicitDefEqProofs only [go_sem, dW, dB, fN, wrH, cj, j0, j1, hlZ, hzZ, hzr, Option.some.injEq, forall_eq']
      refine CallS.at [0, 1] [2, 3] (nc sj Lj (by omega) _ _) rfl rfl ?_
      rintro r h' nz hnz2 ⟨rfl, sz, Lz, ez, kz, rfl⟩
      rw [← ez] at finj
      simp -implicitDefEqProofs only [go_sem, dW, dB, fN, wrH]
      exact ⟨by omega, finj _ sz nz (.turn id ⟨.refl _, .refl _, .refl _, .refl _, .refl _, .refl _, .refl _, .refl _, trivial⟩ (.of fun e he => ⟨e, by simp only [wrH, List.cons_append, List.nil_append, List.mem_cons, List.not_mem_nil, or_false] at he ⊢; rcases he with h | h | h | h <;> simp [h], rfl, rfl, .refl _⟩))⟩
    · obtain rfl : j = 5 := by omega
      rw [show (insZs i).take 5 = insZs i from rfl] at ej
      rw [← ej] at fin
      simp -implicitDefEqProofs only [go_sem, dW, dB, fN, cj]
      exact ⟨by omega, fin _ sj nj (.turn id ⟨.refl _, .refl _, .refl _, .refl _, .refl _, trivial⟩ (.of fun e he => ⟨e, by simp only [wrH, List.cons_append, List.nil_append, List.mem_cons, List.not_mem_nil, or_false] at he ⊢; rcases he with h | h | h <;> simp [h], rfl, rfl, .refl _⟩))⟩
  · obtain rfl : k = p.code.length := by omega
    rw [List.take_length] at eM1 hfl kM1
    rw [← eM1] at hQ
    clear lp
    simp -implicitDefEqProofs only [go_sem, dW, dB, fN, wrH, c, hlL]
    refine CallS.at [0, 1] [2] (nc t1 M1 (by omega) _ _) rfl rfl ?_
    rintro r h' q1 hq1 ⟨rfl, u1, N1, eN1, kN1, rfl⟩
    rw [← eN1] at hQ
    rw [numL_len] at kN1
    simp -implicitDefEqProofs only [go_sem, dW, dB, fN, wrH, hlL]
    refine Run.roundsK (fun (x : Nat × Nat × Nat) => ⟨[(81, .int .i64 x.1), (80, .int .i64 p.lines.length), (79, .isl LR), (3, .ptr (fN 3) n 0 0), (0, .ptr dW sW 0 0)], wrH dW sW dB x.2.1 (N1 ++ (p.lines.take x.1).flatMap numL) ++ [(fN 3, n, .rows 11 [[.str p.name, .int .i64 p.line, .int .i64 p.params, .bool p.vararg, .int .i64 p.regs, .isl CR, .isl LR, .isl KR, .isl PR, .isl UR, .isl VR]])], x.2.2⟩) (fun x => x.1 ≤ p.lines.length) (fun x => p.lines.length - x.1) (0, u1, q1) ?_ (Nat.zero_le _) ?_
    · exact .turn id ⟨.refl _, .refl _, .refl _, .refl _, .refl _, trivial⟩ (.of fun e he => ⟨e, by simpa [wrH] using he, rfl, rfl, .refl _⟩)
    rintro ⟨k, t2, m2⟩ hk lp
    dsimp only at hk lp ⊢
    refine Run.unf dump_writer_function_l2_eq (Run.go 100 ?_)
    have hfl := flat_le (f := numL) p.lines k
    obtain ⟨M2, eM2⟩ : ∃ L, L = N1 ++ (p.lines.take k).flatMap numL := ⟨_, rfl⟩
    have kM2 := congrArg List.length eM2
    rw [List.length_append] at kM2
    rw [← eM2]
    by_cases c : (k : Int) < p.lines.length
    · obtain ⟨i, hi⟩ : ∃ i, p.lines[k]? = some i := ⟨p.lines[k]'(by omega), by simp⟩
      have hir : LR[k]? = some [.int .i64 i] := by rw [← hLR, List.getElem?_map, hi]; rfl
      have hnx := flat_next (f := numL) hi
      have hfl2 := flat_le (f := numL) p.lines (k + 1)
      rw [hnx, List.length_append] at hfl2
      have k0 : ((0 : Int) ≤ (k : Int)) = True := eq_true (by omega)
      have k1' : (k < p.lines.length) = True := eq_true (by omega)
      have fin := fun s' s2 m2 => lp s' (k + 1, s2, m2) (by dsimp only; omega) (by dsimp only; omega)
      dsimp only at fin
      rw [hnx, ← List.append_assoc, ← eM2] at fin
      rw [numL_len] at hfl2
      simp -implicitDefEqProofs only [go_sem, dW, dB, fN, wrH, c, k0, k1', hlL, hzL, hir, Option.some.injEq, forall_eq']
      refine CallS.at [0, 1] [2] (nc t2 M2 (by omega) _ _) rfl rfl ?_
      rintro r h' nz hnz ⟨rfl, sz, Lz, ez, kz, rfl⟩
      rw [← ez] at fin
      simp -implicitDefEqProofs only [go_sem, dW, dB, fN, wrH]
      exact ⟨by omega, fin _ sz nz (.turn id ⟨.refl _, .refl _, .refl _, .refl _, .refl _, trivial⟩ (.of fun e he => ⟨e, by simp only [wrH, List.cons_append, List.nil_append, List.mem_cons, List.not_mem_nil, or_false] at he ⊢; rcases he with h | h | h <;> simp [h], rfl, rfl, .refl _⟩))⟩
    · obtain rfl : k = p.lines.length := by omega
      rw [List.take_length] at eM2 hfl kM2
      rw [← eM2] at hQ
      clear lp
      simp -implicitDefEqProofs only [go_sem, dW, dB, fN, wrH, c, hlK]
      refine CallS.at [0, 1] [2] (nc t2 M2 (by omega) _ _) rfl rfl ?_
      rintro r h' q2 hq2 ⟨rfl, u2, N2, eN2, kN2, rfl⟩
      rw [← eN2] at hQ
      rw [numL_len] at kN2
      simp -implicitDefEqProofs only [go_sem, dW, dB, fN, wrH, hlK]
      refine Run.roundsK (fun (x : Nat × Nat × Nat) => ⟨[(97, .int .i64 x.1), (96, .int .i64 p.consts.length), (95, .isl KR), (3, .ptr (fN 3) n 0 0), (0, .ptr dW sW 0 0)], wrH dW sW dB x.2.1 (N2 ++ (p.consts.take x.1).flatMap valL) ++ [(fN 3, n, .rows 11 [[.str p.name, .int .i64 p.line, .int .i64 p.params, .bool p.vararg, .int .i64 p.regs, .isl CR, .isl LR, .isl KR, .isl PR, .isl UR, .isl VR]])], x.2.2⟩) (fun x => x.1 ≤ p.consts.length) (fun x => p.consts.length - x.1) (0, u2, q2) ?_ (Nat.zero_le _) ?_
      · exact .turn id ⟨.refl _, .refl _, .refl _, .refl _, .refl _, trivial⟩ (.of fun e he => ⟨e, by simpa [wrH] using he, rfl, rfl, .refl _⟩)
      rintro ⟨k, t3, m3⟩ hk lp
      dsimp only at hk lp ⊢
      refine Run.unf dump_writer_function_l3_eq (Run.go 100 ?_)
      have hfl := flat_le (f := valL) p.consts k
      obtain ⟨M3, eM3⟩ : ∃ L, L = N2 ++ (p.consts.take k).flatMap valL := ⟨_, rfl⟩
      have kM3 := congrArg List.length eM3
      rw [List.length_append] at kM3
      rw [← eM3]
      by_cases c : (k : Int) < p.consts.length
      · obtain ⟨i, hi⟩ : ∃ i, p.consts[k]? = some i := ⟨p.consts[k]'(by omega), by simp⟩
        have hir : KR[k]? = some [.int .i64 i.kind, .int .i64 i.p, .int .i64 i.q, .str i.str, .int .i64 i.ref] := by rw [← hKR, List.getElem?_map, hi]; rfl
        have hnx := flat_next (f := valL) hi
        have hfl2 := flat_le (f := valL) p.consts (k + 1)
        rw [hnx, List.length_append] at hfl2
        have k0 : ((0 : Int) ≤ (k : Int)) = True := eq_true (by omega)
        have k1' : (k < p.consts.length) = True := eq_true (by omega)
        have fin := fun s' s2 m2 => lp s' (k + 1, s2, m2) (by dsimp only; omega) (by dsimp only; omega)
        dsimp only at fin
        rw [hnx, ← List.append_assoc, ← eM3] at fin
        simp -implicitDefEqProofs only [go_sem, dW, dB, fN, wrH, c, k0, k1', hlK, hzK, hir, Option.some.injEq, forall_eq']
        refine CallS.at [1, 2] [3] (vc t3 M3 i (by omega) _) rfl rfl ?_
        rintro r h' nz hnz ⟨rfl, sz, Lz, ez, kz, rfl⟩
        rw [← ez] at fin
        simp -implicitDefEqProofs only [go_sem, dW, dB, fN, wrH]
        exact ⟨by omega, fin _ sz nz (.turn id ⟨.refl _, .refl _, .refl _, .refl _, .refl _, trivial⟩ (.of fun e he => ⟨e, by simp only [wrH, List.cons_append, List.nil_append, List.mem_cons, List.not_mem_nil, or_false] at he ⊢; rcases he with h | h | h <;> simp [h], rfl, rfl, .refl _⟩))⟩
      · obtain rfl : k = p.consts.length := by omega
        rw [List.take_length] at eM3 hfl kM3
        rw [← eM3] at hQ
        clear lp
        simp -implicitDefEqProofs only [go_sem, dW, dB, fN, wrH, c, hlP]
        refine CallS.at [0, 1] [2] (nc t3 M3 (by omega) _ _) rfl rfl ?_
        rintro r h' q3 hq3 ⟨rfl, u3, N3, eN3, kN3, rfl⟩
        rw [← eN3] at hQ
        rw [numL_len] at kN3
        simp -implicitDefEqProofs only [go_sem, dW, dB, fN, wrH, hlP]
        refine Run.roundsK (fun (x : Nat × Nat × Nat) => ⟨[(113, .int .i64 x.1), (112, .int .i64 p.protos.length), (111, .isl PR), (3, .ptr (fN 3) n 0 0), (0, .ptr dW sW 0 0)], wrH dW sW dB x.2.1 (N3 ++ (p.protos.take x.1).flatMap encF) ++ [(fN 3, n, .rows 11 [[.str p.name, .int .i64 p.line, .int .i64 p.params, .bool p.vararg, .int .i64 p.regs, .isl CR, .isl LR, .isl KR, .isl PR, .isl UR, .isl VR]])], x.2.2⟩) (fun x => x.1 ≤ p.protos.length) (fun x => p.protos.length - x.1) (0, u3, q3) ?_ (Nat.zero_le _) ?_
        · exact .turn id ⟨.refl _, .refl _, .refl _, .refl _, .refl _, trivial⟩ (.of fun e he => ⟨e, by simpa [wrH] using he, rfl, rfl, .refl _⟩)
        rintro ⟨k, t4, m4⟩ hk lp
        dsimp only at hk lp ⊢
        refine Run.unf dump_writer_function_l4_eq (Run.go 100 ?_)
        have hfl := flat_le (f := encF) p.protos k
        obtain ⟨M4, eM4⟩ : ∃ L, L = N3 ++ (p.protos.take k).flatMap encF := ⟨_, rfl⟩
        have kM4 := congrArg List.length eM4
        rw [List.length_append] at kM4
        rw [← eM4]
        by_cases c : (k : Int) < p.protos.length
        · obtain ⟨i, hi⟩ : ∃ i, p.protos[k]? = some i := ⟨p.protos[k]'(by omega), by simp⟩
          have hir : PR[k]? = some i.row := by rw [← hPR, List.getElem?_map, hi]; rfl
          have hnx := flat_next (f := encF) hi
          have hfl2 := flat_le (f := encF) p.protos (k + 1)
          rw [hnx, List.length_append] at hfl2
          have k0 : ((0 : Int) ≤ (k : Int)) = True := eq_true (by omega)
          have k1' : (k < p.protos.length) = True := eq_true (by omega)
          have fin := fun s' s2 m2 => lp s' (k + 1, s2, m2) (by dsimp only; omega) (by dsimp only; omega)
          dsimp only at fin
          rw [hnx, ← List.append_assoc, ← eM4] at fin
          obtain ⟨o1, o2⟩ := fn_row11 i
          simp -implicitDefEqProofs only [go_sem, dW, dB, fN, wrH, c, k0, k1', hlP, hzP, hir, o1, o2, Option.some.injEq, forall_eq']
          refine CallS.at [1, 2] [3] (fc i (List.mem_of_getElem? hi) t4 _ M4 (by omega)) rfl rfl ?_
          rintro r h' nz hnz ⟨rfl, sz, Lz, ez, kz, rfl⟩
          rw [← ez] at fin
          simp -implicitDefEqProofs only [go_sem, dW, dB, fN, wrH]
          exact ⟨by omega, fin _ sz nz (.turn id ⟨.refl _, .refl _, .refl _, .refl _, .refl _, trivial⟩ (.of fun e he => ⟨e, by simp only [wrH, List.cons_append, List.nil_append, List.mem_cons, List.not_mem_nil, or_false] at he ⊢; rcases he with h | h | h <;> simp [h], rfl, rfl, .refl _⟩))⟩
        · obtain rfl : k = p.protos.length := by omega
          rw [List.take_length] at eM4 hfl kM4
          rw [← eM4] at hQ
          clear lp
          simp -implicitDefEqProofs only [go_sem, dW, dB, fN, wrH, c, hlU]
          refine CallS.at [0, 1] [2] (nc t4 M4 (by omega) _ _) rfl rfl ?_
          rintro r h' q4 hq4 ⟨rfl, u4, N4, eN4, kN4, rfl⟩
          rw [← eN4] at hQ
          rw [numL_len] at kN4
          simp -implicitDefEqProofs only [go_sem, dW, dB, fN, wrH, hlU]
          refine Run.roundsK (fun (x : Nat × Nat × Nat) => ⟨[(129, .int .i64 x.1), (128, .int .i64 p.ups.length), (127, .isl UR), (3, .ptr (fN 3) n 0 0), (0, .ptr dW sW 0 0)], wrH dW sW dB x.2.1 (N4 ++ (p.ups.take x.1).flatMap upL) ++ [(fN 3, n, .rows 11 [[.str p.name, .int .i64 p.line, .int .i64 p.params, .bool p.vararg, .int .i64 p.regs, .isl CR, .isl LR, .isl KR, .isl PR, .isl UR, .isl VR]])], x.2.2⟩) (fun x => x.1 ≤ p.ups.length) (fun x => p.ups.length - x.1) (0, u4, q4) ?_ (Nat.zero_le _) ?_
          · exact .turn id ⟨.refl _, .refl _, .refl _, .refl _, .refl _, trivial⟩ (.of fun e he => ⟨e, by simpa [wrH] using he, rfl, rfl, .refl _⟩)
          rintro ⟨k, t5, m5⟩ hk lp
          dsimp only at hk lp ⊢
          refine Run.unf dump_writer_function_l5_eq (Run.go 100 ?_)
          have hfl := flat_le (f := upL) p.ups k
          obtain ⟨M5, eM5⟩ : ∃ L, L = N4 ++ (p.ups.take k).flatMap upL := ⟨_, rfl⟩
          have kM5 := congrArg List.length eM5
          rw [List.length_append] at kM5
          rw [← eM5]
          by_cases c : (k : Int) < p.ups.length
          · obtain ⟨i, hi⟩ : ∃ i, p.ups[k]? = some i := ⟨p.ups[k]'(by omega), by simp⟩
            have hir : UR[k]? = some [.str i.name, .bool i.loc, .int .i64 i.idx] := by rw [← hUR, List.getElem?_map, hi]; rfl
            have hnx := flat_next (f := upL) hi
            have hfl2 := flat_le (f := upL) p.ups (k + 1)
            rw [hnx, List.length_append] at hfl2
            have k0 : ((0 : Int) ≤ (k : Int)) = True := eq_true (by omega)
            have k1' : (k < p.ups.length) = True := eq_true (by omega)
            have fin := fun s' s2 m2 => lp s' (k + 1, s2, m2) (by dsimp only; omega) (by dsimp only; omega)
            dsimp only at fin
            rw [hnx, ← List.append_assoc, ← eM5] at fin
            have hup : (upL i).length = 8 + i.name.length + 1 + 8 := by unfold upL; simp only [List.length_append, hsl, numL_len, List.length_singleton]
            rw [hup] at hfl2
            rw [show upL i = strL i.name ++ [if i.loc then 1 else 0] ++ numL i.idx from rfl] at fin
            simp only [← List.append_assoc] at fin
            simp -implicitDefEqProofs only [go_sem, dW, dB, fN, wrH, c, k0, k1', hlU, hzU, hir, Option.some.injEq, forall_eq']
            refine CallS.at [1, 2] [0, 3] (sc t5 M5 i.name (by omega) _) rfl rfl ?_
            rintro r h' nx hnx' ⟨rfl, sx, Lx, ex, kx, rfl⟩
            rw [← ex] at fin
            rw [hsl] at kx
            simp -implicitDefEqProofs only [go_sem, dW, dB, fN, wrH]
            refine CallS.at [0, 1] [2, 3] (tc sx Lx (by omega) _ _) rfl rfl ?_
            rintro r h' ny hny ⟨rfl, sy, Ly, ey, ky, rfl⟩
            rw [← ey] at fin
            rw [List.length_singleton] at ky
            simp -implicitDefEqProofs only [go_sem, dW, dB, fN, wrH]
            refine CallS.at [0, 1] [2, 3] (nc sy Ly (by omega) _ _) rfl rfl ?_
            rintro r h' nz hnz ⟨rfl, sz, Lz, ez, kz, rfl⟩
            rw [← ez] at fin
            simp -implicitDefEqProofs only [go_sem, dW, dB, fN, wrH]
            exact ⟨by omega, fin _ sz nz (.turn id ⟨.refl _, .refl _, .refl _, .refl _, .refl _, trivial⟩ (.of fun e he => ⟨e, by simp only [wrH, List.cons_append, List.nil_append, List.mem_cons, List.not_mem_nil, or_false] at he ⊢; rcases he with h | h | h <;> simp [h], rfl, rfl, .refl _⟩))⟩
          · obtain rfl : k = p.ups.length := by omega
            rw [List.take_length] at eM5 hfl kM5
            rw [← eM5] at hQ
            clear lp
            simp -implicitDefEqProofs only [go_sem, dW, dB, fN, wrH, c, hlV]
            refine CallS.at [0, 1] [2] (nc t5 M5 (by omega) _ _) rfl rfl ?_
            rintro r h' q5 hq5 ⟨rfl, u5, N5, eN5, kN5, rfl⟩
            rw [← eN5] at hQ
            rw [numL_len] at kN5
            simp -implicitDefEqProofs only [go_sem, dW, dB, fN, wrH, hlV]
            refine Run.roundsK (fun (x : Nat × Nat × Nat) => ⟨[(154, .int .i64 x.1), (153, .int .i64 p.vars.length), (152, .isl VR), (3, .ptr (fN 3) n 0 0), (0, .ptr dW sW 0 0)], wrH dW sW dB x.2.1 (N5 ++ (p.vars.take x.1).flatMap vrL) ++ [(fN 3, n, .rows 11 [[.str p.name, .int .i64 p.line, .int .i64 p.params, .bool p.vararg, .int .i64 p.regs, .isl CR, .isl LR, .isl KR, .isl PR, .isl UR, .isl VR]])], x.2.2⟩) (fun x => x.1 ≤ p.vars.length) (fun x => p.vars.length - x.1) (0, u5, q5) ?_ (Nat.zero_le _) ?_
            · exact .turn id ⟨.refl _, .refl _, .refl _, .refl _, .refl _, trivial⟩ (.of fun e he => ⟨e, by simpa [wrH] using he, rfl, rfl, .refl _⟩)
            rintro ⟨k, t6, m6⟩ hk lp
            dsimp only at hk lp ⊢
            refine Run.unf dump_writer_function_l6_eq (Run.go 100 ?_)
            have hfl := flat_le (f := vrL) p.vars k
            obtain ⟨M6, eM6⟩ : ∃ L, L = N5 ++ (p.vars.take k).flatMap vrL := ⟨_, rfl⟩
            have kM6 := congrArg List.length eM6
            rw [List.length_append] at kM6
            rw [← eM6]
            by_cases c : (k : Int) < p.vars.length
            · obtain ⟨i, hi⟩ : ∃ i, p.vars[k]? = some i := ⟨p.vars[k]'(by omega), by simp⟩
              have hir : VR[k]? = some [.str i.name, .int .i64 i.reg, .int .i64 i.lo, .int .i64 i.hi, .int .i64 i.attr] := by rw [← hVR, List.getElem?_map, hi]; rfl
              have hnx := flat_next (f := vrL) hi
              have hfl2 := flat_le (f := vrL) p.vars (k + 1)
              rw [hnx, List.length_append] at hfl2
              have k0 : ((0 : Int) ≤ (k : Int)) = True := eq_true (by omega)
              have k1' : (k < p.vars.length) = True := eq_true (by omega)
              have fin := fun s' s2 m2 => lp s' (k + 1, s2, m2) (by dsimp only; omega) (by dsimp only; omega)
              dsimp only at fin
              rw [hnx, ← List.append_assoc, ← eM6] at fin
              have hup : (vrL i).length = 8 + i.name.length + 8 * 4 := by unfold vrL; rw [List.length_append, hsl, nums_len]; rfl
              rw [hup] at hfl2
              rw [show vrL i = strL i.name ++ numsL (vrZs i) from rfl, ← List.append_assoc] at fin
              simp -implicitDefEqProofs only [go_sem, dW, dB, fN, wrH, c, k0, k1', hlV, hzV, hir, Option.some.injEq, forall_eq']
              refine CallS.at [1, 2] [0, 3] (sc t6 M6 i.name (by omega) _) rfl rfl ?_
              rintro r h' nx hnx' ⟨rfl, sx, Lx, ex, kx, rfl⟩
              rw [← ex] at fin
              rw [hsl] at kx
              simp -implicitDefEqProofs only [go_sem, dW, dB, fN, wrH]
              obtain ⟨stI, hstI⟩ : ∃ st, st = nx := ⟨_, rfl⟩
              rw [← hstI]
              have hiz : ∀ j, (((vrZs i).take j).length ≤ 4) := fun j => by rw [List.length_take]; exact Nat.min_le_right _ _
              have hil : ∀ j, (numsL ((vrZs i).take j)).length = 8 * ((vrZs i).take j).length := fun j => nums_len _
              refine Run.roundsK (fun (y : Nat × Nat × Nat) => ⟨[(172, .int .i64 y.1), (171, .int .i64 4), (170, .sl (fN 170) stI 0 4), (154, .int .i64 k), (153, .int .i64 p.vars.length), (152, .isl VR), (3, .ptr (fN 3) n 0 0), (0, .ptr dW sW 0 0)], wrH dW sW dB y.2.1 (Lx ++ numsL ((vrZs i).take y.1)) ++ [(fN 170, stI, .rows 1 ((vrZs i).map lrow)), (fN 3, n, .rows 11 [[.str p.name, .int .i64 p.line, .int .i64 p.params, .bool p.vararg, .int .i64 p.regs, .isl CR, .isl LR, .isl KR, .isl PR, .isl UR, .isl VR]])], y.2.2⟩) (fun y => y.1 ≤ 4) (fun y => 4 - y.1) (0, sx, (stI + 1)) ?_ (Nat.zero_le _) ?_
              · exact .turn id ⟨.refl _, .refl _, .refl _, .refl _, .refl _, .refl _, .refl _, .refl _, trivial⟩ (.of fun e he => ⟨e, by simp only [wrH, List.take_zero, numsL, List.flatMap_nil, List.append_nil, List.cons_append, List.nil_append, List.mem_cons, List.not_mem_nil, or_false] at he ⊢; rcases he with h | h | h | h <;> simp [h, insZs, vrZs, lrow], rfl, rfl, .refl _⟩)
              rintro ⟨j, sj, nj⟩ hj lpi
              dsimp only at hj lpi ⊢
              refine Run.unf dump_writer_function_l7_eq (Run.go 100 ?_)
              have hlZ : ((vrZs i).map lrow).length = 4 := rfl
              have hzZ : rowsz ((vrZs i).map lrow) 1 = True := eq_true (fun r hr => by obtain ⟨y, _, rfl⟩ := List.mem_map.1 hr; rfl)
              have hrZ : ∀ z, (vrZs i)[j]? = some z → ((vrZs i).map lrow)[j]? = some [.int .i64 z] := fun z h => by rw [List.getElem?_map, h]; rfl
              obtain ⟨Lj, ej⟩ : ∃ L, L = Lx ++ numsL ((vrZs i).take j) := ⟨_, rfl⟩
              have kj := congrArg List.length ej
              rw [List.length_append, hil] at kj
              have hij := hiz j
              rw [← ej]
              by_cases cj : (j : Int) < 4
              · obtain ⟨z, hz⟩ : ∃ z, (vrZs i)[j]? = some z := ⟨(vrZs i)[j]'(by show j < 4; omega), by simp⟩
                have hzr := hrZ z hz
                have hnz := flat_next (f := numL) hz
                have j0 : ((0 : Int) ≤ (j : Int)) = True := eq_true (by omega)
                have j1 : (j < 4) = True := eq_true (by omega)
                have finj := fun s' s2 m2 => lpi s' (j + 1, s2, m2) (by dsimp only; omega) (by dsimp only; omega)
                dsimp only at finj
                rw [show numsL ((vrZs i).take (j + 1)) = _ from hnz, ← List.append_assoc, ← show Lj = Lx ++ ((vrZs i).take j).flatMap numL from ej] at finj
                generalize (vrZs i).map lrow = ZR at *
                simp -implicitDefEqProofs only [go_sem, dW, dB, fN, wrH, cj, j0, j1, hlZ, hzZ, hzr, Option.some.injEq, forall_eq']
                refine CallS.at [0, 1] [2, 3] (nc sj Lj (by omega) _ _) rfl rfl ?_
                rintro r h' nz hnz2 ⟨rfl, sz, Lz, ez, kz, rfl⟩
                rw [← ez] at finj
                simp -implicitDefEqProofs only [go_sem, dW, dB, fN, wrH]
                exact ⟨by omega, finj _ sz nz (.turn id ⟨.refl _, .refl _, .refl _, .refl _, .refl _, .refl _, .refl _, .refl _, trivial⟩ (.of fun e he => ⟨e, by simp only [wrH, List.cons_append, List.nil_append, List.mem_cons, List.not_mem_nil, or_false] at he ⊢; rcases he with h | h | h | h <;> simp [h], rfl, rfl, .refl _⟩))⟩
              · obtain rfl : j = 4 := by omega
                rw [show (vrZs i).take 4 = vrZs i from rfl] at ej
                rw [← ej] at fin
                simp -implicitDefEqProofs only [go_sem, dW, dB, fN, cj]
                exact ⟨by omega, fin _ sj nj (.turn id ⟨.refl _, .refl _, .refl _, .refl _, .refl _, trivial⟩ (.of fun e he => ⟨e, by simp only [wrH, List.cons_append, List.nil_append, List.mem_cons, List.not_mem_nil, or_false] at he ⊢; rcases he with h | h | h <;> simp [h], rfl, rfl, .refl _⟩))⟩
            · obtain rfl : k = p.vars.length := by omega
              rw [List.take_length] at eM6 hfl kM6
              rw [← eM6] at hQ
              clear lp
              simp -implicitDefEqProofs only [go_sem, dW, dB, fN, c]
              subst hQ
              exact .to (h2 := wrH dW sW dB t6 M6) (n2 := m6) ⟨rfl, t6, rfl⟩ (.turn id ⟨.refl _, trivial⟩ (.of fun e he => ⟨e, List.mem_append_left _ he, rfl, rfl, .refl _⟩))
end Go.Proofs.YtkjcokmbjdafnaaDoor
