/-
  What an instruction refers to. No condition.
-/
import Derived.Test.YtkjcokmbjdafnaaDoorFnM4
import Derived.Test.YtkjcokmbjdafnaaDoorRw
set_option linter.unusedVariables false
set_option linter.unusedSimpArgs false
set_option maxRecDepth 100000
set_option maxHeartbeats 0
namespace Go.Proofs.YtkjcokmbjdafnaaDoor
open Go.Abs
attribute [local irreducible] CallS Run RndS
def constI (i : Ins) : Int × Bool :=
  if i.op = 2 then (i.b, false) else if i.op = 7 then (i.b, true) else if i.op = 8 then (i.a, true) else if i.op = 11 then (i.c, true) else (-1, false)
theorem constant_pure (i : Ins) : Pure Tryd.prog 71 [i.v] (.tup [.int .i64 (constI i).1, .bool (constI i).2]) := by
  obtain ⟨op, a, b, c, d⟩ := i
  refine Pure.of 0 (CallS.enter proto_constant_ok (Nat.le_of_ble_eq_true rfl) (Run.go 100 ?_))
  by_cases k2 : op = 2
  · subst k2; simp -implicitDefEqProofs only [go_sem, initSl, Ins.v, Ins.row, constI]
  by_cases k7 : op = 7
  · subst k7; simp -implicitDefEqProofs only [go_sem, initSl, Ins.v, Ins.row, constI]
  by_cases k8 : op = 8
  · subst k8; simp -implicitDefEqProofs only [go_sem, initSl, Ins.v, Ins.row, constI]
  by_cases k11 : op = 11
  · subst k11; simp -implicitDefEqProofs only [go_sem, initSl, Ins.v, Ins.row, constI]
  simp -implicitDefEqProofs only [go_sem, initSl, Ins.v, Ins.row, constI, k2, k7, k8, k11]
def kindIs3 (o : Option Kst) : Bool := match o with | some c => decide (c.kind = 3) | none => false
def refersB (p : Fn) (i : Ins) : Bool :=
  if (p.consts.length : Int) ≤ (constI i).1 then false
  else if 0 ≤ (constI i).1 ∧ (constI i).2 = true ∧ kindIs3 p.consts[(constI i).1.toNat]? = false then false
  else if i.op = 5 then decide (i.b < p.ups.length) else if i.op = 6 then decide (i.a < p.ups.length) else if i.op = 22 then decide (i.b < p.protos.length) else if i.op = 19 then p.vararg else true
theorem ref_tail {op : Int} {x1 x2 x3 x4 z : Bool} (h : (if op = 5 then x1 else if op = 6 then x2 else if op = 22 then x3 else if op = 19 then x4 else true) = z) :
    (op = 5 → x1 = z) ∧ (¬ op = 5 → (op = 6 → x2 = z) ∧ (¬ op = 6 → (op = 22 → x3 = z) ∧ (¬ op = 22 → (op = 19 → x4 = z) ∧ (¬ op = 19 → true = z)))) := by
  subst h
  exact ⟨fun h => by rw [if_pos h], fun h5 => ⟨fun h => by rw [if_neg h5, if_pos h], fun h6 => ⟨fun h => by rw [if_neg h5, if_neg h6, if_pos h], fun h22 => ⟨fun h => by rw [if_neg h5, if_neg h6, if_neg h22, if_pos h], fun h19 => by rw [if_neg h5, if_neg h6, if_neg h22, if_neg h19]⟩⟩⟩⟩
theorem refers_pure (p : Fn) (hp : p.bd) (i : Ins) : Pure Tryd.prog 58 [.agg p.row, i.v] (.bool (refersB p i)) := by
  obtain ⟨h1, h2⟩ := fn_row11 p
  have hb := hp.self
  have hci := constant_pure i
  rw [Fn.row_eq] at h1 h2 ⊢
  obtain ⟨name, line, params, vararg, regs, code, lines, consts, protos, ups, vars⟩ := p
  have hcz : consts.length ≤ 17592186043904 := by have := hb.consts; simp only at this; omega
  have k2 : (consts.map Kst.row).length = consts.length := List.length_map ..
  have k3 : (protos.map Fn.row).length = protos.length := List.length_map ..
  have k4 : (ups.map Upv.row).length = ups.length := List.length_map ..
  have zc := eq_true (rowsz_of Kst.row 5 (fun _ => rfl) consts)
  have rc : ∀ (k : Nat) x, consts[k]? = some x → (consts.map Kst.row)[k]? = some (Kst.row x) := fun k x hk => by rw [List.getElem?_map, hk]; rfl
  generalize hl : refersB _ i = z
  simp only [refersB] at hl
  simp only at *
  generalize code.map Ins.row = rcode at *
  generalize consts.map Kst.row = rconsts at *
  generalize protos.map Fn.row = rprotos at *
  generalize lines.map lrow = rlines at *
  generalize ups.map Upv.row = rups at *
  generalize vars.map Vr.row = rvars at *
  generalize (constI i).1 = kk at *
  generalize (constI i).2 = nm at *
  obtain ⟨op, a, b, c, d⟩ := i
  refine Pure.of 0 (CallS.enter proto_refers_ok (Nat.le_of_ble_eq_true rfl) (Run.go 100 ?_))
  simp only [Ins.v, Ins.row] at *
  simp -implicitDefEqProofs only [go_sem, initSl, h1, h2, k2, k3, k4]
  refine CallS.pureF hci (by simp -implicitDefEqProofs only [go_sem]) ?_
  by_cases c1 : (consts.length : Int) ≤ kk
  · obtain rfl : z = false := hl ▸ if_pos c1
    simp -implicitDefEqProofs only [go_sem, c1, k2, h1, h2]
  rw [if_neg c1] at hl
  by_cases c2 : 0 ≤ kk
  · cases nm
    · rw [if_neg (fun h => by simp at h)] at hl
      simp -implicitDefEqProofs only [go_sem, c1, c2, k2, k3, k4, h1, h2]
      exact ref_tail hl
    · obtain ⟨x, hx⟩ : ∃ x, consts[kk.toNat]? = some x := ⟨consts[kk.toNat]'(by omega), by simp⟩
      have hxr := rc _ x hx
      rw [hx] at hl
      simp -implicitDefEqProofs only [go_sem, c1, c2, k2, k3, k4, h1, h2, zc, hxr, Kst.row, Option.some.injEq, forall_eq']
      refine ⟨by omega, by omega, fun hk => ?_, fun hk => ?_⟩
      · rw [if_pos ⟨c2, rfl, decide_eq_false hk⟩] at hl; exact hl
      · rw [if_neg (fun h => by simp [kindIs3, hk] at h)] at hl; exact ref_tail hl
  · rw [if_neg (fun h => c2 h.1)] at hl
    simp -implicitDefEqProofs only [go_sem, c1, c2, k2, k3, k4, h1, h2]
    exact ref_tail hl
def withinB (regs : Int) (l : List Int × Int) : Bool := decide (l.2 ≤ regs) && !l.1.any (fun r => decide (regs ≤ r))
theorem over_int (z : Int) (pr : List V) (regs : Int) (h1 : pr.length = 11) (h2 : pr.take 11 = pr) (h3 : pr[4]? = some (.int .i64 regs)) (n : Nat) : CallS Tryd.prog 70 [.int .i64 z, .ptr (56 * 10000 + 3) 0 0 0] [((56 * 10000 + 3), 0, .rows 11 [pr])] n fun r h' n' => r = .bool (decide (regs ≤ z)) ∧ h' = [((56 * 10000 + 3), 0, .rows 11 [pr])] := by
  refine CallS.enterK proto_within_1_ok (Nat.le_of_ble_eq_true rfl) fun Q hQ => Run.go 100 ?_
  simp -implicitDefEqProofs only [go_sem, initSl, h1, h2, h3]
  subst hQ
  exact .is ⟨rfl, rfl⟩
theorem within_pure (p : Fn) (l : List Int × Int) (hl : l.1.length ≤ 1000000) : Pure Tryd.prog 56 [.agg p.row, .isl (l.1.map zrw), .int .i64 l.2] (.bool (withinB p.regs l)) := by
  obtain ⟨h1, h2⟩ := fn_row11 p
  have h3 : p.row[4]? = some (.int .i64 p.regs) := by rw [Fn.row_eq]; rfl
  have cl := contains_int l.1 (by omega) (fun r => decide (p.regs ≤ r)) 70 [.ptr (56 * 10000 + 3) 0 0 0]
  rw [show l.1.map lrow = l.1.map zrw from rfl] at cl
  have ho := fun z n => over_int z p.row p.regs h1 h2 h3 n
  obtain ⟨l, m⟩ := l
  simp only [withinB] at *
  generalize l.map zrw = rl at *
  generalize p.row = pr at *
  refine Pure.of 0 (CallS.enter proto_within_ok (Nat.le_of_ble_eq_true rfl) (Run.go 100 ?_))
  by_cases c1 : m ≤ p.regs
  · simp -implicitDefEqProofs only [go_sem, initSl, h1, h2, h3, c1]
    refine (cl _ (by kernel_rfl) (fun x _ m => ho x m) _).mono ?_
    rintro r h' n' ⟨rfl, rfl⟩
    simp -implicitDefEqProofs only [go_sem]
  · simp -implicitDefEqProofs only [go_sem, initSl, h1, h2, h3, c1]
end Go.Proofs.YtkjcokmbjdafnaaDoor
