/-
  VerifyMarks: the walk. No condition.
-/
import Derived.Test.YtlfnbfllnlkaiaaDoorVerP5
set_option linter.unusedVariables false
set_option linter.unusedSimpArgs false
set_option maxRecDepth 100000
set_option maxHeartbeats 0
namespace Go.Proofs.YtlfnbfllnlkaiaaDoor
open Go.Abs
attribute [local irreducible] CallS Run
-- EV: Ins.v, Ins.row

/-! The rounds come to an end. -/
def InM (N n : Nat) (M : Nat → Option Stt) : Prop := ∀ k s, M k = some s → k < n ∧ ∀ r, N ≤ r → s.set r = false
theorem InM.step {N : Nat} {code : List Ins} {M : Nat → Option Stt} {e : Nat × Int} (he : e ∈ edgesL code) (h : InM N code.length M) : InM N code.length (stepM N code M e) := by
  obtain ⟨_, _, h0, h1⟩ := edges_in he
  intro k s hs
  rcases stepM_cases hs with g | ⟨o, ho, hk, _, rfl⟩ | ⟨o, t, ho, hk, ht, rfl⟩
  · exact h k s g
  · exact ⟨by omega, fun r hr => passF_out hr⟩
  · exact ⟨by omega, fun r hr => by simp only [joinF, (h k t ht).2 r hr, Bool.false_and]⟩
theorem InM.less {N : Nat} {code : List Ins} {M : Nat → Option Stt} {e : Nat × Int} (he : e ∈ edgesL code) (h : InM N code.length M) : stepM N code M e = M ∨ mu N code.length (stepM N code M e) < mu N code.length M := by
  obtain ⟨_, _, h0, h1⟩ := edges_in he
  have hb : e.2.toNat < code.length := by omega
  cases ha : M e.1 with
  | none => left; simp only [stepM, ha]
  | some o =>
    cases hm : M e.2.toNat with
    | none => right; simp only [stepM, ha, hm]; exact mu_new hb hm
    | some t =>
      simp only [stepM, ha, hm]
      generalize passF N (insAt code e.1) e.1 e.2 o = u
      cases hc : (List.range N).any (fun r => t.set r && !u.set r) with
      | false =>
        left
        rw [joinF_same (N := N) (fun r hr ht => ?_) (h _ t hm).2, updM_same hm]
        have := List.any_eq_false.1 hc r (List.mem_range.2 hr)
        cases hu : u.set r with
        | true => rfl
        | false => simp [ht, hu] at this
      | true =>
        right
        obtain ⟨r, hr, h2⟩ := List.any_eq_true.1 hc
        rw [Bool.and_eq_true] at h2
        exact mu_join hb hm (List.mem_range.1 hr) h2.1 (by simpa using h2.2)
theorem InM.fold {N : Nat} {code : List Ins} : ∀ (l : List (Nat × Int)), (∀ e ∈ l, e ∈ edgesL code) → ∀ M, InM N code.length M → (l.foldl (stepM N code) M = M ∨ mu N code.length (l.foldl (stepM N code) M) < mu N code.length M) ∧ InM N code.length (l.foldl (stepM N code) M)
  | [], _, M, h => ⟨.inl rfl, h⟩
  | e :: l, hl, M, h => by
    have h1 := h.less (hl e List.mem_cons_self)
    have h2 := InM.fold l (fun x hx => hl x (List.mem_cons_of_mem _ hx)) _ (h.step (hl e List.mem_cons_self))
    rw [List.foldl_cons]
    refine ⟨?_, h2.2⟩
    rcases h1 with h1 | h1 <;> rcases h2.1 with h3 | h3
    · left; rw [h1] at h3 ⊢; exact h3
    · right; rw [h1] at h3 ⊢; exact h3
    · right; rw [h3]; exact h1
    · right; omega
theorem iter_end {N : Nat} {code : List Ins} {params : Int} (hc : 0 < code.length) : ∀ (m k : Nat), mu N code.length (iterM N code params k) ≤ m → InM N code.length (iterM N code params k) → ∃ M, StIs N code params M := by
  intro m
  induction m with
  | zero =>
    intro k hk hi
    have := (InM.fold _ (fun _ h => h) _ hi).1
    rcases this with h | h
    · exact ⟨_, k, rfl, h⟩
    · omega
  | succ m ih =>
    intro k hk hi
    have h2 := InM.fold _ (fun _ h => h) _ hi
    rcases h2.1 with h | h
    · exact ⟨_, k, rfl, h⟩
    · exact ih (k + 1) (by show mu N code.length (roundM N code (iterM N code params k)) ≤ m; have h : mu N code.length (roundM N code (iterM N code params k)) < mu N code.length (iterM N code params k) := h; omega) h2.2
theorem stM_is {N : Nat} {code : List Ins} {params : Int} (hc : 0 < code.length) : StIs N code params (stM N code params) := by
  obtain ⟨M, hM⟩ := iter_end (N := N) (params := params) hc _ 0 (Nat.le_refl _) (fun k s hs => by
    simp only [iterM, M0] at hs
    split at hs
    · rename_i hk
      injection hs with hs
      subst hs
      refine ⟨by omega, fun r hr => ?_⟩
      have : ¬ r < N := by omega
      simp [entF, this]
    · cases hs)
  exact stM_eq hM ▸ hM

def marksOf : Option Stt → List Int
  | none => []
  | some s => s.marks
theorem stR_marks (N : Nat) (o : Option Stt) : (stR N o)[2]? = some (.isl ((marksOf o).map zrw)) := by cases o <;> rfl

theorem verifyMarks_args (n0 : List V) (w0 : Typed Tryd.prog 29 n0) : Pure Tryd.prog 4 [.agg n0] (.bool true) := by
  obtain ⟨p, rfl, hp⟩ := fn_args w0
  have lp := vlarge_pure p hp
  obtain ⟨f1, f2⟩ := fn_row11 p
  have sp := Fn.row_sub lost p
  refine Pure.of 0 (CallS.enter scriptinglaw36_VerifyMarks_ok (Nat.le_of_ble_eq_true rfl) (Run.go 100 ?_))
  cases hL : vlargeB p with
  | true =>
    rw [hL] at lp
    generalize p.row = pr at *
    simp -implicitDefEqProofs only [go_sem, Ins.v, Ins.row, initSl, f1, f2]
    refine CallS.pureF lp (by simp -implicitDefEqProofs only [go_sem, Ins.v, Ins.row, sp]) ?_
    simp -implicitDefEqProofs only [go_sem, Ins.v, Ins.row]
    refine CallS.pureF vlives_pure (by simp -implicitDefEqProofs only [go_sem, Ins.v, Ins.row]) ?_
    simp -implicitDefEqProofs only [go_sem, Ins.v, Ins.row]
  | false =>
    rw [hL] at lp
    have hS := small_of (Bool.or_eq_false_iff.1 hL).1
    have hb := hS.bd
    have hd : p.depth ≤ 900 := Nat.le_trans (Fn.depth_each p) (Nat.le_trans hS.count (by decide))
    have cc := vcheck_pure p hb hd
    by_cases ck : verE p = 0
    case neg =>
      generalize verE p = z at *
      generalize p.row = pr at *
      simp -implicitDefEqProofs only [go_sem, Ins.v, Ins.row, initSl, f1, f2]
      refine CallS.pureF lp (by simp -implicitDefEqProofs only [go_sem, Ins.v, Ins.row, sp]) ?_
      simp -implicitDefEqProofs only [go_sem, Ins.v, Ins.row, f1, f2]
      refine CallS.pureF cc (by simp -implicitDefEqProofs only [go_sem, Ins.v, Ins.row, sp]) ?_
      simp -implicitDefEqProofs only [go_sem, Ins.v, Ins.row, ck]
      refine CallS.pureF vlives_pure (by simp -implicitDefEqProofs only [go_sem, Ins.v, Ins.row]) ?_
      simp -implicitDefEqProofs only [go_sem, Ins.v, Ins.row]
    obtain ⟨hck, hfr⟩ := (verE_iff p).1 ck
    have hs := Sound.of hck
    have hv := hfr p (Fn.self_mem p)
    have cs := vstates_pure p hb hd
    rw [if_neg (fun h => h hck)] at cs
    rw [ck] at cc
    have hgood : ∀ k, GoodM p.regs.toNat (marksOf (stOf p k)) := fun k => by
      cases hm : stOf p k with
      | none => exact ⟨asc_nil, fun r hr => by cases hr⟩
      | some s => exact marks_good hs (stM_is hs.code0) hv hm
    have htail : ∀ k, k < p.code.length → (insAt p.code k).op = 17 → marksOf (stOf p k) = [] := fun k hk ho => by
      cases hm : stOf p k with
      | none => rfl
      | some s => exact marks_tail hv hk hm ho
    have hreg := hs.regs
    have hcl := hs.code
    have h5 : p.row[5]? = some (.isl (p.code.map Ins.row)) := by rw [Fn.row_eq]; rfl
    have h4 : p.row[4]? = some (.int .i64 p.regs) := by rw [Fn.row_eq]; rfl
    have l5 : (p.code.map Ins.row).length = p.code.length := List.length_map ..
    have z5 := eq_true (rowsz_of Ins.row 5 (fun _ => rfl) p.code)
    have r5 : ∀ k, k < p.code.length → (p.code.map Ins.row)[k]? = some (insAt p.code k).row := fun k hk => by rw [List.getElem?_map, (insAt_mem hk).1]; rfl
    have lS : (stL p.regs.toNat p.code.length (stOf p)).length = p.code.length := by simp [stL]
    have zS : rowsz (stL p.regs.toNat p.code.length (stOf p)) 3 = True := eq_true fun r hr => by obtain ⟨a, _, rfl⟩ := List.mem_map.1 hr; exact stR_len _ _
    have rS : ∀ k, k < p.code.length → (stL p.regs.toNat p.code.length (stOf p))[k]? = some (stR p.regs.toNat (stOf p k)) := fun k hk => by unfold stL; rw [List.getElem?_map, List.getElem?_range hk]; rfl
    generalize stL p.regs.toNat p.code.length (stOf p) = ST at *
    generalize p.code.map Ins.row = CR at *
    generalize p.row = pr at *
    simp -implicitDefEqProofs only [go_sem, Ins.v, Ins.row, initSl, f1, f2]
    refine CallS.pureF lp (by simp -implicitDefEqProofs only [go_sem, Ins.v, Ins.row, sp]) ?_
    simp -implicitDefEqProofs only [go_sem, Ins.v, Ins.row, f1, f2]
    refine CallS.pureF cc (by simp -implicitDefEqProofs only [go_sem, Ins.v, Ins.row, sp]) ?_
    simp -implicitDefEqProofs only [go_sem, Ins.v, Ins.row, f1, f2]
    refine CallS.pureF cs (by simp -implicitDefEqProofs only [go_sem, Ins.v, Ins.row, sp]) ?_
    simp -implicitDefEqProofs only [go_sem, Ins.v, Ins.row, f1, f2, h5, l5, lS]
    refine Run.keep [5, 3, 1] ?_
    refine Run.rounds (fun (x : Nat) => ⟨[(5, .int .i64 x), (3, .isl ST), (1, .ptr (4 * 10000 + 1) 0 0 0)], [((4 * 10000 + 1), 0, .rows 11 [pr])], 1⟩) (fun x => x ≤ p.code.length) (fun x => p.code.length - x) 0 (by simp -implicitDefEqProofs only [go_sem, Ins.v, Ins.row]) (Nat.zero_le _) ?_
    intro k hk ih
    refine Run.unf scriptinglaw36_VerifyMarks_l0_eq (Run.go 100 ?_)
    by_cases hlt : k < p.code.length
    case neg =>
      have e : k = p.code.length := by omega
      subst e
      simp -implicitDefEqProofs only [go_sem, Ins.v, Ins.row, lS, Int.lt_irrefl]
      refine CallS.pureF vlives_pure (by simp -implicitDefEqProofs only [go_sem, Ins.v, Ins.row]) ?_
      simp -implicitDefEqProofs only [go_sem, Ins.v, Ins.row]
    have q0 : ((k : Int) < (p.code.length : Int)) = True := eq_true (by omega)
    have q1 : ((0 : Int) ≤ (k : Int)) = True := eq_true (by omega)
    have hzk : ((k + 1 : Nat) : Int) = (k : Int) + 1 := by omega
    have hrow := rS k hlt
    have hl3 := stR_len p.regs.toNat (stOf p k)
    have ht3 : (stR p.regs.toNat (stOf p k)).take 3 = stR p.regs.toNat (stOf p k) := List.take_of_length_le (by omega)
    have hm2 := stR_marks p.regs.toNat (stOf p k)
    have hg := hgood k
    have htl := htail k hlt
    have hir := r5 k hlt
    generalize marksOf (stOf p k) = mk at *
    have hml : mk.length ≤ 5000 := by
      have h := asc_len (a := 0) (b := p.regs.toNat) hg.1 (fun x hx => (hg.2 x hx).1) (fun x hx => (hg.2 x hx).2)
      omega
    generalize stR p.regs.toNat (stOf p k) = row at *
    have lM : (mk.map zrw).length = mk.length := List.length_map ..
    have zM := rowszZ' mk
    have rM : ∀ (j : Nat) x, mk[j]? = some x → (mk.map zrw)[j]? = some [.int .i64 x] := fun j x h => zrw_at h
    generalize mk.map zrw = MK at *
    generalize insAt p.code k = ik at *
    simp -implicitDefEqProofs only [go_sem, Ins.v, Ins.row, q0, q1, lS, zS, hrow, hlt, hl3, hm2, Option.some.injEq, forall_eq']
    refine Run.keep [7, 6, 5, 3, 1] ?_
    refine Run.rounds (fun (x : Nat) => ⟨[(7, .int .i64 x), (6, .isl MK), (5, .int .i64 k), (3, .isl ST), (1, .ptr (4 * 10000 + 1) 0 0 0)], [((4 * 10000 + 1), 0, .rows 11 [pr])], 1⟩) (fun x => x ≤ mk.length) (fun x => mk.length - x) 0 (by simp -implicitDefEqProofs only [go_sem, Ins.v, Ins.row]) (Nat.zero_le _) ?_
    intro j hj ih2
    refine Run.unf scriptinglaw36_VerifyMarks_l1_eq (Run.go 100 ?_)
    by_cases hjl : j < mk.length
    case neg =>
      have e : j = mk.length := by omega
      have e2 : MK.length = j := by omega
      by_cases hm0 : mk = []
      · have e3 : j = 0 := by rw [e, hm0]; rfl
        subst e3
        simp -implicitDefEqProofs only [go_sem, Ins.v, Ins.row, e2, Int.lt_irrefl]
        refine ⟨by omega, ih _ (k + 1) (by omega) (by omega) (by simp -implicitDefEqProofs only [go_sem, Ins.v, Ins.row, hzk])⟩
      · have hop : ¬ ik.op = 17 := fun h => hm0 (htl h)
        have hjp : ((0 : Int) < (j : Int)) = True := eq_true (by
          have : mk.length ≠ 0 := fun h => hm0 (List.length_eq_zero_iff.1 h)
          omega)
        simp -implicitDefEqProofs only [go_sem, Ins.v, Ins.row, e2, Int.lt_irrefl, hjp, f1, f2, h5, l5, z5, q0, q1, hlt, hir, hop, Option.some.injEq, forall_eq']
        refine ⟨by omega, ih _ (k + 1) (by omega) (by omega) (by simp -implicitDefEqProofs only [go_sem, Ins.v, Ins.row, hzk])⟩
    have w0 : ((j : Int) < (mk.length : Int)) = True := eq_true (by omega)
    have w1 : ((0 : Int) ≤ (j : Int)) = True := eq_true (by omega)
    have hzj : ((j + 1 : Nat) : Int) = (j : Int) + 1 := by omega
    obtain ⟨x, hx⟩ : ∃ x, mk[j]? = some x := ⟨mk[j], by simp [hjl]⟩
    have hxr := rM j x hx
    obtain ⟨hx0, hxN, hxy⟩ := hg.at hx
    have hx0' : (x < 0) = False := eq_false (by omega)
    have hxN' : (p.regs ≤ x) = False := eq_false (by omega)
    by_cases hj0 : 0 < j
    · have hjp : ((0 : Int) < (j : Int)) = True := eq_true (by omega)
      obtain ⟨y, hy⟩ : ∃ y, mk[j - 1]? = some y := ⟨mk[j - 1]'(by omega), by simp [show j - 1 < mk.length by omega]⟩
      have hyr := rM (j - 1) y hy
      have hyx := hxy y hj0 hy
      have hyx' : (x ≤ y) = False := eq_false (by omega)
      have hj1 : (j : Int) - 1 = ((j - 1 : Nat) : Int) := by omega
      have hjl1 : (((j - 1 : Nat) : Int) < (mk.length : Int)) = True := eq_true (by omega)
      have hjl2 : ((0 : Int) ≤ ((j - 1 : Nat) : Int)) = True := eq_true (by omega)
      have hjl3 : j - 1 < mk.length := by omega
      simp -implicitDefEqProofs only [go_sem, Ins.v, Ins.row, w0, w1, lM, zM, hxr, hjl, hx0', hxN', hjp, f1, f2, h4, hj1, hyr, hyx', hjl1, hjl2, hjl3, Option.some.injEq, forall_eq']
      refine ⟨by omega, by omega, ih2 _ (j + 1) (by omega) (by omega) (by simp -implicitDefEqProofs only [go_sem, Ins.v, Ins.row, hzj])⟩
    · have hjp : ((0 : Int) < (j : Int)) = False := eq_false (by omega)
      simp -implicitDefEqProofs only [go_sem, Ins.v, Ins.row, w0, w1, lM, zM, hxr, hjl, hx0', hxN', hjp, f1, f2, h4, Option.some.injEq, forall_eq']
      refine ⟨by omega, ih2 _ (j + 1) (by omega) (by omega) (by simp -implicitDefEqProofs only [go_sem, Ins.v, Ins.row, hzj])⟩
end Go.Proofs.YtlfnbfllnlkaiaaDoor
