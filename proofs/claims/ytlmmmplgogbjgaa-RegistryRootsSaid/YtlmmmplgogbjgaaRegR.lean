/-
  What the reference's registry does: the same. No condition.
-/
import Derived.Test.YtlmmmplgogbjgaaReg
import Derived.Test.YtlmmmplgogbjgaaRefN
set_option linter.unusedVariables false
set_option linter.unusedSimpArgs false
set_option maxRecDepth 100000
set_option maxHeartbeats 0
namespace Go.Proofs.Ytlmmmplgogbjgaa
open Go.Abs
attribute [local irreducible] CallS Run
-- EV: RefH, rO, rL, rF, rN, Val.v, Val.row, irow, prow

def prow (e : List UInt8 × Val) : List V := .str e.1 :: e.2.row
abbrev rO : Nat := 8 * 10000 + 2
abbrev rL : Nat := 20 * 10000 + 60
abbrev rF : Nat := 21 * 10000 + 28
abbrev rN : Nat := 24 * 10000 + 70
abbrev rD : Nat := 24 * 10000 + 25

def RefH (so sl sf sn : Nat) (R : Reg) : Heap :=
  [(rO, so, .rows 3 [[.sl rL sl 0 R.vals.length, .sl rF sf 0 R.free.length, .sl rN sn 0 R.names.length]]), (rL, sl, .rows 5 (R.vals.map Val.row)), (rF, sf, .rows 1 (R.free.map irow)), (rN, sn, .rows 6 (R.names.map prow))]

theorem rnew_c (n : Nat) : CallS Try.prog 8 [] [] n (fun r h _ => ∃ so sl sf sn, r = .ptr rO so 0 0 ∧ h = RefH so sl sf sn ⟨[], [], []⟩) := by
  refine CallS.enterK scriptingref18_New_ok (Nat.le_of_ble_eq_true rfl) fun Q hQ => Run.go 100 ?_
  simp -implicitDefEqProofs only [go_sem, RefH, rO, rL, rF, rN, Val.v, Val.row, irow, prow, initSl]
  subst hQ
  exact .to ⟨n, n + 1 + 1 + 1, n + 1 + 1, n + 1, rfl, rfl⟩ (.trans (.fresh rN 6 _ _ _) (.trans (.fresh rF 1 _ _ _) (.trans (.fresh rL 5 _ _ _) (.turn id ⟨.refl _, trivial⟩
      (.at 3 rfl rfl (.row ⟨.nils, .nils, .nils, trivial⟩) (.at 0 rfl rfl (.refl _) (.at 1 rfl rfl (.refl _) (.at 2 rfl rfl (.refl _) trivial))))))))

theorem rused_c (R : Reg) (so sl sf sn n : Nat) (hok : R.OK) : CallS Try.prog 33 [.ptr rO so 0 0] (RefH so sl sf sn R) n (fun r h' _ => r = .int .i64 ((R.vals.length : Int) - R.free.length) ∧ h' = RefH so sl sf sn R) := by
  refine CallS.enterK scriptingref18_Registry_used_ok (Nat.le_of_ble_eq_true rfl) fun Q hQ => Run.go 100 ?_
  have h1 := hok.vals
  have h2 := hok.free
  simp -implicitDefEqProofs only [go_sem, RefH, rO, rL, rF, rN, Val.v, Val.row, irow, prow, initSl]
  subst hQ
  exact ⟨by omega, .is ⟨rfl, rfl⟩⟩

theorem rholds_c (R : Reg) (so sl sf sn n : Nat) (z : Int) (hB : R.vals.length ≤ 1000) : CallS Try.prog 34 [.ptr rO so 0 0, .int .i64 z] (RefH so sl sf sn R) n (fun r h' _ => r = .bool (R.used z) ∧ h' = RefH so sl sf sn R) := by
  refine CallS.enterK scriptingref18_Registry_holds_ok (Nat.le_of_ble_eq_true rfl) fun Q hQ => Run.go 100 ?_
  have no : ¬ (1 ≤ z ∧ z ≤ R.vals.length) → false = R.used z := fun h => by rw [Reg.used, decide_eq_false h]; rfl
  simp -implicitDefEqProofs only [go_sem, RefH, rO, rL, rF, rN, Val.v, Val.row, irow, prow, initSl]
  subst hQ
  refine ⟨fun h1 => ⟨fun h2 => ⟨by omega, by omega, by omega, by omega, fun x hx => .is ⟨?_, rfl⟩⟩, fun h2 => .is ⟨by rw [no (by omega)], rfl⟩⟩, fun h1 => .is ⟨by rw [no (by omega)], rfl⟩⟩
  rw [Reg.used, List.getD_eq_getElem?_getD, hx]
  simp [h1, h2]

theorem rref_c (R : Reg) (so sl sf sn n : Nat) (v : Val) (hok : R.OK) :
    CallS Try.prog 20 [.ptr rO so 0 0, v.v] (RefH so sl sf sn R) n (fun r h' _ => ∃ sl' sf', r = .tup [.int .i64 (R.ref v).1, .int .i64 (R.ref v).2.1] ∧ h' = RefH so sl' sf' sn (R.ref v).2.2) := by
  refine CallS.enterK scriptingref18_Registry_Ref_ok (Nat.le_of_ble_eq_true rfl) fun Q hQ => Run.go 100 ?_
  have h1 := hok.vals
  have h2 := hok.free
  simp -implicitDefEqProofs only [go_sem, RefH, rO, rL, rF, rN, Val.v, Val.row, irow, prow, initSl]
  refine CallS.pureF (rValid_pure _ _ _ _ _) (by simp -implicitDefEqProofs only [go_sem, RefH, rO, rL, rF, rN, Val.v, Val.row, irow, prow]) ?_
  simp -implicitDefEqProofs only [go_sem, RefH, rO, rL, rF, rN, Val.v, Val.row, irow, prow]
  refine ⟨fun c1 => ?_, fun c1 => ⟨fun c2 => ?_, fun c2 => ?_⟩⟩
  · subst hQ; rw [Reg.ref1 c1]; exact .to ⟨sl, sf, rfl, rfl⟩ (.sub (by simp -implicitDefEqProofs only [go_sem, RefH, rO, rL, rF, rN, Val.v, Val.row, irow, prow]))
  · subst hQ; rw [Reg.ref2 c1 c2]; exact .to ⟨sl, sf, rfl, rfl⟩ (.sub (by simp -implicitDefEqProofs only [go_sem, RefH, rO, rL, rF, rN, Val.v, Val.row, irow, prow]))
  refine CallS.at [1, 2, 3, 4] [0] (rused_c R so sl sf sn _ hok) rfl rfl ?_
  rintro r h' n' hn ⟨rfl, rfl⟩
  simp -implicitDefEqProofs only [go_sem, RefH, rO, rL, rF, rN, Val.v, Val.row, irow, prow]
  subst hQ
  refine ⟨fun c3 => ?_, fun c3 => ⟨fun c4 => ⟨by omega, by omega, by omega, by omega, fun z hz => ⟨by omega, by omega, by omega, ?_⟩⟩, fun c4 => ⟨by omega, ?_⟩⟩⟩
  · rw [Reg.ref3 c1 c2 (by omega)]; exact .to ⟨sl, sf, rfl, rfl⟩ (.sub (by simp -implicitDefEqProofs only [go_sem, RefH, rO, rL, rF, rN, Val.v, Val.row, irow, prow]))
  · have hm : ((R.free.length : Int) - 1).toNat = R.free.length - 1 := by omega
    rw [hm] at hz
    have hzr := hok.inr z (List.mem_of_getElem? hz)
    refine ⟨by omega, by omega, by omega, by omega, fun _ _ => ?_⟩
    rw [Reg.ref5 c1 c2 (by omega) hz]
    refine .to ⟨sl, sf, rfl, rfl⟩ (.turn id ⟨.refl _, trivial⟩ (.at 1 rfl rfl (.row ⟨.of_eq (by simp), .sl' (by simp), .refl _, trivial⟩) (.at 0 rfl rfl (.of_eq (by simp [Val.row, List.map_set])) (.at 2 rfl rfl ?_ (.at 3 rfl rfl (.refl _) trivial)))))
    rw [List.dropLast_eq_take, List.map_take]; exact .take _
  · rw [Reg.ref4 c1 c2 (by omega) (List.eq_nil_of_length_eq_zero (by omega))]
    exact .to ⟨_, sf, rfl, rfl⟩ (.turn id ⟨.refl _, trivial⟩ (.at 0 rfl rfl (.of_eq (by simp)) (.at 1 rfl rfl (.of_eq (by simp [Val.row])) (.at 2 rfl rfl (.refl _) (.at 3 rfl rfl (.refl _) trivial)))))

theorem runref_c (R : Reg) (so sl sf sn n : Nat) (z : Int) (hok : R.OK) :
    CallS Try.prog 21 [.ptr rO so 0 0, .int .i64 z] (RefH so sl sf sn R) n (fun r h' _ => ∃ sl' sf', r = .int .i64 (R.unref z).1 ∧ h' = RefH so sl' sf' sn (R.unref z).2) := by
  refine CallS.enterK scriptingref18_Registry_Unref_ok (Nat.le_of_ble_eq_true rfl) fun Q hQ => Run.go 100 ?_
  have h1 := hok.vals
  have h2 := hok.free
  simp -implicitDefEqProofs only [go_sem, RefH, rO, rL, rF, rN, Val.v, Val.row, irow, prow, initSl]
  refine ⟨fun c1 => ?_, fun c1 => ?_⟩
  · subst hQ
    rw [Reg.unref, if_pos c1]; exact .is ⟨sl, sf, rfl, rfl⟩
  · refine (rholds_c R so sl sf sn n z h1).mono ?_
    rintro r h' n' ⟨rfl, rfl⟩
    simp -implicitDefEqProofs only [go_sem, RefH, rO, rL, rF, rN, Val.v, Val.row, irow, prow]
    subst hQ
    rw [Reg.unref, if_neg c1]
    refine ⟨fun c2 => ?_, fun c2 => ?_⟩
    · have c2 : R.used z = false := by simpa using c2
      rw [c2]; exact .is ⟨sl, sf, rfl, rfl⟩
    · have c2 : R.used z = true := by simpa using c2
      obtain ⟨h3, h4, v, h5, h6⟩ := Reg.used_spec c2
      refine ⟨by omega, by omega, by omega, by omega, fun _ _ => ⟨by omega, ?_⟩⟩
      rw [c2]
      exact .to ⟨sl, n', rfl, rfl⟩ (.turn id ⟨.refl _, trivial⟩ (.at 0 rfl rfl (.of_eq (by simp)) (.at 2 rfl rfl (.of_eq (by simp [Val.row, Val.none, List.map_set])) (.at 1 rfl rfl (.of_eq (by simp [irow])) (.at 3 rfl rfl (.refl _) trivial)))))

theorem rvalue_c (R : Reg) (so sl sf sn n : Nat) (z : Int) (hok : R.OK) :
    CallS Try.prog 22 [.ptr rO so 0 0, .int .i64 z] (RefH so sl sf sn R) n (fun r h' _ => r = .tup [(R.value z).1.v, .int .i64 (R.value z).2] ∧ h' = RefH so sl sf sn R) := by
  refine CallS.enterK scriptingref18_Registry_Value_ok (Nat.le_of_ble_eq_true rfl) fun Q hQ => Run.go 100 ?_
  have h1 := hok.vals
  simp -implicitDefEqProofs only [go_sem, RefH, rO, rL, rF, rN, Val.v, Val.row, irow, prow, initSl]
  refine ⟨fun c1 => ?_, fun c1 => ?_⟩
  · subst hQ
    rw [Reg.value, if_pos c1]; exact .to ⟨rfl, rfl⟩ (.sub (by simp -implicitDefEqProofs only [go_sem, RefH, rO, rL, rF, rN, Val.v, Val.row, irow, prow, Val.none]))
  · refine CallS.at [1, 2, 3, 4] [0] (rholds_c R so sl sf sn _ z h1) rfl rfl ?_
    rintro r h' n' hn ⟨rfl, rfl⟩
    simp -implicitDefEqProofs only [go_sem, RefH, rO, rL, rF, rN, Val.v, Val.row, irow, prow]
    subst hQ
    rw [Reg.value, if_neg c1]
    refine ⟨fun c2 => ?_, fun c2 => ?_⟩
    · have c2 : R.used z = false := by simpa using c2
      rw [c2]; exact .to ⟨rfl, rfl⟩ (.sub (by simp -implicitDefEqProofs only [go_sem, RefH, rO, rL, rF, rN, Val.v, Val.row, irow, prow, Val.none]))
    · have c2 : R.used z = true := by simpa using c2
      obtain ⟨h3, h4, v, h5, h6⟩ := Reg.used_spec c2
      refine ⟨by omega, by omega, by omega, by omega, fun x hx => ?_⟩
      rw [h5] at hx
      injection hx with hx
      subst hx
      rw [c2, List.getD_eq_getElem?_getD, h5]
      exact .to ⟨rfl, rfl⟩ (.sub (by simp -implicitDefEqProofs only [go_sem, RefH, rO, rL, rF, rN, Val.v, Val.row, irow, prow]))

theorem rlen_c (R : Reg) (so sl sf sn n : Nat) (hok : R.OK) :
    CallS Try.prog 26 [.ptr rO so 0 0] (RefH so sl sf sn R) n (fun r h' _ => r = .int .i64 R.len ∧ h' = RefH so sl sf sn R) := by
  refine CallS.enterK scriptingref18_Registry_Len_ok (Nat.le_of_ble_eq_true rfl) fun Q hQ => Run.go 100 ?_
  have h1 := hok.vals
  have h2 := hok.free
  have h3 := hok.names
  simp -implicitDefEqProofs only [go_sem, RefH, rO, rL, rF, rN, Val.v, Val.row, irow, prow, initSl]
  subst hQ
  refine ⟨?_, ?_, ?_⟩
  all_goals
    refine (rused_c R so sl sf sn n hok).mono ?_
    rintro r h' n' ⟨rfl, rfl⟩
    simp -implicitDefEqProofs only [go_sem, RefH, rO, rL, rF, rN, Val.v, Val.row, irow, prow]
    exact ⟨by omega, .is ⟨rfl, rfl⟩⟩

/-! Names. -/
def posN (k : List UInt8) : List (List UInt8 × Val) → Nat
  | [] => 0
  | e :: r => if k = e.1 then 0 else posN k r + 1
theorem posN_le (k : List UInt8) : ∀ l : List (List UInt8 × Val), posN k l ≤ l.length
  | [] => Nat.le_refl _
  | e :: r => by
    simp only [posN, List.length_cons]
    have := posN_le k r
    split <;> omega
theorem posN_hit {k : List UInt8} : ∀ {l : List (List UInt8 × Val)} {i : Nat} {e : List UInt8 × Val}, i ≤ posN k l → l[i]? = some e → (e.1 = k → posN k l = i) ∧ (¬ e.1 = k → i + 1 ≤ posN k l)
  | [], i, e, _, h => by simp at h
  | x :: r, i, e, hi, h => by
    simp only [posN] at hi ⊢
    cases i with
    | zero =>
      simp at h; subst h
      refine ⟨fun h => by rw [if_pos h.symm], fun h => ?_⟩
      rw [if_neg (fun e => h e.symm)]; omega
    | succ i =>
      by_cases hx : k = x.1
      · rw [if_pos hx] at hi; omega
      · rw [if_neg hx] at hi ⊢
        obtain ⟨h1, h2⟩ := posN_hit (k := k) (l := r) (i := i) (e := e) (by omega) (by simpa using h)
        exact ⟨fun h => by rw [h1 h], fun h => by have := h2 h; omega⟩
theorem findN_pos (k : List UInt8) : ∀ l : List (List UInt8 × Val), findN k l = (l[posN k l]?).map (·.2)
  | [] => rfl
  | e :: r => by
    simp only [findN, posN]
    by_cases h : k = e.1
    · simp [h]
    · simp [h, findN_pos k r]
theorem putN_pos (k : List UInt8) (v : Val) : ∀ l : List (List UInt8 × Val), putN k v l = if posN k l < l.length then l.set (posN k l) (k, v) else l ++ [(k, v)]
  | [] => rfl
  | e :: r => by
    simp only [putN, posN]
    by_cases h : k = e.1
    · simp [h]
    · simp only [h, if_false, putN_pos k v r, List.length_cons, Nat.add_lt_add_iff_right]
      split <;> simp
theorem remN_pos (k : List UInt8) : ∀ l : List (List UInt8 × Val), remN k l = l.take (posN k l) ++ l.drop (posN k l + 1)
  | [] => rfl
  | e :: r => by
    simp only [remN, posN]
    by_cases h : k = e.1
    · simp [h]
    · simp [h, remN_pos k r]

def placeN (k : List UInt8) (l : List (List UInt8 × Val)) : Int := if posN k l < l.length then posN k l else -1

theorem rplace_c (R : Reg) (so sl sf sn n : Nat) (key : List UInt8) (hok : R.OK) :
    CallS Try.prog 35 [.ptr rO so 0 0, .str key] (RefH so sl sf sn R) n (fun r h' _ => r = .int .i64 (placeN key R.names) ∧ h' = RefH so sl sf sn R) := by
  refine CallS.enterK scriptingref18_Registry_place_ok (Nat.le_of_ble_eq_true rfl) fun Q hQ => Run.go 100 ?_
  have h3 := hok.names
  have hp := posN_le key R.names
  simp -implicitDefEqProofs only [go_sem, RefH, rO, rL, rF, rN, Val.v, Val.row, irow, prow, initSl]
  refine Run.rounds (fun (i : Nat) => ⟨[(5, .int .i64 i), (1, .str key), (0, .ptr rO so 0 0)], RefH so sl sf sn R, n⟩) (fun i => i ≤ posN key R.names) (fun i => R.names.length - i) 0 (by first | (simp -implicitDefEqProofs only [go_sem, RefH, rO, rL, rF, rN, Val.v, Val.row, irow, prow]; done) | (simp -implicitDefEqProofs only [go_sem, RefH, rO, rL, rF, rN, Val.v, Val.row, irow, prow]; simp)) (Nat.zero_le _) ?_
  intro i hi ih
  refine Run.unf scriptingref18_Registry_place_l0_eq (Run.go 100 ?_)
  simp -implicitDefEqProofs only [go_sem, RefH, rO, rL, rF, rN, Val.v, Val.row, irow, prow]
  refine ⟨fun h1 => ⟨by omega, by omega, by omega, fun e he => ?_⟩, fun h1 => ?_⟩
  · obtain ⟨p1, p2⟩ := posN_hit hi (by simpa using he)
    refine ⟨fun c => ?_, fun c => ⟨by omega, ?_⟩⟩
    · subst hQ
      exact .is ⟨by rw [placeN, p1 c, if_pos (by omega)], rfl⟩
    · have := p2 c
      exact ih _ (i + 1) this (by show R.names.length - (i + 1) < R.names.length - i; omega) (by first | (simp -implicitDefEqProofs only [go_sem, RefH, rO, rL, rF, rN, Val.v, Val.row, irow, prow]; done) | (simp -implicitDefEqProofs only [go_sem, RefH, rO, rL, rF, rN, Val.v, Val.row, irow, prow]; simp))
  · subst hQ
    exact .is ⟨by rw [placeN, if_neg (by omega)], rfl⟩

theorem placeN_ge {k : List UInt8} {l : List (List UInt8 × Val)} (h : 0 ≤ placeN k l) : posN k l < l.length ∧ placeN k l = posN k l := by
  unfold placeN at h ⊢
  by_cases hp : posN k l < l.length
  · rw [if_pos hp]; exact ⟨hp, rfl⟩
  · rw [if_neg hp] at h; omega
theorem placeN_lt {k : List UInt8} {l : List (List UInt8 × Val)} (h : ¬ 0 ≤ placeN k l) : posN k l = l.length := by
  unfold placeN at h
  have := posN_le k l
  by_cases hp : posN k l < l.length
  · rw [if_pos hp] at h; omega
  · omega
theorem posN_key {k : List UInt8} : ∀ {l : List (List UInt8 × Val)} {e : List UInt8 × Val}, l[posN k l]? = some e → e.1 = k
  | [], e, h => by simp at h
  | x :: r, e, h => by
    simp only [posN] at h
    by_cases hx : k = x.1
    · simp [hx] at h; rw [← h, hx]
    · rw [if_neg hx] at h
      exact posN_key (l := r) (by simpa using h)

theorem rfind_c (R : Reg) (so sl sf sn n : Nat) (key : List UInt8) (hok : R.OK) :
    CallS Try.prog 25 [.ptr rO so 0 0, .str key] (RefH so sl sf sn R) n (fun r h' _ => r = .tup [(R.find key).1.v, .bool (R.find key).2] ∧ h' = RefH so sl sf sn R) := by
  refine CallS.enterK scriptingref18_Registry_Find_ok (Nat.le_of_ble_eq_true rfl) fun Q hQ => Run.go 100 ?_
  simp -implicitDefEqProofs only [go_sem, RefH, rO, rL, rF, rN, Val.v, Val.row, irow, prow, initSl]
  refine CallS.at [1, 2, 3, 4] [0] (rplace_c R so sl sf sn _ key hok) rfl rfl ?_
  rintro r h' n' hn ⟨rfl, rfl⟩
  simp -implicitDefEqProofs only [go_sem, RefH, rO, rL, rF, rN, Val.v, Val.row, irow, prow]
  subst hQ
  refine ⟨fun c => ?_, fun c => ?_⟩
  · have hp := placeN_lt (k := key) (l := R.names) (by omega)
    have hf : findN key R.names = none := by rw [findN_pos, hp]; simp
    rw [Reg.find, hf]
    exact .to ⟨rfl, rfl⟩ (.sub (by simp -implicitDefEqProofs only [go_sem, RefH, rO, rL, rF, rN, Val.v, Val.row, irow, prow, Val.none]))
  · obtain ⟨hp, he⟩ := placeN_ge (k := key) (l := R.names) (by omega)
    rw [he]
    refine ⟨by omega, by omega, by omega, fun e hx => ?_⟩
    rw [Int.toNat_natCast] at hx
    have hf : findN key R.names = some e.2 := by rw [findN_pos, hx]; rfl
    rw [Reg.find, hf]
    exact .to ⟨rfl, rfl⟩ (.sub (by simp -implicitDefEqProofs only [go_sem, RefH, rO, rL, rF, rN, Val.v, Val.row, irow, prow]))

theorem rput_c (R : Reg) (so sl sf sn n : Nat) (key : List UInt8) (v : Val) (hok : R.OK) :
    CallS Try.prog 24 [.ptr rO so 0 0, .str key, v.v] (RefH so sl sf sn R) n (fun r h' _ => ∃ sn', r = .int .i64 (R.put key v).1 ∧ h' = RefH so sl sf sn' (R.put key v).2) := by
  refine CallS.enterK scriptingref18_Registry_Put_ok (Nat.le_of_ble_eq_true rfl) fun Q hQ => Run.go 100 ?_
  have h3 := hok.names
  simp -implicitDefEqProofs only [go_sem, RefH, rO, rL, rF, rN, Val.v, Val.row, irow, prow, initSl]
  refine ⟨fun c1 => ?_, fun c1 => ?_⟩
  · subst hQ
    rw [Reg.put, if_pos (by omega)]; exact .to ⟨sn, rfl, rfl⟩ (.sub (by simp -implicitDefEqProofs only [go_sem, RefH, rO, rL, rF, rN, Val.v, Val.row, irow, prow]))
  refine CallS.pureF (rValid_pure _ _ _ _ _) (by simp -implicitDefEqProofs only [go_sem, RefH, rO, rL, rF, rN, Val.v, Val.row, irow, prow]) ?_
  simp -implicitDefEqProofs only [go_sem, RefH, rO, rL, rF, rN, Val.v, Val.row, irow, prow]
  refine ⟨fun c2 => ?_, fun c2 => ?_⟩
  · subst hQ
    rw [Reg.put, if_neg (by omega), Val.ok, if_pos (by simpa using c2)]; exact .to ⟨sn, rfl, rfl⟩ (.sub (by simp -implicitDefEqProofs only [go_sem, RefH, rO, rL, rF, rN, Val.v, Val.row, irow, prow]))
  refine CallS.at [1, 2, 3, 4] [0] (rplace_c R so sl sf sn _ key hok) rfl rfl ?_
  rintro r h' n' hn ⟨rfl, rfl⟩
  simp -implicitDefEqProofs only [go_sem, RefH, rO, rL, rF, rN, Val.v, Val.row, irow, prow]
  have hput : R.put key v = if v.k = 0 then (0, { R with names := remN key R.names }) else if findN key R.names = none ∧ 1000 ≤ R.names.length then (17, R) else (0, { R with names := putN key v R.names }) := by
    rw [Reg.put, if_neg (by omega), Val.ok, if_neg (by simpa using c2)]
  refine ⟨fun c3 => ⟨fun c4 => ?_, fun c4 => ?_⟩, fun c3 => ⟨fun c4 => ?_, fun c4 => ⟨fun c5 => ?_, fun c5 => ?_⟩⟩⟩
  · obtain ⟨hp, he⟩ := placeN_ge c4
    rw [he]
    simp only [Int.sub_zero, Int.toNat_natCast]
    rw [if_pos (Nat.le_of_lt hp)]
    have el : (List.take (posN key R.names) (R.names.map prow)).length = posN key R.names := by simp; omega
    have e1 : ((posN key R.names : Int) + 1).toNat = posN key R.names + 1 := by omega
    have e2 : ((R.names.length : Int) - ((posN key R.names : Int) + 1)).toNat = R.names.length - (posN key R.names + 1) := by omega
    have e3 : posN key R.names + 1 + (R.names.length - (posN key R.names + 1)) ≤ R.names.length := by omega
    simp -implicitDefEqProofs only [go_sem, RefH, rO, rL, rF, rN, Val.v, Val.row, irow, prow, el, e1, e2, e3]
    subst hQ
    have rz : ∀ l : List (List V), (∀ x ∈ l, x ∈ R.names.map prow) → rowsz l 6 := by
      intro l hl r hr
      obtain ⟨z, _, rfl⟩ := List.mem_map.1 (hl r hr)
      rfl
    have e4 : (List.take (R.names.length - (posN key R.names + 1)) (List.drop (posN key R.names + 1) (R.names.map prow))) = List.drop (posN key R.names + 1) (R.names.map prow) := List.take_of_length_le (by simp)
    rw [e4]
    refine ⟨by omega, by omega, rz _ fun x hx => List.mem_of_mem_take hx, by omega, by omega, by omega, by omega, by omega, rz _ fun x hx => List.mem_of_mem_drop hx, by simp; omega, ?_⟩
    rw [hput, if_pos c3, remN_pos]
    exact .to ⟨n' + 1 + 1, rfl, rfl⟩ (.turn (fun b => if b = rD then rN else b) ⟨.refl _, trivial⟩ (.at 0 rfl rfl (.row ⟨.refl _, .refl _, .sl' (by simp; omega), trivial⟩) (.at 2 rfl rfl (.refl _) (.at 3 rfl rfl (.refl _) (.at 1 rfl rfl (.of_eq (by simp [List.take_take])) trivial)))))
  · have hp := placeN_lt c4
    have hr : remN key R.names = R.names := by rw [remN_pos, hp]; simp
    subst hQ
    rw [hput, if_pos c3, hr]; exact .to ⟨sn, rfl, rfl⟩ (.sub (by simp -implicitDefEqProofs only [go_sem, RefH, rO, rL, rF, rN, Val.v, Val.row, irow, prow]))
  · obtain ⟨hp, he⟩ := placeN_ge c4
    rw [he]
    simp -implicitDefEqProofs only [go_sem, RefH, rO, rL, rF, rN, Val.v, Val.row, irow, prow]
    subst hQ
    refine ⟨by omega, by omega, by omega, fun e hx => ?_⟩
    have hek := posN_key hx
    have hf : findN key R.names = some e.2 := by rw [findN_pos, hx]; rfl
    rw [hput, if_neg c3, if_neg (by rw [hf]; simp), putN_pos, if_pos (by omega)]
    exact .to ⟨sn, rfl, rfl⟩ (.turn id ⟨.refl _, trivial⟩ (.at 1 rfl rfl (.of_eq (by simp)) (.at 2 rfl rfl (.refl _) (.at 3 rfl rfl (.refl _) (.at 0 rfl rfl (.of_eq (by simp [prow, Val.row, List.map_set, hek])) trivial)))))
  · have hp := placeN_lt c4
    have hf : findN key R.names = none := by rw [findN_pos, hp]; simp
    subst hQ
    rw [hput, if_neg c3, if_pos ⟨hf, by omega⟩]; exact .to ⟨sn, rfl, rfl⟩ (.sub (by simp -implicitDefEqProofs only [go_sem, RefH, rO, rL, rF, rN, Val.v, Val.row, irow, prow]))
  · have hp := placeN_lt c4
    have hf : findN key R.names = none := by rw [findN_pos, hp]; simp
    subst hQ
    rw [hput, if_neg c3, if_neg (by omega), putN_pos, if_neg (by omega)]
    exact ⟨by omega, .to ⟨n', rfl, rfl⟩ (.turn id ⟨.refl _, trivial⟩ (.at 0 rfl rfl (.of_eq (by simp)) (.at 2 rfl rfl (.refl _) (.at 3 rfl rfl (.refl _) (.at 1 rfl rfl (.of_eq (by simp [prow, Val.row])) trivial)))))⟩
end Go.Proofs.Ytlmmmplgogbjgaa
