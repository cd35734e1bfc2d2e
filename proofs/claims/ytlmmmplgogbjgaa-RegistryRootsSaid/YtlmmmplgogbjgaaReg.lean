/-
  What the registry's functions do. No condition.
-/
import Derived.Test.YtlmmmplgogbjgaaVal
import Derived.Test.YtlmmmplgogbjgaaWk
set_option linter.unusedVariables false
set_option linter.unusedSimpArgs false
set_option maxRecDepth 100000
set_option maxHeartbeats 0
namespace Go.Proofs.Ytlmmmplgogbjgaa
open Go.Abs
attribute [local irreducible] CallS Run

-- EV: RegH, nO, nM, nV, nF, nL, Val.v, Val.row, irow

structure Val where
  k : Int
  p : Int
  q : Int
  s : List UInt8
  r : Int
  deriving DecidableEq

def Val.row (v : Val) : List V := [.int .i64 v.k, .int .i64 v.p, .int .i64 v.q, .str v.s, .int .i64 v.r]
def Val.v (v : Val) : V := .agg v.row
def Val.none : Val := ⟨0, 0, 0, [], 0⟩
def Val.ok (v : Val) : Bool := vValid v.k v.p v.q v.s v.r
def irow (z : Int) : List V := [.int .i64 z]
def ent (e : List UInt8 × Val) : V × V := (.str e.1, e.2.v)

structure Reg where
  vals : List Val
  free : List Int
  names : List (List UInt8 × Val)

abbrev nO : Nat := 7 * 10000 + 3
abbrev nM : Nat := 7 * 10000 + 1
abbrev nV : Nat := 17 * 10000 + 47
abbrev nF : Nat := 18 * 10000 + 31
abbrev nL : Nat := 17 * 10000 + 69

def RegH (so sm sv sf : Nat) (R : Reg) : Heap :=
  [(nO, so, .rows 3 [[.sl nV sv 0 R.vals.length, .sl nF sf 0 R.free.length, .mp nM sm]]), (nM, sm, .map (R.names.map ent)), (nV, sv, .rows 5 (R.vals.map Val.row)), (nF, sf, .rows 1 (R.free.map irow))]

theorem new_c (n : Nat) : CallS Try.prog 7 [] [] n (fun r h _ => ∃ so sm sv sf, r = .ptr nO so 0 0 ∧ h = RegH so sm sv sf ⟨[], [], []⟩) := by
  refine CallS.wk (k1 := fun r h _ => r = .ptr nO (n + 1) 0 0 ∧ h = [(nO, n + 1, .rows 3 [[.nils, .nils, .mp nM n]]), (nM, n, .map [])]) (CallS.enter registry_New_ok (Nat.le_of_ble_eq_true rfl) ?_) ?_
  · refine Run.go 100 ?_
    simp -implicitDefEqProofs only [go_sem, RegH, nO, nM, nV, nF, nL, Val.v, Val.row, irow, initSl, nO, nM]
  · rintro r h' n' ⟨rfl, rfl⟩
    exact ⟨_, RegH (n + 1) n (n' + 1) n' ⟨[], [], []⟩, _, .trans (.fresh nF 1 _ _ _) (.trans (.fresh nV 5 _ _ _) (.turn id ⟨.refl _, trivial⟩
      (.at 2 rfl rfl (.row ⟨.nils, .nils, .refl _, trivial⟩) (.at 3 rfl rfl (.refl _) (.at 0 rfl rfl (.refl _) (.at 1 rfl rfl (.refl _) trivial)))))), _, _, _, _, rfl, rfl⟩

def Reg.used (R : Reg) (z : Int) : Bool := decide (1 ≤ z ∧ z ≤ R.vals.length) && decide ((R.vals.getD (z - 1).toNat Val.none).k ≠ 0)

theorem used_c (R : Reg) (so sm sv sf n : Nat) (z : Int) (hB : R.vals.length ≤ 1000) : CallS Try.prog 29 [.ptr nO so 0 0, .int .i64 z] (RegH so sm sv sf R) n (fun r h' _ => r = .bool (R.used z) ∧ h' = RegH so sm sv sf R) := by
  refine CallS.enterK registry_Registry_used_ok (Nat.le_of_ble_eq_true rfl) fun Q hQ => Run.go 100 ?_
  have no : ¬ (1 ≤ z ∧ z ≤ R.vals.length) → false = R.used z := fun h => by rw [Reg.used, decide_eq_false h]; rfl
  simp -implicitDefEqProofs only [go_sem, RegH, nO, nM, nV, nF, nL, Val.v, Val.row, irow, initSl]
  subst hQ
  refine ⟨fun h1 => ⟨fun h2 => ⟨by omega, by omega, by omega, by omega, fun x hx => .is ⟨?_, rfl⟩⟩, fun h2 => .is ⟨by rw [no (by omega)], rfl⟩⟩, fun h1 => .is ⟨by rw [no (by omega)], rfl⟩⟩
  rw [Reg.used, List.getD_eq_getElem?_getD, hx]
  simp [h1, h2]

def Reg.ref (R : Reg) (v : Val) : Int × Int × Reg :=
  if v.ok = false then (0, 2, R)
  else if v.k = 0 then (0, 0, R)
  else if (R.vals.length : Int) - R.free.length = 1000 then (0, 17, R)
  else if R.free = [] then (((R.vals.length + 1 : Nat) : Int), 0, { R with vals := R.vals ++ [v] })
  else (R.free.getLastD 0, 0, { R with vals := R.vals.set (R.free.getLastD 0 - 1).toNat v, free := R.free.dropLast })

structure Reg.OK (R : Reg) : Prop where
  vals : R.vals.length ≤ 1000
  nodup : R.free.Nodup
  inr : ∀ z ∈ R.free, 1 ≤ z ∧ z ≤ R.vals.length ∧ ∀ v, R.vals[(z - 1).toNat]? = some v → v.k = 0
  names : R.names.length ≤ 1000
  keys : (R.names.map (·.1)).Nodup

theorem nodup_int {l : List Int} {n : Nat} (hn : l.Nodup) (h : ∀ z ∈ l, 1 ≤ z ∧ z ≤ n) : l.length ≤ n := by
  have h1 : (l.map Int.toNat).Nodup := by
    rw [List.Nodup, List.pairwise_map]
    refine List.Pairwise.imp_of_mem ?_ hn
    intro a b ha hb hab e
    have := h a ha
    have := h b hb
    omega
  have := nodup_le (l.map Int.toNat) (List.range' 1 n) h1 fun x hx => by
    obtain ⟨z, hz, rfl⟩ := List.mem_map.1 hx
    have := h z hz
    rw [List.mem_range']
    exact ⟨z.toNat - 1, by omega, by omega⟩
  simpa using this

theorem Reg.OK.free {R : Reg} (h : R.OK) : R.free.length ≤ R.vals.length := nodup_int h.nodup fun z hz => ⟨(h.inr z hz).1, (h.inr z hz).2.1⟩

theorem Reg.ref1 {R : Reg} {v : Val} (h : (!vValid v.k v.p v.q v.s v.r) = true) : R.ref v = (0, 2, R) := by
  simp [Reg.ref, Val.ok]; intro h'; simp [h'] at h
theorem Reg.ref2 {R : Reg} {v : Val} (h : (!vValid v.k v.p v.q v.s v.r) = false) (h2 : v.k = 0) : R.ref v = (0, 0, R) := by
  simp at h; rw [Reg.ref, Val.ok, if_neg (by rw [h]; simp), if_pos h2]
theorem Reg.ref3 {R : Reg} {v : Val} (h : (!vValid v.k v.p v.q v.s v.r) = false) (h2 : ¬ v.k = 0) (h3 : (R.vals.length : Int) - R.free.length = 1000) : R.ref v = (0, 17, R) := by
  simp at h; simp [Reg.ref, Val.ok, h, h2, h3]
theorem Reg.ref4 {R : Reg} {v : Val} (h : (!vValid v.k v.p v.q v.s v.r) = false) (h2 : ¬ v.k = 0) (h3 : ¬ (R.vals.length : Int) - R.free.length = 1000) (h4 : R.free = []) : R.ref v = (((R.vals.length + 1 : Nat) : Int), 0, { R with vals := R.vals ++ [v] }) := by
  simp at h; rw [Reg.ref, Val.ok, if_neg (by rw [h]; simp), if_neg h2, if_neg h3, if_pos h4]
theorem Reg.ref5 {R : Reg} {v : Val} {z : Int} (h : (!vValid v.k v.p v.q v.s v.r) = false) (h2 : ¬ v.k = 0) (h3 : ¬ (R.vals.length : Int) - R.free.length = 1000) (h4 : R.free[R.free.length - 1]? = some z) : R.ref v = (z, 0, { R with vals := R.vals.set (z - 1).toNat v, free := R.free.dropLast }) := by
  have hne : R.free ≠ [] := fun h => by rw [h] at h4; simp at h4
  have hz : R.free.getLastD 0 = z := by rw [List.getLastD_eq_getLast?, List.getLast?_eq_getElem?, h4]; rfl
  simp at h; rw [Reg.ref, Val.ok, if_neg (by rw [h]; simp), if_neg h2, if_neg h3, if_neg hne, hz]

theorem ref_c (R : Reg) (so sm sv sf n : Nat) (v : Val) (hok : R.OK) :
    CallS Try.prog 17 [.ptr nO so 0 0, v.v] (RegH so sm sv sf R) n (fun r h' _ => ∃ sv' sf', r = .tup [.int .i64 (R.ref v).1, .int .i64 (R.ref v).2.1] ∧ h' = RegH so sm sv' sf' (R.ref v).2.2) := by
  refine CallS.enterK registry_Registry_Ref_ok (Nat.le_of_ble_eq_true rfl) fun Q hQ => Run.go 100 ?_
  simp -implicitDefEqProofs only [go_sem, RegH, nO, nM, nV, nF, nL, Val.v, Val.row, irow, initSl]
  refine CallS.pureF (vValid_pure _ _ _ _ _) (by simp -implicitDefEqProofs only [go_sem, RegH, nO, nM, nV, nF, nL, Val.v, Val.row, irow]) ?_
  simp -implicitDefEqProofs only [go_sem, RegH, nO, nM, nV, nF, nL, Val.v, Val.row, irow]
  subst hQ
  have h1 := hok.vals
  have h2 := hok.free
  refine ⟨fun c1 => ?_, fun c1 => ⟨fun c2 => ?_, fun c2 => ⟨by omega, fun c3 => ?_, fun c3 => ⟨fun c4 => ⟨by omega, ?_⟩, fun c4 => ⟨by omega, by omega, by omega, by omega, fun z hz => ⟨by omega, by omega, ?_, ?_⟩⟩⟩⟩⟩⟩
  · rw [Reg.ref1 c1]; exact .to ⟨sv, sf, rfl, rfl⟩ (.turn id ⟨.refl _, trivial⟩ (.at 1 rfl rfl (.refl _) (.at 2 rfl rfl (.refl _) (.at 3 rfl rfl (.refl _) (.at 4 rfl rfl (.refl _) trivial)))))
  · rw [Reg.ref2 c1 c2]; exact .to ⟨sv, sf, rfl, rfl⟩ (.turn id ⟨.refl _, trivial⟩ (.at 1 rfl rfl (.refl _) (.at 2 rfl rfl (.refl _) (.at 3 rfl rfl (.refl _) (.at 4 rfl rfl (.refl _) trivial)))))
  · rw [Reg.ref3 c1 c2 c3]; exact .to ⟨sv, sf, rfl, rfl⟩ (.turn id ⟨.refl _, trivial⟩ (.at 1 rfl rfl (.refl _) (.at 2 rfl rfl (.refl _) (.at 3 rfl rfl (.refl _) (.at 4 rfl rfl (.refl _) trivial)))))
  · rw [Reg.ref4 c1 c2 c3 (List.eq_nil_of_length_eq_zero (by omega))]
    exact .to ⟨n + 1, sf, rfl, rfl⟩ (.turn id ⟨.refl _, trivial⟩ (.at 0 rfl rfl (.of_eq (by simp)) (.at 3 rfl rfl (.refl _) (.at 1 rfl rfl (.of_eq (by simp [Val.row])) (.at 4 rfl rfl (.refl _) trivial)))))
  · intro r hr
    obtain ⟨z, _, rfl⟩ := List.mem_map.1 hr
    rfl
  · have hm : ((R.free.length : Int) - 1).toNat = R.free.length - 1 := by omega
    rw [hm] at hz
    have hzr := hok.inr z (List.mem_of_getElem? hz)
    refine ⟨by omega, by omega, by omega, by omega, fun _ _ => ?_⟩
    rw [Reg.ref5 c1 c2 c3 hz, hm]
    refine .to ⟨sv, n + 1, rfl, rfl⟩ (.turn (fun b => if b = nL then nF else b) ⟨.refl _, trivial⟩ (.at 1 rfl rfl (.row ⟨.of_eq (by simp), .sl' (by simp), .refl _, trivial⟩) (.at 4 rfl rfl (.refl _) (.at 0 rfl rfl (.of_eq (by simp [Val.row, List.map_set])) (.at 2 rfl rfl (.of_eq ?_) trivial)))))
    rw [Nat.min_eq_right (by omega), List.drop_eq_nil_of_le (by simp), List.append_nil, List.dropLast_eq_take, List.map_take]

def Reg.unref (R : Reg) (z : Int) : Int × Reg :=
  if z = 0 then (0, R)
  else if R.used z then (0, { R with vals := R.vals.set (z - 1).toNat Val.none, free := R.free ++ [z] })
  else (6, R)

theorem Reg.used_spec {R : Reg} {z : Int} (h : R.used z = true) : 1 ≤ z ∧ z ≤ R.vals.length ∧ ∃ v, R.vals[(z - 1).toNat]? = some v ∧ v.k ≠ 0 := by
  simp only [Reg.used, Bool.and_eq_true, decide_eq_true_eq] at h
  obtain ⟨⟨h1, h2⟩, h3⟩ := h
  have hlt : (z - 1).toNat < R.vals.length := by omega
  refine ⟨h1, h2, R.vals[(z - 1).toNat], by simp [hlt], ?_⟩
  rw [List.getD_eq_getElem?_getD, List.getElem?_eq_getElem hlt] at h3
  exact h3

theorem unref_c (R : Reg) (so sm sv sf n : Nat) (z : Int) (hok : R.OK) :
    CallS Try.prog 18 [.ptr nO so 0 0, .int .i64 z] (RegH so sm sv sf R) n (fun r h' _ => ∃ sv' sf', r = .int .i64 (R.unref z).1 ∧ h' = RegH so sm sv' sf' (R.unref z).2) := by
  refine CallS.enterK registry_Registry_Unref_ok (Nat.le_of_ble_eq_true rfl) fun Q hQ => Run.go 100 ?_
  have h1 := hok.vals
  have h2 := hok.free
  simp -implicitDefEqProofs only [go_sem, RegH, nO, nM, nV, nF, nL, Val.v, Val.row, irow, initSl]
  refine ⟨fun c1 => ?_, fun c1 => ?_⟩
  · subst hQ
    rw [Reg.unref, if_pos c1]; exact .is ⟨sv, sf, rfl, rfl⟩
  · refine (used_c R so sm sv sf n z h1).mono ?_
    rintro r h' n' ⟨rfl, rfl⟩
    simp -implicitDefEqProofs only [go_sem, RegH, nO, nM, nV, nF, nL, Val.v, Val.row, irow]
    subst hQ
    rw [Reg.unref, if_neg c1]
    refine ⟨fun c2 => ?_, fun c2 => ?_⟩
    · have c2 : R.used z = false := by simpa using c2
      rw [c2]; exact .is ⟨sv, sf, rfl, rfl⟩
    · have c2 : R.used z = true := by simpa using c2
      obtain ⟨h3, h4, v, h5, h6⟩ := Reg.used_spec c2
      refine ⟨by omega, by omega, by omega, by omega, fun _ _ => ⟨by omega, ?_⟩⟩
      rw [c2]
      exact .to ⟨sv, n', rfl, rfl⟩ (.turn id ⟨.refl _, trivial⟩ (.at 0 rfl rfl (.of_eq (by simp)) (.at 3 rfl rfl (.refl _) (.at 2 rfl rfl (.of_eq (by simp [Val.row, Val.none, List.map_set])) (.at 1 rfl rfl (.of_eq (by simp [irow])) trivial)))))

def Reg.value (R : Reg) (z : Int) : Val × Int :=
  if z = 0 then (Val.none, 0)
  else if R.used z then (R.vals.getD (z - 1).toNat Val.none, 0)
  else (Val.none, 6)

theorem value_c (R : Reg) (so sm sv sf n : Nat) (z : Int) (hok : R.OK) :
    CallS Try.prog 12 [.ptr nO so 0 0, .int .i64 z] (RegH so sm sv sf R) n (fun r h' _ => r = .tup [(R.value z).1.v, .int .i64 (R.value z).2] ∧ h' = RegH so sm sv sf R) := by
  refine CallS.enterK registry_Registry_Value_ok (Nat.le_of_ble_eq_true rfl) fun Q hQ => Run.go 100 ?_
  have h1 := hok.vals
  simp -implicitDefEqProofs only [go_sem, RegH, nO, nM, nV, nF, nL, Val.v, Val.row, irow, initSl]
  have same : ∀ (t : Nat × Nat × Blk) (r : V) m, Wk ⟨[(0, r)], t :: RegH so sm sv sf R, m⟩ ⟨[(0, r)], RegH so sm sv sf R, m⟩ :=
    fun t r m => .turn id ⟨.refl _, trivial⟩ (.at 1 rfl rfl (.refl _) (.at 2 rfl rfl (.refl _) (.at 3 rfl rfl (.refl _) (.at 4 rfl rfl (.refl _) trivial))))
  refine ⟨fun c1 => ?_, fun c1 => ?_⟩
  · subst hQ
    rw [Reg.value, if_pos c1]; exact .to ⟨rfl, rfl⟩ (same _ _ _)
  · refine CallS.at [1, 2, 3, 4] [0] (used_c R so sm sv sf _ z h1) rfl rfl ?_
    rintro r h' n' hn ⟨rfl, rfl⟩
    simp -implicitDefEqProofs only [go_sem, RegH, nO, nM, nV, nF, nL, Val.v, Val.row, irow]
    subst hQ
    rw [Reg.value, if_neg c1]
    refine ⟨fun c2 => ?_, fun c2 => ?_⟩
    · have c2 : R.used z = false := by simpa using c2
      rw [c2]; exact .to ⟨rfl, rfl⟩ (same _ _ _)
    · have c2 : R.used z = true := by simpa using c2
      obtain ⟨h3, h4, v, h5, h6⟩ := Reg.used_spec c2
      refine ⟨by omega, by omega, by omega, by omega, fun x hx => ?_⟩
      rw [h5] at hx
      injection hx with hx
      subst hx
      rw [c2, List.getD_eq_getElem?_getD, h5]
      exact .to ⟨rfl, rfl⟩ (same _ _ _)

def findN (k : List UInt8) : List (List UInt8 × Val) → Option Val
  | [] => none
  | e :: r => if k = e.1 then some e.2 else findN k r
def putN (k : List UInt8) (v : Val) : List (List UInt8 × Val) → List (List UInt8 × Val)
  | [] => [(k, v)]
  | e :: r => if k = e.1 then (k, v) :: r else e :: putN k v r
def remN (k : List UInt8) : List (List UInt8 × Val) → List (List UInt8 × Val)
  | [] => []
  | e :: r => if k = e.1 then r else e :: remN k r

theorem mfind_ent (k : List UInt8) : ∀ l : List (List UInt8 × Val), mfind (.str k) (l.map ent) = (findN k l).map Val.v
  | [] => rfl
  | e :: r => by
    simp only [List.map_cons, mfind, ent, keyEq, Option.getD_some, findN, mfind_ent k r]
    by_cases h : k = e.1 <;> simp [h]
theorem keyOK_ent (k : List UInt8) : ∀ l : List (List UInt8 × Val), keyOK (.str k) (l.map ent) = True
  | [] => by simp [keyOK]
  | e :: r => by simp [keyOK, ent, keyEq, keyOK_ent k r]
theorem mset_ent (k : List UInt8) (a b c d : Int) (s : List UInt8) : ∀ l : List (List UInt8 × Val), mset (.str k) (.agg [.int .i64 a, .int .i64 b, .int .i64 c, .str s, .int .i64 d]) (l.map ent) = (putN k ⟨a, b, c, s, d⟩ l).map ent
  | [] => rfl
  | e :: r => by
    simp only [List.map_cons, mset, ent, keyEq, Option.getD_some, putN, mset_ent k a b c d s r]
    by_cases h : k = e.1 <;> simp [h, ent, Val.v, Val.row]
theorem mrem_ent (k : List UInt8) : ∀ l : List (List UInt8 × Val), mrem (.str k) (l.map ent) = (remN k l).map ent
  | [] => rfl
  | e :: r => by
    simp only [List.map_cons, mrem, ent, keyEq, Option.getD_some, remN, mrem_ent k r]
    by_cases h : k = e.1 <;> simp [h, ent]

def Reg.put (R : Reg) (k : List UInt8) (v : Val) : Int × Reg :=
  if 4096 < k.length then (14, R)
  else if v.ok = false then (2, R)
  else if v.k = 0 then (0, { R with names := remN k R.names })
  else if findN k R.names = none ∧ 1000 ≤ R.names.length then (17, R)
  else (0, { R with names := putN k v R.names })

theorem put_c (R : Reg) (so sm sv sf n : Nat) (key : List UInt8) (v : Val) (hok : R.OK) :
    CallS Try.prog 23 [.ptr nO so 0 0, .str key, v.v] (RegH so sm sv sf R) n (fun r h' _ => r = .int .i64 (R.put key v).1 ∧ h' = RegH so sm sv sf (R.put key v).2) := by
  refine CallS.enterK registry_Registry_Put_ok (Nat.le_of_ble_eq_true rfl) fun Q hQ => Run.go 100 ?_
  simp -implicitDefEqProofs only [go_sem, RegH, nO, nM, nV, nF, nL, Val.v, Val.row, irow, initSl]
  refine ⟨fun c1 => ?_, fun c1 => ?_⟩
  · subst hQ
    rw [Reg.put, if_pos (by omega)]; exact .to ⟨rfl, rfl⟩ (.turn id ⟨.refl _, trivial⟩ (.at 1 rfl rfl (.refl _) (.at 2 rfl rfl (.refl _) (.at 3 rfl rfl (.refl _) (.at 4 rfl rfl (.refl _) trivial)))))
  · refine CallS.pureF (vValid_pure _ _ _ _ _) (by simp -implicitDefEqProofs only [go_sem, RegH, nO, nM, nV, nF, nL, Val.v, Val.row, irow]) ?_
    simp -implicitDefEqProofs only [go_sem, RegH, nO, nM, nV, nF, nL, Val.v, Val.row, irow, mfind_ent, keyOK_ent, mset_ent, mrem_ent]
    subst hQ
    rw [Reg.put, if_neg (by omega), Val.ok]
    refine ⟨fun c2 => ?_, fun c2 => ⟨fun c3 => ?_, fun c3 => ⟨fun x hx => ?_, fun hx => ⟨fun c4 => ?_, fun c4 => ?_⟩⟩⟩⟩
    · rw [if_pos (by simpa using c2)]; exact .to ⟨rfl, rfl⟩ (.sub (by simp -implicitDefEqProofs only [go_sem, RegH, nO, nM, nV, nF, nL, Val.v, Val.row, irow]))
    · rw [if_neg (by simpa using c2), if_pos c3]; exact .to ⟨rfl, rfl⟩ (.sub (by simp -implicitDefEqProofs only [go_sem, RegH, nO, nM, nV, nF, nL, Val.v, Val.row, irow]))
    · rw [if_neg (by simpa using c2), if_neg c3, if_neg (by rw [hx]; simp)]; exact .to ⟨rfl, rfl⟩ (.sub (by simp -implicitDefEqProofs only [go_sem, RegH, nO, nM, nV, nF, nL, Val.v, Val.row, irow]))
    · rw [if_neg (by simpa using c2), if_neg c3, if_pos ⟨hx, by omega⟩]; exact .to ⟨rfl, rfl⟩ (.sub (by simp -implicitDefEqProofs only [go_sem, RegH, nO, nM, nV, nF, nL, Val.v, Val.row, irow]))
    · rw [if_neg (by simpa using c2), if_neg c3, if_neg (by omega)]; exact .to ⟨rfl, rfl⟩ (.sub (by simp -implicitDefEqProofs only [go_sem, RegH, nO, nM, nV, nF, nL, Val.v, Val.row, irow]))

def Reg.find (R : Reg) (k : List UInt8) : Val × Bool := match findN k R.names with
  | some v => (v, true)
  | none => (Val.none, false)

theorem find_c (R : Reg) (so sm sv sf n : Nat) (key : List UInt8) :
    CallS Try.prog 13 [.ptr nO so 0 0, .str key] (RegH so sm sv sf R) n (fun r h' _ => r = .tup [(R.find key).1.v, .bool (R.find key).2] ∧ h' = RegH so sm sv sf R) := by
  refine CallS.enterK registry_Registry_Find_ok (Nat.le_of_ble_eq_true rfl) fun Q hQ => Run.go 100 ?_
  simp -implicitDefEqProofs only [go_sem, RegH, nO, nM, nV, nF, nL, Val.v, Val.row, irow, initSl, mfind_ent, keyOK_ent]
  subst hQ
  refine ⟨fun x hx => ?_, fun hx => ?_⟩
  · rw [Reg.find, hx]; exact .to ⟨rfl, rfl⟩ (.sub (by simp -implicitDefEqProofs only [go_sem, RegH, nO, nM, nV, nF, nL, Val.v, Val.row, irow]))
  · rw [Reg.find, hx]; exact .to ⟨rfl, rfl⟩ (.sub (by simp -implicitDefEqProofs only [go_sem, RegH, nO, nM, nV, nF, nL, Val.v, Val.row, irow]))

def Reg.len (R : Reg) : Int := (R.vals.length : Int) - R.free.length + R.names.length

theorem len_c (R : Reg) (so sm sv sf n : Nat) (hok : R.OK) :
    CallS Try.prog 19 [.ptr nO so 0 0] (RegH so sm sv sf R) n (fun r h' _ => r = .int .i64 R.len ∧ h' = RegH so sm sv sf R) := by
  refine CallS.enterK registry_Registry_Len_ok (Nat.le_of_ble_eq_true rfl) fun Q hQ => Run.go 100 ?_
  have h1 := hok.vals
  have h2 := hok.free
  have h3 := hok.names
  simp -implicitDefEqProofs only [go_sem, RegH, nO, nM, nV, nF, nL, Val.v, Val.row, irow, initSl]
  subst hQ
  exact ⟨by omega, by omega, .is ⟨rfl, rfl⟩⟩

/-! The registry stays well. -/
theorem findN_mem {k : List UInt8} : ∀ {l : List (List UInt8 × Val)}, findN k l = none → k ∉ l.map (·.1)
  | [], _ => by simp
  | e :: r, h => by
    simp only [findN] at h
    split at h
    · cases h
    · rename_i hk
      have := findN_mem h
      simp only [List.map_cons, List.mem_cons, not_or]
      exact ⟨hk, this⟩
theorem putN_keys (k : List UInt8) (v : Val) : ∀ l : List (List UInt8 × Val), (putN k v l).map (·.1) = if findN k l = none then l.map (·.1) ++ [k] else l.map (·.1)
  | [] => rfl
  | e :: r => by
    simp only [putN, findN]
    by_cases h : k = e.1
    · simp [h]
    · simp only [h, if_false, List.map_cons, putN_keys k v r]
      split <;> rfl
theorem remN_sub (k : List UInt8) : ∀ l : List (List UInt8 × Val), (remN k l).Sublist l
  | [] => .slnil
  | e :: r => by
    simp only [remN]
    split
    · exact List.sublist_cons_self _ _
    · exact (remN_sub k r).cons_cons _

theorem Reg.OK.new : Reg.OK ⟨[], [], []⟩ := ⟨by simp, by simp, by simp, by simp, by simp⟩
theorem Reg.OK.ref {R : Reg} (h : R.OK) (v : Val) : (R.ref v).2.2.OK := by
  have hf := h.free
  unfold Reg.ref
  split
  · exact h
  split
  · exact h
  rename_i hk
  split
  · exact h
  rename_i h3
  split
  · rename_i h4
    have hv := h.vals
    rw [h4] at h3
    refine ⟨?_, ?_, ?_, h.names, h.keys⟩
    · simp at h3 ⊢; omega
    · simp [h4]
    · simp [h4]
  · rename_i h4
    generalize hz : R.free.getLastD 0 = z
    have hsplit : R.free = R.free.dropLast ++ [z] := by
      rw [← hz, List.getLastD_eq_getLast?, List.getLast?_eq_some_getLast h4]
      exact (List.dropLast_concat_getLast h4).symm
    have hn := h.nodup
    rw [hsplit, List.nodup_append] at hn
    obtain ⟨n1, _, n3⟩ := hn
    refine ⟨by simpa using h.vals, n1, fun y hy => ?_, h.names, h.keys⟩
    obtain ⟨a, b, c⟩ := h.inr y (by rw [hsplit]; simp [hy])
    have hzi := h.inr z (by rw [hsplit]; simp)
    refine ⟨a, by simpa using b, fun u hu => c u ?_⟩
    have hne : y ≠ z := n3 y hy z (by simp)
    rw [List.getElem?_set_ne (by omega)] at hu
    exact hu
theorem Reg.OK.unref {R : Reg} (h : R.OK) (z : Int) : (R.unref z).2.OK := by
  unfold Reg.unref
  split
  · exact h
  split
  · rename_i hu
    obtain ⟨h1, h2, v, h3, h4⟩ := Reg.used_spec hu
    have hz : z ∉ R.free := fun hm => h4 ((h.inr z hm).2.2 v h3)
    refine ⟨by simpa using h.vals, ?_, fun y hy => ?_, h.names, h.keys⟩
    · rw [List.nodup_append]
      exact ⟨h.nodup, by simp, fun a ha b hb => by rw [List.mem_singleton.1 hb]; exact fun e => hz (e ▸ ha)⟩
    · rcases List.mem_append.1 hy with hy | hy
      · obtain ⟨a, b, c⟩ := h.inr y hy
        have hne : y ≠ z := fun e => hz (e ▸ hy)
        refine ⟨a, by simpa using b, fun u hu => c u ?_⟩
        rw [List.getElem?_set_ne (by omega)] at hu
        exact hu
      · rw [List.mem_singleton.1 hy]
        refine ⟨h1, by simpa using h2, fun u hu => ?_⟩
        rw [List.getElem?_set_self (by omega)] at hu
        injection hu with hu
        rw [← hu]; rfl
  · exact h
theorem Reg.OK.put {R : Reg} (h : R.OK) (k : List UInt8) (v : Val) : (R.put k v).2.OK := by
  unfold Reg.put
  split
  · exact h
  split
  · exact h
  split
  · exact ⟨h.vals, h.nodup, h.inr, Nat.le_trans (remN_sub k _).length_le h.names, ((remN_sub k _).map _).nodup h.keys⟩
  split
  · exact h
  rename_i h4
  refine ⟨h.vals, h.nodup, h.inr, ?_, ?_⟩
  · have := congrArg List.length (putN_keys k v R.names)
    rw [List.length_map] at this
    simp only at this ⊢
    have hn := h.names
    rw [this]
    split
    · rename_i h5
      have : ¬ 1000 ≤ R.names.length := fun h => h4 ⟨h5, h⟩
      simp; omega
    · simpa using hn
  · simp only
    rw [putN_keys]
    split
    · rename_i h5
      rw [List.nodup_append]
      exact ⟨h.keys, by simp, fun a ha b hb => by rw [List.mem_singleton.1 hb]; exact fun e => findN_mem h5 (e ▸ ha)⟩
    · exact h.keys
end Go.Proofs.Ytlmmmplgogbjgaa
