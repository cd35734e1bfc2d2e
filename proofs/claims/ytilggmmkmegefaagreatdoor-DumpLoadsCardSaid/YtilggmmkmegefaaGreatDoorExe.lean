/-
 Abstract code run as a program on known data: what it answers is a contract. No condition.
-/
import Derived.Test.YtilggmmkmegefaaGreatDoorWk
set_option linter.unusedVariables false
set_option linter.unusedSimpArgs false
namespace Go.Abs
variable {PK : H0}
abbrev K8 := Option (V × A2 × Nat)
def E0 (v : V) (h : A2) (n : Nat) : K8 := some (v, h, n)
def A0Q (o : Option V) (h : A2) (n : Nat) : K8 :=
 match o with
 | some v => E0 v h n
 | none => none
def gE (b : Bool) (r : K8) : K8 := bif b then r else none
def Good (o : K8) (k : Res) : Prop := ∃ x, o = some x ∧ k x.1 x.2.1 x.2.2
theorem Good.one {v : V} {h : A2} {n : Nat} {k : Res} (hg : Good (E0 v h n) k) : k v h n := by
 obtain ⟨l, h1, h2⟩ := hg
 injection h1 with h1
 subst h1
 exact h2
theorem Good.opt {o : Option V} {h : A2} {n : Nat} {k : Res} (hg : Good (A0Q o h n) k) : E6 o k h n := by
 cases o with
 | none => obtain ⟨l, h1, _⟩ := hg; cases h1
 | some v => exact Good.one hg
theorem Good.g {b : Bool} {o : K8} {k : Res} (hg : Good (gE b o) k) : b = true ∧ Good o k := by
 cases b with
 | false => obtain ⟨l, h1, _⟩ := hg; cases h1
 | true => exact ⟨rfl, hg⟩
theorem Good.no {k : Res} (hg : Good none k) : False := by obtain ⟨l, h1, _⟩ := hg; cases h1
def B1R (es : List (List V)) (sz : Nat) : Bool := es.all fun r => Nat.beq r.length sz
theorem A3Q {es : List (List V)} {sz : Nat} (h : B1R es sz = true) : C6 es sz := fun r hr => Nat.eq_of_beq_eq_true (List.all_eq_true.1 h r hr)
def zle (a b : Int) : Bool := match b - a with
 | .ofNat _ => true
 | .negSucc _ => false
theorem O8 {a b : Int} : zle a b = true ↔ a ≤ b := by
 unfold zle
 split
 ·rename_i m h
  have h : b - a = (m : Int) := h
  simp only [true_iff]; omega
 ·rename_i m h
  simp only [Bool.false_eq_true, false_iff]; omega
def zlt (a b : Int) : Bool := zle (a + 1) b
theorem A6p {a b : Int} : zlt a b = true ↔ a < b := by unfold zlt; rw [O8]; omega
def zeq (a b : Int) : Bool := match a, b with
 | .ofNat a, .ofNat b => Nat.beq a b
 | .negSucc a, .negSucc b => Nat.beq a b
 | _, _ => false
theorem B0x {a b : Int} : zeq a b = true ↔ a = b := by
 unfold zeq
 cases a <;> cases b <;> simp <;> omega
theorem B8y (a b : Int) : decide (a ≤ b) = zle a b := by rw [Bool.eq_iff_iff, decide_eq_true_eq, O8]
theorem B8c (a b : Int) : decide (a < b) = zlt a b := by rw [Bool.eq_iff_iff, decide_eq_true_eq, A6p]
theorem B8x (a b : Int) : decide (a = b) = zeq a b := by rw [Bool.eq_iff_iff, decide_eq_true_eq, B0x]
def kEq : IntKind → IntKind → Bool
 | .i8, .i8 | .i16, .i16 | .i32, .i32 | .i64, .i64 | .u8, .u8 | .u16, .u16 | .u32, .u32 | .u64, .u64 => true
 | _, _ => false
theorem B3V {a b : IntKind} : kEq a b = true ↔ a = b := by cases a <;> cases b <;> simp [kEq]
def C5N (k : IntKind) (z : Int) : Bool :=
 match k with
 | .i64 => zle (-9223372036854775808) z && zle z 9223372036854775807
 | _ => true
theorem C2p {k : IntKind} {z : Int} (h : C5N k z = true) : inR k z := by
 cases k <;> simp only [C5N, inR, Bool.and_eq_true, O8] at h ⊢
 exact h
def A9n (k : IntKind) (z : Int) (h : A2) (n : Nat) : K8 := gE (C5N k z) (E0 (B3w k z) h n)
theorem Good.arith {j : IntKind} {z : Int} {h : A2} {n : Nat} {k : Res} (hg : Good (A9n j z h n) k) : Q0 j z k h n := ⟨C2p hg.g.1, hg.g.2.one⟩
theorem A9t {a b : Nat} : Nat.beq a b = true ↔ a = b := ⟨Nat.eq_of_beq_eq_true, fun h => h ▸ Nat.beq_refl a⟩
def O3 : List UInt8 → List UInt8 → Bool
 | [], [] => true
 | a :: r, b :: s => Nat.beq a.toNat b.toNat && O3 r s
 | _, _ => false
theorem A1x : ∀ {a b : List UInt8}, O3 a b = true ↔ a = b
 | [], [] => by simp [O3]
 | [], _ :: _ => by simp [O3]
 | _ :: _, [] => by simp [O3]
 | a :: r, b :: s => by
  simp only [O3, Bool.and_eq_true, A1x, List.cons.injEq, A9t]
  rw [← UInt8.toNat_inj]
theorem A6d (a b : List UInt8) : decide (a = b) = O3 a b := by rw [Bool.eq_iff_iff, decide_eq_true_eq, A1x]
def C5H (op : BinOp) (x y : V) (h : A2) (n : Nat) : K8 :=
 match x, y with
 | .int j a, .int j' b => gE (kEq j j') (match op with
  | .add => A9n j (a + b) h n
  | .sub => A9n j (a - b) h n
  | .mul => A9n j (a * b) h n
  | .quo => gE (!zeq b 0) (A9n j (a.tdiv b) h n)
  | .rem => gE (!zeq b 0) (E0 (.int j (a.tmod b)) h n)
  | .eql => E0 (.bool (zeq a b)) h n
  | .neq => E0 (.bool (!zeq a b)) h n
  | .lss => E0 (.bool (zlt a b)) h n
  | .leq => E0 (.bool (zle a b)) h n
  | .gtr => E0 (.bool (zlt b a)) h n
  | .geq => E0 (.bool (zle b a)) h n
  | .and => E0 (.int j (R1 .and j a b)) h n
  | .or => E0 (.int j (R1 .or j a b)) h n
  | .xor => E0 (.int j (R1 .xor j a b)) h n
  | .andNot => E0 (.int j (R1 .andNot j a b)) h n
  | _ => none)
 | .str a, .str b => match op with
  | .add => gE (Nat.ble (a.length + b.length) 1099511627776) (E0 (.str (a ++ b)) h n)
  | .eql => E0 (.bool (O3 a b)) h n
  | .neq => E0 (.bool (!O3 a b)) h n
  | .lss => E0 (.bool (K5 a b)) h n
  | .geq => E0 (.bool (!K5 a b)) h n
  | .leq => E0 (.bool (K5 a b || O3 a b)) h n
  | .gtr => E0 (.bool !(K5 a b || O3 a b)) h n
  | _ => none
 | _, _ => none
theorem B8j {a b : Int} (h : (!zeq a b) = true) : a ≠ b := fun e => by
 rw [B0x.2 e] at h; cases h
theorem Good.bin {op : BinOp} {x y : V} {h : A2} {n : Nat} {k : Res} (hg : Good (C5H op x y h n) k) : P9 op x y k h n := by
 unfold C5H at hg
 split at hg
 ·rename_i j a j' b
  obtain ⟨h1, hg⟩ := hg.g
  have h1 := B3V.1 h1
  unfold P9
  refine ⟨h1, ?_⟩
  cases op <;> simp only at hg ⊢
  case add => exact hg.arith
  case sub => exact hg.arith
  case mul => exact hg.arith
  case quo => exact ⟨B8j hg.g.1, hg.g.2.arith⟩
  case rem => exact ⟨B8j hg.g.1, hg.g.2.one⟩
  case eql => rw [B8x]; exact hg.one
  case neq => rw [decide_not, B8x]; exact hg.one
  case lss => rw [B8c]; exact hg.one
  case leq => rw [B8y]; exact hg.one
  case gtr => rw [B8c]; exact hg.one
  case geq => rw [B8y]; exact hg.one
  case and => exact hg.one
  case or => exact hg.one
  case xor => exact hg.one
  case andNot => exact hg.one
  all_goals exact hg.no
 ·rename_i a b
  unfold P9
  cases op <;> simp only at hg ⊢
  case add => exact ⟨Nat.le_of_ble_eq_true hg.g.1, hg.g.2.one⟩
  case eql => rw [A6d]; exact hg.one
  case neq => rw [decide_not, A6d]; exact hg.one
  case lss => exact hg.one
  case geq => exact hg.one
  case leq => rw [A6d]; exact hg.one
  case gtr => rw [A6d]; exact hg.one
  all_goals exact hg.no
 ·exact hg.no.elim
def unE (op : UnOp) (x : V) (h : A2) (n : Nat) : K8 :=
 match op, x with
 | .neg, .int j a => A9n j (0 - a) h n
 | .not, .bool b => E0 (.bool !b) h n
 | .xor, .int j a => E0 (.int j (R1 .xor j (bif j.signed then -1 else j.max) a)) h n
 | _, _ => none
theorem Good.un {op : UnOp} {x : V} {h : A2} {n : Nat} {k : Res} (hg : Good (unE op x h n) k) : unK op x k h n := by
 unfold unE at hg
 split at hg
 ·exact hg.arith
 ·exact hg.one
 ·exact hg.one
 ·exact hg.no.elim
def B7u (sz : Nat) (x i : V) (h : A2) (n : Nat) : K8 :=
 match i with
 | .int _ z => match x with
  | .sl b st i0 m => gE (zle 0 z && zlt z m && (match A8n (A2.get h b st) with | some s => Nat.beq s sz | none => false)) (E0 (.ptr b st (i0 + z.toNat) 0) h n)
  | .isl es => gE (zle 0 z && zlt z es.length && B1R es sz) (E0 (.iptr es z.toNat 0) h n)
  | _ => none
 | _ => none
theorem Good.iaddr {sz : Nat} {x i : V} {h : A2} {n : Nat} {k : Res} (hg : Good (B7u sz x i h n) k) : A1b sz x i k h n := by
 unfold B7u at hg
 split at hg
 ·split at hg
  ·obtain ⟨h1, hg⟩ := hg.g
   simp only [Bool.and_eq_true, O8, A6p] at h1
   obtain ⟨⟨a, b⟩, c⟩ := h1
   refine ⟨a, b, ?_, hg.one⟩
   split at c
   ·rename_i s hs; rw [hs, Nat.eq_of_beq_eq_true c]
   ·cases c
  ·obtain ⟨h1, hg⟩ := hg.g
   simp only [Bool.and_eq_true, O8, A6p] at h1
   exact ⟨h1.1.1, h1.1.2, A3Q h1.2, hg.one⟩
  ·exact hg.no.elim
 ·exact hg.no.elim
def B4v (len sz : Nat) (x i : V) (h : A2) (n : Nat) : K8 :=
 match i with
 | .int _ z => match x with
  | .ptr b st i0 j => gE (zle 0 z && zlt z len) (E0 (.ptr b st i0 (j + z.toNat * sz)) h n)
  | .iptr es i0 j => gE (zle 0 z && zlt z len) (E0 (.iptr es i0 (j + z.toNat * sz)) h n)
  | _ => none
 | _ => none
theorem Good.iaddrA {len sz : Nat} {x i : V} {h : A2} {n : Nat} {k : Res} (hg : Good (B4v len sz x i h n) k) : j6 len sz x i k h n := by
 unfold B4v at hg
 split at hg
 ·split at hg
  ·obtain ⟨h1, hg⟩ := hg.g
   simp only [Bool.and_eq_true, O8, A6p] at h1
   exact ⟨h1.1, h1.2, hg.one⟩
  ·obtain ⟨h1, hg⟩ := hg.g
   simp only [Bool.and_eq_true, O8, A6p] at h1
   exact ⟨h1.1, h1.2, hg.one⟩
  ·exact hg.no.elim
 ·exact hg.no.elim
def C6V (x i : V) (h : A2) (n : Nat) : K8 :=
 match x, i with
 | .str s, .int _ z => gE (zle 0 z) (A0Q ((s[z.toNat]?).map fun b => .int .u8 b.toNat) h n)
 | _, _ => none
theorem Good.idx {x i : V} {h : A2} {n : Nat} {k : Res} (hg : Good (C6V x i h n) k) : B4m x i k h n := by
 unfold C6V at hg
 split at hg
 ·exact ⟨O8.1 hg.g.1, hg.g.2.opt⟩
 ·exact hg.no.elim
def shE (left : Bool) (x y : V) (h : A2) (n : Nat) : K8 :=
 match x, y with
 | .int j a, .int _ b => gE (zle 0 b) (E0 (.int j (shZ left j a b)) h n)
 | _, _ => none
theorem Good.sh {l : Bool} {x y : V} {h : A2} {n : Nat} {k : Res} (hg : Good (shE l x y h n) k) : shK l x y k h n := by
 unfold shE at hg
 split at hg
 ·exact ⟨O8.1 hg.g.1, hg.g.2.one⟩
 ·exact hg.no.elim
def C1D (len sz m : Nat) (agg : Bool) (x i : V) (h : A2) (n : Nat) : K8 :=
 match x, i with
 | .agg cs, .int _ z => gE (zle 0 z && zlt z len) (A0Q (F5 cs (z.toNat * sz) m agg) h n)
 | _, _ => none
theorem Good.idxA {len sz m : Nat} {agg : Bool} {x i : V} {h : A2} {n : Nat} {k : Res} (hg : Good (C1D len sz m agg x i h n) k) : A5G len sz m agg x i k h n := by
 unfold C1D at hg
 split at hg
 ·obtain ⟨h1, hg⟩ := hg.g
  simp only [Bool.and_eq_true, O8, A6p] at h1
  exact ⟨h1.1, h1.2, hg.opt⟩
 ·exact hg.no.elim
def C5R (z : List V) (x : V) (h : A2) (n : Nat) : K8 :=
 match x with
 | .nils => E0 (.tup []) h n
 | .sl b st i m => match A2.get h b st with
  | some (.rows sz rs) => gE (Nat.beq sz z.length && Nat.ble (i + m) rs.length) (E0 (.tup []) (A2.put h b st (.rows sz (rs.take i ++ List.replicate m z ++ rs.drop (i + m)))) n)
  | _ => none
 | _ => none
theorem Good.clr {z : List V} {x : V} {h : A2} {n : Nat} {k : Res} (hg : Good (C5R z x h n) k) : B0g z x k h n := by
 unfold C5R at hg
 unfold B0g
 split at hg
 ·exact hg.one
 ·simp only
  split at hg
  ·rename_i he
   obtain ⟨h1, hg⟩ := hg.g
   simp only [Bool.and_eq_true, A9t, Nat.ble_eq] at h1
   rw [he]
   exact ⟨h1.1, h1.2, hg.one⟩
  ·exact hg.no.elim
 ·exact hg.no.elim
def C6q (nm : Nat) (rs : Option (List (List V))) (h : A2) (n : Nat) : K8 :=
 match rs with
 | some rs => gE (Nat.ble 1 rs.length) (E0 (.sl nm n 0 rs.length) (A2.put h nm n (.raw rs)) (n + 1))
 | none => none
theorem Good.raw {nm : Nat} {rs : Option (List (List V))} {h : A2} {n : Nat} {k : Res} (hg : Good (C6q nm rs h n) k) : B7z nm rs k h n := by
 unfold C6q at hg
 split at hg
 ·obtain ⟨h1, hg⟩ := hg.g
  exact ⟨Nat.le_of_ble_eq_true h1, hg.one⟩
 ·exact hg.no.elim
def C5q (x : V) (h : A2) (n : Nat) : K8 :=
 match x with
 | .sl b st 0 m => match A2.get h b st with
  | some (.raw rs) => gE (Nat.beq m rs.length) (E0 (.sl b st 0 m) (A2.put h b st (.rows 1 rs)) n)
  | _ => none
 | _ => none
theorem Good.cvr {x : V} {h : A2} {n : Nat} {k : Res} (hg : Good (C5q x h n) k) : B3N x k h n := by
 unfold C5q at hg
 unfold B3N
 split at hg
 ·simp only
  split at hg
  ·rename_i he
   obtain ⟨h1, hg⟩ := hg.g
   rw [he]
   exact ⟨Nat.eq_of_beq_eq_true h1, hg.one⟩
  ·exact hg.no.elim
 ·exact hg.no.elim
def C0R (nm : Nat) (x : V) (h : A2) (n : Nat) : K8 :=
 match x with
 | .str s => E0 (.sl nm n 0 s.length) (A2.put h nm n (.rows 1 (I7 s))) (n + 1)
 | _ => none
theorem Good.byts {nm : Nat} {x : V} {h : A2} {n : Nat} {k : Res} (hg : Good (C0R nm x h n) k) : A7a nm x k h n := by
 unfold C0R at hg
 split at hg
 ·exact hg.one
 ·exact hg.no.elim
def C5D (nm sz : Nat) (x : V) (h : A2) (n : Nat) : K8 :=
 match x with
 | .nils | .isl _ | .sl .. => E0 (.sl nm n 0 0) (A2.put h nm n (.rows sz [])) (n + 1)
 | _ => none
theorem Good.slz {nm sz : Nat} {x : V} {h : A2} {n : Nat} {k : Res} (hg : Good (C5D nm sz x h n) k) : B0i nm sz x k h n := by
 unfold C5D at hg
 split at hg
 ·exact hg.one
 ·exact hg.one
 ·exact hg.one
 ·exact hg.no.elim
def C7m (nm sz : Nat) (cs : Option (List V)) (h : A2) (n : Nat) : K8 :=
 match cs with
 | some cs => gE (Nat.beq cs.length sz) (E0 (.ptr nm n 0 0) (A2.put h nm n (.rows sz [cs])) (n + 1))
 | none => none
theorem Good.box {nm sz : Nat} {cs : Option (List V)} {h : A2} {n : Nat} {k : Res} (hg : Good (C7m nm sz cs h n) k) : B4n nm sz cs k h n := by
 unfold C7m at hg
 split at hg
 ·exact ⟨Nat.eq_of_beq_eq_true hg.g.1, hg.g.2.one⟩
 ·exact hg.no.elim
def C6e (nm sz : Nat) (rs : Option (List (List V))) (h : A2) (n : Nat) : K8 :=
 match rs with
 | some rs => E0 (.sl nm n 0 rs.length) (A2.put h nm n (.rows sz rs)) (n + 1)
 | none => none
theorem Good.row {nm sz : Nat} {rs : Option (List (List V))} {h : A2} {n : Nat} {k : Res} (hg : Good (C6e nm sz rs h n) k) : B6V nm sz rs k h n := by
 unfold C6e at hg
 split at hg
 ·exact hg.one
 ·exact hg.no.elim
def C7v (rs : Option (List (List V))) (h : A2) (n : Nat) : K8 :=
 match rs with
 | some rs => E0 (.isl rs) h n
 | none => none
theorem Good.isl {rs : Option (List (List V))} {h : A2} {n : Nat} {k : Res} (hg : Good (C7v rs h n) k) : B5i rs k h n := by
 unfold C7v at hg
 split at hg
 ·exact hg.one
 ·exact hg.no.elim
def C0I (h : Option A2) (n : Nat) : K8 :=
 match h with
 | some h => E0 .undef h n
 | none => none
theorem Good.heap {h : Option A2} {n : Nat} {k : Res} (hg : Good (C0I h n) k) : A6Z h k n := by
 unfold C0I at hg
 split at hg
 ·exact hg.one
 ·exact hg.no.elim
def C3v (L nm sz : Nat) (s : V) (xs : Option (List (List V))) (h : A2) (n : Nat) : K8 :=
 match xs with
 | none => none
 | some xs => gE (B1R xs sz) (match s with
  | .nils => gE (Nat.ble xs.length L) (E0 (.sl nm n 0 xs.length) (A2.put h nm n (.rows sz xs)) (n + 1))
  | .sl b st i m => match A2.get h b st with
   | some (.rows sz' rs) => gE (Nat.beq sz' sz && Nat.ble (i + m) rs.length && Nat.ble (m + xs.length) L)
     (E0 (.sl b n 0 (m + xs.length)) (A2.put h b n (.rows sz ((rs.drop i).take m ++ xs))) (n + 1))
   | _ => none
  | _ => none)
theorem Good.app {L nm sz : Nat} {s : V} {xs : Option (List (List V))} {h : A2} {n : Nat} {k : Res} (hg : Good (C3v L nm sz s xs h n) k) : A5L L nm sz s xs k h n := by
 unfold C3v at hg
 split at hg
 ·exact hg.no.elim
 ·obtain ⟨h0, hg⟩ := hg.g
  unfold A5L
  refine ⟨A3Q h0, ?_⟩
  split at hg
  ·exact ⟨Nat.le_of_ble_eq_true hg.g.1, hg.g.2.one⟩
  ·simp only
   split at hg
   ·rename_i he
    obtain ⟨h1, hg⟩ := hg.g
    simp only [Bool.and_eq_true, A9t, Nat.ble_eq] at h1
    rw [he]
    exact ⟨h1.1.1, h1.1.2, h1.2, hg.one⟩
   ·exact hg.no.elim
  ·exact hg.no.elim
def C1A (sz : Nat) (d : V) (xs : Option (List (List V))) (h : A2) (n : Nat) : K8 :=
 match xs with
 | none => none
 | some xs => gE (B1R xs sz) (match d with
  | .nils => E0 (.int .i64 0) h n
  | .sl b st i m => match A2.get h b st with
   | some (.rows sz' rs) => gE (Nat.beq sz' sz && Nat.ble (i + m) rs.length)
     (E0 (.int .i64 (min xs.length m : Nat)) (A2.put h b st (.rows sz (rs.take i ++ xs.take (min xs.length m) ++ rs.drop (i + min xs.length m)))) n)
   | _ => none
  | _ => none)
theorem Good.copy {sz : Nat} {d : V} {xs : Option (List (List V))} {h : A2} {n : Nat} {k : Res} (hg : Good (C1A sz d xs h n) k) : A4I sz d xs k h n := by
 unfold C1A at hg
 split at hg
 ·exact hg.no.elim
 ·obtain ⟨h0, hg⟩ := hg.g
  unfold A4I
  refine ⟨A3Q h0, ?_⟩
  split at hg
  ·exact hg.one
  ·simp only
   split at hg
   ·rename_i he
    obtain ⟨h1, hg⟩ := hg.g
    simp only [Bool.and_eq_true, A9t, Nat.ble_eq] at h1
    rw [he]
    exact ⟨h1.1, h1.2, hg.one⟩
   ·exact hg.no.elim
  ·exact hg.no.elim
def C0U (nm : Nat) (z : List V) (x : V) (h : A2) (n : Nat) : K8 :=
 match x with
 | .int .i64 m => gE (zle 0 m && zle m 137438953472) (E0 (.sl nm n 0 m.toNat) (A2.put h nm n (.rows z.length (List.replicate m.toNat z))) (n + 1))
 | _ => none
theorem Good.mksl {nm : Nat} {z : List V} {x : V} {h : A2} {n : Nat} {k : Res} (hg : Good (C0U nm z x h n) k) : B0a nm z x k h n := by
 unfold C0U at hg
 split at hg
 ·obtain ⟨h1, hg⟩ := hg.g
  simp only [Bool.and_eq_true, O8] at h1
  exact ⟨h1.1, h1.2, hg.one⟩
 ·exact hg.no.elim
def C6r (sz : Nat) (x : V) (lo hi : Option V) (h : A2) (n : Nat) : K8 :=
 match x with
 | .sl b st i m => match F0 0 lo, F0 m hi with
  | some l, some u => gE ((match A8n (A2.get h b st) with | some s => Nat.beq s sz | none => false) && zle 0 l && zle l u && zle u m) (E0 (.sl b st (i + l.toNat) (u - l).toNat) h n)
  | _, _ => none
 | .isl es => match F0 0 lo, F0 es.length hi with
  | some l, some u => gE (B1R es sz && zle 0 l && zle l u && zle u es.length) (E0 (.isl ((es.drop l.toNat).take (u - l).toNat)) h n)
  | _, _ => none
 | .nils => match F0 0 lo, F0 0 hi with
  | some l, some u => gE (zeq l 0 && zeq u 0) (E0 .nils h n)
  | _, _ => none
 | _ => none
theorem Good.slc {sz : Nat} {x : V} {lo hi : Option V} {h : A2} {n : Nat} {k : Res} (hg : Good (C6r sz x lo hi h n) k) : A7V sz x lo hi k h n := by
 unfold C6r at hg
 unfold A7V
 split at hg
 ·simp only
  split at hg
  ·rename_i h1 h2
   obtain ⟨h0, hg⟩ := hg.g
   simp only [Bool.and_eq_true, O8] at h0
   rw [h1, h2]
   refine ⟨?_, h0.1.1.2, h0.1.2, h0.2, hg.one⟩
   have c := h0.1.1.1
   split at c
   ·rename_i s hs; rw [hs, Nat.eq_of_beq_eq_true c]
   ·cases c
  ·exact hg.no.elim
 ·simp only
  split at hg
  ·rename_i h1 h2
   obtain ⟨h0, hg⟩ := hg.g
   simp only [Bool.and_eq_true, O8] at h0
   rw [h1, h2]
   exact ⟨A3Q h0.1.1.1, h0.1.1.2, h0.1.2, h0.2, hg.one⟩
  ·exact hg.no.elim
 ·simp only
  split at hg
  ·rename_i h1 h2
   obtain ⟨h0, hg⟩ := hg.g
   simp only [Bool.and_eq_true, B0x] at h0
   rw [h1, h2]
   exact ⟨h0.1, h0.2, hg.one⟩
  ·exact hg.no.elim
 ·exact hg.no.elim
def C5y (x : V) (lo hi : Option V) (h : A2) (n : Nat) : K8 :=
 match x with
 | .str s => match F0 0 lo, F0 s.length hi with
  | some l, some u => gE (zle 0 l && zle l u && zle u s.length) (E0 (.str ((s.drop l.toNat).take (u - l).toNat)) h n)
  | _, _ => none
 | _ => none
theorem Good.sls {x : V} {lo hi : Option V} {h : A2} {n : Nat} {k : Res} (hg : Good (C5y x lo hi h n) k) : B0h x lo hi k h n := by
 unfold C5y at hg
 unfold B0h
 split at hg
 ·simp only
  split at hg
  ·rename_i h1 h2
   obtain ⟨h0, hg⟩ := hg.g
   simp only [Bool.and_eq_true, O8] at h0
   rw [h1, h2]
   exact ⟨h0.1.1, h0.1.2, h0.2, hg.one⟩
  ·exact hg.no.elim
 ·exact hg.no.elim
def A9p (k : V) : List (V × V) → Bool
 | [] => true
 | e :: r => (A0V k e.1).isSome && A9p k r
theorem A3R {k : V} : ∀ {l : List (V × V)}, A9p k l = true → A0c k l
 | [], _ => trivial
 | _ :: _, h => by
  simp only [A9p, Bool.and_eq_true] at h
  exact ⟨h.1, A3R h.2⟩
def C1I (kd : Nat) (z : V) (ok : Bool) (m key : V) (h : A2) (n : Nat) : K8 :=
 match m with
 | .nilm => gE (t6 kd key) (E0 (A7Z z ok none) h n)
 | .mp b st => match A2.get h b st with
  | some (.map es) => gE (t6 kd key && A9p key es) (E0 (A7Z z ok (R0 key es)) h n)
  | _ => none
 | _ => none
theorem Good.look {kd : Nat} {z : V} {ok : Bool} {m key : V} {h : A2} {n : Nat} {k : Res} (hg : Good (C1I kd z ok m key h n) k) : A4x kd z ok m key k h n := by
 unfold C1I at hg
 unfold A4x
 split at hg
 ·exact ⟨hg.g.1, hg.g.2.one⟩
 ·simp only
  split at hg
  ·rename_i he
   obtain ⟨h1, hg⟩ := hg.g
   simp only [Bool.and_eq_true] at h1
   rw [he]
   exact ⟨h1.1, A3R h1.2, hg.one⟩
  ·exact hg.no.elim
 ·exact hg.no.elim
def C0Q (kd : Nat) (m key v : V) (h : A2) (n : Nat) : K8 :=
 match m with
 | .mp b st => match A2.get h b st with
  | some (.map es) => gE (t6 kd key && A9p key es) (E0 .undef (A2.put h b st (.map (A3H key v es))) n)
  | _ => none
 | _ => none
theorem Good.mput {kd : Nat} {m key v : V} {h : A2} {n : Nat} {k : Res} (hg : Good (C0Q kd m key v h n) k) : A8m kd m key v k h n := by
 unfold C0Q at hg
 unfold A8m
 split at hg
 ·simp only
  split at hg
  ·rename_i he
   obtain ⟨h1, hg⟩ := hg.g
   simp only [Bool.and_eq_true] at h1
   rw [he]
   exact ⟨h1.1, A3R h1.2, hg.one⟩
  ·exact hg.no.elim
 ·exact hg.no.elim
def C2b (kd : Nat) (m key : V) (h : A2) (n : Nat) : K8 :=
 match m with
 | .nilm => gE (t6 kd key) (E0 (.tup []) h n)
 | .mp b st => match A2.get h b st with
  | some (.map es) => gE (t6 kd key && A9p key es) (E0 (.tup []) (A2.put h b st (.map (B7T key es))) n)
  | _ => none
 | _ => none
theorem Good.mdel {kd : Nat} {m key : V} {h : A2} {n : Nat} {k : Res} (hg : Good (C2b kd m key h n) k) : A6V kd m key k h n := by
 unfold C2b at hg
 unfold A6V
 split at hg
 ·exact ⟨hg.g.1, hg.g.2.one⟩
 ·simp only
  split at hg
  ·rename_i he
   obtain ⟨h1, hg⟩ := hg.g
   simp only [Bool.and_eq_true] at h1
   rw [he]
   exact ⟨h1.1, A3R h1.2, hg.one⟩
  ·exact hg.no.elim
 ·exact hg.no.elim
abbrev I3 := FuncId → List V → A2 → Nat → K8
def C1U (P : Program) (C : I3) (f : V) (xs : List V) (h : A2) (n : Nat) : K8 :=
 match f with
 | .fn g cs => gE (F6 P g) (C g (xs ++ cs) h n)
 | _ => none
def C7z (fn neg : Bool) (x : V) (h : A2) (n : Nat) : K8 :=
 match fn, x with
 | false, .nils => E0 (.bool !neg) h n
 | false, .isl (_ :: _) => E0 (.bool neg) h n
 | false, .sl _ _ _ (_ + 1) => E0 (.bool neg) h n
 | true, .fn _ _ => E0 (.bool neg) h n
 | true, .cst .nilFunc => E0 (.bool !neg) h n
 | _, _ => none
theorem Good.eqn {fn neg : Bool} {x : V} {h : A2} {n : Nat} {k : Res} (hg : Good (C7z fn neg x h n) k) : A3C fn neg x k h n := by
 unfold C7z at hg
 split at hg
 ·exact hg.one
 ·exact ⟨hg.one, fun e => by cases e⟩
 ·exact ⟨hg.one, fun e => by cases e⟩
 ·exact hg.one
 ·exact hg.one
 ·exact hg.no.elim
def C0Y (sz : Nat) (cs : Option (List V)) (h : A2) (n : Nat) : K8 :=
 match cs with
 | some cs => bif Nat.beq cs.length sz then E0 (.iptr [cs] 0 0) h n else none
 | none => none
theorem Good.boxi {sz : Nat} {cs : Option (List V)} {h : A2} {n : Nat} {k : Res} (hg : Good (C0Y sz cs h n) k) : A8q sz cs k h n := by
 unfold C0Y at hg
 unfold A8q
 split at hg
 ·rename_i cs
  cases hb : Nat.beq cs.length sz with
  | true => rw [hb] at hg; exact ⟨Nat.eq_of_beq_eq_true hb, hg.one⟩
  | false => rw [hb] at hg; exact hg.no.elim
 ·exact hg.no.elim
def B7b (m : Nat) (agg : Bool) (x : V) (h : A2) (n : Nat) : K8 :=
 match x with
 | .iptr es i j => A0Q (B8D es i fun row => F5 row j m agg) h n
 | _ => none
theorem Good.loadi {m : Nat} {agg : Bool} {x : V} {h : A2} {n : Nat} {k : Res} (hg : Good (B7b m agg x h n) k) : A0I m agg x k h n := by
 unfold B7b at hg
 unfold A0I
 split at hg
 ·exact hg.opt
 ·exact hg.no.elim
def exO (P : Program) (C : I3) (s : St) : AO → K8
 | .mov x => E0 (s.ev x) s.h s.n
 | .pick c a b => A0Q (B6p (s.ev c) (s.ev a) (s.ev b)) s.h s.n
 | .nilck x => A0Q (B1E (s.ev x)) s.h s.n
 | .box nm sz x => C7m nm sz (U3 (s.ev x)) s.h s.n
 | .build z ps => A0Q ((w8 s z ps).map .agg) s.h s.n
 | .mkrow nm sz xs => C6e nm sz (F8 sz s xs) s.h s.n
 | .mkisl sz xs => C7v (F8 sz s xs) s.h s.n
 | .load m agg x => A0Q (P5 s.h (s.ev x) m agg) s.h s.n
 | .store m x v => C0I (B1v s.h (s.ev x) (s.ev v) m) s.n
 | .faddr off x => A0Q (B0E off (s.ev x)) s.h s.n
 | .iaddr sz x i => B7u sz (s.ev x) (s.ev i) s.h s.n
 | .iaddrA len sz x i => B4v len sz (s.ev x) (s.ev i) s.h s.n
 | .fld off m agg x => A0Q (C1C off m agg (s.ev x)) s.h s.n
 | .idx x i => C6V (s.ev x) (s.ev i) s.h s.n
 | .ext i x => A0Q (C0Z i (s.ev x)) s.h s.n
 | .bin op x y => C5H op (s.ev x) (s.ev y) s.h s.n
 | .binw op x y => A0Q (B1m op (s.ev x) (s.ev y)) s.h s.n
 | .eqp kind neg x y => A0Q (bif A9F kind (s.ev x) then B7e neg (s.ev x) (s.ev y) else none) s.h s.n
 | .eqa neg t x y => A0Q (C1P neg t (s.ev x) (s.ev y)) s.h s.n
 | .un op x => unE op (s.ev x) s.h s.n
 | .negw x => A0Q (B2T (s.ev x)) s.h s.n
 | .conv j x => A0Q (B5e j (s.ev x)) s.h s.n
 | .cap0 x => A0Q (B5u (s.ev x)) s.h s.n
 | .grw _ _ _ _ | .rgm _ _ | .nxm _ | .ent _ => none
 | .bst x => A0Q (B4U (n6 s.h (s.ev x))) s.h s.n
 | .byts nm x => C0R nm (s.ev x) s.h s.n
 | .mkraw nm xs => C6q nm (F8 1 s xs) s.h s.n
 | .cvr x => C5q (s.ev x) s.h s.n
 | .isnil neg x => A0Q (B0X neg (s.ev x)) s.h s.n
 | .len kind x => A0Q (C2m s.h kind (s.ev x)) s.h s.n
 | .lenc m => E0 (.int .i64 m) s.h s.n
 | .mm mx xs => A0Q (mmV mx (xs.map s.ev)) s.h s.n
 | .app nm sz b x => C3v 137438953472 nm sz (s.ev b) (A1c s.h (s.ev x)) s.h s.n
 | .apb L nm sz b x => C3v L nm sz (s.ev b) (A1c s.h (s.ev x)) s.h s.n
 | .copy sz d x => C1A sz (s.ev d) (A1c s.h (s.ev x)) s.h s.n
 | .mksl nm z x => C0U nm z (s.ev x) s.h s.n
 | .slc sz x lo hi => C6r sz (s.ev x) (lo.map s.ev) (hi.map s.ev) s.h s.n
 | .sls x lo hi => C5y (s.ev x) (lo.map s.ev) (hi.map s.ev) s.h s.n
 | .mkfn f xs => E0 (.fn f (xs.map s.ev)) s.h s.n
 | .mkmap nm => E0 (.mp nm s.n) (A2.put s.h nm s.n (.map [])) (s.n + 1)
 | .look kd z ok m x => C1I kd z ok (s.ev m) (s.ev x) s.h s.n
 | .mput kd m x v => C0Q kd (s.ev m) (s.ev x) (s.ev v) s.h s.n
 | .mdel kd m x => C2b kd (s.ev m) (s.ev x) s.h s.n
 | .sh l x y => shE l (s.ev x) (s.ev y) s.h s.n
 | .idxA len sz m agg x i => C1D len sz m agg (s.ev x) (s.ev i) s.h s.n
 | .clr z x => C5R z (s.ev x) s.h s.n
 | .slz nm sz x => C5D nm sz (s.ev x) s.h s.n
 | .call f xs => C f (xs.map s.ev) s.h s.n
 | .callp f xs => C f (xs.map s.ev) s.h s.n
 | .tas t x => A0Q (C0S t (s.ev x)) s.h s.n
 | .mki t x => A0Q ((unV (s.ev x)).map fun u => .cst (.iface t u)) s.h s.n
 | .pan _ => none
 | .boxi sz x => C0Y sz (U3 (s.ev x)) s.h s.n
 | .loadi m agg x => B7b m agg (s.ev x) s.h s.n
 | .callv f xs => C1U P C (s.ev f) (xs.map s.ev) s.h s.n
 | .pcall .. => none
 | .eqn fn neg x => C7z fn neg (s.ev x) s.h s.n
 | .bad => none
def G7 (P : Program) (C : I3) : Prop := ∀ f xs h n k, Good (C f xs h n) k → A4 P f xs h n k
theorem C0n {P : Program} {C : I3} (hC : G7 P C) {s : St} {o : AO} {k : Res} (hg : Good (exO P C s o) k) : B0 P PK o s k := by
 cases o <;> simp only [exO] at hg <;> simp only [B0]
 case mov => exact hg.one
 case pick => exact hg.opt
 case nilck => exact hg.opt
 case box => exact hg.box
 case build => exact hg.opt
 case mkrow => exact hg.row
 case mkisl => exact hg.isl
 case load => exact hg.opt
 case store => exact hg.heap
 case faddr => exact hg.opt
 case iaddr => exact hg.iaddr
 case iaddrA => exact hg.iaddrA
 case fld => exact hg.opt
 case idx => exact hg.idx
 case ext => exact hg.opt
 case bin => exact hg.bin
 case binw => exact hg.opt
 case eqp => exact hg.opt
 case eqa => exact hg.opt
 case un => exact hg.un
 case negw => exact hg.opt
 case conv => exact hg.opt
 case bst => exact hg.opt
 case cap0 => exact hg.opt
 case grw => exact hg.no.elim
 case rgm => exact hg.no.elim
 case nxm => exact hg.no.elim
 case ent => exact hg.no.elim
 case byts => exact hg.byts
 case mkraw => exact hg.raw
 case cvr => exact hg.cvr
 case isnil => exact hg.opt
 case len => exact hg.opt
 case lenc => exact hg.one
 case mm => exact hg.opt
 case app => exact hg.app
 case apb => exact hg.app
 case copy => exact hg.copy
 case mksl => exact hg.mksl
 case slc => exact hg.slc
 case sls => exact hg.sls
 case mkfn => exact hg.one
 case mkmap => exact hg.one
 case look => exact hg.look
 case mput => exact hg.mput
 case mdel => exact hg.mdel
 case sh => exact hg.sh
 case idxA => exact hg.idxA
 case clr => exact hg.clr
 case slz => exact hg.slz
 case call => exact hC _ _ _ _ _ hg
 case callp => exact (hC _ _ _ _ _ hg).toP
 case boxi => exact hg.boxi
 case tas => exact hg.opt
 case mki => exact hg.opt
 case pan => exact hg.no.elim
 case loadi => exact hg.loadi
 case callv =>
  unfold C1U at hg
  split at hg
  ·rename_i g cs he
   rw [he]
   exact ⟨hg.g.1, hC _ _ _ _ _ hg.g.2⟩
  ·exact hg.no.elim
 case pcall => exact hg.no.elim
 case eqn => exact hg.eqn
 case bad => exact hg.no
def bEq : Bool → Bool → Bool
 | true, true | false, false => true
 | _, _ => false
theorem C3l {a b : Bool} (h : bEq a b = true) : a = b := by cases a <;> cases b <;> first | rfl | cases h
def C1B : Value → Value → Bool
 | .nilIface, .nilIface => true
 | .nilFunc, .nilFunc => true
 | _, _ => false
theorem C1p {a b : Value} (h : C1B a b = true) : a = b := by
 unfold C1B at h
 split at h
 ·rfl
 ·rfl
 ·cases h
mutual
def V.beq : V → V → Bool
 | .undef, .undef => true
 | .bool a, .bool b => bEq a b
 | .int k n, .int k' n' => kEq k k' && zeq n n'
 | .str a, .str b => O3 a b
 | .agg a, .agg b => V.beqL a b
 | .tup a, .tup b => V.beqL a b
 | .nilp, .nilp => true
 | .ptr b st i j, .ptr b' st' i' j' => Nat.beq b b' && (Nat.beq st st' && (Nat.beq i i' && Nat.beq j j'))
 | .nils, .nils => true
 | .sl b st i j, .sl b' st' i' j' => Nat.beq b b' && (Nat.beq st st' && (Nat.beq i i' && Nat.beq j j'))
 | .isl a, .isl b => V.beqLL a b
 | .iptr a i j, .iptr b i' j' => V.beqLL a b && (Nat.beq i i' && Nat.beq j j')
 | .nilm, .nilm => true
 | .mp b st, .mp b' st' => Nat.beq b b' && Nat.beq st st'
 | .fn f cs, .fn g ds => Nat.beq f g && V.beqL cs ds
 | .err, .err => true
 | .cst v, .cst w => C1B v w
 | .anyi k, .anyi k' => kEq k k'
 | _, _ => false
def V.beqL : List V → List V → Bool
 | [], [] => true
 | a :: r, b :: s => V.beq a b && V.beqL r s
 | _, _ => false
def V.beqLL : List (List V) → List (List V) → Bool
 | [], [] => true
 | a :: r, b :: s => V.beqL a b && V.beqLL r s
 | _, _ => false
end
mutual
theorem V.beq_eq : ∀ {a b : V}, V.beq a b = true → a = b
 | .undef, b, h => by cases b <;> first | rfl | simp [V.beq] at h
 | .bool a, b, h => by
  cases b <;> simp only [V.beq, Bool.false_eq_true] at h
  rw [C3l h]
 | .int k n, b, h => by
  cases b <;> simp only [V.beq, Bool.false_eq_true, Bool.and_eq_true] at h
  rw [B3V.1 h.1, B0x.1 h.2]
 | .str a, b, h => by
  cases b <;> simp only [V.beq, Bool.false_eq_true] at h
  rw [A1x.1 h]
 | .agg a, b, h => by
  cases b <;> simp only [V.beq, Bool.false_eq_true] at h
  rw [V.beqL_eq h]
 | .tup a, b, h => by
  cases b <;> simp only [V.beq, Bool.false_eq_true] at h
  rw [V.beqL_eq h]
 | .nilp, b, h => by cases b <;> first | rfl | simp [V.beq] at h
 | .ptr b st i j, x, h => by
  cases x <;> simp only [V.beq, Bool.false_eq_true, Bool.and_eq_true, A9t] at h
  obtain ⟨rfl, rfl, rfl, rfl⟩ := h; rfl
 | .nils, b, h => by cases b <;> first | rfl | simp [V.beq] at h
 | .sl b st i j, x, h => by
  cases x <;> simp only [V.beq, Bool.false_eq_true, Bool.and_eq_true, A9t] at h
  obtain ⟨rfl, rfl, rfl, rfl⟩ := h; rfl
 | .isl a, b, h => by
  cases b <;> simp only [V.beq, Bool.false_eq_true] at h
  rw [V.beqLL_eq h]
 | .iptr a i j, b, h => by
  cases b <;> simp only [V.beq, Bool.false_eq_true, Bool.and_eq_true, A9t] at h
  obtain ⟨h1, rfl, rfl⟩ := h; rw [V.beqLL_eq h1]
 | .nilm, b, h => by cases b <;> first | rfl | simp [V.beq] at h
 | .mp b st, x, h => by
  cases x <;> simp only [V.beq, Bool.false_eq_true, Bool.and_eq_true, A9t] at h
  obtain ⟨rfl, rfl⟩ := h; rfl
 | .fn f cs, x, h => by
  cases x <;> simp only [V.beq, Bool.false_eq_true, Bool.and_eq_true, A9t] at h
  obtain ⟨rfl, h1⟩ := h; rw [V.beqL_eq h1]
 | .cst v, b, h => by
  cases b <;> simp only [V.beq, Bool.false_eq_true] at h
  rw [C1p h]
 | .err, b, h => by cases b <;> first | rfl | simp [V.beq] at h
 | .anyi k, b, h => by
  cases b <;> simp only [V.beq, Bool.false_eq_true] at h
  rw [B3V.1 h]
theorem V.beqL_eq : ∀ {a b : List V}, V.beqL a b = true → a = b
 | [], b, h => by cases b <;> first | rfl | simp [V.beqL] at h
 | x :: r, b, h => by
  cases b <;> simp only [V.beqL, Bool.false_eq_true, Bool.and_eq_true] at h
  rw [V.beq_eq h.1, V.beqL_eq h.2]
theorem V.beqLL_eq : ∀ {a b : List (List V)}, V.beqLL a b = true → a = b
 | [], b, h => by cases b <;> first | rfl | simp [V.beqLL] at h
 | x :: r, b, h => by
  cases b <;> simp only [V.beqLL, Bool.false_eq_true, Bool.and_eq_true] at h
  rw [V.beqL_eq h.1, V.beqLL_eq h.2]
end
def B8t : List (V × V) → List (V × V) → Bool
 | [], [] => true
 | a :: r, b :: s => V.beq a.1 b.1 && (V.beq a.2 b.2 && B8t r s)
 | _, _ => false
theorem B4X : ∀ {a b : List (V × V)}, B8t a b = true → a = b
 | [], [], _ => rfl
 | [], _ :: _, h => by cases h
 | _ :: _, [], h => by cases h
 | x :: r, y :: s, h => by
  simp only [B8t, Bool.and_eq_true] at h
  rw [show x = y from Prod.ext (V.beq_eq h.1) (V.beq_eq h.2.1), B4X h.2.2]
def B7p : Blk → Blk → Bool
 | .rows sz rs, .rows sz' rs' => Nat.beq sz sz' && V.beqLL rs rs'
 | .map es, .map es' => B8t es es'
 | _, _ => false
theorem B9U {a b : Blk} (h : B7p a b = true) : a = b := by
 cases a <;> cases b <;> simp only [B7p, Bool.false_eq_true, Bool.and_eq_true, A9t] at h
 ·rw [h.1, V.beqLL_eq h.2]
 ·rw [B4X h]
def C3m : A2 → A2 → Bool
 | [], [] => true
 | a :: r, b :: s => Nat.beq a.1 b.1 && (Nat.beq a.2.1 b.2.1 && (B7p a.2.2 b.2.2 && C3m r s))
 | _, _ => false
theorem B8v : ∀ {a b : A2}, C3m a b = true → a = b
 | [], [], _ => rfl
 | [], _ :: _, h => by cases h
 | _ :: _, [], h => by cases h
 | (x1, x2, x3) :: r, (y1, y2, y3) :: s, h => by
  simp only [C3m, Bool.and_eq_true, A9t] at h
  obtain ⟨rfl, rfl, h3, h4⟩ := h
  rw [B9U h3, B8v h4]
def B8l : List (Nat × V) → List (Nat × V) → Bool
 | [], [] => true
 | a :: r, b :: s => Nat.beq a.1 b.1 && (V.beq a.2 b.2 && B8l r s)
 | _, _ => false
theorem B5g : ∀ {a b : List (Nat × V)}, B8l a b = true → a = b
 | [], [], _ => rfl
 | [], _ :: _, h => by cases h
 | _ :: _, [], h => by cases h
 | (x1, x2) :: r, (y1, y2) :: s, h => by
  simp only [B8l, Bool.and_eq_true, A9t] at h
  obtain ⟨rfl, h2, h4⟩ := h
  rw [V.beq_eq h2, B5g h4]
def C2r (a b : St) : Bool := B8l a.sl b.sl && (C3m a.h b.h && Nat.beq a.n b.n)
theorem C1O {a b : St} (h : C2r a b = true) : a = b := by
 obtain ⟨a1, a2, a3⟩ := a
 obtain ⟨b1, b2, b3⟩ := b
 simp only [C2r, Bool.and_eq_true, A9t] at h
 rw [B5g h.1, B8v h.2.1, h.2.2]
def B9L (d : Option Nat) (sl : List (Nat × V)) (r : V × A2 × Nat) : St :=
 match d with
 | some i => ⟨D5 sl i r.1, r.2.1, r.2.2⟩
 | none => ⟨sl, r.2.1, r.2.2⟩
def exA (P : Program) (C : I3) (i : AI) (s : St) : Option St :=
 match i.g with
 | none => (exO P C s i.o).map (B9L i.d s.sl)
 | some (j, want) => match C8 s.sl j with
  | .bool b => bif bEq b want then (exO P C ⟨D5 s.sl j (.bool want), s.h, s.n⟩ i.o).map (B9L i.d (D5 s.sl j (.bool want))) else some (B9L i.d (D5 s.sl j (.bool !want)) (.cst Go.undef, s.h, s.n))
  | .cst u => bif A8U u then some (B9L i.d s.sl (.cst Go.undef, s.h, s.n)) else none
  | _ => none
def exV (P : Program) (C : I3) : List AI → St → Option St
 | [], s => some s
 | i :: r, s => match exA P C i s with
  | some s' => exV P C r s'
  | none => none
def B5G (P : Program) (C : I3) (s s' : St) : List (List AI) → Bool
 | [] => true
 | l :: r => match exV P C l s with
  | some s2 => C2r s2 s' && B5G P C s s' r
  | none => false
def C5I (P : Program) (C : I3) (s : St) : List (List AI) → Option St
 | [] => none
 | l :: r => match exV P C l s with
  | some s' => bif B5G P C s s' r then some s' else none
  | none => none
section
variable {P : Program} {C : I3} {k : Res}
theorem A6c {K' : St → Prop} {d : Option Nat} {sl : List (Nat × V)} {x : V × A2 × Nat} (hg : K' (B9L d sl x)) : fin d sl K' x.1 x.2.1 x.2.2 := by
 cases d <;> exact hg
theorem C0m (hC : G7 P C) {i : AI} {s s' : St} {K' : St → Prop} (hg : exA P C i s = some s') (hK : K' s') : E9 P PK i s K' := by
 have some_ : ∀ {t : St} {sl : List (Nat × V)}, (exO P C t i.o).map (B9L i.d sl) = some s' → B0 P PK i.o t (fin i.d sl K') := by
  intro t sl h
  obtain ⟨x, h1, h2⟩ := Option.map_eq_some_iff.1 h
  exact C0n hC ⟨x, h1, A6c (by rw [h2]; exact hK)⟩
 unfold exA at hg
 unfold E9
 split at hg
 ·rename_i e
  rw [e]
  exact some_ hg
 ·rename_i j want e
  rw [e]
  simp only
  split at hg
  ·rename_i b hb
   rw [hb]
   cases b <;> cases want <;> simp only [bEq, cond_true, cond_false] at hg <;> refine ⟨fun e => ?_, fun e => ?_⟩
   any_goals (cases e; done)
   ·exact some_ hg
   ·injection hg with hg; exact A6c (x := (.cst Go.undef, s.h, s.n)) (by rw [hg]; exact hK)
   ·injection hg with hg; exact A6c (x := (.cst Go.undef, s.h, s.n)) (by rw [hg]; exact hK)
   ·exact some_ hg
  ·rename_i u hu
   rw [hu]
   cases hb : A8U u with
   | false => rw [hb] at hg; cases hg
   | true =>
    rw [hb] at hg
    injection hg with hg
    exact ⟨hb, A6c (x := (.cst Go.undef, s.h, s.n)) (by rw [hg]; exact hK)⟩
  ·cases hg
theorem A9m (hC : G7 P C) {K' : St → Prop} {s' : St} (hK : K' s') : ∀ {l : List AI} {s : St}, exV P C l s = some s' → vo P PK l K' s
 | [], _, hg => by injection hg with hg; subst hg; exact hK
 | i :: r, s, hg => by
  simp only [exV] at hg
  split at hg
  ·rename_i t ht; exact C0m (K' := vo P PK r K') hC ht (A9m hC hK hg)
  ·cases hg
theorem A9H (hC : G7 P C) {K' : St → Prop} {s s' : St} (hK : K' s') : ∀ {l : List (List AI)}, B5G P C s s' l = true → A6G P PK l K' s
 | [], _ => trivial
 | l :: r, hg => by
  simp only [B5G] at hg
  split at hg
  ·rename_i t ht
   simp only [Bool.and_eq_true] at hg
   rw [C1O hg.1] at ht
   exact ⟨A9m hC hK ht, A9H hC hK hg.2⟩
  ·cases hg
theorem B7V (hC : G7 P C) {K' : St → Prop} {s s' : St} (hK : K' s') : ∀ {l : List (List AI)}, C5I P C s l = some s' → A6G P PK l K' s
 | [], h => by cases h
 | l :: r, hg => by
  simp only [C5I] at hg
  split at hg
  ·rename_i t ht
   cases hb : B5G P C s t r with
   | false => rw [hb] at hg; cases hg
   | true =>
    rw [hb, cond_true] at hg
    injection hg with hg
    subst hg
    exact ⟨A9m hC hK ht, A9H hC hK hb⟩
  ·cases hg
def nmB : Nat := 1000000000000
def low (f b st : Nat) : Bool := Nat.blt b nmB && Nat.ble f st
section
variable (f : Nat)
mutual
def B3F : V → V
 | .sl b st i n => bif low f b st then .sl (nmB + st) st i n else .sl b st i n
 | .ptr b st i n => bif low f b st then .ptr (nmB + st) st i n else .ptr b st i n
 | .mp b st => bif low f b st then .mp (nmB + st) st else .mp b st
 | .agg l => .agg (renL l)
 | .tup l => .tup (renL l)
 | v => v
def renL : List V → List V
 | [] => []
 | a :: r => B3F a :: renL r
end
mutual
def C0v : V → Bool
 | .sl _ st _ _ => Nat.ble f st
 | .ptr _ st _ _ => Nat.ble f st
 | .mp _ st => Nat.ble f st
 | .agg l => menL l
 | .tup l => menL l
 | .fn _ _ => true
 | _ => false
def menL : List V → Bool
 | [] => false
 | a :: r => C0v a || menL r
end
end
mutual
theorem A9h (f : Nat) : ∀ v : V, F3 v (B3F f v)
 | .sl b st i n => by rw [B3F]; cases low f b st <;> exact .sl
 | .ptr b st i n => by rw [B3F]; cases low f b st <;> exact .ptr
 | .mp b st => by rw [B3F]; cases low f b st <;> exact .mp
 | .agg l => by rw [B3F]; exact .agg (renL_same f l)
 | .tup l => by rw [B3F]; exact .tup (renL_same f l)
 | .undef => .refl _
 | .bool _ => .refl _
 | .int _ _ => .refl _
 | .str _ => .refl _
 | .nilp => .refl _
 | .nils => .refl _
 | .isl _ => .refl _
 | .iptr _ _ _ => .refl _
 | .nilm => .refl _
 | .fn _ _ => .refl _
 | .yld _ _ => .refl _
 | .cst _ => .refl _
 | .err => .refl _
 | .anyi _ => .refl _
theorem renL_same (f : Nat) : ∀ l : List V, A2Y l (renL f l)
 | [] => by rw [renL]; trivial
 | a :: r => by rw [renL]; exact ⟨A9h f a, renL_same f r⟩
end
def C9l (f : Nat) : Blk → Blk
 | .rows sz rs => .rows sz (rs.map (renL f))
 | .map es => .map es
 | b => b
theorem B9b (f : Nat) (b : Blk) : Q4 b (C9l f b) := by
 cases b with
 | map es => exact .refl _
 | loop => exact .refl _
 | mapb => exact .refl _
 | iter => exact .refl _
 | raw => exact .refl _
 | rows sz rs =>
  refine .rows (by simp) fun i r2 h => ?_
  rw [List.getElem?_map] at h
  obtain ⟨r, h1, h2⟩ := Option.map_eq_some_iff.1 h
  exact ⟨r, h1, h2 ▸ renL_same f r⟩
def C9F (f : Nat) : Blk → Bool
 | .rows _ rs => rs.any (menL f)
 | .map es => es.any fun p => C0v f p.1 || C0v f p.2
 | .loop .. => true
 | .mapb .. => true
 | .iter .. => true
 | .raw .. => true
def B9X (f : Nat) : A2 → Nat → Nat
 | [], b => b
 | e :: r, b => bif Nat.beq e.1 b then (bif low f e.1 e.2.1 then nmB + e.2.1 else b) else B9X f r b
def C9w : Option Nat → Nat → Bool
 | some m, st => Nat.ble m st
 | none, _ => false
def B6X (f : Nat) (d : Option Nat) (h0 : A2) : A2 → A2
 | [] => []
 | e :: r => bif C9w d e.2.1 then B6X f d h0 r else (B9X f h0 e.1, e.2.1, C9l f e.2.2) :: B6X f d h0 r
theorem A6q (f : Nat) (d : Option Nat) (h0 : A2) : ∀ h : A2, (∀ e ∈ h, e ∈ h0) → i4 (B9X f h0) h0 (B6X f d h0 h)
 | [], _ => trivial
 | e :: r, hm => by
  simp only [B6X]
  have := A6q f d h0 r fun x hx => hm x (List.mem_cons_of_mem _ hx)
  cases C9w d e.2.1
  ·exact ⟨⟨e, hm e List.mem_cons_self, rfl, rfl, B9b f _⟩, this⟩
  ·exact this
def C2z (f : Nat) (s0 : List (Nat × V)) : List (Nat × V) → List (Nat × V)
 | [] => []
 | p :: r => (p.1, B3F f (C8 s0 p.1)) :: C2z f s0 r
theorem B1J (f : Nat) (s0 : List (Nat × V)) : ∀ s : List (Nat × V), A8g s0 (C2z f s0 s)
 | [] => trivial
 | p :: r => ⟨A9h f _, B1J f s0 r⟩
def D0l (f : Nat) (s : St) : St := ⟨C2z f s.sl s.sl, B6X f none s.h s.h, s.n⟩
theorem C3u (f : Nat) (s : St) : Wk s (D0l f s) := .turn (B9X f s.h) (B1J _ _ _) (A6q _ _ _ _ fun _ h => h)
def B3M (h : A2) (b : Nat) : Bool := h.any fun e => Nat.beq e.1 b
def C9Y (h : A2) : AO → Bool
 | .box nm _ _ => B3M h nm
 | .mkrow nm _ _ => B3M h nm
 | .mksl nm _ _ => B3M h nm
 | .mkmap nm => B3M h nm
 | .slz nm _ _ => B3M h nm
 | .byts nm _ => B3M h nm
 | .mkraw nm _ => B3M h nm
 | .app nm _ _ _ => B3M h nm
 | .apb _ nm _ _ _ => B3M h nm
 | _ => false
def C4I (h : A2) : List (List AI) → Bool
 | [] => false
 | l :: _ => l.any fun i => C9Y h i.o
def C5K (f : Nat) (l : List (List AI)) (s : St) : St := bif C4I s.h l then D0l f s else s
theorem C3y (f : Nat) (l : List (List AI)) (s : St) : Wk s (C5K f l s) := by
 unfold C5K
 cases C4I s.h l
 ·exact .refl _
 ·exact C3u f s
def B8V (f : Nat) (x : V × A2 × Nat) : V × A2 × Nat :=
 bif x.2.1.any (fun e => Nat.ble f e.2.1) then
  (bif C0v f x.1 || x.2.1.any (fun e => Nat.blt e.2.1 f && C9F f e.2.2) then (B3F f x.1, B6X f none x.2.1 x.2.1, x.2.2) else (x.1, B6X f (some f) x.2.1 x.2.1, x.2.2))
 else x
theorem C3x (f : Nat) (x : V × A2 × Nat) : Wk ⟨[(0, x.1)], x.2.1, x.2.2⟩ ⟨[(0, (B8V f x).1)], (B8V f x).2.1, (B8V f x).2.2⟩ := by
 unfold B8V
 cases x.2.1.any (fun e => Nat.ble f e.2.1)
 ·exact .refl _
 ·simp only [cond_true]
  cases C0v f x.1 || x.2.1.any (fun e => Nat.blt e.2.1 f && C9F f e.2.2)
  ·exact .turn (B9X f x.2.1) ⟨.refl _, trivial⟩ (A6q _ _ _ _ fun _ h => h)
  ·exact .turn (B9X f x.2.1) ⟨A9h f _, trivial⟩ (A6q _ _ _ _ fun _ h => h)
theorem B9k {P : Program} {g : FuncId} {xs : List V} {h : A2} {n : Nat} {k : Res} {o : K8} (ho : ∀ k, Good o k → A4 P g xs h n k) (hg : Good (o.map (B8V n)) k) : A4 P g xs h n k := by
 obtain ⟨y, h1, h2⟩ := hg
 obtain ⟨x, h3, rfl⟩ := Option.map_eq_some_iff.1 h1
 refine (ho (fun r h' n' => (r, h', n') = x) ⟨x, h3, rfl⟩).wk ?_
 rintro r h' n' rfl
 exact ⟨_, _, _, C3x n (r, h', n'), h2⟩
def C2R (rs : List RV) (s : St) : K8 :=
 match A2B s rs with
 | some vs => E0 (A6W vs) s.h s.n
 | none => none
def exG (P : Program) (C : I3) (rs : List RV) (f : Nat) : Nat → List AItem → St → K8
 | 0, _, _ => none
 | _ + 1, [], s => C2R rs s
 | m + 1, .code .skip :: k, s => exG P C rs f m k s
 | m + 1, .code (.ops l) :: k, s => match C5I P C (C5K f l s) l with
  | some s' => exG P C rs f m k s'
  | none => none
 | _ + 1, .code .bad :: _, _ => none
 | m + 1, .code (.seq a b) :: k, s => exG P C rs f m (.code a :: .code b :: k) s
 | m + 1, .code (.cond x a b) :: k, s => match s.ev x with
  | .bool true => exG P C rs f m (.code a :: k) s
  | .bool false => exG P C rs f m (.code b :: k) s
  | _ => none
 | m + 1, .code (.block id a) :: k, s => exG P C rs f m (.code a :: .blk id :: k) s
 | m + 1, .code (.loop a) :: k, s => exG P C rs f m (.code a :: .lp a :: k) s
 | m + 1, .code (.exit id) :: k, s => match Nat.beq 999999999 id, R9 id k with
  | false, some k' => exG P C rs f m k' s
  | _, _ => none
 | _ + 1, .code .ret :: _, s => C2R rs s
 | m + 1, .blk _ :: k, s => exG P C rs f m k s
 | m + 1, .lp a :: k, s => exG P C rs f m (.code a :: .lp a :: k) s
 | m + 1, .code (.dfr d) :: k, s => exG P C rs f m k ⟨D5 s.sl d .undef, s.h, s.n⟩
 | _ + 1, .code (.rng ..) :: _, _ => none
 | _ + 1, .beg :: _, _ => none
theorem B3s {N : Nat} {rs : List RV} {s : St} (hg : Good (C2R rs s) k) : B4d ⟨P, N, rs, k, none, none⟩ s := by
 unfold C2R at hg
 unfold B4d
 split at hg
 ·rename_i vs hvs
  simp only
  rw [hvs]
  exact hg.one
 ·exact hg.no.elim
theorem J1 (hC : G7 P C) {N : Nat} {rs : List RV} {f : Nat} : ∀ {m : Nat} {l : List AItem} {s : St}, Good (exG P C rs f m l s) k → Run ⟨P, N, rs, k, none, none⟩ l s
 | 0, _, _, hg => hg.no.elim
 | m + 1, [], s, hg => Run.go 1 (B3s hg)
 | m + 1, .code .skip :: l, s, hg => Run.go 1 (J1 hC (m := m) hg)
 | m + 1, .code (.ops is) :: l, s, hg => by
  simp only [exG] at hg
  split at hg
  ·rename_i t ht; exact Run.wk (C3y f is s) (Run.go 1 (B7V hC (J1 hC (m := m) hg) ht))
  ·exact hg.no.elim
 | m + 1, .code .bad :: _, _, hg => hg.no.elim
 | m + 1, .code (.seq a b) :: l, s, hg => Run.go 1 (J1 hC (m := m) hg)
 | m + 1, .code (.cond x a b) :: l, s, hg => by
  simp only [exG] at hg
  split at hg
  ·rename_i hv; exact fun fn bs hrs => OK.cond hv (fun _ => J1 hC (m := m) hg fn bs hrs) (fun e => by cases e)
  ·rename_i hv; exact fun fn bs hrs => OK.cond hv (fun e => by cases e) (fun _ => J1 hC (m := m) hg fn bs hrs)
  ·exact hg.no.elim
 | m + 1, .code (.block id a) :: l, s, hg => Run.go 1 (J1 hC (m := m) hg)
 | m + 1, .code (.loop a) :: l, s, hg => Run.loop (J1 hC (m := m) hg)
 | m + 1, .code (.exit id) :: l, s, hg => by
  simp only [exG] at hg
  split at hg
  ·rename_i k' hsc hk; exact fun fn bs hrs => OK.exit hsc hk (J1 hC (m := m) hg fn bs hrs)
  ·exact hg.no.elim
 | m + 1, .code .ret :: _, s, hg => Run.go 1 (B3s hg)
 | m + 1, .blk _ :: l, s, hg => Run.go 1 (J1 hC (m := m) hg)
 | m + 1, .lp a :: l, s, hg => Run.lp (J1 hC (m := m) hg)
 | m + 1, .code (.dfr d) :: l, s, hg => Run.go 1 (J1 hC (m := m) hg)
 | m + 1, .code (.rng ..) :: _, _, hg => hg.no.elim
 | m + 1, .beg :: _, _, hg => hg.no.elim
end
def exC (P : Program) (T : List (FuncId × Nat × AC × List RV)) (lib : I3) (m : Nat) : Nat → I3
 | 0, _, _, _, _ => none
 | d + 1, f, xs, h, n => match lib f xs h n with
  | some l => some l
  | none => match look T f with
   | some e => (gE (Nat.ble xs.length e.1) (exG P (exC P T lib m d) e.2.2 n m [.code e.2.1] ⟨B3 0 xs, h, n⟩)).map (B8V n)
   | none => none
where
 look : List (FuncId × Nat × AC × List RV) → FuncId → Option (Nat × AC × List RV)
  | [], _ => none
  | e :: r, f => bif Nat.beq e.1 f then some e.2 else look r f
def C1 (P : Program) (T : List (FuncId × Nat × AC × List RV)) : Prop := ∀ e ∈ T, B8 P e.1 = some e.2
theorem C1.nil {P : Program} : C1 P [] := fun e h => by cases h
theorem C1.cons {P : Program} {T : List (FuncId × Nat × AC × List RV)} {f N : Nat} {ac : AC} {rs : List RV} (h : B8 P f = some (N, ac, rs)) (hr : C1 P T) : C1 P ((f, N, ac, rs) :: T) := fun e he => by
 rcases List.mem_cons.1 he with rfl | he
 ·exact h
 ·exact hr e he
theorem C1.look {P : Program} : ∀ {T : List (FuncId × Nat × AC × List RV)}, C1 P T → ∀ {f : FuncId} {c}, exC.look T f = some c → B8 P f = some c
 | [], _, f, c, h => by cases h
 | e :: r, hT, f, c, h => by
  simp only [exC.look] at h
  cases hb : Nat.beq e.1 f with
  | true =>
   rw [hb] at h; injection h with h
   rw [← Nat.eq_of_beq_eq_true hb, ← h]; exact hT e List.mem_cons_self
  | false => rw [hb] at h; exact C1.look (fun e he => hT e (List.mem_cons_of_mem _ he)) h
def B8w : I3 := fun _ _ _ _ => none
theorem A0C {P : Program} : G7 P B8w := fun _ _ _ _ _ hg => hg.no.elim
theorem B2K {P : Program} {T : List (FuncId × Nat × AC × List RV)} {lib : I3} (hT : C1 P T) (hl : G7 P lib) {m : Nat} : ∀ {d : Nat}, G7 P (exC P T lib m d)
 | 0, _, _, _, _, _, hg => hg.no.elim
 | d + 1, f, xs, h, n, k, hg => by
  simp only [exC] at hg
  split at hg
  ·rename_i l he; exact hl f xs h n k (by rw [he]; exact hg)
  ·split at hg
   ·rename_i e he
    refine B9k (fun k hg => ?_) hg
    obtain ⟨h1, hg⟩ := hg.g
    exact A4.enter (N := e.1) (ac := e.2.1) (rs := e.2.2) (hT.look he) (Nat.le_of_ble_eq_true h1) (J1 (B2K hT hl) hg)
   ·exact hg.no.elim
def exR (P : Program) (T : List (FuncId × Nat × AC × List RV)) (lib : I3) (m d : Nat) (fr : Nat) (f : FuncId) (xs : List V) : Option V :=
 (exC P T lib m d f xs [] 0).map fun x => frz fr x.2.1 x.1
theorem Pure.exec {P : Program} {T : List (FuncId × Nat × AC × List RV)} {lib : I3} (hT : C1 P T) (hl : G7 P lib) {m d fr : Nat} {f : FuncId} {xs : List V} {r : V} (h : exR P T lib m d fr f xs = some r) : Pure P f xs r := by
 refine Pure.of fr (B2K (d := d) (m := m) hT hl f xs [] 0 _ ?_)
 obtain ⟨x, h1, h2⟩ := Option.map_eq_some_iff.1 h
 exact ⟨x, h1, h2⟩
def eqR (o : Option V) (r : V) : Bool :=
 match o with
 | some v => V.beq v r
 | none => false
theorem Pure.execB {P : Program} {T : List (FuncId × Nat × AC × List RV)} {lib : I3} (hT : C1 P T) (hl : G7 P lib) {m d fr : Nat} {f : FuncId} {xs : List V} {r : V} (h : eqR (exR P T lib m d fr f xs) r = true) : Pure P f xs r := by
 unfold eqR at h
 split at h
 ·rename_i v hv; exact Pure.exec hT hl (by rw [hv, V.beq_eq h])
 ·cases h
end Go.Abs
