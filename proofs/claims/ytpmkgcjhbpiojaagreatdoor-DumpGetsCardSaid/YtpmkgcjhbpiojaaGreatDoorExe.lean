/-
 Abstract code run as a program on known data: what it answers is a contract. No condition.
-/
import Derived.Test.YtpmkgcjhbpiojaaGreatDoorWk
set_option linter.unusedVariables false
set_option linter.unusedSimpArgs false
namespace Go.Abs
variable {PK : G9}
abbrev N6 := Option (V × A2 × Nat)
def E4 (v : V) (h : A2) (n : Nat) : N6 := some (v, h, n)
def A2s (o : Option V) (h : A2) (n : Nat) : N6 :=
 match o with
 | some v => E4 v h n
 | none => none
def gE (b : Bool) (r : N6) : N6 := bif b then r else none
def Good (o : N6) (k : Res) : Prop := ∃ x, o = some x ∧ k x.1 x.2.1 x.2.2
theorem Good.one {v : V} {h : A2} {n : Nat} {k : Res} (hg : Good (E4 v h n) k) : k v h n := by
 obtain ⟨l, h1, h2⟩ := hg
 injection h1 with h1
 subst h1
 exact h2
theorem Good.opt {o : Option V} {h : A2} {n : Nat} {k : Res} (hg : Good (A2s o h n) k) : F0 o k h n := by
 cases o with
 | none => obtain ⟨l, h1, _⟩ := hg; cases h1
 | some v => exact Good.one hg
theorem Good.g {b : Bool} {o : N6} {k : Res} (hg : Good (gE b o) k) : b = true ∧ Good o k := by
 cases b with
 | false => obtain ⟨l, h1, _⟩ := hg; cases h1
 | true => exact ⟨rfl, hg⟩
theorem Good.no {k : Res} (hg : Good none k) : False := by obtain ⟨l, h1, _⟩ := hg; cases h1
def B1Y (es : List (List V)) (sz : Nat) : Bool := es.all fun r => Nat.beq r.length sz
theorem A5g {es : List (List V)} {sz : Nat} (h : B1Y es sz = true) : C4 es sz := fun r hr => Nat.eq_of_beq_eq_true (List.all_eq_true.1 h r hr)
def zle (a b : Int) : Bool := match b - a with
 | .ofNat _ => true
 | .negSucc _ => false
theorem R6 {a b : Int} : zle a b = true ↔ a ≤ b := by
 unfold zle
 split
 ·rename_i m h
  have h : b - a = (m : Int) := h
  simp only [true_iff]; omega
 ·rename_i m h
  simp only [Bool.false_eq_true, false_iff]; omega
def zlt (a b : Int) : Bool := zle (a + 1) b
theorem A7l {a b : Int} : zlt a b = true ↔ a < b := by unfold zlt; rw [R6]; omega
def zeq (a b : Int) : Bool := match a, b with
 | .ofNat a, .ofNat b => Nat.beq a b
 | .negSucc a, .negSucc b => Nat.beq a b
 | _, _ => false
theorem B1b {a b : Int} : zeq a b = true ↔ a = b := by
 unfold zeq
 cases a <;> cases b <;> simp <;> omega
theorem B8G (a b : Int) : decide (a ≤ b) = zle a b := by rw [Bool.eq_iff_iff, decide_eq_true_eq, R6]
theorem B8Q (a b : Int) : decide (a < b) = zlt a b := by rw [Bool.eq_iff_iff, decide_eq_true_eq, A7l]
theorem B8j (a b : Int) : decide (a = b) = zeq a b := by rw [Bool.eq_iff_iff, decide_eq_true_eq, B1b]
def kEq : IntKind → IntKind → Bool
 | .i8, .i8 | .i16, .i16 | .i32, .i32 | .i64, .i64 | .u8, .u8 | .u16, .u16 | .u32, .u32 | .u64, .u64 => true
 | _, _ => false
theorem B3N {a b : IntKind} : kEq a b = true ↔ a = b := by cases a <;> cases b <;> simp [kEq]
def C5S (k : IntKind) (z : Int) : Bool :=
 match k with
 | .i64 => zle (-9223372036854775808) z && zle z 9223372036854775807
 | _ => true
theorem C1U {k : IntKind} {z : Int} (h : C5S k z = true) : inR k z := by
 cases k <;> simp only [C5S, inR, Bool.and_eq_true, R6] at h ⊢
 exact h
def A9Z (k : IntKind) (z : Int) (h : A2) (n : Nat) : N6 := gE (C5S k z) (E4 (B3l k z) h n)
theorem Good.arith {j : IntKind} {z : Int} {h : A2} {n : Nat} {k : Res} (hg : Good (A9Z j z h n) k) : S7 j z k h n := ⟨C1U hg.g.1, hg.g.2.one⟩
theorem B0i {a b : Nat} : Nat.beq a b = true ↔ a = b := ⟨Nat.eq_of_beq_eq_true, fun h => h ▸ Nat.beq_refl a⟩
def S0 : List UInt8 → List UInt8 → Bool
 | [], [] => true
 | a :: r, b :: s => Nat.beq a.toNat b.toNat && S0 r s
 | _, _ => false
theorem A3i : ∀ {a b : List UInt8}, S0 a b = true ↔ a = b
 | [], [] => by simp [S0]
 | [], _ :: _ => by simp [S0]
 | _ :: _, [] => by simp [S0]
 | a :: r, b :: s => by
  simp only [S0, Bool.and_eq_true, A3i, List.cons.injEq, B0i]
  rw [← UInt8.toNat_inj]
theorem A6W (a b : List UInt8) : decide (a = b) = S0 a b := by rw [Bool.eq_iff_iff, decide_eq_true_eq, A3i]
def C6c (op : BinOp) (x y : V) (h : A2) (n : Nat) : N6 :=
 match x, y with
 | .int j a, .int j' b => gE (kEq j j') (match op with
  | .add => A9Z j (a + b) h n
  | .sub => A9Z j (a - b) h n
  | .mul => A9Z j (a * b) h n
  | .quo => gE (!zeq b 0) (A9Z j (a.tdiv b) h n)
  | .rem => gE (!zeq b 0) (E4 (.int j (a.tmod b)) h n)
  | .eql => E4 (.bool (zeq a b)) h n
  | .neq => E4 (.bool (!zeq a b)) h n
  | .lss => E4 (.bool (zlt a b)) h n
  | .leq => E4 (.bool (zle a b)) h n
  | .gtr => E4 (.bool (zlt b a)) h n
  | .geq => E4 (.bool (zle b a)) h n
  | .and => E4 (.int j (R1 .and j a b)) h n
  | .or => E4 (.int j (R1 .or j a b)) h n
  | .xor => E4 (.int j (R1 .xor j a b)) h n
  | .andNot => E4 (.int j (R1 .andNot j a b)) h n
  | _ => none)
 | .str a, .str b => match op with
  | .add => gE (Nat.ble (a.length + b.length) 1099511627776) (E4 (.str (a ++ b)) h n)
  | .eql => E4 (.bool (S0 a b)) h n
  | .neq => E4 (.bool (!S0 a b)) h n
  | .lss => E4 (.bool (M0 a b)) h n
  | .geq => E4 (.bool (!M0 a b)) h n
  | .leq => E4 (.bool (M0 a b || S0 a b)) h n
  | .gtr => E4 (.bool !(M0 a b || S0 a b)) h n
  | _ => none
 | _, _ => none
theorem B8L {a b : Int} (h : (!zeq a b) = true) : a ≠ b := fun e => by
 rw [B1b.2 e] at h; cases h
theorem Good.bin {op : BinOp} {x y : V} {h : A2} {n : Nat} {k : Res} (hg : Good (C6c op x y h n) k) : T2 op x y k h n := by
 unfold C6c at hg
 split at hg
 ·rename_i j a j' b
  obtain ⟨h1, hg⟩ := hg.g
  have h1 := B3N.1 h1
  unfold T2
  refine ⟨h1, ?_⟩
  cases op <;> simp only at hg ⊢
  case add => exact hg.arith
  case sub => exact hg.arith
  case mul => exact hg.arith
  case quo => exact ⟨B8L hg.g.1, hg.g.2.arith⟩
  case rem => exact ⟨B8L hg.g.1, hg.g.2.one⟩
  case eql => rw [B8j]; exact hg.one
  case neq => rw [decide_not, B8j]; exact hg.one
  case lss => rw [B8Q]; exact hg.one
  case leq => rw [B8G]; exact hg.one
  case gtr => rw [B8Q]; exact hg.one
  case geq => rw [B8G]; exact hg.one
  case and => exact hg.one
  case or => exact hg.one
  case xor => exact hg.one
  case andNot => exact hg.one
  all_goals exact hg.no
 ·rename_i a b
  unfold T2
  cases op <;> simp only at hg ⊢
  case add => exact ⟨Nat.le_of_ble_eq_true hg.g.1, hg.g.2.one⟩
  case eql => rw [A6W]; exact hg.one
  case neq => rw [decide_not, A6W]; exact hg.one
  case lss => exact hg.one
  case geq => exact hg.one
  case leq => rw [A6W]; exact hg.one
  case gtr => rw [A6W]; exact hg.one
  all_goals exact hg.no
 ·exact hg.no.elim
def unE (op : UnOp) (x : V) (h : A2) (n : Nat) : N6 :=
 match op, x with
 | .neg, .int j a => A9Z j (0 - a) h n
 | .not, .bool b => E4 (.bool !b) h n
 | .xor, .int j a => E4 (.int j (R1 .xor j (bif j.signed then -1 else j.max) a)) h n
 | _, _ => none
theorem Good.un {op : UnOp} {x : V} {h : A2} {n : Nat} {k : Res} (hg : Good (unE op x h n) k) : unK op x k h n := by
 unfold unE at hg
 split at hg
 ·exact hg.arith
 ·exact hg.one
 ·exact hg.one
 ·exact hg.no.elim
def B7C (sz : Nat) (x i : V) (h : A2) (n : Nat) : N6 :=
 match i with
 | .int _ z => match x with
  | .sl b st i0 m => gE (zle 0 z && zlt z m && (match A8D (A2.get h b st) with | some s => Nat.beq s sz | none => false)) (E4 (.ptr b st (i0 + z.toNat) 0) h n)
  | .isl es => gE (zle 0 z && zlt z es.length && B1Y es sz) (E4 (.iptr es z.toNat 0) h n)
  | _ => none
 | _ => none
theorem Good.iaddr {sz : Nat} {x i : V} {h : A2} {n : Nat} {k : Res} (hg : Good (B7C sz x i h n) k) : A2z sz x i k h n := by
 unfold B7C at hg
 split at hg
 ·split at hg
  ·obtain ⟨h1, hg⟩ := hg.g
   simp only [Bool.and_eq_true, R6, A7l] at h1
   obtain ⟨⟨a, b⟩, c⟩ := h1
   refine ⟨a, b, ?_, hg.one⟩
   split at c
   ·rename_i s hs; rw [hs, Nat.eq_of_beq_eq_true c]
   ·cases c
  ·obtain ⟨h1, hg⟩ := hg.g
   simp only [Bool.and_eq_true, R6, A7l] at h1
   exact ⟨h1.1.1, h1.1.2, A5g h1.2, hg.one⟩
  ·exact hg.no.elim
 ·exact hg.no.elim
def B4D (len sz : Nat) (x i : V) (h : A2) (n : Nat) : N6 :=
 match i with
 | .int _ z => match x with
  | .ptr b st i0 j => gE (zle 0 z && zlt z len) (E4 (.ptr b st i0 (j + z.toNat * sz)) h n)
  | .iptr es i0 j => gE (zle 0 z && zlt z len) (E4 (.iptr es i0 (j + z.toNat * sz)) h n)
  | _ => none
 | _ => none
theorem Good.iaddrA {len sz : Nat} {x i : V} {h : A2} {n : Nat} {k : Res} (hg : Good (B4D len sz x i h n) k) : A1c len sz x i k h n := by
 unfold B4D at hg
 split at hg
 ·split at hg
  ·obtain ⟨h1, hg⟩ := hg.g
   simp only [Bool.and_eq_true, R6, A7l] at h1
   exact ⟨h1.1, h1.2, hg.one⟩
  ·obtain ⟨h1, hg⟩ := hg.g
   simp only [Bool.and_eq_true, R6, A7l] at h1
   exact ⟨h1.1, h1.2, hg.one⟩
  ·exact hg.no.elim
 ·exact hg.no.elim
def C5I (x i : V) (h : A2) (n : Nat) : N6 :=
 match x, i with
 | .str s, .int _ z => gE (zle 0 z) (A2s ((s[z.toNat]?).map fun b => .int .u8 b.toNat) h n)
 | _, _ => none
theorem Good.idx {x i : V} {h : A2} {n : Nat} {k : Res} (hg : Good (C5I x i h n) k) : B3Z x i k h n := by
 unfold C5I at hg
 split at hg
 ·exact ⟨R6.1 hg.g.1, hg.g.2.opt⟩
 ·exact hg.no.elim
def shE (left : Bool) (x y : V) (h : A2) (n : Nat) : N6 :=
 match x, y with
 | .int j a, .int _ b => gE (zle 0 b) (E4 (.int j (shZ left j a b)) h n)
 | _, _ => none
theorem Good.sh {l : Bool} {x y : V} {h : A2} {n : Nat} {k : Res} (hg : Good (shE l x y h n) k) : shK l x y k h n := by
 unfold shE at hg
 split at hg
 ·exact ⟨R6.1 hg.g.1, hg.g.2.one⟩
 ·exact hg.no.elim
def C2z (len sz m : Nat) (agg : Bool) (x i : V) (h : A2) (n : Nat) : N6 :=
 match x, i with
 | .agg cs, .int _ z => gE (zle 0 z && zlt z len) (A2s (F6 cs (z.toNat * sz) m agg) h n)
 | _, _ => none
theorem Good.idxA {len sz m : Nat} {agg : Bool} {x i : V} {h : A2} {n : Nat} {k : Res} (hg : Good (C2z len sz m agg x i h n) k) : A6C len sz m agg x i k h n := by
 unfold C2z at hg
 split at hg
 ·obtain ⟨h1, hg⟩ := hg.g
  simp only [Bool.and_eq_true, R6, A7l] at h1
  exact ⟨h1.1, h1.2, hg.opt⟩
 ·exact hg.no.elim
def C7d (z : List V) (x : V) (h : A2) (n : Nat) : N6 :=
 match x with
 | .nils => E4 (.tup []) h n
 | .sl b st i m => match A2.get h b st with
  | some (.rows sz rs) => gE (Nat.beq sz z.length && Nat.ble (i + m) rs.length) (E4 (.tup []) (A2.put h b st (.rows sz (rs.take i ++ List.replicate m z ++ rs.drop (i + m)))) n)
  | _ => none
 | _ => none
theorem Good.clr {z : List V} {x : V} {h : A2} {n : Nat} {k : Res} (hg : Good (C7d z x h n) k) : B0N z x k h n := by
 unfold C7d at hg
 unfold B0N
 split at hg
 ·exact hg.one
 ·simp only
  split at hg
  ·rename_i he
   obtain ⟨h1, hg⟩ := hg.g
   simp only [Bool.and_eq_true, B0i, Nat.ble_eq] at h1
   rw [he]
   exact ⟨h1.1, h1.2, hg.one⟩
  ·exact hg.no.elim
 ·exact hg.no.elim
def C6T (nm : Nat) (rs : Option (List (List V))) (h : A2) (n : Nat) : N6 :=
 match rs with
 | some rs => gE (Nat.ble 1 rs.length) (E4 (.sl nm n 0 rs.length) (A2.put h nm n (.raw rs)) (n + 1))
 | none => none
theorem Good.raw {nm : Nat} {rs : Option (List (List V))} {h : A2} {n : Nat} {k : Res} (hg : Good (C6T nm rs h n) k) : B7U nm rs k h n := by
 unfold C6T at hg
 split at hg
 ·obtain ⟨h1, hg⟩ := hg.g
  exact ⟨Nat.le_of_ble_eq_true h1, hg.one⟩
 ·exact hg.no.elim
def C6b (x : V) (h : A2) (n : Nat) : N6 :=
 match x with
 | .sl b st 0 m => match A2.get h b st with
  | some (.raw rs) => gE (Nat.beq m rs.length) (E4 (.sl b st 0 m) (A2.put h b st (.rows 1 rs)) n)
  | _ => none
 | _ => none
theorem Good.cvr {x : V} {h : A2} {n : Nat} {k : Res} (hg : Good (C6b x h n) k) : B4I x k h n := by
 unfold C6b at hg
 unfold B4I
 split at hg
 ·simp only
  split at hg
  ·rename_i he
   obtain ⟨h1, hg⟩ := hg.g
   rw [he]
   exact ⟨Nat.eq_of_beq_eq_true h1, hg.one⟩
  ·exact hg.no.elim
 ·exact hg.no.elim
def C1b (nm : Nat) (x : V) (h : A2) (n : Nat) : N6 :=
 match x with
 | .str s => E4 (.sl nm n 0 s.length) (A2.put h nm n (.rows 1 (J2 s))) (n + 1)
 | _ => none
theorem Good.byts {nm : Nat} {x : V} {h : A2} {n : Nat} {k : Res} (hg : Good (C1b nm x h n) k) : A7B nm x k h n := by
 unfold C1b at hg
 split at hg
 ·exact hg.one
 ·exact hg.no.elim
def C5t (nm sz : Nat) (x : V) (h : A2) (n : Nat) : N6 :=
 match x with
 | .nils | .isl _ | .sl .. => E4 (.sl nm n 0 0) (A2.put h nm n (.rows sz [])) (n + 1)
 | _ => none
theorem Good.slz {nm sz : Nat} {x : V} {h : A2} {n : Nat} {k : Res} (hg : Good (C5t nm sz x h n) k) : B0S nm sz x k h n := by
 unfold C5t at hg
 split at hg
 ·exact hg.one
 ·exact hg.one
 ·exact hg.one
 ·exact hg.no.elim
def C6G (nm sz : Nat) (cs : Option (List V)) (h : A2) (n : Nat) : N6 :=
 match cs with
 | some cs => gE (Nat.beq cs.length sz) (E4 (.ptr nm n 0 0) (A2.put h nm n (.rows sz [cs])) (n + 1))
 | none => none
theorem Good.box {nm sz : Nat} {cs : Option (List V)} {h : A2} {n : Nat} {k : Res} (hg : Good (C6G nm sz cs h n) k) : B4f nm sz cs k h n := by
 unfold C6G at hg
 split at hg
 ·exact ⟨Nat.eq_of_beq_eq_true hg.g.1, hg.g.2.one⟩
 ·exact hg.no.elim
def C5s (nm sz : Nat) (rs : Option (List (List V))) (h : A2) (n : Nat) : N6 :=
 match rs with
 | some rs => E4 (.sl nm n 0 rs.length) (A2.put h nm n (.rows sz rs)) (n + 1)
 | none => none
theorem Good.row {nm sz : Nat} {rs : Option (List (List V))} {h : A2} {n : Nat} {k : Res} (hg : Good (C5s nm sz rs h n) k) : B6P nm sz rs k h n := by
 unfold C5s at hg
 split at hg
 ·exact hg.one
 ·exact hg.no.elim
def C5H (rs : Option (List (List V))) (h : A2) (n : Nat) : N6 :=
 match rs with
 | some rs => E4 (.isl rs) h n
 | none => none
theorem Good.isl {rs : Option (List (List V))} {h : A2} {n : Nat} {k : Res} (hg : Good (C5H rs h n) k) : B6n rs k h n := by
 unfold C5H at hg
 split at hg
 ·exact hg.one
 ·exact hg.no.elim
def C0K (h : Option A2) (n : Nat) : N6 :=
 match h with
 | some h => E4 .undef h n
 | none => none
theorem Good.heap {h : Option A2} {n : Nat} {k : Res} (hg : Good (C0K h n) k) : A7x h k n := by
 unfold C0K at hg
 split at hg
 ·exact hg.one
 ·exact hg.no.elim
def C2U (L nm sz : Nat) (s : V) (xs : Option (List (List V))) (h : A2) (n : Nat) : N6 :=
 match xs with
 | none => none
 | some xs => gE (B1Y xs sz) (match s with
  | .nils => gE (Nat.ble xs.length L) (E4 (.sl nm n 0 xs.length) (A2.put h nm n (.rows sz xs)) (n + 1))
  | .sl b st i m => match A2.get h b st with
   | some (.rows sz' rs) => gE (Nat.beq sz' sz && Nat.ble (i + m) rs.length && Nat.ble (m + xs.length) L)
     (E4 (.sl b n 0 (m + xs.length)) (A2.put h b n (.rows sz ((rs.drop i).take m ++ xs))) (n + 1))
   | _ => none
  | _ => none)
theorem Good.app {L nm sz : Nat} {s : V} {xs : Option (List (List V))} {h : A2} {n : Nat} {k : Res} (hg : Good (C2U L nm sz s xs h n) k) : A6A L nm sz s xs k h n := by
 unfold C2U at hg
 split at hg
 ·exact hg.no.elim
 ·obtain ⟨h0, hg⟩ := hg.g
  unfold A6A
  refine ⟨A5g h0, ?_⟩
  split at hg
  ·exact ⟨Nat.le_of_ble_eq_true hg.g.1, hg.g.2.one⟩
  ·simp only
   split at hg
   ·rename_i he
    obtain ⟨h1, hg⟩ := hg.g
    simp only [Bool.and_eq_true, B0i, Nat.ble_eq] at h1
    rw [he]
    exact ⟨h1.1.1, h1.1.2, h1.2, hg.one⟩
   ·exact hg.no.elim
  ·exact hg.no.elim
def C2r (sz : Nat) (d : V) (xs : Option (List (List V))) (h : A2) (n : Nat) : N6 :=
 match xs with
 | none => none
 | some xs => gE (B1Y xs sz) (match d with
  | .nils => E4 (.int .i64 0) h n
  | .sl b st i m => match A2.get h b st with
   | some (.rows sz' rs) => gE (Nat.beq sz' sz && Nat.ble (i + m) rs.length)
     (E4 (.int .i64 (min xs.length m : Nat)) (A2.put h b st (.rows sz (rs.take i ++ xs.take (min xs.length m) ++ rs.drop (i + min xs.length m)))) n)
   | _ => none
  | _ => none)
theorem Good.copy {sz : Nat} {d : V} {xs : Option (List (List V))} {h : A2} {n : Nat} {k : Res} (hg : Good (C2r sz d xs h n) k) : A5Q sz d xs k h n := by
 unfold C2r at hg
 split at hg
 ·exact hg.no.elim
 ·obtain ⟨h0, hg⟩ := hg.g
  unfold A5Q
  refine ⟨A5g h0, ?_⟩
  split at hg
  ·exact hg.one
  ·simp only
   split at hg
   ·rename_i he
    obtain ⟨h1, hg⟩ := hg.g
    simp only [Bool.and_eq_true, B0i, Nat.ble_eq] at h1
    rw [he]
    exact ⟨h1.1, h1.2, hg.one⟩
   ·exact hg.no.elim
  ·exact hg.no.elim
def C1p (nm : Nat) (z : List V) (x : V) (h : A2) (n : Nat) : N6 :=
 match x with
 | .int .i64 m => gE (zle 0 m && zle m 137438953472) (E4 (.sl nm n 0 m.toNat) (A2.put h nm n (.rows z.length (List.replicate m.toNat z))) (n + 1))
 | _ => none
theorem Good.mksl {nm : Nat} {z : List V} {x : V} {h : A2} {n : Nat} {k : Res} (hg : Good (C1p nm z x h n) k) : B0E nm z x k h n := by
 unfold C1p at hg
 split at hg
 ·obtain ⟨h1, hg⟩ := hg.g
  simp only [Bool.and_eq_true, R6] at h1
  exact ⟨h1.1, h1.2, hg.one⟩
 ·exact hg.no.elim
def C5w (sz : Nat) (x : V) (lo hi : Option V) (h : A2) (n : Nat) : N6 :=
 match x with
 | .sl b st i m => match F3 0 lo, F3 m hi with
  | some l, some u => gE ((match A8D (A2.get h b st) with | some s => Nat.beq s sz | none => false) && zle 0 l && zle l u && zle u m) (E4 (.sl b st (i + l.toNat) (u - l).toNat) h n)
  | _, _ => none
 | .isl es => match F3 0 lo, F3 es.length hi with
  | some l, some u => gE (B1Y es sz && zle 0 l && zle l u && zle u es.length) (E4 (.isl ((es.drop l.toNat).take (u - l).toNat)) h n)
  | _, _ => none
 | .nils => match F3 0 lo, F3 0 hi with
  | some l, some u => gE (zeq l 0 && zeq u 0) (E4 .nils h n)
  | _, _ => none
 | _ => none
theorem Good.slc {sz : Nat} {x : V} {lo hi : Option V} {h : A2} {n : Nat} {k : Res} (hg : Good (C5w sz x lo hi h n) k) : A8G sz x lo hi k h n := by
 unfold C5w at hg
 unfold A8G
 split at hg
 ·simp only
  split at hg
  ·rename_i h1 h2
   obtain ⟨h0, hg⟩ := hg.g
   simp only [Bool.and_eq_true, R6] at h0
   rw [h1, h2]
   refine ⟨?_, h0.1.1.2, h0.1.2, h0.2, hg.one⟩
   have c := h0.1.1.1
   split at c
   ·rename_i s hs; rw [hs, Nat.eq_of_beq_eq_true c]
   ·cases c
  ·exact hg.no.elim
 ·simp only
  split at hg
  ·rename_i h1 h2
   obtain ⟨h0, hg⟩ := hg.g
   simp only [Bool.and_eq_true, R6] at h0
   rw [h1, h2]
   exact ⟨A5g h0.1.1.1, h0.1.1.2, h0.1.2, h0.2, hg.one⟩
  ·exact hg.no.elim
 ·simp only
  split at hg
  ·rename_i h1 h2
   obtain ⟨h0, hg⟩ := hg.g
   simp only [Bool.and_eq_true, B1b] at h0
   rw [h1, h2]
   exact ⟨h0.1, h0.2, hg.one⟩
  ·exact hg.no.elim
 ·exact hg.no.elim
def C6Q (x : V) (lo hi : Option V) (h : A2) (n : Nat) : N6 :=
 match x with
 | .str s => match F3 0 lo, F3 s.length hi with
  | some l, some u => gE (zle 0 l && zle l u && zle u s.length) (E4 (.str ((s.drop l.toNat).take (u - l).toNat)) h n)
  | _, _ => none
 | _ => none
theorem Good.sls {x : V} {lo hi : Option V} {h : A2} {n : Nat} {k : Res} (hg : Good (C6Q x lo hi h n) k) : B0M x lo hi k h n := by
 unfold C6Q at hg
 unfold B0M
 split at hg
 ·simp only
  split at hg
  ·rename_i h1 h2
   obtain ⟨h0, hg⟩ := hg.g
   simp only [Bool.and_eq_true, R6] at h0
   rw [h1, h2]
   exact ⟨h0.1.1, h0.1.2, h0.2, hg.one⟩
  ·exact hg.no.elim
 ·exact hg.no.elim
def B0j (k : V) : List (V × V) → Bool
 | [] => true
 | e :: r => (A4b k e.1).isSome && B0j k r
theorem A5l {k : V} : ∀ {l : List (V × V)}, B0j k l = true → A5K k l
 | [], _ => trivial
 | _ :: _, h => by
  simp only [B0j, Bool.and_eq_true] at h
  exact ⟨h.1, A5l h.2⟩
def C2J (kd : Nat) (z : V) (ok : Bool) (m key : V) (h : A2) (n : Nat) : N6 :=
 match m with
 | .nilm => gE (A1E kd key) (E4 (A8T z ok none) h n)
 | .mp b st => match A2.get h b st with
  | some (.map es) => gE (A1E kd key && B0j key es) (E4 (A8T z ok (B0t key es)) h n)
  | _ => none
 | _ => none
theorem Good.look {kd : Nat} {z : V} {ok : Bool} {m key : V} {h : A2} {n : Nat} {k : Res} (hg : Good (C2J kd z ok m key h n) k) : A5N kd z ok m key k h n := by
 unfold C2J at hg
 unfold A5N
 split at hg
 ·exact ⟨hg.g.1, hg.g.2.one⟩
 ·simp only
  split at hg
  ·rename_i he
   obtain ⟨h1, hg⟩ := hg.g
   simp only [Bool.and_eq_true] at h1
   rw [he]
   exact ⟨h1.1, A5l h1.2, hg.one⟩
  ·exact hg.no.elim
 ·exact hg.no.elim
def C2F (kd : Nat) (m key v : V) (h : A2) (n : Nat) : N6 :=
 match m with
 | .mp b st => match A2.get h b st with
  | some (.map es) => gE (A1E kd key && B0j key es) (E4 .undef (A2.put h b st (.map (B7n key v es))) n)
  | _ => none
 | _ => none
theorem Good.mput {kd : Nat} {m key v : V} {h : A2} {n : Nat} {k : Res} (hg : Good (C2F kd m key v h n) k) : A8J kd m key v k h n := by
 unfold C2F at hg
 unfold A8J
 split at hg
 ·simp only
  split at hg
  ·rename_i he
   obtain ⟨h1, hg⟩ := hg.g
   simp only [Bool.and_eq_true] at h1
   rw [he]
   exact ⟨h1.1, A5l h1.2, hg.one⟩
  ·exact hg.no.elim
 ·exact hg.no.elim
def C2k (kd : Nat) (m key : V) (h : A2) (n : Nat) : N6 :=
 match m with
 | .nilm => gE (A1E kd key) (E4 (.tup []) h n)
 | .mp b st => match A2.get h b st with
  | some (.map es) => gE (A1E kd key && B0j key es) (E4 (.tup []) (A2.put h b st (.map (B7I key es))) n)
  | _ => none
 | _ => none
theorem Good.mdel {kd : Nat} {m key : V} {h : A2} {n : Nat} {k : Res} (hg : Good (C2k kd m key h n) k) : A7v kd m key k h n := by
 unfold C2k at hg
 unfold A7v
 split at hg
 ·exact ⟨hg.g.1, hg.g.2.one⟩
 ·simp only
  split at hg
  ·rename_i he
   obtain ⟨h1, hg⟩ := hg.g
   simp only [Bool.and_eq_true] at h1
   rw [he]
   exact ⟨h1.1, A5l h1.2, hg.one⟩
  ·exact hg.no.elim
 ·exact hg.no.elim
abbrev I8 := FuncId → List V → A2 → Nat → N6
def C1g (P : Program) (C : I8) (f : V) (xs : List V) (h : A2) (n : Nat) : N6 :=
 match f with
 | .fn g cs => gE (H4 P g) (C g (xs ++ cs) h n)
 | _ => none
def C7w (fn neg : Bool) (x : V) (h : A2) (n : Nat) : N6 :=
 match fn, x with
 | false, .nils => E4 (.bool !neg) h n
 | false, .isl (_ :: _) => E4 (.bool neg) h n
 | false, .sl _ _ _ (_ + 1) => E4 (.bool neg) h n
 | true, .fn _ _ => E4 (.bool neg) h n
 | true, .cst .nilFunc => E4 (.bool !neg) h n
 | _, _ => none
theorem Good.eqn {fn neg : Bool} {x : V} {h : A2} {n : Nat} {k : Res} (hg : Good (C7w fn neg x h n) k) : A5i fn neg x k h n := by
 unfold C7w at hg
 split at hg
 ·exact hg.one
 ·exact ⟨hg.one, fun e => by cases e⟩
 ·exact ⟨hg.one, fun e => by cases e⟩
 ·exact hg.one
 ·exact hg.one
 ·exact hg.no.elim
def C1J (sz : Nat) (cs : Option (List V)) (h : A2) (n : Nat) : N6 :=
 match cs with
 | some cs => bif Nat.beq cs.length sz then E4 (.iptr [cs] 0 0) h n else none
 | none => none
theorem Good.boxi {sz : Nat} {cs : Option (List V)} {h : A2} {n : Nat} {k : Res} (hg : Good (C1J sz cs h n) k) : A9q sz cs k h n := by
 unfold C1J at hg
 unfold A9q
 split at hg
 ·rename_i cs
  cases hb : Nat.beq cs.length sz with
  | true => rw [hb] at hg; exact ⟨Nat.eq_of_beq_eq_true hb, hg.one⟩
  | false => rw [hb] at hg; exact hg.no.elim
 ·exact hg.no.elim
def B7a (m : Nat) (agg : Bool) (x : V) (h : A2) (n : Nat) : N6 :=
 match x with
 | .iptr es i j => A2s (B8I es i fun row => F6 row j m agg) h n
 | _ => none
theorem Good.loadi {m : Nat} {agg : Bool} {x : V} {h : A2} {n : Nat} {k : Res} (hg : Good (B7a m agg x h n) k) : A2K m agg x k h n := by
 unfold B7a at hg
 unfold A2K
 split at hg
 ·exact hg.opt
 ·exact hg.no.elim
def exO (P : Program) (C : I8) (s : St) : AO → N6
 | .mov x => E4 (s.ev x) s.h s.n
 | .pick c a b => A2s (B5H (s.ev c) (s.ev a) (s.ev b)) s.h s.n
 | .nilck x => A2s (B1S (s.ev x)) s.h s.n
 | .box nm sz x => C6G nm sz (Y6 (s.ev x)) s.h s.n
 | .build z ps => A2s ((A1H s z ps).map .agg) s.h s.n
 | .mkrow nm sz xs => C5s nm sz (G0 sz s xs) s.h s.n
 | .mkisl sz xs => C5H (G0 sz s xs) s.h s.n
 | .load m agg x => A2s (A6n s.h (s.ev x) m agg) s.h s.n
 | .store m x v => C0K (B1O s.h (s.ev x) (s.ev v) m) s.n
 | .faddr off x => A2s (B1x off (s.ev x)) s.h s.n
 | .iaddr sz x i => B7C sz (s.ev x) (s.ev i) s.h s.n
 | .iaddrA len sz x i => B4D len sz (s.ev x) (s.ev i) s.h s.n
 | .fld off m agg x => A2s (C1D off m agg (s.ev x)) s.h s.n
 | .idx x i => C5I (s.ev x) (s.ev i) s.h s.n
 | .ext i x => A2s (C2n i (s.ev x)) s.h s.n
 | .bin op x y => C6c op (s.ev x) (s.ev y) s.h s.n
 | .binw op x y => A2s (B1p op (s.ev x) (s.ev y)) s.h s.n
 | .eqp kind neg x y => A2s (bif B0C kind (s.ev x) then B6O neg (s.ev x) (s.ev y) else none) s.h s.n
 | .eqa neg t x y => A2s (C0L neg t (s.ev x) (s.ev y)) s.h s.n
 | .un op x => unE op (s.ev x) s.h s.n
 | .negw x => A2s (B3x (s.ev x)) s.h s.n
 | .conv j x => A2s (B5Y j (s.ev x)) s.h s.n
 | .cap0 x => A2s (B5N (s.ev x)) s.h s.n
 | .grw _ _ _ _ | .rgm _ _ | .nxm _ | .ent _ => none
 | .bst x => A2s (B5Q (A0H s.h (s.ev x))) s.h s.n
 | .byts nm x => C1b nm (s.ev x) s.h s.n
 | .mkraw nm xs => C6T nm (G0 1 s xs) s.h s.n
 | .cvr x => C6b (s.ev x) s.h s.n
 | .isnil neg x => A2s (B1J neg (s.ev x)) s.h s.n
 | .len kind x => A2s (C2f s.h kind (s.ev x)) s.h s.n
 | .lenc m => E4 (.int .i64 m) s.h s.n
 | .mm mx xs => A2s (mmV mx (xs.map s.ev)) s.h s.n
 | .app nm sz b x => C2U 137438953472 nm sz (s.ev b) (A2T s.h (s.ev x)) s.h s.n
 | .apb L nm sz b x => C2U L nm sz (s.ev b) (A2T s.h (s.ev x)) s.h s.n
 | .copy sz d x => C2r sz (s.ev d) (A2T s.h (s.ev x)) s.h s.n
 | .mksl nm z x => C1p nm z (s.ev x) s.h s.n
 | .slc sz x lo hi => C5w sz (s.ev x) (lo.map s.ev) (hi.map s.ev) s.h s.n
 | .sls x lo hi => C6Q (s.ev x) (lo.map s.ev) (hi.map s.ev) s.h s.n
 | .mkfn f xs => E4 (.fn f (xs.map s.ev)) s.h s.n
 | .mkmap nm => E4 (.mp nm s.n) (A2.put s.h nm s.n (.map [])) (s.n + 1)
 | .look kd z ok m x => C2J kd z ok (s.ev m) (s.ev x) s.h s.n
 | .mput kd m x v => C2F kd (s.ev m) (s.ev x) (s.ev v) s.h s.n
 | .mdel kd m x => C2k kd (s.ev m) (s.ev x) s.h s.n
 | .sh l x y => shE l (s.ev x) (s.ev y) s.h s.n
 | .idxA len sz m agg x i => C2z len sz m agg (s.ev x) (s.ev i) s.h s.n
 | .clr z x => C7d z (s.ev x) s.h s.n
 | .slz nm sz x => C5t nm sz (s.ev x) s.h s.n
 | .call f xs => C f (xs.map s.ev) s.h s.n
 | .callp f xs => C f (xs.map s.ev) s.h s.n
 | .tas t x => A2s (C0O t (s.ev x)) s.h s.n
 | .mki t x => A2s ((unV (s.ev x)).map fun u => .cst (.iface t u)) s.h s.n
 | .pan _ => none
 | .boxi sz x => C1J sz (Y6 (s.ev x)) s.h s.n
 | .loadi m agg x => B7a m agg (s.ev x) s.h s.n
 | .callv f xs => C1g P C (s.ev f) (xs.map s.ev) s.h s.n
 | .pcall .. => none
 | .eqn fn neg x => C7w fn neg (s.ev x) s.h s.n
 | .bad => none
def G6 (P : Program) (C : I8) : Prop := ∀ f xs h n k, Good (C f xs h n) k → A3 P f xs h n k
theorem B9n {P : Program} {C : I8} (hC : G6 P C) {s : St} {o : AO} {k : Res} (hg : Good (exO P C s o) k) : B0 P PK o s k := by
 cases o <;> simp only [exO] at hg <;> simp only [B0]
 case mov => exact hg.one
 case pick => exact hg.opt
 case nilck => exact hg.opt
 case box => exact hg.box
 case build => exact hg.opt
 case mkrow => exact hg.row
 case mkisl => exact hg.isl
 case load => exact hg.opt
 case store => exact hg.heap
 case faddr => exact hg.opt
 case iaddr => exact hg.iaddr
 case iaddrA => exact hg.iaddrA
 case fld => exact hg.opt
 case idx => exact hg.idx
 case ext => exact hg.opt
 case bin => exact hg.bin
 case binw => exact hg.opt
 case eqp => exact hg.opt
 case eqa => exact hg.opt
 case un => exact hg.un
 case negw => exact hg.opt
 case conv => exact hg.opt
 case bst => exact hg.opt
 case cap0 => exact hg.opt
 case grw => exact hg.no.elim
 case rgm => exact hg.no.elim
 case nxm => exact hg.no.elim
 case ent => exact hg.no.elim
 case byts => exact hg.byts
 case mkraw => exact hg.raw
 case cvr => exact hg.cvr
 case isnil => exact hg.opt
 case len => exact hg.opt
 case lenc => exact hg.one
 case mm => exact hg.opt
 case app => exact hg.app
 case apb => exact hg.app
 case copy => exact hg.copy
 case mksl => exact hg.mksl
 case slc => exact hg.slc
 case sls => exact hg.sls
 case mkfn => exact hg.one
 case mkmap => exact hg.one
 case look => exact hg.look
 case mput => exact hg.mput
 case mdel => exact hg.mdel
 case sh => exact hg.sh
 case idxA => exact hg.idxA
 case clr => exact hg.clr
 case slz => exact hg.slz
 case call => exact hC _ _ _ _ _ hg
 case callp => exact (hC _ _ _ _ _ hg).toP
 case boxi => exact hg.boxi
 case tas => exact hg.opt
 case mki => exact hg.opt
 case pan => exact hg.no.elim
 case loadi => exact hg.loadi
 case callv =>
  unfold C1g at hg
  split at hg
  ·rename_i g cs he
   rw [he]
   exact ⟨hg.g.1, hC _ _ _ _ _ hg.g.2⟩
  ·exact hg.no.elim
 case pcall => exact hg.no.elim
 case eqn => exact hg.eqn
 case bad => exact hg.no
def bEq : Bool → Bool → Bool
 | true, true | false, false => true
 | _, _ => false
theorem C3J {a b : Bool} (h : bEq a b = true) : a = b := by cases a <;> cases b <;> first | rfl | cases h
def C2D : Value → Value → Bool
 | .nilIface, .nilIface => true
 | .nilFunc, .nilFunc => true
 | _, _ => false
theorem C1s {a b : Value} (h : C2D a b = true) : a = b := by
 unfold C2D at h
 split at h
 ·rfl
 ·rfl
 ·cases h
mutual
def V.beq : V → V → Bool
 | .undef, .undef => true
 | .bool a, .bool b => bEq a b
 | .int k n, .int k' n' => kEq k k' && zeq n n'
 | .str a, .str b => S0 a b
 | .agg a, .agg b => V.beqL a b
 | .tup a, .tup b => V.beqL a b
 | .nilp, .nilp => true
 | .ptr b st i j, .ptr b' st' i' j' => Nat.beq b b' && (Nat.beq st st' && (Nat.beq i i' && Nat.beq j j'))
 | .nils, .nils => true
 | .sl b st i j, .sl b' st' i' j' => Nat.beq b b' && (Nat.beq st st' && (Nat.beq i i' && Nat.beq j j'))
 | .isl a, .isl b => V.beqLL a b
 | .iptr a i j, .iptr b i' j' => V.beqLL a b && (Nat.beq i i' && Nat.beq j j')
 | .nilm, .nilm => true
 | .mp b st, .mp b' st' => Nat.beq b b' && Nat.beq st st'
 | .fn f cs, .fn g ds => Nat.beq f g && V.beqL cs ds
 | .err, .err => true
 | .cst v, .cst w => C2D v w
 | .anyi k, .anyi k' => kEq k k'
 | _, _ => false
def V.beqL : List V → List V → Bool
 | [], [] => true
 | a :: r, b :: s => V.beq a b && V.beqL r s
 | _, _ => false
def V.beqLL : List (List V) → List (List V) → Bool
 | [], [] => true
 | a :: r, b :: s => V.beqL a b && V.beqLL r s
 | _, _ => false
end
mutual
theorem V.beq_eq : ∀ {a b : V}, V.beq a b = true → a = b
 | .undef, b, h => by cases b <;> first | rfl | simp [V.beq] at h
 | .bool a, b, h => by
  cases b <;> simp only [V.beq, Bool.false_eq_true] at h
  rw [C3J h]
 | .int k n, b, h => by
  cases b <;> simp only [V.beq, Bool.false_eq_true, Bool.and_eq_true] at h
  rw [B3N.1 h.1, B1b.1 h.2]
 | .str a, b, h => by
  cases b <;> simp only [V.beq, Bool.false_eq_true] at h
  rw [A3i.1 h]
 | .agg a, b, h => by
  cases b <;> simp only [V.beq, Bool.false_eq_true] at h
  rw [V.beqL_eq h]
 | .tup a, b, h => by
  cases b <;> simp only [V.beq, Bool.false_eq_true] at h
  rw [V.beqL_eq h]
 | .nilp, b, h => by cases b <;> first | rfl | simp [V.beq] at h
 | .ptr b st i j, x, h => by
  cases x <;> simp only [V.beq, Bool.false_eq_true, Bool.and_eq_true, B0i] at h
  obtain ⟨rfl, rfl, rfl, rfl⟩ := h; rfl
 | .nils, b, h => by cases b <;> first | rfl | simp [V.beq] at h
 | .sl b st i j, x, h => by
  cases x <;> simp only [V.beq, Bool.false_eq_true, Bool.and_eq_true, B0i] at h
  obtain ⟨rfl, rfl, rfl, rfl⟩ := h; rfl
 | .isl a, b, h => by
  cases b <;> simp only [V.beq, Bool.false_eq_true] at h
  rw [V.beqLL_eq h]
 | .iptr a i j, b, h => by
  cases b <;> simp only [V.beq, Bool.false_eq_true, Bool.and_eq_true, B0i] at h
  obtain ⟨h1, rfl, rfl⟩ := h; rw [V.beqLL_eq h1]
 | .nilm, b, h => by cases b <;> first | rfl | simp [V.beq] at h
 | .mp b st, x, h => by
  cases x <;> simp only [V.beq, Bool.false_eq_true, Bool.and_eq_true, B0i] at h
  obtain ⟨rfl, rfl⟩ := h; rfl
 | .fn f cs, x, h => by
  cases x <;> simp only [V.beq, Bool.false_eq_true, Bool.and_eq_true, B0i] at h
  obtain ⟨rfl, h1⟩ := h; rw [V.beqL_eq h1]
 | .cst v, b, h => by
  cases b <;> simp only [V.beq, Bool.false_eq_true] at h
  rw [C1s h]
 | .err, b, h => by cases b <;> first | rfl | simp [V.beq] at h
 | .anyi k, b, h => by
  cases b <;> simp only [V.beq, Bool.false_eq_true] at h
  rw [B3N.1 h]
theorem V.beqL_eq : ∀ {a b : List V}, V.beqL a b = true → a = b
 | [], b, h => by cases b <;> first | rfl | simp [V.beqL] at h
 | x :: r, b, h => by
  cases b <;> simp only [V.beqL, Bool.false_eq_true, Bool.and_eq_true] at h
  rw [V.beq_eq h.1, V.beqL_eq h.2]
theorem V.beqLL_eq : ∀ {a b : List (List V)}, V.beqLL a b = true → a = b
 | [], b, h => by cases b <;> first | rfl | simp [V.beqLL] at h
 | x :: r, b, h => by
  cases b <;> simp only [V.beqLL, Bool.false_eq_true, Bool.and_eq_true] at h
  rw [V.beqL_eq h.1, V.beqLL_eq h.2]
end
def B8D : List (V × V) → List (V × V) → Bool
 | [], [] => true
 | a :: r, b :: s => V.beq a.1 b.1 && (V.beq a.2 b.2 && B8D r s)
 | _, _ => false
theorem B5I : ∀ {a b : List (V × V)}, B8D a b = true → a = b
 | [], [], _ => rfl
 | [], _ :: _, h => by cases h
 | _ :: _, [], h => by cases h
 | x :: r, y :: s, h => by
  simp only [B8D, Bool.and_eq_true] at h
  rw [show x = y from Prod.ext (V.beq_eq h.1) (V.beq_eq h.2.1), B5I h.2.2]
def B7H : Blk → Blk → Bool
 | .rows sz rs, .rows sz' rs' => Nat.beq sz sz' && V.beqLL rs rs'
 | .map es, .map es' => B8D es es'
 | _, _ => false
theorem C0l {a b : Blk} (h : B7H a b = true) : a = b := by
 cases a <;> cases b <;> simp only [B7H, Bool.false_eq_true, Bool.and_eq_true, B0i] at h
 ·rw [h.1, V.beqLL_eq h.2]
 ·rw [B5I h]
def C3h : A2 → A2 → Bool
 | [], [] => true
 | a :: r, b :: s => Nat.beq a.1 b.1 && (Nat.beq a.2.1 b.2.1 && (B7H a.2.2 b.2.2 && C3h r s))
 | _, _ => false
theorem B8C : ∀ {a b : A2}, C3h a b = true → a = b
 | [], [], _ => rfl
 | [], _ :: _, h => by cases h
 | _ :: _, [], h => by cases h
 | (x1, x2, x3) :: r, (y1, y2, y3) :: s, h => by
  simp only [C3h, Bool.and_eq_true, B0i] at h
  obtain ⟨rfl, rfl, h3, h4⟩ := h
  rw [C0l h3, B8C h4]
def B8m : List (Nat × V) → List (Nat × V) → Bool
 | [], [] => true
 | a :: r, b :: s => Nat.beq a.1 b.1 && (V.beq a.2 b.2 && B8m r s)
 | _, _ => false
theorem B5y : ∀ {a b : List (Nat × V)}, B8m a b = true → a = b
 | [], [], _ => rfl
 | [], _ :: _, h => by cases h
 | _ :: _, [], h => by cases h
 | (x1, x2) :: r, (y1, y2) :: s, h => by
  simp only [B8m, Bool.and_eq_true, B0i] at h
  obtain ⟨rfl, h2, h4⟩ := h
  rw [V.beq_eq h2, B5y h4]
def C1F (a b : St) : Bool := B8m a.sl b.sl && (C3h a.h b.h && Nat.beq a.n b.n)
theorem C0V {a b : St} (h : C1F a b = true) : a = b := by
 obtain ⟨a1, a2, a3⟩ := a
 obtain ⟨b1, b2, b3⟩ := b
 simp only [C1F, Bool.and_eq_true, B0i] at h
 rw [B5y h.1, B8C h.2.1, h.2.2]
def B9G (d : Option Nat) (sl : List (Nat × V)) (r : V × A2 × Nat) : St :=
 match d with
 | some i => ⟨D4 sl i r.1, r.2.1, r.2.2⟩
 | none => ⟨sl, r.2.1, r.2.2⟩
def exA (P : Program) (C : I8) (i : AI) (s : St) : Option St :=
 match i.g with
 | none => (exO P C s i.o).map (B9G i.d s.sl)
 | some (j, want) => match C7 s.sl j with
  | .bool b => bif bEq b want then (exO P C ⟨D4 s.sl j (.bool want), s.h, s.n⟩ i.o).map (B9G i.d (D4 s.sl j (.bool want))) else some (B9G i.d (D4 s.sl j (.bool !want)) (.cst Go.undef, s.h, s.n))
  | .cst u => bif A8N u then some (B9G i.d s.sl (.cst Go.undef, s.h, s.n)) else none
  | _ => none
def exV (P : Program) (C : I8) : List AI → St → Option St
 | [], s => some s
 | i :: r, s => match exA P C i s with
  | some s' => exV P C r s'
  | none => none
def B6C (P : Program) (C : I8) (s s' : St) : List (List AI) → Bool
 | [] => true
 | l :: r => match exV P C l s with
  | some s2 => C1F s2 s' && B6C P C s s' r
  | none => false
def C6s (P : Program) (C : I8) (s : St) : List (List AI) → Option St
 | [] => none
 | l :: r => match exV P C l s with
  | some s' => bif B6C P C s s' r then some s' else none
  | none => none
section
variable {P : Program} {C : I8} {k : Res}
theorem A6Z {K' : St → Prop} {d : Option Nat} {sl : List (Nat × V)} {x : V × A2 × Nat} (hg : K' (B9G d sl x)) : fin d sl K' x.1 x.2.1 x.2.2 := by
 cases d <;> exact hg
theorem C0h (hC : G6 P C) {i : AI} {s s' : St} {K' : St → Prop} (hg : exA P C i s = some s') (hK : K' s') : F1 P PK i s K' := by
 have some_ : ∀ {t : St} {sl : List (Nat × V)}, (exO P C t i.o).map (B9G i.d sl) = some s' → B0 P PK i.o t (fin i.d sl K') := by
  intro t sl h
  obtain ⟨x, h1, h2⟩ := Option.map_eq_some_iff.1 h
  exact B9n hC ⟨x, h1, A6Z (by rw [h2]; exact hK)⟩
 unfold exA at hg
 unfold F1
 split at hg
 ·rename_i e
  rw [e]
  exact some_ hg
 ·rename_i j want e
  rw [e]
  simp only
  split at hg
  ·rename_i b hb
   rw [hb]
   cases b <;> cases want <;> simp only [bEq, cond_true, cond_false] at hg <;> refine ⟨fun e => ?_, fun e => ?_⟩
   any_goals (cases e; done)
   ·exact some_ hg
   ·injection hg with hg; exact A6Z (x := (.cst Go.undef, s.h, s.n)) (by rw [hg]; exact hK)
   ·injection hg with hg; exact A6Z (x := (.cst Go.undef, s.h, s.n)) (by rw [hg]; exact hK)
   ·exact some_ hg
  ·rename_i u hu
   rw [hu]
   cases hb : A8N u with
   | false => rw [hb] at hg; cases hg
   | true =>
    rw [hb] at hg
    injection hg with hg
    exact ⟨hb, A6Z (x := (.cst Go.undef, s.h, s.n)) (by rw [hg]; exact hK)⟩
  ·cases hg
theorem A9M (hC : G6 P C) {K' : St → Prop} {s' : St} (hK : K' s') : ∀ {l : List AI} {s : St}, exV P C l s = some s' → vo P PK l K' s
 | [], _, hg => by injection hg with hg; subst hg; exact hK
 | i :: r, s, hg => by
  simp only [exV] at hg
  split at hg
  ·rename_i t ht; exact C0h (K' := vo P PK r K') hC ht (A9M hC hK hg)
  ·cases hg
theorem B0I (hC : G6 P C) {K' : St → Prop} {s s' : St} (hK : K' s') : ∀ {l : List (List AI)}, B6C P C s s' l = true → A7O P PK l K' s
 | [], _ => trivial
 | l :: r, hg => by
  simp only [B6C] at hg
  split at hg
  ·rename_i t ht
   simp only [Bool.and_eq_true] at hg
   rw [C0V hg.1] at ht
   exact ⟨A9M hC hK ht, B0I hC hK hg.2⟩
  ·cases hg
theorem B7L (hC : G6 P C) {K' : St → Prop} {s s' : St} (hK : K' s') : ∀ {l : List (List AI)}, C6s P C s l = some s' → A7O P PK l K' s
 | [], h => by cases h
 | l :: r, hg => by
  simp only [C6s] at hg
  split at hg
  ·rename_i t ht
   cases hb : B6C P C s t r with
   | false => rw [hb] at hg; cases hg
   | true =>
    rw [hb, cond_true] at hg
    injection hg with hg
    subst hg
    exact ⟨A9M hC hK ht, B0I hC hK hb⟩
  ·cases hg
def nmB : Nat := 1000000000000
def low (f b st : Nat) : Bool := Nat.blt b nmB && Nat.ble f st
section
variable (f : Nat)
mutual
def B4y : V → V
 | .sl b st i n => bif low f b st then .sl (nmB + st) st i n else .sl b st i n
 | .ptr b st i n => bif low f b st then .ptr (nmB + st) st i n else .ptr b st i n
 | .mp b st => bif low f b st then .mp (nmB + st) st else .mp b st
 | .agg l => .agg (renL l)
 | .tup l => .tup (renL l)
 | v => v
def renL : List V → List V
 | [] => []
 | a :: r => B4y a :: renL r
end
mutual
def C2q : V → Bool
 | .sl _ st _ _ => Nat.ble f st
 | .ptr _ st _ _ => Nat.ble f st
 | .mp _ st => Nat.ble f st
 | .agg l => menL l
 | .tup l => menL l
 | .fn _ _ => true
 | _ => false
def menL : List V → Bool
 | [] => false
 | a :: r => C2q a || menL r
end
end
mutual
theorem A9N (f : Nat) : ∀ v : V, F5 v (B4y f v)
 | .sl b st i n => by rw [B4y]; cases low f b st <;> exact .sl
 | .ptr b st i n => by rw [B4y]; cases low f b st <;> exact .ptr
 | .mp b st => by rw [B4y]; cases low f b st <;> exact .mp
 | .agg l => by rw [B4y]; exact .agg (renL_same f l)
 | .tup l => by rw [B4y]; exact .tup (renL_same f l)
 | .undef => .refl _
 | .bool _ => .refl _
 | .int _ _ => .refl _
 | .str _ => .refl _
 | .nilp => .refl _
 | .nils => .refl _
 | .isl _ => .refl _
 | .iptr _ _ _ => .refl _
 | .nilm => .refl _
 | .fn _ _ => .refl _
 | .yld _ _ => .refl _
 | .cst _ => .refl _
 | .err => .refl _
 | .anyi _ => .refl _
theorem renL_same (f : Nat) : ∀ l : List V, A5x l (renL f l)
 | [] => by rw [renL]; trivial
 | a :: r => by rw [renL]; exact ⟨A9N f a, renL_same f r⟩
end
def D0v (f : Nat) : Blk → Blk
 | .rows sz rs => .rows sz (rs.map (renL f))
 | .map es => .map es
 | b => b
theorem C0E (f : Nat) (b : Blk) : A1y b (D0v f b) := by
 cases b with
 | map es => exact .refl _
 | loop => exact .refl _
 | mapb => exact .refl _
 | iter => exact .refl _
 | raw => exact .refl _
 | rows sz rs =>
  refine .rows (by simp) fun i r2 h => ?_
  rw [List.getElem?_map] at h
  obtain ⟨r, h1, h2⟩ := Option.map_eq_some_iff.1 h
  exact ⟨r, h1, h2 ▸ renL_same f r⟩
def C9x (f : Nat) : Blk → Bool
 | .rows _ rs => rs.any (menL f)
 | .map es => es.any fun p => C2q f p.1 || C2q f p.2
 | .loop .. => true
 | .mapb .. => true
 | .iter .. => true
 | .raw .. => true
def B9Q (f : Nat) : A2 → Nat → Nat
 | [], b => b
 | e :: r, b => bif Nat.beq e.1 b then (bif low f e.1 e.2.1 then nmB + e.2.1 else b) else B9Q f r b
def C9C : Option Nat → Nat → Bool
 | some m, st => Nat.ble m st
 | none, _ => false
def B7c (f : Nat) (d : Option Nat) (h0 : A2) : A2 → A2
 | [] => []
 | e :: r => bif C9C d e.2.1 then B7c f d h0 r else (B9Q f h0 e.1, e.2.1, D0v f e.2.2) :: B7c f d h0 r
theorem A7g (f : Nat) (d : Option Nat) (h0 : A2) : ∀ h : A2, (∀ e ∈ h, e ∈ h0) → A1k (B9Q f h0) h0 (B7c f d h0 h)
 | [], _ => trivial
 | e :: r, hm => by
  simp only [B7c]
  have := A7g f d h0 r fun x hx => hm x (List.mem_cons_of_mem _ hx)
  cases C9C d e.2.1
  ·exact ⟨⟨e, hm e List.mem_cons_self, rfl, rfl, C0E f _⟩, this⟩
  ·exact this
def C0S (f : Nat) (s0 : List (Nat × V)) : List (Nat × V) → List (Nat × V)
 | [] => []
 | p :: r => (p.1, B4y f (C7 s0 p.1)) :: C0S f s0 r
theorem B2t (f : Nat) (s0 : List (Nat × V)) : ∀ s : List (Nat × V), B3z s0 (C0S f s0 s)
 | [] => trivial
 | p :: r => ⟨A9N f _, B2t f s0 r⟩
def C9W (f : Nat) (s : St) : St := ⟨C0S f s.sl s.sl, B7c f none s.h s.h, s.n⟩
theorem C2Q (f : Nat) (s : St) : Wk s (C9W f s) := .turn (B9Q f s.h) (B2t _ _ _) (A7g _ _ _ _ fun _ h => h)
def B4j (h : A2) (b : Nat) : Bool := h.any fun e => Nat.beq e.1 b
def D0g (h : A2) : AO → Bool
 | .box nm _ _ => B4j h nm
 | .mkrow nm _ _ => B4j h nm
 | .mksl nm _ _ => B4j h nm
 | .mkmap nm => B4j h nm
 | .slz nm _ _ => B4j h nm
 | .byts nm _ => B4j h nm
 | .mkraw nm _ => B4j h nm
 | .app nm _ _ _ => B4j h nm
 | .apb _ nm _ _ _ => B4j h nm
 | _ => false
def C4q (h : A2) : List (List AI) → Bool
 | [] => false
 | l :: _ => l.any fun i => D0g h i.o
def C6h (f : Nat) (l : List (List AI)) (s : St) : St := bif C4q s.h l then C9W f s else s
theorem C3s (f : Nat) (l : List (List AI)) (s : St) : Wk s (C6h f l s) := by
 unfold C6h
 cases C4q s.h l
 ·exact .refl _
 ·exact C2Q f s
def B9q (f : Nat) (x : V × A2 × Nat) : V × A2 × Nat :=
 bif x.2.1.any (fun e => Nat.ble f e.2.1) then
  (bif C2q f x.1 || x.2.1.any (fun e => Nat.blt e.2.1 f && C9x f e.2.2) then (B4y f x.1, B7c f none x.2.1 x.2.1, x.2.2) else (x.1, B7c f (some f) x.2.1 x.2.1, x.2.2))
 else x
theorem C2T (f : Nat) (x : V × A2 × Nat) : Wk ⟨[(0, x.1)], x.2.1, x.2.2⟩ ⟨[(0, (B9q f x).1)], (B9q f x).2.1, (B9q f x).2.2⟩ := by
 unfold B9q
 cases x.2.1.any (fun e => Nat.ble f e.2.1)
 ·exact .refl _
 ·simp only [cond_true]
  cases C2q f x.1 || x.2.1.any (fun e => Nat.blt e.2.1 f && C9x f e.2.2)
  ·exact .turn (B9Q f x.2.1) ⟨.refl _, trivial⟩ (A7g _ _ _ _ fun _ h => h)
  ·exact .turn (B9Q f x.2.1) ⟨A9N f _, trivial⟩ (A7g _ _ _ _ fun _ h => h)
theorem C0w {P : Program} {g : FuncId} {xs : List V} {h : A2} {n : Nat} {k : Res} {o : N6} (ho : ∀ k, Good o k → A3 P g xs h n k) (hg : Good (o.map (B9q n)) k) : A3 P g xs h n k := by
 obtain ⟨y, h1, h2⟩ := hg
 obtain ⟨x, h3, rfl⟩ := Option.map_eq_some_iff.1 h1
 refine (ho (fun r h' n' => (r, h', n') = x) ⟨x, h3, rfl⟩).wk ?_
 rintro r h' n' rfl
 exact ⟨_, _, _, C2T n (r, h', n'), h2⟩
def C3j (rs : List RV) (s : St) : N6 :=
 match A4I s rs with
 | some vs => E4 (A7M vs) s.h s.n
 | none => none
def exG (P : Program) (C : I8) (rs : List RV) (f : Nat) : Nat → List AItem → St → N6
 | 0, _, _ => none
 | _ + 1, [], s => C3j rs s
 | m + 1, .code .skip :: k, s => exG P C rs f m k s
 | m + 1, .code (.ops l) :: k, s => match C6s P C (C6h f l s) l with
  | some s' => exG P C rs f m k s'
  | none => none
 | _ + 1, .code .bad :: _, _ => none
 | m + 1, .code (.seq a b) :: k, s => exG P C rs f m (.code a :: .code b :: k) s
 | m + 1, .code (.cond x a b) :: k, s => match s.ev x with
  | .bool true => exG P C rs f m (.code a :: k) s
  | .bool false => exG P C rs f m (.code b :: k) s
  | _ => none
 | m + 1, .code (.block id a) :: k, s => exG P C rs f m (.code a :: .blk id :: k) s
 | m + 1, .code (.loop a) :: k, s => exG P C rs f m (.code a :: .lp a :: k) s
 | m + 1, .code (.exit id) :: k, s => match Nat.beq 999999999 id, V5 id k with
  | false, some k' => exG P C rs f m k' s
  | _, _ => none
 | _ + 1, .code .ret :: _, s => C3j rs s
 | m + 1, .blk _ :: k, s => exG P C rs f m k s
 | m + 1, .lp a :: k, s => exG P C rs f m (.code a :: .lp a :: k) s
 | m + 1, .code (.dfr d) :: k, s => exG P C rs f m k ⟨D4 s.sl d .undef, s.h, s.n⟩
 | _ + 1, .code (.rng ..) :: _, _ => none
 | _ + 1, .beg :: _, _ => none
theorem B2X {N : Nat} {rs : List RV} {s : St} (hg : Good (C3j rs s) k) : B4n ⟨P, N, rs, k, none, none⟩ s := by
 unfold C3j at hg
 unfold B4n
 split at hg
 ·rename_i vs hvs
  simp only
  rw [hvs]
  exact hg.one
 ·exact hg.no.elim
theorem K4 (hC : G6 P C) {N : Nat} {rs : List RV} {f : Nat} : ∀ {m : Nat} {l : List AItem} {s : St}, Good (exG P C rs f m l s) k → Run ⟨P, N, rs, k, none, none⟩ l s
 | 0, _, _, hg => hg.no.elim
 | m + 1, [], s, hg => Run.go 1 (B2X hg)
 | m + 1, .code .skip :: l, s, hg => Run.go 1 (K4 hC (m := m) hg)
 | m + 1, .code (.ops is) :: l, s, hg => by
  simp only [exG] at hg
  split at hg
  ·rename_i t ht; exact Run.wk (C3s f is s) (Run.go 1 (B7L hC (K4 hC (m := m) hg) ht))
  ·exact hg.no.elim
 | m + 1, .code .bad :: _, _, hg => hg.no.elim
 | m + 1, .code (.seq a b) :: l, s, hg => Run.go 1 (K4 hC (m := m) hg)
 | m + 1, .code (.cond x a b) :: l, s, hg => by
  simp only [exG] at hg
  split at hg
  ·rename_i hv; exact fun fn bs hrs => OK.cond hv (fun _ => K4 hC (m := m) hg fn bs hrs) (fun e => by cases e)
  ·rename_i hv; exact fun fn bs hrs => OK.cond hv (fun e => by cases e) (fun _ => K4 hC (m := m) hg fn bs hrs)
  ·exact hg.no.elim
 | m + 1, .code (.block id a) :: l, s, hg => Run.go 1 (K4 hC (m := m) hg)
 | m + 1, .code (.loop a) :: l, s, hg => Run.loop (K4 hC (m := m) hg)
 | m + 1, .code (.exit id) :: l, s, hg => by
  simp only [exG] at hg
  split at hg
  ·rename_i k' hsc hk; exact fun fn bs hrs => OK.exit hsc hk (K4 hC (m := m) hg fn bs hrs)
  ·exact hg.no.elim
 | m + 1, .code .ret :: _, s, hg => Run.go 1 (B2X hg)
 | m + 1, .blk _ :: l, s, hg => Run.go 1 (K4 hC (m := m) hg)
 | m + 1, .lp a :: l, s, hg => Run.lp (K4 hC (m := m) hg)
 | m + 1, .code (.dfr d) :: l, s, hg => Run.go 1 (K4 hC (m := m) hg)
 | m + 1, .code (.rng ..) :: _, _, hg => hg.no.elim
 | m + 1, .beg :: _, _, hg => hg.no.elim
end
def exC (P : Program) (T : List (FuncId × Nat × AC × List RV)) (lib : I8) (m : Nat) : Nat → I8
 | 0, _, _, _, _ => none
 | d + 1, f, xs, h, n => match lib f xs h n with
  | some l => some l
  | none => match look T f with
   | some e => (gE (Nat.ble xs.length e.1) (exG P (exC P T lib m d) e.2.2 n m [.code e.2.1] ⟨A8 0 xs, h, n⟩)).map (B9q n)
   | none => none
where
 look : List (FuncId × Nat × AC × List RV) → FuncId → Option (Nat × AC × List RV)
  | [], _ => none
  | e :: r, f => bif Nat.beq e.1 f then some e.2 else look r f
def C0 (P : Program) (T : List (FuncId × Nat × AC × List RV)) : Prop := ∀ e ∈ T, B8 P e.1 = some e.2
theorem C0.nil {P : Program} : C0 P [] := fun e h => by cases h
theorem C0.cons {P : Program} {T : List (FuncId × Nat × AC × List RV)} {f N : Nat} {ac : AC} {rs : List RV} (h : B8 P f = some (N, ac, rs)) (hr : C0 P T) : C0 P ((f, N, ac, rs) :: T) := fun e he => by
 rcases List.mem_cons.1 he with rfl | he
 ·exact h
 ·exact hr e he
theorem C0.look {P : Program} : ∀ {T : List (FuncId × Nat × AC × List RV)}, C0 P T → ∀ {f : FuncId} {c}, exC.look T f = some c → B8 P f = some c
 | [], _, f, c, h => by cases h
 | e :: r, hT, f, c, h => by
  simp only [exC.look] at h
  cases hb : Nat.beq e.1 f with
  | true =>
   rw [hb] at h; injection h with h
   rw [← Nat.eq_of_beq_eq_true hb, ← h]; exact hT e List.mem_cons_self
  | false => rw [hb] at h; exact C0.look (fun e he => hT e (List.mem_cons_of_mem _ he)) h
def B2U : I8 := fun _ _ _ _ => none
theorem A1i {P : Program} : G6 P B2U := fun _ _ _ _ _ hg => hg.no.elim
theorem B2T {P : Program} {T : List (FuncId × Nat × AC × List RV)} {lib : I8} (hT : C0 P T) (hl : G6 P lib) {m : Nat} : ∀ {d : Nat}, G6 P (exC P T lib m d)
 | 0, _, _, _, _, _, hg => hg.no.elim
 | d + 1, f, xs, h, n, k, hg => by
  simp only [exC] at hg
  split at hg
  ·rename_i l he; exact hl f xs h n k (by rw [he]; exact hg)
  ·split at hg
   ·rename_i e he
    refine C0w (fun k hg => ?_) hg
    obtain ⟨h1, hg⟩ := hg.g
    exact A3.enter (N := e.1) (ac := e.2.1) (rs := e.2.2) (hT.look he) (Nat.le_of_ble_eq_true h1) (K4 (B2T hT hl) hg)
   ·exact hg.no.elim
def exR (P : Program) (T : List (FuncId × Nat × AC × List RV)) (lib : I8) (m d : Nat) (fr : Nat) (f : FuncId) (xs : List V) : Option V :=
 (exC P T lib m d f xs [] 0).map fun x => frz fr x.2.1 x.1
theorem Pure.exec {P : Program} {T : List (FuncId × Nat × AC × List RV)} {lib : I8} (hT : C0 P T) (hl : G6 P lib) {m d fr : Nat} {f : FuncId} {xs : List V} {r : V} (h : exR P T lib m d fr f xs = some r) : Pure P f xs r := by
 refine Pure.of fr (B2T (d := d) (m := m) hT hl f xs [] 0 _ ?_)
 obtain ⟨x, h1, h2⟩ := Option.map_eq_some_iff.1 h
 exact ⟨x, h1, h2⟩
def eqR (o : Option V) (r : V) : Bool :=
 match o with
 | some v => V.beq v r
 | none => false
theorem Pure.execB {P : Program} {T : List (FuncId × Nat × AC × List RV)} {lib : I8} (hT : C0 P T) (hl : G6 P lib) {m d fr : Nat} {f : FuncId} {xs : List V} {r : V} (h : eqR (exR P T lib m d fr f xs) r = true) : Pure P f xs r := by
 unfold eqR at h
 split at h
 ·rename_i v hv; exact Pure.exec hT hl (by rw [hv, V.beq_eq h])
 ·cases h
end Go.Abs
