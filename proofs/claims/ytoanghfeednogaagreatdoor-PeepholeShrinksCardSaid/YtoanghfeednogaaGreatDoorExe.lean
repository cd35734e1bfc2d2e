/-
 Abstract code run as a program on known data: what it answers is a contract. No condition.
-/
import Derived.Test.YtoanghfeednogaaGreatDoorWk
set_option linter.unusedVariables false
set_option linter.unusedSimpArgs false
namespace Go.Abs
abbrev O5 := Option (V × A0 × Nat)
def D9 (v : V) (h : A0) (n : Nat) : O5 := some (v, h, n)
def A2X (o : Option V) (h : A0) (n : Nat) : O5 :=
 match o with
 | some v => D9 v h n
 | none => none
def gE (b : Bool) (r : O5) : O5 := bif b then r else none
def Good (o : O5) (k : Res) : Prop := ∃ x, o = some x ∧ k x.1 x.2.1 x.2.2
theorem Good.one {v : V} {h : A0} {n : Nat} {k : Res} (hg : Good (D9 v h n) k) : k v h n := by
 obtain ⟨l, h1, h2⟩ := hg
 injection h1 with h1
 subst h1
 exact h2
theorem Good.opt {o : Option V} {h : A0} {n : Nat} {k : Res} (hg : Good (A2X o h n) k) : G3 o k h n := by
 cases o with
 | none => obtain ⟨l, h1, _⟩ := hg; cases h1
 | some v => exact Good.one hg
theorem Good.g {b : Bool} {o : O5} {k : Res} (hg : Good (gE b o) k) : b = true ∧ Good o k := by
 cases b with
 | false => obtain ⟨l, h1, _⟩ := hg; cases h1
 | true => exact ⟨rfl, hg⟩
theorem Good.no {k : Res} (hg : Good none k) : False := by obtain ⟨l, h1, _⟩ := hg; cases h1
def B3e (es : List (List V)) (sz : Nat) : Bool := es.all fun r => Nat.beq r.length sz
theorem A4l {es : List (List V)} {sz : Nat} (h : B3e es sz = true) : B6 es sz := fun r hr => Nat.eq_of_beq_eq_true (List.all_eq_true.1 h r hr)
def zle (a b : Int) : Bool := match b - a with
 | .ofNat _ => true
 | .negSucc _ => false
theorem R8 {a b : Int} : zle a b = true ↔ a ≤ b := by
 unfold zle
 split
 ·rename_i m h
  have h : b - a = (m : Int) := h
  simp only [true_iff]; omega
 ·rename_i m h
  simp only [Bool.false_eq_true, false_iff]; omega
def zlt (a b : Int) : Bool := zle (a + 1) b
theorem A6Y {a b : Int} : zlt a b = true ↔ a < b := by unfold zlt; rw [R8]; omega
def zeq (a b : Int) : Bool := match a, b with
 | .ofNat a, .ofNat b => Nat.beq a b
 | .negSucc a, .negSucc b => Nat.beq a b
 | _, _ => false
theorem B2c {a b : Int} : zeq a b = true ↔ a = b := by
 unfold zeq
 cases a <;> cases b <;> simp <;> omega
theorem C0k (a b : Int) : decide (a ≤ b) = zle a b := by rw [Bool.eq_iff_iff, decide_eq_true_eq, R8]
theorem C0l (a b : Int) : decide (a < b) = zlt a b := by rw [Bool.eq_iff_iff, decide_eq_true_eq, A6Y]
theorem C0j (a b : Int) : decide (a = b) = zeq a b := by rw [Bool.eq_iff_iff, decide_eq_true_eq, B2c]
def kEq : IntKind → IntKind → Bool
 | .i8, .i8 | .i16, .i16 | .i32, .i32 | .i64, .i64 | .u8, .u8 | .u16, .u16 | .u32, .u32 | .u64, .u64 => true
 | _, _ => false
theorem B5s {a b : IntKind} : kEq a b = true ↔ a = b := by cases a <;> cases b <;> simp [kEq]
def C8m (k : IntKind) (z : Int) : Bool :=
 match k with
 | .i64 => zle (-9223372036854775808) z && zle z 9223372036854775807
 | _ => true
theorem C3t {k : IntKind} {z : Int} (h : C8m k z = true) : inR k z := by
 cases k <;> simp only [C8m, inR, Bool.and_eq_true, R8] at h ⊢
 exact h
def B0k (k : IntKind) (z : Int) (h : A0) (n : Nat) : O5 := gE (C8m k z) (D9 (B4Q k z) h n)
theorem Good.arith {j : IntKind} {z : Int} {h : A0} {n : Nat} {k : Res} (hg : Good (B0k j z h n) k) : R9 j z k h n := ⟨C3t hg.g.1, hg.g.2.one⟩
theorem B0E {a b : Nat} : Nat.beq a b = true ↔ a = b := ⟨Nat.eq_of_beq_eq_true, fun h => h ▸ Nat.beq_refl a⟩
def Q8 : List UInt8 → List UInt8 → Bool
 | [], [] => true
 | a :: r, b :: s => Nat.beq a.toNat b.toNat && Q8 r s
 | _, _ => false
theorem A1I : ∀ {a b : List UInt8}, Q8 a b = true ↔ a = b
 | [], [] => by simp [Q8]
 | [], _ :: _ => by simp [Q8]
 | _ :: _, [] => by simp [Q8]
 | a :: r, b :: s => by
  simp only [Q8, Bool.and_eq_true, A1I, List.cons.injEq, B0E]
  rw [← UInt8.toNat_inj]
theorem A6N (a b : List UInt8) : decide (a = b) = Q8 a b := by rw [Bool.eq_iff_iff, decide_eq_true_eq, A1I]
def C7B (op : BinOp) (x y : V) (h : A0) (n : Nat) : O5 :=
 match x, y with
 | .int j a, .int j' b => gE (kEq j j') (match op with
  | .add => B0k j (a + b) h n
  | .sub => B0k j (a - b) h n
  | .mul => B0k j (a * b) h n
  | .quo => gE (!zeq b 0) (B0k j (a.tdiv b) h n)
  | .rem => gE (!zeq b 0) (D9 (.int j (a.tmod b)) h n)
  | .eql => D9 (.bool (zeq a b)) h n
  | .neq => D9 (.bool (!zeq a b)) h n
  | .lss => D9 (.bool (zlt a b)) h n
  | .leq => D9 (.bool (zle a b)) h n
  | .gtr => D9 (.bool (zlt b a)) h n
  | .geq => D9 (.bool (zle b a)) h n
  | .and => D9 (.int j (v8 .and j a b)) h n
  | .or => D9 (.int j (v8 .or j a b)) h n
  | .xor => D9 (.int j (v8 .xor j a b)) h n
  | .andNot => D9 (.int j (v8 .andNot j a b)) h n
  | _ => none)
 | .str a, .str b => match op with
  | .add => gE (Nat.ble (a.length + b.length) 1099511627776) (D9 (.str (a ++ b)) h n)
  | .eql => D9 (.bool (Q8 a b)) h n
  | .neq => D9 (.bool (!Q8 a b)) h n
  | .lss => D9 (.bool (M3 a b)) h n
  | .geq => D9 (.bool (!M3 a b)) h n
  | .leq => D9 (.bool (M3 a b || Q8 a b)) h n
  | .gtr => D9 (.bool !(M3 a b || Q8 a b)) h n
  | _ => none
 | _, _ => none
theorem C0a {a b : Int} (h : (!zeq a b) = true) : a ≠ b := fun e => by
 rw [B2c.2 e] at h; cases h
theorem Good.bin {op : BinOp} {x y : V} {h : A0} {n : Nat} {k : Res} (hg : Good (C7B op x y h n) k) : S0 op x y k h n := by
 unfold C7B at hg
 split at hg
 ·rename_i j a j' b
  obtain ⟨h1, hg⟩ := hg.g
  have h1 := B5s.1 h1
  unfold S0
  refine ⟨h1, ?_⟩
  cases op <;> simp only at hg ⊢
  case add => exact hg.arith
  case sub => exact hg.arith
  case mul => exact hg.arith
  case quo => exact ⟨C0a hg.g.1, hg.g.2.arith⟩
  case rem => exact ⟨C0a hg.g.1, hg.g.2.one⟩
  case eql => rw [C0j]; exact hg.one
  case neq => rw [decide_not, C0j]; exact hg.one
  case lss => rw [C0l]; exact hg.one
  case leq => rw [C0k]; exact hg.one
  case gtr => rw [C0l]; exact hg.one
  case geq => rw [C0k]; exact hg.one
  case and => exact hg.one
  case or => exact hg.one
  case xor => exact hg.one
  case andNot => exact hg.one
  all_goals exact hg.no
 ·rename_i a b
  unfold S0
  cases op <;> simp only at hg ⊢
  case add => exact ⟨Nat.le_of_ble_eq_true hg.g.1, hg.g.2.one⟩
  case eql => rw [A6N]; exact hg.one
  case neq => rw [decide_not, A6N]; exact hg.one
  case lss => exact hg.one
  case geq => exact hg.one
  case leq => rw [A6N]; exact hg.one
  case gtr => rw [A6N]; exact hg.one
  all_goals exact hg.no
 ·exact hg.no.elim
def unE (op : UnOp) (x : V) (h : A0) (n : Nat) : O5 :=
 match op, x with
 | .neg, .int j a => B0k j (0 - a) h n
 | .not, .bool b => D9 (.bool !b) h n
 | .xor, .int j a => D9 (.int j (v8 .xor j (bif j.signed then -1 else j.max) a)) h n
 | _, _ => none
theorem Good.un {op : UnOp} {x : V} {h : A0} {n : Nat} {k : Res} (hg : Good (unE op x h n) k) : unK op x k h n := by
 unfold unE at hg
 split at hg
 ·exact hg.arith
 ·exact hg.one
 ·exact hg.one
 ·exact hg.no.elim
def B8u (sz : Nat) (x i : V) (h : A0) (n : Nat) : O5 :=
 match i with
 | .int _ z => match x with
  | .sl b st i0 m => gE (zle 0 z && zlt z m && (match A8P (A0.get h b st) with | some s => Nat.beq s sz | none => false)) (D9 (.ptr b st (i0 + z.toNat) 0) h n)
  | .isl es => gE (zle 0 z && zlt z es.length && B3e es sz) (D9 (.iptr es z.toNat 0) h n)
  | _ => none
 | _ => none
theorem Good.iaddr {sz : Nat} {x i : V} {h : A0} {n : Nat} {k : Res} (hg : Good (B8u sz x i h n) k) : A0O sz x i k h n := by
 unfold B8u at hg
 split at hg
 ·split at hg
  ·obtain ⟨h1, hg⟩ := hg.g
   simp only [Bool.and_eq_true, R8, A6Y] at h1
   obtain ⟨⟨a, b⟩, c⟩ := h1
   refine ⟨a, b, ?_, hg.one⟩
   split at c
   ·rename_i s hs; rw [hs, Nat.eq_of_beq_eq_true c]
   ·cases c
  ·obtain ⟨h1, hg⟩ := hg.g
   simp only [Bool.and_eq_true, R8, A6Y] at h1
   exact ⟨h1.1.1, h1.1.2, A4l h1.2, hg.one⟩
  ·exact hg.no.elim
 ·exact hg.no.elim
def B5q (len sz : Nat) (x i : V) (h : A0) (n : Nat) : O5 :=
 match i with
 | .int _ z => match x with
  | .ptr b st i0 j => gE (zle 0 z && zlt z len) (D9 (.ptr b st i0 (j + z.toNat * sz)) h n)
  | .iptr es i0 j => gE (zle 0 z && zlt z len) (D9 (.iptr es i0 (j + z.toNat * sz)) h n)
  | _ => none
 | _ => none
theorem Good.iaddrA {len sz : Nat} {x i : V} {h : A0} {n : Nat} {k : Res} (hg : Good (B5q len sz x i h n) k) : q8 len sz x i k h n := by
 unfold B5q at hg
 split at hg
 ·split at hg
  ·obtain ⟨h1, hg⟩ := hg.g
   simp only [Bool.and_eq_true, R8, A6Y] at h1
   exact ⟨h1.1, h1.2, hg.one⟩
  ·obtain ⟨h1, hg⟩ := hg.g
   simp only [Bool.and_eq_true, R8, A6Y] at h1
   exact ⟨h1.1, h1.2, hg.one⟩
  ·exact hg.no.elim
 ·exact hg.no.elim
def C8k (x i : V) (h : A0) (n : Nat) : O5 :=
 match x, i with
 | .str s, .int _ z => gE (zle 0 z) (A2X ((s[z.toNat]?).map fun b => .int .u8 b.toNat) h n)
 | _, _ => none
theorem Good.idx {x i : V} {h : A0} {n : Nat} {k : Res} (hg : Good (C8k x i h n) k) : B5r x i k h n := by
 unfold C8k at hg
 split at hg
 ·exact ⟨R8.1 hg.g.1, hg.g.2.opt⟩
 ·exact hg.no.elim
def shE (left : Bool) (x y : V) (h : A0) (n : Nat) : O5 :=
 match x, y with
 | .int j a, .int _ b => gE (zle 0 b) (D9 (.int j (shZ left j a b)) h n)
 | _, _ => none
theorem Good.sh {l : Bool} {x y : V} {h : A0} {n : Nat} {k : Res} (hg : Good (shE l x y h n) k) : shK l x y k h n := by
 unfold shE at hg
 split at hg
 ·exact ⟨R8.1 hg.g.1, hg.g.2.one⟩
 ·exact hg.no.elim
def C3s (len sz m : Nat) (agg : Bool) (x i : V) (h : A0) (n : Nat) : O5 :=
 match x, i with
 | .agg cs, .int _ z => gE (zle 0 z && zlt z len) (A2X (J9 cs (z.toNat * sz) m agg) h n)
 | _, _ => none
theorem Good.idxA {len sz m : Nat} {agg : Bool} {x i : V} {h : A0} {n : Nat} {k : Res} (hg : Good (C3s len sz m agg x i h n) k) : A5O len sz m agg x i k h n := by
 unfold C3s at hg
 split at hg
 ·obtain ⟨h1, hg⟩ := hg.g
  simp only [Bool.and_eq_true, R8, A6Y] at h1
  exact ⟨h1.1, h1.2, hg.opt⟩
 ·exact hg.no.elim
def C7N (z : List V) (x : V) (h : A0) (n : Nat) : O5 :=
 match x with
 | .nils => D9 (.tup []) h n
 | .sl b st i m => match A0.get h b st with
  | some (.rows sz rs) => gE (Nat.beq sz z.length && Nat.ble (i + m) rs.length) (D9 (.tup []) (A0.put h b st (.rows sz (rs.take i ++ List.replicate m z ++ rs.drop (i + m)))) n)
  | _ => none
 | _ => none
theorem Good.clr {z : List V} {x : V} {h : A0} {n : Nat} {k : Res} (hg : Good (C7N z x h n) k) : B1v z x k h n := by
 unfold C7N at hg
 unfold B1v
 split at hg
 ·exact hg.one
 ·simp only
  split at hg
  ·rename_i he
   obtain ⟨h1, hg⟩ := hg.g
   simp only [Bool.and_eq_true, B0E, Nat.ble_eq] at h1
   rw [he]
   exact ⟨h1.1, h1.2, hg.one⟩
  ·exact hg.no.elim
 ·exact hg.no.elim
def C8K (nm : Nat) (rs : Option (List (List V))) (h : A0) (n : Nat) : O5 :=
 match rs with
 | some rs => gE (Nat.ble 1 rs.length) (D9 (.sl nm n 0 rs.length) (A0.put h nm n (.raw rs)) (n + 1))
 | none => none
theorem Good.raw {nm : Nat} {rs : Option (List (List V))} {h : A0} {n : Nat} {k : Res} (hg : Good (C8K nm rs h n) k) : B8S nm rs k h n := by
 unfold C8K at hg
 split at hg
 ·obtain ⟨h1, hg⟩ := hg.g
  exact ⟨Nat.le_of_ble_eq_true h1, hg.one⟩
 ·exact hg.no.elim
def C7S (x : V) (h : A0) (n : Nat) : O5 :=
 match x with
 | .sl b st 0 m => match A0.get h b st with
  | some (.raw rs) => gE (Nat.beq m rs.length) (D9 (.sl b st 0 m) (A0.put h b st (.rows 1 rs)) n)
  | _ => none
 | _ => none
theorem Good.cvr {x : V} {h : A0} {n : Nat} {k : Res} (hg : Good (C7S x h n) k) : B5e x k h n := by
 unfold C7S at hg
 unfold B5e
 split at hg
 ·simp only
  split at hg
  ·rename_i he
   obtain ⟨h1, hg⟩ := hg.g
   rw [he]
   exact ⟨Nat.eq_of_beq_eq_true h1, hg.one⟩
  ·exact hg.no.elim
 ·exact hg.no.elim
def C2E (nm : Nat) (x : V) (h : A0) (n : Nat) : O5 :=
 match x with
 | .str s => D9 (.sl nm n 0 s.length) (A0.put h nm n (.rows 1 (K0 s))) (n + 1)
 | _ => none
theorem Good.byts {nm : Nat} {x : V} {h : A0} {n : Nat} {k : Res} (hg : Good (C2E nm x h n) k) : A7g nm x k h n := by
 unfold C2E at hg
 split at hg
 ·exact hg.one
 ·exact hg.no.elim
def C9d (nm sz : Nat) (x : V) (h : A0) (n : Nat) : O5 :=
 match x with
 | .nils | .isl _ | .sl .. => D9 (.sl nm n 0 0) (A0.put h nm n (.rows sz [])) (n + 1)
 | _ => none
theorem Good.slz {nm sz : Nat} {x : V} {h : A0} {n : Nat} {k : Res} (hg : Good (C9d nm sz x h n) k) : B1N nm sz x k h n := by
 unfold C9d at hg
 split at hg
 ·exact hg.one
 ·exact hg.one
 ·exact hg.one
 ·exact hg.no.elim
def C7F (nm sz : Nat) (cs : Option (List V)) (h : A0) (n : Nat) : O5 :=
 match cs with
 | some cs => gE (Nat.beq cs.length sz) (D9 (.ptr nm n 0 0) (A0.put h nm n (.rows sz [cs])) (n + 1))
 | none => none
theorem Good.box {nm sz : Nat} {cs : Option (List V)} {h : A0} {n : Nat} {k : Res} (hg : Good (C7F nm sz cs h n) k) : B4Z nm sz cs k h n := by
 unfold C7F at hg
 split at hg
 ·exact ⟨Nat.eq_of_beq_eq_true hg.g.1, hg.g.2.one⟩
 ·exact hg.no.elim
def C8S (nm sz : Nat) (rs : Option (List (List V))) (h : A0) (n : Nat) : O5 :=
 match rs with
 | some rs => D9 (.sl nm n 0 rs.length) (A0.put h nm n (.rows sz rs)) (n + 1)
 | none => none
theorem Good.row {nm sz : Nat} {rs : Option (List (List V))} {h : A0} {n : Nat} {k : Res} (hg : Good (C8S nm sz rs h n) k) : B9b nm sz rs k h n := by
 unfold C8S at hg
 split at hg
 ·exact hg.one
 ·exact hg.no.elim
def C8n (rs : Option (List (List V))) (h : A0) (n : Nat) : O5 :=
 match rs with
 | some rs => D9 (.isl rs) h n
 | none => none
theorem Good.isl {rs : Option (List (List V))} {h : A0} {n : Nat} {k : Res} (hg : Good (C8n rs h n) k) : B6N rs k h n := by
 unfold C8n at hg
 split at hg
 ·exact hg.one
 ·exact hg.no.elim
def C3r (h : Option A0) (n : Nat) : O5 :=
 match h with
 | some h => D9 .undef h n
 | none => none
theorem Good.heap {h : Option A0} {n : Nat} {k : Res} (hg : Good (C3r h n) k) : A7u h k n := by
 unfold C3r at hg
 split at hg
 ·exact hg.one
 ·exact hg.no.elim
def C4U (L nm sz : Nat) (s : V) (xs : Option (List (List V))) (h : A0) (n : Nat) : O5 :=
 match xs with
 | none => none
 | some xs => gE (B3e xs sz) (match s with
  | .nils => gE (Nat.ble xs.length L) (D9 (.sl nm n 0 xs.length) (A0.put h nm n (.rows sz xs)) (n + 1))
  | .sl b st i m => match A0.get h b st with
   | some (.rows sz' rs) => gE (Nat.beq sz' sz && Nat.ble (i + m) rs.length && Nat.ble (m + xs.length) L)
     (D9 (.sl b n 0 (m + xs.length)) (A0.put h b n (.rows sz ((rs.drop i).take m ++ xs))) (n + 1))
   | _ => none
  | _ => none)
theorem Good.app {L nm sz : Nat} {s : V} {xs : Option (List (List V))} {h : A0} {n : Nat} {k : Res} (hg : Good (C4U L nm sz s xs h n) k) : A5E L nm sz s xs k h n := by
 unfold C4U at hg
 split at hg
 ·exact hg.no.elim
 ·obtain ⟨h0, hg⟩ := hg.g
  unfold A5E
  refine ⟨A4l h0, ?_⟩
  split at hg
  ·exact ⟨Nat.le_of_ble_eq_true hg.g.1, hg.g.2.one⟩
  ·simp only
   split at hg
   ·rename_i he
    obtain ⟨h1, hg⟩ := hg.g
    simp only [Bool.and_eq_true, B0E, Nat.ble_eq] at h1
    rw [he]
    exact ⟨h1.1.1, h1.1.2, h1.2, hg.one⟩
   ·exact hg.no.elim
  ·exact hg.no.elim
def C2P (sz : Nat) (d : V) (xs : Option (List (List V))) (h : A0) (n : Nat) : O5 :=
 match xs with
 | none => none
 | some xs => gE (B3e xs sz) (match d with
  | .nils => D9 (.int .i64 0) h n
  | .sl b st i m => match A0.get h b st with
   | some (.rows sz' rs) => gE (Nat.beq sz' sz && Nat.ble (i + m) rs.length)
     (D9 (.int .i64 (min xs.length m : Nat)) (A0.put h b st (.rows sz (rs.take i ++ xs.take (min xs.length m) ++ rs.drop (i + min xs.length m)))) n)
   | _ => none
  | _ => none)
theorem Good.copy {sz : Nat} {d : V} {xs : Option (List (List V))} {h : A0} {n : Nat} {k : Res} (hg : Good (C2P sz d xs h n) k) : A4t sz d xs k h n := by
 unfold C2P at hg
 split at hg
 ·exact hg.no.elim
 ·obtain ⟨h0, hg⟩ := hg.g
  unfold A4t
  refine ⟨A4l h0, ?_⟩
  split at hg
  ·exact hg.one
  ·simp only
   split at hg
   ·rename_i he
    obtain ⟨h1, hg⟩ := hg.g
    simp only [Bool.and_eq_true, B0E, Nat.ble_eq] at h1
    rw [he]
    exact ⟨h1.1, h1.2, hg.one⟩
   ·exact hg.no.elim
  ·exact hg.no.elim
def C3H (nm : Nat) (z : List V) (x : V) (h : A0) (n : Nat) : O5 :=
 match x with
 | .int .i64 m => gE (zle 0 m && zle m 137438953472) (D9 (.sl nm n 0 m.toNat) (A0.put h nm n (.rows z.length (List.replicate m.toNat z))) (n + 1))
 | _ => none
theorem Good.mksl {nm : Nat} {z : List V} {x : V} {h : A0} {n : Nat} {k : Res} (hg : Good (C3H nm z x h n) k) : B1h nm z x k h n := by
 unfold C3H at hg
 split at hg
 ·obtain ⟨h1, hg⟩ := hg.g
  simp only [Bool.and_eq_true, R8] at h1
  exact ⟨h1.1, h1.2, hg.one⟩
 ·exact hg.no.elim
def C8Y (sz : Nat) (x : V) (lo hi : Option V) (h : A0) (n : Nat) : O5 :=
 match x with
 | .sl b st i m => match E9 0 lo, E9 m hi with
  | some l, some u => gE ((match A8P (A0.get h b st) with | some s => Nat.beq s sz | none => false) && zle 0 l && zle l u && zle u m) (D9 (.sl b st (i + l.toNat) (u - l).toNat) h n)
  | _, _ => none
 | .isl es => match E9 0 lo, E9 es.length hi with
  | some l, some u => gE (B3e es sz && zle 0 l && zle l u && zle u es.length) (D9 (.isl ((es.drop l.toNat).take (u - l).toNat)) h n)
  | _, _ => none
 | .nils => match E9 0 lo, E9 0 hi with
  | some l, some u => gE (zeq l 0 && zeq u 0) (D9 .nils h n)
  | _, _ => none
 | _ => none
theorem Good.slc {sz : Nat} {x : V} {lo hi : Option V} {h : A0} {n : Nat} {k : Res} (hg : Good (C8Y sz x lo hi h n) k) : A9Y sz x lo hi k h n := by
 unfold C8Y at hg
 unfold A9Y
 split at hg
 ·simp only
  split at hg
  ·rename_i h1 h2
   obtain ⟨h0, hg⟩ := hg.g
   simp only [Bool.and_eq_true, R8] at h0
   rw [h1, h2]
   refine ⟨?_, h0.1.1.2, h0.1.2, h0.2, hg.one⟩
   have c := h0.1.1.1
   split at c
   ·rename_i s hs; rw [hs, Nat.eq_of_beq_eq_true c]
   ·cases c
  ·exact hg.no.elim
 ·simp only
  split at hg
  ·rename_i h1 h2
   obtain ⟨h0, hg⟩ := hg.g
   simp only [Bool.and_eq_true, R8] at h0
   rw [h1, h2]
   exact ⟨A4l h0.1.1.1, h0.1.1.2, h0.1.2, h0.2, hg.one⟩
  ·exact hg.no.elim
 ·simp only
  split at hg
  ·rename_i h1 h2
   obtain ⟨h0, hg⟩ := hg.g
   simp only [Bool.and_eq_true, B2c] at h0
   rw [h1, h2]
   exact ⟨h0.1, h0.2, hg.one⟩
  ·exact hg.no.elim
 ·exact hg.no.elim
def C9b (x : V) (lo hi : Option V) (h : A0) (n : Nat) : O5 :=
 match x with
 | .str s => match E9 0 lo, E9 s.length hi with
  | some l, some u => gE (zle 0 l && zle l u && zle u s.length) (D9 (.str ((s.drop l.toNat).take (u - l).toNat)) h n)
  | _, _ => none
 | _ => none
theorem Good.sls {x : V} {lo hi : Option V} {h : A0} {n : Nat} {k : Res} (hg : Good (C9b x lo hi h n) k) : B1M x lo hi k h n := by
 unfold C9b at hg
 unfold B1M
 split at hg
 ·simp only
  split at hg
  ·rename_i h1 h2
   obtain ⟨h0, hg⟩ := hg.g
   simp only [Bool.and_eq_true, R8] at h0
   rw [h1, h2]
   exact ⟨h0.1.1, h0.1.2, h0.2, hg.one⟩
  ·exact hg.no.elim
 ·exact hg.no.elim
def B0y (k : V) : List (V × V) → Bool
 | [] => true
 | e :: r => (A0P k e.1).isSome && B0y k r
theorem A4c {k : V} : ∀ {l : List (V × V)}, B0y k l = true → A0e k l
 | [], _ => trivial
 | _ :: _, h => by
  simp only [B0y, Bool.and_eq_true] at h
  exact ⟨h.1, A4c h.2⟩
def C3E (kd : Nat) (z : V) (ok : Bool) (m key : V) (h : A0) (n : Nat) : O5 :=
 match m with
 | .nilm => gE (w6 kd key) (D9 (A9r z ok none) h n)
 | .mp b st => match A0.get h b st with
  | some (.map es) => gE (w6 kd key && B0y key es) (D9 (A9r z ok (S4 key es)) h n)
  | _ => none
 | _ => none
theorem Good.look {kd : Nat} {z : V} {ok : Bool} {m key : V} {h : A0} {n : Nat} {k : Res} (hg : Good (C3E kd z ok m key h n) k) : A4x kd z ok m key k h n := by
 unfold C3E at hg
 unfold A4x
 split at hg
 ·exact ⟨hg.g.1, hg.g.2.one⟩
 ·simp only
  split at hg
  ·rename_i he
   obtain ⟨h1, hg⟩ := hg.g
   simp only [Bool.and_eq_true] at h1
   rw [he]
   exact ⟨h1.1, A4c h1.2, hg.one⟩
  ·exact hg.no.elim
 ·exact hg.no.elim
def C3J (kd : Nat) (m key v : V) (h : A0) (n : Nat) : O5 :=
 match m with
 | .mp b st => match A0.get h b st with
  | some (.map es) => gE (w6 kd key && B0y key es) (D9 .undef (A0.put h b st (.map (A2M key v es))) n)
  | _ => none
 | _ => none
theorem Good.mput {kd : Nat} {m key v : V} {h : A0} {n : Nat} {k : Res} (hg : Good (C3J kd m key v h n) k) : A9v kd m key v k h n := by
 unfold C3J at hg
 unfold A9v
 split at hg
 ·simp only
  split at hg
  ·rename_i he
   obtain ⟨h1, hg⟩ := hg.g
   simp only [Bool.and_eq_true] at h1
   rw [he]
   exact ⟨h1.1, A4c h1.2, hg.one⟩
  ·exact hg.no.elim
 ·exact hg.no.elim
def C3F (kd : Nat) (m key : V) (h : A0) (n : Nat) : O5 :=
 match m with
 | .nilm => gE (w6 kd key) (D9 (.tup []) h n)
 | .mp b st => match A0.get h b st with
  | some (.map es) => gE (w6 kd key && B0y key es) (D9 (.tup []) (A0.put h b st (.map (B8K key es))) n)
  | _ => none
 | _ => none
theorem Good.mdel {kd : Nat} {m key : V} {h : A0} {n : Nat} {k : Res} (hg : Good (C3F kd m key h n) k) : A7z kd m key k h n := by
 unfold C3F at hg
 unfold A7z
 split at hg
 ·exact ⟨hg.g.1, hg.g.2.one⟩
 ·simp only
  split at hg
  ·rename_i he
   obtain ⟨h1, hg⟩ := hg.g
   simp only [Bool.and_eq_true] at h1
   rw [he]
   exact ⟨h1.1, A4c h1.2, hg.one⟩
  ·exact hg.no.elim
 ·exact hg.no.elim
abbrev I9 := FuncId → List V → A0 → Nat → O5
def C2F (P : Program) (C : I9) (f : V) (xs : List V) (h : A0) (n : Nat) : O5 :=
 match f with
 | .fn g cs => gE (F0 P g) (C g (xs ++ cs) h n)
 | _ => none
def C8a (fn neg : Bool) (x : V) (h : A0) (n : Nat) : O5 :=
 match fn, x with
 | false, .nils => D9 (.bool !neg) h n
 | false, .isl (_ :: _) => D9 (.bool neg) h n
 | false, .sl _ _ _ (_ + 1) => D9 (.bool neg) h n
 | true, .fn _ _ => D9 (.bool neg) h n
 | true, .cst .nilFunc => D9 (.bool !neg) h n
 | _, _ => none
theorem Good.eqn {fn neg : Bool} {x : V} {h : A0} {n : Nat} {k : Res} (hg : Good (C8a fn neg x h n) k) : A3Z fn neg x k h n := by
 unfold C8a at hg
 split at hg
 ·exact hg.one
 ·exact ⟨hg.one, fun e => by cases e⟩
 ·exact ⟨hg.one, fun e => by cases e⟩
 ·exact hg.one
 ·exact hg.one
 ·exact hg.no.elim
def exO (P : Program) (C : I9) (s : St) : AO → O5
 | .mov x => D9 (s.ev x) s.h s.n
 | .pick c a b => A2X (B7k (s.ev c) (s.ev a) (s.ev b)) s.h s.n
 | .nilck x => A2X (B2V (s.ev x)) s.h s.n
 | .box nm sz x => C7F nm sz (A0I (s.ev x)) s.h s.n
 | .build z ps => A2X ((A0b s z ps).map .agg) s.h s.n
 | .mkrow nm sz xs => C8S nm sz (G0 sz s xs) s.h s.n
 | .mkisl sz xs => C8n (G0 sz s xs) s.h s.n
 | .load m agg x => A2X (A7x s.h (s.ev x) m agg) s.h s.n
 | .store m x v => C3r (B3r s.h (s.ev x) (s.ev v) m) s.n
 | .faddr off x => A2X (B2A off (s.ev x)) s.h s.n
 | .iaddr sz x i => B8u sz (s.ev x) (s.ev i) s.h s.n
 | .iaddrA len sz x i => B5q len sz (s.ev x) (s.ev i) s.h s.n
 | .fld off m agg x => A2X (C3k off m agg (s.ev x)) s.h s.n
 | .idx x i => C8k (s.ev x) (s.ev i) s.h s.n
 | .ext i x => A2X (C3f i (s.ev x)) s.h s.n
 | .bin op x y => C7B op (s.ev x) (s.ev y) s.h s.n
 | .binw op x y => A2X (B2j op (s.ev x) (s.ev y)) s.h s.n
 | .eqp kind neg x y => A2X (bif B1d kind (s.ev x) then B8p neg (s.ev x) (s.ev y) else none) s.h s.n
 | .eqa neg t x y => A2X (C3d neg t (s.ev x) (s.ev y)) s.h s.n
 | .un op x => unE op (s.ev x) s.h s.n
 | .negw x => A2X (B4w (s.ev x)) s.h s.n
 | .conv j x => A2X (B6p j (s.ev x)) s.h s.n
 | .cap0 x => A2X (B6c (s.ev x)) s.h s.n
 | .grw _ _ _ _ | .rgm _ _ | .nxm _ | .ent _ => none
 | .bst x => A2X (C0x (u7 s.h (s.ev x))) s.h s.n
 | .byts nm x => C2E nm (s.ev x) s.h s.n
 | .mkraw nm xs => C8K nm (G0 1 s xs) s.h s.n
 | .cvr x => C7S (s.ev x) s.h s.n
 | .isnil neg x => A2X (B2G neg (s.ev x)) s.h s.n
 | .len kind x => A2X (C3A s.h kind (s.ev x)) s.h s.n
 | .lenc m => D9 (.int .i64 m) s.h s.n
 | .mm mx xs => A2X (mmV mx (xs.map s.ev)) s.h s.n
 | .app nm sz b x => C4U 137438953472 nm sz (s.ev b) (A1G s.h (s.ev x)) s.h s.n
 | .apb L nm sz b x => C4U L nm sz (s.ev b) (A1G s.h (s.ev x)) s.h s.n
 | .copy sz d x => C2P sz (s.ev d) (A1G s.h (s.ev x)) s.h s.n
 | .mksl nm z x => C3H nm z (s.ev x) s.h s.n
 | .slc sz x lo hi => C8Y sz (s.ev x) (lo.map s.ev) (hi.map s.ev) s.h s.n
 | .sls x lo hi => C9b (s.ev x) (lo.map s.ev) (hi.map s.ev) s.h s.n
 | .mkfn f xs => D9 (.fn f (xs.map s.ev)) s.h s.n
 | .mkmap nm => D9 (.mp nm s.n) (A0.put s.h nm s.n (.map [])) (s.n + 1)
 | .look kd z ok m x => C3E kd z ok (s.ev m) (s.ev x) s.h s.n
 | .mput kd m x v => C3J kd (s.ev m) (s.ev x) (s.ev v) s.h s.n
 | .mdel kd m x => C3F kd (s.ev m) (s.ev x) s.h s.n
 | .sh l x y => shE l (s.ev x) (s.ev y) s.h s.n
 | .idxA len sz m agg x i => C3s len sz m agg (s.ev x) (s.ev i) s.h s.n
 | .clr z x => C7N z (s.ev x) s.h s.n
 | .slz nm sz x => C9d nm sz (s.ev x) s.h s.n
 | .call f xs => C f (xs.map s.ev) s.h s.n
 | .callv f xs => C2F P C (s.ev f) (xs.map s.ev) s.h s.n
 | .pcall .. => none
 | .eqn fn neg x => C8a fn neg (s.ev x) s.h s.n
 | .bad => none
def G9 (P : Program) (C : I9) : Prop := ∀ f xs h n k, Good (C f xs h n) k → A2 P f xs h n k
theorem C0V {P : Program} {C : I9} (hC : G9 P C) {s : St} {o : AO} {k : Res} (hg : Good (exO P C s o) k) : A6 P o s k := by
 cases o <;> simp only [exO] at hg <;> simp only [A6]
 case mov => exact hg.one
 case pick => exact hg.opt
 case nilck => exact hg.opt
 case box => exact hg.box
 case build => exact hg.opt
 case mkrow => exact hg.row
 case mkisl => exact hg.isl
 case load => exact hg.opt
 case store => exact hg.heap
 case faddr => exact hg.opt
 case iaddr => exact hg.iaddr
 case iaddrA => exact hg.iaddrA
 case fld => exact hg.opt
 case idx => exact hg.idx
 case ext => exact hg.opt
 case bin => exact hg.bin
 case binw => exact hg.opt
 case eqp => exact hg.opt
 case eqa => exact hg.opt
 case un => exact hg.un
 case negw => exact hg.opt
 case conv => exact hg.opt
 case bst => exact hg.opt
 case cap0 => exact hg.opt
 case grw => exact hg.no.elim
 case rgm => exact hg.no.elim
 case nxm => exact hg.no.elim
 case ent => exact hg.no.elim
 case byts => exact hg.byts
 case mkraw => exact hg.raw
 case cvr => exact hg.cvr
 case isnil => exact hg.opt
 case len => exact hg.opt
 case lenc => exact hg.one
 case mm => exact hg.opt
 case app => exact hg.app
 case apb => exact hg.app
 case copy => exact hg.copy
 case mksl => exact hg.mksl
 case slc => exact hg.slc
 case sls => exact hg.sls
 case mkfn => exact hg.one
 case mkmap => exact hg.one
 case look => exact hg.look
 case mput => exact hg.mput
 case mdel => exact hg.mdel
 case sh => exact hg.sh
 case idxA => exact hg.idxA
 case clr => exact hg.clr
 case slz => exact hg.slz
 case call => exact hC _ _ _ _ _ hg
 case callv =>
  unfold C2F at hg
  split at hg
  ·rename_i g cs he
   rw [he]
   exact ⟨hg.g.1, hC _ _ _ _ _ hg.g.2⟩
  ·exact hg.no.elim
 case pcall => exact hg.no.elim
 case eqn => exact hg.eqn
 case bad => exact hg.no
def bEq : Bool → Bool → Bool
 | true, true | false, false => true
 | _, _ => false
theorem C4Y {a b : Bool} (h : bEq a b = true) : a = b := by cases a <;> cases b <;> first | rfl | cases h
def C2Q : Value → Value → Bool
 | .nilIface, .nilIface => true
 | .nilFunc, .nilFunc => true
 | _, _ => false
theorem C2R {a b : Value} (h : C2Q a b = true) : a = b := by
 unfold C2Q at h
 split at h
 ·rfl
 ·rfl
 ·cases h
mutual
def V.beq : V → V → Bool
 | .undef, .undef => true
 | .bool a, .bool b => bEq a b
 | .int k n, .int k' n' => kEq k k' && zeq n n'
 | .str a, .str b => Q8 a b
 | .agg a, .agg b => V.beqL a b
 | .tup a, .tup b => V.beqL a b
 | .nilp, .nilp => true
 | .ptr b st i j, .ptr b' st' i' j' => Nat.beq b b' && (Nat.beq st st' && (Nat.beq i i' && Nat.beq j j'))
 | .nils, .nils => true
 | .sl b st i j, .sl b' st' i' j' => Nat.beq b b' && (Nat.beq st st' && (Nat.beq i i' && Nat.beq j j'))
 | .isl a, .isl b => V.beqLL a b
 | .iptr a i j, .iptr b i' j' => V.beqLL a b && (Nat.beq i i' && Nat.beq j j')
 | .nilm, .nilm => true
 | .mp b st, .mp b' st' => Nat.beq b b' && Nat.beq st st'
 | .fn f cs, .fn g ds => Nat.beq f g && V.beqL cs ds
 | .err, .err => true
 | .cst v, .cst w => C2Q v w
 | .anyi k, .anyi k' => kEq k k'
 | _, _ => false
def V.beqL : List V → List V → Bool
 | [], [] => true
 | a :: r, b :: s => V.beq a b && V.beqL r s
 | _, _ => false
def V.beqLL : List (List V) → List (List V) → Bool
 | [], [] => true
 | a :: r, b :: s => V.beqL a b && V.beqLL r s
 | _, _ => false
end
mutual
theorem V.beq_eq : ∀ {a b : V}, V.beq a b = true → a = b
 | .undef, b, h => by cases b <;> first | rfl | simp [V.beq] at h
 | .bool a, b, h => by
  cases b <;> simp only [V.beq, Bool.false_eq_true] at h
  rw [C4Y h]
 | .int k n, b, h => by
  cases b <;> simp only [V.beq, Bool.false_eq_true, Bool.and_eq_true] at h
  rw [B5s.1 h.1, B2c.1 h.2]
 | .str a, b, h => by
  cases b <;> simp only [V.beq, Bool.false_eq_true] at h
  rw [A1I.1 h]
 | .agg a, b, h => by
  cases b <;> simp only [V.beq, Bool.false_eq_true] at h
  rw [V.beqL_eq h]
 | .tup a, b, h => by
  cases b <;> simp only [V.beq, Bool.false_eq_true] at h
  rw [V.beqL_eq h]
 | .nilp, b, h => by cases b <;> first | rfl | simp [V.beq] at h
 | .ptr b st i j, x, h => by
  cases x <;> simp only [V.beq, Bool.false_eq_true, Bool.and_eq_true, B0E] at h
  obtain ⟨rfl, rfl, rfl, rfl⟩ := h; rfl
 | .nils, b, h => by cases b <;> first | rfl | simp [V.beq] at h
 | .sl b st i j, x, h => by
  cases x <;> simp only [V.beq, Bool.false_eq_true, Bool.and_eq_true, B0E] at h
  obtain ⟨rfl, rfl, rfl, rfl⟩ := h; rfl
 | .isl a, b, h => by
  cases b <;> simp only [V.beq, Bool.false_eq_true] at h
  rw [V.beqLL_eq h]
 | .iptr a i j, b, h => by
  cases b <;> simp only [V.beq, Bool.false_eq_true, Bool.and_eq_true, B0E] at h
  obtain ⟨h1, rfl, rfl⟩ := h; rw [V.beqLL_eq h1]
 | .nilm, b, h => by cases b <;> first | rfl | simp [V.beq] at h
 | .mp b st, x, h => by
  cases x <;> simp only [V.beq, Bool.false_eq_true, Bool.and_eq_true, B0E] at h
  obtain ⟨rfl, rfl⟩ := h; rfl
 | .fn f cs, x, h => by
  cases x <;> simp only [V.beq, Bool.false_eq_true, Bool.and_eq_true, B0E] at h
  obtain ⟨rfl, h1⟩ := h; rw [V.beqL_eq h1]
 | .cst v, b, h => by
  cases b <;> simp only [V.beq, Bool.false_eq_true] at h
  rw [C2R h]
 | .err, b, h => by cases b <;> first | rfl | simp [V.beq] at h
 | .anyi k, b, h => by
  cases b <;> simp only [V.beq, Bool.false_eq_true] at h
  rw [B5s.1 h]
theorem V.beqL_eq : ∀ {a b : List V}, V.beqL a b = true → a = b
 | [], b, h => by cases b <;> first | rfl | simp [V.beqL] at h
 | x :: r, b, h => by
  cases b <;> simp only [V.beqL, Bool.false_eq_true, Bool.and_eq_true] at h
  rw [V.beq_eq h.1, V.beqL_eq h.2]
theorem V.beqLL_eq : ∀ {a b : List (List V)}, V.beqLL a b = true → a = b
 | [], b, h => by cases b <;> first | rfl | simp [V.beqLL] at h
 | x :: r, b, h => by
  cases b <;> simp only [V.beqLL, Bool.false_eq_true, Bool.and_eq_true] at h
  rw [V.beqL_eq h.1, V.beqLL_eq h.2]
end
def B9u : List (V × V) → List (V × V) → Bool
 | [], [] => true
 | a :: r, b :: s => V.beq a.1 b.1 && (V.beq a.2 b.2 && B9u r s)
 | _, _ => false
theorem B5Z : ∀ {a b : List (V × V)}, B9u a b = true → a = b
 | [], [], _ => rfl
 | [], _ :: _, h => by cases h
 | _ :: _, [], h => by cases h
 | x :: r, y :: s, h => by
  simp only [B9u, Bool.and_eq_true] at h
  rw [show x = y from Prod.ext (V.beq_eq h.1) (V.beq_eq h.2.1), B5Z h.2.2]
def B7U : Blk → Blk → Bool
 | .rows sz rs, .rows sz' rs' => Nat.beq sz sz' && V.beqLL rs rs'
 | .map es, .map es' => B9u es es'
 | _, _ => false
theorem C0u {a b : Blk} (h : B7U a b = true) : a = b := by
 cases a <;> cases b <;> simp only [B7U, Bool.false_eq_true, Bool.and_eq_true, B0E] at h
 ·rw [h.1, V.beqLL_eq h.2]
 ·rw [B5Z h]
def C5b : A0 → A0 → Bool
 | [], [] => true
 | a :: r, b :: s => Nat.beq a.1 b.1 && (Nat.beq a.2.1 b.2.1 && (B7U a.2.2 b.2.2 && C5b r s))
 | _, _ => false
theorem B9t : ∀ {a b : A0}, C5b a b = true → a = b
 | [], [], _ => rfl
 | [], _ :: _, h => by cases h
 | _ :: _, [], h => by cases h
 | (x1, x2, x3) :: r, (y1, y2, y3) :: s, h => by
  simp only [C5b, Bool.and_eq_true, B0E] at h
  obtain ⟨rfl, rfl, h3, h4⟩ := h
  rw [C0u h3, B9t h4]
def B9v : List (Nat × V) → List (Nat × V) → Bool
 | [], [] => true
 | a :: r, b :: s => Nat.beq a.1 b.1 && (V.beq a.2 b.2 && B9v r s)
 | _, _ => false
theorem B6a : ∀ {a b : List (Nat × V)}, B9v a b = true → a = b
 | [], [], _ => rfl
 | [], _ :: _, h => by cases h
 | _ :: _, [], h => by cases h
 | (x1, x2) :: r, (y1, y2) :: s, h => by
  simp only [B9v, Bool.and_eq_true, B0E] at h
  obtain ⟨rfl, h2, h4⟩ := h
  rw [V.beq_eq h2, B6a h4]
def C2A (a b : St) : Bool := B9v a.sl b.sl && (C5b a.h b.h && Nat.beq a.n b.n)
theorem C2B {a b : St} (h : C2A a b = true) : a = b := by
 obtain ⟨a1, a2, a3⟩ := a
 obtain ⟨b1, b2, b3⟩ := b
 simp only [C2A, Bool.and_eq_true, B0E] at h
 rw [B6a h.1, B9t h.2.1, h.2.2]
def C1b (d : Option Nat) (sl : List (Nat × V)) (r : V × A0 × Nat) : St :=
 match d with
 | some i => ⟨D6 sl i r.1, r.2.1, r.2.2⟩
 | none => ⟨sl, r.2.1, r.2.2⟩
def exA (P : Program) (C : I9) (i : AI) (s : St) : Option St :=
 match i.g with
 | none => (exO P C s i.o).map (C1b i.d s.sl)
 | some (j, want) => match C5 s.sl j with
  | .bool b => bif bEq b want then (exO P C ⟨D6 s.sl j (.bool want), s.h, s.n⟩ i.o).map (C1b i.d (D6 s.sl j (.bool want))) else some (C1b i.d (D6 s.sl j (.bool !want)) (.cst Go.undef, s.h, s.n))
  | .cst u => bif A9w u then some (C1b i.d s.sl (.cst Go.undef, s.h, s.n)) else none
  | _ => none
def exV (P : Program) (C : I9) : List AI → St → Option St
 | [], s => some s
 | i :: r, s => match exA P C i s with
  | some s' => exV P C r s'
  | none => none
def B7v (P : Program) (C : I9) (s s' : St) : List (List AI) → Bool
 | [] => true
 | l :: r => match exV P C l s with
  | some s2 => C2A s2 s' && B7v P C s s' r
  | none => false
def C8c (P : Program) (C : I9) (s : St) : List (List AI) → Option St
 | [] => none
 | l :: r => match exV P C l s with
  | some s' => bif B7v P C s s' r then some s' else none
  | none => none
section
variable {P : Program} {C : I9} {k : Res}
theorem A6Q {K' : St → Prop} {d : Option Nat} {sl : List (Nat × V)} {x : V × A0 × Nat} (hg : K' (C1b d sl x)) : fin d sl K' x.1 x.2.1 x.2.2 := by
 cases d <;> exact hg
theorem C0U (hC : G9 P C) {i : AI} {s s' : St} {K' : St → Prop} (hg : exA P C i s = some s') (hK : K' s') : F4 P i s K' := by
 have some_ : ∀ {t : St} {sl : List (Nat × V)}, (exO P C t i.o).map (C1b i.d sl) = some s' → A6 P i.o t (fin i.d sl K') := by
  intro t sl h
  obtain ⟨x, h1, h2⟩ := Option.map_eq_some_iff.1 h
  exact C0V hC ⟨x, h1, A6Q (by rw [h2]; exact hK)⟩
 unfold exA at hg
 unfold F4
 split at hg
 ·rename_i e
  rw [e]
  exact some_ hg
 ·rename_i j want e
  rw [e]
  simp only
  split at hg
  ·rename_i b hb
   rw [hb]
   cases b <;> cases want <;> simp only [bEq, cond_true, cond_false] at hg <;> refine ⟨fun e => ?_, fun e => ?_⟩
   any_goals (cases e; done)
   ·exact some_ hg
   ·injection hg with hg; exact A6Q (x := (.cst Go.undef, s.h, s.n)) (by rw [hg]; exact hK)
   ·injection hg with hg; exact A6Q (x := (.cst Go.undef, s.h, s.n)) (by rw [hg]; exact hK)
   ·exact some_ hg
  ·rename_i u hu
   rw [hu]
   cases hb : A9w u with
   | false => rw [hb] at hg; cases hg
   | true =>
    rw [hb] at hg
    injection hg with hg
    exact ⟨hb, A6Q (x := (.cst Go.undef, s.h, s.n)) (by rw [hg]; exact hK)⟩
  ·cases hg
theorem B0v (hC : G9 P C) {K' : St → Prop} {s' : St} (hK : K' s') : ∀ {l : List AI} {s : St}, exV P C l s = some s' → vo P l K' s
 | [], _, hg => by injection hg with hg; subst hg; exact hK
 | i :: r, s, hg => by
  simp only [exV] at hg
  split at hg
  ·rename_i t ht; exact C0U (K' := vo P r K') hC ht (B0v hC hK hg)
  ·cases hg
theorem B1n (hC : G9 P C) {K' : St → Prop} {s s' : St} (hK : K' s') : ∀ {l : List (List AI)}, B7v P C s s' l = true → B1s P l K' s
 | [], _ => trivial
 | l :: r, hg => by
  simp only [B7v] at hg
  split at hg
  ·rename_i t ht
   simp only [Bool.and_eq_true] at hg
   rw [C2B hg.1] at ht
   exact ⟨B0v hC hK ht, B1n hC hK hg.2⟩
  ·cases hg
theorem B8q (hC : G9 P C) {K' : St → Prop} {s s' : St} (hK : K' s') : ∀ {l : List (List AI)}, C8c P C s l = some s' → B1s P l K' s
 | [], h => by cases h
 | l :: r, hg => by
  simp only [C8c] at hg
  split at hg
  ·rename_i t ht
   cases hb : B7v P C s t r with
   | false => rw [hb] at hg; cases hg
   | true =>
    rw [hb, cond_true] at hg
    injection hg with hg
    subst hg
    exact ⟨B0v hC hK ht, B1n hC hK hb⟩
  ·cases hg
def nmB : Nat := 1000000000000
def low (f b st : Nat) : Bool := Nat.blt b nmB && Nat.ble f st
section
variable (f : Nat)
mutual
def B5E : V → V
 | .sl b st i n => bif low f b st then .sl (nmB + st) st i n else .sl b st i n
 | .ptr b st i n => bif low f b st then .ptr (nmB + st) st i n else .ptr b st i n
 | .mp b st => bif low f b st then .mp (nmB + st) st else .mp b st
 | .agg l => .agg (renL l)
 | .tup l => .tup (renL l)
 | v => v
def renL : List V → List V
 | [] => []
 | a :: r => B5E a :: renL r
end
mutual
def C3G : V → Bool
 | .sl _ st _ _ => Nat.ble f st
 | .ptr _ st _ _ => Nat.ble f st
 | .mp _ st => Nat.ble f st
 | .agg l => menL l
 | .tup l => menL l
 | .fn _ _ => true
 | _ => false
def menL : List V → Bool
 | [] => false
 | a :: r => C3G a || menL r
end
end
mutual
theorem B0K (f : Nat) : ∀ v : V, E6 v (B5E f v)
 | .sl b st i n => by rw [B5E]; cases low f b st <;> exact .sl
 | .ptr b st i n => by rw [B5E]; cases low f b st <;> exact .ptr
 | .mp b st => by rw [B5E]; cases low f b st <;> exact .mp
 | .agg l => by rw [B5E]; exact .agg (renL_same f l)
 | .tup l => by rw [B5E]; exact .tup (renL_same f l)
 | .undef => .refl _
 | .bool _ => .refl _
 | .int _ _ => .refl _
 | .str _ => .refl _
 | .nilp => .refl _
 | .nils => .refl _
 | .isl _ => .refl _
 | .iptr _ _ _ => .refl _
 | .nilm => .refl _
 | .fn _ _ => .refl _
 | .yld _ _ => .refl _
 | .cst _ => .refl _
 | .err => .refl _
 | .anyi _ => .refl _
theorem renL_same (f : Nat) : ∀ l : List V, A0a l (renL f l)
 | [] => by rw [renL]; trivial
 | a :: r => by rw [renL]; exact ⟨B0K f a, renL_same f r⟩
end
def D2n (f : Nat) : Blk → Blk
 | .rows sz rs => .rows sz (rs.map (renL f))
 | .map es => .map es
 | b => b
theorem C1H (f : Nat) (b : Blk) : K1 b (D2n f b) := by
 cases b with
 | map es => exact .refl _
 | loop => exact .refl _
 | mapb => exact .refl _
 | iter => exact .refl _
 | raw => exact .refl _
 | rows sz rs =>
  refine .rows (by simp) fun i r2 h => ?_
  rw [List.getElem?_map] at h
  obtain ⟨r, h1, h2⟩ := Option.map_eq_some_iff.1 h
  exact ⟨r, h1, h2 ▸ renL_same f r⟩
def D2g (f : Nat) : Blk → Bool
 | .rows _ rs => rs.any (menL f)
 | .map es => es.any fun p => C3G f p.1 || C3G f p.2
 | .loop .. => true
 | .mapb .. => true
 | .iter .. => true
 | .raw .. => true
def C1I (f : Nat) : A0 → Nat → Nat
 | [], b => b
 | e :: r, b => bif Nat.beq e.1 b then (bif low f e.1 e.2.1 then nmB + e.2.1 else b) else C1I f r b
def gone : Option Nat → Nat → Bool
 | some m, st => Nat.ble m st
 | none, _ => false
def B8X (f : Nat) (d : Option Nat) (h0 : A0) : A0 → A0
 | [] => []
 | e :: r => bif gone d e.2.1 then B8X f d h0 r else (C1I f h0 e.1, e.2.1, D2n f e.2.2) :: B8X f d h0 r
theorem A6T (f : Nat) (d : Option Nat) (h0 : A0) : ∀ h : A0, (∀ e ∈ h, e ∈ h0) → V2 (C1I f h0) h0 (B8X f d h0 h)
 | [], _ => trivial
 | e :: r, hm => by
  simp only [B8X]
  have := A6T f d h0 r fun x hx => hm x (List.mem_cons_of_mem _ hx)
  cases gone d e.2.1
  ·exact ⟨⟨e, hm e List.mem_cons_self, rfl, rfl, C1H f _⟩, this⟩
  ·exact this
def C4a (f : Nat) (s0 : List (Nat × V)) : List (Nat × V) → List (Nat × V)
 | [] => []
 | p :: r => (p.1, B5E f (C5 s0 p.1)) :: C4a f s0 r
theorem B3c (f : Nat) (s0 : List (Nat × V)) : ∀ s : List (Nat × V), A5D s0 (C4a f s0 s)
 | [] => trivial
 | p :: r => ⟨B0K f _, B3c f s0 r⟩
def D2o (f : Nat) (s : St) : St := ⟨C4a f s.sl s.sl, B8X f none s.h s.h, s.n⟩
theorem C5M (f : Nat) (s : St) : Wk s (D2o f s) := .turn (C1I f s.h) (B3c _ _ _) (A6T _ _ _ _ fun _ h => h)
def B5p (h : A0) (b : Nat) : Bool := h.any fun e => Nat.beq e.1 b
def D2j (h : A0) : AO → Bool
 | .box nm _ _ => B5p h nm
 | .mkrow nm _ _ => B5p h nm
 | .mksl nm _ _ => B5p h nm
 | .mkmap nm => B5p h nm
 | .slz nm _ _ => B5p h nm
 | .byts nm _ => B5p h nm
 | .mkraw nm _ => B5p h nm
 | .app nm _ _ _ => B5p h nm
 | .apb _ nm _ _ _ => B5p h nm
 | _ => false
def C6W (h : A0) : List (List AI) → Bool
 | [] => false
 | l :: _ => l.any fun i => D2j h i.o
def C9D (f : Nat) (l : List (List AI)) (s : St) : St := bif C6W s.h l then D2o f s else s
theorem C6m (f : Nat) (l : List (List AI)) (s : St) : Wk s (C9D f l s) := by
 unfold C9D
 cases C6W s.h l
 ·exact .refl _
 ·exact C5M f s
def C0M (f : Nat) (x : V × A0 × Nat) : V × A0 × Nat :=
 bif x.2.1.any (fun e => Nat.ble f e.2.1) then
  (bif C3G f x.1 || x.2.1.any (fun e => Nat.blt e.2.1 f && D2g f e.2.2) then (B5E f x.1, B8X f none x.2.1 x.2.1, x.2.2) else (x.1, B8X f (some f) x.2.1 x.2.1, x.2.2))
 else x
theorem C5l (f : Nat) (x : V × A0 × Nat) : Wk ⟨[(0, x.1)], x.2.1, x.2.2⟩ ⟨[(0, (C0M f x).1)], (C0M f x).2.1, (C0M f x).2.2⟩ := by
 unfold C0M
 cases x.2.1.any (fun e => Nat.ble f e.2.1)
 ·exact .refl _
 ·simp only [cond_true]
  cases C3G f x.1 || x.2.1.any (fun e => Nat.blt e.2.1 f && D2g f e.2.2)
  ·exact .turn (C1I f x.2.1) ⟨.refl _, trivial⟩ (A6T _ _ _ _ fun _ h => h)
  ·exact .turn (C1I f x.2.1) ⟨B0K f _, trivial⟩ (A6T _ _ _ _ fun _ h => h)
theorem C0N {P : Program} {g : FuncId} {xs : List V} {h : A0} {n : Nat} {k : Res} {o : O5} (ho : ∀ k, Good o k → A2 P g xs h n k) (hg : Good (o.map (C0M n)) k) : A2 P g xs h n k := by
 obtain ⟨y, h1, h2⟩ := hg
 obtain ⟨x, h3, rfl⟩ := Option.map_eq_some_iff.1 h1
 refine (ho (fun r h' n' => (r, h', n') = x) ⟨x, h3, rfl⟩).wk ?_
 rintro r h' n' rfl
 exact ⟨_, _, _, C5l n (r, h', n'), h2⟩
def C5N (rs : List RV) (s : St) : O5 :=
 match A4Z s rs with
 | some vs => D9 (A9A vs) s.h s.n
 | none => none
def exG (P : Program) (C : I9) (rs : List RV) (f : Nat) : Nat → List AItem → St → O5
 | 0, _, _ => none
 | _ + 1, [], s => C5N rs s
 | m + 1, .code .skip :: k, s => exG P C rs f m k s
 | m + 1, .code (.ops l) :: k, s => match C8c P C (C9D f l s) l with
  | some s' => exG P C rs f m k s'
  | none => none
 | _ + 1, .code .bad :: _, _ => none
 | m + 1, .code (.seq a b) :: k, s => exG P C rs f m (.code a :: .code b :: k) s
 | m + 1, .code (.cond x a b) :: k, s => match s.ev x with
  | .bool true => exG P C rs f m (.code a :: k) s
  | .bool false => exG P C rs f m (.code b :: k) s
  | _ => none
 | m + 1, .code (.block id a) :: k, s => exG P C rs f m (.code a :: .blk id :: k) s
 | m + 1, .code (.loop a) :: k, s => exG P C rs f m (.code a :: .lp a :: k) s
 | m + 1, .code (.exit id) :: k, s => match Nat.beq 999999999 id, U8 id k with
  | false, some k' => exG P C rs f m k' s
  | _, _ => none
 | _ + 1, .code .ret :: _, s => C5N rs s
 | m + 1, .blk _ :: k, s => exG P C rs f m k s
 | m + 1, .lp a :: k, s => exG P C rs f m (.code a :: .lp a :: k) s
 | m + 1, .code (.dfr d) :: k, s => exG P C rs f m k ⟨D6 s.sl d .undef, s.h, s.n⟩
 | _ + 1, .code (.rng ..) :: _, _ => none
 | _ + 1, .beg :: _, _ => none
theorem B4B {N : Nat} {rs : List RV} {s : St} (hg : Good (C5N rs s) k) : C1J ⟨P, N, rs, k, none⟩ s := by
 unfold C5N at hg
 unfold C1J
 split at hg
 ·rename_i vs hvs
  simp only
  rw [hvs]
  exact hg.one
 ·exact hg.no.elim
theorem K5 (hC : G9 P C) {N : Nat} {rs : List RV} {f : Nat} : ∀ {m : Nat} {l : List AItem} {s : St}, Good (exG P C rs f m l s) k → Run ⟨P, N, rs, k, none⟩ l s
 | 0, _, _, hg => hg.no.elim
 | m + 1, [], s, hg => Run.go 1 (B4B hg)
 | m + 1, .code .skip :: l, s, hg => Run.go 1 (K5 hC (m := m) hg)
 | m + 1, .code (.ops is) :: l, s, hg => by
  simp only [exG] at hg
  split at hg
  ·rename_i t ht; exact Run.wk (C6m f is s) (Run.go 1 (B8q hC (K5 hC (m := m) hg) ht))
  ·exact hg.no.elim
 | m + 1, .code .bad :: _, _, hg => hg.no.elim
 | m + 1, .code (.seq a b) :: l, s, hg => Run.go 1 (K5 hC (m := m) hg)
 | m + 1, .code (.cond x a b) :: l, s, hg => by
  simp only [exG] at hg
  split at hg
  ·rename_i hv; exact fun fn bs hrs => OK.cond hv (fun _ => K5 hC (m := m) hg fn bs hrs) (fun e => by cases e)
  ·rename_i hv; exact fun fn bs hrs => OK.cond hv (fun e => by cases e) (fun _ => K5 hC (m := m) hg fn bs hrs)
  ·exact hg.no.elim
 | m + 1, .code (.block id a) :: l, s, hg => Run.go 1 (K5 hC (m := m) hg)
 | m + 1, .code (.loop a) :: l, s, hg => Run.loop (K5 hC (m := m) hg)
 | m + 1, .code (.exit id) :: l, s, hg => by
  simp only [exG] at hg
  split at hg
  ·rename_i k' hsc hk; exact fun fn bs hrs => OK.exit hsc hk (K5 hC (m := m) hg fn bs hrs)
  ·exact hg.no.elim
 | m + 1, .code .ret :: _, s, hg => Run.go 1 (B4B hg)
 | m + 1, .blk _ :: l, s, hg => Run.go 1 (K5 hC (m := m) hg)
 | m + 1, .lp a :: l, s, hg => Run.lp (K5 hC (m := m) hg)
 | m + 1, .code (.dfr d) :: l, s, hg => Run.go 1 (K5 hC (m := m) hg)
 | m + 1, .code (.rng ..) :: _, _, hg => hg.no.elim
 | m + 1, .beg :: _, _, hg => hg.no.elim
end
def exC (P : Program) (T : List (FuncId × Nat × AC × List RV)) (lib : I9) (m : Nat) : Nat → I9
 | 0, _, _, _, _ => none
 | d + 1, f, xs, h, n => match lib f xs h n with
  | some l => some l
  | none => match look T f with
   | some e => (gE (Nat.ble xs.length e.1) (exG P (exC P T lib m d) e.2.2 n m [.code e.2.1] ⟨A5 0 xs, h, n⟩)).map (C0M n)
   | none => none
where
 look : List (FuncId × Nat × AC × List RV) → FuncId → Option (Nat × AC × List RV)
  | [], _ => none
  | e :: r, f => bif Nat.beq e.1 f then some e.2 else look r f
def A8 (P : Program) (T : List (FuncId × Nat × AC × List RV)) : Prop := ∀ e ∈ T, B3 P e.1 = some e.2
theorem A8.nil {P : Program} : A8 P [] := fun e h => by cases h
theorem A8.cons {P : Program} {T : List (FuncId × Nat × AC × List RV)} {f N : Nat} {ac : AC} {rs : List RV} (h : B3 P f = some (N, ac, rs)) (hr : A8 P T) : A8 P ((f, N, ac, rs) :: T) := fun e he => by
 rcases List.mem_cons.1 he with rfl | he
 ·exact h
 ·exact hr e he
theorem A8.look {P : Program} : ∀ {T : List (FuncId × Nat × AC × List RV)}, A8 P T → ∀ {f : FuncId} {c}, exC.look T f = some c → B3 P f = some c
 | [], _, f, c, h => by cases h
 | e :: r, hT, f, c, h => by
  simp only [exC.look] at h
  cases hb : Nat.beq e.1 f with
  | true =>
   rw [hb] at h; injection h with h
   rw [← Nat.eq_of_beq_eq_true hb, ← h]; exact hT e List.mem_cons_self
  | false => rw [hb] at h; exact A8.look (fun e he => hT e (List.mem_cons_of_mem _ he)) h
def C3O : I9 := fun _ _ _ _ => none
theorem B2W {P : Program} : G9 P C3O := fun _ _ _ _ _ hg => hg.no.elim
theorem B4e {P : Program} {T : List (FuncId × Nat × AC × List RV)} {lib : I9} (hT : A8 P T) (hl : G9 P lib) {m : Nat} : ∀ {d : Nat}, G9 P (exC P T lib m d)
 | 0, _, _, _, _, _, hg => hg.no.elim
 | d + 1, f, xs, h, n, k, hg => by
  simp only [exC] at hg
  split at hg
  ·rename_i l he; exact hl f xs h n k (by rw [he]; exact hg)
  ·split at hg
   ·rename_i e he
    refine C0N (fun k hg => ?_) hg
    obtain ⟨h1, hg⟩ := hg.g
    exact A2.enter (N := e.1) (ac := e.2.1) (rs := e.2.2) (hT.look he) (Nat.le_of_ble_eq_true h1) (K5 (B4e hT hl) hg)
   ·exact hg.no.elim
def exR (P : Program) (T : List (FuncId × Nat × AC × List RV)) (lib : I9) (m d : Nat) (fr : Nat) (f : FuncId) (xs : List V) : Option V :=
 (exC P T lib m d f xs [] 0).map fun x => frz fr x.2.1 x.1
theorem Pure.exec {P : Program} {T : List (FuncId × Nat × AC × List RV)} {lib : I9} (hT : A8 P T) (hl : G9 P lib) {m d fr : Nat} {f : FuncId} {xs : List V} {r : V} (h : exR P T lib m d fr f xs = some r) : Pure P f xs r := by
 refine Pure.of fr (B4e (d := d) (m := m) hT hl f xs [] 0 _ ?_)
 obtain ⟨x, h1, h2⟩ := Option.map_eq_some_iff.1 h
 exact ⟨x, h1, h2⟩
def eqR (o : Option V) (r : V) : Bool :=
 match o with
 | some v => V.beq v r
 | none => false
theorem Pure.execB {P : Program} {T : List (FuncId × Nat × AC × List RV)} {lib : I9} (hT : A8 P T) (hl : G9 P lib) {m d fr : Nat} {f : FuncId} {xs : List V} {r : V} (h : eqR (exR P T lib m d fr f xs) r = true) : Pure P f xs r := by
 unfold eqR at h
 split at h
 ·rename_i v hv; exact Pure.exec hT hl (by rw [hv, V.beq_eq h])
 ·cases h
end Go.Abs
