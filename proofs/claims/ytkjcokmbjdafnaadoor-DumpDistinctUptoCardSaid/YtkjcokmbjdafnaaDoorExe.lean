/-
  Abstract code run as a program on known data: what it answers is a contract. No condition.
-/
import Derived.Test.YtkjcokmbjdafnaaDoorWk
set_option linter.unusedVariables false
set_option linter.unusedSimpArgs false
namespace Go.Abs
variable {PK : PanK}

/-- The result of a run: none if it is stuck. -/
abbrev Outs := Option (V × Heap × Nat)

def oneO (v : V) (h : Heap) (n : Nat) : Outs := some (v, h, n)
def optE (o : Option V) (h : Heap) (n : Nat) : Outs :=
  match o with
  | some v => oneO v h n
  | none => none
def gE (b : Bool) (r : Outs) : Outs := bif b then r else none

def Good (o : Outs) (k : Res) : Prop := ∃ x, o = some x ∧ k x.1 x.2.1 x.2.2

theorem Good.one {v : V} {h : Heap} {n : Nat} {k : Res} (hg : Good (oneO v h n) k) : k v h n := by
  obtain ⟨l, h1, h2⟩ := hg
  injection h1 with h1
  subst h1
  exact h2
theorem Good.opt {o : Option V} {h : Heap} {n : Nat} {k : Res} (hg : Good (optE o h n) k) : optR o k h n := by
  cases o with
  | none => obtain ⟨l, h1, _⟩ := hg; cases h1
  | some v => exact Good.one hg
theorem Good.g {b : Bool} {o : Outs} {k : Res} (hg : Good (gE b o) k) : b = true ∧ Good o k := by
  cases b with
  | false => obtain ⟨l, h1, _⟩ := hg; cases h1
  | true => exact ⟨rfl, hg⟩
theorem Good.no {k : Res} (hg : Good none k) : False := by obtain ⟨l, h1, _⟩ := hg; cases h1

def rowszB (es : List (List V)) (sz : Nat) : Bool := es.all fun r => Nat.beq r.length sz
theorem rowszB_iff {es : List (List V)} {sz : Nat} (h : rowszB es sz = true) : rowsz es sz := fun r hr => Nat.eq_of_beq_eq_true (List.all_eq_true.1 h r hr)

/-! Integers. -/
def zle (a b : Int) : Bool := match b - a with
  | .ofNat _ => true
  | .negSucc _ => false
theorem zle_iff {a b : Int} : zle a b = true ↔ a ≤ b := by
  unfold zle
  split
  · rename_i m h
    have h : b - a = (m : Int) := h
    simp only [true_iff]; omega
  · rename_i m h
    simp only [Bool.false_eq_true, false_iff]; omega
def zlt (a b : Int) : Bool := zle (a + 1) b
theorem zlt_iff {a b : Int} : zlt a b = true ↔ a < b := by unfold zlt; rw [zle_iff]; omega
def zeq (a b : Int) : Bool := match a, b with
  | .ofNat a, .ofNat b => Nat.beq a b
  | .negSucc a, .negSucc b => Nat.beq a b
  | _, _ => false
theorem zeq_iff {a b : Int} : zeq a b = true ↔ a = b := by
  unfold zeq
  cases a <;> cases b <;> simp <;> omega
theorem zdec_le (a b : Int) : decide (a ≤ b) = zle a b := by rw [Bool.eq_iff_iff, decide_eq_true_eq, zle_iff]
theorem zdec_lt (a b : Int) : decide (a < b) = zlt a b := by rw [Bool.eq_iff_iff, decide_eq_true_eq, zlt_iff]
theorem zdec_eq (a b : Int) : decide (a = b) = zeq a b := by rw [Bool.eq_iff_iff, decide_eq_true_eq, zeq_iff]
def kEq : IntKind → IntKind → Bool
  | .i8, .i8 | .i16, .i16 | .i32, .i32 | .i64, .i64 | .u8, .u8 | .u16, .u16 | .u32, .u32 | .u64, .u64 => true
  | _, _ => false
theorem kEq_iff {a b : IntKind} : kEq a b = true ↔ a = b := by cases a <;> cases b <;> simp [kEq]

def inRB (k : IntKind) (z : Int) : Bool :=
  match k with
  | .i64 => zle (-9223372036854775808) z && zle z 9223372036854775807
  | _ => true
theorem inRB_iff {k : IntKind} {z : Int} (h : inRB k z = true) : inR k z := by
  cases k <;> simp only [inRB, inR, Bool.and_eq_true, zle_iff] at h ⊢
  exact h
def arithE (k : IntKind) (z : Int) (h : Heap) (n : Nat) : Outs := gE (inRB k z) (oneO (wrapV k z) h n)
theorem Good.arith {j : IntKind} {z : Int} {h : Heap} {n : Nat} {k : Res} (hg : Good (arithE j z h n) k) : arithK j z k h n := ⟨inRB_iff hg.g.1, hg.g.2.one⟩

theorem nbeq {a b : Nat} : Nat.beq a b = true ↔ a = b := ⟨Nat.eq_of_beq_eq_true, fun h => h ▸ Nat.beq_refl a⟩

def bytesEq : List UInt8 → List UInt8 → Bool
  | [], [] => true
  | a :: r, b :: s => Nat.beq a.toNat b.toNat && bytesEq r s
  | _, _ => false
theorem bytesEq_iff : ∀ {a b : List UInt8}, bytesEq a b = true ↔ a = b
  | [], [] => by simp [bytesEq]
  | [], _ :: _ => by simp [bytesEq]
  | _ :: _, [] => by simp [bytesEq]
  | a :: r, b :: s => by
    simp only [bytesEq, Bool.and_eq_true, bytesEq_iff, List.cons.injEq, nbeq]
    rw [← UInt8.toNat_inj]
theorem dec_bytes (a b : List UInt8) : decide (a = b) = bytesEq a b := by rw [Bool.eq_iff_iff, decide_eq_true_eq, bytesEq_iff]

def binE (op : BinOp) (x y : V) (h : Heap) (n : Nat) : Outs :=
  match x, y with
  | .int j a, .int j' b => gE (kEq j j') (match op with
    | .add => arithE j (a + b) h n
    | .sub => arithE j (a - b) h n
    | .mul => arithE j (a * b) h n
    | .quo => gE (!zeq b 0) (arithE j (a.tdiv b) h n)
    | .rem => gE (!zeq b 0) (oneO (.int j (a.tmod b)) h n)
    | .eql => oneO (.bool (zeq a b)) h n
    | .neq => oneO (.bool (!zeq a b)) h n
    | .lss => oneO (.bool (zlt a b)) h n
    | .leq => oneO (.bool (zle a b)) h n
    | .gtr => oneO (.bool (zlt b a)) h n
    | .geq => oneO (.bool (zle b a)) h n
    | .and => oneO (.int j (bitZ .and j a b)) h n
    | .or => oneO (.int j (bitZ .or j a b)) h n
    | .xor => oneO (.int j (bitZ .xor j a b)) h n
    | .andNot => oneO (.int j (bitZ .andNot j a b)) h n
    | _ => none)
  | .str a, .str b => match op with
    | .add => gE (Nat.ble (a.length + b.length) 1099511627776) (oneO (.str (a ++ b)) h n)
    | .eql => oneO (.bool (bytesEq a b)) h n
    | .neq => oneO (.bool (!bytesEq a b)) h n
    | .lss => oneO (.bool (bytesLt a b)) h n
    | .geq => oneO (.bool (!bytesLt a b)) h n
    | .leq => oneO (.bool (bytesLt a b || bytesEq a b)) h n
    | .gtr => oneO (.bool !(bytesLt a b || bytesEq a b)) h n
    | _ => none
  | _, _ => none

theorem not_zeq {a b : Int} (h : (!zeq a b) = true) : a ≠ b := fun e => by
  rw [zeq_iff.2 e] at h; cases h

theorem Good.bin {op : BinOp} {x y : V} {h : Heap} {n : Nat} {k : Res} (hg : Good (binE op x y h n) k) : binK op x y k h n := by
  unfold binE at hg
  split at hg
  · rename_i j a j' b
    obtain ⟨h1, hg⟩ := hg.g
    have h1 := kEq_iff.1 h1
    unfold binK
    refine ⟨h1, ?_⟩
    cases op <;> simp only at hg ⊢
    case add => exact hg.arith
    case sub => exact hg.arith
    case mul => exact hg.arith
    case quo => exact ⟨not_zeq hg.g.1, hg.g.2.arith⟩
    case rem => exact ⟨not_zeq hg.g.1, hg.g.2.one⟩
    case eql => rw [zdec_eq]; exact hg.one
    case neq => rw [decide_not, zdec_eq]; exact hg.one
    case lss => rw [zdec_lt]; exact hg.one
    case leq => rw [zdec_le]; exact hg.one
    case gtr => rw [zdec_lt]; exact hg.one
    case geq => rw [zdec_le]; exact hg.one
    case and => exact hg.one
    case or => exact hg.one
    case xor => exact hg.one
    case andNot => exact hg.one
    all_goals exact hg.no
  · rename_i a b
    unfold binK
    cases op <;> simp only at hg ⊢
    case add => exact ⟨Nat.le_of_ble_eq_true hg.g.1, hg.g.2.one⟩
    case eql => rw [dec_bytes]; exact hg.one
    case neq => rw [decide_not, dec_bytes]; exact hg.one
    case lss => exact hg.one
    case geq => exact hg.one
    case leq => rw [dec_bytes]; exact hg.one
    case gtr => rw [dec_bytes]; exact hg.one
    all_goals exact hg.no
  · exact hg.no.elim

def unE (op : UnOp) (x : V) (h : Heap) (n : Nat) : Outs :=
  match op, x with
  | .neg, .int j a => arithE j (0 - a) h n
  | .not, .bool b => oneO (.bool !b) h n
  | .xor, .int j a => oneO (.int j (bitZ .xor j (bif j.signed then -1 else j.max) a)) h n
  | _, _ => none
theorem Good.un {op : UnOp} {x : V} {h : Heap} {n : Nat} {k : Res} (hg : Good (unE op x h n) k) : unK op x k h n := by
  unfold unE at hg
  split at hg
  · exact hg.arith
  · exact hg.one
  · exact hg.one
  · exact hg.no.elim

def iaddrE (sz : Nat) (x i : V) (h : Heap) (n : Nat) : Outs :=
  match i with
  | .int _ z => match x with
    | .sl b st i0 m => gE (zle 0 z && zlt z m && (match blkSz (Heap.get h b st) with | some s => Nat.beq s sz | none => false)) (oneO (.ptr b st (i0 + z.toNat) 0) h n)
    | .isl es => gE (zle 0 z && zlt z es.length && rowszB es sz) (oneO (.iptr es z.toNat 0) h n)
    | _ => none
  | _ => none
theorem Good.iaddr {sz : Nat} {x i : V} {h : Heap} {n : Nat} {k : Res} (hg : Good (iaddrE sz x i h n) k) : iaddrK sz x i k h n := by
  unfold iaddrE at hg
  split at hg
  · split at hg
    · obtain ⟨h1, hg⟩ := hg.g
      simp only [Bool.and_eq_true, zle_iff, zlt_iff] at h1
      obtain ⟨⟨a, b⟩, c⟩ := h1
      refine ⟨a, b, ?_, hg.one⟩
      split at c
      · rename_i s hs; rw [hs, Nat.eq_of_beq_eq_true c]
      · cases c
    · obtain ⟨h1, hg⟩ := hg.g
      simp only [Bool.and_eq_true, zle_iff, zlt_iff] at h1
      exact ⟨h1.1.1, h1.1.2, rowszB_iff h1.2, hg.one⟩
    · exact hg.no.elim
  · exact hg.no.elim

def iaddrAE (len sz : Nat) (x i : V) (h : Heap) (n : Nat) : Outs :=
  match i with
  | .int _ z => match x with
    | .ptr b st i0 j => gE (zle 0 z && zlt z len) (oneO (.ptr b st i0 (j + z.toNat * sz)) h n)
    | .iptr es i0 j => gE (zle 0 z && zlt z len) (oneO (.iptr es i0 (j + z.toNat * sz)) h n)
    | _ => none
  | _ => none
theorem Good.iaddrA {len sz : Nat} {x i : V} {h : Heap} {n : Nat} {k : Res} (hg : Good (iaddrAE len sz x i h n) k) : iaddrAK len sz x i k h n := by
  unfold iaddrAE at hg
  split at hg
  · split at hg
    · obtain ⟨h1, hg⟩ := hg.g
      simp only [Bool.and_eq_true, zle_iff, zlt_iff] at h1
      exact ⟨h1.1, h1.2, hg.one⟩
    · obtain ⟨h1, hg⟩ := hg.g
      simp only [Bool.and_eq_true, zle_iff, zlt_iff] at h1
      exact ⟨h1.1, h1.2, hg.one⟩
    · exact hg.no.elim
  · exact hg.no.elim

def idxE (x i : V) (h : Heap) (n : Nat) : Outs :=
  match x, i with
  | .str s, .int _ z => gE (zle 0 z) (optE ((s[z.toNat]?).map fun b => .int .u8 b.toNat) h n)
  | _, _ => none
theorem Good.idx {x i : V} {h : Heap} {n : Nat} {k : Res} (hg : Good (idxE x i h n) k) : idxK x i k h n := by
  unfold idxE at hg
  split at hg
  · exact ⟨zle_iff.1 hg.g.1, hg.g.2.opt⟩
  · exact hg.no.elim

def shE (left : Bool) (x y : V) (h : Heap) (n : Nat) : Outs :=
  match x, y with
  | .int j a, .int _ b => gE (zle 0 b) (oneO (.int j (shZ left j a b)) h n)
  | _, _ => none
theorem Good.sh {l : Bool} {x y : V} {h : Heap} {n : Nat} {k : Res} (hg : Good (shE l x y h n) k) : shK l x y k h n := by
  unfold shE at hg
  split at hg
  · exact ⟨zle_iff.1 hg.g.1, hg.g.2.one⟩
  · exact hg.no.elim

def idxAE (len sz m : Nat) (agg : Bool) (x i : V) (h : Heap) (n : Nat) : Outs :=
  match x, i with
  | .agg cs, .int _ z => gE (zle 0 z && zlt z len) (optE (loadRow cs (z.toNat * sz) m agg) h n)
  | _, _ => none
theorem Good.idxA {len sz m : Nat} {agg : Bool} {x i : V} {h : Heap} {n : Nat} {k : Res} (hg : Good (idxAE len sz m agg x i h n) k) : idxAK len sz m agg x i k h n := by
  unfold idxAE at hg
  split at hg
  · obtain ⟨h1, hg⟩ := hg.g
    simp only [Bool.and_eq_true, zle_iff, zlt_iff] at h1
    exact ⟨h1.1, h1.2, hg.opt⟩
  · exact hg.no.elim

def clrE (z : List V) (x : V) (h : Heap) (n : Nat) : Outs :=
  match x with
  | .nils => oneO (.tup []) h n
  | .sl b st i m => match Heap.get h b st with
    | some (.rows sz rs) => gE (Nat.beq sz z.length && Nat.ble (i + m) rs.length) (oneO (.tup []) (Heap.put h b st (.rows sz (rs.take i ++ List.replicate m z ++ rs.drop (i + m)))) n)
    | _ => none
  | _ => none
theorem Good.clr {z : List V} {x : V} {h : Heap} {n : Nat} {k : Res} (hg : Good (clrE z x h n) k) : clrK z x k h n := by
  unfold clrE at hg
  unfold clrK
  split at hg
  · exact hg.one
  · simp only
    split at hg
    · rename_i he
      obtain ⟨h1, hg⟩ := hg.g
      simp only [Bool.and_eq_true, nbeq, Nat.ble_eq] at h1
      rw [he]
      exact ⟨h1.1, h1.2, hg.one⟩
    · exact hg.no.elim
  · exact hg.no.elim

def rawE (nm : Nat) (rs : Option (List (List V))) (h : Heap) (n : Nat) : Outs :=
  match rs with
  | some rs => gE (Nat.ble 1 rs.length) (oneO (.sl nm n 0 rs.length) (Heap.put h nm n (.raw rs)) (n + 1))
  | none => none
theorem Good.raw {nm : Nat} {rs : Option (List (List V))} {h : Heap} {n : Nat} {k : Res} (hg : Good (rawE nm rs h n) k) : rawK nm rs k h n := by
  unfold rawE at hg
  split at hg
  · obtain ⟨h1, hg⟩ := hg.g
    exact ⟨Nat.le_of_ble_eq_true h1, hg.one⟩
  · exact hg.no.elim
def cvrE (x : V) (h : Heap) (n : Nat) : Outs :=
  match x with
  | .sl b st 0 m => match Heap.get h b st with
    | some (.raw rs) => gE (Nat.beq m rs.length) (oneO (.sl b st 0 m) (Heap.put h b st (.rows 1 rs)) n)
    | _ => none
  | _ => none
theorem Good.cvr {x : V} {h : Heap} {n : Nat} {k : Res} (hg : Good (cvrE x h n) k) : cvrK x k h n := by
  unfold cvrE at hg
  unfold cvrK
  split at hg
  · simp only
    split at hg
    · rename_i he
      obtain ⟨h1, hg⟩ := hg.g
      rw [he]
      exact ⟨Nat.eq_of_beq_eq_true h1, hg.one⟩
    · exact hg.no.elim
  · exact hg.no.elim

def bytsE (nm : Nat) (x : V) (h : Heap) (n : Nat) : Outs :=
  match x with
  | .str s => oneO (.sl nm n 0 s.length) (Heap.put h nm n (.rows 1 (strRows s))) (n + 1)
  | _ => none
theorem Good.byts {nm : Nat} {x : V} {h : Heap} {n : Nat} {k : Res} (hg : Good (bytsE nm x h n) k) : bytsK nm x k h n := by
  unfold bytsE at hg
  split at hg
  · exact hg.one
  · exact hg.no.elim
def slzE (nm sz : Nat) (x : V) (h : Heap) (n : Nat) : Outs :=
  match x with
  | .nils | .isl _ | .sl .. => oneO (.sl nm n 0 0) (Heap.put h nm n (.rows sz [])) (n + 1)
  | _ => none
theorem Good.slz {nm sz : Nat} {x : V} {h : Heap} {n : Nat} {k : Res} (hg : Good (slzE nm sz x h n) k) : slzK nm sz x k h n := by
  unfold slzE at hg
  split at hg
  · exact hg.one
  · exact hg.one
  · exact hg.one
  · exact hg.no.elim

def boxE (nm sz : Nat) (cs : Option (List V)) (h : Heap) (n : Nat) : Outs :=
  match cs with
  | some cs => gE (Nat.beq cs.length sz) (oneO (.ptr nm n 0 0) (Heap.put h nm n (.rows sz [cs])) (n + 1))
  | none => none
theorem Good.box {nm sz : Nat} {cs : Option (List V)} {h : Heap} {n : Nat} {k : Res} (hg : Good (boxE nm sz cs h n) k) : boxK nm sz cs k h n := by
  unfold boxE at hg
  split at hg
  · exact ⟨Nat.eq_of_beq_eq_true hg.g.1, hg.g.2.one⟩
  · exact hg.no.elim
def rowE (nm sz : Nat) (rs : Option (List (List V))) (h : Heap) (n : Nat) : Outs :=
  match rs with
  | some rs => oneO (.sl nm n 0 rs.length) (Heap.put h nm n (.rows sz rs)) (n + 1)
  | none => none
theorem Good.row {nm sz : Nat} {rs : Option (List (List V))} {h : Heap} {n : Nat} {k : Res} (hg : Good (rowE nm sz rs h n) k) : rowK nm sz rs k h n := by
  unfold rowE at hg
  split at hg
  · exact hg.one
  · exact hg.no.elim
def islE (rs : Option (List (List V))) (h : Heap) (n : Nat) : Outs :=
  match rs with
  | some rs => oneO (.isl rs) h n
  | none => none
theorem Good.isl {rs : Option (List (List V))} {h : Heap} {n : Nat} {k : Res} (hg : Good (islE rs h n) k) : islK rs k h n := by
  unfold islE at hg
  split at hg
  · exact hg.one
  · exact hg.no.elim
def heapE (h : Option Heap) (n : Nat) : Outs :=
  match h with
  | some h => oneO .undef h n
  | none => none
theorem Good.heap {h : Option Heap} {n : Nat} {k : Res} (hg : Good (heapE h n) k) : heapK h k n := by
  unfold heapE at hg
  split at hg
  · exact hg.one
  · exact hg.no.elim

def appE (L nm sz : Nat) (s : V) (xs : Option (List (List V))) (h : Heap) (n : Nat) : Outs :=
  match xs with
  | none => none
  | some xs => gE (rowszB xs sz) (match s with
    | .nils => gE (Nat.ble xs.length L) (oneO (.sl nm n 0 xs.length) (Heap.put h nm n (.rows sz xs)) (n + 1))
    | .sl b st i m => match Heap.get h b st with
      | some (.rows sz' rs) => gE (Nat.beq sz' sz && Nat.ble (i + m) rs.length && Nat.ble (m + xs.length) L)
          (oneO (.sl b n 0 (m + xs.length)) (Heap.put h b n (.rows sz ((rs.drop i).take m ++ xs))) (n + 1))
      | _ => none
    | _ => none)
theorem Good.app {L nm sz : Nat} {s : V} {xs : Option (List (List V))} {h : Heap} {n : Nat} {k : Res} (hg : Good (appE L nm sz s xs h n) k) : appK L nm sz s xs k h n := by
  unfold appE at hg
  split at hg
  · exact hg.no.elim
  · obtain ⟨h0, hg⟩ := hg.g
    unfold appK
    refine ⟨rowszB_iff h0, ?_⟩
    split at hg
    · exact ⟨Nat.le_of_ble_eq_true hg.g.1, hg.g.2.one⟩
    · simp only
      split at hg
      · rename_i he
        obtain ⟨h1, hg⟩ := hg.g
        simp only [Bool.and_eq_true, nbeq, Nat.ble_eq] at h1
        rw [he]
        exact ⟨h1.1.1, h1.1.2, h1.2, hg.one⟩
      · exact hg.no.elim
    · exact hg.no.elim

def copyE (sz : Nat) (d : V) (xs : Option (List (List V))) (h : Heap) (n : Nat) : Outs :=
  match xs with
  | none => none
  | some xs => gE (rowszB xs sz) (match d with
    | .nils => oneO (.int .i64 0) h n
    | .sl b st i m => match Heap.get h b st with
      | some (.rows sz' rs) => gE (Nat.beq sz' sz && Nat.ble (i + m) rs.length)
          (oneO (.int .i64 (min xs.length m : Nat)) (Heap.put h b st (.rows sz (rs.take i ++ xs.take (min xs.length m) ++ rs.drop (i + min xs.length m)))) n)
      | _ => none
    | _ => none)
theorem Good.copy {sz : Nat} {d : V} {xs : Option (List (List V))} {h : Heap} {n : Nat} {k : Res} (hg : Good (copyE sz d xs h n) k) : copyK sz d xs k h n := by
  unfold copyE at hg
  split at hg
  · exact hg.no.elim
  · obtain ⟨h0, hg⟩ := hg.g
    unfold copyK
    refine ⟨rowszB_iff h0, ?_⟩
    split at hg
    · exact hg.one
    · simp only
      split at hg
      · rename_i he
        obtain ⟨h1, hg⟩ := hg.g
        simp only [Bool.and_eq_true, nbeq, Nat.ble_eq] at h1
        rw [he]
        exact ⟨h1.1, h1.2, hg.one⟩
      · exact hg.no.elim
    · exact hg.no.elim

def mkslE (nm : Nat) (z : List V) (x : V) (h : Heap) (n : Nat) : Outs :=
  match x with
  | .int .i64 m => gE (zle 0 m && zle m 137438953472) (oneO (.sl nm n 0 m.toNat) (Heap.put h nm n (.rows z.length (List.replicate m.toNat z))) (n + 1))
  | _ => none
theorem Good.mksl {nm : Nat} {z : List V} {x : V} {h : Heap} {n : Nat} {k : Res} (hg : Good (mkslE nm z x h n) k) : mkslK nm z x k h n := by
  unfold mkslE at hg
  split at hg
  · obtain ⟨h1, hg⟩ := hg.g
    simp only [Bool.and_eq_true, zle_iff] at h1
    exact ⟨h1.1, h1.2, hg.one⟩
  · exact hg.no.elim

def slcE (sz : Nat) (x : V) (lo hi : Option V) (h : Heap) (n : Nat) : Outs :=
  match x with
  | .sl b st i m => match boundV 0 lo, boundV m hi with
    | some l, some u => gE ((match blkSz (Heap.get h b st) with | some s => Nat.beq s sz | none => false) && zle 0 l && zle l u && zle u m) (oneO (.sl b st (i + l.toNat) (u - l).toNat) h n)
    | _, _ => none
  | .isl es => match boundV 0 lo, boundV es.length hi with
    | some l, some u => gE (rowszB es sz && zle 0 l && zle l u && zle u es.length) (oneO (.isl ((es.drop l.toNat).take (u - l).toNat)) h n)
    | _, _ => none
  | .nils => match boundV 0 lo, boundV 0 hi with
    | some l, some u => gE (zeq l 0 && zeq u 0) (oneO .nils h n)
    | _, _ => none
  | _ => none
theorem Good.slc {sz : Nat} {x : V} {lo hi : Option V} {h : Heap} {n : Nat} {k : Res} (hg : Good (slcE sz x lo hi h n) k) : slcK sz x lo hi k h n := by
  unfold slcE at hg
  unfold slcK
  split at hg
  · simp only
    split at hg
    · rename_i h1 h2
      obtain ⟨h0, hg⟩ := hg.g
      simp only [Bool.and_eq_true, zle_iff] at h0
      rw [h1, h2]
      refine ⟨?_, h0.1.1.2, h0.1.2, h0.2, hg.one⟩
      have c := h0.1.1.1
      split at c
      · rename_i s hs; rw [hs, Nat.eq_of_beq_eq_true c]
      · cases c
    · exact hg.no.elim
  · simp only
    split at hg
    · rename_i h1 h2
      obtain ⟨h0, hg⟩ := hg.g
      simp only [Bool.and_eq_true, zle_iff] at h0
      rw [h1, h2]
      exact ⟨rowszB_iff h0.1.1.1, h0.1.1.2, h0.1.2, h0.2, hg.one⟩
    · exact hg.no.elim
  · simp only
    split at hg
    · rename_i h1 h2
      obtain ⟨h0, hg⟩ := hg.g
      simp only [Bool.and_eq_true, zeq_iff] at h0
      rw [h1, h2]
      exact ⟨h0.1, h0.2, hg.one⟩
    · exact hg.no.elim
  · exact hg.no.elim

def slsE (x : V) (lo hi : Option V) (h : Heap) (n : Nat) : Outs :=
  match x with
  | .str s => match boundV 0 lo, boundV s.length hi with
    | some l, some u => gE (zle 0 l && zle l u && zle u s.length) (oneO (.str ((s.drop l.toNat).take (u - l).toNat)) h n)
    | _, _ => none
  | _ => none
theorem Good.sls {x : V} {lo hi : Option V} {h : Heap} {n : Nat} {k : Res} (hg : Good (slsE x lo hi h n) k) : slsK x lo hi k h n := by
  unfold slsE at hg
  unfold slsK
  split at hg
  · simp only
    split at hg
    · rename_i h1 h2
      obtain ⟨h0, hg⟩ := hg.g
      simp only [Bool.and_eq_true, zle_iff] at h0
      rw [h1, h2]
      exact ⟨h0.1.1, h0.1.2, h0.2, hg.one⟩
    · exact hg.no.elim
  · exact hg.no.elim

def keyOKB (k : V) : List (V × V) → Bool
  | [] => true
  | e :: r => (keyEq k e.1).isSome && keyOKB k r
theorem keyOKB_iff {k : V} : ∀ {l : List (V × V)}, keyOKB k l = true → keyOK k l
  | [], _ => trivial
  | _ :: _, h => by
    simp only [keyOKB, Bool.and_eq_true] at h
    exact ⟨h.1, keyOKB_iff h.2⟩

def lookE (kd : Nat) (z : V) (ok : Bool) (m key : V) (h : Heap) (n : Nat) : Outs :=
  match m with
  | .nilm => gE (keyV kd key) (oneO (lookV z ok none) h n)
  | .mp b st => match Heap.get h b st with
    | some (.map es) => gE (keyV kd key && keyOKB key es) (oneO (lookV z ok (mfind key es)) h n)
    | _ => none
  | _ => none
theorem Good.look {kd : Nat} {z : V} {ok : Bool} {m key : V} {h : Heap} {n : Nat} {k : Res} (hg : Good (lookE kd z ok m key h n) k) : lookK kd z ok m key k h n := by
  unfold lookE at hg
  unfold lookK
  split at hg
  · exact ⟨hg.g.1, hg.g.2.one⟩
  · simp only
    split at hg
    · rename_i he
      obtain ⟨h1, hg⟩ := hg.g
      simp only [Bool.and_eq_true] at h1
      rw [he]
      exact ⟨h1.1, keyOKB_iff h1.2, hg.one⟩
    · exact hg.no.elim
  · exact hg.no.elim

def mputE (kd : Nat) (m key v : V) (h : Heap) (n : Nat) : Outs :=
  match m with
  | .mp b st => match Heap.get h b st with
    | some (.map es) => gE (keyV kd key && keyOKB key es) (oneO .undef (Heap.put h b st (.map (mset key v es))) n)
    | _ => none
  | _ => none
theorem Good.mput {kd : Nat} {m key v : V} {h : Heap} {n : Nat} {k : Res} (hg : Good (mputE kd m key v h n) k) : mputK kd m key v k h n := by
  unfold mputE at hg
  unfold mputK
  split at hg
  · simp only
    split at hg
    · rename_i he
      obtain ⟨h1, hg⟩ := hg.g
      simp only [Bool.and_eq_true] at h1
      rw [he]
      exact ⟨h1.1, keyOKB_iff h1.2, hg.one⟩
    · exact hg.no.elim
  · exact hg.no.elim

def mdelE (kd : Nat) (m key : V) (h : Heap) (n : Nat) : Outs :=
  match m with
  | .nilm => gE (keyV kd key) (oneO (.tup []) h n)
  | .mp b st => match Heap.get h b st with
    | some (.map es) => gE (keyV kd key && keyOKB key es) (oneO (.tup []) (Heap.put h b st (.map (mrem key es))) n)
    | _ => none
  | _ => none
theorem Good.mdel {kd : Nat} {m key : V} {h : Heap} {n : Nat} {k : Res} (hg : Good (mdelE kd m key h n) k) : mdelK kd m key k h n := by
  unfold mdelE at hg
  unfold mdelK
  split at hg
  · exact ⟨hg.g.1, hg.g.2.one⟩
  · simp only
    split at hg
    · rename_i he
      obtain ⟨h1, hg⟩ := hg.g
      simp only [Bool.and_eq_true] at h1
      rw [he]
      exact ⟨h1.1, keyOKB_iff h1.2, hg.one⟩
    · exact hg.no.elim
  · exact hg.no.elim

/-! Calls are done by 'C'. -/
abbrev Caller := FuncId → List V → Heap → Nat → Outs

def callvE (P : Program) (C : Caller) (f : V) (xs : List V) (h : Heap) (n : Nat) : Outs :=
  match f with
  | .fn g cs => gE (hasBody P g) (C g (xs ++ cs) h n)
  | _ => none

def eqnE (fn neg : Bool) (x : V) (h : Heap) (n : Nat) : Outs :=
  match fn, x with
  | false, .nils => oneO (.bool !neg) h n
  | false, .isl (_ :: _) => oneO (.bool neg) h n
  | false, .sl _ _ _ (_ + 1) => oneO (.bool neg) h n
  | true, .fn _ _ => oneO (.bool neg) h n
  | true, .cst .nilFunc => oneO (.bool !neg) h n
  | _, _ => none
theorem Good.eqn {fn neg : Bool} {x : V} {h : Heap} {n : Nat} {k : Res} (hg : Good (eqnE fn neg x h n) k) : eqnK fn neg x k h n := by
  unfold eqnE at hg
  split at hg
  · exact hg.one
  · exact ⟨hg.one, fun e => by cases e⟩
  · exact ⟨hg.one, fun e => by cases e⟩
  · exact hg.one
  · exact hg.one
  · exact hg.no.elim

def boxiE (sz : Nat) (cs : Option (List V)) (h : Heap) (n : Nat) : Outs :=
  match cs with
  | some cs => bif Nat.beq cs.length sz then oneO (.iptr [cs] 0 0) h n else none
  | none => none
theorem Good.boxi {sz : Nat} {cs : Option (List V)} {h : Heap} {n : Nat} {k : Res} (hg : Good (boxiE sz cs h n) k) : boxiK sz cs k h n := by
  unfold boxiE at hg
  unfold boxiK
  split at hg
  · rename_i cs
    cases hb : Nat.beq cs.length sz with
    | true => rw [hb] at hg; exact ⟨Nat.eq_of_beq_eq_true hb, hg.one⟩
    | false => rw [hb] at hg; exact hg.no.elim
  · exact hg.no.elim
def loadiE (m : Nat) (agg : Bool) (x : V) (h : Heap) (n : Nat) : Outs :=
  match x with
  | .iptr es i j => optE (rowAt es i fun row => loadRow row j m agg) h n
  | _ => none
theorem Good.loadi {m : Nat} {agg : Bool} {x : V} {h : Heap} {n : Nat} {k : Res} (hg : Good (loadiE m agg x h n) k) : loadiK m agg x k h n := by
  unfold loadiE at hg
  unfold loadiK
  split at hg
  · exact hg.opt
  · exact hg.no.elim

def exO (P : Program) (C : Caller) (s : St) : AO → Outs
  | .mov x => oneO (s.ev x) s.h s.n
  | .pick c a b => optE (pickV (s.ev c) (s.ev a) (s.ev b)) s.h s.n
  | .nilck x => optE (nilckV (s.ev x)) s.h s.n
  | .box nm sz x => boxE nm sz (cellsV (s.ev x)) s.h s.n
  | .build z ps => optE ((fillV s z ps).map .agg) s.h s.n
  | .mkrow nm sz xs => rowE nm sz (rowsOf sz s xs) s.h s.n
  | .mkisl sz xs => islE (rowsOf sz s xs) s.h s.n
  | .load m agg x => optE (loadV s.h (s.ev x) m agg) s.h s.n
  | .store m x v => heapE (storeV s.h (s.ev x) (s.ev v) m) s.n
  | .faddr off x => optE (faddrV off (s.ev x)) s.h s.n
  | .iaddr sz x i => iaddrE sz (s.ev x) (s.ev i) s.h s.n
  | .iaddrA len sz x i => iaddrAE len sz (s.ev x) (s.ev i) s.h s.n
  | .fld off m agg x => optE (fldV off m agg (s.ev x)) s.h s.n
  | .idx x i => idxE (s.ev x) (s.ev i) s.h s.n
  | .ext i x => optE (extV i (s.ev x)) s.h s.n
  | .bin op x y => binE op (s.ev x) (s.ev y) s.h s.n
  | .binw op x y => optE (binwV op (s.ev x) (s.ev y)) s.h s.n
  | .eqp kind neg x y => optE (bif kindV kind (s.ev x) then eqpV neg (s.ev x) (s.ev y) else none) s.h s.n
  | .eqa neg t x y => optE (eqaV neg t (s.ev x) (s.ev y)) s.h s.n
  | .un op x => unE op (s.ev x) s.h s.n
  | .negw x => optE (negwV (s.ev x)) s.h s.n
  | .conv j x => optE (convV j (s.ev x)) s.h s.n
  | .cap0 x => optE (cap0V (s.ev x)) s.h s.n
  | .grw _ _ _ _ | .rgm _ _ | .nxm _ | .ent _ => none
  | .bst x => optE (bstV (viewV s.h (s.ev x))) s.h s.n
  | .byts nm x => bytsE nm (s.ev x) s.h s.n
  | .mkraw nm xs => rawE nm (rowsOf 1 s xs) s.h s.n
  | .cvr x => cvrE (s.ev x) s.h s.n
  | .isnil neg x => optE (isnilV neg (s.ev x)) s.h s.n
  | .len kind x => optE (lenV s.h kind (s.ev x)) s.h s.n
  | .lenc m => oneO (.int .i64 m) s.h s.n
  | .mm mx xs => optE (mmV mx (xs.map s.ev)) s.h s.n
  | .app nm sz b x => appE 137438953472 nm sz (s.ev b) (srcV s.h (s.ev x)) s.h s.n
  | .apb L nm sz b x => appE L nm sz (s.ev b) (srcV s.h (s.ev x)) s.h s.n
  | .copy sz d x => copyE sz (s.ev d) (srcV s.h (s.ev x)) s.h s.n
  | .mksl nm z x => mkslE nm z (s.ev x) s.h s.n
  | .slc sz x lo hi => slcE sz (s.ev x) (lo.map s.ev) (hi.map s.ev) s.h s.n
  | .sls x lo hi => slsE (s.ev x) (lo.map s.ev) (hi.map s.ev) s.h s.n
  | .mkfn f xs => oneO (.fn f (xs.map s.ev)) s.h s.n
  | .mkmap nm => oneO (.mp nm s.n) (Heap.put s.h nm s.n (.map [])) (s.n + 1)
  | .look kd z ok m x => lookE kd z ok (s.ev m) (s.ev x) s.h s.n
  | .mput kd m x v => mputE kd (s.ev m) (s.ev x) (s.ev v) s.h s.n
  | .mdel kd m x => mdelE kd (s.ev m) (s.ev x) s.h s.n
  | .sh l x y => shE l (s.ev x) (s.ev y) s.h s.n
  | .idxA len sz m agg x i => idxAE len sz m agg (s.ev x) (s.ev i) s.h s.n
  | .clr z x => clrE z (s.ev x) s.h s.n
  | .slz nm sz x => slzE nm sz (s.ev x) s.h s.n
  | .call f xs => C f (xs.map s.ev) s.h s.n
  | .callp f xs => C f (xs.map s.ev) s.h s.n
  | .tas t x => optE (tasV t (s.ev x)) s.h s.n
  | .mki t x => optE ((unV (s.ev x)).map fun u => .cst (.iface t u)) s.h s.n
  | .pan _ => none
  | .boxi sz x => boxiE sz (cellsV (s.ev x)) s.h s.n
  | .loadi m agg x => loadiE m agg (s.ev x) s.h s.n
  | .callv f xs => callvE P C (s.ev f) (xs.map s.ev) s.h s.n
  | .pcall .. => none
  | .eqn fn neg x => eqnE fn neg (s.ev x) s.h s.n
  | .bad => none

def CallerOK (P : Program) (C : Caller) : Prop := ∀ f xs h n k, Good (C f xs h n) k → CallS P f xs h n k

theorem exO_sound {P : Program} {C : Caller} (hC : CallerOK P C) {s : St} {o : AO} {k : Res} (hg : Good (exO P C s o) k) : stepO P PK o s k := by
  cases o <;> simp only [exO] at hg <;> simp only [stepO]
  case mov => exact hg.one
  case pick => exact hg.opt
  case nilck => exact hg.opt
  case box => exact hg.box
  case build => exact hg.opt
  case mkrow => exact hg.row
  case mkisl => exact hg.isl
  case load => exact hg.opt
  case store => exact hg.heap
  case faddr => exact hg.opt
  case iaddr => exact hg.iaddr
  case iaddrA => exact hg.iaddrA
  case fld => exact hg.opt
  case idx => exact hg.idx
  case ext => exact hg.opt
  case bin => exact hg.bin
  case binw => exact hg.opt
  case eqp => exact hg.opt
  case eqa => exact hg.opt
  case un => exact hg.un
  case negw => exact hg.opt
  case conv => exact hg.opt
  case bst => exact hg.opt
  case cap0 => exact hg.opt
  case grw => exact hg.no.elim
  case rgm => exact hg.no.elim
  case nxm => exact hg.no.elim
  case ent => exact hg.no.elim
  case byts => exact hg.byts
  case mkraw => exact hg.raw
  case cvr => exact hg.cvr
  case isnil => exact hg.opt
  case len => exact hg.opt
  case lenc => exact hg.one
  case mm => exact hg.opt
  case app => exact hg.app
  case apb => exact hg.app
  case copy => exact hg.copy
  case mksl => exact hg.mksl
  case slc => exact hg.slc
  case sls => exact hg.sls
  case mkfn => exact hg.one
  case mkmap => exact hg.one
  case look => exact hg.look
  case mput => exact hg.mput
  case mdel => exact hg.mdel
  case sh => exact hg.sh
  case idxA => exact hg.idxA
  case clr => exact hg.clr
  case slz => exact hg.slz
  case call => exact hC _ _ _ _ _ hg
  case callp => exact (hC _ _ _ _ _ hg).toP
  case boxi => exact hg.boxi
  case tas => exact hg.opt
  case mki => exact hg.opt
  case pan => exact hg.no.elim
  case loadi => exact hg.loadi
  case callv =>
    unfold callvE at hg
    split at hg
    · rename_i g cs he
      rw [he]
      exact ⟨hg.g.1, hC _ _ _ _ _ hg.g.2⟩
    · exact hg.no.elim
  case pcall => exact hg.no.elim
  case eqn => exact hg.eqn
  case bad => exact hg.no

/-! Equality. -/
def bEq : Bool → Bool → Bool
  | true, true | false, false => true
  | _, _ => false
theorem bEq_iff {a b : Bool} (h : bEq a b = true) : a = b := by cases a <;> cases b <;> first | rfl | cases h

def cstEq : Value → Value → Bool
  | .nilIface, .nilIface => true
  | .nilFunc, .nilFunc => true
  | _, _ => false
theorem cstEq_eq {a b : Value} (h : cstEq a b = true) : a = b := by
  unfold cstEq at h
  split at h
  · rfl
  · rfl
  · cases h
mutual
def V.beq : V → V → Bool
  | .undef, .undef => true
  | .bool a, .bool b => bEq a b
  | .int k n, .int k' n' => kEq k k' && zeq n n'
  | .str a, .str b => bytesEq a b
  | .agg a, .agg b => V.beqL a b
  | .tup a, .tup b => V.beqL a b
  | .nilp, .nilp => true
  | .ptr b st i j, .ptr b' st' i' j' => Nat.beq b b' && (Nat.beq st st' && (Nat.beq i i' && Nat.beq j j'))
  | .nils, .nils => true
  | .sl b st i j, .sl b' st' i' j' => Nat.beq b b' && (Nat.beq st st' && (Nat.beq i i' && Nat.beq j j'))
  | .isl a, .isl b => V.beqLL a b
  | .iptr a i j, .iptr b i' j' => V.beqLL a b && (Nat.beq i i' && Nat.beq j j')
  | .nilm, .nilm => true
  | .mp b st, .mp b' st' => Nat.beq b b' && Nat.beq st st'
  | .fn f cs, .fn g ds => Nat.beq f g && V.beqL cs ds
  | .err, .err => true
  | .cst v, .cst w => cstEq v w
  | .anyi k, .anyi k' => kEq k k'
  | _, _ => false
def V.beqL : List V → List V → Bool
  | [], [] => true
  | a :: r, b :: s => V.beq a b && V.beqL r s
  | _, _ => false
def V.beqLL : List (List V) → List (List V) → Bool
  | [], [] => true
  | a :: r, b :: s => V.beqL a b && V.beqLL r s
  | _, _ => false
end

mutual
theorem V.beq_eq : ∀ {a b : V}, V.beq a b = true → a = b
  | .undef, b, h => by cases b <;> first | rfl | simp [V.beq] at h
  | .bool a, b, h => by
    cases b <;> simp only [V.beq, Bool.false_eq_true] at h
    rw [bEq_iff h]
  | .int k n, b, h => by
    cases b <;> simp only [V.beq, Bool.false_eq_true, Bool.and_eq_true] at h
    rw [kEq_iff.1 h.1, zeq_iff.1 h.2]
  | .str a, b, h => by
    cases b <;> simp only [V.beq, Bool.false_eq_true] at h
    rw [bytesEq_iff.1 h]
  | .agg a, b, h => by
    cases b <;> simp only [V.beq, Bool.false_eq_true] at h
    rw [V.beqL_eq h]
  | .tup a, b, h => by
    cases b <;> simp only [V.beq, Bool.false_eq_true] at h
    rw [V.beqL_eq h]
  | .nilp, b, h => by cases b <;> first | rfl | simp [V.beq] at h
  | .ptr b st i j, x, h => by
    cases x <;> simp only [V.beq, Bool.false_eq_true, Bool.and_eq_true, nbeq] at h
    obtain ⟨rfl, rfl, rfl, rfl⟩ := h; rfl
  | .nils, b, h => by cases b <;> first | rfl | simp [V.beq] at h
  | .sl b st i j, x, h => by
    cases x <;> simp only [V.beq, Bool.false_eq_true, Bool.and_eq_true, nbeq] at h
    obtain ⟨rfl, rfl, rfl, rfl⟩ := h; rfl
  | .isl a, b, h => by
    cases b <;> simp only [V.beq, Bool.false_eq_true] at h
    rw [V.beqLL_eq h]
  | .iptr a i j, b, h => by
    cases b <;> simp only [V.beq, Bool.false_eq_true, Bool.and_eq_true, nbeq] at h
    obtain ⟨h1, rfl, rfl⟩ := h; rw [V.beqLL_eq h1]
  | .nilm, b, h => by cases b <;> first | rfl | simp [V.beq] at h
  | .mp b st, x, h => by
    cases x <;> simp only [V.beq, Bool.false_eq_true, Bool.and_eq_true, nbeq] at h
    obtain ⟨rfl, rfl⟩ := h; rfl
  | .fn f cs, x, h => by
    cases x <;> simp only [V.beq, Bool.false_eq_true, Bool.and_eq_true, nbeq] at h
    obtain ⟨rfl, h1⟩ := h; rw [V.beqL_eq h1]
  | .cst v, b, h => by
    cases b <;> simp only [V.beq, Bool.false_eq_true] at h
    rw [cstEq_eq h]
  | .err, b, h => by cases b <;> first | rfl | simp [V.beq] at h
  | .anyi k, b, h => by
    cases b <;> simp only [V.beq, Bool.false_eq_true] at h
    rw [kEq_iff.1 h]
theorem V.beqL_eq : ∀ {a b : List V}, V.beqL a b = true → a = b
  | [], b, h => by cases b <;> first | rfl | simp [V.beqL] at h
  | x :: r, b, h => by
    cases b <;> simp only [V.beqL, Bool.false_eq_true, Bool.and_eq_true] at h
    rw [V.beq_eq h.1, V.beqL_eq h.2]
theorem V.beqLL_eq : ∀ {a b : List (List V)}, V.beqLL a b = true → a = b
  | [], b, h => by cases b <;> first | rfl | simp [V.beqLL] at h
  | x :: r, b, h => by
    cases b <;> simp only [V.beqLL, Bool.false_eq_true, Bool.and_eq_true] at h
    rw [V.beqL_eq h.1, V.beqLL_eq h.2]
end

def beqMs : List (V × V) → List (V × V) → Bool
  | [], [] => true
  | a :: r, b :: s => V.beq a.1 b.1 && (V.beq a.2 b.2 && beqMs r s)
  | _, _ => false
theorem beqMs_eq : ∀ {a b : List (V × V)}, beqMs a b = true → a = b
  | [], [], _ => rfl
  | [], _ :: _, h => by cases h
  | _ :: _, [], h => by cases h
  | x :: r, y :: s, h => by
    simp only [beqMs, Bool.and_eq_true] at h
    rw [show x = y from Prod.ext (V.beq_eq h.1) (V.beq_eq h.2.1), beqMs_eq h.2.2]
def beqBlk : Blk → Blk → Bool
  | .rows sz rs, .rows sz' rs' => Nat.beq sz sz' && V.beqLL rs rs'
  | .map es, .map es' => beqMs es es'
  | _, _ => false
theorem beqBlk_eq {a b : Blk} (h : beqBlk a b = true) : a = b := by
  cases a <;> cases b <;> simp only [beqBlk, Bool.false_eq_true, Bool.and_eq_true, nbeq] at h
  · rw [h.1, V.beqLL_eq h.2]
  · rw [beqMs_eq h]
def beqH : Heap → Heap → Bool
  | [], [] => true
  | a :: r, b :: s => Nat.beq a.1 b.1 && (Nat.beq a.2.1 b.2.1 && (beqBlk a.2.2 b.2.2 && beqH r s))
  | _, _ => false
theorem beqH_eq : ∀ {a b : Heap}, beqH a b = true → a = b
  | [], [], _ => rfl
  | [], _ :: _, h => by cases h
  | _ :: _, [], h => by cases h
  | (x1, x2, x3) :: r, (y1, y2, y3) :: s, h => by
    simp only [beqH, Bool.and_eq_true, nbeq] at h
    obtain ⟨rfl, rfl, h3, h4⟩ := h
    rw [beqBlk_eq h3, beqH_eq h4]
def beqSl : List (Nat × V) → List (Nat × V) → Bool
  | [], [] => true
  | a :: r, b :: s => Nat.beq a.1 b.1 && (V.beq a.2 b.2 && beqSl r s)
  | _, _ => false
theorem beqSl_eq : ∀ {a b : List (Nat × V)}, beqSl a b = true → a = b
  | [], [], _ => rfl
  | [], _ :: _, h => by cases h
  | _ :: _, [], h => by cases h
  | (x1, x2) :: r, (y1, y2) :: s, h => by
    simp only [beqSl, Bool.and_eq_true, nbeq] at h
    obtain ⟨rfl, h2, h4⟩ := h
    rw [V.beq_eq h2, beqSl_eq h4]
def beqSt (a b : St) : Bool := beqSl a.sl b.sl && (beqH a.h b.h && Nat.beq a.n b.n)
theorem beqSt_eq {a b : St} (h : beqSt a b = true) : a = b := by
  obtain ⟨a1, a2, a3⟩ := a
  obtain ⟨b1, b2, b3⟩ := b
  simp only [beqSt, Bool.and_eq_true, nbeq] at h
  rw [beqSl_eq h.1, beqH_eq h.2.1, h.2.2]

/-! Lists of operations. -/
def finE (d : Option Nat) (sl : List (Nat × V)) (r : V × Heap × Nat) : St :=
  match d with
  | some i => ⟨sset sl i r.1, r.2.1, r.2.2⟩
  | none => ⟨sl, r.2.1, r.2.2⟩

def exA (P : Program) (C : Caller) (i : AI) (s : St) : Option St :=
  match i.g with
  | none => (exO P C s i.o).map (finE i.d s.sl)
  | some (j, want) => match sget s.sl j with
    | .bool b => bif bEq b want then (exO P C ⟨sset s.sl j (.bool want), s.h, s.n⟩ i.o).map (finE i.d (sset s.sl j (.bool want))) else some (finE i.d (sset s.sl j (.bool !want)) (.cst Go.undef, s.h, s.n))
    | .cst u => bif notBool u then some (finE i.d s.sl (.cst Go.undef, s.h, s.n)) else none
    | _ => none

def exV (P : Program) (C : Caller) : List AI → St → Option St
  | [], s => some s
  | i :: r, s => match exA P C i s with
    | some s' => exV P C r s'
    | none => none

def sameO (P : Program) (C : Caller) (s s' : St) : List (List AI) → Bool
  | [] => true
  | l :: r => match exV P C l s with
    | some s2 => beqSt s2 s' && sameO P C s s' r
    | none => false

/-- All orders must agree. -/
def exVs (P : Program) (C : Caller) (s : St) : List (List AI) → Option St
  | [] => none
  | l :: r => match exV P C l s with
    | some s' => bif sameO P C s s' r then some s' else none
    | none => none

section
variable {P : Program} {C : Caller} {k : Res}

theorem fin_sound {K' : St → Prop} {d : Option Nat} {sl : List (Nat × V)} {x : V × Heap × Nat} (hg : K' (finE d sl x)) : fin d sl K' x.1 x.2.1 x.2.2 := by
  cases d <;> exact hg

theorem exA_sound (hC : CallerOK P C) {i : AI} {s s' : St} {K' : St → Prop} (hg : exA P C i s = some s') (hK : K' s') : stepA P PK i s K' := by
  have some_ : ∀ {t : St} {sl : List (Nat × V)}, (exO P C t i.o).map (finE i.d sl) = some s' → stepO P PK i.o t (fin i.d sl K') := by
    intro t sl h
    obtain ⟨x, h1, h2⟩ := Option.map_eq_some_iff.1 h
    exact exO_sound hC ⟨x, h1, fin_sound (by rw [h2]; exact hK)⟩
  unfold exA at hg
  unfold stepA
  split at hg
  · rename_i e
    rw [e]
    exact some_ hg
  · rename_i j want e
    rw [e]
    simp only
    split at hg
    · rename_i b hb
      rw [hb]
      cases b <;> cases want <;> simp only [bEq, cond_true, cond_false] at hg <;> refine ⟨fun e => ?_, fun e => ?_⟩
      any_goals (cases e; done)
      · exact some_ hg
      · injection hg with hg; exact fin_sound (x := (.cst Go.undef, s.h, s.n)) (by rw [hg]; exact hK)
      · injection hg with hg; exact fin_sound (x := (.cst Go.undef, s.h, s.n)) (by rw [hg]; exact hK)
      · exact some_ hg
    · rename_i u hu
      rw [hu]
      cases hb : notBool u with
      | false => rw [hb] at hg; cases hg
      | true =>
        rw [hb] at hg
        injection hg with hg
        exact ⟨hb, fin_sound (x := (.cst Go.undef, s.h, s.n)) (by rw [hg]; exact hK)⟩
    · cases hg

theorem exV_sound (hC : CallerOK P C) {K' : St → Prop} {s' : St} (hK : K' s') : ∀ {l : List AI} {s : St}, exV P C l s = some s' → vo P PK l K' s
  | [], _, hg => by injection hg with hg; subst hg; exact hK
  | i :: r, s, hg => by
    simp only [exV] at hg
    split at hg
    · rename_i t ht; exact exA_sound (K' := vo P PK r K') hC ht (exV_sound hC hK hg)
    · cases hg

theorem sameO_sound (hC : CallerOK P C) {K' : St → Prop} {s s' : St} (hK : K' s') : ∀ {l : List (List AI)}, sameO P C s s' l = true → voAll P PK l K' s
  | [], _ => trivial
  | l :: r, hg => by
    simp only [sameO] at hg
    split at hg
    · rename_i t ht
      simp only [Bool.and_eq_true] at hg
      rw [beqSt_eq hg.1] at ht
      exact ⟨exV_sound hC hK ht, sameO_sound hC hK hg.2⟩
    · cases hg

theorem exVs_sound (hC : CallerOK P C) {K' : St → Prop} {s s' : St} (hK : K' s') : ∀ {l : List (List AI)}, exVs P C s l = some s' → voAll P PK l K' s
  | [], h => by cases h
  | l :: r, hg => by
    simp only [exVs] at hg
    split at hg
    · rename_i t ht
      cases hb : sameO P C s t r with
      | false => rw [hb] at hg; cases hg
      | true =>
        rw [hb, cond_true] at hg
        injection hg with hg
        subst hg
        exact ⟨exV_sound hC hK ht, sameO_sound hC hK hb⟩
    · cases hg

/-! Names: before a region that allocates anew, and when a call ends, the blocks get names of their own. Blocks from the stamp 'f' on only. -/
def nmB : Nat := 1000000000000
def low (f b st : Nat) : Bool := Nat.blt b nmB && Nat.ble f st
section
variable (f : Nat)
mutual
def renV : V → V
  | .sl b st i n => bif low f b st then .sl (nmB + st) st i n else .sl b st i n
  | .ptr b st i n => bif low f b st then .ptr (nmB + st) st i n else .ptr b st i n
  | .mp b st => bif low f b st then .mp (nmB + st) st else .mp b st
  | .agg l => .agg (renL l)
  | .tup l => .tup (renL l)
  | v => v
def renL : List V → List V
  | [] => []
  | a :: r => renV a :: renL r
end
mutual
/-- Speaks of a block from the stamp on. -/
def menV : V → Bool
  | .sl _ st _ _ => Nat.ble f st
  | .ptr _ st _ _ => Nat.ble f st
  | .mp _ st => Nat.ble f st
  | .agg l => menL l
  | .tup l => menL l
  | .fn _ _ => true
  | _ => false
def menL : List V → Bool
  | [] => false
  | a :: r => menV a || menL r
end
end
mutual
theorem renV_same (f : Nat) : ∀ v : V, SameV v (renV f v)
  | .sl b st i n => by rw [renV]; cases low f b st <;> exact .sl
  | .ptr b st i n => by rw [renV]; cases low f b st <;> exact .ptr
  | .mp b st => by rw [renV]; cases low f b st <;> exact .mp
  | .agg l => by rw [renV]; exact .agg (renL_same f l)
  | .tup l => by rw [renV]; exact .tup (renL_same f l)
  | .undef => .refl _
  | .bool _ => .refl _
  | .int _ _ => .refl _
  | .str _ => .refl _
  | .nilp => .refl _
  | .nils => .refl _
  | .isl _ => .refl _
  | .iptr _ _ _ => .refl _
  | .nilm => .refl _
  | .fn _ _ => .refl _
  | .yld _ _ => .refl _
  | .cst _ => .refl _
  | .err => .refl _
  | .anyi _ => .refl _
theorem renL_same (f : Nat) : ∀ l : List V, SameL l (renL f l)
  | [] => by rw [renL]; trivial
  | a :: r => by rw [renL]; exact ⟨renV_same f a, renL_same f r⟩
end
def renB (f : Nat) : Blk → Blk
  | .rows sz rs => .rows sz (rs.map (renL f))
  | .map es => .map es
  | b => b
theorem renB_same (f : Nat) (b : Blk) : SameB b (renB f b) := by
  cases b with
  | map es => exact .refl _
  | loop => exact .refl _
  | mapb => exact .refl _
  | iter => exact .refl _
  | raw => exact .refl _
  | rows sz rs =>
    refine .rows (by simp) fun i r2 h => ?_
    rw [List.getElem?_map] at h
    obtain ⟨r, h1, h2⟩ := Option.map_eq_some_iff.1 h
    exact ⟨r, h1, h2 ▸ renL_same f r⟩
def menB (f : Nat) : Blk → Bool
  | .rows _ rs => rs.any (menL f)
  | .map es => es.any fun p => menV f p.1 || menV f p.2
  | .loop .. => true
  | .mapb .. => true
  | .iter .. => true
  | .raw .. => true
/-- The new name of 'b'. -/
def renN (f : Nat) : Heap → Nat → Nat
  | [], b => b
  | e :: r, b => bif Nat.beq e.1 b then (bif low f e.1 e.2.1 then nmB + e.2.1 else b) else renN f r b
/-- Blocks from 'd' on are dropped. -/
def gone : Option Nat → Nat → Bool
  | some m, st => Nat.ble m st
  | none, _ => false
def renH (f : Nat) (d : Option Nat) (h0 : Heap) : Heap → Heap
  | [] => []
  | e :: r => bif gone d e.2.1 then renH f d h0 r else (renN f h0 e.1, e.2.1, renB f e.2.2) :: renH f d h0 r
theorem renH_same (f : Nat) (d : Option Nat) (h0 : Heap) : ∀ h : Heap, (∀ e ∈ h, e ∈ h0) → SameH (renN f h0) h0 (renH f d h0 h)
  | [], _ => trivial
  | e :: r, hm => by
    simp only [renH]
    have := renH_same f d h0 r fun x hx => hm x (List.mem_cons_of_mem _ hx)
    cases gone d e.2.1
    · exact ⟨⟨e, hm e List.mem_cons_self, rfl, rfl, renB_same f _⟩, this⟩
    · exact this
def renSl (f : Nat) (s0 : List (Nat × V)) : List (Nat × V) → List (Nat × V)
  | [] => []
  | p :: r => (p.1, renV f (sget s0 p.1)) :: renSl f s0 r
theorem renSl_same (f : Nat) (s0 : List (Nat × V)) : ∀ s : List (Nat × V), SameS s0 (renSl f s0 s)
  | [] => trivial
  | p :: r => ⟨renV_same f _, renSl_same f s0 r⟩
def renS (f : Nat) (s : St) : St := ⟨renSl f s.sl s.sl, renH f none s.h s.h, s.n⟩
theorem renS_wk (f : Nat) (s : St) : Wk s (renS f s) := .turn (renN f s.h) (renSl_same _ _ _) (renH_same _ _ _ _ fun _ h => h)

def hasN (h : Heap) (b : Nat) : Bool := h.any fun e => Nat.beq e.1 b
def needO (h : Heap) : AO → Bool
  | .box nm _ _ => hasN h nm
  | .mkrow nm _ _ => hasN h nm
  | .mksl nm _ _ => hasN h nm
  | .mkmap nm => hasN h nm
  | .slz nm _ _ => hasN h nm
  | .byts nm _ => hasN h nm
  | .mkraw nm _ => hasN h nm
  | .app nm _ _ _ => hasN h nm
  | .apb _ nm _ _ _ => hasN h nm
  | _ => false
def needs (h : Heap) : List (List AI) → Bool
  | [] => false
  | l :: _ => l.any fun i => needO h i.o
def tidy (f : Nat) (l : List (List AI)) (s : St) : St := bif needs s.h l then renS f s else s
theorem tidy_wk (f : Nat) (l : List (List AI)) (s : St) : Wk s (tidy f l s) := by
  unfold tidy
  cases needs s.h l
  · exact .refl _
  · exact renS_wk f s

/-- The end of a call that began at the stamp 'f': its blocks are dropped if nothing speaks of them, else renamed. -/
def endC (f : Nat) (x : V × Heap × Nat) : V × Heap × Nat :=
  bif x.2.1.any (fun e => Nat.ble f e.2.1) then
    (bif menV f x.1 || x.2.1.any (fun e => Nat.blt e.2.1 f && menB f e.2.2) then (renV f x.1, renH f none x.2.1 x.2.1, x.2.2) else (x.1, renH f (some f) x.2.1 x.2.1, x.2.2))
  else x
theorem endC_wk (f : Nat) (x : V × Heap × Nat) : Wk ⟨[(0, x.1)], x.2.1, x.2.2⟩ ⟨[(0, (endC f x).1)], (endC f x).2.1, (endC f x).2.2⟩ := by
  unfold endC
  cases x.2.1.any (fun e => Nat.ble f e.2.1)
  · exact .refl _
  · simp only [cond_true]
    cases menV f x.1 || x.2.1.any (fun e => Nat.blt e.2.1 f && menB f e.2.2)
    · exact .turn (renN f x.2.1) ⟨.refl _, trivial⟩ (renH_same _ _ _ _ fun _ h => h)
    · exact .turn (renN f x.2.1) ⟨renV_same f _, trivial⟩ (renH_same _ _ _ _ fun _ h => h)
theorem endC_call {P : Program} {g : FuncId} {xs : List V} {h : Heap} {n : Nat} {k : Res} {o : Outs} (ho : ∀ k, Good o k → CallS P g xs h n k) (hg : Good (o.map (endC n)) k) : CallS P g xs h n k := by
  obtain ⟨y, h1, h2⟩ := hg
  obtain ⟨x, h3, rfl⟩ := Option.map_eq_some_iff.1 h1
  refine (ho (fun r h' n' => (r, h', n') = x) ⟨x, h3, rfl⟩).wk ?_
  rintro r h' n' rfl
  exact ⟨_, _, _, endC_wk n (r, h', n'), h2⟩

def retE (rs : List RV) (s : St) : Outs :=
  match resOf s rs with
  | some vs => oneO (oneOf vs) s.h s.n
  | none => none

def exG (P : Program) (C : Caller) (rs : List RV) (f : Nat) : Nat → List AItem → St → Outs
  | 0, _, _ => none
  | _ + 1, [], s => retE rs s
  | m + 1, .code .skip :: k, s => exG P C rs f m k s
  | m + 1, .code (.ops l) :: k, s => match exVs P C (tidy f l s) l with
    | some s' => exG P C rs f m k s'
    | none => none
  | _ + 1, .code .bad :: _, _ => none
  | m + 1, .code (.seq a b) :: k, s => exG P C rs f m (.code a :: .code b :: k) s
  | m + 1, .code (.cond x a b) :: k, s => match s.ev x with
    | .bool true => exG P C rs f m (.code a :: k) s
    | .bool false => exG P C rs f m (.code b :: k) s
    | _ => none
  | m + 1, .code (.block id a) :: k, s => exG P C rs f m (.code a :: .blk id :: k) s
  | m + 1, .code (.loop a) :: k, s => exG P C rs f m (.code a :: .lp a :: k) s
  | m + 1, .code (.exit id) :: k, s => match Nat.beq 999999999 id, dropTo id k with
    | false, some k' => exG P C rs f m k' s
    | _, _ => none
  | _ + 1, .code .ret :: _, s => retE rs s
  | m + 1, .blk _ :: k, s => exG P C rs f m k s
  | m + 1, .lp a :: k, s => exG P C rs f m (.code a :: .lp a :: k) s
  | m + 1, .code (.dfr d) :: k, s => exG P C rs f m k ⟨sset s.sl d .undef, s.h, s.n⟩
  | _ + 1, .code (.rng ..) :: _, _ => none
  | _ + 1, .beg :: _, _ => none

theorem ret_sound {N : Nat} {rs : List RV} {s : St} (hg : Good (retE rs s) k) : retG ⟨P, N, rs, k, none, none⟩ s := by
  unfold retE at hg
  unfold retG
  split at hg
  · rename_i vs hvs
    simp only
    rw [hvs]
    exact hg.one
  · exact hg.no.elim

theorem exG_sound (hC : CallerOK P C) {N : Nat} {rs : List RV} {f : Nat} : ∀ {m : Nat} {l : List AItem} {s : St}, Good (exG P C rs f m l s) k → Run ⟨P, N, rs, k, none, none⟩ l s
  | 0, _, _, hg => hg.no.elim
  | m + 1, [], s, hg => Run.go 1 (ret_sound hg)
  | m + 1, .code .skip :: l, s, hg => Run.go 1 (exG_sound hC (m := m) hg)
  | m + 1, .code (.ops is) :: l, s, hg => by
    simp only [exG] at hg
    split at hg
    · rename_i t ht; exact Run.wk (tidy_wk f is s) (Run.go 1 (exVs_sound hC (exG_sound hC (m := m) hg) ht))
    · exact hg.no.elim
  | m + 1, .code .bad :: _, _, hg => hg.no.elim
  | m + 1, .code (.seq a b) :: l, s, hg => Run.go 1 (exG_sound hC (m := m) hg)
  | m + 1, .code (.cond x a b) :: l, s, hg => by
    simp only [exG] at hg
    split at hg
    · rename_i hv; exact fun fn bs hrs => OK.cond hv (fun _ => exG_sound hC (m := m) hg fn bs hrs) (fun e => by cases e)
    · rename_i hv; exact fun fn bs hrs => OK.cond hv (fun e => by cases e) (fun _ => exG_sound hC (m := m) hg fn bs hrs)
    · exact hg.no.elim
  | m + 1, .code (.block id a) :: l, s, hg => Run.go 1 (exG_sound hC (m := m) hg)
  | m + 1, .code (.loop a) :: l, s, hg => Run.loop (exG_sound hC (m := m) hg)
  | m + 1, .code (.exit id) :: l, s, hg => by
    simp only [exG] at hg
    split at hg
    · rename_i k' hsc hk; exact fun fn bs hrs => OK.exit hsc hk (exG_sound hC (m := m) hg fn bs hrs)
    · exact hg.no.elim
  | m + 1, .code .ret :: _, s, hg => Run.go 1 (ret_sound hg)
  | m + 1, .blk _ :: l, s, hg => Run.go 1 (exG_sound hC (m := m) hg)
  | m + 1, .lp a :: l, s, hg => Run.lp (exG_sound hC (m := m) hg)
  | m + 1, .code (.dfr d) :: l, s, hg => Run.go 1 (exG_sound hC (m := m) hg)
  | m + 1, .code (.rng ..) :: _, _, hg => hg.no.elim
  | m + 1, .beg :: _, _, hg => hg.no.elim
end

/-- Calls by the table 'T'; 'lib' first. -/
def exC (P : Program) (T : List (FuncId × Nat × AC × List RV)) (lib : Caller) (m : Nat) : Nat → Caller
  | 0, _, _, _, _ => none
  | d + 1, f, xs, h, n => match lib f xs h n with
    | some l => some l
    | none => match look T f with
      | some e => (gE (Nat.ble xs.length e.1) (exG P (exC P T lib m d) e.2.2 n m [.code e.2.1] ⟨initSl 0 xs, h, n⟩)).map (endC n)
      | none => none
where
  look : List (FuncId × Nat × AC × List RV) → FuncId → Option (Nat × AC × List RV)
    | [], _ => none
    | e :: r, f => bif Nat.beq e.1 f then some e.2 else look r f

def TabOK (P : Program) (T : List (FuncId × Nat × AC × List RV)) : Prop := ∀ e ∈ T, compF P e.1 = some e.2
theorem TabOK.nil {P : Program} : TabOK P [] := fun e h => by cases h
theorem TabOK.cons {P : Program} {T : List (FuncId × Nat × AC × List RV)} {f N : Nat} {ac : AC} {rs : List RV} (h : compF P f = some (N, ac, rs)) (hr : TabOK P T) : TabOK P ((f, N, ac, rs) :: T) := fun e he => by
  rcases List.mem_cons.1 he with rfl | he
  · exact h
  · exact hr e he
theorem TabOK.look {P : Program} : ∀ {T : List (FuncId × Nat × AC × List RV)}, TabOK P T → ∀ {f : FuncId} {c}, exC.look T f = some c → compF P f = some c
  | [], _, f, c, h => by cases h
  | e :: r, hT, f, c, h => by
    simp only [exC.look] at h
    cases hb : Nat.beq e.1 f with
    | true =>
      rw [hb] at h; injection h with h
      rw [← Nat.eq_of_beq_eq_true hb, ← h]; exact hT e List.mem_cons_self
    | false => rw [hb] at h; exact TabOK.look (fun e he => hT e (List.mem_cons_of_mem _ he)) h

def noLib : Caller := fun _ _ _ _ => none
theorem noLib_ok {P : Program} : CallerOK P noLib := fun _ _ _ _ _ hg => hg.no.elim

theorem exC_sound {P : Program} {T : List (FuncId × Nat × AC × List RV)} {lib : Caller} (hT : TabOK P T) (hl : CallerOK P lib) {m : Nat} : ∀ {d : Nat}, CallerOK P (exC P T lib m d)
  | 0, _, _, _, _, _, hg => hg.no.elim
  | d + 1, f, xs, h, n, k, hg => by
    simp only [exC] at hg
    split at hg
    · rename_i l he; exact hl f xs h n k (by rw [he]; exact hg)
    · split at hg
      · rename_i e he
        refine endC_call (fun k hg => ?_) hg
        obtain ⟨h1, hg⟩ := hg.g
        exact CallS.enter (N := e.1) (ac := e.2.1) (rs := e.2.2) (hT.look he) (Nat.le_of_ble_eq_true h1) (exG_sound (exC_sound hT hl) hg)
      · exact hg.no.elim

/-- What the run answers, read out. -/
def exR (P : Program) (T : List (FuncId × Nat × AC × List RV)) (lib : Caller) (m d : Nat) (fr : Nat) (f : FuncId) (xs : List V) : Option V :=
  (exC P T lib m d f xs [] 0).map fun x => frz fr x.2.1 x.1

theorem Pure.exec {P : Program} {T : List (FuncId × Nat × AC × List RV)} {lib : Caller} (hT : TabOK P T) (hl : CallerOK P lib) {m d fr : Nat} {f : FuncId} {xs : List V} {r : V} (h : exR P T lib m d fr f xs = some r) : Pure P f xs r := by
  refine Pure.of fr (exC_sound (d := d) (m := m) hT hl f xs [] 0 _ ?_)
  obtain ⟨x, h1, h2⟩ := Option.map_eq_some_iff.1 h
  exact ⟨x, h1, h2⟩

/-- As 'exec', the answer compared by a program. -/
def eqR (o : Option V) (r : V) : Bool :=
  match o with
  | some v => V.beq v r
  | none => false
theorem Pure.execB {P : Program} {T : List (FuncId × Nat × AC × List RV)} {lib : Caller} (hT : TabOK P T) (hl : CallerOK P lib) {m d fr : Nat} {f : FuncId} {xs : List V} {r : V} (h : eqR (exR P T lib m d fr f xs) r = true) : Pure P f xs r := by
  unfold eqR at h
  split at h
  · rename_i v hv; exact Pure.exec hT hl (by rw [hv, V.beq_eq h])
  · cases h

end Go.Abs
