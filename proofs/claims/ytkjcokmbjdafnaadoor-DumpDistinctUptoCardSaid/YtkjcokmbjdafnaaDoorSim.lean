/-
  The evaluator as rewrite rules. No condition.
-/
import Derived.Test.YtkjcokmbjdafnaaDoorGo
set_option linter.unusedVariables false
set_option linter.unusedSimpArgs false
namespace Go.Abs
variable {PK : PanK} {pk : Option PanK}

theorem Run.unf {c : Cf} {x y : AC} {k : List AItem} {s : St} (h : x = y) (hr : Run c (.code y :: k) s) : Run c (.code x :: k) s := h ▸ hr

section
variable {c : Cf} {P : Program} {m : Nat} {k : List AItem} {s : St}

attribute [go_sem] go.eq_1 go.eq_2 go.eq_3 go.eq_4 go.eq_5 go.eq_6 go.eq_7 go.eq_8 go.eq_9 go.eq_10 go.eq_11 go.eq_12 go.eq_13 go.eq_14 go.eq_15 go.eq_16

@[go_sem] theorem voAll_nil {K : St → Prop} : voAll P PK [] K s = True := rfl
@[go_sem] theorem voAll_cons {l : List AI} {r : List (List AI)} {K : St → Prop} : voAll P PK (l :: r) K s = (vo P PK l K s ∧ voAll P PK r K s) := rfl
@[go_sem] theorem vo_nil {K : St → Prop} : vo P PK [] K s = K s := rfl
@[go_sem] theorem vo_cons {i : AI} {r : List AI} {K : St → Prop} : vo P PK (i :: r) K s = stepA P PK i s (vo P PK r K) := rfl
@[go_sem ↓] theorem stepA_none {sl : List (Nat × V)} {h : Heap} {n : Nat} {d : Option Nat} {o : AO} {K : St → Prop} : stepA P PK ⟨d, none, o⟩ ⟨sl, h, n⟩ K = stepO P PK o ⟨sl, h, n⟩ (fin d sl K) := rfl
@[go_sem ↓] theorem stepA_some {sl : List (Nat × V)} {h : Heap} {n : Nat} {d : Option Nat} {o : AO} {j : Nat} {b : Bool} {K : St → Prop} : stepA P PK ⟨d, some (j, b), o⟩ ⟨sl, h, n⟩ K = stepG (sget sl j) b (vo P PK [⟨d, none, o⟩] K ⟨sset sl j (.bool b), h, n⟩) (fin d (sset sl j (.bool !b)) K (.cst Go.undef) h n) (fin d sl K (.cst Go.undef) h n) := rfl
@[congr] theorem stepG_congr {v v' : V} {w : Bool} {A B C : Prop} (h : v = v') : stepG v w A B C = stepG v' w A B C := by rw [h]
@[congr] theorem condG_congr {v v' : V} {A B : Prop} (h : v = v') : condG v A B = condG v' A B := by rw [h]
@[go_sem] theorem stepG_tt {A B C : Prop} : stepG (.bool true) true A B C = A := by simp [stepG]
@[go_sem] theorem stepG_ff {A B C : Prop} : stepG (.bool false) false A B C = A := by simp [stepG]
@[go_sem] theorem stepG_tf {A B C : Prop} : stepG (.bool true) false A B C = B := by simp [stepG]
@[go_sem] theorem stepG_ft {A B C : Prop} : stepG (.bool false) true A B C = B := by simp [stepG]
@[go_sem] theorem stepG_c {w : Bool} {A B C : Prop} : stepG (.cst Go.undef) w A B C = C := by simp [stepG, notBool, Go.undef]
@[go_sem low] theorem stepG_t {b : Bool} {A B C : Prop} : stepG (.bool b) true A B C = ((b = true → A) ∧ (b = false → B)) := rfl
@[go_sem low] theorem stepG_f {b : Bool} {A B C : Prop} : stepG (.bool b) false A B C = ((b = false → A) ∧ (b = true → B)) := rfl
@[go_sem] theorem condG_t {A B : Prop} : condG (.bool true) A B = A := by simp [condG]
@[go_sem] theorem condG_f {A B : Prop} : condG (.bool false) A B = B := by simp [condG]
@[go_sem low] theorem condG_b {b : Bool} {A B : Prop} : condG (.bool b) A B = ((b = true → A) ∧ (b = false → B)) := rfl
@[go_sem ↓] theorem fin_some {d : Nat} {sl : List (Nat × V)} {K : St → Prop} {r : V} {h : Heap} {n : Nat} : fin (some d) sl K r h n = K ⟨sset sl d r, h, n⟩ := rfl
@[go_sem ↓] theorem fin_none {sl : List (Nat × V)} {K : St → Prop} {r : V} {h : Heap} {n : Nat} : fin none sl K r h n = K ⟨sl, h, n⟩ := rfl
@[go_sem ↓] theorem stepO_mov {x : Opd} {sl : List (Nat × V)} {h : Heap} {n : Nat} {k : Res} : stepO P PK (.mov x) ⟨sl, h, n⟩ k = k (St.ev ⟨sl, h, n⟩ x) h n := rfl
@[go_sem ↓] theorem stepO_pick {c a b : Opd} {sl : List (Nat × V)} {h : Heap} {n : Nat} {k : Res} : stepO P PK (.pick c a b) ⟨sl, h, n⟩ k = optR (pickV (St.ev ⟨sl, h, n⟩ c) (St.ev ⟨sl, h, n⟩ a) (St.ev ⟨sl, h, n⟩ b)) k h n := rfl
@[go_sem ↓] theorem stepO_nilck {x : Opd} {sl : List (Nat × V)} {h : Heap} {n : Nat} {k : Res} : stepO P PK (.nilck x) ⟨sl, h, n⟩ k = optR (nilckV (St.ev ⟨sl, h, n⟩ x)) k h n := rfl
@[go_sem ↓] theorem stepO_box {nm sz : Nat} {x : Opd} {sl : List (Nat × V)} {h : Heap} {n : Nat} {k : Res} : stepO P PK (.box nm sz x) ⟨sl, h, n⟩ k = boxK nm sz (cellsV (St.ev ⟨sl, h, n⟩ x)) k h n := rfl
@[go_sem ↓] theorem stepO_build {z : List V} {ps : List (Nat × Nat × Opd)} {sl : List (Nat × V)} {h : Heap} {n : Nat} {k : Res} : stepO P PK (.build z ps) ⟨sl, h, n⟩ k = optR ((fillV ⟨sl, h, n⟩ z ps).map .agg) k h n := rfl
@[go_sem ↓] theorem stepO_mkrow {nm sz : Nat} {xs : List Opd} {sl : List (Nat × V)} {h : Heap} {n : Nat} {k : Res} : stepO P PK (.mkrow nm sz xs) ⟨sl, h, n⟩ k = rowK nm sz (rowsOf sz ⟨sl, h, n⟩ xs) k h n := rfl
@[go_sem ↓] theorem stepO_mkisl {sz : Nat} {xs : List Opd} {sl : List (Nat × V)} {h : Heap} {n : Nat} {k : Res} : stepO P PK (.mkisl sz xs) ⟨sl, h, n⟩ k = islK (rowsOf sz ⟨sl, h, n⟩ xs) k h n := rfl
/-- The row at a place. -/
def atRow (rs : List (List V)) (i : Nat) (f : List V → Prop) : Prop :=
  match rs[i]? with
  | some row => f row
  | none => False
def atBlk (b : Option Blk) (f : Nat → List (List V) → Prop) : Prop :=
  match b with
  | some (.rows sz rs) => f sz rs
  | _ => False
def loadK (h0 : Heap) (x : V) (m : Nat) (agg : Bool) (k : Res) (h : Heap) (n : Nat) : Prop := optR (loadV h0 x m agg) k h n
def storeK (h0 : Heap) (x : V) (cs : Option (List V)) (m : Nat) (k : Res) (n : Nat) : Prop :=
  match x with
  | .ptr b st i j => heapK (storeIn h0 b st i j m (Heap.get h0 b st) cs) k n
  | _ => False
@[congr] theorem atRow_congr {rs rs' : List (List V)} {i i' : Nat} {f : List V → Prop} (e0 : rs = rs') (e1 : i = i') : atRow rs i f = atRow rs' i' f := by rw [e0, e1]
@[congr] theorem atBlk_congr {b b' : Option Blk} {f : Nat → List (List V) → Prop} (e0 : b = b') : atBlk b f = atBlk b' f := by rw [e0]
@[congr] theorem loadK_congr {h0 : Heap} {x x' : V} {m : Nat} {agg : Bool} {k : Res} {h : Heap} {n : Nat} (e : x = x') : loadK h0 x m agg k h n = loadK h0 x' m agg k h n := by rw [e]
@[congr] theorem storeK_congr {h0 : Heap} {x x' : V} {cs cs' : Option (List V)} {m : Nat} {k : Res} {n : Nat} (e : x = x') (e1 : cs = cs') : storeK h0 x cs m k n = storeK h0 x' cs' m k n := by rw [e, e1]
@[go_sem ↓] theorem stepO_load {m : Nat} {agg : Bool} {x : Opd} {sl : List (Nat × V)} {h : Heap} {n : Nat} {k : Res} : stepO P PK (.load m agg x) ⟨sl, h, n⟩ k = loadK h (St.ev ⟨sl, h, n⟩ x) m agg k h n := rfl
@[go_sem ↓] theorem stepO_store {m : Nat} {x v : Opd} {sl : List (Nat × V)} {h : Heap} {n : Nat} {k : Res} : stepO P PK (.store m x v) ⟨sl, h, n⟩ k = storeK h (St.ev ⟨sl, h, n⟩ x) (cellsV (St.ev ⟨sl, h, n⟩ v)) m k n := by
  simp only [stepO, storeK, storeV]
  cases St.ev ⟨sl, h, n⟩ x <;> rfl
@[go_sem] theorem loadK_ptr {h0 : Heap} {b st i j m : Nat} {agg : Bool} {k : Res} {h : Heap} {n : Nat} : loadK h0 (.ptr b st i j) m agg k h n = atBlk (Heap.get h0 b st) fun _ rs => atRow rs i fun row => optR (loadRow row j m agg) k h n := by
  simp only [loadK, loadV, atBlk, atRow]
  cases Heap.get h0 b st with
  | none => rfl
  | some x =>
    cases x with
    | rows sz rs => simp only; cases rs[i]? <;> rfl
    | map es => rfl
    | loop => rfl
    | mapb => rfl
    | iter => rfl
    | raw => rfl
@[go_sem] theorem loadK_iptr {h0 : Heap} {es : List (List V)} {i j m : Nat} {agg : Bool} {k : Res} {h : Heap} {n : Nat} : loadK h0 (.iptr es i j) m agg k h n = atRow es i fun row => optR (loadRow row j m agg) k h n := by
  simp only [loadK, loadV, atRow]
  cases es[i]? <;> rfl
@[go_sem] theorem storeK_ptr {h0 : Heap} {b st i j m : Nat} {cs : List V} {k : Res} {n : Nat} : storeK h0 (.ptr b st i j) (some cs) m k n =
    atBlk (Heap.get h0 b st) fun sz rs => atRow rs i fun row => cs.length = m ∧ j + m ≤ row.length ∧ k .undef (Heap.put h0 b st (.rows sz (rs.set i (putCells row j cs)))) n := by
  simp only [storeK, storeIn, atBlk, atRow]
  cases Heap.get h0 b st with
  | none => rfl
  | some x =>
    cases x with
    | map es => rfl
    | loop => rfl
    | mapb => rfl
    | iter => rfl
    | raw => rfl
    | rows sz rs =>
      simp only
      cases rs[i]? with
      | none => rfl
      | some row =>
        simp only
        by_cases h1 : cs.length = m
        · by_cases h2 : j + m ≤ row.length
          · rw [h1, Nat.beq_refl, Nat.ble_eq_true_of_le h2]; simp [heapK, h2]
          · have : Nat.ble (j + m) row.length = false := by
              cases hb : Nat.ble (j + m) row.length with
              | false => rfl
              | true => exact (h2 (Nat.le_of_ble_eq_true hb)).elim
            rw [this]; simp [heapK, h2]
        · have : Nat.beq cs.length m = false := by
            cases hb : Nat.beq cs.length m with
            | false => rfl
            | true => exact (h1 (Nat.eq_of_beq_eq_true hb)).elim
          rw [this]; simp [heapK, h1]
@[go_sem] theorem atBlk_rows {sz : Nat} {rs : List (List V)} {f : Nat → List (List V) → Prop} : atBlk (some (.rows sz rs)) f = f sz rs := rfl
@[go_sem] theorem atBlk_none {f : Nat → List (List V) → Prop} : atBlk none f = False := rfl
@[go_sem] theorem atBlk_map {es : List (V × V)} {f : Nat → List (List V) → Prop} : atBlk (some (.map es)) f = False := rfl
@[go_sem high] theorem atRow_nil {i : Nat} {f : List V → Prop} : atRow [] i f = False := by simp [atRow]
@[go_sem high] theorem atRow_zero {r : List V} {rs : List (List V)} {f : List V → Prop} : atRow (r :: rs) 0 f = f r := rfl
theorem atRow_eq {rs : List (List V)} {i : Nat} {f : List V → Prop} : atRow rs i f = (i < rs.length ∧ ∀ row, rs[i]? = some row → f row) := by
  unfold atRow
  cases h : rs[i]? with
  | none =>
    have := List.getElem?_eq_none_iff.1 h
    simp; omega
  | some row =>
    have := (List.getElem?_eq_some_iff.1 h).1
    simp [this]
@[go_sem low] theorem atRow_any {rs : List (List V)} {i : Nat} {f : List V → Prop} : atRow rs i f = (i < rs.length ∧ ∀ row, rs[i]? = some row → f row) := atRow_eq
@[go_sem] theorem atRow_map {α : Type} {xs : List α} {F : α → List V} {i : Nat} {f : List V → Prop} : atRow (xs.map F) i f = (i < xs.length ∧ ∀ x, xs[i]? = some x → f (F x)) := by
  rw [atRow_eq, List.length_map]
  refine propext (and_congr_right fun _ => ?_)
  rw [List.getElem?_map]
  constructor
  · intro h x hx; exact h _ (by rw [hx]; rfl)
  · intro h row hr
    rw [Option.map_eq_some_iff] at hr
    obtain ⟨x, hx, rfl⟩ := hr
    exact h x hx
/-- Where the row is known. -/
theorem atRow_is {α : Type} {xs : List α} {F : α → List V} {i : Nat} {x : α} (h : xs[i]? = some x) {f : List V → Prop} : atRow (xs.map F) i f = f (F x) := by
  simp [atRow, h]
@[go_sem] theorem take_map_self {α : Type} {xs : List α} {F : α → List V} : (xs.map F).take xs.length = xs.map F := by
  rw [List.take_of_length_le]; simp
@[go_sem ↓] theorem stepO_faddr {off : Nat} {x : Opd} {sl : List (Nat × V)} {h : Heap} {n : Nat} {k : Res} : stepO P PK (.faddr off x) ⟨sl, h, n⟩ k = optR (faddrV off (St.ev ⟨sl, h, n⟩ x)) k h n := rfl
@[go_sem ↓] theorem stepO_iaddr {sz : Nat} {x i : Opd} {sl : List (Nat × V)} {h : Heap} {n : Nat} {k : Res} : stepO P PK (.iaddr sz x i) ⟨sl, h, n⟩ k = iaddrK sz (St.ev ⟨sl, h, n⟩ x) (St.ev ⟨sl, h, n⟩ i) k h n := rfl
@[go_sem ↓] theorem stepO_iaddrA {len sz : Nat} {x i : Opd} {sl : List (Nat × V)} {h : Heap} {n : Nat} {k : Res} : stepO P PK (.iaddrA len sz x i) ⟨sl, h, n⟩ k = iaddrAK len sz (St.ev ⟨sl, h, n⟩ x) (St.ev ⟨sl, h, n⟩ i) k h n := rfl
@[go_sem ↓] theorem stepO_fld {off m : Nat} {agg : Bool} {x : Opd} {sl : List (Nat × V)} {h : Heap} {n : Nat} {k : Res} : stepO P PK (.fld off m agg x) ⟨sl, h, n⟩ k = optR (fldV off m agg (St.ev ⟨sl, h, n⟩ x)) k h n := rfl
@[go_sem ↓] theorem stepO_idx {x i : Opd} {sl : List (Nat × V)} {h : Heap} {n : Nat} {k : Res} : stepO P PK (.idx x i) ⟨sl, h, n⟩ k = idxK (St.ev ⟨sl, h, n⟩ x) (St.ev ⟨sl, h, n⟩ i) k h n := rfl
@[go_sem ↓] theorem stepO_ext {i : Nat} {x : Opd} {sl : List (Nat × V)} {h : Heap} {n : Nat} {k : Res} : stepO P PK (.ext i x) ⟨sl, h, n⟩ k = optR (extV i (St.ev ⟨sl, h, n⟩ x)) k h n := rfl
@[go_sem ↓] theorem stepO_binw {op : BinOp} {x y : Opd} {sl : List (Nat × V)} {h : Heap} {n : Nat} {k : Res} : stepO P PK (.binw op x y) ⟨sl, h, n⟩ k = optR (binwV op (St.ev ⟨sl, h, n⟩ x) (St.ev ⟨sl, h, n⟩ y)) k h n := rfl
@[go_sem] theorem binwV_add {j : IntKind} {a b : Int} : binwV .add (.int j a) (.int j b) = some (.int j (j.wrap (a + b))) := if_pos rfl
@[go_sem] theorem binwV_sub {j : IntKind} {a b : Int} : binwV .sub (.int j a) (.int j b) = some (.int j (j.wrap (a - b))) := if_pos rfl
@[go_sem] theorem binwV_mul {j : IntKind} {a b : Int} : binwV .mul (.int j a) (.int j b) = some (.int j (j.wrap (a * b))) := if_pos rfl
@[go_sem ↓] theorem stepO_bin {op : BinOp} {x y : Opd} {sl : List (Nat × V)} {h : Heap} {n : Nat} {k : Res} : stepO P PK (.bin op x y) ⟨sl, h, n⟩ k = binK op (St.ev ⟨sl, h, n⟩ x) (St.ev ⟨sl, h, n⟩ y) k h n := rfl
@[go_sem ↓] theorem stepO_eqp {kind : Nat} {neg : Bool} {x y : Opd} {sl : List (Nat × V)} {h : Heap} {n : Nat} {k : Res} : stepO P PK (.eqp kind neg x y) ⟨sl, h, n⟩ k = optR (bif kindV kind (St.ev ⟨sl, h, n⟩ x) then eqpV neg (St.ev ⟨sl, h, n⟩ x) (St.ev ⟨sl, h, n⟩ y) else none) k h n := rfl
@[go_sem ↓] theorem stepO_eqa {neg : Bool} {t : ETy} {x y : Opd} {sl : List (Nat × V)} {h : Heap} {n : Nat} {k : Res} : stepO P PK (.eqa neg t x y) ⟨sl, h, n⟩ k = optR (eqaV neg t (St.ev ⟨sl, h, n⟩ x) (St.ev ⟨sl, h, n⟩ y)) k h n := rfl
@[go_sem ↓] theorem stepO_negw {x : Opd} {sl : List (Nat × V)} {h : Heap} {n : Nat} {k : Res} : stepO P PK (.negw x) ⟨sl, h, n⟩ k = optR (negwV (St.ev ⟨sl, h, n⟩ x)) k h n := rfl
@[go_sem] theorem negwV_int {j : IntKind} {a : Int} : negwV (.int j a) = some (.int j (j.wrap (0 - a))) := by rw [negwV]
@[go_sem ↓] theorem stepO_un {op : UnOp} {x : Opd} {sl : List (Nat × V)} {h : Heap} {n : Nat} {k : Res} : stepO P PK (.un op x) ⟨sl, h, n⟩ k = unK op (St.ev ⟨sl, h, n⟩ x) k h n := rfl
@[go_sem ↓] theorem stepO_isnil {neg : Bool} {x : Opd} {sl : List (Nat × V)} {h : Heap} {n : Nat} {k : Res} : stepO P PK (.isnil neg x) ⟨sl, h, n⟩ k = optR (isnilV neg (St.ev ⟨sl, h, n⟩ x)) k h n := rfl
@[go_sem ↓] theorem stepO_conv {j : IntKind} {x : Opd} {sl : List (Nat × V)} {h : Heap} {n : Nat} {k : Res} : stepO P PK (.conv j x) ⟨sl, h, n⟩ k = optR (convV j (St.ev ⟨sl, h, n⟩ x)) k h n := rfl
@[go_sem ↓] theorem stepO_len {kind : Nat} {x : Opd} {sl : List (Nat × V)} {h : Heap} {n : Nat} {k : Res} : stepO P PK (.len kind x) ⟨sl, h, n⟩ k = optR (lenV h kind (St.ev ⟨sl, h, n⟩ x)) k h n := rfl
@[go_sem ↓] theorem stepO_lenc {m : Nat} {sl : List (Nat × V)} {h : Heap} {n : Nat} {k : Res} : stepO P PK (.lenc m) ⟨sl, h, n⟩ k = k (.int .i64 m) h n := rfl
@[go_sem ↓] theorem stepO_mm {mx : Bool} {xs : List Opd} {sl : List (Nat × V)} {h : Heap} {n : Nat} {k : Res} : stepO P PK (.mm mx xs) ⟨sl, h, n⟩ k = optR (mmV mx (xs.map (St.ev ⟨sl, h, n⟩))) k h n := rfl
@[go_sem ↓] theorem stepO_app {nm sz : Nat} {b x : Opd} {sl : List (Nat × V)} {h : Heap} {n : Nat} {k : Res} : stepO P PK (.app nm sz b x) ⟨sl, h, n⟩ k = appK 137438953472 nm sz (St.ev ⟨sl, h, n⟩ b) (srcV h (St.ev ⟨sl, h, n⟩ x)) k h n := rfl
@[go_sem ↓] theorem stepO_apb {L nm sz : Nat} {b x : Opd} {sl : List (Nat × V)} {h : Heap} {n : Nat} {k : Res} : stepO P PK (.apb L nm sz b x) ⟨sl, h, n⟩ k = appK L nm sz (St.ev ⟨sl, h, n⟩ b) (srcV h (St.ev ⟨sl, h, n⟩ x)) k h n := rfl
@[go_sem ↓] theorem stepO_copy {sz : Nat} {d x : Opd} {sl : List (Nat × V)} {h : Heap} {n : Nat} {k : Res} : stepO P PK (.copy sz d x) ⟨sl, h, n⟩ k = copyK sz (St.ev ⟨sl, h, n⟩ d) (srcV h (St.ev ⟨sl, h, n⟩ x)) k h n := rfl
@[go_sem ↓] theorem stepO_mksl {nm : Nat} {z : List V} {x : Opd} {sl : List (Nat × V)} {h : Heap} {n : Nat} {k : Res} : stepO P PK (.mksl nm z x) ⟨sl, h, n⟩ k = mkslK nm z (St.ev ⟨sl, h, n⟩ x) k h n := rfl
@[go_sem ↓] theorem stepO_slc {sz : Nat} {x : Opd} {lo hi : Option Opd} {sl : List (Nat × V)} {h : Heap} {n : Nat} {k : Res} : stepO P PK (.slc sz x lo hi) ⟨sl, h, n⟩ k = slcK sz (St.ev ⟨sl, h, n⟩ x) (lo.map (St.ev ⟨sl, h, n⟩)) (hi.map (St.ev ⟨sl, h, n⟩)) k h n := rfl
@[go_sem ↓] theorem stepO_sls {x : Opd} {lo hi : Option Opd} {sl : List (Nat × V)} {h : Heap} {n : Nat} {k : Res} : stepO P PK (.sls x lo hi) ⟨sl, h, n⟩ k = slsK (St.ev ⟨sl, h, n⟩ x) (lo.map (St.ev ⟨sl, h, n⟩)) (hi.map (St.ev ⟨sl, h, n⟩)) k h n := rfl
@[go_sem ↓] theorem stepO_pcall {f : FuncId} {xs : List Opd} {sl : List (Nat × V)} {h : Heap} {n : Nat} {k : Res} : stepO P PK (.pcall f xs) ⟨sl, h, n⟩ k = pcallK P f (xs.map (St.ev ⟨sl, h, n⟩)) k h n := rfl
@[congr] theorem pcallK_congr {f : FuncId} {as as' : List V} {k : Res} {h : Heap} {n : Nat} (e : as = as') : pcallK P f as k h n = pcallK P f as' k h n := by rw [e]
@[go_sem ↓] theorem stepO_eqn {fn neg : Bool} {x : Opd} {sl : List (Nat × V)} {h : Heap} {n : Nat} {k : Res} : stepO P PK (.eqn fn neg x) ⟨sl, h, n⟩ k = eqnK fn neg (St.ev ⟨sl, h, n⟩ x) k h n := rfl
@[congr] theorem eqnK_congr {fn neg : Bool} {x x' : V} {k : Res} {h : Heap} {n : Nat} (e : x = x') : eqnK fn neg x k h n = eqnK fn neg x' k h n := by rw [e]
@[go_sem] theorem eqnK_nils {neg : Bool} {k : Res} {h : Heap} {n : Nat} : eqnK false neg .nils k h n = k (.bool !neg) h n := rfl
@[go_sem] theorem eqnK_isl {neg : Bool} {es : List (List V)} {k : Res} {h : Heap} {n : Nat} : eqnK false neg (.isl es) k h n = (k (.bool neg) h n ∧ (es = [] → k (.bool !neg) h n)) := rfl
@[go_sem] theorem eqnK_sl {neg : Bool} {b st i m : Nat} {k : Res} {h : Heap} {n : Nat} : eqnK false neg (.sl b st i m) k h n = (k (.bool neg) h n ∧ (m = 0 → k (.bool !neg) h n)) := rfl
@[go_sem] theorem eqnK_fn {neg : Bool} {f : FuncId} {cs : List V} {k : Res} {h : Heap} {n : Nat} : eqnK true neg (.fn f cs) k h n = k (.bool neg) h n := rfl
@[go_sem] theorem eqnK_nilf {neg : Bool} {k : Res} {h : Heap} {n : Nat} : eqnK true neg (.cst .nilFunc) k h n = k (.bool !neg) h n := rfl
@[go_sem ↓] theorem stepO_mkfn {f : FuncId} {xs : List Opd} {sl : List (Nat × V)} {h : Heap} {n : Nat} {k : Res} : stepO P PK (.mkfn f xs) ⟨sl, h, n⟩ k = k (.fn f (xs.map (St.ev ⟨sl, h, n⟩))) h n := rfl
@[go_sem ↓] theorem stepO_mkmap {nm : Nat} {sl : List (Nat × V)} {h : Heap} {n : Nat} {k : Res} : stepO P PK (.mkmap nm) ⟨sl, h, n⟩ k = k (.mp nm n) (Heap.put h nm n (.map [])) (n + 1) := rfl
@[go_sem ↓] theorem stepO_look {kd : Nat} {z : V} {ok : Bool} {m x : Opd} {sl : List (Nat × V)} {h : Heap} {n : Nat} {k : Res} : stepO P PK (.look kd z ok m x) ⟨sl, h, n⟩ k = lookK kd z ok (St.ev ⟨sl, h, n⟩ m) (St.ev ⟨sl, h, n⟩ x) k h n := rfl
@[go_sem ↓] theorem stepO_mput {kd : Nat} {m x v : Opd} {sl : List (Nat × V)} {h : Heap} {n : Nat} {k : Res} : stepO P PK (.mput kd m x v) ⟨sl, h, n⟩ k = mputK kd (St.ev ⟨sl, h, n⟩ m) (St.ev ⟨sl, h, n⟩ x) (St.ev ⟨sl, h, n⟩ v) k h n := rfl
@[go_sem ↓] theorem stepO_mdel {kd : Nat} {m x : Opd} {sl : List (Nat × V)} {h : Heap} {n : Nat} {k : Res} : stepO P PK (.mdel kd m x) ⟨sl, h, n⟩ k = mdelK kd (St.ev ⟨sl, h, n⟩ m) (St.ev ⟨sl, h, n⟩ x) k h n := rfl
@[go_sem ↓] theorem stepO_sh {l : Bool} {x y : Opd} {sl : List (Nat × V)} {h : Heap} {n : Nat} {k : Res} : stepO P PK (.sh l x y) ⟨sl, h, n⟩ k = shK l (St.ev ⟨sl, h, n⟩ x) (St.ev ⟨sl, h, n⟩ y) k h n := rfl
@[go_sem ↓] theorem stepO_idxA {len sz m : Nat} {agg : Bool} {x y : Opd} {sl : List (Nat × V)} {h : Heap} {n : Nat} {k : Res} : stepO P PK (.idxA len sz m agg x y) ⟨sl, h, n⟩ k = idxAK len sz m agg (St.ev ⟨sl, h, n⟩ x) (St.ev ⟨sl, h, n⟩ y) k h n := rfl
@[go_sem ↓] theorem stepO_cap0 {x : Opd} {sl : List (Nat × V)} {h : Heap} {n : Nat} {k : Res} : stepO P PK (.cap0 x) ⟨sl, h, n⟩ k = optR (cap0V (St.ev ⟨sl, h, n⟩ x)) k h n := rfl
@[go_sem] theorem cap0V_nils : cap0V .nils = some (.int .i64 0) := rfl
@[go_sem ↓] theorem stepO_grw {nm : Nat} {z : List V} {x y : Opd} {sl : List (Nat × V)} {h : Heap} {n : Nat} {k : Res} : stepO P PK (.grw nm z x y) ⟨sl, h, n⟩ k = grwK nm z (St.ev ⟨sl, h, n⟩ x) (St.ev ⟨sl, h, n⟩ y) k h n := rfl
@[congr] theorem grwK_congr {nm : Nat} {z : List V} {x x' y y' : V} {k : Res} {h : Heap} {n : Nat} (e0 : x = x') (e1 : y = y') : grwK nm z x y k h n = grwK nm z x' y' k h n := by rw [e0, e1]
@[go_sem] theorem grwK_nils {nm : Nat} {z : List V} {m : Int} {k : Res} {h : Heap} {n : Nat} : grwK nm z .nils (.int .i64 m) k h n = (0 < m ∧ m ≤ 137438953472 ∧ k (.sl nm n 0 m.toNat) (Heap.put h nm n (.rows z.length (List.replicate m.toNat z))) (n + 1)) := rfl
@[go_sem ↓] theorem stepO_rgm {nm : Nat} {x : Opd} {sl : List (Nat × V)} {h : Heap} {n : Nat} {k : Res} : stepO P PK (.rgm nm x) ⟨sl, h, n⟩ k = rgmK nm (St.ev ⟨sl, h, n⟩ x) k h n := rfl
@[congr] theorem rgmK_congr {nm : Nat} {x x' : V} {k : Res} {h : Heap} {n : Nat} (e0 : x = x') : rgmK nm x k h n = rgmK nm x' k h n := by rw [e0]
@[go_sem] theorem rgmK_mp {nm b st : Nat} {k : Res} {h : Heap} {n : Nat} : rgmK nm (.mp b st) k h n = (nm ≠ b ∧ rgmB nm b st (Heap.get h b st) k h n) := rfl
@[congr] theorem rgmB_congr {nm b st : Nat} {B B' : Option Blk} {k : Res} {h : Heap} {n : Nat} (e0 : B = B') : rgmB nm b st B k h n = rgmB nm b st B' k h n := by rw [e0]
@[go_sem] theorem rgmB_map {nm b st : Nat} {es : List (V × V)} {k : Res} {h : Heap} {n : Nat} : rgmB nm b st (some (.map es)) k h n = ∀ (bs : List Nat) (ck : Nat), bs.length = es.length → k (.ptr nm n 0 0) (Heap.put (Heap.put h b st (.mapb es bs ck)) nm n (.iter st es bs ck (bs.zip es) none)) (n + 1) := rfl
@[go_sem ↓] theorem stepO_nxm {x : Opd} {sl : List (Nat × V)} {h : Heap} {n : Nat} {k : Res} : stepO P PK (.nxm x) ⟨sl, h, n⟩ k = nxmK (St.ev ⟨sl, h, n⟩ x) k h n := rfl
@[congr] theorem nxmK_congr {x x' : V} {k : Res} {h : Heap} {n : Nat} (e0 : x = x') : nxmK x k h n = nxmK x' k h n := by rw [e0]
@[go_sem] theorem nxmK_ptr {b st : Nat} {k : Res} {h : Heap} {n : Nat} : nxmK (.ptr b st 0 0) k h n = nxmB b st (Heap.get h b st) k h n := rfl
@[congr] theorem nxmB_congr {b st : Nat} {B B' : Option Blk} {k : Res} {h : Heap} {n : Nat} (e0 : B = B') : nxmB b st B k h n = nxmB b st B' k h n := by rw [e0]
@[go_sem] theorem nxmB_iter {b st mst : Nat} {es : List (V × V)} {bs : List Nat} {ck : Nat} {left : List (Nat × V × V)} {last : Option (V × V)} {k : Res} {h : Heap} {n : Nat} : nxmB b st (some (.iter mst es bs ck left last)) k h n = nxmM (ofStamp h mst) fun mb es' bs' ck' => es' = es ∧ bs' = bs ∧ ck' = ck ∧ mb ≠ b ∧ (left = [] → k (.tup [.bool false]) (Heap.put h mb mst (.map es)) n) ∧
      ∀ x e y, left = x ++ e :: y → k (.tup [.bool true, e.2.1, e.2.2]) (Heap.put h b st (.iter mst es bs ck (x ++ y) (some e.2))) n := rfl
@[congr] theorem nxmM_congr {M M' : Option (Nat × Blk)} {f : Nat → List (V × V) → List Nat → Nat → Prop} (e0 : M = M') : nxmM M f = nxmM M' f := by rw [e0]
@[go_sem] theorem nxmM_mapb {mb : Nat} {es : List (V × V)} {bs : List Nat} {ck : Nat} {f : Nat → List (V × V) → List Nat → Nat → Prop} : nxmM (some (mb, .mapb es bs ck)) f = f mb es bs ck := rfl
@[go_sem] theorem ofStamp_cons {e : Nat × Nat × Blk} {r : Heap} {st : Nat} : ofStamp (e :: r) st = bif Nat.beq e.2.1 st then some (e.1, e.2.2) else ofStamp r st := rfl
@[go_sem ↓] theorem stepO_ent {x : Opd} {sl : List (Nat × V)} {h : Heap} {n : Nat} {k : Res} : stepO P PK (.ent x) ⟨sl, h, n⟩ k = entK (St.ev ⟨sl, h, n⟩ x) k h n := rfl
@[congr] theorem entK_congr {x x' : V} {k : Res} {h : Heap} {n : Nat} (e0 : x = x') : entK x k h n = entK x' k h n := by rw [e0]
@[go_sem] theorem entK_ptr {b st : Nat} {k : Res} {h : Heap} {n : Nat} : entK (.ptr b st 0 0) k h n = entB (Heap.get h b st) k h n := rfl
@[congr] theorem entB_congr {B B' : Option Blk} {k : Res} {h : Heap} {n : Nat} (e0 : B = B') : entB B k h n = entB B' k h n := by rw [e0]
@[go_sem] theorem entB_iter {mst : Nat} {es : List (V × V)} {bs : List Nat} {ck : Nat} {left : List (Nat × V × V)} {p : V × V} {k : Res} {h : Heap} {n : Nat} : entB (some (.iter mst es bs ck left (some p))) k h n = nxmM (ofStamp h mst) fun _ es' bs' ck' => es' = es ∧ bs' = bs ∧ ck' = ck ∧ k (.tup [p.1, p.2]) h n := rfl
@[go_sem ↓] theorem stepO_bst {x : Opd} {sl : List (Nat × V)} {h : Heap} {n : Nat} {k : Res} : stepO P PK (.bst x) ⟨sl, h, n⟩ k = optR (bstV (viewV h (St.ev ⟨sl, h, n⟩ x))) k h n := rfl
@[go_sem ↓] theorem stepO_byts {nm : Nat} {x : Opd} {sl : List (Nat × V)} {h : Heap} {n : Nat} {k : Res} : stepO P PK (.byts nm x) ⟨sl, h, n⟩ k = bytsK nm (St.ev ⟨sl, h, n⟩ x) k h n := rfl
@[go_sem ↓] theorem stepO_mkraw {nm : Nat} {xs : List Opd} {sl : List (Nat × V)} {h : Heap} {n : Nat} {k : Res} : stepO P PK (.mkraw nm xs) ⟨sl, h, n⟩ k = rawK nm (rowsOf 1 ⟨sl, h, n⟩ xs) k h n := rfl
@[congr] theorem rawK_congr {nm : Nat} {o o' : Option (List (List V))} {k : Res} {h : Heap} {n : Nat} (e0 : o = o') : rawK nm o k h n = rawK nm o' k h n := by rw [e0]
@[go_sem] theorem rawK_some {nm : Nat} {rs : List (List V)} {k : Res} {h : Heap} {n : Nat} : rawK nm (some rs) k h n = (0 < rs.length ∧ k (.sl nm n 0 rs.length) (Heap.put h nm n (.raw rs)) (n + 1)) := rfl
@[go_sem ↓] theorem stepO_cvr {x : Opd} {sl : List (Nat × V)} {h : Heap} {n : Nat} {k : Res} : stepO P PK (.cvr x) ⟨sl, h, n⟩ k = cvrK (St.ev ⟨sl, h, n⟩ x) k h n := rfl
@[congr] theorem cvrK_congr {x x' : V} {k : Res} {h : Heap} {n : Nat} (e0 : x = x') : cvrK x k h n = cvrK x' k h n := by rw [e0]
@[go_sem] theorem cvrK_sl {b st m : Nat} {k : Res} {h : Heap} {n : Nat} : cvrK (.sl b st 0 m) k h n = cvrB (Heap.get h b st) fun rs => m = rs.length ∧ k (.sl b st 0 m) (Heap.put h b st (.rows 1 rs)) n := rfl
@[congr] theorem cvrB_congr {b b' : Option Blk} {f : List (List V) → Prop} (e0 : b = b') : cvrB b f = cvrB b' f := by rw [e0]
@[go_sem] theorem cvrB_raw {rs : List (List V)} {f : List (List V) → Prop} : cvrB (some (.raw rs)) f = f rs := rfl
@[congr] theorem bytsK_congr {nm : Nat} {x x' : V} {k : Res} {h : Heap} {n : Nat} (e0 : x = x') : bytsK nm x k h n = bytsK nm x' k h n := by rw [e0]
@[go_sem] theorem bytsK_str {nm : Nat} {s : List UInt8} {k : Res} {h : Heap} {n : Nat} : bytsK nm (.str s) k h n = k (.sl nm n 0 s.length) (Heap.put h nm n (.rows 1 (strRows s))) (n + 1) := rfl
@[go_sem] theorem bstV_strRows {s : List UInt8} : bstV (some (strRows s)) = some (.str s) := by
  have : ∀ s : List UInt8, byteV (strRows s) = some s := by
    intro s
    induction s with
    | nil => rfl
    | cons b s ih =>
      have e : strRows (b :: s) = [.int .u8 b.toNat] :: strRows s := rfl
      rw [e, byteV, ih]
      simp
  simp only [bstV, this]
@[go_sem ↓] theorem stepO_clr {z : List V} {x : Opd} {sl : List (Nat × V)} {h : Heap} {n : Nat} {k : Res} : stepO P PK (.clr z x) ⟨sl, h, n⟩ k = clrK z (St.ev ⟨sl, h, n⟩ x) k h n := rfl
@[go_sem ↓] theorem stepO_slz {nm sz : Nat} {x : Opd} {sl : List (Nat × V)} {h : Heap} {n : Nat} {k : Res} : stepO P PK (.slz nm sz x) ⟨sl, h, n⟩ k = slzK nm sz (St.ev ⟨sl, h, n⟩ x) k h n := rfl
@[congr] theorem shK_congr {l : Bool} {x x' y y' : V} {k : Res} {h : Heap} {n : Nat} (e0 : x = x') (e1 : y = y') : shK l x y k h n = shK l x' y' k h n := by rw [e0, e1]
@[go_sem] theorem shK_int {l : Bool} {j j' : IntKind} {a b : Int} {k : Res} {h : Heap} {n : Nat} : shK l (.int j a) (.int j' b) k h n = (0 ≤ b ∧ k (.int j (shZ l j a b)) h n) := rfl
@[congr] theorem idxAK_congr {len sz m : Nat} {agg : Bool} {x x' y y' : V} {k : Res} {h : Heap} {n : Nat} (e0 : x = x') (e1 : y = y') : idxAK len sz m agg x y k h n = idxAK len sz m agg x' y' k h n := by rw [e0, e1]
@[go_sem] theorem idxAK_agg {len sz m : Nat} {agg : Bool} {cs : List V} {j : IntKind} {z : Int} {k : Res} {h : Heap} {n : Nat} : idxAK len sz m agg (.agg cs) (.int j z) k h n = (0 ≤ z ∧ z < len ∧ optR (loadRow cs (z.toNat * sz) m agg) k h n) := rfl
@[congr] theorem clrK_congr {z : List V} {x x' : V} {k : Res} {h : Heap} {n : Nat} (e0 : x = x') : clrK z x k h n = clrK z x' k h n := by rw [e0]
@[go_sem] theorem clrK_nils {z : List V} {k : Res} {h : Heap} {n : Nat} : clrK z .nils k h n = k (.tup []) h n := rfl
@[congr] theorem slzK_congr {nm sz : Nat} {x x' : V} {k : Res} {h : Heap} {n : Nat} (e0 : x = x') : slzK nm sz x k h n = slzK nm sz x' k h n := by rw [e0]
@[go_sem] theorem slzK_nils {nm sz : Nat} {k : Res} {h : Heap} {n : Nat} : slzK nm sz .nils k h n = k (.sl nm n 0 0) (Heap.put h nm n (.rows sz [])) (n + 1) := rfl
@[go_sem] theorem slzK_isl {nm sz : Nat} {es : List (List V)} {k : Res} {h : Heap} {n : Nat} : slzK nm sz (.isl es) k h n = k (.sl nm n 0 0) (Heap.put h nm n (.rows sz [])) (n + 1) := rfl
@[go_sem] theorem slzK_sl {nm sz b st i m : Nat} {k : Res} {h : Heap} {n : Nat} : slzK nm sz (.sl b st i m) k h n = k (.sl nm n 0 0) (Heap.put h nm n (.rows sz [])) (n + 1) := rfl
@[go_sem ↓] theorem stepO_call {f : FuncId} {xs : List Opd} {sl : List (Nat × V)} {h : Heap} {n : Nat} {k : Res} : stepO P PK (.call f xs) ⟨sl, h, n⟩ k = CallS P f (xs.map (St.ev ⟨sl, h, n⟩)) h n k := rfl
@[go_sem ↓] theorem stepO_tas {t : TypeId} {x : Opd} {sl : List (Nat × V)} {h : Heap} {n : Nat} {k : Res} : stepO P PK (.tas t x) ⟨sl, h, n⟩ k = optR (tasV t (St.ev ⟨sl, h, n⟩ x)) k h n := rfl
@[go_sem] theorem zV_agg1 {k : IntKind} {z : Int} : zV (.agg #[.int k z]) = some (.agg [.int k z]) := rfl
@[go_sem ↓] theorem stepO_mki {t : TypeId} {x : Opd} {sl : List (Nat × V)} {h : Heap} {n : Nat} {k : Res} : stepO P PK (.mki t x) ⟨sl, h, n⟩ k = optR ((unV (St.ev ⟨sl, h, n⟩ x)).map fun u => .cst (.iface t u)) k h n := rfl
@[go_sem ↓] theorem stepO_pan {x : Opd} {sl : List (Nat × V)} {h : Heap} {n : Nat} {k : Res} : stepO P PK (.pan x) ⟨sl, h, n⟩ k = panK PK (St.ev ⟨sl, h, n⟩ x) h n := rfl
@[go_sem ↓] theorem stepO_boxi {sz : Nat} {x : Opd} {sl : List (Nat × V)} {h : Heap} {n : Nat} {k : Res} : stepO P PK (.boxi sz x) ⟨sl, h, n⟩ k = boxiK sz (cellsV (St.ev ⟨sl, h, n⟩ x)) k h n := rfl
@[congr] theorem boxiK_congr {sz : Nat} {o o' : Option (List V)} {k : Res} {h : Heap} {n : Nat} (e0 : o = o') : boxiK sz o k h n = boxiK sz o' k h n := by rw [e0]
@[go_sem] theorem boxiK_some {sz : Nat} {cs : List V} {k : Res} {h : Heap} {n : Nat} : boxiK sz (some cs) k h n = (cs.length = sz ∧ k (.iptr [cs] 0 0) h n) := rfl
@[go_sem ↓] theorem stepO_loadi {m : Nat} {agg : Bool} {x : Opd} {sl : List (Nat × V)} {h : Heap} {n : Nat} {k : Res} : stepO P PK (.loadi m agg x) ⟨sl, h, n⟩ k = loadiK m agg (St.ev ⟨sl, h, n⟩ x) k h n := rfl
@[congr] theorem loadiK_congr {m : Nat} {agg : Bool} {x x' : V} {k : Res} {h : Heap} {n : Nat} (e : x = x') : loadiK m agg x k h n = loadiK m agg x' k h n := by rw [e]
@[go_sem] theorem loadiK_iptr {es : List (List V)} {i j m : Nat} {agg : Bool} {k : Res} {h : Heap} {n : Nat} : loadiK m agg (.iptr es i j) k h n = atRow es i fun row => optR (loadRow row j m agg) k h n := by
  simp only [loadiK, rowAt, atRow]
  cases es[i]? <;> rfl
@[go_sem ↓] theorem stepO_callp {f : FuncId} {xs : List Opd} {sl : List (Nat × V)} {h : Heap} {n : Nat} {k : Res} : stepO P PK (.callp f xs) ⟨sl, h, n⟩ k = CallP P f (xs.map (St.ev ⟨sl, h, n⟩)) h n k PK := rfl
@[go_sem ↓] theorem stepO_callv {x : Opd} {xs : List Opd} {sl : List (Nat × V)} {h : Heap} {n : Nat} {k : Res} : stepO P PK (.callv x xs) ⟨sl, h, n⟩ k = callvK P (St.ev ⟨sl, h, n⟩ x) (xs.map (St.ev ⟨sl, h, n⟩)) h n k := rfl
@[go_sem ↓] theorem stepO_bad {sl : List (Nat × V)} {h : Heap} {n : Nat} {k : Res} : stepO P PK (.bad) ⟨sl, h, n⟩ k = False := rfl
@[congr] theorem optR_congr {o o' : Option V} {k : Res} {h : Heap} {n : Nat} (e0 : o = o') : optR o k h n = optR o' k h n := by rw [e0]
@[go_sem] theorem optR_is {v : V} {k : Res} {h : Heap} {n : Nat} : optR (some v) k h n = k v h n := rfl
@[go_sem] theorem optR_none  {k : Res} {h : Heap} {n : Nat} : optR none k h n = False := rfl
@[congr] theorem boxK_congr {nm sz : Nat} {o o' : Option (List V)} {k : Res} {h : Heap} {n : Nat} (e0 : o = o') : boxK nm sz o k h n = boxK nm sz o' k h n := by rw [e0]
@[go_sem] theorem boxK_some {nm sz : Nat} {cs : List V} {k : Res} {h : Heap} {n : Nat} : boxK nm sz (some cs) k h n = (cs.length = sz ∧ k (.ptr nm n 0 0) (Heap.put h nm n (.rows sz [cs])) (n + 1)) := rfl
@[congr] theorem rowK_congr {nm sz : Nat} {o o' : Option (List (List V))} {k : Res} {h : Heap} {n : Nat} (e0 : o = o') : rowK nm sz o k h n = rowK nm sz o' k h n := by rw [e0]
@[go_sem] theorem rowK_some {nm sz : Nat} {rs : List (List V)} {k : Res} {h : Heap} {n : Nat} : rowK nm sz (some rs) k h n = k (.sl nm n 0 rs.length) (Heap.put h nm n (.rows sz rs)) (n + 1) := rfl
@[congr] theorem islK_congr {o o' : Option (List (List V))} {k : Res} {h : Heap} {n : Nat} (e0 : o = o') : islK o k h n = islK o' k h n := by rw [e0]
@[go_sem] theorem islK_some {rs : List (List V)} {k : Res} {h : Heap} {n : Nat} : islK (some rs) k h n = k (.isl rs) h n := rfl
@[congr] theorem heapK_congr {o o' : Option Heap} {k : Res} {n : Nat} (e : o = o') : heapK o k n = heapK o' k n := by rw [e]
@[go_sem] theorem heapK_some {h : Heap} {k : Res} {n : Nat} : heapK (some h) k n = k .undef h n := rfl
@[congr] theorem iaddrK_congr {sz : Nat} {x x' i i' : V} {k : Res} {h : Heap} {n : Nat} (e0 : x = x') (e1 : i = i') : iaddrK sz x i k h n = iaddrK sz x' i' k h n := by rw [e0, e1]
@[go_sem] theorem iaddrK_sl {sz b st i0 m : Nat} {j : IntKind} {z : Int} {k : Res} {h : Heap} {n : Nat} : iaddrK sz (.sl b st i0 m) (.int j z) k h n = (0 ≤ z ∧ z < m ∧ blkSz (Heap.get h b st) = some sz ∧ k (.ptr b st (i0 + z.toNat) 0) h n) := rfl
@[go_sem] theorem iaddrK_isl {sz : Nat} {es : List (List V)} {j : IntKind} {z : Int} {k : Res} {h : Heap} {n : Nat} : iaddrK sz (.isl es) (.int j z) k h n = (0 ≤ z ∧ z < es.length ∧ rowsz es sz ∧ k (.iptr es z.toNat 0) h n) := rfl
@[go_sem] theorem iaddrK_nils {sz : Nat} {i : V} {k : Res} {h : Heap} {n : Nat} : iaddrK sz .nils i k h n = False := by cases i <;> rfl
@[congr] theorem iaddrAK_congr {len sz : Nat} {x x' i i' : V} {k : Res} {h : Heap} {n : Nat} (e0 : x = x') (e1 : i = i') : iaddrAK len sz x i k h n = iaddrAK len sz x' i' k h n := by rw [e0, e1]
@[go_sem] theorem iaddrAK_ptr {len sz b st i0 q : Nat} {j : IntKind} {z : Int} {k : Res} {h : Heap} {n : Nat} : iaddrAK len sz (.ptr b st i0 q) (.int j z) k h n = (0 ≤ z ∧ z < len ∧ k (.ptr b st i0 (q + z.toNat * sz)) h n) := rfl
@[go_sem] theorem iaddrAK_iptr {len sz i0 q : Nat} {es : List (List V)} {j : IntKind} {z : Int} {k : Res} {h : Heap} {n : Nat} : iaddrAK len sz (.iptr es i0 q) (.int j z) k h n = (0 ≤ z ∧ z < len ∧ k (.iptr es i0 (q + z.toNat * sz)) h n) := rfl
@[congr] theorem idxK_congr {x x' i i' : V} {k : Res} {h : Heap} {n : Nat} (e0 : x = x') (e1 : i = i') : idxK x i k h n = idxK x' i' k h n := by rw [e0, e1]
@[go_sem] theorem idxK_str {s : List UInt8} {j : IntKind} {z : Int} {k : Res} {h : Heap} {n : Nat} : idxK (.str s) (.int j z) k h n = (0 ≤ z ∧ optR ((s[z.toNat]?).map fun b => .int .u8 b.toNat) k h n) := rfl
@[go_sem] theorem arithK_eq {j : IntKind} {z : Int} {k : Res} {h : Heap} {n : Nat} : arithK j z k h n = (inR j z ∧ k (wrapV j z) h n) := rfl
@[congr] theorem binK_congr {op : BinOp} {x x' y y' : V} {k : Res} {h : Heap} {n : Nat} (e0 : x = x') (e1 : y = y') : binK op x y k h n = binK op x' y' k h n := by rw [e0, e1]
@[go_sem] theorem binK_add {j j' : IntKind} {a b : Int} {k : Res} {h : Heap} {n : Nat} : binK .add (.int j a) (.int j' b) k h n = (j = j' ∧ arithK j (a + b) k h n) := rfl
@[go_sem] theorem binK_sub {j j' : IntKind} {a b : Int} {k : Res} {h : Heap} {n : Nat} : binK .sub (.int j a) (.int j' b) k h n = (j = j' ∧ arithK j (a - b) k h n) := rfl
@[go_sem] theorem binK_mul {j j' : IntKind} {a b : Int} {k : Res} {h : Heap} {n : Nat} : binK .mul (.int j a) (.int j' b) k h n = (j = j' ∧ arithK j (a * b) k h n) := rfl
@[go_sem] theorem binK_quo {j j' : IntKind} {a b : Int} {k : Res} {h : Heap} {n : Nat} : binK .quo (.int j a) (.int j' b) k h n = (j = j' ∧ b ≠ 0 ∧ arithK j (a.tdiv b) k h n) := rfl
@[go_sem] theorem binK_rem {j j' : IntKind} {a b : Int} {k : Res} {h : Heap} {n : Nat} : binK .rem (.int j a) (.int j' b) k h n = (j = j' ∧ b ≠ 0 ∧ k (.int j (a.tmod b)) h n) := rfl
@[go_sem] theorem binK_eql {j j' : IntKind} {a b : Int} {k : Res} {h : Heap} {n : Nat} : binK .eql (.int j a) (.int j' b) k h n = (j = j' ∧ k (.bool (decide (a = b))) h n) := rfl
@[go_sem] theorem binK_neq {j j' : IntKind} {a b : Int} {k : Res} {h : Heap} {n : Nat} : binK .neq (.int j a) (.int j' b) k h n = (j = j' ∧ k (.bool (decide (¬ a = b))) h n) := rfl
@[go_sem] theorem binK_lss {j j' : IntKind} {a b : Int} {k : Res} {h : Heap} {n : Nat} : binK .lss (.int j a) (.int j' b) k h n = (j = j' ∧ k (.bool (decide (a < b))) h n) := rfl
@[go_sem] theorem binK_leq {j j' : IntKind} {a b : Int} {k : Res} {h : Heap} {n : Nat} : binK .leq (.int j a) (.int j' b) k h n = (j = j' ∧ k (.bool (decide (a ≤ b))) h n) := rfl
@[go_sem] theorem binK_gtr {j j' : IntKind} {a b : Int} {k : Res} {h : Heap} {n : Nat} : binK .gtr (.int j a) (.int j' b) k h n = (j = j' ∧ k (.bool (decide (b < a))) h n) := rfl
@[go_sem] theorem binK_geq {j j' : IntKind} {a b : Int} {k : Res} {h : Heap} {n : Nat} : binK .geq (.int j a) (.int j' b) k h n = (j = j' ∧ k (.bool (decide (b ≤ a))) h n) := rfl
@[go_sem] theorem binK_and {j j' : IntKind} {a b : Int} {k : Res} {h : Heap} {n : Nat} : binK .and (.int j a) (.int j' b) k h n = (j = j' ∧ k (.int j (bitZ .and j a b)) h n) := rfl
@[go_sem] theorem binK_or {j j' : IntKind} {a b : Int} {k : Res} {h : Heap} {n : Nat} : binK .or (.int j a) (.int j' b) k h n = (j = j' ∧ k (.int j (bitZ .or j a b)) h n) := rfl
@[go_sem] theorem binK_xor {j j' : IntKind} {a b : Int} {k : Res} {h : Heap} {n : Nat} : binK .xor (.int j a) (.int j' b) k h n = (j = j' ∧ k (.int j (bitZ .xor j a b)) h n) := rfl
@[go_sem] theorem binK_andNot {j j' : IntKind} {a b : Int} {k : Res} {h : Heap} {n : Nat} : binK .andNot (.int j a) (.int j' b) k h n = (j = j' ∧ k (.int j (bitZ .andNot j a b)) h n) := rfl
@[go_sem] theorem binK_sleq {a b : List UInt8} {k : Res} {h : Heap} {n : Nat} : binK .leq (.str a) (.str b) k h n = k (.bool (bytesLt a b || decide (a = b))) h n := rfl
@[go_sem] theorem binK_sgtr {a b : List UInt8} {k : Res} {h : Heap} {n : Nat} : binK .gtr (.str a) (.str b) k h n = k (.bool !(bytesLt a b || decide (a = b))) h n := rfl
@[go_sem] theorem binK_sadd {a b : List UInt8} {k : Res} {h : Heap} {n : Nat} : binK .add (.str a) (.str b) k h n = (a.length + b.length ≤ 1099511627776 ∧ k (.str (a ++ b)) h n) := rfl
@[go_sem] theorem binK_seql {a b : List UInt8} {k : Res} {h : Heap} {n : Nat} : binK .eql (.str a) (.str b) k h n = k (.bool (decide (a = b))) h n := rfl
@[go_sem] theorem binK_sneq {a b : List UInt8} {k : Res} {h : Heap} {n : Nat} : binK .neq (.str a) (.str b) k h n = k (.bool (decide (¬ a = b))) h n := rfl
@[go_sem] theorem binK_slss {a b : List UInt8} {k : Res} {h : Heap} {n : Nat} : binK .lss (.str a) (.str b) k h n = k (.bool (bytesLt a b)) h n := rfl
@[go_sem] theorem binK_sgeq {a b : List UInt8} {k : Res} {h : Heap} {n : Nat} : binK .geq (.str a) (.str b) k h n = k (.bool (!bytesLt a b)) h n := rfl
@[congr] theorem unK_congr {op : UnOp} {x x' : V} {k : Res} {h : Heap} {n : Nat} (e0 : x = x') : unK op x k h n = unK op x' k h n := by rw [e0]
@[go_sem] theorem unK_neg {j : IntKind} {a : Int} {k : Res} {h : Heap} {n : Nat} : unK .neg (.int j a) k h n = arithK j (0 - a) k h n := rfl
@[go_sem] theorem unK_xor {j : IntKind} {a : Int} {k : Res} {h : Heap} {n : Nat} : unK .xor (.int j a) k h n = k (.int j (bitZ .xor j (bif j.signed then -1 else j.max) a)) h n := rfl
@[go_sem] theorem unK_not {b : Bool} {k : Res} {h : Heap} {n : Nat} : unK .not (.bool b) k h n = k (.bool !b) h n := rfl
def rowsAt (o : Option Blk) (f : Nat → List (List V) → Prop) : Prop :=
  match o with
  | some (.rows sz rs) => f sz rs
  | _ => False
def mapAt (o : Option Blk) (f : List (V × V) → Prop) : Prop :=
  match o with
  | some (.map es) => f es
  | _ => False
def bnd2 (a b : Option Int) (f : Int → Int → Prop) : Prop :=
  match a, b with
  | some a, some b => f a b
  | _, _ => False
@[congr] theorem rowsAt_congr {o o' : Option Blk} {f : Nat → List (List V) → Prop} (e : o = o') : rowsAt o f = rowsAt o' f := by rw [e]
@[congr] theorem mapAt_congr {o o' : Option Blk} {f : List (V × V) → Prop} (e : o = o') : mapAt o f = mapAt o' f := by rw [e]
@[congr] theorem bnd2_congr {a a' b b' : Option Int} {f : Int → Int → Prop} (e : a = a') (e' : b = b') : bnd2 a b f = bnd2 a' b' f := by rw [e, e']
@[go_sem] theorem rowsAt_rows {sz : Nat} {rs : List (List V)} {f : Nat → List (List V) → Prop} : rowsAt (some (.rows sz rs)) f = f sz rs := rfl
@[go_sem] theorem mapAt_map {es : List (V × V)} {f : List (V × V) → Prop} : mapAt (some (.map es)) f = f es := rfl
@[go_sem] theorem bnd2_some {a b : Int} {f : Int → Int → Prop} : bnd2 (some a) (some b) f = f a b := rfl
@[congr] theorem appK_congr {L nm sz : Nat} {b b' : V} {o o' : Option (List (List V))} {k : Res} {h : Heap} {n : Nat} (e0 : b = b') (e1 : o = o') : appK L nm sz b o k h n = appK L nm sz b' o' k h n := by rw [e0, e1]
@[go_sem] theorem appK_nils {L nm sz : Nat} {xs : List (List V)} {k : Res} {h : Heap} {n : Nat} : appK L nm sz .nils (some xs) k h n = (rowsz xs sz ∧ xs.length ≤ L ∧ k (.sl nm n 0 xs.length) (Heap.put h nm n (.rows sz xs)) (n + 1)) := rfl
@[go_sem] theorem appK_sl {L nm sz b st i m : Nat} {xs : List (List V)} {k : Res} {h : Heap} {n : Nat} : appK L nm sz (.sl b st i m) (some xs) k h n = (rowsz xs sz ∧ rowsAt (Heap.get h b st) fun sz' rs => sz' = sz ∧ i + m ≤ rs.length ∧ m + xs.length ≤ L ∧ k (.sl b n 0 (m + xs.length)) (Heap.put h b n (.rows sz ((rs.drop i).take m ++ xs))) (n + 1)) := rfl
@[congr] theorem copyK_congr {sz : Nat} {b b' : V} {o o' : Option (List (List V))} {k : Res} {h : Heap} {n : Nat} (e0 : b = b') (e1 : o = o') : copyK sz b o k h n = copyK sz b' o' k h n := by rw [e0, e1]
@[go_sem] theorem copyK_nils {sz : Nat} {xs : List (List V)} {k : Res} {h : Heap} {n : Nat} : copyK sz .nils (some xs) k h n = (rowsz xs sz ∧ k (.int .i64 0) h n) := rfl
@[go_sem] theorem copyK_sl {sz b st i m : Nat} {xs : List (List V)} {k : Res} {h : Heap} {n : Nat} : copyK sz (.sl b st i m) (some xs) k h n = (rowsz xs sz ∧ rowsAt (Heap.get h b st) fun sz' rs => sz' = sz ∧ i + m ≤ rs.length ∧ k (.int .i64 (min xs.length m : Nat)) (Heap.put h b st (.rows sz (rs.take i ++ xs.take (min xs.length m) ++ rs.drop (i + min xs.length m)))) n) := rfl
@[congr] theorem mkslK_congr {nm : Nat} {z : List V} {x x' : V} {k : Res} {h : Heap} {n : Nat} (e0 : x = x') : mkslK nm z x k h n = mkslK nm z x' k h n := by rw [e0]
@[go_sem] theorem mkslK_int {nm : Nat} {z : List V} {m : Int} {k : Res} {h : Heap} {n : Nat} : mkslK nm z (.int .i64 m) k h n = (0 ≤ m ∧ m ≤ 137438953472 ∧ k (.sl nm n 0 m.toNat) (Heap.put h nm n (.rows z.length (List.replicate m.toNat z))) (n + 1)) := rfl
@[go_sem] theorem clrK_sl {z : List V} {b st i m : Nat} {k : Res} {h : Heap} {n : Nat} : clrK z (.sl b st i m) k h n = rowsAt (Heap.get h b st) fun sz rs => sz = z.length ∧ i + m ≤ rs.length ∧ k (.tup []) (Heap.put h b st (.rows sz (rs.take i ++ List.replicate m z ++ rs.drop (i + m)))) n := rfl
@[congr] theorem slcK_congr {sz : Nat} {x x' : V} {lo lo' hi hi' : Option V} {k : Res} {h : Heap} {n : Nat} (e0 : x = x') (e1 : lo = lo') (e2 : hi = hi') : slcK sz x lo hi k h n = slcK sz x' lo' hi' k h n := by rw [e0, e1, e2]
@[go_sem] theorem slcK_sl {sz b st i m : Nat} {lo hi : Option V} {k : Res} {h : Heap} {n : Nat} : slcK sz (.sl b st i m) lo hi k h n = bnd2 (boundV 0 lo) (boundV m hi) fun l u => blkSz (Heap.get h b st) = some sz ∧ 0 ≤ l ∧ l ≤ u ∧ u ≤ m ∧ k (.sl b st (i + l.toNat) (u - l).toNat) h n := rfl
@[go_sem] theorem slcK_isl {sz : Nat} {es : List (List V)} {lo hi : Option V} {k : Res} {h : Heap} {n : Nat} : slcK sz (.isl es) lo hi k h n = bnd2 (boundV 0 lo) (boundV es.length hi) fun l u => rowsz es sz ∧ 0 ≤ l ∧ l ≤ u ∧ u ≤ es.length ∧ k (.isl ((es.drop l.toNat).take (u - l).toNat)) h n := rfl
@[go_sem] theorem slcK_nils {sz : Nat} {lo hi : Option V} {k : Res} {h : Heap} {n : Nat} : slcK sz .nils lo hi k h n = bnd2 (boundV 0 lo) (boundV 0 hi) fun l u => l = 0 ∧ u = 0 ∧ k .nils h n := rfl
@[congr] theorem slsK_congr {x x' : V} {lo lo' hi hi' : Option V} {k : Res} {h : Heap} {n : Nat} (e0 : x = x') (e1 : lo = lo') (e2 : hi = hi') : slsK x lo hi k h n = slsK x' lo' hi' k h n := by rw [e0, e1, e2]
@[go_sem] theorem slsK_str {s : List UInt8} {lo hi : Option V} {k : Res} {h : Heap} {n : Nat} : slsK (.str s) lo hi k h n = bnd2 (boundV 0 lo) (boundV s.length hi) fun l u => 0 ≤ l ∧ l ≤ u ∧ u ≤ s.length ∧ k (.str ((s.drop l.toNat).take (u - l).toNat)) h n := rfl
@[congr] theorem lookK_congr {kd : Nat} {z : V} {ok : Bool} {m m' x x' : V} {k : Res} {h : Heap} {n : Nat} (e0 : m = m') (e1 : x = x') : lookK kd z ok m x k h n = lookK kd z ok m' x' k h n := by rw [e0, e1]
@[go_sem] theorem lookK_nilm {kd : Nat} {z : V} {ok : Bool} {x : V} {k : Res} {h : Heap} {n : Nat} : lookK kd z ok .nilm x k h n = (keyV kd x = true ∧ k (lookV z ok none) h n) := rfl
/-- What is found, or not. -/
def optC (o : Option V) (f : V → Prop) (g : Prop) : Prop :=
  match o with
  | some v => f v
  | none => g
@[congr] theorem optC_congr {o o' : Option V} {f : V → Prop} {g : Prop} (e : o = o') : optC o f g = optC o' f g := by rw [e]
@[go_sem] theorem optC_some {v : V} {f : V → Prop} {g : Prop} : optC (some v) f g = f v := rfl
@[go_sem] theorem optC_none {f : V → Prop} {g : Prop} : optC none f g = g := rfl
@[go_sem] theorem optC_map {α : Type} {o : Option α} {F : α → V} {f : V → Prop} {g : Prop} : optC (o.map F) f g = ((∀ x, o = some x → f (F x)) ∧ (o = none → g)) := by
  cases o <;> simp [optC]
@[go_sem] theorem lookK_mp {kd b st : Nat} {z : V} {ok : Bool} {x : V} {k : Res} {h : Heap} {n : Nat} : lookK kd z ok (.mp b st) x k h n = mapAt (Heap.get h b st) fun es => keyV kd x = true ∧ keyOK x es ∧ optC (mfind x es) (fun v => k (lookV z ok (some v)) h n) (k (lookV z ok none) h n) := by
  simp only [lookK, mapAt]
  cases Heap.get h b st with
  | none => rfl
  | some x =>
    cases x with
    | rows sz rs => rfl
    | map es =>
      simp only
      refine propext (and_congr_right fun _ => and_congr_right fun _ => ?_)
      cases mfind _ es <;> exact Iff.rfl
    | loop => rfl
    | mapb => rfl
    | iter => rfl
    | raw => rfl
@[congr] theorem mputK_congr {kd : Nat} {m m' x x' v v' : V} {k : Res} {h : Heap} {n : Nat} (e0 : m = m') (e1 : x = x') (e2 : v = v') : mputK kd m x v k h n = mputK kd m' x' v' k h n := by rw [e0, e1, e2]
@[go_sem] theorem mputK_mp {kd b st : Nat} {x v : V} {k : Res} {h : Heap} {n : Nat} : mputK kd (.mp b st) x v k h n = mapAt (Heap.get h b st) fun es => keyV kd x = true ∧ keyOK x es ∧ k .undef (Heap.put h b st (.map (mset x v es))) n := rfl
@[congr] theorem mdelK_congr {kd : Nat} {m m' x x' : V} {k : Res} {h : Heap} {n : Nat} (e0 : m = m') (e1 : x = x') : mdelK kd m x k h n = mdelK kd m' x' k h n := by rw [e0, e1]
@[go_sem] theorem mdelK_nilm {kd : Nat} {x : V} {k : Res} {h : Heap} {n : Nat} : mdelK kd .nilm x k h n = (keyV kd x = true ∧ k (.tup []) h n) := rfl
@[go_sem] theorem mdelK_mp {kd b st : Nat} {x : V} {k : Res} {h : Heap} {n : Nat} : mdelK kd (.mp b st) x k h n = mapAt (Heap.get h b st) fun es => keyV kd x = true ∧ keyOK x es ∧ k (.tup []) (Heap.put h b st (.map (mrem x es))) n := rfl
@[go_sem] theorem callvK_fn {g : FuncId} {cs as : List V} {k : Res} {h : Heap} {n : Nat} : callvK P (.fn g cs) as h n k = (hasBody P g = true ∧ CallS P g (as ++ cs) h n k) := rfl
@[congr] theorem callvK_congr {x x' : V} {as as' : List V} {k : Res} {h : Heap} {n : Nat} (e : x = x') (e' : as = as') : callvK P x as h n k = callvK P x' as' h n k := by rw [e, e']
@[congr] theorem CallP_congr {f : FuncId} {as as' : List V} {k : Res} {h h' : Heap} {n n' : Nat} {pk : PanK} (e : as = as') (e' : h = h') (e'' : n = n') : CallP P f as h n k pk = CallP P f as' h' n' k pk := by rw [e, e', e'']
@[congr] theorem CallS_congr {f : FuncId} {as as' : List V} {k : Res} {h h' : Heap} {n n' : Nat} (e : as = as') (e' : h = h') (e'' : n = n') : CallS P f as h n k = CallS P f as' h' n' k := by rw [e, e', e'']
def retQ (Q : Res) (o : Option (List V)) (h : Heap) (n : Nat) : Prop :=
  match o with
  | some vs => Q (oneOf vs) h n
  | none => False
@[congr] theorem retQ_congr {Q : Res} {o o' : Option (List V)} {h : Heap} {n : Nat} (e : o = o') : retQ Q o h n = retQ Q o' h n := by rw [e]
@[go_sem] theorem retQ_some {Q : Res} {vs : List V} {h : Heap} {n : Nat} : retQ Q (some vs) h n = Q (oneOf vs) h n := rfl
@[go_sem ↓] theorem retG_eq {N : Nat} {rs : List RV} {Q : Res} {sl : List (Nat × V)} {h : Heap} {n : Nat} : retG ⟨P, N, rs, Q, none, pk⟩ ⟨sl, h, n⟩ = retQ Q (resOf ⟨sl, h, n⟩ rs) h n := rfl
@[congr] theorem exitG_congr {b b' : Bool} {A : Prop} (e : b = b') : exitG b A = exitG b' A := by rw [e]
@[go_sem] theorem exitG_false {A : Prop} : exitG false A = A := rfl
@[go_sem] theorem exitG_if {i j : Nat} {A : Prop} : exitG (Nat.beq i j) A = if i = j then False else A := by
  cases h : Nat.beq i j with
  | true => rw [if_pos (Nat.eq_of_beq_eq_true h)]; rfl
  | false => rw [if_neg fun e => by rw [e, Nat.beq_refl] at h; cases h]; rfl
@[congr] theorem dropG_congr {o o' : Option (List AItem)} {f : List AItem → Prop} {g : Prop} (e : o = o') : dropG o f g = dropG o' f g := by rw [e]
@[go_sem] theorem dropG_some {l : List AItem} {f : List AItem → Prop} {g : Prop} : dropG (some l) f g = f l := rfl
@[go_sem] theorem dropG_none {f : List AItem → Prop} {g : Prop} : dropG none f g = g := rfl
@[go_sem ↓] theorem leaveG_end {N : Nat} {rs : List RV} {Q : Res} {s : St} : leaveG ⟨P, N, rs, Q, none, pk⟩ none s = retG ⟨P, N, rs, Q, none, pk⟩ s := rfl
@[go_sem ↓] theorem leaveG_ret {N : Nat} {rs : List RV} {Q : Res} {s : St} : leaveG ⟨P, N, rs, Q, none, pk⟩ (some .ret) s = retG ⟨P, N, rs, Q, none, pk⟩ s := rfl
@[go_sem ↓] theorem leaveG_exit {N id : Nat} {rs : List RV} {Q : Res} {s : St} : leaveG ⟨P, N, rs, Q, none, pk⟩ (some (.exit id)) s = False := rfl
/-- A round is left. -/
def rndK (o : Option Blk) (b st : Nat) (j : Option Code) (Q : Res) (h : Heap) (n : Nat) : Prop :=
  match o with
  | some (.loop N sl ps p _ _) => Q (.bool j.isNone) (Heap.put h b st (.loop N sl ps p (if j.isNone then .ready else .done) j)) n
  | _ => False
@[congr] theorem rndK_congr {o o' : Option Blk} {b st : Nat} {j : Option Code} {Q : Res} {h : Heap} {n : Nat} (e : o = o') : rndK o b st j Q h n = rndK o' b st j Q h n := by rw [e]
@[go_sem ↓] theorem leaveG_rd {N b st : Nat} {rs : List RV} {Q : Res} {j : Option Code} {sl : List (Nat × V)} {h : Heap} {n : Nat} : leaveG ⟨P, N, rs, Q, some (b, st), pk⟩ j ⟨sl, h, n⟩ = rndK (Heap.get h b st) b st j Q h n := rfl
@[go_sem] theorem rndK_end {b st N : Nat} {sl : List (Nat × V)} {ps : List Nat} {p : Code → Code → Prop} {s : LoopState} {pd : Option Code} {Q : Res} {h : Heap} {n : Nat} : rndK (some (.loop N sl ps p s pd)) b st none Q h n = Q (.bool true) (Heap.put h b st (.loop N sl ps p .ready none)) n := rfl
@[go_sem] theorem rndK_jump {b st N : Nat} {sl : List (Nat × V)} {ps : List Nat} {p : Code → Code → Prop} {s : LoopState} {pd : Option Code} {c : Code} {Q : Res} {h : Heap} {n : Nat} : rndK (some (.loop N sl ps p s pd)) b st (some c) Q h n = Q (.bool false) (Heap.put h b st (.loop N sl ps p .done (some c))) n := rfl
/-- A round begins. -/
def begK (o : Option Blk) (b st : Nat) (K : St → Prop) (sl : List (Nat × V)) (h : Heap) (n : Nat) : Prop :=
  match o with
  | some (.loop N sl' ps p .ready pend) => K ⟨sl, Heap.put h b st (.loop N sl' ps p .busy pend), n⟩
  | _ => False
@[congr] theorem begK_congr {o o' : Option Blk} {b st : Nat} {K : St → Prop} {sl : List (Nat × V)} {h : Heap} {n : Nat} (e : o = o') : begK o b st K sl h n = begK o' b st K sl h n := by rw [e]
@[go_sem ↓] theorem begI_rd {N b st : Nat} {rs : List RV} {Q : Res} {K : St → Prop} {sl : List (Nat × V)} {h : Heap} {n : Nat} : begI ⟨P, N, rs, Q, some (b, st), pk⟩ ⟨sl, h, n⟩ K = begK (Heap.get h b st) b st K sl h n := rfl
@[go_sem] theorem begK_ready {b st N : Nat} {sl sl' : List (Nat × V)} {ps : List Nat} {p : Code → Code → Prop} {pd : Option Code} {K : St → Prop} {h : Heap} {n : Nat} : begK (some (.loop N sl' ps p .ready pd)) b st K sl h n = K ⟨sl, Heap.put h b st (.loop N sl' ps p .busy pd), n⟩ := rfl
/-- A range over a function. -/
@[go_sem] theorem dfrG_none {A : Prop} : dfrG none none A = A := rfl
@[go_sem] theorem panOf_none : panOf none = noPan := rfl
@[go_sem] theorem panOf_some {p : PanK} : panOf (some p) = p := rfl
@[congr] theorem rngG_congr {c : Cf} {nm : Nat} {v v' : V} {ps : List Nat} {x y : AC} {s : St} {K : Option Code → St → Prop} (e : v = v') : rngG c nm v ps x y s K = rngG c nm v' ps x y s K := by rw [e]
@[go_sem] theorem rngG_fn {N nm : Nat} {rs : List RV} {Q : Res} {f : FuncId} {cs : List V} {ps : List Nat} {x y : AC} {sl : List (Nat × V)} {h : Heap} {n : Nat} {K : Option Code → St → Prop} :
    rngG ⟨P, N, rs, Q, none, none⟩ nm (.fn f cs) ps x y ⟨sl, h, n⟩ K = (hasBody P f = true ∧ CallS P f (.yld nm n :: cs) (Heap.put h nm n (.loop N sl ps (LoopIs P N x y) .ready none)) (n + 1) (rngR nm n sl K)) := by
  simp [rngG]
/-- Behind it. -/
def rngK (o : Option Blk) (K : Option Code → Prop) : Prop :=
  match o with
  | some (.loop _ _ _ _ s pend) => s ≠ .busy ∧ K pend
  | _ => False
@[congr] theorem rngK_congr {o o' : Option Blk} {K : Option Code → Prop} (e : o = o') : rngK o K = rngK o' K := by rw [e]
@[go_sem] theorem rngR_eq {nm st : Nat} {sl : List (Nat × V)} {K : Option Code → St → Prop} {r : V} {h : Heap} {n : Nat} : rngR nm st sl K r h n = rngK (Heap.get h nm st) fun pend => K pend ⟨sl, Heap.del h nm, n⟩ := by
  unfold rngR rngK
  cases Heap.get h nm st with
  | none => rfl
  | some x => cases x <;> rfl
@[go_sem] theorem rngK_loop {N : Nat} {sl : List (Nat × V)} {ps : List Nat} {p : Code → Code → Prop} {s : LoopState} {pd : Option Code} {K : Option Code → Prop} : rngK (some (.loop N sl ps p s pd)) K = (s ≠ .busy ∧ K pd) := rfl
@[go_sem] theorem jumpG_none {K : List AItem → St → Prop} {k : List AItem} {s : St} : jumpG K k none s = K k s := rfl
@[go_sem] theorem jumpG_ret {K : List AItem → St → Prop} {k : List AItem} {s : St} : jumpG K k (some .ret) s = K (.code .ret :: k) s := rfl
@[go_sem] theorem jumpG_exit {K : List AItem → St → Prop} {k : List AItem} {id : Nat} {s : St} : jumpG K k (some (.exit id)) s = K (.code (.exit id) :: k) s := rfl
@[go_sem] theorem putAll_cons {sl : List (Nat × V)} {p : Nat} {ps : List Nat} {a : V} {as : List V} : putAll sl (p :: ps) (a :: as) = putAll (sset sl p a) ps as := rfl
@[go_sem] theorem putAll_nil {sl : List (Nat × V)} {as : List V} : putAll sl [] as = sl := by cases as <;> rfl
@[go_sem] theorem callvK_yld {b st : Nat} {as : List V} {k : Res} {h : Heap} {n : Nat} : callvK P (.yld b st) as h n k = RndS P b st as h n k := rfl
@[congr] theorem RndS_congr {b st : Nat} {as as' : List V} {k : Res} {h h' : Heap} {n n' : Nat} (e : as = as') (e' : h = h') (e'' : n = n') : RndS P b st as h n k = RndS P b st as' h' n' k := by rw [e, e', e'']
@[congr] theorem vo_congr {l l' : List AI} {K : St → Prop} {s s' : St} (e' : l = l') (e : s = s') : vo P PK l K s = vo P PK l' K s' := by rw [e, e']
@[congr] theorem go_congr {k k' : List AItem} {s s' : St} (e' : k = k') (e : s = s') : go c m k s = go c m k' s' := by rw [e, e']
@[congr] theorem Run_congr {s s' : St} (e : s = s') : Run c k s = Run c k s' := by rw [e]
@[go_sem] theorem rowsz_nil {sz : Nat} : rowsz [] sz = True := by simp [rowsz]
@[go_sem] theorem rowsz_cons {sz : Nat} {r : List V} {rs : List (List V)} : rowsz (r :: rs) sz = (r.length = sz ∧ rowsz rs sz) := by simp [rowsz]
@[go_sem] theorem sget_nil {i : Nat} : sget [] i = .undef := rfl
theorem beq_if {α : Type} {i j : Nat} {a b : α} : (bif Nat.beq i j then a else b) = if i = j then a else b := by
  by_cases h : i = j
  · subst h; simp
  · rw [if_neg h]
    have : Nat.beq i j = false := by
      cases hb : Nat.beq i j with
      | false => rfl
      | true => exact (h (Nat.eq_of_beq_eq_true hb)).elim
    rw [this]; rfl
@[go_sem] theorem sget_cons {p : Nat × V} {r : List (Nat × V)} {i : Nat} : sget (p :: r) i = if p.1 = i then p.2 else sget r i := beq_if
@[go_sem] theorem sset_nil {i : Nat} {v : V} : sset [] i v = [(i, v)] := rfl
@[go_sem] theorem sset_cons {p : Nat × V} {r : List (Nat × V)} {i : Nat} {v : V} : sset (p :: r) i v = if p.1 < i then (i, v) :: p :: r else if p.1 = i then (i, v) :: r else p :: sset r i v := by
  simp only [sset]
  rw [beq_if]
  by_cases h : p.1 < i
  · rw [if_pos h, if_neg (by omega), show Nat.blt p.1 i = true from Nat.ble_eq_true_of_le h]; rfl
  · rw [if_neg h]
    have : Nat.blt p.1 i = false := by
      cases hb : Nat.blt p.1 i with
      | false => rfl
      | true => exact (h (Nat.le_of_ble_eq_true hb)).elim
    rw [this]; rfl
attribute [go_sem] St.ev.eq_1 St.ev.eq_2 St.ev.eq_3 St.ev.eq_4 know resOf oneOf dropTo lookV kindV eqpV nilckV pickV cellsV faddrV fldV extV convV isnilV tasV unV panK mapLen lenV srcV viewV keyV mfind mset mrem keyOK boundV blkSz hasBody
attribute [go_sem] inR wrapV eqaV eqE eqE.eqFs eqLeaf andO mmV mm2 fillV rowsOf putCells loadV strRows
attribute [go_sem] Option.map_some Option.map_none Option.bind_some Option.bind_none Option.getD_some Option.getD_none Option.isSome_some
attribute [go_sem] List.getElem?_cons_zero List.getElem?_cons_succ List.getElem?_nil List.length_cons List.length_nil List.drop_zero List.drop_succ_cons List.drop_nil List.take_zero List.take_succ_cons List.take_nil List.map_cons List.map_nil List.cons_append List.nil_append List.append_nil List.set_cons_zero List.set_cons_succ
attribute [go_sem] if_true if_false cond_true cond_false Bool.not_true Bool.not_false true_and and_true false_and and_false true_implies forall_const Bool.true_and Bool.and_true Bool.false_and Bool.and_false ite_true ite_false reduceIte
attribute [go_sem] Bool.not_eq_true Bool.not_eq_false decide_eq_true_eq decide_eq_false_iff_not Classical.not_not Bool.not_not decide_true decide_false Nat.zero_add Nat.add_zero ne_eq reduceCtorEq
@[go_sem] theorem cond_if {α : Type} {a b : α} {p : Prop} [Decidable p] : (bif decide p then a else b) = if p then a else b := by by_cases h : p <;> simp [h]
@[go_sem] theorem get_nil {b st : Nat} : Heap.get [] b st = none := rfl
@[go_sem] theorem get_cons {b' st' b st : Nat} {x : Blk} {r : Heap} : Heap.get ((b', st', x) :: r) b st = if b' = b then (if st' = st then some x else none) else Heap.get r b st := beq_if
@[go_sem] theorem put_eq {h : Heap} {b st : Nat} {x : Blk} : Heap.put h b st x = (b, st, x) :: Heap.del h b := rfl
@[go_sem] theorem del_nil {b : Nat} : Heap.del [] b = [] := rfl
@[go_sem] theorem del_cons {b' st' b : Nat} {x : Blk} {r : Heap} : Heap.del ((b', st', x) :: r) b = if b' = b then Heap.del r b else (b', st', x) :: Heap.del r b := by
  unfold Heap.del
  rw [List.filter_cons, ← beq_if]
  cases Nat.beq b' b <;> simp
@[go_sem] theorem loadRow_t {row : List V} {j n : Nat} : loadRow row j n true = if j + n ≤ row.length then some (.agg ((row.drop j).take n)) else none := by
  unfold loadRow
  by_cases h : j + n ≤ row.length
  · rw [if_pos h, Nat.ble_eq_true_of_le h]; rfl
  · rw [if_neg h]
    have : Nat.ble (j + n) row.length = false := by
      cases hb : Nat.ble (j + n) row.length with
      | false => rfl
      | true => exact (h (Nat.le_of_ble_eq_true hb)).elim
    rw [this]; rfl
@[go_sem] theorem loadRow_f {row : List V} {j n : Nat} : loadRow row j n false = row[j]? := rfl
theorem ble_if {α : Type} {i j : Nat} {a b : α} : (bif Nat.ble i j then a else b) = if i ≤ j then a else b := by
  by_cases h : i ≤ j
  · rw [if_pos h, Nat.ble_eq_true_of_le h]; rfl
  · rw [if_neg h]
    have : Nat.ble i j = false := by
      cases hb : Nat.ble i j with
      | false => rfl
      | true => exact (h (Nat.le_of_ble_eq_true hb)).elim
    rw [this]; rfl
@[go_sem] theorem beqble_if {α : Type} {i j k l : Nat} {a b : α} : (bif Nat.beq i j && Nat.ble k l then a else b) = if i = j then (if k ≤ l then a else b) else b := by
  rw [← beq_if, ← ble_if]
  cases Nat.beq i j <;> rfl
attribute [go_sem] beq_if ble_if
@[go_sem] theorem ev_mk {sl : List (Nat × V)} {h : Heap} {n i : Nat} : St.ev ⟨sl, h, n⟩ (.t i) = sget sl i := rfl

/-! What is read out. -/
section
variable {d : Nat} {h : Heap} {φ : Nat → Nat → Nat → Nat → V}
attribute [go_sem] V.sub subL_map subLL_map
theorem frz_eq : ∃ φ, frz d h = V.sub φ := by cases d <;> exact ⟨_, rfl⟩
@[go_sem] theorem frz_int {j : IntKind} {z : Int} : frz d h (.int j z) = .int j z := by obtain ⟨φ, e⟩ := frz_eq (d := d) (h := h); rw [e, V.sub]
@[go_sem] theorem frz_bool {b : Bool} : frz d h (.bool b) = .bool b := by obtain ⟨φ, e⟩ := frz_eq (d := d) (h := h); rw [e, V.sub]
@[go_sem] theorem frz_str {b : List UInt8} : frz d h (.str b) = .str b := by obtain ⟨φ, e⟩ := frz_eq (d := d) (h := h); rw [e, V.sub]
@[go_sem] theorem frz_undef : frz d h .undef = .undef := by obtain ⟨φ, e⟩ := frz_eq (d := d) (h := h); rw [e, V.sub]
@[go_sem] theorem frz_nilp : frz d h .nilp = .nilp := by obtain ⟨φ, e⟩ := frz_eq (d := d) (h := h); rw [e, V.sub]
@[go_sem] theorem frz_err : frz d h .err = .err := by obtain ⟨φ, e⟩ := frz_eq (d := d) (h := h); rw [e, V.sub]
@[go_sem] theorem frz_anyi {k : IntKind} : frz d h (.anyi k) = .anyi k := by obtain ⟨φ, e⟩ := frz_eq (d := d) (h := h); rw [e, V.sub]
@[go_sem] theorem frz_nilm : frz d h .nilm = .nilm := by obtain ⟨φ, e⟩ := frz_eq (d := d) (h := h); rw [e, V.sub]
@[go_sem] theorem frz_nils : frz d h .nils = .isl [] := by obtain ⟨φ, e⟩ := frz_eq (d := d) (h := h); rw [e, V.sub]
@[go_sem] theorem frz_agg {cs : List V} : frz d h (.agg cs) = .agg (cs.map (frz d h)) := by obtain ⟨φ, e⟩ := frz_eq (d := d) (h := h); rw [e, V.sub, subL_map]
@[go_sem] theorem frz_tup {cs : List V} : frz d h (.tup cs) = .tup (cs.map (frz d h)) := by obtain ⟨φ, e⟩ := frz_eq (d := d) (h := h); rw [e, V.sub, subL_map]
@[go_sem] theorem frz_isl {es : List (List V)} : frz d h (.isl es) = .isl (es.map fun r => r.map (frz d h)) := by obtain ⟨φ, e⟩ := frz_eq (d := d) (h := h); rw [e, V.sub, subLL_map]
@[go_sem] theorem frz_sl {b st i n : Nat} : frz (d + 1) h (.sl b st i n) = match viewV h (.sl b st i n) with | some rs => .isl (rs.map fun r => r.map (frz d h)) | none => .undef := by rw [frz, V.sub]; rfl
end

theorem CallS.pureF {f : FuncId} {xs : List V} {r : V} {h : Heap} {n : Nat} {k : Res} (hp : Pure P f xs r) (has : xs.map (V.sub lost) = xs) (hk : k r h n) : CallS P f xs h n k := CallS.pure hp has hk

theorem pcallK.pureF {f : FuncId} {xs : List V} {r : V} {h : Heap} {n : Nat} {k : Res} (hp : Pure P f xs r) (has : xs.map (V.sub lost) = xs) (hk : k r h n) : pcallK P f xs k h n := ⟨r, fun _ h' => CallS.pureF hp has h', hk⟩

/-! Weakening: slots one by one, blocks one by one. -/
def slotsW (s : List (Nat × V)) : List (Nat × V) → Prop
  | [] => True
  | p :: r => sget s p.1 = p.2 ∧ slotsW s r
def memH (e : Nat × Nat × Blk) : Heap → Prop
  | [] => False
  | x :: r => x = e ∨ memH e r
def blksW (h : Heap) : Heap → Prop
  | [] => True
  | e :: r => memH e h ∧ blksW h r
theorem slotsW_iff {s : List (Nat × V)} : ∀ {l : List (Nat × V)}, slotsW s l ↔ ∀ p ∈ l, p.2 = sget s p.1
  | [] => by simp [slotsW]
  | p :: r => by simp only [slotsW, slotsW_iff, List.forall_mem_cons]; rw [eq_comm]
theorem memH_iff {e : Nat × Nat × Blk} : ∀ {l : Heap}, memH e l ↔ e ∈ l
  | [] => by simp [memH]
  | p :: r => by simp only [memH, memH_iff, List.mem_cons]; rw [eq_comm]
theorem blksW_iff {h : Heap} : ∀ {l : Heap}, blksW h l ↔ ∀ p ∈ l, p ∈ h
  | [] => by simp [blksW]
  | p :: r => by simp only [blksW, blksW_iff, List.forall_mem_cons, memH_iff]
@[go_sem] theorem weak_iff {s s' : St} : Weak s s' = (slotsW s.sl s'.sl ∧ blksW s.h s'.h ∧ s.n ≤ s'.n) := by
  rw [eq_iff_iff, slotsW_iff, blksW_iff]; exact Iff.rfl
@[go_sem] theorem slotsW_nil {s : List (Nat × V)} : slotsW s [] = True := rfl
@[go_sem] theorem slotsW_cons {s : List (Nat × V)} {p : Nat × V} {r : List (Nat × V)} : slotsW s (p :: r) = (sget s p.1 = p.2 ∧ slotsW s r) := rfl
@[go_sem] theorem memH_nil {e : Nat × Nat × Blk} : memH e [] = False := rfl
@[go_sem] theorem memH_cons {e x : Nat × Nat × Blk} {r : Heap} : memH e (x :: r) = (x = e ∨ memH e r) := rfl
@[go_sem] theorem blksW_nil {h : Heap} : blksW h [] = True := rfl
@[go_sem] theorem blksW_cons {h r : Heap} {e : Nat × Nat × Blk} : blksW h (e :: r) = (memH e h ∧ blksW h r) := rfl
attribute [go_sem] Prod.mk.injEq V.int.injEq V.bool.injEq V.str.injEq V.agg.injEq V.tup.injEq V.isl.injEq V.sl.injEq V.ptr.injEq V.mp.injEq V.yld.injEq Blk.loop.injEq Blk.rows.injEq List.cons.injEq
attribute [go_sem] List.length_map List.drop_zero List.take_length List.length_append List.length_cons List.length_nil List.length_set List.length_replicate
attribute [go_sem] List.cons_append List.nil_append
attribute [go_sem] true_or or_true or_false false_or Nat.le_refl false_implies implies_true forall_const

end
end Go.Abs

attribute [go_sem] Nat.reduceEqDiff Nat.reduceAdd Nat.reduceSub Nat.reduceMul Nat.reduceLeDiff Nat.reduceLT Nat.reduceBEq Int.reduceToNat Int.reduceLE Int.reduceLT Int.reduceEq Int.reduceNe Int.reduceAdd Int.reduceSub Int.reduceNeg Int.toNat_natCast Int.cast_ofNat_Int Int.natCast_zero Int.natCast_one reduceCtorEq reduceIte Nat.lt_irrefl and_self not_false_eq_true not_true_eq_false
