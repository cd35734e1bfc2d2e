/-
 The evaluator as rewrite rules. No condition.
-/
import Derived.Test.YtoanghfeednogaaGreatDoorGo
set_option linter.unusedVariables false
set_option linter.unusedSimpArgs false
namespace Go.Abs
theorem Run.unf {c : Cf} {x y : AC} {k : List AItem} {s : St} (h : x = y) (hr : Run c (.code y :: k) s) : Run c (.code x :: k) s := h ▸ hr
section
variable {c : Cf} {P : Program} {m : Nat} {k : List AItem} {s : St}
attribute [go_sem] go.eq_1 go.eq_2 go.eq_3 go.eq_4 go.eq_5 go.eq_6 go.eq_7 go.eq_8 go.eq_9 go.eq_10 go.eq_11 go.eq_12 go.eq_13 go.eq_14 go.eq_15 go.eq_16
@[go_sem] theorem D1o {K : St → Prop} : B1s P [] K s = True := rfl
@[go_sem] theorem C9H {l : List AI} {r : List (List AI)} {K : St → Prop} : B1s P (l :: r) K s = (vo P l K s ∧ B1s P r K s) := rfl
@[go_sem] theorem D3w {K : St → Prop} : vo P [] K s = K s := rfl
@[go_sem] theorem D3n {i : AI} {r : List AI} {K : St → Prop} : vo P (i :: r) K s = F4 P i s (vo P r K) := rfl
@[go_sem ↓] theorem C9j {sl : List (Nat × V)} {h : A0} {n : Nat} {d : Option Nat} {o : AO} {K : St → Prop} : F4 P ⟨d, none, o⟩ ⟨sl, h, n⟩ K = A6 P o ⟨sl, h, n⟩ (fin d sl K) := rfl
@[go_sem ↓] theorem C9k {sl : List (Nat × V)} {h : A0} {n : Nat} {d : Option Nat} {o : AO} {j : Nat} {b : Bool} {K : St → Prop} : F4 P ⟨d, some (j, b), o⟩ ⟨sl, h, n⟩ K = stepG (C5 sl j) b (vo P [⟨d, none, o⟩] K ⟨D6 sl j (.bool b), h, n⟩) (fin d (D6 sl j (.bool !b)) K (.cst Go.undef) h n) (fin d sl K (.cst Go.undef) h n) := rfl
@[congr] theorem C7d {v v' : V} {w : Bool} {A B C : Prop} (h : v = v') : stepG v w A B C = stepG v' w A B C := by rw [h]
@[congr] theorem C6A {v v' : V} {A B : Prop} (h : v = v') : A8V v A B = A8V v' A B := by rw [h]
@[go_sem] theorem D2A {A B C : Prop} : stepG (.bool true) true A B C = A := by simp [stepG]
@[go_sem] theorem D2x {A B C : Prop} : stepG (.bool false) false A B C = A := by simp [stepG]
@[go_sem] theorem D2z {A B C : Prop} : stepG (.bool true) false A B C = B := by simp [stepG]
@[go_sem] theorem D2y {A B C : Prop} : stepG (.bool false) true A B C = B := by simp [stepG]
@[go_sem] theorem D3h {w : Bool} {A B C : Prop} : stepG (.cst Go.undef) w A B C = C := by simp [stepG, A9w, Go.undef]
@[go_sem low] theorem D3j {b : Bool} {A B C : Prop} : stepG (.bool b) true A B C = ((b = true → A) ∧ (b = false → B)) := rfl
@[go_sem low] theorem D3i {b : Bool} {A B C : Prop} : stepG (.bool b) false A B C = ((b = false → A) ∧ (b = true → B)) := rfl
@[go_sem] theorem D2N {A B : Prop} : A8V (.bool true) A B = A := by simp [A8V]
@[go_sem] theorem D2M {A B : Prop} : A8V (.bool false) A B = B := by simp [A8V]
@[go_sem low] theorem D2L {b : Bool} {A B : Prop} : A8V (.bool b) A B = ((b = true → A) ∧ (b = false → B)) := rfl
@[go_sem ↓] theorem D1P {d : Nat} {sl : List (Nat × V)} {K : St → Prop} {r : V} {h : A0} {n : Nat} : fin (some d) sl K r h n = K ⟨D6 sl d r, h, n⟩ := rfl
@[go_sem ↓] theorem D1O {sl : List (Nat × V)} {K : St → Prop} {r : V} {h : A0} {n : Nat} : fin none sl K r h n = K ⟨sl, h, n⟩ := rfl
@[go_sem ↓] theorem D1h {x : Opd} {sl : List (Nat × V)} {h : A0} {n : Nat} {k : Res} : A6 P (.mov x) ⟨sl, h, n⟩ k = k (St.ev ⟨sl, h, n⟩ x) h n := rfl
@[go_sem ↓] theorem C9A {c a b : Opd} {sl : List (Nat × V)} {h : A0} {n : Nat} {k : Res} : A6 P (.pick c a b) ⟨sl, h, n⟩ k = G3 (B7k (St.ev ⟨sl, h, n⟩ c) (St.ev ⟨sl, h, n⟩ a) (St.ev ⟨sl, h, n⟩ b)) k h n := rfl
@[go_sem ↓] theorem C7n {x : Opd} {sl : List (Nat × V)} {h : A0} {n : Nat} {k : Res} : A6 P (.nilck x) ⟨sl, h, n⟩ k = G3 (B2V (St.ev ⟨sl, h, n⟩ x)) k h n := rfl
@[go_sem ↓] theorem D0U {nm sz : Nat} {x : Opd} {sl : List (Nat × V)} {h : A0} {n : Nat} {k : Res} : A6 P (.box nm sz x) ⟨sl, h, n⟩ k = B4Z nm sz (A0I (St.ev ⟨sl, h, n⟩ x)) k h n := rfl
@[go_sem ↓] theorem C7e {z : List V} {ps : List (Nat × Nat × Opd)} {sl : List (Nat × V)} {h : A0} {n : Nat} {k : Res} : A6 P (.build z ps) ⟨sl, h, n⟩ k = G3 ((A0b ⟨sl, h, n⟩ z ps).map .agg) k h n := rfl
@[go_sem ↓] theorem C7m {nm sz : Nat} {xs : List Opd} {sl : List (Nat × V)} {h : A0} {n : Nat} {k : Res} : A6 P (.mkrow nm sz xs) ⟨sl, h, n⟩ k = B9b nm sz (G0 sz ⟨sl, h, n⟩ xs) k h n := rfl
@[go_sem ↓] theorem C7j {sz : Nat} {xs : List Opd} {sl : List (Nat × V)} {h : A0} {n : Nat} {k : Res} : A6 P (.mkisl sz xs) ⟨sl, h, n⟩ k = B6N (G0 sz ⟨sl, h, n⟩ xs) k h n := rfl
def A0H (rs : List (List V)) (i : Nat) (f : List V → Prop) : Prop :=
 match rs[i]? with
 | some row => f row
 | none => False
def A8O (b : Option Blk) (f : Nat → List (List V) → Prop) : Prop :=
 match b with
 | some (.rows sz rs) => f sz rs
 | _ => False
def B2P (h0 : A0) (x : V) (m : Nat) (agg : Bool) (k : Res) (h : A0) (n : Nat) : Prop := G3 (A7x h0 x m agg) k h n
def B0T (h0 : A0) (x : V) (cs : Option (List V)) (m : Nat) (k : Res) (n : Nat) : Prop :=
 match x with
 | .ptr b st i j => A7u (B2a h0 b st i j m (A0.get h0 b st) cs) k n
 | _ => False
@[congr] theorem C6w {rs rs' : List (List V)} {i i' : Nat} {f : List V → Prop} (e0 : rs = rs') (e1 : i = i') : A0H rs i f = A0H rs' i' f := by rw [e0, e1]
@[congr] theorem C6v {b b' : Option Blk} {f : Nat → List (List V) → Prop} (e0 : b = b') : A8O b f = A8O b' f := by rw [e0]
@[congr] theorem C6P {h0 : A0} {x x' : V} {m : Nat} {agg : Bool} {k : Res} {h : A0} {n : Nat} (e : x = x') : B2P h0 x m agg k h n = B2P h0 x' m agg k h n := by rw [e]
@[congr] theorem C6j {h0 : A0} {x x' : V} {cs cs' : Option (List V)} {m : Nat} {k : Res} {n : Nat} (e : x = x') (e1 : cs = cs') : B0T h0 x cs m k n = B0T h0 x' cs' m k n := by rw [e, e1]
@[go_sem ↓] theorem C9t {m : Nat} {agg : Bool} {x : Opd} {sl : List (Nat × V)} {h : A0} {n : Nat} {k : Res} : A6 P (.load m agg x) ⟨sl, h, n⟩ k = B2P h (St.ev ⟨sl, h, n⟩ x) m agg k h n := rfl
@[go_sem ↓] theorem C7p {m : Nat} {x v : Opd} {sl : List (Nat × V)} {h : A0} {n : Nat} {k : Res} : A6 P (.store m x v) ⟨sl, h, n⟩ k = B0T h (St.ev ⟨sl, h, n⟩ x) (A0I (St.ev ⟨sl, h, n⟩ v)) m k n := by
 simp only [A6, B0T, B3r]
 cases St.ev ⟨sl, h, n⟩ x <;> rfl
@[go_sem] theorem D0t {h0 : A0} {b st i j m : Nat} {agg : Bool} {k : Res} {h : A0} {n : Nat} : B2P h0 (.ptr b st i j) m agg k h n = A8O (A0.get h0 b st) fun _ rs => A0H rs i fun row => G3 (J9 row j m agg) k h n := by
 simp only [B2P, A7x, A8O, A0H]
 cases A0.get h0 b st with
 | none => rfl
 | some x =>
  cases x with
  | rows sz rs => simp only; cases rs[i]? <;> rfl
  | map es => rfl
  | loop => rfl
  | mapb => rfl
  | iter => rfl
  | raw => rfl
@[go_sem] theorem C8x {h0 : A0} {es : List (List V)} {i j m : Nat} {agg : Bool} {k : Res} {h : A0} {n : Nat} : B2P h0 (.iptr es i j) m agg k h n = A0H es i fun row => G3 (J9 row j m agg) k h n := by
 simp only [B2P, A7x, A0H]
 cases es[i]? <;> rfl
@[go_sem] theorem C9B {h0 : A0} {b st i j m : Nat} {cs : List V} {k : Res} {n : Nat} : B0T h0 (.ptr b st i j) (some cs) m k n =
  A8O (A0.get h0 b st) fun sz rs => A0H rs i fun row => cs.length = m ∧ j + m ≤ row.length ∧ k .undef (A0.put h0 b st (.rows sz (rs.set i (F1 row j cs)))) n := by
 simp only [B0T, B2a, A8O, A0H]
 cases A0.get h0 b st with
 | none => rfl
 | some x =>
  cases x with
  | map es => rfl
  | loop => rfl
  | mapb => rfl
  | iter => rfl
  | raw => rfl
  | rows sz rs =>
   simp only
   cases rs[i]? with
   | none => rfl
   | some row =>
    simp only
    by_cases h1 : cs.length = m
    ·by_cases h2 : j + m ≤ row.length
     ·rw [h1, Nat.beq_refl, Nat.ble_eq_true_of_le h2]; simp [A7u, h2]
     ·have : Nat.ble (j + m) row.length = false := by
       cases hb : Nat.ble (j + m) row.length with
       | false => rfl
       | true => exact (h2 (Nat.le_of_ble_eq_true hb)).elim
      rw [this]; simp [A7u, h2]
    ·have : Nat.beq cs.length m = false := by
      cases hb : Nat.beq cs.length m with
      | false => rfl
      | true => exact (h1 (Nat.eq_of_beq_eq_true hb)).elim
     rw [this]; simp [A7u, h1]
@[go_sem] theorem C7w {sz : Nat} {rs : List (List V)} {f : Nat → List (List V) → Prop} : A8O (some (.rows sz rs)) f = f sz rs := rfl
@[go_sem] theorem C7v {f : Nat → List (List V) → Prop} : A8O none f = False := rfl
@[go_sem] theorem C9N {es : List (V × V)} {f : Nat → List (List V) → Prop} : A8O (some (.map es)) f = False := rfl
@[go_sem high] theorem C9Q {i : Nat} {f : List V → Prop} : A0H [] i f = False := by simp [A0H]
@[go_sem high] theorem C7x {r : List V} {rs : List (List V)} {f : List V → Prop} : A0H (r :: rs) 0 f = f r := rfl
theorem B5Y {rs : List (List V)} {i : Nat} {f : List V → Prop} : A0H rs i f = (i < rs.length ∧ ∀ row, rs[i]? = some row → f row) := by
 unfold A0H
 cases h : rs[i]? with
 | none =>
  have := List.getElem?_eq_none_iff.1 h
  simp; omega
 | some row =>
  have := (List.getElem?_eq_some_iff.1 h).1
  simp [this]
@[go_sem low] theorem C9O {rs : List (List V)} {i : Nat} {f : List V → Prop} : A0H rs i f = (i < rs.length ∧ ∀ row, rs[i]? = some row → f row) := B5Y
@[go_sem] theorem C9P {α : Type} {xs : List α} {F : α → List V} {i : Nat} {f : List V → Prop} : A0H (xs.map F) i f = (i < xs.length ∧ ∀ x, xs[i]? = some x → f (F x)) := by
 rw [B5Y, List.length_map]
 refine propext (and_congr_right fun _ => ?_)
 rw [List.getElem?_map]
 constructor
 ·intro h x hx; exact h _ (by rw [hx]; rfl)
 ·intro h row hr
  rw [Option.map_eq_some_iff] at hr
  obtain ⟨x, hx, rfl⟩ := hr
  exact h x hx
@[go_sem] theorem C4S {α : Type} {xs : List α} {F : α → List V} : (xs.map F).take xs.length = xs.map F := by
 rw [List.take_of_length_le]; simp
@[go_sem ↓] theorem C7g {off : Nat} {x : Opd} {sl : List (Nat × V)} {h : A0} {n : Nat} {k : Res} : A6 P (.faddr off x) ⟨sl, h, n⟩ k = G3 (B2A off (St.ev ⟨sl, h, n⟩ x)) k h n := rfl
@[go_sem ↓] theorem C7h {sz : Nat} {x i : Opd} {sl : List (Nat × V)} {h : A0} {n : Nat} {k : Res} : A6 P (.iaddr sz x i) ⟨sl, h, n⟩ k = A0O sz (St.ev ⟨sl, h, n⟩ x) (St.ev ⟨sl, h, n⟩ i) k h n := rfl
@[go_sem ↓] theorem C6h {len sz : Nat} {x i : Opd} {sl : List (Nat × V)} {h : A0} {n : Nat} {k : Res} : A6 P (.iaddrA len sz x i) ⟨sl, h, n⟩ k = q8 len sz (St.ev ⟨sl, h, n⟩ x) (St.ev ⟨sl, h, n⟩ i) k h n := rfl
@[go_sem ↓] theorem D1d {off m : Nat} {agg : Bool} {x : Opd} {sl : List (Nat × V)} {h : A0} {n : Nat} {k : Res} : A6 P (.fld off m agg x) ⟨sl, h, n⟩ k = G3 (C3k off m agg (St.ev ⟨sl, h, n⟩ x)) k h n := rfl
@[go_sem ↓] theorem D1f {x i : Opd} {sl : List (Nat × V)} {h : A0} {n : Nat} {k : Res} : A6 P (.idx x i) ⟨sl, h, n⟩ k = B5r (St.ev ⟨sl, h, n⟩ x) (St.ev ⟨sl, h, n⟩ i) k h n := rfl
@[go_sem ↓] theorem D1c {i : Nat} {x : Opd} {sl : List (Nat × V)} {h : A0} {n : Nat} {k : Res} : A6 P (.ext i x) ⟨sl, h, n⟩ k = G3 (C3f i (St.ev ⟨sl, h, n⟩ x)) k h n := rfl
@[go_sem ↓] theorem C9l {op : BinOp} {x y : Opd} {sl : List (Nat × V)} {h : A0} {n : Nat} {k : Res} : A6 P (.binw op x y) ⟨sl, h, n⟩ k = G3 (B2j op (St.ev ⟨sl, h, n⟩ x) (St.ev ⟨sl, h, n⟩ y)) k h n := rfl
@[go_sem] theorem C9Z {j : IntKind} {a b : Int} : B2j .add (.int j a) (.int j b) = some (.int j (j.wrap (a + b))) := if_pos rfl
@[go_sem] theorem D0b {j : IntKind} {a b : Int} : B2j .sub (.int j a) (.int j b) = some (.int j (j.wrap (a - b))) := if_pos rfl
@[go_sem] theorem D0a {j : IntKind} {a b : Int} : B2j .mul (.int j a) (.int j b) = some (.int j (j.wrap (a * b))) := if_pos rfl
@[go_sem ↓] theorem D0T {op : BinOp} {x y : Opd} {sl : List (Nat × V)} {h : A0} {n : Nat} {k : Res} : A6 P (.bin op x y) ⟨sl, h, n⟩ k = S0 op (St.ev ⟨sl, h, n⟩ x) (St.ev ⟨sl, h, n⟩ y) k h n := rfl
@[go_sem ↓] theorem D1b {kind : Nat} {neg : Bool} {x y : Opd} {sl : List (Nat × V)} {h : A0} {n : Nat} {k : Res} : A6 P (.eqp kind neg x y) ⟨sl, h, n⟩ k = G3 (bif B1d kind (St.ev ⟨sl, h, n⟩ x) then B8p neg (St.ev ⟨sl, h, n⟩ x) (St.ev ⟨sl, h, n⟩ y) else none) k h n := rfl
@[go_sem ↓] theorem D0Z {neg : Bool} {t : ETy} {x y : Opd} {sl : List (Nat × V)} {h : A0} {n : Nat} {k : Res} : A6 P (.eqa neg t x y) ⟨sl, h, n⟩ k = G3 (C3d neg t (St.ev ⟨sl, h, n⟩ x) (St.ev ⟨sl, h, n⟩ y)) k h n := rfl
@[go_sem ↓] theorem C9z {x : Opd} {sl : List (Nat × V)} {h : A0} {n : Nat} {k : Res} : A6 P (.negw x) ⟨sl, h, n⟩ k = G3 (B4w (St.ev ⟨sl, h, n⟩ x)) k h n := rfl
@[go_sem] theorem D0z {j : IntKind} {a : Int} : B4w (.int j a) = some (.int j (j.wrap (0 - a))) := by rw [B4w]
@[go_sem ↓] theorem D2D {op : UnOp} {x : Opd} {sl : List (Nat × V)} {h : A0} {n : Nat} {k : Res} : A6 P (.un op x) ⟨sl, h, n⟩ k = unK op (St.ev ⟨sl, h, n⟩ x) k h n := rfl
@[go_sem ↓] theorem C7i {neg : Bool} {x : Opd} {sl : List (Nat × V)} {h : A0} {n : Nat} {k : Res} : A6 P (.isnil neg x) ⟨sl, h, n⟩ k = G3 (B2G neg (St.ev ⟨sl, h, n⟩ x)) k h n := rfl
@[go_sem ↓] theorem C9p {j : IntKind} {x : Opd} {sl : List (Nat × V)} {h : A0} {n : Nat} {k : Res} : A6 P (.conv j x) ⟨sl, h, n⟩ k = G3 (B6p j (St.ev ⟨sl, h, n⟩ x)) k h n := rfl
@[go_sem ↓] theorem D1g {kind : Nat} {x : Opd} {sl : List (Nat × V)} {h : A0} {n : Nat} {k : Res} : A6 P (.len kind x) ⟨sl, h, n⟩ k = G3 (C3A h kind (St.ev ⟨sl, h, n⟩ x)) k h n := rfl
@[go_sem ↓] theorem C9s {m : Nat} {sl : List (Nat × V)} {h : A0} {n : Nat} {k : Res} : A6 P (.lenc m) ⟨sl, h, n⟩ k = k (.int .i64 m) h n := rfl
@[go_sem ↓] theorem D2B {mx : Bool} {xs : List Opd} {sl : List (Nat × V)} {h : A0} {n : Nat} {k : Res} : A6 P (.mm mx xs) ⟨sl, h, n⟩ k = G3 (mmV mx (xs.map (St.ev ⟨sl, h, n⟩))) k h n := rfl
@[go_sem ↓] theorem D0R {nm sz : Nat} {b x : Opd} {sl : List (Nat × V)} {h : A0} {n : Nat} {k : Res} : A6 P (.app nm sz b x) ⟨sl, h, n⟩ k = A5E 137438953472 nm sz (St.ev ⟨sl, h, n⟩ b) (A1G h (St.ev ⟨sl, h, n⟩ x)) k h n := rfl
@[go_sem ↓] theorem D0Q {L nm sz : Nat} {b x : Opd} {sl : List (Nat × V)} {h : A0} {n : Nat} {k : Res} : A6 P (.apb L nm sz b x) ⟨sl, h, n⟩ k = A5E L nm sz (St.ev ⟨sl, h, n⟩ b) (A1G h (St.ev ⟨sl, h, n⟩ x)) k h n := rfl
@[go_sem ↓] theorem C9q {sz : Nat} {d x : Opd} {sl : List (Nat × V)} {h : A0} {n : Nat} {k : Res} : A6 P (.copy sz d x) ⟨sl, h, n⟩ k = A4t sz (St.ev ⟨sl, h, n⟩ d) (A1G h (St.ev ⟨sl, h, n⟩ x)) k h n := rfl
@[go_sem ↓] theorem C9x {nm : Nat} {z : List V} {x : Opd} {sl : List (Nat × V)} {h : A0} {n : Nat} {k : Res} : A6 P (.mksl nm z x) ⟨sl, h, n⟩ k = B1h nm z (St.ev ⟨sl, h, n⟩ x) k h n := rfl
@[go_sem ↓] theorem D1k {sz : Nat} {x : Opd} {lo hi : Option Opd} {sl : List (Nat × V)} {h : A0} {n : Nat} {k : Res} : A6 P (.slc sz x lo hi) ⟨sl, h, n⟩ k = A9Y sz (St.ev ⟨sl, h, n⟩ x) (lo.map (St.ev ⟨sl, h, n⟩)) (hi.map (St.ev ⟨sl, h, n⟩)) k h n := rfl
@[go_sem ↓] theorem D1l {x : Opd} {lo hi : Option Opd} {sl : List (Nat × V)} {h : A0} {n : Nat} {k : Res} : A6 P (.sls x lo hi) ⟨sl, h, n⟩ k = B1M (St.ev ⟨sl, h, n⟩ x) (lo.map (St.ev ⟨sl, h, n⟩)) (hi.map (St.ev ⟨sl, h, n⟩)) k h n := rfl
@[go_sem ↓] theorem C7o {f : FuncId} {xs : List Opd} {sl : List (Nat × V)} {h : A0} {n : Nat} {k : Res} : A6 P (.pcall f xs) ⟨sl, h, n⟩ k = A0V P f (xs.map (St.ev ⟨sl, h, n⟩)) k h n := rfl
@[congr] theorem C5H {f : FuncId} {as as' : List V} {k : Res} {h : A0} {n : Nat} (e : as = as') : A0V P f as k h n = A0V P f as' k h n := by rw [e]
@[go_sem ↓] theorem D1a {fn neg : Bool} {x : Opd} {sl : List (Nat × V)} {h : A0} {n : Nat} {k : Res} : A6 P (.eqn fn neg x) ⟨sl, h, n⟩ k = A3Z fn neg (St.ev ⟨sl, h, n⟩ x) k h n := rfl
@[congr] theorem C8b {fn neg : Bool} {x x' : V} {k : Res} {h : A0} {n : Nat} (e : x = x') : A3Z fn neg x k h n = A3Z fn neg x' k h n := by rw [e]
@[go_sem] theorem D0l {neg : Bool} {k : Res} {h : A0} {n : Nat} : A3Z false neg .nils k h n = k (.bool !neg) h n := rfl
@[go_sem] theorem D1M {neg : Bool} {es : List (List V)} {k : Res} {h : A0} {n : Nat} : A3Z false neg (.isl es) k h n = (k (.bool neg) h n ∧ (es = [] → k (.bool !neg) h n)) := rfl
@[go_sem] theorem D2S {neg : Bool} {b st i m : Nat} {k : Res} {h : A0} {n : Nat} : A3Z false neg (.sl b st i m) k h n = (k (.bool neg) h n ∧ (m = 0 → k (.bool !neg) h n)) := rfl
@[go_sem] theorem D2R {neg : Bool} {f : FuncId} {cs : List V} {k : Res} {h : A0} {n : Nat} : A3Z true neg (.fn f cs) k h n = k (.bool neg) h n := rfl
@[go_sem] theorem D0k {neg : Bool} {k : Res} {h : A0} {n : Nat} : A3Z true neg (.cst .nilFunc) k h n = k (.bool !neg) h n := rfl
@[go_sem ↓] theorem C9w {f : FuncId} {xs : List Opd} {sl : List (Nat × V)} {h : A0} {n : Nat} {k : Res} : A6 P (.mkfn f xs) ⟨sl, h, n⟩ k = k (.fn f (xs.map (St.ev ⟨sl, h, n⟩))) h n := rfl
@[go_sem ↓] theorem C7k {nm : Nat} {sl : List (Nat × V)} {h : A0} {n : Nat} {k : Res} : A6 P (.mkmap nm) ⟨sl, h, n⟩ k = k (.mp nm n) (A0.put h nm n (.map [])) (n + 1) := rfl
@[go_sem ↓] theorem C9u {kd : Nat} {z : V} {ok : Bool} {m x : Opd} {sl : List (Nat × V)} {h : A0} {n : Nat} {k : Res} : A6 P (.look kd z ok m x) ⟨sl, h, n⟩ k = A4x kd z ok (St.ev ⟨sl, h, n⟩ m) (St.ev ⟨sl, h, n⟩ x) k h n := rfl
@[go_sem ↓] theorem C9y {kd : Nat} {m x v : Opd} {sl : List (Nat × V)} {h : A0} {n : Nat} {k : Res} : A6 P (.mput kd m x v) ⟨sl, h, n⟩ k = A9v kd (St.ev ⟨sl, h, n⟩ m) (St.ev ⟨sl, h, n⟩ x) (St.ev ⟨sl, h, n⟩ v) k h n := rfl
@[go_sem ↓] theorem C9v {kd : Nat} {m x : Opd} {sl : List (Nat × V)} {h : A0} {n : Nat} {k : Res} : A6 P (.mdel kd m x) ⟨sl, h, n⟩ k = A7z kd (St.ev ⟨sl, h, n⟩ m) (St.ev ⟨sl, h, n⟩ x) k h n := rfl
@[go_sem ↓] theorem D2C {l : Bool} {x y : Opd} {sl : List (Nat × V)} {h : A0} {n : Nat} {k : Res} : A6 P (.sh l x y) ⟨sl, h, n⟩ k = shK l (St.ev ⟨sl, h, n⟩ x) (St.ev ⟨sl, h, n⟩ y) k h n := rfl
@[go_sem ↓] theorem C9r {len sz m : Nat} {agg : Bool} {x y : Opd} {sl : List (Nat × V)} {h : A0} {n : Nat} {k : Res} : A6 P (.idxA len sz m agg x y) ⟨sl, h, n⟩ k = A5O len sz m agg (St.ev ⟨sl, h, n⟩ x) (St.ev ⟨sl, h, n⟩ y) k h n := rfl
@[go_sem ↓] theorem C9o {x : Opd} {sl : List (Nat × V)} {h : A0} {n : Nat} {k : Res} : A6 P (.cap0 x) ⟨sl, h, n⟩ k = G3 (B6c (St.ev ⟨sl, h, n⟩ x)) k h n := rfl
@[go_sem] theorem C7J : B6c .nils = some (.int .i64 0) := rfl
@[go_sem ↓] theorem D1e {nm : Nat} {z : List V} {x y : Opd} {sl : List (Nat × V)} {h : A0} {n : Nat} {k : Res} : A6 P (.grw nm z x y) ⟨sl, h, n⟩ k = B5o nm z (St.ev ⟨sl, h, n⟩ x) (St.ev ⟨sl, h, n⟩ y) k h n := rfl
@[congr] theorem C8g {nm : Nat} {z : List V} {x x' y y' : V} {k : Res} {h : A0} {n : Nat} (e0 : x = x') (e1 : y = y') : B5o nm z x y k h n = B5o nm z x' y' k h n := by rw [e0, e1]
@[go_sem] theorem D0n {nm : Nat} {z : List V} {m : Int} {k : Res} {h : A0} {n : Nat} : B5o nm z .nils (.int .i64 m) k h n = (0 < m ∧ m ≤ 137438953472 ∧ k (.sl nm n 0 m.toNat) (A0.put h nm n (.rows z.length (List.replicate m.toNat z))) (n + 1)) := rfl
@[go_sem ↓] theorem D1j {nm : Nat} {x : Opd} {sl : List (Nat × V)} {h : A0} {n : Nat} {k : Res} : A6 P (.rgm nm x) ⟨sl, h, n⟩ k = B5G nm (St.ev ⟨sl, h, n⟩ x) k h n := rfl
@[congr] theorem C8O {nm : Nat} {x x' : V} {k : Res} {h : A0} {n : Nat} (e0 : x = x') : B5G nm x k h n = B5G nm x' k h n := by rw [e0]
@[go_sem] theorem D3b {nm b st : Nat} {k : Res} {h : A0} {n : Nat} : B5G nm (.mp b st) k h n = (nm ≠ b ∧ B8Y nm b st (A0.get h b st) k h n) := rfl
@[congr] theorem C8N {nm b st : Nat} {B B' : Option Blk} {k : Res} {h : A0} {n : Nat} (e0 : B = B') : B8Y nm b st B k h n = B8Y nm b st B' k h n := by rw [e0]
@[go_sem] theorem D2p {nm b st : Nat} {es : List (V × V)} {k : Res} {h : A0} {n : Nat} : B8Y nm b st (some (.map es)) k h n = ∀ (bs : List Nat) (ck : Nat), bs.length = es.length → k (.ptr nm n 0 0) (A0.put (A0.put h b st (.mapb es bs ck)) nm n (.iter st es bs ck (bs.zip es) none)) (n + 1) := rfl
@[go_sem ↓] theorem D1i {x : Opd} {sl : List (Nat × V)} {h : A0} {n : Nat} {k : Res} : A6 P (.nxm x) ⟨sl, h, n⟩ k = B5B (St.ev ⟨sl, h, n⟩ x) k h n := rfl
@[congr] theorem C8E {x x' : V} {k : Res} {h : A0} {n : Nat} (e0 : x = x') : B5B x k h n = B5B x' k h n := by rw [e0]
@[go_sem] theorem D2k {b st : Nat} {k : Res} {h : A0} {n : Nat} : B5B (.ptr b st 0 0) k h n = B8L b st (A0.get h b st) k h n := rfl
@[congr] theorem C8D {b st : Nat} {B B' : Option Blk} {k : Res} {h : A0} {n : Nat} (e0 : B = B') : B8L b st B k h n = B8L b st B' k h n := by rw [e0]
@[go_sem] theorem D0A {b st mst : Nat} {es : List (V × V)} {bs : List Nat} {ck : Nat} {left : List (Nat × V × V)} {last : Option (V × V)} {k : Res} {h : A0} {n : Nat} : B8L b st (some (.iter mst es bs ck left last)) k h n = B2Y (A0v h mst) fun mb es' bs' ck' => es' = es ∧ bs' = bs ∧ ck' = ck ∧ mb ≠ b ∧ (left = [] → k (.tup [.bool false]) (A0.put h mb mst (.map es)) n) ∧
   ∀ x e y, left = x ++ e :: y → k (.tup [.bool true, e.2.1, e.2.2]) (A0.put h b st (.iter mst es bs ck (x ++ y) (some e.2))) n := rfl
@[congr] theorem C8F {M M' : Option (Nat × Blk)} {f : Nat → List (V × V) → List Nat → Nat → Prop} (e0 : M = M') : B2Y M f = B2Y M' f := by rw [e0]
@[go_sem] theorem D0B {mb : Nat} {es : List (V × V)} {bs : List Nat} {ck : Nat} {f : Nat → List (V × V) → List Nat → Nat → Prop} : B2Y (some (mb, .mapb es bs ck)) f = f mb es bs ck := rfl
@[go_sem] theorem C5E {e : Nat × Nat × Blk} {r : A0} {st : Nat} : A0v (e :: r) st = bif Nat.beq e.2.1 st then some (e.1, e.2.2) else A0v r st := rfl
@[go_sem ↓] theorem D0Y {x : Opd} {sl : List (Nat × V)} {h : A0} {n : Nat} {k : Res} : A6 P (.ent x) ⟨sl, h, n⟩ k = B5i (St.ev ⟨sl, h, n⟩ x) k h n := rfl
@[congr] theorem C7Z {x x' : V} {k : Res} {h : A0} {n : Nat} (e0 : x = x') : B5i x k h n = B5i x' k h n := by rw [e0]
@[go_sem] theorem D1L {b st : Nat} {k : Res} {h : A0} {n : Nat} : B5i (.ptr b st 0 0) k h n = B8m (A0.get h b st) k h n := rfl
@[congr] theorem C7Y {B B' : Option Blk} {k : Res} {h : A0} {n : Nat} (e0 : B = B') : B8m B k h n = B8m B' k h n := by rw [e0]
@[go_sem] theorem D0j {mst : Nat} {es : List (V × V)} {bs : List Nat} {ck : Nat} {left : List (Nat × V × V)} {p : V × V} {k : Res} {h : A0} {n : Nat} : B8m (some (.iter mst es bs ck left (some p))) k h n = B2Y (A0v h mst) fun _ es' bs' ck' => es' = es ∧ bs' = bs ∧ ck' = ck ∧ k (.tup [p.1, p.2]) h n := rfl
@[go_sem ↓] theorem D0V {x : Opd} {sl : List (Nat × V)} {h : A0} {n : Nat} {k : Res} : A6 P (.bst x) ⟨sl, h, n⟩ k = G3 (C0x (u7 h (St.ev ⟨sl, h, n⟩ x))) k h n := rfl
@[go_sem ↓] theorem C9m {nm : Nat} {x : Opd} {sl : List (Nat × V)} {h : A0} {n : Nat} {k : Res} : A6 P (.byts nm x) ⟨sl, h, n⟩ k = A7g nm (St.ev ⟨sl, h, n⟩ x) k h n := rfl
@[go_sem ↓] theorem C7l {nm : Nat} {xs : List Opd} {sl : List (Nat × V)} {h : A0} {n : Nat} {k : Res} : A6 P (.mkraw nm xs) ⟨sl, h, n⟩ k = B8S nm (G0 1 ⟨sl, h, n⟩ xs) k h n := rfl
@[congr] theorem C8L {nm : Nat} {o o' : Option (List (List V))} {k : Res} {h : A0} {n : Nat} (e0 : o = o') : B8S nm o k h n = B8S nm o' k h n := by rw [e0]
@[go_sem] theorem D0F {nm : Nat} {rs : List (List V)} {k : Res} {h : A0} {n : Nat} : B8S nm (some rs) k h n = (0 < rs.length ∧ k (.sl nm n 0 rs.length) (A0.put h nm n (.raw rs)) (n + 1)) := rfl
@[go_sem ↓] theorem D0X {x : Opd} {sl : List (Nat × V)} {h : A0} {n : Nat} {k : Res} : A6 P (.cvr x) ⟨sl, h, n⟩ k = B5e (St.ev ⟨sl, h, n⟩ x) k h n := rfl
@[congr] theorem C7T {x x' : V} {k : Res} {h : A0} {n : Nat} (e0 : x = x') : B5e x k h n = B5e x' k h n := by rw [e0]
@[go_sem] theorem D2P {b st m : Nat} {k : Res} {h : A0} {n : Nat} : B5e (.sl b st 0 m) k h n = B8e (A0.get h b st) fun rs => m = rs.length ∧ k (.sl b st 0 m) (A0.put h b st (.rows 1 rs)) n := rfl
@[congr] theorem C7R {b b' : Option Blk} {f : List (List V) → Prop} (e0 : b = b') : B8e b f = B8e b' f := by rw [e0]
@[go_sem] theorem D1I {rs : List (List V)} {f : List (List V) → Prop} : B8e (some (.raw rs)) f = f rs := rfl
@[congr] theorem C6y {nm : Nat} {x x' : V} {k : Res} {h : A0} {n : Nat} (e0 : x = x') : A7g nm x k h n = A7g nm x' k h n := by rw [e0]
@[go_sem] theorem D0f {nm : Nat} {s : List UInt8} {k : Res} {h : A0} {n : Nat} : A7g nm (.str s) k h n = k (.sl nm n 0 s.length) (A0.put h nm n (.rows 1 (K0 s))) (n + 1) := rfl
@[go_sem] theorem C5d {s : List UInt8} : C0x (some (K0 s)) = some (.str s) := by
 have : ∀ s : List UInt8, B3S (K0 s) = some s := by
  intro s
  induction s with
  | nil => rfl
  | cons b s ih =>
   have e : K0 (b :: s) = [.int .u8 b.toNat] :: K0 s := rfl
   rw [e, B3S, ih]
   simp
 simp only [C0x, this]
@[go_sem ↓] theorem D0W {z : List V} {x : Opd} {sl : List (Nat × V)} {h : A0} {n : Nat} {k : Res} : A6 P (.clr z x) ⟨sl, h, n⟩ k = B1v z (St.ev ⟨sl, h, n⟩ x) k h n := rfl
@[go_sem ↓] theorem D1m {nm sz : Nat} {x : Opd} {sl : List (Nat × V)} {h : A0} {n : Nat} {k : Res} : A6 P (.slz nm sz x) ⟨sl, h, n⟩ k = B1N nm sz (St.ev ⟨sl, h, n⟩ x) k h n := rfl
@[congr] theorem D0M {l : Bool} {x x' y y' : V} {k : Res} {h : A0} {n : Nat} (e0 : x = x') (e1 : y = y') : shK l x y k h n = shK l x' y' k h n := by rw [e0, e1]
@[go_sem] theorem D3e {l : Bool} {j j' : IntKind} {a b : Int} {k : Res} {h : A0} {n : Nat} : shK l (.int j a) (.int j' b) k h n = (0 ≤ b ∧ k (.int j (shZ l j a b)) h n) := rfl
@[congr] theorem C6M {len sz m : Nat} {agg : Bool} {x x' y y' : V} {k : Res} {h : A0} {n : Nat} (e0 : x = x') (e1 : y = y') : A5O len sz m agg x y k h n = A5O len sz m agg x' y' k h n := by rw [e0, e1]
@[go_sem] theorem D0p {len sz m : Nat} {agg : Bool} {cs : List V} {j : IntKind} {z : Int} {k : Res} {h : A0} {n : Nat} : A5O len sz m agg (.agg cs) (.int j z) k h n = (0 ≤ z ∧ z < len ∧ G3 (J9 cs (z.toNat * sz) m agg) k h n) := rfl
@[congr] theorem C7O {z : List V} {x x' : V} {k : Res} {h : A0} {n : Nat} (e0 : x = x') : B1v z x k h n = B1v z x' k h n := by rw [e0]
@[go_sem] theorem D0h {z : List V} {k : Res} {h : A0} {n : Nat} : B1v z .nils k h n = k (.tup []) h n := rfl
@[congr] theorem C9e {nm sz : Nat} {x x' : V} {k : Res} {h : A0} {n : Nat} (e0 : x = x') : B1N nm sz x k h n = B1N nm sz x' k h n := by rw [e0]
@[go_sem] theorem D0O {nm sz : Nat} {k : Res} {h : A0} {n : Nat} : B1N nm sz .nils k h n = k (.sl nm n 0 0) (A0.put h nm n (.rows sz [])) (n + 1) := rfl
@[go_sem] theorem D2v {nm sz : Nat} {es : List (List V)} {k : Res} {h : A0} {n : Nat} : B1N nm sz (.isl es) k h n = k (.sl nm n 0 0) (A0.put h nm n (.rows sz [])) (n + 1) := rfl
@[go_sem] theorem D3g {nm sz b st i m : Nat} {k : Res} {h : A0} {n : Nat} : B1N nm sz (.sl b st i m) k h n = k (.sl nm n 0 0) (A0.put h nm n (.rows sz [])) (n + 1) := rfl
@[go_sem ↓] theorem C9n {f : FuncId} {xs : List Opd} {sl : List (Nat × V)} {h : A0} {n : Nat} {k : Res} : A6 P (.call f xs) ⟨sl, h, n⟩ k = A2 P f (xs.map (St.ev ⟨sl, h, n⟩)) h n k := rfl
@[go_sem ↓] theorem C7f {x : Opd} {xs : List Opd} {sl : List (Nat × V)} {h : A0} {n : Nat} {k : Res} : A6 P (.callv x xs) ⟨sl, h, n⟩ k = A5H P (St.ev ⟨sl, h, n⟩ x) (xs.map (St.ev ⟨sl, h, n⟩)) h n k := rfl
@[go_sem ↓] theorem D0S {sl : List (Nat × V)} {h : A0} {n : Nat} {k : Res} : A6 P (.bad) ⟨sl, h, n⟩ k = False := rfl
@[congr] theorem C8I {o o' : Option V} {k : Res} {h : A0} {n : Nat} (e0 : o = o') : G3 o k h n = G3 o' k h n := by rw [e0]
@[go_sem] theorem D2Z {v : V} {k : Res} {h : A0} {n : Nat} : G3 (some v) k h n = k v h n := rfl
@[go_sem] theorem D0E  {k : Res} {h : A0} {n : Nat} : G3 none k h n = False := rfl
@[congr] theorem C7G {nm sz : Nat} {o o' : Option (List V)} {k : Res} {h : A0} {n : Nat} (e0 : o = o') : B4Z nm sz o k h n = B4Z nm sz o' k h n := by rw [e0]
@[go_sem] theorem D0e {nm sz : Nat} {cs : List V} {k : Res} {h : A0} {n : Nat} : B4Z nm sz (some cs) k h n = (cs.length = sz ∧ k (.ptr nm n 0 0) (A0.put h nm n (.rows sz [cs])) (n + 1)) := rfl
@[congr] theorem C8T {nm sz : Nat} {o o' : Option (List (List V))} {k : Res} {h : A0} {n : Nat} (e0 : o = o') : B9b nm sz o k h n = B9b nm sz o' k h n := by rw [e0]
@[go_sem] theorem D0J {nm sz : Nat} {rs : List (List V)} {k : Res} {h : A0} {n : Nat} : B9b nm sz (some rs) k h n = k (.sl nm n 0 rs.length) (A0.put h nm n (.rows sz rs)) (n + 1) := rfl
@[congr] theorem C8o {o o' : Option (List (List V))} {k : Res} {h : A0} {n : Nat} (e0 : o = o') : B6N o k h n = B6N o' k h n := by rw [e0]
@[go_sem] theorem D0q {rs : List (List V)} {k : Res} {h : A0} {n : Nat} : B6N (some rs) k h n = k (.isl rs) h n := rfl
@[congr] theorem C6J {o o' : Option A0} {k : Res} {n : Nat} (e : o = o') : A7u o k n = A7u o' k n := by rw [e]
@[go_sem] theorem C8h {h : A0} {k : Res} {n : Nat} : A7u (some h) k n = k .undef h n := rfl
@[congr] theorem C5q {sz : Nat} {x x' i i' : V} {k : Res} {h : A0} {n : Nat} (e0 : x = x') (e1 : i = i') : A0O sz x i k h n = A0O sz x' i' k h n := by rw [e0, e1]
@[go_sem] theorem D0o {sz b st i0 m : Nat} {j : IntKind} {z : Int} {k : Res} {h : A0} {n : Nat} : A0O sz (.sl b st i0 m) (.int j z) k h n = (0 ≤ z ∧ z < m ∧ A8P (A0.get h b st) = some sz ∧ k (.ptr b st (i0 + z.toNat) 0) h n) := rfl
@[go_sem] theorem C8j {sz : Nat} {es : List (List V)} {j : IntKind} {z : Int} {k : Res} {h : A0} {n : Nat} : A0O sz (.isl es) (.int j z) k h n = (0 ≤ z ∧ z < es.length ∧ B6 es sz ∧ k (.iptr es z.toNat 0) h n) := rfl
@[go_sem] theorem C6L {sz : Nat} {i : V} {k : Res} {h : A0} {n : Nat} : A0O sz .nils i k h n = False := by cases i <;> rfl
@[congr] theorem C4R {len sz : Nat} {x x' i i' : V} {k : Res} {h : A0} {n : Nat} (e0 : x = x') (e1 : i = i') : q8 len sz x i k h n = q8 len sz x' i' k h n := by rw [e0, e1]
@[go_sem] theorem C6K {len sz b st i0 q : Nat} {j : IntKind} {z : Int} {k : Res} {h : A0} {n : Nat} : q8 len sz (.ptr b st i0 q) (.int j z) k h n = (0 ≤ z ∧ z < len ∧ k (.ptr b st i0 (q + z.toNat * sz)) h n) := rfl
@[go_sem] theorem C5p {len sz i0 q : Nat} {es : List (List V)} {j : IntKind} {z : Int} {k : Res} {h : A0} {n : Nat} : q8 len sz (.iptr es i0 q) (.int j z) k h n = (0 ≤ z ∧ z < len ∧ k (.iptr es i0 (q + z.toNat * sz)) h n) := rfl
@[congr] theorem C8l {x x' i i' : V} {k : Res} {h : A0} {n : Nat} (e0 : x = x') (e1 : i = i') : B5r x i k h n = B5r x' i' k h n := by rw [e0, e1]
@[go_sem] theorem D1X {s : List UInt8} {j : IntKind} {z : Int} {k : Res} {h : A0} {n : Nat} : B5r (.str s) (.int j z) k h n = (0 ≤ z ∧ G3 ((s[z.toNat]?).map fun b => .int .u8 b.toNat) k h n) := rfl
@[go_sem] theorem C9M {j : IntKind} {z : Int} {k : Res} {h : A0} {n : Nat} : R9 j z k h n = (inR j z ∧ k (B4Q j z) h n) := rfl
@[congr] theorem C7C {op : BinOp} {x x' y y' : V} {k : Res} {h : A0} {n : Nat} (e0 : x = x') (e1 : y = y') : S0 op x y k h n = S0 op x' y' k h n := by rw [e0, e1]
@[go_sem] theorem D1r {j j' : IntKind} {a b : Int} {k : Res} {h : A0} {n : Nat} : S0 .add (.int j a) (.int j' b) k h n = (j = j' ∧ R9 j (a + b) k h n) := rfl
@[go_sem] theorem D1C {j j' : IntKind} {a b : Int} {k : Res} {h : A0} {n : Nat} : S0 .sub (.int j a) (.int j' b) k h n = (j = j' ∧ R9 j (a - b) k h n) := rfl
@[go_sem] theorem D1y {j j' : IntKind} {a b : Int} {k : Res} {h : A0} {n : Nat} : S0 .mul (.int j a) (.int j' b) k h n = (j = j' ∧ R9 j (a * b) k h n) := rfl
@[go_sem] theorem D1A {j j' : IntKind} {a b : Int} {k : Res} {h : A0} {n : Nat} : S0 .quo (.int j a) (.int j' b) k h n = (j = j' ∧ b ≠ 0 ∧ R9 j (a.tdiv b) k h n) := rfl
@[go_sem] theorem D1B {j j' : IntKind} {a b : Int} {k : Res} {h : A0} {n : Nat} : S0 .rem (.int j a) (.int j' b) k h n = (j = j' ∧ b ≠ 0 ∧ k (.int j (a.tmod b)) h n) := rfl
@[go_sem] theorem D1t {j j' : IntKind} {a b : Int} {k : Res} {h : A0} {n : Nat} : S0 .eql (.int j a) (.int j' b) k h n = (j = j' ∧ k (.bool (decide (a = b))) h n) := rfl
@[go_sem] theorem D1z {j j' : IntKind} {a b : Int} {k : Res} {h : A0} {n : Nat} : S0 .neq (.int j a) (.int j' b) k h n = (j = j' ∧ k (.bool (decide (¬ a = b))) h n) := rfl
@[go_sem] theorem D1x {j j' : IntKind} {a b : Int} {k : Res} {h : A0} {n : Nat} : S0 .lss (.int j a) (.int j' b) k h n = (j = j' ∧ k (.bool (decide (a < b))) h n) := rfl
@[go_sem] theorem D1w {j j' : IntKind} {a b : Int} {k : Res} {h : A0} {n : Nat} : S0 .leq (.int j a) (.int j' b) k h n = (j = j' ∧ k (.bool (decide (a ≤ b))) h n) := rfl
@[go_sem] theorem D1v {j j' : IntKind} {a b : Int} {k : Res} {h : A0} {n : Nat} : S0 .gtr (.int j a) (.int j' b) k h n = (j = j' ∧ k (.bool (decide (b < a))) h n) := rfl
@[go_sem] theorem D1u {j j' : IntKind} {a b : Int} {k : Res} {h : A0} {n : Nat} : S0 .geq (.int j a) (.int j' b) k h n = (j = j' ∧ k (.bool (decide (b ≤ a))) h n) := rfl
@[go_sem] theorem D1s {j j' : IntKind} {a b : Int} {k : Res} {h : A0} {n : Nat} : S0 .and (.int j a) (.int j' b) k h n = (j = j' ∧ k (.int j (v8 .and j a b)) h n) := rfl
@[go_sem] theorem D2J {j j' : IntKind} {a b : Int} {k : Res} {h : A0} {n : Nat} : S0 .or (.int j a) (.int j' b) k h n = (j = j' ∧ k (.int j (v8 .or j a b)) h n) := rfl
@[go_sem] theorem D1D {j j' : IntKind} {a b : Int} {k : Res} {h : A0} {n : Nat} : S0 .xor (.int j a) (.int j' b) k h n = (j = j' ∧ k (.int j (v8 .xor j a b)) h n) := rfl
@[go_sem] theorem C6x {j j' : IntKind} {a b : Int} {k : Res} {h : A0} {n : Nat} : S0 .andNot (.int j a) (.int j' b) k h n = (j = j' ∧ k (.int j (v8 .andNot j a b)) h n) := rfl
@[go_sem] theorem C9W {a b : List UInt8} {k : Res} {h : A0} {n : Nat} : S0 .leq (.str a) (.str b) k h n = k (.bool (M3 a b || decide (a = b))) h n := rfl
@[go_sem] theorem C9V {a b : List UInt8} {k : Res} {h : A0} {n : Nat} : S0 .gtr (.str a) (.str b) k h n = k (.bool !(M3 a b || decide (a = b))) h n := rfl
@[go_sem] theorem C9S {a b : List UInt8} {k : Res} {h : A0} {n : Nat} : S0 .add (.str a) (.str b) k h n = (a.length + b.length ≤ 1099511627776 ∧ k (.str (a ++ b)) h n) := rfl
@[go_sem] theorem C9T {a b : List UInt8} {k : Res} {h : A0} {n : Nat} : S0 .eql (.str a) (.str b) k h n = k (.bool (decide (a = b))) h n := rfl
@[go_sem] theorem C9Y {a b : List UInt8} {k : Res} {h : A0} {n : Nat} : S0 .neq (.str a) (.str b) k h n = k (.bool (decide (¬ a = b))) h n := rfl
@[go_sem] theorem C9X {a b : List UInt8} {k : Res} {h : A0} {n : Nat} : S0 .lss (.str a) (.str b) k h n = k (.bool (M3 a b)) h n := rfl
@[go_sem] theorem C9U {a b : List UInt8} {k : Res} {h : A0} {n : Nat} : S0 .geq (.str a) (.str b) k h n = k (.bool (!M3 a b)) h n := rfl
@[congr] theorem D1n {op : UnOp} {x x' : V} {k : Res} {h : A0} {n : Nat} (e0 : x = x') : unK op x k h n = unK op x' k h n := by rw [e0]
@[go_sem] theorem D3k {j : IntKind} {a : Int} {k : Res} {h : A0} {n : Nat} : unK .neg (.int j a) k h n = R9 j (0 - a) k h n := rfl
@[go_sem] theorem D3m {j : IntKind} {a : Int} {k : Res} {h : A0} {n : Nat} : unK .xor (.int j a) k h n = k (.int j (v8 .xor j (bif j.signed then -1 else j.max) a)) h n := rfl
@[go_sem] theorem D3l {b : Bool} {k : Res} {h : A0} {n : Nat} : unK .not (.bool b) k h n = k (.bool !b) h n := rfl
def B0M (o : Option Blk) (f : Nat → List (List V) → Prop) : Prop :=
 match o with
 | some (.rows sz rs) => f sz rs
 | _ => False
def B2S (o : Option Blk) (f : List (V × V) → Prop) : Prop :=
 match o with
 | some (.map es) => f es
 | _ => False
def B7V (a b : Option Int) (f : Int → Int → Prop) : Prop :=
 match a, b with
 | some a, some b => f a b
 | _, _ => False
@[congr] theorem C5Q {o o' : Option Blk} {f : Nat → List (List V) → Prop} (e : o = o') : B0M o f = B0M o' f := by rw [e]
@[congr] theorem C6R {o o' : Option Blk} {f : List (V × V) → Prop} (e : o = o') : B2S o f = B2S o' f := by rw [e]
@[congr] theorem C7E {a a' b b' : Option Int} {f : Int → Int → Prop} (e : a = a') (e' : b = b') : B7V a b f = B7V a' b' f := by rw [e, e']
@[go_sem] theorem C7b {sz : Nat} {rs : List (List V)} {f : Nat → List (List V) → Prop} : B0M (some (.rows sz rs)) f = f sz rs := rfl
@[go_sem] theorem D0w {es : List (V × V)} {f : List (V × V) → Prop} : B2S (some (.map es)) f = f es := rfl
@[go_sem] theorem D0d {a b : Int} {f : Int → Int → Prop} : B7V (some a) (some b) f = f a b := rfl
@[congr] theorem C7u {L nm sz : Nat} {b b' : V} {o o' : Option (List (List V))} {k : Res} {h : A0} {n : Nat} (e0 : b = b') (e1 : o = o') : A5E L nm sz b o k h n = A5E L nm sz b' o' k h n := by rw [e0, e1]
@[go_sem] theorem C9L {L nm sz : Nat} {xs : List (List V)} {k : Res} {h : A0} {n : Nat} : A5E L nm sz .nils (some xs) k h n = (B6 xs sz ∧ xs.length ≤ L ∧ k (.sl nm n 0 xs.length) (A0.put h nm n (.rows sz xs)) (n + 1)) := rfl
@[go_sem] theorem D2H {L nm sz b st i m : Nat} {xs : List (List V)} {k : Res} {h : A0} {n : Nat} : A5E L nm sz (.sl b st i m) (some xs) k h n = (B6 xs sz ∧ B0M (A0.get h b st) fun sz' rs => sz' = sz ∧ i + m ≤ rs.length ∧ m + xs.length ≤ L ∧ k (.sl b n 0 (m + xs.length)) (A0.put h b n (.rows sz ((rs.drop i).take m ++ xs))) (n + 1)) := rfl
@[congr] theorem C6B {sz : Nat} {b b' : V} {o o' : Option (List (List V))} {k : Res} {h : A0} {n : Nat} (e0 : b = b') (e1 : o = o') : A4t sz b o k h n = A4t sz b' o' k h n := by rw [e0, e1]
@[go_sem] theorem C7Q {sz : Nat} {xs : List (List V)} {k : Res} {h : A0} {n : Nat} : A4t sz .nils (some xs) k h n = (B6 xs sz ∧ k (.int .i64 0) h n) := rfl
@[go_sem] theorem D1H {sz b st i m : Nat} {xs : List (List V)} {k : Res} {h : A0} {n : Nat} : A4t sz (.sl b st i m) (some xs) k h n = (B6 xs sz ∧ B0M (A0.get h b st) fun sz' rs => sz' = sz ∧ i + m ≤ rs.length ∧ k (.int .i64 (min xs.length m : Nat)) (A0.put h b st (.rows sz (rs.take i ++ xs.take (min xs.length m) ++ rs.drop (i + min xs.length m)))) n) := rfl
@[congr] theorem C6T {nm : Nat} {z : List V} {x x' : V} {k : Res} {h : A0} {n : Nat} (e0 : x = x') : B1h nm z x k h n = B1h nm z x' k h n := by rw [e0]
@[go_sem] theorem D0y {nm : Nat} {z : List V} {m : Int} {k : Res} {h : A0} {n : Nat} : B1h nm z (.int .i64 m) k h n = (0 ≤ m ∧ m ≤ 137438953472 ∧ k (.sl nm n 0 m.toNat) (A0.put h nm n (.rows z.length (List.replicate m.toNat z))) (n + 1)) := rfl
@[go_sem] theorem D2K {z : List V} {b st i m : Nat} {k : Res} {h : A0} {n : Nat} : B1v z (.sl b st i m) k h n = B0M (A0.get h b st) fun sz rs => sz = z.length ∧ i + m ≤ rs.length ∧ k (.tup []) (A0.put h b st (.rows sz (rs.take i ++ List.replicate m z ++ rs.drop (i + m)))) n := rfl
@[congr] theorem C8Z {sz : Nat} {x x' : V} {lo lo' hi hi' : Option V} {k : Res} {h : A0} {n : Nat} (e0 : x = x') (e1 : lo = lo') (e2 : hi = hi') : A9Y sz x lo hi k h n = A9Y sz x' lo' hi' k h n := by rw [e0, e1, e2]
@[go_sem] theorem D3f {sz b st i m : Nat} {lo hi : Option V} {k : Res} {h : A0} {n : Nat} : A9Y sz (.sl b st i m) lo hi k h n = B7V (E9 0 lo) (E9 m hi) fun l u => A8P (A0.get h b st) = some sz ∧ 0 ≤ l ∧ l ≤ u ∧ u ≤ m ∧ k (.sl b st (i + l.toNat) (u - l).toNat) h n := rfl
@[go_sem] theorem D2t {sz : Nat} {es : List (List V)} {lo hi : Option V} {k : Res} {h : A0} {n : Nat} : A9Y sz (.isl es) lo hi k h n = B7V (E9 0 lo) (E9 es.length hi) fun l u => B6 es sz ∧ 0 ≤ l ∧ l ≤ u ∧ u ≤ es.length ∧ k (.isl ((es.drop l.toNat).take (u - l).toNat)) h n := rfl
@[go_sem] theorem D0N {sz : Nat} {lo hi : Option V} {k : Res} {h : A0} {n : Nat} : A9Y sz .nils lo hi k h n = B7V (E9 0 lo) (E9 0 hi) fun l u => l = 0 ∧ u = 0 ∧ k .nils h n := rfl
@[congr] theorem C9c {x x' : V} {lo lo' hi hi' : Option V} {k : Res} {h : A0} {n : Nat} (e0 : x = x') (e1 : lo = lo') (e2 : hi = hi') : B1M x lo hi k h n = B1M x' lo' hi' k h n := by rw [e0, e1, e2]
@[go_sem] theorem D2u {s : List UInt8} {lo hi : Option V} {k : Res} {h : A0} {n : Nat} : B1M (.str s) lo hi k h n = B7V (E9 0 lo) (E9 s.length hi) fun l u => 0 ≤ l ∧ l ≤ u ∧ u ≤ s.length ∧ k (.str ((s.drop l.toNat).take (u - l).toNat)) h n := rfl
@[congr] theorem C6Q {kd : Nat} {z : V} {ok : Bool} {m m' x x' : V} {k : Res} {h : A0} {n : Nat} (e0 : m = m') (e1 : x = x') : A4x kd z ok m x k h n = A4x kd z ok m' x' k h n := by rw [e0, e1]
@[go_sem] theorem C8z {kd : Nat} {z : V} {ok : Bool} {x : V} {k : Res} {h : A0} {n : Nat} : A4x kd z ok .nilm x k h n = (w6 kd x = true ∧ k (A9r z ok none) h n) := rfl
def B8N (o : Option V) (f : V → Prop) (g : Prop) : Prop :=
 match o with
 | some v => f v
 | none => g
@[congr] theorem C8H {o o' : Option V} {f : V → Prop} {g : Prop} (e : o = o') : B8N o f g = B8N o' f g := by rw [e]
@[go_sem] theorem D0D {v : V} {f : V → Prop} {g : Prop} : B8N (some v) f g = f v := rfl
@[go_sem] theorem D0C {f : V → Prop} {g : Prop} : B8N none f g = g := rfl
@[go_sem] theorem D2m {α : Type} {o : Option α} {F : α → V} {f : V → Prop} {g : Prop} : B8N (o.map F) f g = ((∀ x, o = some x → f (F x)) ∧ (o = none → g)) := by
 cases o <;> simp [B8N]
@[go_sem] theorem D2d {kd b st : Nat} {z : V} {ok : Bool} {x : V} {k : Res} {h : A0} {n : Nat} : A4x kd z ok (.mp b st) x k h n = B2S (A0.get h b st) fun es => w6 kd x = true ∧ A0e x es ∧ B8N (S4 x es) (fun v => k (A9r z ok (some v)) h n) (k (A9r z ok none) h n) := by
 simp only [A4x, B2S]
 cases A0.get h b st with
 | none => rfl
 | some x =>
  cases x with
  | rows sz rs => rfl
  | map es =>
   simp only
   refine propext (and_congr_right fun _ => and_congr_right fun _ => ?_)
   cases S4 _ es <;> exact Iff.rfl
  | loop => rfl
  | mapb => rfl
  | iter => rfl
  | raw => rfl
@[congr] theorem C6U {kd : Nat} {m m' x x' v v' : V} {k : Res} {h : A0} {n : Nat} (e0 : m = m') (e1 : x = x') (e2 : v = v') : A9v kd m x v k h n = A9v kd m' x' v' k h n := by rw [e0, e1, e2]
@[go_sem] theorem D2h {kd b st : Nat} {x v : V} {k : Res} {h : A0} {n : Nat} : A9v kd (.mp b st) x v k h n = B2S (A0.get h b st) fun es => w6 kd x = true ∧ A0e x es ∧ k .undef (A0.put h b st (.map (A2M x v es))) n := rfl
@[congr] theorem C6S {kd : Nat} {m m' x x' : V} {k : Res} {h : A0} {n : Nat} (e0 : m = m') (e1 : x = x') : A7z kd m x k h n = A7z kd m' x' k h n := by rw [e0, e1]
@[go_sem] theorem C8A {kd : Nat} {x : V} {k : Res} {h : A0} {n : Nat} : A7z kd .nilm x k h n = (w6 kd x = true ∧ k (.tup []) h n) := rfl
@[go_sem] theorem D2e {kd b st : Nat} {x : V} {k : Res} {h : A0} {n : Nat} : A7z kd (.mp b st) x k h n = B2S (A0.get h b st) fun es => w6 kd x = true ∧ A0e x es ∧ k (.tup []) (A0.put h b st (.map (B8K x es))) n := rfl
@[go_sem] theorem D0g {g : FuncId} {cs as : List V} {k : Res} {h : A0} {n : Nat} : A5H P (.fn g cs) as h n k = (F0 P g = true ∧ A2 P g (as ++ cs) h n k) := rfl
@[congr] theorem C5e {x x' : V} {as as' : List V} {k : Res} {h : A0} {n : Nat} (e : x = x') (e' : as = as') : A5H P x as h n k = A5H P x' as' h n k := by rw [e, e']
@[congr] theorem C6s {f : FuncId} {as as' : List V} {k : Res} {h h' : A0} {n n' : Nat} (e : as = as') (e' : h = h') (e'' : n = n') : A2 P f as h n k = A2 P f as' h' n' k := by rw [e, e', e'']
def C5P (Q : Res) (o : Option (List V)) (h : A0) (n : Nat) : Prop :=
 match o with
 | some vs => Q (A9A vs) h n
 | none => False
@[congr] theorem C8M {Q : Res} {o o' : Option (List V)} {h : A0} {n : Nat} (e : o = o') : C5P Q o h n = C5P Q o' h n := by rw [e]
@[go_sem] theorem D0G {Q : Res} {vs : List V} {h : A0} {n : Nat} : C5P Q (some vs) h n = Q (A9A vs) h n := rfl
@[go_sem ↓] theorem D3a {N : Nat} {rs : List RV} {Q : Res} {sl : List (Nat × V)} {h : A0} {n : Nat} : C1J ⟨P, N, rs, Q, none⟩ ⟨sl, h, n⟩ = C5P Q (A4Z ⟨sl, h, n⟩ rs) h n := rfl
@[congr] theorem C6D {b b' : Bool} {A : Prop} (e : b = b') : B6F b A = B6F b' A := by rw [e]
@[go_sem] theorem C6E {A : Prop} : B6F false A = A := rfl
@[go_sem] theorem D1N {i j : Nat} {A : Prop} : B6F (Nat.beq i j) A = if i = j then False else A := by
 cases h : Nat.beq i j with
 | true => rw [if_pos (Nat.eq_of_beq_eq_true h)]; rfl
 | false => rw [if_neg fun e => by rw [e, Nat.beq_refl] at h; cases h]; rfl
@[congr] theorem C6C {o o' : Option (List AItem)} {f : List AItem → Prop} {g : Prop} (e : o = o') : B2v o f g = B2v o' f g := by rw [e]
@[go_sem] theorem C7X {l : List AItem} {f : List AItem → Prop} {g : Prop} : B2v (some l) f g = f l := rfl
@[go_sem] theorem C7W {f : List AItem → Prop} {g : Prop} : B2v none f g = g := rfl
@[go_sem ↓] theorem C8t {N : Nat} {rs : List RV} {Q : Res} {s : St} : A0Q ⟨P, N, rs, Q, none⟩ none s = C1J ⟨P, N, rs, Q, none⟩ s := rfl
@[go_sem ↓] theorem C8u {N : Nat} {rs : List RV} {Q : Res} {s : St} : A0Q ⟨P, N, rs, Q, none⟩ (some .ret) s = C1J ⟨P, N, rs, Q, none⟩ s := rfl
@[go_sem ↓] theorem C6O {N id : Nat} {rs : List RV} {Q : Res} {s : St} : A0Q ⟨P, N, rs, Q, none⟩ (some (.exit id)) s = False := rfl
def C4b (o : Option Blk) (b st : Nat) (j : Option Code) (Q : Res) (h : A0) (n : Nat) : Prop :=
 match o with
 | some (.loop N sl ps p _ _) => Q (.bool j.isNone) (A0.put h b st (.loop N sl ps p (if j.isNone then .ready else .done) j)) n
 | _ => False
@[congr] theorem C8P {o o' : Option Blk} {b st : Nat} {j : Option Code} {Q : Res} {h : A0} {n : Nat} (e : o = o') : C4b o b st j Q h n = C4b o' b st j Q h n := by rw [e]
@[go_sem ↓] theorem D0s {N b st : Nat} {rs : List RV} {Q : Res} {j : Option Code} {sl : List (Nat × V)} {h : A0} {n : Nat} : A0Q ⟨P, N, rs, Q, some (b, st)⟩ j ⟨sl, h, n⟩ = C4b (A0.get h b st) b st j Q h n := rfl
@[go_sem] theorem D2q {b st N : Nat} {sl : List (Nat × V)} {ps : List Nat} {p : Code → Code → Prop} {s : LoopState} {pd : Option Code} {Q : Res} {h : A0} {n : Nat} : C4b (some (.loop N sl ps p s pd)) b st none Q h n = Q (.bool true) (A0.put h b st (.loop N sl ps p .ready none)) n := rfl
@[go_sem] theorem D0H {b st N : Nat} {sl : List (Nat × V)} {ps : List Nat} {p : Code → Code → Prop} {s : LoopState} {pd : Option Code} {c : Code} {Q : Res} {h : A0} {n : Nat} : C4b (some (.loop N sl ps p s pd)) b st (some c) Q h n = Q (.bool false) (A0.put h b st (.loop N sl ps p .done (some c))) n := rfl
def C5a (o : Option Blk) (b st : Nat) (K : St → Prop) (sl : List (Nat × V)) (h : A0) (n : Nat) : Prop :=
 match o with
 | some (.loop N sl' ps p .ready pend) => K ⟨sl, A0.put h b st (.loop N sl' ps p .busy pend), n⟩
 | _ => False
@[congr] theorem C7z {o o' : Option Blk} {b st : Nat} {K : St → Prop} {sl : List (Nat × V)} {h : A0} {n : Nat} (e : o = o') : C5a o b st K sl h n = C5a o' b st K sl h n := by rw [e]
@[go_sem ↓] theorem D2I {N b st : Nat} {rs : List RV} {Q : Res} {K : St → Prop} {sl : List (Nat × V)} {h : A0} {n : Nat} : C7y ⟨P, N, rs, Q, some (b, st)⟩ ⟨sl, h, n⟩ K = C5a (A0.get h b st) b st K sl h n := rfl
@[go_sem] theorem C7A {b st N : Nat} {sl sl' : List (Nat × V)} {ps : List Nat} {p : Code → Code → Prop} {pd : Option Code} {K : St → Prop} {h : A0} {n : Nat} : C5a (some (.loop N sl' ps p .ready pd)) b st K sl h n = K ⟨sl, A0.put h b st (.loop N sl' ps p .busy pd), n⟩ := rfl
@[go_sem] theorem D0i {A : Prop} : D1K none A = A := rfl
@[congr] theorem C8Q {c : Cf} {nm : Nat} {v v' : V} {ps : List Nat} {x y : AC} {s : St} {K : Option Code → St → Prop} (e : v = v') : C1M c nm v ps x y s K = C1M c nm v' ps x y s K := by rw [e]
@[go_sem] theorem D3c {N nm : Nat} {rs : List RV} {Q : Res} {f : FuncId} {cs : List V} {ps : List Nat} {x y : AC} {sl : List (Nat × V)} {h : A0} {n : Nat} {K : Option Code → St → Prop} :
  C1M ⟨P, N, rs, Q, none⟩ nm (.fn f cs) ps x y ⟨sl, h, n⟩ K = (F0 P f = true ∧ A2 P f (.yld nm n :: cs) (A0.put h nm n (.loop N sl ps (Y9 P N x y) .ready none)) (n + 1) (B8Z nm n sl K)) := by
 simp [C1M]
def C4c (o : Option Blk) (K : Option Code → Prop) : Prop :=
 match o with
 | some (.loop _ _ _ _ s pend) => s ≠ .busy ∧ K pend
 | _ => False
@[congr] theorem C8R {o o' : Option Blk} {K : Option Code → Prop} (e : o = o') : C4c o K = C4c o' K := by rw [e]
@[go_sem] theorem D3d {nm st : Nat} {sl : List (Nat × V)} {K : Option Code → St → Prop} {r : V} {h : A0} {n : Nat} : B8Z nm st sl K r h n = C4c (A0.get h nm st) fun pend => K pend ⟨sl, A0.del h nm, n⟩ := by
 unfold B8Z C4c
 cases A0.get h nm st with
 | none => rfl
 | some x => cases x <;> rfl
@[go_sem] theorem D0I {N : Nat} {sl : List (Nat × V)} {ps : List Nat} {p : Code → Code → Prop} {s : LoopState} {pd : Option Code} {K : Option Code → Prop} : C4c (some (.loop N sl ps p s pd)) K = (s ≠ .busy ∧ K pd) := rfl
@[go_sem] theorem C8r {K : List AItem → St → Prop} {k : List AItem} {s : St} : B6P K k none s = K k s := rfl
@[go_sem] theorem D0r {K : List AItem → St → Prop} {k : List AItem} {s : St} : B6P K k (some .ret) s = K (.code .ret :: k) s := rfl
@[go_sem] theorem C8q {K : List AItem → St → Prop} {k : List AItem} {id : Nat} {s : St} : B6P K k (some (.exit id)) s = K (.code (.exit id) :: k) s := rfl
@[go_sem] theorem C6Z {sl : List (Nat × V)} {p : Nat} {ps : List Nat} {a : V} {as : List V} : A4h sl (p :: ps) (a :: as) = A4h (D6 sl p a) ps as := rfl
@[go_sem] theorem C8J {sl : List (Nat × V)} {as : List V} : A4h sl [] as = sl := by cases as <;> rfl
@[go_sem] theorem C7I {b st : Nat} {as : List V} {k : Res} {h : A0} {n : Nat} : A5H P (.yld b st) as h n k = Q4 P b st as h n k := rfl
@[congr] theorem C7t {b st : Nat} {as as' : List V} {k : Res} {h h' : A0} {n n' : Nat} (e : as = as') (e' : h = h') (e'' : n = n') : Q4 P b st as h n k = Q4 P b st as' h' n' k := by rw [e, e', e'']
@[congr] theorem D2F {l l' : List AI} {K : St → Prop} {s s' : St} (e' : l = l') (e : s = s') : vo P l K s = vo P l' K s' := by rw [e, e']
@[congr] theorem D1W {k k' : List AItem} {s s' : St} (e' : k = k') (e : s = s') : go c m k s = go c m k' s' := by rw [e, e']
@[congr] theorem C9K {s s' : St} (e : s = s') : Run c k s = Run c k s' := by rw [e]
@[go_sem] theorem D0K {sz : Nat} : B6 [] sz = True := by simp [B6]
@[go_sem] theorem C8X {sz : Nat} {r : List V} {rs : List (List V)} : B6 (r :: rs) sz = (r.length = sz ∧ B6 rs sz) := by simp [B6]
@[go_sem] theorem D2r {i : Nat} : C5 [] i = .undef := rfl
theorem B0o {α : Type} {i j : Nat} {a b : α} : (bif Nat.beq i j then a else b) = if i = j then a else b := by
 by_cases h : i = j
 ·subst h; simp
 ·rw [if_neg h]
  have : Nat.beq i j = false := by
   cases hb : Nat.beq i j with
   | false => rfl
   | true => exact (h (Nat.eq_of_beq_eq_true hb)).elim
  rw [this]; rfl
@[go_sem] theorem D0L {p : Nat × V} {r : List (Nat × V)} {i : Nat} : C5 (p :: r) i = if p.1 = i then p.2 else C5 r i := B0o
@[go_sem] theorem D2w {i : Nat} {v : V} : D6 [] i v = [(i, v)] := rfl
@[go_sem] theorem D0P {p : Nat × V} {r : List (Nat × V)} {i : Nat} {v : V} : D6 (p :: r) i v = if p.1 < i then (i, v) :: p :: r else if p.1 = i then (i, v) :: r else p :: D6 r i v := by
 simp only [D6]
 rw [B0o]
 by_cases h : p.1 < i
 ·rw [if_pos h, if_neg (by omega), show Nat.blt p.1 i = true from Nat.ble_eq_true_of_le h]; rfl
 ·rw [if_neg h]
  have : Nat.blt p.1 i = false := by
   cases hb : Nat.blt p.1 i with
   | false => rfl
   | true => exact (h (Nat.le_of_ble_eq_true hb)).elim
  rw [this]; rfl
attribute [go_sem] St.ev.eq_1 St.ev.eq_2 St.ev.eq_3 St.ev.eq_4 know A4Z A9A U8 A9r B1d B8p B2V B7k A0I B2A C3k C3f B6p B2G B8I C3A A1G u7 w6 S4 A2M B8K A0e E9 A8P F0
attribute [go_sem] inR B4Q C3d eqE eqE.eqFs B5j C4T mmV mm2 A0b G0 F1 A7x K0
attribute [go_sem] Option.map_some Option.map_none Option.bind_some Option.bind_none Option.getD_some Option.getD_none Option.isSome_some
attribute [go_sem] List.getElem?_cons_zero List.getElem?_cons_succ List.getElem?_nil List.length_cons List.length_nil List.drop_zero List.drop_succ_cons List.drop_nil List.take_zero List.take_succ_cons List.take_nil List.map_cons List.map_nil List.cons_append List.nil_append List.append_nil List.set_cons_zero List.set_cons_succ
attribute [go_sem] if_true if_false cond_true cond_false Bool.not_true Bool.not_false true_and and_true false_and and_false true_implies forall_const Bool.true_and Bool.and_true Bool.false_and Bool.and_false ite_true ite_false reduceIte
attribute [go_sem] Bool.not_eq_true Bool.not_eq_false decide_eq_true_eq decide_eq_false_iff_not Classical.not_not Bool.not_not decide_true decide_false Nat.zero_add Nat.add_zero ne_eq reduceCtorEq
@[go_sem] theorem D2O {α : Type} {a b : α} {p : Prop} [Decidable p] : (bif decide p then a else b) = if p then a else b := by by_cases h : p <;> simp [h]
@[go_sem] theorem D2Y {b st : Nat} : A0.get [] b st = none := rfl
@[go_sem] theorem D1V {b' st' b st : Nat} {x : Blk} {r : A0} : A0.get ((b', st', x) :: r) b st = if b' = b then (if st' = st then some x else none) else A0.get r b st := B0o
@[go_sem] theorem D3u {h : A0} {b st : Nat} {x : Blk} : A0.put h b st x = (b, st, x) :: A0.del h b := rfl
@[go_sem] theorem D2Q {b : Nat} : A0.del [] b = [] := rfl
@[go_sem] theorem D1J {b' st' b : Nat} {x : Blk} {r : A0} : A0.del ((b', st', x) :: r) b = if b' = b then A0.del r b else (b', st', x) :: A0.del r b := by
 unfold A0.del
 rw [List.filter_cons, ← B0o]
 cases Nat.beq b' b <;> simp
@[go_sem] theorem D0v {row : List V} {j n : Nat} : J9 row j n true = if j + n ≤ row.length then some (.agg ((row.drop j).take n)) else none := by
 unfold J9
 by_cases h : j + n ≤ row.length
 ·rw [if_pos h, Nat.ble_eq_true_of_le h]; rfl
 ·rw [if_neg h]
  have : Nat.ble (j + n) row.length = false := by
   cases hb : Nat.ble (j + n) row.length with
   | false => rfl
   | true => exact (h (Nat.le_of_ble_eq_true hb)).elim
  rw [this]; rfl
@[go_sem] theorem D0u {row : List V} {j n : Nat} : J9 row j n false = row[j]? := rfl
theorem C2C {α : Type} {i j : Nat} {a b : α} : (bif Nat.ble i j then a else b) = if i ≤ j then a else b := by
 by_cases h : i ≤ j
 ·rw [if_pos h, Nat.ble_eq_true_of_le h]; rfl
 ·rw [if_neg h]
  have : Nat.ble i j = false := by
   cases hb : Nat.ble i j with
   | false => rfl
   | true => exact (h (Nat.le_of_ble_eq_true hb)).elim
  rw [this]; rfl
@[go_sem] theorem C9R {α : Type} {i j k l : Nat} {a b : α} : (bif Nat.beq i j && Nat.ble k l then a else b) = if i = j then (if k ≤ l then a else b) else b := by
 rw [← B0o, ← C2C]
 cases Nat.beq i j <;> rfl
attribute [go_sem] B0o C2C
@[go_sem] theorem D3x {sl : List (Nat × V)} {h : A0} {n i : Nat} : St.ev ⟨sl, h, n⟩ (.t i) = C5 sl i := rfl
section
variable {d : Nat} {h : A0} {φ : Nat → Nat → Nat → Nat → V}
attribute [go_sem] V.sub u5 N6
theorem F9 : ∃ φ, frz d h = V.sub φ := by cases d <;> exact ⟨_, rfl⟩
@[go_sem] theorem C5n {j : IntKind} {z : Int} : frz d h (.int j z) = .int j z := by obtain ⟨φ, e⟩ := F9 (d := d) (h := h); rw [e, V.sub]
@[go_sem] theorem C3n {b : Bool} : frz d h (.bool b) = .bool b := by obtain ⟨φ, e⟩ := F9 (d := d) (h := h); rw [e, V.sub]
@[go_sem] theorem D2W {b : List UInt8} : frz d h (.str b) = .str b := by obtain ⟨φ, e⟩ := F9 (d := d) (h := h); rw [e, V.sub]
@[go_sem] theorem D0m : frz d h .undef = .undef := by obtain ⟨φ, e⟩ := F9 (d := d) (h := h); rw [e, V.sub]
@[go_sem] theorem D1T : frz d h .nilp = .nilp := by obtain ⟨φ, e⟩ := F9 (d := d) (h := h); rw [e, V.sub]
@[go_sem] theorem D2U : frz d h .err = .err := by obtain ⟨φ, e⟩ := F9 (d := d) (h := h); rw [e, V.sub]
@[go_sem] theorem D1R {k : IntKind} : frz d h (.anyi k) = .anyi k := by obtain ⟨φ, e⟩ := F9 (d := d) (h := h); rw [e, V.sub]
@[go_sem] theorem D1S : frz d h .nilm = .nilm := by obtain ⟨φ, e⟩ := F9 (d := d) (h := h); rw [e, V.sub]
@[go_sem] theorem D1U : frz d h .nils = .isl [] := by obtain ⟨φ, e⟩ := F9 (d := d) (h := h); rw [e, V.sub]
@[go_sem] theorem D2T {cs : List V} : frz d h (.agg cs) = .agg (cs.map (frz d h)) := by obtain ⟨φ, e⟩ := F9 (d := d) (h := h); rw [e, V.sub, u5]
@[go_sem] theorem D2X {cs : List V} : frz d h (.tup cs) = .tup (cs.map (frz d h)) := by obtain ⟨φ, e⟩ := F9 (d := d) (h := h); rw [e, V.sub, u5]
@[go_sem] theorem D2V {es : List (List V)} : frz d h (.isl es) = .isl (es.map fun r => r.map (frz d h)) := by obtain ⟨φ, e⟩ := F9 (d := d) (h := h); rw [e, V.sub, N6]
@[go_sem] theorem D3q {b st i n : Nat} : frz (d + 1) h (.sl b st i n) = match u7 h (.sl b st i n) with | some rs => .isl (rs.map fun r => r.map (frz d h)) | none => .undef := by rw [frz, V.sub]; rfl
end
theorem A2.pureF {f : FuncId} {xs : List V} {r : V} {h : A0} {n : Nat} {k : Res} (hp : Pure P f xs r) (has : xs.map (V.sub C0) = xs) (hk : k r h n) : A2 P f xs h n k := A2.pure hp has hk
theorem A0V.pureF {f : FuncId} {xs : List V} {r : V} {h : A0} {n : Nat} {k : Res} (hp : Pure P f xs r) (has : xs.map (V.sub C0) = xs) (hk : k r h n) : A0V P f xs k h n := ⟨r, fun _ h' => A2.pureF hp has h', hk⟩
def y7 (s : List (Nat × V)) : List (Nat × V) → Prop
 | [] => True
 | p :: r => C5 s p.1 = p.2 ∧ y7 s r
def B5w (e : Nat × Nat × Blk) : A0 → Prop
 | [] => False
 | x :: r => x = e ∨ B5w e r
def A8Q (h : A0) : A0 → Prop
 | [] => True
 | e :: r => B5w e h ∧ A8Q h r
theorem D0 {s : List (Nat × V)} : ∀ {l : List (Nat × V)}, y7 s l ↔ ∀ p ∈ l, p.2 = C5 s p.1
 | [] => by simp [y7]
 | p :: r => by simp only [y7, D0, List.forall_mem_cons]; rw [eq_comm]
theorem B7b {e : Nat × Nat × Blk} : ∀ {l : A0}, B5w e l ↔ e ∈ l
 | [] => by simp [B5w]
 | p :: r => by simp only [B5w, B7b, List.mem_cons]; rw [eq_comm]
theorem B0p {h : A0} : ∀ {l : A0}, A8Q h l ↔ ∀ p ∈ l, p ∈ h
 | [] => by simp [A8Q]
 | p :: r => by simp only [A8Q, B0p, List.forall_mem_cons, B7b]
@[go_sem] theorem D2G {s s' : St} : B7 s s' = (y7 s.sl s'.sl ∧ A8Q s.h s'.h ∧ s.n ≤ s'.n) := by
 rw [eq_iff_iff, D0, B0p]; exact Iff.rfl
@[go_sem] theorem C9a {s : List (Nat × V)} : y7 s [] = True := rfl
@[go_sem] theorem C7c {s : List (Nat × V)} {p : Nat × V} {r : List (Nat × V)} : y7 s (p :: r) = (C5 s p.1 = p.2 ∧ y7 s r) := rfl
@[go_sem] theorem D2f {e : Nat × Nat × Blk} : B5w e [] = False := rfl
@[go_sem] theorem D0x {e x : Nat × Nat × Blk} {r : A0} : B5w e (x :: r) = (x = e ∨ B5w e r) := rfl
@[go_sem] theorem D0c {h : A0} : A8Q h [] = True := rfl
@[go_sem] theorem C7D {h r : A0} {e : Nat × Nat × Blk} : A8Q h (e :: r) = (B5w e h ∧ A8Q h r) := rfl
attribute [go_sem] Prod.mk.injEq V.int.injEq V.bool.injEq V.str.injEq V.agg.injEq V.tup.injEq V.isl.injEq V.sl.injEq V.ptr.injEq V.mp.injEq V.yld.injEq Blk.loop.injEq Blk.rows.injEq List.cons.injEq
attribute [go_sem] List.length_map List.drop_zero List.take_length List.length_append List.length_cons List.length_nil List.length_set List.length_replicate
attribute [go_sem] List.cons_append List.nil_append
attribute [go_sem] true_or or_true or_false false_or Nat.le_refl false_implies implies_true forall_const
end
end Go.Abs
attribute [go_sem] Nat.reduceEqDiff Nat.reduceAdd Nat.reduceSub Nat.reduceMul Nat.reduceLeDiff Nat.reduceLT Nat.reduceBEq Int.reduceToNat Int.reduceLE Int.reduceLT Int.reduceEq Int.reduceNe Int.reduceAdd Int.reduceSub Int.reduceNeg Int.toNat_natCast Int.cast_ofNat_Int Int.natCast_zero Int.natCast_one reduceCtorEq reduceIte Nat.lt_irrefl and_self not_false_eq_true not_true_eq_false
