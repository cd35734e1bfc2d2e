/-
 The evaluator as rewrite rules. No condition.
-/
import Derived.Test.YtilggmmkmegefaaGreatDoorGo
set_option linter.unusedVariables false
set_option linter.unusedSimpArgs false
namespace Go.Abs
variable {PK : H0} {pk : Option H0}
theorem Run.unf {c : Cf} {x y : AC} {k : List AItem} {s : St} (h : x = y) (hr : Run c (.code y :: k) s) : Run c (.code x :: k) s := h ▸ hr
section
variable {c : Cf} {P : Program} {m : Nat} {k : List AItem} {s : St}
attribute [go_sem] go.eq_1 go.eq_2 go.eq_3 go.eq_4 go.eq_5 go.eq_6 go.eq_7 go.eq_8 go.eq_9 go.eq_10 go.eq_11 go.eq_12 go.eq_13 go.eq_14 go.eq_15 go.eq_16
@[go_sem] theorem C7F {K : St → Prop} : A6G P PK [] K s = True := rfl
@[go_sem] theorem C6z {l : List AI} {r : List (List AI)} {K : St → Prop} : A6G P PK (l :: r) K s = (vo P PK l K s ∧ A6G P PK r K s) := rfl
@[go_sem] theorem D1m {K : St → Prop} : vo P PK [] K s = K s := rfl
@[go_sem] theorem D1d {i : AI} {r : List AI} {K : St → Prop} : vo P PK (i :: r) K s = E9 P PK i s (vo P PK r K) := rfl
@[go_sem ↓] theorem C5S {sl : List (Nat × V)} {h : A2} {n : Nat} {d : Option Nat} {o : AO} {K : St → Prop} : E9 P PK ⟨d, none, o⟩ ⟨sl, h, n⟩ K = B0 P PK o ⟨sl, h, n⟩ (fin d sl K) := rfl
@[go_sem ↓] theorem C5k {sl : List (Nat × V)} {h : A2} {n : Nat} {d : Option Nat} {o : AO} {j : Nat} {b : Bool} {K : St → Prop} : E9 P PK ⟨d, some (j, b), o⟩ ⟨sl, h, n⟩ K = stepG (C8 sl j) b (vo P PK [⟨d, none, o⟩] K ⟨D5 sl j (.bool b), h, n⟩) (fin d (D5 sl j (.bool !b)) K (.cst Go.undef) h n) (fin d sl K (.cst Go.undef) h n) := rfl
@[congr] theorem C4l {v v' : V} {w : Bool} {A B C : Prop} (h : v = v') : stepG v w A B C = stepG v' w A B C := by rw [h]
@[congr] theorem C4n {v v' : V} {A B : Prop} (h : v = v') : A5h v A B = A5h v' A B := by rw [h]
@[go_sem] theorem D0s {A B C : Prop} : stepG (.bool true) true A B C = A := by simp [stepG]
@[go_sem] theorem C9L {A B C : Prop} : stepG (.bool false) false A B C = A := by simp [stepG]
@[go_sem] theorem C9z {A B C : Prop} : stepG (.bool true) false A B C = B := by simp [stepG]
@[go_sem] theorem C9k {A B C : Prop} : stepG (.bool false) true A B C = B := by simp [stepG]
@[go_sem] theorem D0M {w : Bool} {A B C : Prop} : stepG (.cst Go.undef) w A B C = C := by simp [stepG, A8U, Go.undef]
@[go_sem low] theorem D0S {b : Bool} {A B C : Prop} : stepG (.bool b) true A B C = ((b = true → A) ∧ (b = false → B)) := rfl
@[go_sem low] theorem D0C {b : Bool} {A B C : Prop} : stepG (.bool b) false A B C = ((b = false → A) ∧ (b = true → B)) := rfl
@[go_sem] theorem D1i {A B : Prop} : A5h (.bool true) A B = A := by simp [A5h]
@[go_sem] theorem D1c {A B : Prop} : A5h (.bool false) A B = B := by simp [A5h]
@[go_sem low] theorem D0K {b : Bool} {A B : Prop} : A5h (.bool b) A B = ((b = true → A) ∧ (b = false → B)) := rfl
@[go_sem ↓] theorem C9p {d : Nat} {sl : List (Nat × V)} {K : St → Prop} {r : V} {h : A2} {n : Nat} : fin (some d) sl K r h n = K ⟨D5 sl d r, h, n⟩ := rfl
@[go_sem ↓] theorem D0y {sl : List (Nat × V)} {K : St → Prop} {r : V} {h : A2} {n : Nat} : fin none sl K r h n = K ⟨sl, h, n⟩ := rfl
@[go_sem ↓] theorem C7T {x : Opd} {sl : List (Nat × V)} {h : A2} {n : Nat} {k : Res} : B0 P PK (.mov x) ⟨sl, h, n⟩ k = k (St.ev ⟨sl, h, n⟩ x) h n := rfl
@[go_sem ↓] theorem C5X {c a b : Opd} {sl : List (Nat × V)} {h : A2} {n : Nat} {k : Res} : B0 P PK (.pick c a b) ⟨sl, h, n⟩ k = E6 (B6p (St.ev ⟨sl, h, n⟩ c) (St.ev ⟨sl, h, n⟩ a) (St.ev ⟨sl, h, n⟩ b)) k h n := rfl
@[go_sem ↓] theorem C4W {x : Opd} {sl : List (Nat × V)} {h : A2} {n : Nat} {k : Res} : B0 P PK (.nilck x) ⟨sl, h, n⟩ k = E6 (B1E (St.ev ⟨sl, h, n⟩ x)) k h n := rfl
@[go_sem ↓] theorem C8d {nm sz : Nat} {x : Opd} {sl : List (Nat × V)} {h : A2} {n : Nat} {k : Res} : B0 P PK (.box nm sz x) ⟨sl, h, n⟩ k = B4n nm sz (U3 (St.ev ⟨sl, h, n⟩ x)) k h n := rfl
@[go_sem ↓] theorem C4s {z : List V} {ps : List (Nat × Nat × Opd)} {sl : List (Nat × V)} {h : A2} {n : Nat} {k : Res} : B0 P PK (.build z ps) ⟨sl, h, n⟩ k = E6 ((w8 ⟨sl, h, n⟩ z ps).map .agg) k h n := rfl
@[go_sem ↓] theorem C4p {nm sz : Nat} {xs : List Opd} {sl : List (Nat × V)} {h : A2} {n : Nat} {k : Res} : B0 P PK (.mkrow nm sz xs) ⟨sl, h, n⟩ k = B6V nm sz (F8 sz ⟨sl, h, n⟩ xs) k h n := rfl
@[go_sem ↓] theorem C4f {sz : Nat} {xs : List Opd} {sl : List (Nat × V)} {h : A2} {n : Nat} {k : Res} : B0 P PK (.mkisl sz xs) ⟨sl, h, n⟩ k = B5i (F8 sz ⟨sl, h, n⟩ xs) k h n := rfl
def k9 (rs : List (List V)) (i : Nat) (f : List V → Prop) : Prop :=
 match rs[i]? with
 | some row => f row
 | none => False
def A8c (b : Option Blk) (f : Nat → List (List V) → Prop) : Prop :=
 match b with
 | some (.rows sz rs) => f sz rs
 | _ => False
def B1t (h0 : A2) (x : V) (m : Nat) (agg : Bool) (k : Res) (h : A2) (n : Nat) : Prop := E6 (P5 h0 x m agg) k h n
def A9k (h0 : A2) (x : V) (cs : Option (List V)) (m : Nat) (k : Res) (n : Nat) : Prop :=
 match x with
 | .ptr b st i j => A6Z (B0o h0 b st i j m (A2.get h0 b st) cs) k n
 | _ => False
@[congr] theorem C4M {rs rs' : List (List V)} {i i' : Nat} {f : List V → Prop} (e0 : rs = rs') (e1 : i = i') : k9 rs i f = k9 rs' i' f := by rw [e0, e1]
@[congr] theorem C4J {b b' : Option Blk} {f : Nat → List (List V) → Prop} (e0 : b = b') : A8c b f = A8c b' f := by rw [e0]
@[congr] theorem C5d {h0 : A2} {x x' : V} {m : Nat} {agg : Bool} {k : Res} {h : A2} {n : Nat} (e : x = x') : B1t h0 x m agg k h n = B1t h0 x' m agg k h n := by rw [e]
@[congr] theorem C2E {h0 : A2} {x x' : V} {cs cs' : Option (List V)} {m : Nat} {k : Res} {n : Nat} (e : x = x') (e1 : cs = cs') : A9k h0 x cs m k n = A9k h0 x' cs' m k n := by rw [e, e1]
@[go_sem ↓] theorem C5J {m : Nat} {agg : Bool} {x : Opd} {sl : List (Nat × V)} {h : A2} {n : Nat} {k : Res} : B0 P PK (.load m agg x) ⟨sl, h, n⟩ k = B1t h (St.ev ⟨sl, h, n⟩ x) m agg k h n := rfl
@[go_sem ↓] theorem C4u {m : Nat} {x v : Opd} {sl : List (Nat × V)} {h : A2} {n : Nat} {k : Res} : B0 P PK (.store m x v) ⟨sl, h, n⟩ k = A9k h (St.ev ⟨sl, h, n⟩ x) (U3 (St.ev ⟨sl, h, n⟩ v)) m k n := by
 simp only [B0, A9k, B1v]
 cases St.ev ⟨sl, h, n⟩ x <;> rfl
@[go_sem] theorem C8y {h0 : A2} {b st i j m : Nat} {agg : Bool} {k : Res} {h : A2} {n : Nat} : B1t h0 (.ptr b st i j) m agg k h n = A8c (A2.get h0 b st) fun _ rs => k9 rs i fun row => E6 (F5 row j m agg) k h n := by
 simp only [B1t, P5, A8c, k9]
 cases A2.get h0 b st with
 | none => rfl
 | some x =>
  cases x with
  | rows sz rs => simp only; cases rs[i]? <;> rfl
  | map es => rfl
  | loop => rfl
  | mapb => rfl
  | iter => rfl
  | raw => rfl
@[go_sem] theorem C5G {h0 : A2} {es : List (List V)} {i j m : Nat} {agg : Bool} {k : Res} {h : A2} {n : Nat} : B1t h0 (.iptr es i j) m agg k h n = k9 es i fun row => E6 (F5 row j m agg) k h n := by
 simp only [B1t, P5, k9]
 cases es[i]? <;> rfl
@[go_sem] theorem C5Y {h0 : A2} {b st i j m : Nat} {cs : List V} {k : Res} {n : Nat} : A9k h0 (.ptr b st i j) (some cs) m k n =
  A8c (A2.get h0 b st) fun sz rs => k9 rs i fun row => cs.length = m ∧ j + m ≤ row.length ∧ k .undef (A2.put h0 b st (.rows sz (rs.set i (I4 row j cs)))) n := by
 simp only [A9k, B0o, A8c, k9]
 cases A2.get h0 b st with
 | none => rfl
 | some x =>
  cases x with
  | map es => rfl
  | loop => rfl
  | mapb => rfl
  | iter => rfl
  | raw => rfl
  | rows sz rs =>
   simp only
   cases rs[i]? with
   | none => rfl
   | some row =>
    simp only
    by_cases h1 : cs.length = m
    ·by_cases h2 : j + m ≤ row.length
     ·rw [h1, Nat.beq_refl, Nat.ble_eq_true_of_le h2]; simp [A6Z, h2]
     ·have : Nat.ble (j + m) row.length = false := by
       cases hb : Nat.ble (j + m) row.length with
       | false => rfl
       | true => exact (h2 (Nat.le_of_ble_eq_true hb)).elim
      rw [this]; simp [A6Z, h2]
    ·have : Nat.beq cs.length m = false := by
      cases hb : Nat.beq cs.length m with
      | false => rfl
      | true => exact (h1 (Nat.eq_of_beq_eq_true hb)).elim
     rw [this]; simp [A6Z, h1]
@[go_sem] theorem C6l {sz : Nat} {rs : List (List V)} {f : Nat → List (List V) → Prop} : A8c (some (.rows sz rs)) f = f sz rs := rfl
@[go_sem] theorem C6s {f : Nat → List (List V) → Prop} : A8c none f = False := rfl
@[go_sem] theorem C7X {es : List (V × V)} {f : Nat → List (List V) → Prop} : A8c (some (.map es)) f = False := rfl
@[go_sem high] theorem C8Z {i : Nat} {f : List V → Prop} : k9 [] i f = False := by simp [k9]
@[go_sem high] theorem C6K {r : List V} {rs : List (List V)} {f : List V → Prop} : k9 (r :: rs) 0 f = f r := rfl
theorem B4Y {rs : List (List V)} {i : Nat} {f : List V → Prop} : k9 rs i f = (i < rs.length ∧ ∀ row, rs[i]? = some row → f row) := by
 unfold k9
 cases h : rs[i]? with
 | none =>
  have := List.getElem?_eq_none_iff.1 h
  simp; omega
 | some row =>
  have := (List.getElem?_eq_some_iff.1 h).1
  simp [this]
@[go_sem low] theorem C7I {rs : List (List V)} {i : Nat} {f : List V → Prop} : k9 rs i f = (i < rs.length ∧ ∀ row, rs[i]? = some row → f row) := B4Y
@[go_sem] theorem C9i {α : Type} {xs : List α} {F : α → List V} {i : Nat} {f : List V → Prop} : k9 (xs.map F) i f = (i < xs.length ∧ ∀ x, xs[i]? = some x → f (F x)) := by
 rw [B4Y, List.length_map]
 refine propext (and_congr_right fun _ => ?_)
 rw [List.getElem?_map]
 constructor
 ·intro h x hx; exact h _ (by rw [hx]; rfl)
 ·intro h row hr
  rw [Option.map_eq_some_iff] at hr
  obtain ⟨x, hx, rfl⟩ := hr
  exact h x hx
@[go_sem] theorem C2D {α : Type} {xs : List α} {F : α → List V} : (xs.map F).take xs.length = xs.map F := by
 rw [List.take_of_length_le]; simp
@[go_sem ↓] theorem C4z {off : Nat} {x : Opd} {sl : List (Nat × V)} {h : A2} {n : Nat} {k : Res} : B0 P PK (.faddr off x) ⟨sl, h, n⟩ k = E6 (B0E off (St.ev ⟨sl, h, n⟩ x)) k h n := rfl
@[go_sem ↓] theorem C4H {sz : Nat} {x i : Opd} {sl : List (Nat × V)} {h : A2} {n : Nat} {k : Res} : B0 P PK (.iaddr sz x i) ⟨sl, h, n⟩ k = A1b sz (St.ev ⟨sl, h, n⟩ x) (St.ev ⟨sl, h, n⟩ i) k h n := rfl
@[go_sem ↓] theorem C3N {len sz : Nat} {x i : Opd} {sl : List (Nat × V)} {h : A2} {n : Nat} {k : Res} : B0 P PK (.iaddrA len sz x i) ⟨sl, h, n⟩ k = j6 len sz (St.ev ⟨sl, h, n⟩ x) (St.ev ⟨sl, h, n⟩ i) k h n := rfl
@[go_sem ↓] theorem C8m {off m : Nat} {agg : Bool} {x : Opd} {sl : List (Nat × V)} {h : A2} {n : Nat} {k : Res} : B0 P PK (.fld off m agg x) ⟨sl, h, n⟩ k = E6 (C1C off m agg (St.ev ⟨sl, h, n⟩ x)) k h n := rfl
@[go_sem ↓] theorem C8U {x i : Opd} {sl : List (Nat × V)} {h : A2} {n : Nat} {k : Res} : B0 P PK (.idx x i) ⟨sl, h, n⟩ k = B4m (St.ev ⟨sl, h, n⟩ x) (St.ev ⟨sl, h, n⟩ i) k h n := rfl
@[go_sem ↓] theorem C9g {i : Nat} {x : Opd} {sl : List (Nat × V)} {h : A2} {n : Nat} {k : Res} : B0 P PK (.ext i x) ⟨sl, h, n⟩ k = E6 (C0Z i (St.ev ⟨sl, h, n⟩ x)) k h n := rfl
@[go_sem ↓] theorem C5l {op : BinOp} {x y : Opd} {sl : List (Nat × V)} {h : A2} {n : Nat} {k : Res} : B0 P PK (.binw op x y) ⟨sl, h, n⟩ k = E6 (B1m op (St.ev ⟨sl, h, n⟩ x) (St.ev ⟨sl, h, n⟩ y)) k h n := rfl
@[go_sem] theorem C8E {j : IntKind} {a b : Int} : B1m .add (.int j a) (.int j b) = some (.int j (j.wrap (a + b))) := if_pos rfl
@[go_sem] theorem C7C {j : IntKind} {a b : Int} : B1m .sub (.int j a) (.int j b) = some (.int j (j.wrap (a - b))) := if_pos rfl
@[go_sem] theorem C7V {j : IntKind} {a b : Int} : B1m .mul (.int j a) (.int j b) = some (.int j (j.wrap (a * b))) := if_pos rfl
@[go_sem ↓] theorem C7J {op : BinOp} {x y : Opd} {sl : List (Nat × V)} {h : A2} {n : Nat} {k : Res} : B0 P PK (.bin op x y) ⟨sl, h, n⟩ k = P9 op (St.ev ⟨sl, h, n⟩ x) (St.ev ⟨sl, h, n⟩ y) k h n := rfl
@[go_sem ↓] theorem C8e {kind : Nat} {neg : Bool} {x y : Opd} {sl : List (Nat × V)} {h : A2} {n : Nat} {k : Res} : B0 P PK (.eqp kind neg x y) ⟨sl, h, n⟩ k = E6 (bif A9F kind (St.ev ⟨sl, h, n⟩ x) then B7e neg (St.ev ⟨sl, h, n⟩ x) (St.ev ⟨sl, h, n⟩ y) else none) k h n := rfl
@[go_sem ↓] theorem C8f {neg : Bool} {t : ETy} {x y : Opd} {sl : List (Nat × V)} {h : A2} {n : Nat} {k : Res} : B0 P PK (.eqa neg t x y) ⟨sl, h, n⟩ k = E6 (C1P neg t (St.ev ⟨sl, h, n⟩ x) (St.ev ⟨sl, h, n⟩ y)) k h n := rfl
@[go_sem ↓] theorem C5Q {x : Opd} {sl : List (Nat × V)} {h : A2} {n : Nat} {k : Res} : B0 P PK (.negw x) ⟨sl, h, n⟩ k = E6 (B2T (St.ev ⟨sl, h, n⟩ x)) k h n := rfl
@[go_sem] theorem C8b {j : IntKind} {a : Int} : B2T (.int j a) = some (.int j (j.wrap (0 - a))) := by rw [B2T]
@[go_sem ↓] theorem C9Z {op : UnOp} {x : Opd} {sl : List (Nat × V)} {h : A2} {n : Nat} {k : Res} : B0 P PK (.un op x) ⟨sl, h, n⟩ k = unK op (St.ev ⟨sl, h, n⟩ x) k h n := rfl
@[go_sem ↓] theorem C4j {neg : Bool} {x : Opd} {sl : List (Nat × V)} {h : A2} {n : Nat} {k : Res} : B0 P PK (.isnil neg x) ⟨sl, h, n⟩ k = E6 (B0X neg (St.ev ⟨sl, h, n⟩ x)) k h n := rfl
@[go_sem ↓] theorem C5M {j : IntKind} {x : Opd} {sl : List (Nat × V)} {h : A2} {n : Nat} {k : Res} : B0 P PK (.conv j x) ⟨sl, h, n⟩ k = E6 (B5e j (St.ev ⟨sl, h, n⟩ x)) k h n := rfl
@[go_sem ↓] theorem C9d {kind : Nat} {x : Opd} {sl : List (Nat × V)} {h : A2} {n : Nat} {k : Res} : B0 P PK (.len kind x) ⟨sl, h, n⟩ k = E6 (C2m h kind (St.ev ⟨sl, h, n⟩ x)) k h n := rfl
@[go_sem ↓] theorem C7g {m : Nat} {sl : List (Nat × V)} {h : A2} {n : Nat} {k : Res} : B0 P PK (.lenc m) ⟨sl, h, n⟩ k = k (.int .i64 m) h n := rfl
@[go_sem ↓] theorem C9A {mx : Bool} {xs : List Opd} {sl : List (Nat × V)} {h : A2} {n : Nat} {k : Res} : B0 P PK (.mm mx xs) ⟨sl, h, n⟩ k = E6 (mmV mx (xs.map (St.ev ⟨sl, h, n⟩))) k h n := rfl
@[go_sem ↓] theorem C8x {nm sz : Nat} {b x : Opd} {sl : List (Nat × V)} {h : A2} {n : Nat} {k : Res} : B0 P PK (.app nm sz b x) ⟨sl, h, n⟩ k = A5L 137438953472 nm sz (St.ev ⟨sl, h, n⟩ b) (A1c h (St.ev ⟨sl, h, n⟩ x)) k h n := rfl
@[go_sem ↓] theorem C8p {L nm sz : Nat} {b x : Opd} {sl : List (Nat × V)} {h : A2} {n : Nat} {k : Res} : B0 P PK (.apb L nm sz b x) ⟨sl, h, n⟩ k = A5L L nm sz (St.ev ⟨sl, h, n⟩ b) (A1c h (St.ev ⟨sl, h, n⟩ x)) k h n := rfl
@[go_sem ↓] theorem C7w {sz : Nat} {d x : Opd} {sl : List (Nat × V)} {h : A2} {n : Nat} {k : Res} : B0 P PK (.copy sz d x) ⟨sl, h, n⟩ k = A4I sz (St.ev ⟨sl, h, n⟩ d) (A1c h (St.ev ⟨sl, h, n⟩ x)) k h n := rfl
@[go_sem ↓] theorem C5u {nm : Nat} {z : List V} {x : Opd} {sl : List (Nat × V)} {h : A2} {n : Nat} {k : Res} : B0 P PK (.mksl nm z x) ⟨sl, h, n⟩ k = B0a nm z (St.ev ⟨sl, h, n⟩ x) k h n := rfl
@[go_sem ↓] theorem C9c {sz : Nat} {x : Opd} {lo hi : Option Opd} {sl : List (Nat × V)} {h : A2} {n : Nat} {k : Res} : B0 P PK (.slc sz x lo hi) ⟨sl, h, n⟩ k = A7V sz (St.ev ⟨sl, h, n⟩ x) (lo.map (St.ev ⟨sl, h, n⟩)) (hi.map (St.ev ⟨sl, h, n⟩)) k h n := rfl
@[go_sem ↓] theorem C8h {x : Opd} {lo hi : Option Opd} {sl : List (Nat × V)} {h : A2} {n : Nat} {k : Res} : B0 P PK (.sls x lo hi) ⟨sl, h, n⟩ k = B0h (St.ev ⟨sl, h, n⟩ x) (lo.map (St.ev ⟨sl, h, n⟩)) (hi.map (St.ev ⟨sl, h, n⟩)) k h n := rfl
@[go_sem ↓] theorem C4T {f : FuncId} {xs : List Opd} {sl : List (Nat × V)} {h : A2} {n : Nat} {k : Res} : B0 P PK (.pcall f xs) ⟨sl, h, n⟩ k = A0v P f (xs.map (St.ev ⟨sl, h, n⟩)) k h n := rfl
@[congr] theorem C3O {f : FuncId} {as as' : List V} {k : Res} {h : A2} {n : Nat} (e : as = as') : A0v P f as k h n = A0v P f as' k h n := by rw [e]
@[go_sem ↓] theorem C8o {fn neg : Bool} {x : Opd} {sl : List (Nat × V)} {h : A2} {n : Nat} {k : Res} : B0 P PK (.eqn fn neg x) ⟨sl, h, n⟩ k = A3C fn neg (St.ev ⟨sl, h, n⟩ x) k h n := rfl
@[congr] theorem C5v {fn neg : Bool} {x x' : V} {k : Res} {h : A2} {n : Nat} (e : x = x') : A3C fn neg x k h n = A3C fn neg x' k h n := by rw [e]
@[go_sem] theorem C9b {neg : Bool} {k : Res} {h : A2} {n : Nat} : A3C false neg .nils k h n = k (.bool !neg) h n := rfl
@[go_sem] theorem C9y {neg : Bool} {es : List (List V)} {k : Res} {h : A2} {n : Nat} : A3C false neg (.isl es) k h n = (k (.bool neg) h n ∧ (es = [] → k (.bool !neg) h n)) := rfl
@[go_sem] theorem D0O {neg : Bool} {b st i m : Nat} {k : Res} {h : A2} {n : Nat} : A3C false neg (.sl b st i m) k h n = (k (.bool neg) h n ∧ (m = 0 → k (.bool !neg) h n)) := rfl
@[go_sem] theorem D0Q {neg : Bool} {f : FuncId} {cs : List V} {k : Res} {h : A2} {n : Nat} : A3C true neg (.fn f cs) k h n = k (.bool neg) h n := rfl
@[go_sem] theorem C8k {neg : Bool} {k : Res} {h : A2} {n : Nat} : A3C true neg (.cst .nilFunc) k h n = k (.bool !neg) h n := rfl
@[go_sem ↓] theorem C7a {f : FuncId} {xs : List Opd} {sl : List (Nat × V)} {h : A2} {n : Nat} {k : Res} : B0 P PK (.mkfn f xs) ⟨sl, h, n⟩ k = k (.fn f (xs.map (St.ev ⟨sl, h, n⟩))) h n := rfl
@[go_sem ↓] theorem C4v {nm : Nat} {sl : List (Nat × V)} {h : A2} {n : Nat} {k : Res} : B0 P PK (.mkmap nm) ⟨sl, h, n⟩ k = k (.mp nm n) (A2.put h nm n (.map [])) (n + 1) := rfl
@[go_sem ↓] theorem C5o {kd : Nat} {z : V} {ok : Bool} {m x : Opd} {sl : List (Nat × V)} {h : A2} {n : Nat} {k : Res} : B0 P PK (.look kd z ok m x) ⟨sl, h, n⟩ k = A4x kd z ok (St.ev ⟨sl, h, n⟩ m) (St.ev ⟨sl, h, n⟩ x) k h n := rfl
@[go_sem ↓] theorem C6i {kd : Nat} {m x v : Opd} {sl : List (Nat × V)} {h : A2} {n : Nat} {k : Res} : B0 P PK (.mput kd m x v) ⟨sl, h, n⟩ k = A8m kd (St.ev ⟨sl, h, n⟩ m) (St.ev ⟨sl, h, n⟩ x) (St.ev ⟨sl, h, n⟩ v) k h n := rfl
@[go_sem ↓] theorem C7e {kd : Nat} {m x : Opd} {sl : List (Nat × V)} {h : A2} {n : Nat} {k : Res} : B0 P PK (.mdel kd m x) ⟨sl, h, n⟩ k = A6V kd (St.ev ⟨sl, h, n⟩ m) (St.ev ⟨sl, h, n⟩ x) k h n := rfl
@[go_sem ↓] theorem C9V {l : Bool} {x y : Opd} {sl : List (Nat × V)} {h : A2} {n : Nat} {k : Res} : B0 P PK (.sh l x y) ⟨sl, h, n⟩ k = shK l (St.ev ⟨sl, h, n⟩ x) (St.ev ⟨sl, h, n⟩ y) k h n := rfl
@[go_sem ↓] theorem C5n {len sz m : Nat} {agg : Bool} {x y : Opd} {sl : List (Nat × V)} {h : A2} {n : Nat} {k : Res} : B0 P PK (.idxA len sz m agg x y) ⟨sl, h, n⟩ k = A5G len sz m agg (St.ev ⟨sl, h, n⟩ x) (St.ev ⟨sl, h, n⟩ y) k h n := rfl
@[go_sem ↓] theorem C6I {x : Opd} {sl : List (Nat × V)} {h : A2} {n : Nat} {k : Res} : B0 P PK (.cap0 x) ⟨sl, h, n⟩ k = E6 (B5u (St.ev ⟨sl, h, n⟩ x)) k h n := rfl
@[go_sem] theorem C5T : B5u .nils = some (.int .i64 0) := rfl
@[go_sem ↓] theorem C8j {nm : Nat} {z : List V} {x y : Opd} {sl : List (Nat × V)} {h : A2} {n : Nat} {k : Res} : B0 P PK (.grw nm z x y) ⟨sl, h, n⟩ k = B3A nm z (St.ev ⟨sl, h, n⟩ x) (St.ev ⟨sl, h, n⟩ y) k h n := rfl
@[congr] theorem C5s {nm : Nat} {z : List V} {x x' y y' : V} {k : Res} {h : A2} {n : Nat} (e0 : x = x') (e1 : y = y') : B3A nm z x y k h n = B3A nm z x' y' k h n := by rw [e0, e1]
@[go_sem] theorem C8X {nm : Nat} {z : List V} {m : Int} {k : Res} {h : A2} {n : Nat} : B3A nm z .nils (.int .i64 m) k h n = (0 < m ∧ m ≤ 137438953472 ∧ k (.sl nm n 0 m.toNat) (A2.put h nm n (.rows z.length (List.replicate m.toNat z))) (n + 1)) := rfl
@[go_sem ↓] theorem C8D {nm : Nat} {x : Opd} {sl : List (Nat × V)} {h : A2} {n : Nat} {k : Res} : B0 P PK (.rgm nm x) ⟨sl, h, n⟩ k = B3I nm (St.ev ⟨sl, h, n⟩ x) k h n := rfl
@[congr] theorem C6H {nm : Nat} {x x' : V} {k : Res} {h : A2} {n : Nat} (e0 : x = x') : B3I nm x k h n = B3I nm x' k h n := by rw [e0]
@[go_sem] theorem D0G {nm b st : Nat} {k : Res} {h : A2} {n : Nat} : B3I nm (.mp b st) k h n = (nm ≠ b ∧ B7R nm b st (A2.get h b st) k h n) := rfl
@[congr] theorem C7u {nm b st : Nat} {B B' : Option Blk} {k : Res} {h : A2} {n : Nat} (e0 : B = B') : B7R nm b st B k h n = B7R nm b st B' k h n := by rw [e0]
@[go_sem] theorem C9S {nm b st : Nat} {es : List (V × V)} {k : Res} {h : A2} {n : Nat} : B7R nm b st (some (.map es)) k h n = ∀ (bs : List Nat) (ck : Nat), bs.length = es.length → k (.ptr nm n 0 0) (A2.put (A2.put h b st (.mapb es bs ck)) nm n (.iter st es bs ck (bs.zip es) none)) (n + 1) := rfl
@[go_sem ↓] theorem C7D {x : Opd} {sl : List (Nat × V)} {h : A2} {n : Nat} {k : Res} : B0 P PK (.nxm x) ⟨sl, h, n⟩ k = B4s (St.ev ⟨sl, h, n⟩ x) k h n := rfl
@[congr] theorem C5j {x x' : V} {k : Res} {h : A2} {n : Nat} (e0 : x = x') : B4s x k h n = B4s x' k h n := by rw [e0]
@[go_sem] theorem D0a {b st : Nat} {k : Res} {h : A2} {n : Nat} : B4s (.ptr b st 0 0) k h n = B6R b st (A2.get h b st) k h n := rfl
@[congr] theorem C5h {b st : Nat} {B B' : Option Blk} {k : Res} {h : A2} {n : Nat} (e0 : B = B') : B6R b st B k h n = B6R b st B' k h n := by rw [e0]
@[go_sem] theorem C7M {b st mst : Nat} {es : List (V × V)} {bs : List Nat} {ck : Nat} {left : List (Nat × V × V)} {last : Option (V × V)} {k : Res} {h : A2} {n : Nat} : B6R b st (some (.iter mst es bs ck left last)) k h n = B0R (A0i h mst) fun mb es' bs' ck' => es' = es ∧ bs' = bs ∧ ck' = ck ∧ mb ≠ b ∧ (left = [] → k (.tup [.bool false]) (A2.put h mb mst (.map es)) n) ∧
   ∀ x e y, left = x ++ e :: y → k (.tup [.bool true, e.2.1, e.2.2]) (A2.put h b st (.iter mst es bs ck (x ++ y) (some e.2))) n := rfl
@[congr] theorem C7d {M M' : Option (Nat × Blk)} {f : Nat → List (V × V) → List Nat → Nat → Prop} (e0 : M = M') : B0R M f = B0R M' f := by rw [e0]
@[go_sem] theorem C8H {mb : Nat} {es : List (V × V)} {bs : List Nat} {ck : Nat} {f : Nat → List (V × V) → List Nat → Nat → Prop} : B0R (some (mb, .mapb es bs ck)) f = f mb es bs ck := rfl
@[go_sem] theorem C2W {e : Nat × Nat × Blk} {r : A2} {st : Nat} : A0i (e :: r) st = bif Nat.beq e.2.1 st then some (e.1, e.2.2) else A0i r st := rfl
@[go_sem ↓] theorem C8w {x : Opd} {sl : List (Nat × V)} {h : A2} {n : Nat} {k : Res} : B0 P PK (.ent x) ⟨sl, h, n⟩ k = B3L (St.ev ⟨sl, h, n⟩ x) k h n := rfl
@[congr] theorem C6U {x x' : V} {k : Res} {h : A2} {n : Nat} (e0 : x = x') : B3L x k h n = B3L x' k h n := by rw [e0]
@[go_sem] theorem C9B {b st : Nat} {k : Res} {h : A2} {n : Nat} : B3L (.ptr b st 0 0) k h n = B7h (A2.get h b st) k h n := rfl
@[congr] theorem C7b {B B' : Option Blk} {k : Res} {h : A2} {n : Nat} (e0 : B = B') : B7h B k h n = B7h B' k h n := by rw [e0]
@[go_sem] theorem C8A {mst : Nat} {es : List (V × V)} {bs : List Nat} {ck : Nat} {left : List (Nat × V × V)} {p : V × V} {k : Res} {h : A2} {n : Nat} : B7h (some (.iter mst es bs ck left (some p))) k h n = B0R (A0i h mst) fun _ es' bs' ck' => es' = es ∧ bs' = bs ∧ ck' = ck ∧ k (.tup [p.1, p.2]) h n := rfl
@[go_sem ↓] theorem C8a {x : Opd} {sl : List (Nat × V)} {h : A2} {n : Nat} {k : Res} : B0 P PK (.bst x) ⟨sl, h, n⟩ k = E6 (B4U (n6 h (St.ev ⟨sl, h, n⟩ x))) k h n := rfl
@[go_sem ↓] theorem C7t {nm : Nat} {x : Opd} {sl : List (Nat × V)} {h : A2} {n : Nat} {k : Res} : B0 P PK (.byts nm x) ⟨sl, h, n⟩ k = A7a nm (St.ev ⟨sl, h, n⟩ x) k h n := rfl
@[go_sem ↓] theorem C4b {nm : Nat} {xs : List Opd} {sl : List (Nat × V)} {h : A2} {n : Nat} {k : Res} : B0 P PK (.mkraw nm xs) ⟨sl, h, n⟩ k = B7z nm (F8 1 ⟨sl, h, n⟩ xs) k h n := rfl
@[congr] theorem C6u {nm : Nat} {o o' : Option (List (List V))} {k : Res} {h : A2} {n : Nat} (e0 : o = o') : B7z nm o k h n = B7z nm o' k h n := by rw [e0]
@[go_sem] theorem C9e {nm : Nat} {rs : List (List V)} {k : Res} {h : A2} {n : Nat} : B7z nm (some rs) k h n = (0 < rs.length ∧ k (.sl nm n 0 rs.length) (A2.put h nm n (.raw rs)) (n + 1)) := rfl
@[go_sem ↓] theorem C8C {x : Opd} {sl : List (Nat × V)} {h : A2} {n : Nat} {k : Res} : B0 P PK (.cvr x) ⟨sl, h, n⟩ k = B3N (St.ev ⟨sl, h, n⟩ x) k h n := rfl
@[congr] theorem C6Q {x x' : V} {k : Res} {h : A2} {n : Nat} (e0 : x = x') : B3N x k h n = B3N x' k h n := by rw [e0]
@[go_sem] theorem D0Z {b st m : Nat} {k : Res} {h : A2} {n : Nat} : B3N (.sl b st 0 m) k h n = B7t (A2.get h b st) fun rs => m = rs.length ∧ k (.sl b st 0 m) (A2.put h b st (.rows 1 rs)) n := rfl
@[congr] theorem C6g {b b' : Option Blk} {f : List (List V) → Prop} (e0 : b = b') : B7t b f = B7t b' f := by rw [e0]
@[go_sem] theorem D0n {rs : List (List V)} {f : List (List V) → Prop} : B7t (some (.raw rs)) f = f rs := rfl
@[congr] theorem C4h {nm : Nat} {x x' : V} {k : Res} {h : A2} {n : Nat} (e0 : x = x') : A7a nm x k h n = A7a nm x' k h n := by rw [e0]
@[go_sem] theorem C7P {nm : Nat} {s : List UInt8} {k : Res} {h : A2} {n : Nat} : A7a nm (.str s) k h n = k (.sl nm n 0 s.length) (A2.put h nm n (.rows 1 (I7 s))) (n + 1) := rfl
@[go_sem] theorem C2J {s : List UInt8} : B4U (some (I7 s)) = some (.str s) := by
 have : ∀ s : List UInt8, A8X (I7 s) = some s := by
  intro s
  induction s with
  | nil => rfl
  | cons b s ih =>
   have e : I7 (b :: s) = [.int .u8 b.toNat] :: I7 s := rfl
   rw [e, A8X, ih]
   simp
 simp only [B4U, this]
@[go_sem ↓] theorem C8I {z : List V} {x : Opd} {sl : List (Nat × V)} {h : A2} {n : Nat} {k : Res} : B0 P PK (.clr z x) ⟨sl, h, n⟩ k = B0g z (St.ev ⟨sl, h, n⟩ x) k h n := rfl
@[go_sem ↓] theorem C7H {nm sz : Nat} {x : Opd} {sl : List (Nat × V)} {h : A2} {n : Nat} {k : Res} : B0 P PK (.slz nm sz x) ⟨sl, h, n⟩ k = B0i nm sz (St.ev ⟨sl, h, n⟩ x) k h n := rfl
@[congr] theorem C8V {l : Bool} {x x' y y' : V} {k : Res} {h : A2} {n : Nat} (e0 : x = x') (e1 : y = y') : shK l x y k h n = shK l x' y' k h n := by rw [e0, e1]
@[go_sem] theorem D1h {l : Bool} {j j' : IntKind} {a b : Int} {k : Res} {h : A2} {n : Nat} : shK l (.int j a) (.int j' b) k h n = (0 ≤ b ∧ k (.int j (shZ l j a b)) h n) := rfl
@[congr] theorem C4x {len sz m : Nat} {agg : Bool} {x x' y y' : V} {k : Res} {h : A2} {n : Nat} (e0 : x = x') (e1 : y = y') : A5G len sz m agg x y k h n = A5G len sz m agg x' y' k h n := by rw [e0, e1]
@[go_sem] theorem C7U {len sz m : Nat} {agg : Bool} {cs : List V} {j : IntKind} {z : Int} {k : Res} {h : A2} {n : Nat} : A5G len sz m agg (.agg cs) (.int j z) k h n = (0 ≤ z ∧ z < len ∧ E6 (F5 cs (z.toNat * sz) m agg) k h n) := rfl
@[congr] theorem C6o {z : List V} {x x' : V} {k : Res} {h : A2} {n : Nat} (e0 : x = x') : B0g z x k h n = B0g z x' k h n := by rw [e0]
@[go_sem] theorem C8K {z : List V} {k : Res} {h : A2} {n : Nat} : B0g z .nils k h n = k (.tup []) h n := rfl
@[congr] theorem C6L {nm sz : Nat} {x x' : V} {k : Res} {h : A2} {n : Nat} (e0 : x = x') : B0i nm sz x k h n = B0i nm sz x' k h n := by rw [e0]
@[go_sem] theorem C8q {nm sz : Nat} {k : Res} {h : A2} {n : Nat} : B0i nm sz .nils k h n = k (.sl nm n 0 0) (A2.put h nm n (.rows sz [])) (n + 1) := rfl
@[go_sem] theorem C9u {nm sz : Nat} {es : List (List V)} {k : Res} {h : A2} {n : Nat} : B0i nm sz (.isl es) k h n = k (.sl nm n 0 0) (A2.put h nm n (.rows sz [])) (n + 1) := rfl
@[go_sem] theorem D1g {nm sz b st i m : Nat} {k : Res} {h : A2} {n : Nat} : B0i nm sz (.sl b st i m) k h n = k (.sl nm n 0 0) (A2.put h nm n (.rows sz [])) (n + 1) := rfl
@[go_sem ↓] theorem C6w {f : FuncId} {xs : List Opd} {sl : List (Nat × V)} {h : A2} {n : Nat} {k : Res} : B0 P PK (.call f xs) ⟨sl, h, n⟩ k = A4 P f (xs.map (St.ev ⟨sl, h, n⟩)) h n k := rfl
@[go_sem ↓] theorem C7N {t : TypeId} {x : Opd} {sl : List (Nat × V)} {h : A2} {n : Nat} {k : Res} : B0 P PK (.tas t x) ⟨sl, h, n⟩ k = E6 (C0S t (St.ev ⟨sl, h, n⟩ x)) k h n := rfl
@[go_sem] theorem D0P {k : IntKind} {z : Int} : zV (.agg #[.int k z]) = some (.agg [.int k z]) := rfl
@[go_sem ↓] theorem C8n {t : TypeId} {x : Opd} {sl : List (Nat × V)} {h : A2} {n : Nat} {k : Res} : B0 P PK (.mki t x) ⟨sl, h, n⟩ k = E6 ((unV (St.ev ⟨sl, h, n⟩ x)).map fun u => .cst (.iface t u)) k h n := rfl
@[go_sem ↓] theorem C9a {x : Opd} {sl : List (Nat × V)} {h : A2} {n : Nat} {k : Res} : B0 P PK (.pan x) ⟨sl, h, n⟩ k = C3H PK (St.ev ⟨sl, h, n⟩ x) h n := rfl
@[go_sem ↓] theorem C6k {sz : Nat} {x : Opd} {sl : List (Nat × V)} {h : A2} {n : Nat} {k : Res} : B0 P PK (.boxi sz x) ⟨sl, h, n⟩ k = A8q sz (U3 (St.ev ⟨sl, h, n⟩ x)) k h n := rfl
@[congr] theorem C4S {sz : Nat} {o o' : Option (List V)} {k : Res} {h : A2} {n : Nat} (e0 : o = o') : A8q sz o k h n = A8q sz o' k h n := by rw [e0]
@[go_sem] theorem C5t {sz : Nat} {cs : List V} {k : Res} {h : A2} {n : Nat} : A8q sz (some cs) k h n = (cs.length = sz ∧ k (.iptr [cs] 0 0) h n) := rfl
@[go_sem ↓] theorem C4P {m : Nat} {agg : Bool} {x : Opd} {sl : List (Nat × V)} {h : A2} {n : Nat} {k : Res} : B0 P PK (.loadi m agg x) ⟨sl, h, n⟩ k = A0I m agg (St.ev ⟨sl, h, n⟩ x) k h n := rfl
@[congr] theorem C2S {m : Nat} {agg : Bool} {x x' : V} {k : Res} {h : A2} {n : Nat} (e : x = x') : A0I m agg x k h n = A0I m agg x' k h n := by rw [e]
@[go_sem] theorem C4D {es : List (List V)} {i j m : Nat} {agg : Bool} {k : Res} {h : A2} {n : Nat} : A0I m agg (.iptr es i j) k h n = k9 es i fun row => E6 (F5 row j m agg) k h n := by
 simp only [A0I, B8D, k9]
 cases es[i]? <;> rfl
@[go_sem ↓] theorem C4g {f : FuncId} {xs : List Opd} {sl : List (Nat × V)} {h : A2} {n : Nat} {k : Res} : B0 P PK (.callp f xs) ⟨sl, h, n⟩ k = C3 P f (xs.map (St.ev ⟨sl, h, n⟩)) h n k PK := rfl
@[go_sem ↓] theorem C5a {x : Opd} {xs : List Opd} {sl : List (Nat × V)} {h : A2} {n : Nat} {k : Res} : B0 P PK (.callv x xs) ⟨sl, h, n⟩ k = A5F P (St.ev ⟨sl, h, n⟩ x) (xs.map (St.ev ⟨sl, h, n⟩)) h n k := rfl
@[go_sem ↓] theorem C8L {sl : List (Nat × V)} {h : A2} {n : Nat} {k : Res} : B0 P PK (.bad) ⟨sl, h, n⟩ k = False := rfl
@[congr] theorem C5C {o o' : Option V} {k : Res} {h : A2} {n : Nat} (e0 : o = o') : E6 o k h n = E6 o' k h n := by rw [e0]
@[go_sem] theorem D0B {v : V} {k : Res} {h : A2} {n : Nat} : E6 (some v) k h n = k v h n := rfl
@[go_sem] theorem C8P  {k : Res} {h : A2} {n : Nat} : E6 none k h n = False := rfl
@[congr] theorem C5i {nm sz : Nat} {o o' : Option (List V)} {k : Res} {h : A2} {n : Nat} (e0 : o = o') : B4n nm sz o k h n = B4n nm sz o' k h n := by rw [e0]
@[go_sem] theorem C8z {nm sz : Nat} {cs : List V} {k : Res} {h : A2} {n : Nat} : B4n nm sz (some cs) k h n = (cs.length = sz ∧ k (.ptr nm n 0 0) (A2.put h nm n (.rows sz [cs])) (n + 1)) := rfl
@[congr] theorem C5Z {nm sz : Nat} {o o' : Option (List (List V))} {k : Res} {h : A2} {n : Nat} (e0 : o = o') : B6V nm sz o k h n = B6V nm sz o' k h n := by rw [e0]
@[go_sem] theorem C8W {nm sz : Nat} {rs : List (List V)} {k : Res} {h : A2} {n : Nat} : B6V nm sz (some rs) k h n = k (.sl nm n 0 rs.length) (A2.put h nm n (.rows sz rs)) (n + 1) := rfl
@[congr] theorem C6x {o o' : Option (List (List V))} {k : Res} {h : A2} {n : Nat} (e0 : o = o') : B5i o k h n = B5i o' k h n := by rw [e0]
@[go_sem] theorem C8Y {rs : List (List V)} {k : Res} {h : A2} {n : Nat} : B5i (some rs) k h n = k (.isl rs) h n := rfl
@[congr] theorem C4V {o o' : Option A2} {k : Res} {n : Nat} (e : o = o') : A6Z o k n = A6Z o' k n := by rw [e]
@[go_sem] theorem C6n {h : A2} {k : Res} {n : Nat} : A6Z (some h) k n = k .undef h n := rfl
@[congr] theorem C3e {sz : Nat} {x x' i i' : V} {k : Res} {h : A2} {n : Nat} (e0 : x = x') (e1 : i = i') : A1b sz x i k h n = A1b sz x' i' k h n := by rw [e0, e1]
@[go_sem] theorem C9h {sz b st i0 m : Nat} {j : IntKind} {z : Int} {k : Res} {h : A2} {n : Nat} : A1b sz (.sl b st i0 m) (.int j z) k h n = (0 ≤ z ∧ z < m ∧ A8n (A2.get h b st) = some sz ∧ k (.ptr b st (i0 + z.toNat) 0) h n) := rfl
@[go_sem] theorem C7p {sz : Nat} {es : List (List V)} {j : IntKind} {z : Int} {k : Res} {h : A2} {n : Nat} : A1b sz (.isl es) (.int j z) k h n = (0 ≤ z ∧ z < es.length ∧ C6 es sz ∧ k (.iptr es z.toNat 0) h n) := rfl
@[go_sem] theorem C4L {sz : Nat} {i : V} {k : Res} {h : A2} {n : Nat} : A1b sz .nils i k h n = False := by cases i <;> rfl
@[congr] theorem C2C {len sz : Nat} {x x' i i' : V} {k : Res} {h : A2} {n : Nat} (e0 : x = x') (e1 : i = i') : j6 len sz x i k h n = j6 len sz x' i' k h n := by rw [e0, e1]
@[go_sem] theorem C4y {len sz b st i0 q : Nat} {j : IntKind} {z : Int} {k : Res} {h : A2} {n : Nat} : j6 len sz (.ptr b st i0 q) (.int j z) k h n = (0 ≤ z ∧ z < len ∧ k (.ptr b st i0 (q + z.toNat * sz)) h n) := rfl
@[go_sem] theorem C3n {len sz i0 q : Nat} {es : List (List V)} {j : IntKind} {z : Int} {k : Res} {h : A2} {n : Nat} : j6 len sz (.iptr es i0 q) (.int j z) k h n = (0 ≤ z ∧ z < len ∧ k (.iptr es i0 (q + z.toNat * sz)) h n) := rfl
@[congr] theorem C6R {x x' i i' : V} {k : Res} {h : A2} {n : Nat} (e0 : x = x') (e1 : i = i') : B4m x i k h n = B4m x' i' k h n := by rw [e0, e1]
@[go_sem] theorem D0v {s : List UInt8} {j : IntKind} {z : Int} {k : Res} {h : A2} {n : Nat} : B4m (.str s) (.int j z) k h n = (0 ≤ z ∧ E6 ((s[z.toNat]?).map fun b => .int .u8 b.toNat) k h n) := rfl
@[go_sem] theorem C7S {j : IntKind} {z : Int} {k : Res} {h : A2} {n : Nat} : Q0 j z k h n = (inR j z ∧ k (B3w j z) h n) := rfl
@[congr] theorem C7B {op : BinOp} {x x' y y' : V} {k : Res} {h : A2} {n : Nat} (e0 : x = x') (e1 : y = y') : P9 op x y k h n = P9 op x' y' k h n := by rw [e0, e1]
@[go_sem] theorem D0q {j j' : IntKind} {a b : Int} {k : Res} {h : A2} {n : Nat} : P9 .add (.int j a) (.int j' b) k h n = (j = j' ∧ Q0 j (a + b) k h n) := rfl
@[go_sem] theorem C9P {j j' : IntKind} {a b : Int} {k : Res} {h : A2} {n : Nat} : P9 .sub (.int j a) (.int j' b) k h n = (j = j' ∧ Q0 j (a - b) k h n) := rfl
@[go_sem] theorem C9X {j j' : IntKind} {a b : Int} {k : Res} {h : A2} {n : Nat} : P9 .mul (.int j a) (.int j' b) k h n = (j = j' ∧ Q0 j (a * b) k h n) := rfl
@[go_sem] theorem C9G {j j' : IntKind} {a b : Int} {k : Res} {h : A2} {n : Nat} : P9 .quo (.int j a) (.int j' b) k h n = (j = j' ∧ b ≠ 0 ∧ Q0 j (a.tdiv b) k h n) := rfl
@[go_sem] theorem D0u {j j' : IntKind} {a b : Int} {k : Res} {h : A2} {n : Nat} : P9 .rem (.int j a) (.int j' b) k h n = (j = j' ∧ b ≠ 0 ∧ k (.int j (a.tmod b)) h n) := rfl
@[go_sem] theorem D0r {j j' : IntKind} {a b : Int} {k : Res} {h : A2} {n : Nat} : P9 .eql (.int j a) (.int j' b) k h n = (j = j' ∧ k (.bool (decide (a = b))) h n) := rfl
@[go_sem] theorem D0t {j j' : IntKind} {a b : Int} {k : Res} {h : A2} {n : Nat} : P9 .neq (.int j a) (.int j' b) k h n = (j = j' ∧ k (.bool (decide (¬ a = b))) h n) := rfl
@[go_sem] theorem C9W {j j' : IntKind} {a b : Int} {k : Res} {h : A2} {n : Nat} : P9 .lss (.int j a) (.int j' b) k h n = (j = j' ∧ k (.bool (decide (a < b))) h n) := rfl
@[go_sem] theorem C9o {j j' : IntKind} {a b : Int} {k : Res} {h : A2} {n : Nat} : P9 .leq (.int j a) (.int j' b) k h n = (j = j' ∧ k (.bool (decide (a ≤ b))) h n) := rfl
@[go_sem] theorem D0m {j j' : IntKind} {a b : Int} {k : Res} {h : A2} {n : Nat} : P9 .gtr (.int j a) (.int j' b) k h n = (j = j' ∧ k (.bool (decide (b < a))) h n) := rfl
@[go_sem] theorem D0p {j j' : IntKind} {a b : Int} {k : Res} {h : A2} {n : Nat} : P9 .geq (.int j a) (.int j' b) k h n = (j = j' ∧ k (.bool (decide (b ≤ a))) h n) := rfl
@[go_sem] theorem C9q {j j' : IntKind} {a b : Int} {k : Res} {h : A2} {n : Nat} : P9 .and (.int j a) (.int j' b) k h n = (j = j' ∧ k (.int j (R1 .and j a b)) h n) := rfl
@[go_sem] theorem D0W {j j' : IntKind} {a b : Int} {k : Res} {h : A2} {n : Nat} : P9 .or (.int j a) (.int j' b) k h n = (j = j' ∧ k (.int j (R1 .or j a b)) h n) := rfl
@[go_sem] theorem C9M {j j' : IntKind} {a b : Int} {k : Res} {h : A2} {n : Nat} : P9 .xor (.int j a) (.int j' b) k h n = (j = j' ∧ k (.int j (R1 .xor j a b)) h n) := rfl
@[go_sem] theorem C5e {j j' : IntKind} {a b : Int} {k : Res} {h : A2} {n : Nat} : P9 .andNot (.int j a) (.int j' b) k h n = (j = j' ∧ k (.int j (R1 .andNot j a b)) h n) := rfl
@[go_sem] theorem C7Y {a b : List UInt8} {k : Res} {h : A2} {n : Nat} : P9 .leq (.str a) (.str b) k h n = k (.bool (K5 a b || decide (a = b))) h n := rfl
@[go_sem] theorem C8B {a b : List UInt8} {k : Res} {h : A2} {n : Nat} : P9 .gtr (.str a) (.str b) k h n = k (.bool !(K5 a b || decide (a = b))) h n := rfl
@[go_sem] theorem C8l {a b : List UInt8} {k : Res} {h : A2} {n : Nat} : P9 .add (.str a) (.str b) k h n = (a.length + b.length ≤ 1099511627776 ∧ k (.str (a ++ b)) h n) := rfl
@[go_sem] theorem C7Z {a b : List UInt8} {k : Res} {h : A2} {n : Nat} : P9 .eql (.str a) (.str b) k h n = k (.bool (decide (a = b))) h n := rfl
@[go_sem] theorem C8g {a b : List UInt8} {k : Res} {h : A2} {n : Nat} : P9 .neq (.str a) (.str b) k h n = k (.bool (decide (¬ a = b))) h n := rfl
@[go_sem] theorem C8r {a b : List UInt8} {k : Res} {h : A2} {n : Nat} : P9 .lss (.str a) (.str b) k h n = k (.bool (K5 a b)) h n := rfl
@[go_sem] theorem C7O {a b : List UInt8} {k : Res} {h : A2} {n : Nat} : P9 .geq (.str a) (.str b) k h n = k (.bool (!K5 a b)) h n := rfl
@[congr] theorem C8J {op : UnOp} {x x' : V} {k : Res} {h : A2} {n : Nat} (e0 : x = x') : unK op x k h n = unK op x' k h n := by rw [e0]
@[go_sem] theorem D0J {j : IntKind} {a : Int} {k : Res} {h : A2} {n : Nat} : unK .neg (.int j a) k h n = Q0 j (0 - a) k h n := rfl
@[go_sem] theorem D0R {j : IntKind} {a : Int} {k : Res} {h : A2} {n : Nat} : unK .xor (.int j a) k h n = k (.int j (R1 .xor j (bif j.signed then -1 else j.max) a)) h n := rfl
@[go_sem] theorem D0F {b : Bool} {k : Res} {h : A2} {n : Nat} : unK .not (.bool b) k h n = k (.bool !b) h n := rfl
def A9r (o : Option Blk) (f : Nat → List (List V) → Prop) : Prop :=
 match o with
 | some (.rows sz rs) => f sz rs
 | _ => False
def B1g (o : Option Blk) (f : List (V × V) → Prop) : Prop :=
 match o with
 | some (.map es) => f es
 | _ => False
def B7U (a b : Option Int) (f : Int → Int → Prop) : Prop :=
 match a, b with
 | some a, some b => f a b
 | _, _ => False
@[congr] theorem C3D {o o' : Option Blk} {f : Nat → List (List V) → Prop} (e : o = o') : A9r o f = A9r o' f := by rw [e]
@[congr] theorem C4U {o o' : Option Blk} {f : List (V × V) → Prop} (e : o = o') : B1g o f = B1g o' f := by rw [e]
@[congr] theorem C6f {a a' b b' : Option Int} {f : Int → Int → Prop} (e : a = a') (e' : b = b') : B7U a b f = B7U a' b' f := by rw [e, e']
@[go_sem] theorem C4G {sz : Nat} {rs : List (List V)} {f : Nat → List (List V) → Prop} : A9r (some (.rows sz rs)) f = f sz rs := rfl
@[go_sem] theorem C8s {es : List (V × V)} {f : List (V × V) → Prop} : B1g (some (.map es)) f = f es := rfl
@[go_sem] theorem C7L {a b : Int} {f : Int → Int → Prop} : B7U (some a) (some b) f = f a b := rfl
@[congr] theorem C6X {L nm sz : Nat} {b b' : V} {o o' : Option (List (List V))} {k : Res} {h : A2} {n : Nat} (e0 : b = b') (e1 : o = o') : A5L L nm sz b o k h n = A5L L nm sz b' o' k h n := by rw [e0, e1]
@[go_sem] theorem C7W {L nm sz : Nat} {xs : List (List V)} {k : Res} {h : A2} {n : Nat} : A5L L nm sz .nils (some xs) k h n = (C6 xs sz ∧ xs.length ≤ L ∧ k (.sl nm n 0 xs.length) (A2.put h nm n (.rows sz xs)) (n + 1)) := rfl
@[go_sem] theorem D0D {L nm sz b st i m : Nat} {xs : List (List V)} {k : Res} {h : A2} {n : Nat} : A5L L nm sz (.sl b st i m) (some xs) k h n = (C6 xs sz ∧ A9r (A2.get h b st) fun sz' rs => sz' = sz ∧ i + m ≤ rs.length ∧ m + xs.length ≤ L ∧ k (.sl b n 0 (m + xs.length)) (A2.put h b n (.rows sz ((rs.drop i).take m ++ xs))) (n + 1)) := rfl
@[congr] theorem C4Y {sz : Nat} {b b' : V} {o o' : Option (List (List V))} {k : Res} {h : A2} {n : Nat} (e0 : b = b') (e1 : o = o') : A4I sz b o k h n = A4I sz b' o' k h n := by rw [e0, e1]
@[go_sem] theorem C7n {sz : Nat} {xs : List (List V)} {k : Res} {h : A2} {n : Nat} : A4I sz .nils (some xs) k h n = (C6 xs sz ∧ k (.int .i64 0) h n) := rfl
@[go_sem] theorem D0i {sz b st i m : Nat} {xs : List (List V)} {k : Res} {h : A2} {n : Nat} : A4I sz (.sl b st i m) (some xs) k h n = (C6 xs sz ∧ A9r (A2.get h b st) fun sz' rs => sz' = sz ∧ i + m ≤ rs.length ∧ k (.int .i64 (min xs.length m : Nat)) (A2.put h b st (.rows sz (rs.take i ++ xs.take (min xs.length m) ++ rs.drop (i + min xs.length m)))) n) := rfl
@[congr] theorem C4K {nm : Nat} {z : List V} {x x' : V} {k : Res} {h : A2} {n : Nat} (e0 : x = x') : B0a nm z x k h n = B0a nm z x' k h n := by rw [e0]
@[go_sem] theorem C8c {nm : Nat} {z : List V} {m : Int} {k : Res} {h : A2} {n : Nat} : B0a nm z (.int .i64 m) k h n = (0 ≤ m ∧ m ≤ 137438953472 ∧ k (.sl nm n 0 m.toNat) (A2.put h nm n (.rows z.length (List.replicate m.toNat z))) (n + 1)) := rfl
@[go_sem] theorem D1e {z : List V} {b st i m : Nat} {k : Res} {h : A2} {n : Nat} : B0g z (.sl b st i m) k h n = A9r (A2.get h b st) fun sz rs => sz = z.length ∧ i + m ≤ rs.length ∧ k (.tup []) (A2.put h b st (.rows sz (rs.take i ++ List.replicate m z ++ rs.drop (i + m)))) n := rfl
@[congr] theorem C6G {sz : Nat} {x x' : V} {lo lo' hi hi' : Option V} {k : Res} {h : A2} {n : Nat} (e0 : x = x') (e1 : lo = lo') (e2 : hi = hi') : A7V sz x lo hi k h n = A7V sz x' lo' hi' k h n := by rw [e0, e1, e2]
@[go_sem] theorem D1a {sz b st i m : Nat} {lo hi : Option V} {k : Res} {h : A2} {n : Nat} : A7V sz (.sl b st i m) lo hi k h n = B7U (F0 0 lo) (F0 m hi) fun l u => A8n (A2.get h b st) = some sz ∧ 0 ≤ l ∧ l ≤ u ∧ u ≤ m ∧ k (.sl b st (i + l.toNat) (u - l).toNat) h n := rfl
@[go_sem] theorem D0z {sz : Nat} {es : List (List V)} {lo hi : Option V} {k : Res} {h : A2} {n : Nat} : A7V sz (.isl es) lo hi k h n = B7U (F0 0 lo) (F0 es.length hi) fun l u => C6 es sz ∧ 0 ≤ l ∧ l ≤ u ∧ u ≤ es.length ∧ k (.isl ((es.drop l.toNat).take (u - l).toNat)) h n := rfl
@[go_sem] theorem C8F {sz : Nat} {lo hi : Option V} {k : Res} {h : A2} {n : Nat} : A7V sz .nils lo hi k h n = B7U (F0 0 lo) (F0 0 hi) fun l u => l = 0 ∧ u = 0 ∧ k .nils h n := rfl
@[congr] theorem C5V {x x' : V} {lo lo' hi hi' : Option V} {k : Res} {h : A2} {n : Nat} (e0 : x = x') (e1 : lo = lo') (e2 : hi = hi') : B0h x lo hi k h n = B0h x' lo' hi' k h n := by rw [e0, e1, e2]
@[go_sem] theorem C9n {s : List UInt8} {lo hi : Option V} {k : Res} {h : A2} {n : Nat} : B0h (.str s) lo hi k h n = B7U (F0 0 lo) (F0 s.length hi) fun l u => 0 ≤ l ∧ l ≤ u ∧ u ≤ s.length ∧ k (.str ((s.drop l.toNat).take (u - l).toNat)) h n := rfl
@[congr] theorem C4F {kd : Nat} {z : V} {ok : Bool} {m m' x x' : V} {k : Res} {h : A2} {n : Nat} (e0 : m = m') (e1 : x = x') : A4x kd z ok m x k h n = A4x kd z ok m' x' k h n := by rw [e0, e1]
@[go_sem] theorem C6B {kd : Nat} {z : V} {ok : Bool} {x : V} {k : Res} {h : A2} {n : Nat} : A4x kd z ok .nilm x k h n = (t6 kd x = true ∧ k (A7Z z ok none) h n) := rfl
def B7c (o : Option V) (f : V → Prop) (g : Prop) : Prop :=
 match o with
 | some v => f v
 | none => g
@[congr] theorem C6O {o o' : Option V} {f : V → Prop} {g : Prop} (e : o = o') : B7c o f g = B7c o' f g := by rw [e]
@[go_sem] theorem C8S {v : V} {f : V → Prop} {g : Prop} : B7c (some v) f g = f v := rfl
@[go_sem] theorem C7Q {f : V → Prop} {g : Prop} : B7c none f g = g := rfl
@[go_sem] theorem C9H {α : Type} {o : Option α} {F : α → V} {f : V → Prop} {g : Prop} : B7c (o.map F) f g = ((∀ x, o = some x → f (F x)) ∧ (o = none → g)) := by
 cases o <;> simp [B7c]
@[go_sem] theorem C9s {kd b st : Nat} {z : V} {ok : Bool} {x : V} {k : Res} {h : A2} {n : Nat} : A4x kd z ok (.mp b st) x k h n = B1g (A2.get h b st) fun es => t6 kd x = true ∧ A0c x es ∧ B7c (R0 x es) (fun v => k (A7Z z ok (some v)) h n) (k (A7Z z ok none) h n) := by
 simp only [A4x, B1g]
 cases A2.get h b st with
 | none => rfl
 | some x =>
  cases x with
  | rows sz rs => rfl
  | map es =>
   simp only
   refine propext (and_congr_right fun _ => and_congr_right fun _ => ?_)
   cases R0 _ es <;> exact Iff.rfl
  | loop => rfl
  | mapb => rfl
  | iter => rfl
  | raw => rfl
@[congr] theorem C4d {kd : Nat} {m m' x x' v v' : V} {k : Res} {h : A2} {n : Nat} (e0 : m = m') (e1 : x = x') (e2 : v = v') : A8m kd m x v k h n = A8m kd m' x' v' k h n := by rw [e0, e1, e2]
@[go_sem] theorem C9m {kd b st : Nat} {x v : V} {k : Res} {h : A2} {n : Nat} : A8m kd (.mp b st) x v k h n = B1g (A2.get h b st) fun es => t6 kd x = true ∧ A0c x es ∧ k .undef (A2.put h b st (.map (A3H x v es))) n := rfl
@[congr] theorem C4R {kd : Nat} {m m' x x' : V} {k : Res} {h : A2} {n : Nat} (e0 : m = m') (e1 : x = x') : A6V kd m x k h n = A6V kd m' x' k h n := by rw [e0, e1]
@[go_sem] theorem C6p {kd : Nat} {x : V} {k : Res} {h : A2} {n : Nat} : A6V kd .nilm x k h n = (t6 kd x = true ∧ k (.tup []) h n) := rfl
@[go_sem] theorem D0w {kd b st : Nat} {x : V} {k : Res} {h : A2} {n : Nat} : A6V kd (.mp b st) x k h n = B1g (A2.get h b st) fun es => t6 kd x = true ∧ A0c x es ∧ k (.tup []) (A2.put h b st (.map (B7T x es))) n := rfl
@[go_sem] theorem C8O {g : FuncId} {cs as : List V} {k : Res} {h : A2} {n : Nat} : A5F P (.fn g cs) as h n k = (F6 P g = true ∧ A4 P g (as ++ cs) h n k) := rfl
@[congr] theorem C3C {x x' : V} {as as' : List V} {k : Res} {h : A2} {n : Nat} (e : x = x') (e' : as = as') : A5F P x as h n k = A5F P x' as' h n k := by rw [e, e']
@[congr] theorem C4q {f : FuncId} {as as' : List V} {k : Res} {h h' : A2} {n n' : Nat} {pk : H0} (e : as = as') (e' : h = h') (e'' : n = n') : C3 P f as h n k pk = C3 P f as' h' n' k pk := by rw [e, e', e'']
@[congr] theorem C4e {f : FuncId} {as as' : List V} {k : Res} {h h' : A2} {n n' : Nat} (e : as = as') (e' : h = h') (e'' : n = n') : A4 P f as h n k = A4 P f as' h' n' k := by rw [e, e', e'']
def C3I (Q : Res) (o : Option (List V)) (h : A2) (n : Nat) : Prop :=
 match o with
 | some vs => Q (A6W vs) h n
 | none => False
@[congr] theorem C5B {Q : Res} {o o' : Option (List V)} {h : A2} {n : Nat} (e : o = o') : C3I Q o h n = C3I Q o' h n := by rw [e]
@[go_sem] theorem C8T {Q : Res} {vs : List V} {h : A2} {n : Nat} : C3I Q (some vs) h n = Q (A6W vs) h n := rfl
@[go_sem ↓] theorem D0X {N : Nat} {rs : List RV} {Q : Res} {sl : List (Nat × V)} {h : A2} {n : Nat} : B4d ⟨P, N, rs, Q, none, pk⟩ ⟨sl, h, n⟩ = C3I Q (A2B ⟨sl, h, n⟩ rs) h n := rfl
@[congr] theorem C5b {b b' : Bool} {A : Prop} (e : b = b') : B6d b A = B6d b' A := by rw [e]
@[go_sem] theorem C4B {A : Prop} : B6d false A = A := rfl
@[go_sem] theorem C9J {i j : Nat} {A : Prop} : B6d (Nat.beq i j) A = if i = j then False else A := by
 cases h : Nat.beq i j with
 | true => rw [if_pos (Nat.eq_of_beq_eq_true h)]; rfl
 | false => rw [if_neg fun e => by rw [e, Nat.beq_refl] at h; cases h]; rfl
@[congr] theorem C4Q {o o' : Option (List AItem)} {f : List AItem → Prop} {g : Prop} (e : o = o') : B1c o f g = B1c o' f g := by rw [e]
@[go_sem] theorem C5w {l : List AItem} {f : List AItem → Prop} {g : Prop} : B1c (some l) f g = f l := rfl
@[go_sem] theorem C6D {f : List AItem → Prop} {g : Prop} : B1c none f g = g := rfl
@[go_sem ↓] theorem C7o {N : Nat} {rs : List RV} {Q : Res} {s : St} : A0X ⟨P, N, rs, Q, none, pk⟩ none s = B4d ⟨P, N, rs, Q, none, pk⟩ s := rfl
@[go_sem ↓] theorem C7h {N : Nat} {rs : List RV} {Q : Res} {s : St} : A0X ⟨P, N, rs, Q, none, pk⟩ (some .ret) s = B4d ⟨P, N, rs, Q, none, pk⟩ s := rfl
@[go_sem ↓] theorem C4Z {N id : Nat} {rs : List RV} {Q : Res} {s : St} : A0X ⟨P, N, rs, Q, none, pk⟩ (some (.exit id)) s = False := rfl
def C0M (o : Option Blk) (b st : Nat) (j : Option Code) (Q : Res) (h : A2) (n : Nat) : Prop :=
 match o with
 | some (.loop N sl ps p _ _) => Q (.bool j.isNone) (A2.put h b st (.loop N sl ps p (if j.isNone then .ready else .done) j)) n
 | _ => False
@[congr] theorem C5f {o o' : Option Blk} {b st : Nat} {j : Option Code} {Q : Res} {h : A2} {n : Nat} (e : o = o') : C0M o b st j Q h n = C0M o' b st j Q h n := by rw [e]
@[go_sem ↓] theorem C7K {N b st : Nat} {rs : List RV} {Q : Res} {j : Option Code} {sl : List (Nat × V)} {h : A2} {n : Nat} : A0X ⟨P, N, rs, Q, some (b, st), pk⟩ j ⟨sl, h, n⟩ = C0M (A2.get h b st) b st j Q h n := rfl
@[go_sem] theorem D0x {b st N : Nat} {sl : List (Nat × V)} {ps : List Nat} {p : Code → Code → Prop} {s : LoopState} {pd : Option Code} {Q : Res} {h : A2} {n : Nat} : C0M (some (.loop N sl ps p s pd)) b st none Q h n = Q (.bool true) (A2.put h b st (.loop N sl ps p .ready none)) n := rfl
@[go_sem] theorem C8u {b st N : Nat} {sl : List (Nat × V)} {ps : List Nat} {p : Code → Code → Prop} {s : LoopState} {pd : Option Code} {c : Code} {Q : Res} {h : A2} {n : Nat} : C0M (some (.loop N sl ps p s pd)) b st (some c) Q h n = Q (.bool false) (A2.put h b st (.loop N sl ps p .done (some c))) n := rfl
def C3j (o : Option Blk) (b st : Nat) (K : St → Prop) (sl : List (Nat × V)) (h : A2) (n : Nat) : Prop :=
 match o with
 | some (.loop N sl' ps p .ready pend) => K ⟨sl, A2.put h b st (.loop N sl' ps p .busy pend), n⟩
 | _ => False
@[congr] theorem C7f {o o' : Option Blk} {b st : Nat} {K : St → Prop} {sl : List (Nat × V)} {h : A2} {n : Nat} (e : o = o') : C3j o b st K sl h n = C3j o' b st K sl h n := by rw [e]
@[go_sem ↓] theorem D0U {N b st : Nat} {rs : List RV} {Q : Res} {K : St → Prop} {sl : List (Nat × V)} {h : A2} {n : Nat} : C6F ⟨P, N, rs, Q, some (b, st), pk⟩ ⟨sl, h, n⟩ K = C3j (A2.get h b st) b st K sl h n := rfl
@[go_sem] theorem C6Y {b st N : Nat} {sl sl' : List (Nat × V)} {ps : List Nat} {p : Code → Code → Prop} {pd : Option Code} {K : St → Prop} {h : A2} {n : Nat} : C3j (some (.loop N sl' ps p .ready pd)) b st K sl h n = K ⟨sl, A2.put h b st (.loop N sl' ps p .busy pd), n⟩ := rfl
@[go_sem] theorem C8v {A : Prop} : D0c none none A = A := rfl
@[go_sem] theorem C6S : A9W none = B6q := rfl
@[go_sem] theorem C7r {p : H0} : A9W (some p) = p := rfl
@[congr] theorem C7s {c : Cf} {nm : Nat} {v v' : V} {ps : List Nat} {x y : AC} {s : St} {K : Option Code → St → Prop} (e : v = v') : B9o c nm v ps x y s K = B9o c nm v' ps x y s K := by rw [e]
@[go_sem] theorem D1b {N nm : Nat} {rs : List RV} {Q : Res} {f : FuncId} {cs : List V} {ps : List Nat} {x y : AC} {sl : List (Nat × V)} {h : A2} {n : Nat} {K : Option Code → St → Prop} :
  B9o ⟨P, N, rs, Q, none, none⟩ nm (.fn f cs) ps x y ⟨sl, h, n⟩ K = (F6 P f = true ∧ A4 P f (.yld nm n :: cs) (A2.put h nm n (.loop N sl ps (W9 P N x y) .ready none)) (n + 1) (B7v nm n sl K)) := by
 simp [B9o]
def C1S (o : Option Blk) (K : Option Code → Prop) : Prop :=
 match o with
 | some (.loop _ _ _ _ s pend) => s ≠ .busy ∧ K pend
 | _ => False
@[congr] theorem C5p {o o' : Option Blk} {K : Option Code → Prop} (e : o = o') : C1S o K = C1S o' K := by rw [e]
@[go_sem] theorem D0E {nm st : Nat} {sl : List (Nat × V)} {K : Option Code → St → Prop} {r : V} {h : A2} {n : Nat} : B7v nm st sl K r h n = C1S (A2.get h nm st) fun pend => K pend ⟨sl, A2.del h nm, n⟩ := by
 unfold B7v C1S
 cases A2.get h nm st with
 | none => rfl
 | some x => cases x <;> rfl
@[go_sem] theorem C8R {N : Nat} {sl : List (Nat × V)} {ps : List Nat} {p : Code → Code → Prop} {s : LoopState} {pd : Option Code} {K : Option Code → Prop} : C1S (some (.loop N sl ps p s pd)) K = (s ≠ .busy ∧ K pd) := rfl
@[go_sem] theorem C7y {K : List AItem → St → Prop} {k : List AItem} {s : St} : B5M K k none s = K k s := rfl
@[go_sem] theorem C8Q {K : List AItem → St → Prop} {k : List AItem} {s : St} : B5M K k (some .ret) s = K (.code .ret :: k) s := rfl
@[go_sem] theorem C7i {K : List AItem → St → Prop} {k : List AItem} {id : Nat} {s : St} : B5M K k (some (.exit id)) s = K (.code (.exit id) :: k) s := rfl
@[go_sem] theorem C4w {sl : List (Nat × V)} {p : Nat} {ps : List Nat} {a : V} {as : List V} : A3X sl (p :: ps) (a :: as) = A3X (D5 sl p a) ps as := rfl
@[go_sem] theorem C7j {sl : List (Nat × V)} {as : List V} : A3X sl [] as = sl := by cases as <;> rfl
@[go_sem] theorem C5x {b st : Nat} {as : List V} {k : Res} {h : A2} {n : Nat} : A5F P (.yld b st) as h n k = O2 P b st as h n k := rfl
@[congr] theorem C6A {b st : Nat} {as as' : List V} {k : Res} {h h' : A2} {n n' : Nat} (e : as = as') (e' : h = h') (e'' : n = n') : O2 P b st as h n k = O2 P b st as' h' n' k := by rw [e, e', e'']
@[congr] theorem D0k {l l' : List AI} {K : St → Prop} {s s' : St} (e' : l = l') (e : s = s') : vo P PK l K s = vo P PK l' K s' := by rw [e, e']
@[congr] theorem D0e {k k' : List AItem} {s s' : St} (e' : k = k') (e : s = s') : go c m k s = go c m k' s' := by rw [e, e']
@[congr] theorem C8t {s s' : St} (e : s = s') : Run c k s = Run c k s' := by rw [e]
@[go_sem] theorem C8N {sz : Nat} : C6 [] sz = True := by simp [C6]
@[go_sem] theorem C6N {sz : Nat} {r : List V} {rs : List (List V)} : C6 (r :: rs) sz = (r.length = sz ∧ C6 rs sz) := by simp [C6]
@[go_sem] theorem C0w {i : Nat} : C8 [] i = .undef := rfl
theorem A8Z {α : Type} {i j : Nat} {a b : α} : (bif Nat.beq i j then a else b) = if i = j then a else b := by
 by_cases h : i = j
 ·subst h; simp
 ·rw [if_neg h]
  have : Nat.beq i j = false := by
   cases hb : Nat.beq i j with
   | false => rfl
   | true => exact (h (Nat.eq_of_beq_eq_true hb)).elim
  rw [this]; rfl
@[go_sem] theorem C0s {p : Nat × V} {r : List (Nat × V)} {i : Nat} : C8 (p :: r) i = if p.1 = i then p.2 else C8 r i := A8Z
@[go_sem] theorem D0h {i : Nat} {v : V} : D5 [] i v = [(i, v)] := rfl
@[go_sem] theorem C7G {p : Nat × V} {r : List (Nat × V)} {i : Nat} {v : V} : D5 (p :: r) i v = if p.1 < i then (i, v) :: p :: r else if p.1 = i then (i, v) :: r else p :: D5 r i v := by
 simp only [D5]
 rw [A8Z]
 by_cases h : p.1 < i
 ·rw [if_pos h, if_neg (by omega), show Nat.blt p.1 i = true from Nat.ble_eq_true_of_le h]; rfl
 ·rw [if_neg h]
  have : Nat.blt p.1 i = false := by
   cases hb : Nat.blt p.1 i with
   | false => rfl
   | true => exact (h (Nat.le_of_ble_eq_true hb)).elim
  rw [this]; rfl
attribute [go_sem] St.ev.eq_1 St.ev.eq_2 St.ev.eq_3 St.ev.eq_4 know A2B A6W R9 A7Z A9F B7e B1E B6p U3 B0E C1C C0Z B5e B0X C0S unV C3H B7L C2m A1c n6 t6 R0 A3H B7T A0c F0 A8n F6
attribute [go_sem] inR B3w C1P eqE eqE.eqFs B3X C2M mmV mm2 w8 F8 I4 P5 I7
attribute [go_sem] Option.map_some Option.map_none Option.bind_some Option.bind_none Option.getD_some Option.getD_none Option.isSome_some
attribute [go_sem] List.getElem?_cons_zero List.getElem?_cons_succ List.getElem?_nil List.length_cons List.length_nil List.drop_zero List.drop_succ_cons List.drop_nil List.take_zero List.take_succ_cons List.take_nil List.map_cons List.map_nil List.cons_append List.nil_append List.append_nil List.set_cons_zero List.set_cons_succ
attribute [go_sem] if_true if_false cond_true cond_false Bool.not_true Bool.not_false true_and and_true false_and and_false true_implies forall_const Bool.true_and Bool.and_true Bool.false_and Bool.and_false ite_true ite_false reduceIte
attribute [go_sem] Bool.not_eq_true Bool.not_eq_false decide_eq_true_eq decide_eq_false_iff_not Classical.not_not Bool.not_not decide_true decide_false Nat.zero_add Nat.add_zero ne_eq reduceCtorEq
@[go_sem] theorem D1f {α : Type} {a b : α} {p : Prop} [Decidable p] : (bif decide p then a else b) = if p then a else b := by by_cases h : p <;> simp [h]
@[go_sem] theorem D0V {b st : Nat} : A2.get [] b st = none := rfl
@[go_sem] theorem C9I {b' st' b st : Nat} {x : Blk} {r : A2} : A2.get ((b', st', x) :: r) b st = if b' = b then (if st' = st then some x else none) else A2.get r b st := A8Z
@[go_sem] theorem D1r {h : A2} {b st : Nat} {x : Blk} : A2.put h b st x = (b, st, x) :: A2.del h b := rfl
@[go_sem] theorem D0A {b : Nat} : A2.del [] b = [] := rfl
@[go_sem] theorem D0d {b' st' b : Nat} {x : Blk} {r : A2} : A2.del ((b', st', x) :: r) b = if b' = b then A2.del r b else (b', st', x) :: A2.del r b := by
 unfold A2.del
 rw [List.filter_cons, ← A8Z]
 cases Nat.beq b' b <;> simp
@[go_sem] theorem C7E {row : List V} {j n : Nat} : F5 row j n true = if j + n ≤ row.length then some (.agg ((row.drop j).take n)) else none := by
 unfold F5
 by_cases h : j + n ≤ row.length
 ·rw [if_pos h, Nat.ble_eq_true_of_le h]; rfl
 ·rw [if_neg h]
  have : Nat.ble (j + n) row.length = false := by
   cases hb : Nat.ble (j + n) row.length with
   | false => rfl
   | true => exact (h (Nat.le_of_ble_eq_true hb)).elim
  rw [this]; rfl
@[go_sem] theorem C8G {row : List V} {j n : Nat} : F5 row j n false = row[j]? := rfl
theorem C1J {α : Type} {i j : Nat} {a b : α} : (bif Nat.ble i j then a else b) = if i ≤ j then a else b := by
 by_cases h : i ≤ j
 ·rw [if_pos h, Nat.ble_eq_true_of_le h]; rfl
 ·rw [if_neg h]
  have : Nat.ble i j = false := by
   cases hb : Nat.ble i j with
   | false => rfl
   | true => exact (h (Nat.le_of_ble_eq_true hb)).elim
  rw [this]; rfl
@[go_sem] theorem C8i {α : Type} {i j k l : Nat} {a b : α} : (bif Nat.beq i j && Nat.ble k l then a else b) = if i = j then (if k ≤ l then a else b) else b := by
 rw [← A8Z, ← C1J]
 cases Nat.beq i j <;> rfl
attribute [go_sem] A8Z C1J
@[go_sem] theorem D1t {sl : List (Nat × V)} {h : A2} {n i : Nat} : St.ev ⟨sl, h, n⟩ (.t i) = C8 sl i := rfl
section
variable {d : Nat} {h : A2} {φ : Nat → Nat → Nat → Nat → V}
attribute [go_sem] V.sub q7 W3
theorem F1 : ∃ φ, frz d h = V.sub φ := by cases d <;> exact ⟨_, rfl⟩
@[go_sem] theorem C2P {j : IntKind} {z : Int} : frz d h (.int j z) = .int j z := by obtain ⟨φ, e⟩ := F1 (d := d) (h := h); rw [e, V.sub]
@[go_sem] theorem C9T {b : Bool} : frz d h (.bool b) = .bool b := by obtain ⟨φ, e⟩ := F1 (d := d) (h := h); rw [e, V.sub]
@[go_sem] theorem D0H {b : List UInt8} : frz d h (.str b) = .str b := by obtain ⟨φ, e⟩ := F1 (d := d) (h := h); rw [e, V.sub]
@[go_sem] theorem C9f : frz d h .undef = .undef := by obtain ⟨φ, e⟩ := F1 (d := d) (h := h); rw [e, V.sub]
@[go_sem] theorem C9Q : frz d h .nilp = .nilp := by obtain ⟨φ, e⟩ := F1 (d := d) (h := h); rw [e, V.sub]
@[go_sem] theorem D0T : frz d h .err = .err := by obtain ⟨φ, e⟩ := F1 (d := d) (h := h); rw [e, V.sub]
@[go_sem] theorem C9U {k : IntKind} : frz d h (.anyi k) = .anyi k := by obtain ⟨φ, e⟩ := F1 (d := d) (h := h); rw [e, V.sub]
@[go_sem] theorem C9O : frz d h .nilm = .nilm := by obtain ⟨φ, e⟩ := F1 (d := d) (h := h); rw [e, V.sub]
@[go_sem] theorem C9C : frz d h .nils = .isl [] := by obtain ⟨φ, e⟩ := F1 (d := d) (h := h); rw [e, V.sub]
@[go_sem] theorem D0I {cs : List V} : frz d h (.agg cs) = .agg (cs.map (frz d h)) := by obtain ⟨φ, e⟩ := F1 (d := d) (h := h); rw [e, V.sub, q7]
@[go_sem] theorem D0N {cs : List V} : frz d h (.tup cs) = .tup (cs.map (frz d h)) := by obtain ⟨φ, e⟩ := F1 (d := d) (h := h); rw [e, V.sub, q7]
@[go_sem] theorem D0Y {es : List (List V)} : frz d h (.isl es) = .isl (es.map fun r => r.map (frz d h)) := by obtain ⟨φ, e⟩ := F1 (d := d) (h := h); rw [e, V.sub, W3]
@[go_sem] theorem D1p {b st i n : Nat} : frz (d + 1) h (.sl b st i n) = match n6 h (.sl b st i n) with | some rs => .isl (rs.map fun r => r.map (frz d h)) | none => .undef := by rw [frz, V.sub]; rfl
end
theorem A4.pureF {f : FuncId} {xs : List V} {r : V} {h : A2} {n : Nat} {k : Res} (hp : Pure P f xs r) (has : xs.map (V.sub J2) = xs) (hk : k r h n) : A4 P f xs h n k := A4.pure hp has hk
theorem A0v.pureF {f : FuncId} {xs : List V} {r : V} {h : A2} {n : Nat} {k : Res} (hp : Pure P f xs r) (has : xs.map (V.sub J2) = xs) (hk : k r h n) : A0v P f xs k h n := ⟨r, fun _ h' => A4.pureF hp has h', hk⟩
def A1Q (s : List (Nat × V)) : List (Nat × V) → Prop
 | [] => True
 | p :: r => C8 s p.1 = p.2 ∧ A1Q s r
def B3T (e : Nat × Nat × Blk) : A2 → Prop
 | [] => False
 | x :: r => x = e ∨ B3T e r
def A8o (h : A2) : A2 → Prop
 | [] => True
 | e :: r => B3T e h ∧ A8o h r
theorem E5 {s : List (Nat × V)} : ∀ {l : List (Nat × V)}, A1Q s l ↔ ∀ p ∈ l, p.2 = C8 s p.1
 | [] => by simp [A1Q]
 | p :: r => by simp only [A1Q, E5, List.forall_mem_cons]; rw [eq_comm]
theorem B4A {e : Nat × Nat × Blk} : ∀ {l : A2}, B3T e l ↔ e ∈ l
 | [] => by simp [B3T]
 | p :: r => by simp only [B3T, B4A, List.mem_cons]; rw [eq_comm]
theorem A9d {h : A2} : ∀ {l : A2}, A8o h l ↔ ∀ p ∈ l, p ∈ h
 | [] => by simp [A8o]
 | p :: r => by simp only [A8o, A9d, List.forall_mem_cons, B4A]
@[go_sem] theorem D0g {s s' : St} : D1 s s' = (A1Q s.sl s'.sl ∧ A8o s.h s'.h ∧ s.n ≤ s'.n) := by
 rw [eq_iff_iff, E5, A9d]; exact Iff.rfl
@[go_sem] theorem C6y {s : List (Nat × V)} : A1Q s [] = True := rfl
@[go_sem] theorem C4r {s : List (Nat × V)} {p : Nat × V} {r : List (Nat × V)} : A1Q s (p :: r) = (C8 s p.1 = p.2 ∧ A1Q s r) := rfl
@[go_sem] theorem C9N {e : Nat × Nat × Blk} : B3T e [] = False := rfl
@[go_sem] theorem C8M {e x : Nat × Nat × Blk} {r : A2} : B3T e (x :: r) = (x = e ∨ B3T e r) := rfl
@[go_sem] theorem C7R {h : A2} : A8o h [] = True := rfl
@[go_sem] theorem C6b {h r : A2} {e : Nat × Nat × Blk} : A8o h (e :: r) = (B3T e h ∧ A8o h r) := rfl
attribute [go_sem] Prod.mk.injEq V.int.injEq V.bool.injEq V.str.injEq V.agg.injEq V.tup.injEq V.isl.injEq V.sl.injEq V.ptr.injEq V.mp.injEq V.yld.injEq Blk.loop.injEq Blk.rows.injEq List.cons.injEq
attribute [go_sem] List.length_map List.drop_zero List.take_length List.length_append List.length_cons List.length_nil List.length_set List.length_replicate
attribute [go_sem] List.cons_append List.nil_append
attribute [go_sem] true_or or_true or_false false_or Nat.le_refl false_implies implies_true forall_const
end
end Go.Abs
attribute [go_sem] Nat.reduceEqDiff Nat.reduceAdd Nat.reduceSub Nat.reduceMul Nat.reduceLeDiff Nat.reduceLT Nat.reduceBEq Int.reduceToNat Int.reduceLE Int.reduceLT Int.reduceEq Int.reduceNe Int.reduceAdd Int.reduceSub Int.reduceNeg Int.toNat_natCast Int.cast_ofNat_Int Int.natCast_zero Int.natCast_one reduceCtorEq reduceIte Nat.lt_irrefl and_self not_false_eq_true not_true_eq_false
