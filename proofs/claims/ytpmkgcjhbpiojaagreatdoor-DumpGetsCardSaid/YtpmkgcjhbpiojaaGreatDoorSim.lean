/-
 The evaluator as rewrite rules. No condition.
-/
import Derived.Test.YtpmkgcjhbpiojaaGreatDoorGo
set_option linter.unusedVariables false
set_option linter.unusedSimpArgs false
namespace Go.Abs
variable {PK : G9} {pk : Option G9}
theorem Run.unf {c : Cf} {x y : AC} {k : List AItem} {s : St} (h : x = y) (hr : Run c (.code y :: k) s) : Run c (.code x :: k) s := h ▸ hr
section
variable {c : Cf} {P : Program} {m : Nat} {k : List AItem} {s : St}
attribute [go_sem] go.eq_1 go.eq_2 go.eq_3 go.eq_4 go.eq_5 go.eq_6 go.eq_7 go.eq_8 go.eq_9 go.eq_10 go.eq_11 go.eq_12 go.eq_13 go.eq_14 go.eq_15 go.eq_16
@[go_sem] theorem C9j {K : St → Prop} : A7O P PK [] K s = True := rfl
@[go_sem] theorem C6z {l : List AI} {r : List (List AI)} {K : St → Prop} : A7O P PK (l :: r) K s = (vo P PK l K s ∧ A7O P PK r K s) := rfl
@[go_sem] theorem D1q {K : St → Prop} : vo P PK [] K s = K s := rfl
@[go_sem] theorem D0J {i : AI} {r : List AI} {K : St → Prop} : vo P PK (i :: r) K s = F1 P PK i s (vo P PK r K) := rfl
@[go_sem ↓] theorem C7n {sl : List (Nat × V)} {h : A2} {n : Nat} {d : Option Nat} {o : AO} {K : St → Prop} : F1 P PK ⟨d, none, o⟩ ⟨sl, h, n⟩ K = B0 P PK o ⟨sl, h, n⟩ (fin d sl K) := rfl
@[go_sem ↓] theorem C6v {sl : List (Nat × V)} {h : A2} {n : Nat} {d : Option Nat} {o : AO} {j : Nat} {b : Bool} {K : St → Prop} : F1 P PK ⟨d, some (j, b), o⟩ ⟨sl, h, n⟩ K = stepG (C7 sl j) b (vo P PK [⟨d, none, o⟩] K ⟨D4 sl j (.bool b), h, n⟩) (fin d (D4 sl j (.bool !b)) K (.cst Go.undef) h n) (fin d sl K (.cst Go.undef) h n) := rfl
@[congr] theorem C4D {v v' : V} {w : Bool} {A B C : Prop} (h : v = v') : stepG v w A B C = stepG v' w A B C := by rw [h]
@[congr] theorem C5d {v v' : V} {A B : Prop} (h : v = v') : A6J v A B = A6J v' A B := by rw [h]
@[go_sem] theorem C9I {A B C : Prop} : stepG (.bool true) true A B C = A := by simp [stepG]
@[go_sem] theorem D0n {A B C : Prop} : stepG (.bool false) false A B C = A := by simp [stepG]
@[go_sem] theorem C9L {A B C : Prop} : stepG (.bool true) false A B C = B := by simp [stepG]
@[go_sem] theorem C9r {A B C : Prop} : stepG (.bool false) true A B C = B := by simp [stepG]
@[go_sem] theorem D0F {w : Bool} {A B C : Prop} : stepG (.cst Go.undef) w A B C = C := by simp [stepG, A8N, Go.undef]
@[go_sem low] theorem D1m {b : Bool} {A B C : Prop} : stepG (.bool b) true A B C = ((b = true → A) ∧ (b = false → B)) := rfl
@[go_sem low] theorem D0U {b : Bool} {A B C : Prop} : stepG (.bool b) false A B C = ((b = false → A) ∧ (b = true → B)) := rfl
@[go_sem] theorem D1c {A B : Prop} : A6J (.bool true) A B = A := by simp [A6J]
@[go_sem] theorem D0S {A B : Prop} : A6J (.bool false) A B = B := by simp [A6J]
@[go_sem low] theorem D0V {b : Bool} {A B : Prop} : A6J (.bool b) A B = ((b = true → A) ∧ (b = false → B)) := rfl
@[go_sem ↓] theorem D0j {d : Nat} {sl : List (Nat × V)} {K : St → Prop} {r : V} {h : A2} {n : Nat} : fin (some d) sl K r h n = K ⟨D4 sl d r, h, n⟩ := rfl
@[go_sem ↓] theorem D0i {sl : List (Nat × V)} {K : St → Prop} {r : V} {h : A2} {n : Nat} : fin none sl K r h n = K ⟨sl, h, n⟩ := rfl
@[go_sem ↓] theorem C7Y {x : Opd} {sl : List (Nat × V)} {h : A2} {n : Nat} {k : Res} : B0 P PK (.mov x) ⟨sl, h, n⟩ k = k (St.ev ⟨sl, h, n⟩ x) h n := rfl
@[go_sem ↓] theorem C7c {c a b : Opd} {sl : List (Nat × V)} {h : A2} {n : Nat} {k : Res} : B0 P PK (.pick c a b) ⟨sl, h, n⟩ k = F0 (B5H (St.ev ⟨sl, h, n⟩ c) (St.ev ⟨sl, h, n⟩ a) (St.ev ⟨sl, h, n⟩ b)) k h n := rfl
@[go_sem ↓] theorem C4L {x : Opd} {sl : List (Nat × V)} {h : A2} {n : Nat} {k : Res} : B0 P PK (.nilck x) ⟨sl, h, n⟩ k = F0 (B1S (St.ev ⟨sl, h, n⟩ x)) k h n := rfl
@[go_sem ↓] theorem C8Z {nm sz : Nat} {x : Opd} {sl : List (Nat × V)} {h : A2} {n : Nat} {k : Res} : B0 P PK (.box nm sz x) ⟨sl, h, n⟩ k = B4f nm sz (Y6 (St.ev ⟨sl, h, n⟩ x)) k h n := rfl
@[go_sem ↓] theorem C4H {z : List V} {ps : List (Nat × Nat × Opd)} {sl : List (Nat × V)} {h : A2} {n : Nat} {k : Res} : B0 P PK (.build z ps) ⟨sl, h, n⟩ k = F0 ((A1H ⟨sl, h, n⟩ z ps).map .agg) k h n := rfl
@[go_sem ↓] theorem C4O {nm sz : Nat} {xs : List Opd} {sl : List (Nat × V)} {h : A2} {n : Nat} {k : Res} : B0 P PK (.mkrow nm sz xs) ⟨sl, h, n⟩ k = B6P nm sz (G0 sz ⟨sl, h, n⟩ xs) k h n := rfl
@[go_sem ↓] theorem C4K {sz : Nat} {xs : List Opd} {sl : List (Nat × V)} {h : A2} {n : Nat} {k : Res} : B0 P PK (.mkisl sz xs) ⟨sl, h, n⟩ k = B6n (G0 sz ⟨sl, h, n⟩ xs) k h n := rfl
def A1d (rs : List (List V)) (i : Nat) (f : List V → Prop) : Prop :=
 match rs[i]? with
 | some row => f row
 | none => False
def A8O (b : Option Blk) (f : Nat → List (List V) → Prop) : Prop :=
 match b with
 | some (.rows sz rs) => f sz rs
 | _ => False
def B1K (h0 : A2) (x : V) (m : Nat) (agg : Bool) (k : Res) (h : A2) (n : Nat) : Prop := F0 (A6n h0 x m agg) k h n
def A9L (h0 : A2) (x : V) (cs : Option (List V)) (m : Nat) (k : Res) (n : Nat) : Prop :=
 match x with
 | .ptr b st i j => A7x (B1f h0 b st i j m (A2.get h0 b st) cs) k n
 | _ => False
@[congr] theorem C4I {rs rs' : List (List V)} {i i' : Nat} {f : List V → Prop} (e0 : rs = rs') (e1 : i = i') : A1d rs i f = A1d rs' i' f := by rw [e0, e1]
@[congr] theorem C4X {b b' : Option Blk} {f : Nat → List (List V) → Prop} (e0 : b = b') : A8O b f = A8O b' f := by rw [e0]
@[congr] theorem C4t {h0 : A2} {x x' : V} {m : Nat} {agg : Bool} {k : Res} {h : A2} {n : Nat} (e : x = x') : B1K h0 x m agg k h n = B1K h0 x' m agg k h n := by rw [e]
@[congr] theorem C3m {h0 : A2} {x x' : V} {cs cs' : Option (List V)} {m : Nat} {k : Res} {n : Nat} (e : x = x') (e1 : cs = cs') : A9L h0 x cs m k n = A9L h0 x' cs' m k n := by rw [e, e1]
@[go_sem ↓] theorem C6e {m : Nat} {agg : Bool} {x : Opd} {sl : List (Nat × V)} {h : A2} {n : Nat} {k : Res} : B0 P PK (.load m agg x) ⟨sl, h, n⟩ k = B1K h (St.ev ⟨sl, h, n⟩ x) m agg k h n := rfl
@[go_sem ↓] theorem C5b {m : Nat} {x v : Opd} {sl : List (Nat × V)} {h : A2} {n : Nat} {k : Res} : B0 P PK (.store m x v) ⟨sl, h, n⟩ k = A9L h (St.ev ⟨sl, h, n⟩ x) (Y6 (St.ev ⟨sl, h, n⟩ v)) m k n := by
 simp only [B0, A9L, B1O]
 cases St.ev ⟨sl, h, n⟩ x <;> rfl
@[go_sem] theorem C7M {h0 : A2} {b st i j m : Nat} {agg : Bool} {k : Res} {h : A2} {n : Nat} : B1K h0 (.ptr b st i j) m agg k h n = A8O (A2.get h0 b st) fun _ rs => A1d rs i fun row => F0 (F6 row j m agg) k h n := by
 simp only [B1K, A6n, A8O, A1d]
 cases A2.get h0 b st with
 | none => rfl
 | some x =>
  cases x with
  | rows sz rs => simp only; cases rs[i]? <;> rfl
  | map es => rfl
  | loop => rfl
  | mapb => rfl
  | iter => rfl
  | raw => rfl
@[go_sem] theorem C7q {h0 : A2} {es : List (List V)} {i j m : Nat} {agg : Bool} {k : Res} {h : A2} {n : Nat} : B1K h0 (.iptr es i j) m agg k h n = A1d es i fun row => F0 (F6 row j m agg) k h n := by
 simp only [B1K, A6n, A1d]
 cases es[i]? <;> rfl
@[go_sem] theorem C7v {h0 : A2} {b st i j m : Nat} {cs : List V} {k : Res} {n : Nat} : A9L h0 (.ptr b st i j) (some cs) m k n =
  A8O (A2.get h0 b st) fun sz rs => A1d rs i fun row => cs.length = m ∧ j + m ≤ row.length ∧ k .undef (A2.put h0 b st (.rows sz (rs.set i (I7 row j cs)))) n := by
 simp only [A9L, B1f, A8O, A1d]
 cases A2.get h0 b st with
 | none => rfl
 | some x =>
  cases x with
  | map es => rfl
  | loop => rfl
  | mapb => rfl
  | iter => rfl
  | raw => rfl
  | rows sz rs =>
   simp only
   cases rs[i]? with
   | none => rfl
   | some row =>
    simp only
    by_cases h1 : cs.length = m
    ·by_cases h2 : j + m ≤ row.length
     ·rw [h1, Nat.beq_refl, Nat.ble_eq_true_of_le h2]; simp [A7x, h2]
     ·have : Nat.ble (j + m) row.length = false := by
       cases hb : Nat.ble (j + m) row.length with
       | false => rfl
       | true => exact (h2 (Nat.le_of_ble_eq_true hb)).elim
      rw [this]; simp [A7x, h2]
    ·have : Nat.beq cs.length m = false := by
      cases hb : Nat.beq cs.length m with
      | false => rfl
      | true => exact (h1 (Nat.eq_of_beq_eq_true hb)).elim
     rw [this]; simp [A7x, h1]
@[go_sem] theorem C6n {sz : Nat} {rs : List (List V)} {f : Nat → List (List V) → Prop} : A8O (some (.rows sz rs)) f = f sz rs := rfl
@[go_sem] theorem C5l {f : Nat → List (List V) → Prop} : A8O none f = False := rfl
@[go_sem] theorem C8i {es : List (V × V)} {f : Nat → List (List V) → Prop} : A8O (some (.map es)) f = False := rfl
@[go_sem high] theorem C8V {i : Nat} {f : List V → Prop} : A1d [] i f = False := by simp [A1d]
@[go_sem high] theorem C5T {r : List V} {rs : List (List V)} {f : List V → Prop} : A1d (r :: rs) 0 f = f r := rfl
theorem B6g {rs : List (List V)} {i : Nat} {f : List V → Prop} : A1d rs i f = (i < rs.length ∧ ∀ row, rs[i]? = some row → f row) := by
 unfold A1d
 cases h : rs[i]? with
 | none =>
  have := List.getElem?_eq_none_iff.1 h
  simp; omega
 | some row =>
  have := (List.getElem?_eq_some_iff.1 h).1
  simp [this]
@[go_sem low] theorem C9i {rs : List (List V)} {i : Nat} {f : List V → Prop} : A1d rs i f = (i < rs.length ∧ ∀ row, rs[i]? = some row → f row) := B6g
@[go_sem] theorem C8I {α : Type} {xs : List α} {F : α → List V} {i : Nat} {f : List V → Prop} : A1d (xs.map F) i f = (i < xs.length ∧ ∀ x, xs[i]? = some x → f (F x)) := by
 rw [B6g, List.length_map]
 refine propext (and_congr_right fun _ => ?_)
 rw [List.getElem?_map]
 constructor
 ·intro h x hx; exact h _ (by rw [hx]; rfl)
 ·intro h row hr
  rw [Option.map_eq_some_iff] at hr
  obtain ⟨x, hx, rfl⟩ := hr
  exact h x hx
@[go_sem] theorem C2L {α : Type} {xs : List α} {F : α → List V} : (xs.map F).take xs.length = xs.map F := by
 rw [List.take_of_length_le]; simp
@[go_sem ↓] theorem C5h {off : Nat} {x : Opd} {sl : List (Nat × V)} {h : A2} {n : Nat} {k : Res} : B0 P PK (.faddr off x) ⟨sl, h, n⟩ k = F0 (B1x off (St.ev ⟨sl, h, n⟩ x)) k h n := rfl
@[go_sem ↓] theorem C4M {sz : Nat} {x i : Opd} {sl : List (Nat × V)} {h : A2} {n : Nat} {k : Res} : B0 P PK (.iaddr sz x i) ⟨sl, h, n⟩ k = A2z sz (St.ev ⟨sl, h, n⟩ x) (St.ev ⟨sl, h, n⟩ i) k h n := rfl
@[go_sem ↓] theorem C3T {len sz : Nat} {x i : Opd} {sl : List (Nat × V)} {h : A2} {n : Nat} {k : Res} : B0 P PK (.iaddrA len sz x i) ⟨sl, h, n⟩ k = A1c len sz (St.ev ⟨sl, h, n⟩ x) (St.ev ⟨sl, h, n⟩ i) k h n := rfl
@[go_sem ↓] theorem C7G {off m : Nat} {agg : Bool} {x : Opd} {sl : List (Nat × V)} {h : A2} {n : Nat} {k : Res} : B0 P PK (.fld off m agg x) ⟨sl, h, n⟩ k = F0 (C1D off m agg (St.ev ⟨sl, h, n⟩ x)) k h n := rfl
@[go_sem ↓] theorem C7O {x i : Opd} {sl : List (Nat × V)} {h : A2} {n : Nat} {k : Res} : B0 P PK (.idx x i) ⟨sl, h, n⟩ k = B3Z (St.ev ⟨sl, h, n⟩ x) (St.ev ⟨sl, h, n⟩ i) k h n := rfl
@[go_sem ↓] theorem C8D {i : Nat} {x : Opd} {sl : List (Nat × V)} {h : A2} {n : Nat} {k : Res} : B0 P PK (.ext i x) ⟨sl, h, n⟩ k = F0 (C2n i (St.ev ⟨sl, h, n⟩ x)) k h n := rfl
@[go_sem ↓] theorem C7B {op : BinOp} {x y : Opd} {sl : List (Nat × V)} {h : A2} {n : Nat} {k : Res} : B0 P PK (.binw op x y) ⟨sl, h, n⟩ k = F0 (B1p op (St.ev ⟨sl, h, n⟩ x) (St.ev ⟨sl, h, n⟩ y)) k h n := rfl
@[go_sem] theorem C7T {j : IntKind} {a b : Int} : B1p .add (.int j a) (.int j b) = some (.int j (j.wrap (a + b))) := if_pos rfl
@[go_sem] theorem C8g {j : IntKind} {a b : Int} : B1p .sub (.int j a) (.int j b) = some (.int j (j.wrap (a - b))) := if_pos rfl
@[go_sem] theorem C8F {j : IntKind} {a b : Int} : B1p .mul (.int j a) (.int j b) = some (.int j (j.wrap (a * b))) := if_pos rfl
@[go_sem ↓] theorem C7I {op : BinOp} {x y : Opd} {sl : List (Nat × V)} {h : A2} {n : Nat} {k : Res} : B0 P PK (.bin op x y) ⟨sl, h, n⟩ k = T2 op (St.ev ⟨sl, h, n⟩ x) (St.ev ⟨sl, h, n⟩ y) k h n := rfl
@[go_sem ↓] theorem C8n {kind : Nat} {neg : Bool} {x y : Opd} {sl : List (Nat × V)} {h : A2} {n : Nat} {k : Res} : B0 P PK (.eqp kind neg x y) ⟨sl, h, n⟩ k = F0 (bif B0C kind (St.ev ⟨sl, h, n⟩ x) then B6O neg (St.ev ⟨sl, h, n⟩ x) (St.ev ⟨sl, h, n⟩ y) else none) k h n := rfl
@[go_sem ↓] theorem C8s {neg : Bool} {t : ETy} {x y : Opd} {sl : List (Nat × V)} {h : A2} {n : Nat} {k : Res} : B0 P PK (.eqa neg t x y) ⟨sl, h, n⟩ k = F0 (C0L neg t (St.ev ⟨sl, h, n⟩ x) (St.ev ⟨sl, h, n⟩ y)) k h n := rfl
@[go_sem ↓] theorem C6g {x : Opd} {sl : List (Nat × V)} {h : A2} {n : Nat} {k : Res} : B0 P PK (.negw x) ⟨sl, h, n⟩ k = F0 (B3x (St.ev ⟨sl, h, n⟩ x)) k h n := rfl
@[go_sem] theorem C7N {j : IntKind} {a : Int} : B3x (.int j a) = some (.int j (j.wrap (0 - a))) := by rw [B3x]
@[go_sem ↓] theorem D0E {op : UnOp} {x : Opd} {sl : List (Nat × V)} {h : A2} {n : Nat} {k : Res} : B0 P PK (.un op x) ⟨sl, h, n⟩ k = unK op (St.ev ⟨sl, h, n⟩ x) k h n := rfl
@[go_sem ↓] theorem C5c {neg : Bool} {x : Opd} {sl : List (Nat × V)} {h : A2} {n : Nat} {k : Res} : B0 P PK (.isnil neg x) ⟨sl, h, n⟩ k = F0 (B1J neg (St.ev ⟨sl, h, n⟩ x)) k h n := rfl
@[go_sem ↓] theorem C5r {j : IntKind} {x : Opd} {sl : List (Nat × V)} {h : A2} {n : Nat} {k : Res} : B0 P PK (.conv j x) ⟨sl, h, n⟩ k = F0 (B5Y j (St.ev ⟨sl, h, n⟩ x)) k h n := rfl
@[go_sem ↓] theorem C8R {kind : Nat} {x : Opd} {sl : List (Nat × V)} {h : A2} {n : Nat} {k : Res} : B0 P PK (.len kind x) ⟨sl, h, n⟩ k = F0 (C2f h kind (St.ev ⟨sl, h, n⟩ x)) k h n := rfl
@[go_sem ↓] theorem C6J {m : Nat} {sl : List (Nat × V)} {h : A2} {n : Nat} {k : Res} : B0 P PK (.lenc m) ⟨sl, h, n⟩ k = k (.int .i64 m) h n := rfl
@[go_sem ↓] theorem D0c {mx : Bool} {xs : List Opd} {sl : List (Nat × V)} {h : A2} {n : Nat} {k : Res} : B0 P PK (.mm mx xs) ⟨sl, h, n⟩ k = F0 (mmV mx (xs.map (St.ev ⟨sl, h, n⟩))) k h n := rfl
@[go_sem ↓] theorem C9d {nm sz : Nat} {b x : Opd} {sl : List (Nat × V)} {h : A2} {n : Nat} {k : Res} : B0 P PK (.app nm sz b x) ⟨sl, h, n⟩ k = A6A 137438953472 nm sz (St.ev ⟨sl, h, n⟩ b) (A2T h (St.ev ⟨sl, h, n⟩ x)) k h n := rfl
@[go_sem ↓] theorem C8J {L nm sz : Nat} {b x : Opd} {sl : List (Nat × V)} {h : A2} {n : Nat} {k : Res} : B0 P PK (.apb L nm sz b x) ⟨sl, h, n⟩ k = A6A L nm sz (St.ev ⟨sl, h, n⟩ b) (A2T h (St.ev ⟨sl, h, n⟩ x)) k h n := rfl
@[go_sem ↓] theorem C6M {sz : Nat} {d x : Opd} {sl : List (Nat × V)} {h : A2} {n : Nat} {k : Res} : B0 P PK (.copy sz d x) ⟨sl, h, n⟩ k = A5Q sz (St.ev ⟨sl, h, n⟩ d) (A2T h (St.ev ⟨sl, h, n⟩ x)) k h n := rfl
@[go_sem ↓] theorem C5m {nm : Nat} {z : List V} {x : Opd} {sl : List (Nat × V)} {h : A2} {n : Nat} {k : Res} : B0 P PK (.mksl nm z x) ⟨sl, h, n⟩ k = B0E nm z (St.ev ⟨sl, h, n⟩ x) k h n := rfl
@[go_sem ↓] theorem C8G {sz : Nat} {x : Opd} {lo hi : Option Opd} {sl : List (Nat × V)} {h : A2} {n : Nat} {k : Res} : B0 P PK (.slc sz x lo hi) ⟨sl, h, n⟩ k = A8G sz (St.ev ⟨sl, h, n⟩ x) (lo.map (St.ev ⟨sl, h, n⟩)) (hi.map (St.ev ⟨sl, h, n⟩)) k h n := rfl
@[go_sem ↓] theorem C8z {x : Opd} {lo hi : Option Opd} {sl : List (Nat × V)} {h : A2} {n : Nat} {k : Res} : B0 P PK (.sls x lo hi) ⟨sl, h, n⟩ k = B0M (St.ev ⟨sl, h, n⟩ x) (lo.map (St.ev ⟨sl, h, n⟩)) (hi.map (St.ev ⟨sl, h, n⟩)) k h n := rfl
@[go_sem ↓] theorem C4l {f : FuncId} {xs : List Opd} {sl : List (Nat × V)} {h : A2} {n : Nat} {k : Res} : B0 P PK (.pcall f xs) ⟨sl, h, n⟩ k = A2B P f (xs.map (St.ev ⟨sl, h, n⟩)) k h n := rfl
@[congr] theorem C2N {f : FuncId} {as as' : List V} {k : Res} {h : A2} {n : Nat} (e : as = as') : A2B P f as k h n = A2B P f as' k h n := by rw [e]
@[go_sem ↓] theorem C8v {fn neg : Bool} {x : Opd} {sl : List (Nat × V)} {h : A2} {n : Nat} {k : Res} : B0 P PK (.eqn fn neg x) ⟨sl, h, n⟩ k = A5i fn neg (St.ev ⟨sl, h, n⟩ x) k h n := rfl
@[congr] theorem C5q {fn neg : Bool} {x x' : V} {k : Res} {h : A2} {n : Nat} (e : x = x') : A5i fn neg x k h n = A5i fn neg x' k h n := by rw [e]
@[go_sem] theorem C8h {neg : Bool} {k : Res} {h : A2} {n : Nat} : A5i false neg .nils k h n = k (.bool !neg) h n := rfl
@[go_sem] theorem C9G {neg : Bool} {es : List (List V)} {k : Res} {h : A2} {n : Nat} : A5i false neg (.isl es) k h n = (k (.bool neg) h n ∧ (es = [] → k (.bool !neg) h n)) := rfl
@[go_sem] theorem D0N {neg : Bool} {b st i m : Nat} {k : Res} {h : A2} {n : Nat} : A5i false neg (.sl b st i m) k h n = (k (.bool neg) h n ∧ (m = 0 → k (.bool !neg) h n)) := rfl
@[go_sem] theorem D1j {neg : Bool} {f : FuncId} {cs : List V} {k : Res} {h : A2} {n : Nat} : A5i true neg (.fn f cs) k h n = k (.bool neg) h n := rfl
@[go_sem] theorem C8o {neg : Bool} {k : Res} {h : A2} {n : Nat} : A5i true neg (.cst .nilFunc) k h n = k (.bool !neg) h n := rfl
@[go_sem ↓] theorem C6k {f : FuncId} {xs : List Opd} {sl : List (Nat × V)} {h : A2} {n : Nat} {k : Res} : B0 P PK (.mkfn f xs) ⟨sl, h, n⟩ k = k (.fn f (xs.map (St.ev ⟨sl, h, n⟩))) h n := rfl
@[go_sem ↓] theorem C4p {nm : Nat} {sl : List (Nat × V)} {h : A2} {n : Nat} {k : Res} : B0 P PK (.mkmap nm) ⟨sl, h, n⟩ k = k (.mp nm n) (A2.put h nm n (.map [])) (n + 1) := rfl
@[go_sem ↓] theorem C5Z {kd : Nat} {z : V} {ok : Bool} {m x : Opd} {sl : List (Nat × V)} {h : A2} {n : Nat} {k : Res} : B0 P PK (.look kd z ok m x) ⟨sl, h, n⟩ k = A5N kd z ok (St.ev ⟨sl, h, n⟩ m) (St.ev ⟨sl, h, n⟩ x) k h n := rfl
@[go_sem ↓] theorem C6m {kd : Nat} {m x v : Opd} {sl : List (Nat × V)} {h : A2} {n : Nat} {k : Res} : B0 P PK (.mput kd m x v) ⟨sl, h, n⟩ k = A8J kd (St.ev ⟨sl, h, n⟩ m) (St.ev ⟨sl, h, n⟩ x) (St.ev ⟨sl, h, n⟩ v) k h n := rfl
@[go_sem ↓] theorem C6C {kd : Nat} {m x : Opd} {sl : List (Nat × V)} {h : A2} {n : Nat} {k : Res} : B0 P PK (.mdel kd m x) ⟨sl, h, n⟩ k = A7v kd (St.ev ⟨sl, h, n⟩ m) (St.ev ⟨sl, h, n⟩ x) k h n := rfl
@[go_sem ↓] theorem D0m {l : Bool} {x y : Opd} {sl : List (Nat × V)} {h : A2} {n : Nat} {k : Res} : B0 P PK (.sh l x y) ⟨sl, h, n⟩ k = shK l (St.ev ⟨sl, h, n⟩ x) (St.ev ⟨sl, h, n⟩ y) k h n := rfl
@[go_sem ↓] theorem C6A {len sz m : Nat} {agg : Bool} {x y : Opd} {sl : List (Nat × V)} {h : A2} {n : Nat} {k : Res} : B0 P PK (.idxA len sz m agg x y) ⟨sl, h, n⟩ k = A6C len sz m agg (St.ev ⟨sl, h, n⟩ x) (St.ev ⟨sl, h, n⟩ y) k h n := rfl
@[go_sem ↓] theorem C5v {x : Opd} {sl : List (Nat × V)} {h : A2} {n : Nat} {k : Res} : B0 P PK (.cap0 x) ⟨sl, h, n⟩ k = F0 (B5N (St.ev ⟨sl, h, n⟩ x)) k h n := rfl
@[go_sem] theorem C6E : B5N .nils = some (.int .i64 0) := rfl
@[go_sem ↓] theorem C8C {nm : Nat} {z : List V} {x y : Opd} {sl : List (Nat × V)} {h : A2} {n : Nat} {k : Res} : B0 P PK (.grw nm z x y) ⟨sl, h, n⟩ k = B4C nm z (St.ev ⟨sl, h, n⟩ x) (St.ev ⟨sl, h, n⟩ y) k h n := rfl
@[congr] theorem C7r {nm : Nat} {z : List V} {x x' y y' : V} {k : Res} {h : A2} {n : Nat} (e0 : x = x') (e1 : y = y') : B4C nm z x y k h n = B4C nm z x' y' k h n := by rw [e0, e1]
@[go_sem] theorem C9c {nm : Nat} {z : List V} {m : Int} {k : Res} {h : A2} {n : Nat} : B4C nm z .nils (.int .i64 m) k h n = (0 < m ∧ m ≤ 137438953472 ∧ k (.sl nm n 0 m.toNat) (A2.put h nm n (.rows z.length (List.replicate m.toNat z))) (n + 1)) := rfl
@[go_sem ↓] theorem C8W {nm : Nat} {x : Opd} {sl : List (Nat × V)} {h : A2} {n : Nat} {k : Res} : B0 P PK (.rgm nm x) ⟨sl, h, n⟩ k = B3Q nm (St.ev ⟨sl, h, n⟩ x) k h n := rfl
@[congr] theorem C7C {nm : Nat} {x x' : V} {k : Res} {h : A2} {n : Nat} (e0 : x = x') : B3Q nm x k h n = B3Q nm x' k h n := by rw [e0]
@[go_sem] theorem D1a {nm b st : Nat} {k : Res} {h : A2} {n : Nat} : B3Q nm (.mp b st) k h n = (nm ≠ b ∧ B7g nm b st (A2.get h b st) k h n) := rfl
@[congr] theorem C6t {nm b st : Nat} {B B' : Option Blk} {k : Res} {h : A2} {n : Nat} (e0 : B = B') : B7g nm b st B k h n = B7g nm b st B' k h n := by rw [e0]
@[go_sem] theorem C9U {nm b st : Nat} {es : List (V × V)} {k : Res} {h : A2} {n : Nat} : B7g nm b st (some (.map es)) k h n = ∀ (bs : List Nat) (ck : Nat), bs.length = es.length → k (.ptr nm n 0 0) (A2.put (A2.put h b st (.mapb es bs ck)) nm n (.iter st es bs ck (bs.zip es) none)) (n + 1) := rfl
@[go_sem ↓] theorem C8Q {x : Opd} {sl : List (Nat × V)} {h : A2} {n : Nat} {k : Res} : B0 P PK (.nxm x) ⟨sl, h, n⟩ k = B3L (St.ev ⟨sl, h, n⟩ x) k h n := rfl
@[congr] theorem C6D {x x' : V} {k : Res} {h : A2} {n : Nat} (e0 : x = x') : B3L x k h n = B3L x' k h n := by rw [e0]
@[go_sem] theorem C9V {b st : Nat} {k : Res} {h : A2} {n : Nat} : B3L (.ptr b st 0 0) k h n = B7V b st (A2.get h b st) k h n := rfl
@[congr] theorem C7E {b st : Nat} {B B' : Option Blk} {k : Res} {h : A2} {n : Nat} (e0 : B = B') : B7V b st B k h n = B7V b st B' k h n := by rw [e0]
@[go_sem] theorem C8y {b st mst : Nat} {es : List (V × V)} {bs : List Nat} {ck : Nat} {left : List (Nat × V × V)} {last : Option (V × V)} {k : Res} {h : A2} {n : Nat} : B7V b st (some (.iter mst es bs ck left last)) k h n = B1v (A1S h mst) fun mb es' bs' ck' => es' = es ∧ bs' = bs ∧ ck' = ck ∧ mb ≠ b ∧ (left = [] → k (.tup [.bool false]) (A2.put h mb mst (.map es)) n) ∧
   ∀ x e y, left = x ++ e :: y → k (.tup [.bool true, e.2.1, e.2.2]) (A2.put h b st (.iter mst es bs ck (x ++ y) (some e.2))) n := rfl
@[congr] theorem C6H {M M' : Option (Nat × Blk)} {f : Nat → List (V × V) → List Nat → Nat → Prop} (e0 : M = M') : B1v M f = B1v M' f := by rw [e0]
@[go_sem] theorem C9g {mb : Nat} {es : List (V × V)} {bs : List Nat} {ck : Nat} {f : Nat → List (V × V) → List Nat → Nat → Prop} : B1v (some (mb, .mapb es bs ck)) f = f mb es bs ck := rfl
@[go_sem] theorem C3G {e : Nat × Nat × Blk} {r : A2} {st : Nat} : A1S (e :: r) st = bif Nat.beq e.2.1 st then some (e.1, e.2.2) else A1S r st := rfl
@[go_sem ↓] theorem C8l {x : Opd} {sl : List (Nat × V)} {h : A2} {n : Nat} {k : Res} : B0 P PK (.ent x) ⟨sl, h, n⟩ k = B4M (St.ev ⟨sl, h, n⟩ x) k h n := rfl
@[congr] theorem C6l {x x' : V} {k : Res} {h : A2} {n : Nat} (e0 : x = x') : B4M x k h n = B4M x' k h n := by rw [e0]
@[go_sem] theorem C9F {b st : Nat} {k : Res} {h : A2} {n : Nat} : B4M (.ptr b st 0 0) k h n = B7w (A2.get h b st) k h n := rfl
@[congr] theorem C7f {B B' : Option Blk} {k : Res} {h : A2} {n : Nat} (e0 : B = B') : B7w B k h n = B7w B' k h n := by rw [e0]
@[go_sem] theorem C8j {mst : Nat} {es : List (V × V)} {bs : List Nat} {ck : Nat} {left : List (Nat × V × V)} {p : V × V} {k : Res} {h : A2} {n : Nat} : B7w (some (.iter mst es bs ck left (some p))) k h n = B1v (A1S h mst) fun _ es' bs' ck' => es' = es ∧ bs' = bs ∧ ck' = ck ∧ k (.tup [p.1, p.2]) h n := rfl
@[go_sem ↓] theorem C7U {x : Opd} {sl : List (Nat × V)} {h : A2} {n : Nat} {k : Res} : B0 P PK (.bst x) ⟨sl, h, n⟩ k = F0 (B5Q (A0H h (St.ev ⟨sl, h, n⟩ x))) k h n := rfl
@[go_sem ↓] theorem C5P {nm : Nat} {x : Opd} {sl : List (Nat × V)} {h : A2} {n : Nat} {k : Res} : B0 P PK (.byts nm x) ⟨sl, h, n⟩ k = A7B nm (St.ev ⟨sl, h, n⟩ x) k h n := rfl
@[go_sem ↓] theorem C4Q {nm : Nat} {xs : List Opd} {sl : List (Nat × V)} {h : A2} {n : Nat} {k : Res} : B0 P PK (.mkraw nm xs) ⟨sl, h, n⟩ k = B7U nm (G0 1 ⟨sl, h, n⟩ xs) k h n := rfl
@[congr] theorem C6j {nm : Nat} {o o' : Option (List (List V))} {k : Res} {h : A2} {n : Nat} (e0 : o = o') : B7U nm o k h n = B7U nm o' k h n := by rw [e0]
@[go_sem] theorem C8H {nm : Nat} {rs : List (List V)} {k : Res} {h : A2} {n : Nat} : B7U nm (some rs) k h n = (0 < rs.length ∧ k (.sl nm n 0 rs.length) (A2.put h nm n (.raw rs)) (n + 1)) := rfl
@[go_sem ↓] theorem C7P {x : Opd} {sl : List (Nat × V)} {h : A2} {n : Nat} {k : Res} : B0 P PK (.cvr x) ⟨sl, h, n⟩ k = B4I (St.ev ⟨sl, h, n⟩ x) k h n := rfl
@[congr] theorem C5Q {x x' : V} {k : Res} {h : A2} {n : Nat} (e0 : x = x') : B4I x k h n = B4I x' k h n := by rw [e0]
@[go_sem] theorem D0Y {b st m : Nat} {k : Res} {h : A2} {n : Nat} : B4I (.sl b st 0 m) k h n = B8d (A2.get h b st) fun rs => m = rs.length ∧ k (.sl b st 0 m) (A2.put h b st (.rows 1 rs)) n := rfl
@[congr] theorem C5Y {b b' : Option Blk} {f : List (List V) → Prop} (e0 : b = b') : B8d b f = B8d b' f := by rw [e0]
@[go_sem] theorem C9P {rs : List (List V)} {f : List (List V) → Prop} : B8d (some (.raw rs)) f = f rs := rfl
@[congr] theorem C5j {nm : Nat} {x x' : V} {k : Res} {h : A2} {n : Nat} (e0 : x = x') : A7B nm x k h n = A7B nm x' k h n := by rw [e0]
@[go_sem] theorem C8K {nm : Nat} {s : List UInt8} {k : Res} {h : A2} {n : Nat} : A7B nm (.str s) k h n = k (.sl nm n 0 s.length) (A2.put h nm n (.rows 1 (J2 s))) (n + 1) := rfl
@[go_sem] theorem C2R {s : List UInt8} : B5Q (some (J2 s)) = some (.str s) := by
 have : ∀ s : List UInt8, A9h (J2 s) = some s := by
  intro s
  induction s with
  | nil => rfl
  | cons b s ih =>
   have e : J2 (b :: s) = [.int .u8 b.toNat] :: J2 s := rfl
   rw [e, A9h, ih]
   simp
 simp only [B5Q, this]
@[go_sem ↓] theorem C8M {z : List V} {x : Opd} {sl : List (Nat × V)} {h : A2} {n : Nat} {k : Res} : B0 P PK (.clr z x) ⟨sl, h, n⟩ k = B0N z (St.ev ⟨sl, h, n⟩ x) k h n := rfl
@[go_sem ↓] theorem C7Q {nm sz : Nat} {x : Opd} {sl : List (Nat × V)} {h : A2} {n : Nat} {k : Res} : B0 P PK (.slz nm sz x) ⟨sl, h, n⟩ k = B0S nm sz (St.ev ⟨sl, h, n⟩ x) k h n := rfl
@[congr] theorem C7X {l : Bool} {x x' y y' : V} {k : Res} {h : A2} {n : Nat} (e0 : x = x') (e1 : y = y') : shK l x y k h n = shK l x' y' k h n := by rw [e0, e1]
@[go_sem] theorem D0Z {l : Bool} {j j' : IntKind} {a b : Int} {k : Res} {h : A2} {n : Nat} : shK l (.int j a) (.int j' b) k h n = (0 ≤ b ∧ k (.int j (shZ l j a b)) h n) := rfl
@[congr] theorem C4C {len sz m : Nat} {agg : Bool} {x x' y y' : V} {k : Res} {h : A2} {n : Nat} (e0 : x = x') (e1 : y = y') : A6C len sz m agg x y k h n = A6C len sz m agg x' y' k h n := by rw [e0, e1]
@[go_sem] theorem C8t {len sz m : Nat} {agg : Bool} {cs : List V} {j : IntKind} {z : Int} {k : Res} {h : A2} {n : Nat} : A6C len sz m agg (.agg cs) (.int j z) k h n = (0 ≤ z ∧ z < len ∧ F0 (F6 cs (z.toNat * sz) m agg) k h n) := rfl
@[congr] theorem C5C {z : List V} {x x' : V} {k : Res} {h : A2} {n : Nat} (e0 : x = x') : B0N z x k h n = B0N z x' k h n := by rw [e0]
@[go_sem] theorem C8b {z : List V} {k : Res} {h : A2} {n : Nat} : B0N z .nils k h n = k (.tup []) h n := rfl
@[congr] theorem C7y {nm sz : Nat} {x x' : V} {k : Res} {h : A2} {n : Nat} (e0 : x = x') : B0S nm sz x k h n = B0S nm sz x' k h n := by rw [e0]
@[go_sem] theorem C8L {nm sz : Nat} {k : Res} {h : A2} {n : Nat} : B0S nm sz .nils k h n = k (.sl nm n 0 0) (A2.put h nm n (.rows sz [])) (n + 1) := rfl
@[go_sem] theorem C9O {nm sz : Nat} {es : List (List V)} {k : Res} {h : A2} {n : Nat} : B0S nm sz (.isl es) k h n = k (.sl nm n 0 0) (A2.put h nm n (.rows sz [])) (n + 1) := rfl
@[go_sem] theorem D0K {nm sz b st i m : Nat} {k : Res} {h : A2} {n : Nat} : B0S nm sz (.sl b st i m) k h n = k (.sl nm n 0 0) (A2.put h nm n (.rows sz [])) (n + 1) := rfl
@[go_sem ↓] theorem C7h {f : FuncId} {xs : List Opd} {sl : List (Nat × V)} {h : A2} {n : Nat} {k : Res} : B0 P PK (.call f xs) ⟨sl, h, n⟩ k = A3 P f (xs.map (St.ev ⟨sl, h, n⟩)) h n k := rfl
@[go_sem ↓] theorem C7S {t : TypeId} {x : Opd} {sl : List (Nat × V)} {h : A2} {n : Nat} {k : Res} : B0 P PK (.tas t x) ⟨sl, h, n⟩ k = F0 (C0O t (St.ev ⟨sl, h, n⟩ x)) k h n := rfl
@[go_sem] theorem D1n {k : IntKind} {z : Int} : zV (.agg #[.int k z]) = some (.agg [.int k z]) := rfl
@[go_sem ↓] theorem C8u {t : TypeId} {x : Opd} {sl : List (Nat × V)} {h : A2} {n : Nat} {k : Res} : B0 P PK (.mki t x) ⟨sl, h, n⟩ k = F0 ((unV (St.ev ⟨sl, h, n⟩ x)).map fun u => .cst (.iface t u)) k h n := rfl
@[go_sem ↓] theorem C8U {x : Opd} {sl : List (Nat × V)} {h : A2} {n : Nat} {k : Res} : B0 P PK (.pan x) ⟨sl, h, n⟩ k = C3B PK (St.ev ⟨sl, h, n⟩ x) h n := rfl
@[go_sem ↓] theorem C6F {sz : Nat} {x : Opd} {sl : List (Nat × V)} {h : A2} {n : Nat} {k : Res} : B0 P PK (.boxi sz x) ⟨sl, h, n⟩ k = A9q sz (Y6 (St.ev ⟨sl, h, n⟩ x)) k h n := rfl
@[congr] theorem C4J {sz : Nat} {o o' : Option (List V)} {k : Res} {h : A2} {n : Nat} (e0 : o = o') : A9q sz o k h n = A9q sz o' k h n := by rw [e0]
@[go_sem] theorem C5V {sz : Nat} {cs : List V} {k : Res} {h : A2} {n : Nat} : A9q sz (some cs) k h n = (cs.length = sz ∧ k (.iptr [cs] 0 0) h n) := rfl
@[go_sem ↓] theorem C4V {m : Nat} {agg : Bool} {x : Opd} {sl : List (Nat × V)} {h : A2} {n : Nat} {k : Res} : B0 P PK (.loadi m agg x) ⟨sl, h, n⟩ k = A2K m agg (St.ev ⟨sl, h, n⟩ x) k h n := rfl
@[congr] theorem C3Z {m : Nat} {agg : Bool} {x x' : V} {k : Res} {h : A2} {n : Nat} (e : x = x') : A2K m agg x k h n = A2K m agg x' k h n := by rw [e]
@[go_sem] theorem C4T {es : List (List V)} {i j m : Nat} {agg : Bool} {k : Res} {h : A2} {n : Nat} : A2K m agg (.iptr es i j) k h n = A1d es i fun row => F0 (F6 row j m agg) k h n := by
 simp only [A2K, B8I, A1d]
 cases es[i]? <;> rfl
@[go_sem ↓] theorem C4w {f : FuncId} {xs : List Opd} {sl : List (Nat × V)} {h : A2} {n : Nat} {k : Res} : B0 P PK (.callp f xs) ⟨sl, h, n⟩ k = C2 P f (xs.map (St.ev ⟨sl, h, n⟩)) h n k PK := rfl
@[go_sem ↓] theorem C4Y {x : Opd} {xs : List Opd} {sl : List (Nat × V)} {h : A2} {n : Nat} {k : Res} : B0 P PK (.callv x xs) ⟨sl, h, n⟩ k = A6B P (St.ev ⟨sl, h, n⟩ x) (xs.map (St.ev ⟨sl, h, n⟩)) h n k := rfl
@[go_sem ↓] theorem C9f {sl : List (Nat × V)} {h : A2} {n : Nat} {k : Res} : B0 P PK (.bad) ⟨sl, h, n⟩ k = False := rfl
@[congr] theorem C6w {o o' : Option V} {k : Res} {h : A2} {n : Nat} (e0 : o = o') : F0 o k h n = F0 o' k h n := by rw [e0]
@[go_sem] theorem D1b {v : V} {k : Res} {h : A2} {n : Nat} : F0 (some v) k h n = k v h n := rfl
@[go_sem] theorem C8k  {k : Res} {h : A2} {n : Nat} : F0 none k h n = False := rfl
@[congr] theorem C6R {nm sz : Nat} {o o' : Option (List V)} {k : Res} {h : A2} {n : Nat} (e0 : o = o') : B4f nm sz o k h n = B4f nm sz o' k h n := by rw [e0]
@[go_sem] theorem C9e {nm sz : Nat} {cs : List V} {k : Res} {h : A2} {n : Nat} : B4f nm sz (some cs) k h n = (cs.length = sz ∧ k (.ptr nm n 0 0) (A2.put h nm n (.rows sz [cs])) (n + 1)) := rfl
@[congr] theorem C7k {nm sz : Nat} {o o' : Option (List (List V))} {k : Res} {h : A2} {n : Nat} (e0 : o = o') : B6P nm sz o k h n = B6P nm sz o' k h n := by rw [e0]
@[go_sem] theorem C8P {nm sz : Nat} {rs : List (List V)} {k : Res} {h : A2} {n : Nat} : B6P nm sz (some rs) k h n = k (.sl nm n 0 rs.length) (A2.put h nm n (.rows sz rs)) (n + 1) := rfl
@[congr] theorem C5G {o o' : Option (List (List V))} {k : Res} {h : A2} {n : Nat} (e0 : o = o') : B6n o k h n = B6n o' k h n := by rw [e0]
@[go_sem] theorem C8a {rs : List (List V)} {k : Res} {h : A2} {n : Nat} : B6n (some rs) k h n = k (.isl rs) h n := rfl
@[congr] theorem C4S {o o' : Option A2} {k : Res} {n : Nat} (e : o = o') : A7x o k n = A7x o' k n := by rw [e]
@[go_sem] theorem C5X {h : A2} {k : Res} {n : Nat} : A7x (some h) k n = k .undef h n := rfl
@[congr] theorem C3q {sz : Nat} {x x' i i' : V} {k : Res} {h : A2} {n : Nat} (e0 : x = x') (e1 : i = i') : A2z sz x i k h n = A2z sz x' i' k h n := by rw [e0, e1]
@[go_sem] theorem C8p {sz b st i0 m : Nat} {j : IntKind} {z : Int} {k : Res} {h : A2} {n : Nat} : A2z sz (.sl b st i0 m) (.int j z) k h n = (0 ≤ z ∧ z < m ∧ A8D (A2.get h b st) = some sz ∧ k (.ptr b st (i0 + z.toNat) 0) h n) := rfl
@[go_sem] theorem C6d {sz : Nat} {es : List (List V)} {j : IntKind} {z : Int} {k : Res} {h : A2} {n : Nat} : A2z sz (.isl es) (.int j z) k h n = (0 ≤ z ∧ z < es.length ∧ C4 es sz ∧ k (.iptr es z.toNat 0) h n) := rfl
@[go_sem] theorem C4N {sz : Nat} {i : V} {k : Res} {h : A2} {n : Nat} : A2z sz .nils i k h n = False := by cases i <;> rfl
@[congr] theorem C2M {len sz : Nat} {x x' i i' : V} {k : Res} {h : A2} {n : Nat} (e0 : x = x') (e1 : i = i') : A1c len sz x i k h n = A1c len sz x' i' k h n := by rw [e0, e1]
@[go_sem] theorem C4U {len sz b st i0 q : Nat} {j : IntKind} {z : Int} {k : Res} {h : A2} {n : Nat} : A1c len sz (.ptr b st i0 q) (.int j z) k h n = (0 ≤ z ∧ z < len ∧ k (.ptr b st i0 (q + z.toNat * sz)) h n) := rfl
@[go_sem] theorem C3M {len sz i0 q : Nat} {es : List (List V)} {j : IntKind} {z : Int} {k : Res} {h : A2} {n : Nat} : A1c len sz (.iptr es i0 q) (.int j z) k h n = (0 ≤ z ∧ z < len ∧ k (.iptr es i0 (q + z.toNat * sz)) h n) := rfl
@[congr] theorem C5o {x x' i i' : V} {k : Res} {h : A2} {n : Nat} (e0 : x = x') (e1 : i = i') : B3Z x i k h n = B3Z x' i' k h n := by rw [e0, e1]
@[go_sem] theorem C9X {s : List UInt8} {j : IntKind} {z : Int} {k : Res} {h : A2} {n : Nat} : B3Z (.str s) (.int j z) k h n = (0 ≤ z ∧ F0 ((s[z.toNat]?).map fun b => .int .u8 b.toNat) k h n) := rfl
@[go_sem] theorem C7K {j : IntKind} {z : Int} {k : Res} {h : A2} {n : Nat} : S7 j z k h n = (inR j z ∧ k (B3l j z) h n) := rfl
@[congr] theorem C6x {op : BinOp} {x x' y y' : V} {k : Res} {h : A2} {n : Nat} (e0 : x = x') (e1 : y = y') : T2 op x y k h n = T2 op x' y' k h n := by rw [e0, e1]
@[go_sem] theorem C9n {j j' : IntKind} {a b : Int} {k : Res} {h : A2} {n : Nat} : T2 .add (.int j a) (.int j' b) k h n = (j = j' ∧ S7 j (a + b) k h n) := rfl
@[go_sem] theorem C9y {j j' : IntKind} {a b : Int} {k : Res} {h : A2} {n : Nat} : T2 .sub (.int j a) (.int j' b) k h n = (j = j' ∧ S7 j (a - b) k h n) := rfl
@[go_sem] theorem C9w {j j' : IntKind} {a b : Int} {k : Res} {h : A2} {n : Nat} : T2 .mul (.int j a) (.int j' b) k h n = (j = j' ∧ S7 j (a * b) k h n) := rfl
@[go_sem] theorem D0y {j j' : IntKind} {a b : Int} {k : Res} {h : A2} {n : Nat} : T2 .quo (.int j a) (.int j' b) k h n = (j = j' ∧ b ≠ 0 ∧ S7 j (a.tdiv b) k h n) := rfl
@[go_sem] theorem D0h {j j' : IntKind} {a b : Int} {k : Res} {h : A2} {n : Nat} : T2 .rem (.int j a) (.int j' b) k h n = (j = j' ∧ b ≠ 0 ∧ k (.int j (a.tmod b)) h n) := rfl
@[go_sem] theorem D0A {j j' : IntKind} {a b : Int} {k : Res} {h : A2} {n : Nat} : T2 .eql (.int j a) (.int j' b) k h n = (j = j' ∧ k (.bool (decide (a = b))) h n) := rfl
@[go_sem] theorem D0d {j j' : IntKind} {a b : Int} {k : Res} {h : A2} {n : Nat} : T2 .neq (.int j a) (.int j' b) k h n = (j = j' ∧ k (.bool (decide (¬ a = b))) h n) := rfl
@[go_sem] theorem C9q {j j' : IntKind} {a b : Int} {k : Res} {h : A2} {n : Nat} : T2 .lss (.int j a) (.int j' b) k h n = (j = j' ∧ k (.bool (decide (a < b))) h n) := rfl
@[go_sem] theorem D0x {j j' : IntKind} {a b : Int} {k : Res} {h : A2} {n : Nat} : T2 .leq (.int j a) (.int j' b) k h n = (j = j' ∧ k (.bool (decide (a ≤ b))) h n) := rfl
@[go_sem] theorem D0k {j j' : IntKind} {a b : Int} {k : Res} {h : A2} {n : Nat} : T2 .gtr (.int j a) (.int j' b) k h n = (j = j' ∧ k (.bool (decide (b < a))) h n) := rfl
@[go_sem] theorem C9A {j j' : IntKind} {a b : Int} {k : Res} {h : A2} {n : Nat} : T2 .geq (.int j a) (.int j' b) k h n = (j = j' ∧ k (.bool (decide (b ≤ a))) h n) := rfl
@[go_sem] theorem D0t {j j' : IntKind} {a b : Int} {k : Res} {h : A2} {n : Nat} : T2 .and (.int j a) (.int j' b) k h n = (j = j' ∧ k (.int j (R1 .and j a b)) h n) := rfl
@[go_sem] theorem D0Q {j j' : IntKind} {a b : Int} {k : Res} {h : A2} {n : Nat} : T2 .or (.int j a) (.int j' b) k h n = (j = j' ∧ k (.int j (R1 .or j a b)) h n) := rfl
@[go_sem] theorem C9Q {j j' : IntKind} {a b : Int} {k : Res} {h : A2} {n : Nat} : T2 .xor (.int j a) (.int j' b) k h n = (j = j' ∧ k (.int j (R1 .xor j a b)) h n) := rfl
@[go_sem] theorem C5g {j j' : IntKind} {a b : Int} {k : Res} {h : A2} {n : Nat} : T2 .andNot (.int j a) (.int j' b) k h n = (j = j' ∧ k (.int j (R1 .andNot j a b)) h n) := rfl
@[go_sem] theorem C7J {a b : List UInt8} {k : Res} {h : A2} {n : Nat} : T2 .leq (.str a) (.str b) k h n = k (.bool (M0 a b || decide (a = b))) h n := rfl
@[go_sem] theorem C8e {a b : List UInt8} {k : Res} {h : A2} {n : Nat} : T2 .gtr (.str a) (.str b) k h n = k (.bool !(M0 a b || decide (a = b))) h n := rfl
@[go_sem] theorem C7V {a b : List UInt8} {k : Res} {h : A2} {n : Nat} : T2 .add (.str a) (.str b) k h n = (a.length + b.length ≤ 1099511627776 ∧ k (.str (a ++ b)) h n) := rfl
@[go_sem] theorem C8d {a b : List UInt8} {k : Res} {h : A2} {n : Nat} : T2 .eql (.str a) (.str b) k h n = k (.bool (decide (a = b))) h n := rfl
@[go_sem] theorem C8T {a b : List UInt8} {k : Res} {h : A2} {n : Nat} : T2 .neq (.str a) (.str b) k h n = k (.bool (decide (¬ a = b))) h n := rfl
@[go_sem] theorem C9l {a b : List UInt8} {k : Res} {h : A2} {n : Nat} : T2 .lss (.str a) (.str b) k h n = k (.bool (M0 a b)) h n := rfl
@[go_sem] theorem C8S {a b : List UInt8} {k : Res} {h : A2} {n : Nat} : T2 .geq (.str a) (.str b) k h n = k (.bool (!M0 a b)) h n := rfl
@[congr] theorem C7H {op : UnOp} {x x' : V} {k : Res} {h : A2} {n : Nat} (e0 : x = x') : unK op x k h n = unK op x' k h n := by rw [e0]
@[go_sem] theorem D1f {j : IntKind} {a : Int} {k : Res} {h : A2} {n : Nat} : unK .neg (.int j a) k h n = S7 j (0 - a) k h n := rfl
@[go_sem] theorem D1h {j : IntKind} {a : Int} {k : Res} {h : A2} {n : Nat} : unK .xor (.int j a) k h n = k (.int j (R1 .xor j (bif j.signed then -1 else j.max) a)) h n := rfl
@[go_sem] theorem D0O {b : Bool} {k : Res} {h : A2} {n : Nat} : unK .not (.bool b) k h n = k (.bool !b) h n := rfl
def B0g (o : Option Blk) (f : Nat → List (List V) → Prop) : Prop :=
 match o with
 | some (.rows sz rs) => f sz rs
 | _ => False
def B1E (o : Option Blk) (f : List (V × V) → Prop) : Prop :=
 match o with
 | some (.map es) => f es
 | _ => False
def B8e (a b : Option Int) (f : Int → Int → Prop) : Prop :=
 match a, b with
 | some a, some b => f a b
 | _, _ => False
@[congr] theorem C3u {o o' : Option Blk} {f : Nat → List (List V) → Prop} (e : o = o') : B0g o f = B0g o' f := by rw [e]
@[congr] theorem C4B {o o' : Option Blk} {f : List (V × V) → Prop} (e : o = o') : B1E o f = B1E o' f := by rw [e]
@[congr] theorem C5K {a a' b b' : Option Int} {f : Int → Int → Prop} (e : a = a') (e' : b = b') : B8e a b f = B8e a' b' f := by rw [e, e']
@[go_sem] theorem C4y {sz : Nat} {rs : List (List V)} {f : Nat → List (List V) → Prop} : B0g (some (.rows sz rs)) f = f sz rs := rfl
@[go_sem] theorem C8f {es : List (V × V)} {f : List (V × V) → Prop} : B1E (some (.map es)) f = f es := rfl
@[go_sem] theorem C8q {a b : Int} {f : Int → Int → Prop} : B8e (some a) (some b) f = f a b := rfl
@[congr] theorem C6P {L nm sz : Nat} {b b' : V} {o o' : Option (List (List V))} {k : Res} {h : A2} {n : Nat} (e0 : b = b') (e1 : o = o') : A6A L nm sz b o k h n = A6A L nm sz b' o' k h n := by rw [e0, e1]
@[go_sem] theorem C8E {L nm sz : Nat} {xs : List (List V)} {k : Res} {h : A2} {n : Nat} : A6A L nm sz .nils (some xs) k h n = (C4 xs sz ∧ xs.length ≤ L ∧ k (.sl nm n 0 xs.length) (A2.put h nm n (.rows sz xs)) (n + 1)) := rfl
@[go_sem] theorem D0T {L nm sz b st i m : Nat} {xs : List (List V)} {k : Res} {h : A2} {n : Nat} : A6A L nm sz (.sl b st i m) (some xs) k h n = (C4 xs sz ∧ B0g (A2.get h b st) fun sz' rs => sz' = sz ∧ i + m ≤ rs.length ∧ m + xs.length ≤ L ∧ k (.sl b n 0 (m + xs.length)) (A2.put h b n (.rows sz ((rs.drop i).take m ++ xs))) (n + 1)) := rfl
@[congr] theorem C4Z {sz : Nat} {b b' : V} {o o' : Option (List (List V))} {k : Res} {h : A2} {n : Nat} (e0 : b = b') (e1 : o = o') : A5Q sz b o k h n = A5Q sz b' o' k h n := by rw [e0, e1]
@[go_sem] theorem C6B {sz : Nat} {xs : List (List V)} {k : Res} {h : A2} {n : Nat} : A5Q sz .nils (some xs) k h n = (C4 xs sz ∧ k (.int .i64 0) h n) := rfl
@[go_sem] theorem C9m {sz b st i m : Nat} {xs : List (List V)} {k : Res} {h : A2} {n : Nat} : A5Q sz (.sl b st i m) (some xs) k h n = (C4 xs sz ∧ B0g (A2.get h b st) fun sz' rs => sz' = sz ∧ i + m ≤ rs.length ∧ k (.int .i64 (min xs.length m : Nat)) (A2.put h b st (.rows sz (rs.take i ++ xs.take (min xs.length m) ++ rs.drop (i + min xs.length m)))) n) := rfl
@[congr] theorem C4u {nm : Nat} {z : List V} {x x' : V} {k : Res} {h : A2} {n : Nat} (e0 : x = x') : B0E nm z x k h n = B0E nm z x' k h n := by rw [e0]
@[go_sem] theorem C7R {nm : Nat} {z : List V} {m : Int} {k : Res} {h : A2} {n : Nat} : B0E nm z (.int .i64 m) k h n = (0 ≤ m ∧ m ≤ 137438953472 ∧ k (.sl nm n 0 m.toNat) (A2.put h nm n (.rows z.length (List.replicate m.toNat z))) (n + 1)) := rfl
@[go_sem] theorem D0X {z : List V} {b st i m : Nat} {k : Res} {h : A2} {n : Nat} : B0N z (.sl b st i m) k h n = B0g (A2.get h b st) fun sz rs => sz = z.length ∧ i + m ≤ rs.length ∧ k (.tup []) (A2.put h b st (.rows sz (rs.take i ++ List.replicate m z ++ rs.drop (i + m)))) n := rfl
@[congr] theorem C5L {sz : Nat} {x x' : V} {lo lo' hi hi' : Option V} {k : Res} {h : A2} {n : Nat} (e0 : x = x') (e1 : lo = lo') (e2 : hi = hi') : A8G sz x lo hi k h n = A8G sz x' lo' hi' k h n := by rw [e0, e1, e2]
@[go_sem] theorem D0R {sz b st i m : Nat} {lo hi : Option V} {k : Res} {h : A2} {n : Nat} : A8G sz (.sl b st i m) lo hi k h n = B8e (F3 0 lo) (F3 m hi) fun l u => A8D (A2.get h b st) = some sz ∧ 0 ≤ l ∧ l ≤ u ∧ u ≤ m ∧ k (.sl b st (i + l.toNat) (u - l).toNat) h n := rfl
@[go_sem] theorem C9Z {sz : Nat} {es : List (List V)} {lo hi : Option V} {k : Res} {h : A2} {n : Nat} : A8G sz (.isl es) lo hi k h n = B8e (F3 0 lo) (F3 es.length hi) fun l u => C4 es sz ∧ 0 ≤ l ∧ l ≤ u ∧ u ≤ es.length ∧ k (.isl ((es.drop l.toNat).take (u - l).toNat)) h n := rfl
@[go_sem] theorem C7F {sz : Nat} {lo hi : Option V} {k : Res} {h : A2} {n : Nat} : A8G sz .nils lo hi k h n = B8e (F3 0 lo) (F3 0 hi) fun l u => l = 0 ∧ u = 0 ∧ k .nils h n := rfl
@[congr] theorem C5M {x x' : V} {lo lo' hi hi' : Option V} {k : Res} {h : A2} {n : Nat} (e0 : x = x') (e1 : lo = lo') (e2 : hi = hi') : B0M x lo hi k h n = B0M x' lo' hi' k h n := by rw [e0, e1, e2]
@[go_sem] theorem C9K {s : List UInt8} {lo hi : Option V} {k : Res} {h : A2} {n : Nat} : B0M (.str s) lo hi k h n = B8e (F3 0 lo) (F3 s.length hi) fun l u => 0 ≤ l ∧ l ≤ u ∧ u ≤ s.length ∧ k (.str ((s.drop l.toNat).take (u - l).toNat)) h n := rfl
@[congr] theorem C4P {kd : Nat} {z : V} {ok : Bool} {m m' x x' : V} {k : Res} {h : A2} {n : Nat} (e0 : m = m') (e1 : x = x') : A5N kd z ok m x k h n = A5N kd z ok m' x' k h n := by rw [e0, e1]
@[go_sem] theorem C7e {kd : Nat} {z : V} {ok : Bool} {x : V} {k : Res} {h : A2} {n : Nat} : A5N kd z ok .nilm x k h n = (A1E kd x = true ∧ k (A8T z ok none) h n) := rfl
def B7q (o : Option V) (f : V → Prop) (g : Prop) : Prop :=
 match o with
 | some v => f v
 | none => g
@[congr] theorem C7i {o o' : Option V} {f : V → Prop} {g : Prop} (e : o = o') : B7q o f g = B7q o' f g := by rw [e]
@[go_sem] theorem C7Z {v : V} {f : V → Prop} {g : Prop} : B7q (some v) f g = f v := rfl
@[go_sem] theorem C8B {f : V → Prop} {g : Prop} : B7q none f g = g := rfl
@[go_sem] theorem C9M {α : Type} {o : Option α} {F : α → V} {f : V → Prop} {g : Prop} : B7q (o.map F) f g = ((∀ x, o = some x → f (F x)) ∧ (o = none → g)) := by
 cases o <;> simp [B7q]
@[go_sem] theorem C9z {kd b st : Nat} {z : V} {ok : Bool} {x : V} {k : Res} {h : A2} {n : Nat} : A5N kd z ok (.mp b st) x k h n = B1E (A2.get h b st) fun es => A1E kd x = true ∧ A5K x es ∧ B7q (B0t x es) (fun v => k (A8T z ok (some v)) h n) (k (A8T z ok none) h n) := by
 simp only [A5N, B1E]
 cases A2.get h b st with
 | none => rfl
 | some x =>
  cases x with
  | rows sz rs => rfl
  | map es =>
   simp only
   refine propext (and_congr_right fun _ => and_congr_right fun _ => ?_)
   cases B0t _ es <;> exact Iff.rfl
  | loop => rfl
  | mapb => rfl
  | iter => rfl
  | raw => rfl
@[congr] theorem C5i {kd : Nat} {m m' x x' v v' : V} {k : Res} {h : A2} {n : Nat} (e0 : m = m') (e1 : x = x') (e2 : v = v') : A8J kd m x v k h n = A8J kd m' x' v' k h n := by rw [e0, e1, e2]
@[go_sem] theorem D0D {kd b st : Nat} {x v : V} {k : Res} {h : A2} {n : Nat} : A8J kd (.mp b st) x v k h n = B1E (A2.get h b st) fun es => A1E kd x = true ∧ A5K x es ∧ k .undef (A2.put h b st (.map (B7n x v es))) n := rfl
@[congr] theorem C5e {kd : Nat} {m m' x x' : V} {k : Res} {h : A2} {n : Nat} (e0 : m = m') (e1 : x = x') : A7v kd m x k h n = A7v kd m' x' k h n := by rw [e0, e1]
@[go_sem] theorem C5F {kd : Nat} {x : V} {k : Res} {h : A2} {n : Nat} : A7v kd .nilm x k h n = (A1E kd x = true ∧ k (.tup []) h n) := rfl
@[go_sem] theorem C9R {kd b st : Nat} {x : V} {k : Res} {h : A2} {n : Nat} : A7v kd (.mp b st) x k h n = B1E (A2.get h b st) fun es => A1E kd x = true ∧ A5K x es ∧ k (.tup []) (A2.put h b st (.map (B7I x es))) n := rfl
@[go_sem] theorem C9b {g : FuncId} {cs as : List V} {k : Res} {h : A2} {n : Nat} : A6B P (.fn g cs) as h n k = (H4 P g = true ∧ A3 P g (as ++ cs) h n k) := rfl
@[congr] theorem C3S {x x' : V} {as as' : List V} {k : Res} {h : A2} {n : Nat} (e : x = x') (e' : as = as') : A6B P x as h n k = A6B P x' as' h n k := by rw [e, e']
@[congr] theorem C4j {f : FuncId} {as as' : List V} {k : Res} {h h' : A2} {n n' : Nat} {pk : G9} (e : as = as') (e' : h = h') (e'' : n = n') : C2 P f as h n k pk = C2 P f as' h' n' k pk := by rw [e, e', e'']
@[congr] theorem C4x {f : FuncId} {as as' : List V} {k : Res} {h h' : A2} {n n' : Nat} (e : as = as') (e' : h = h') (e'' : n = n') : A3 P f as h n k = A3 P f as' h' n' k := by rw [e, e', e'']
def C3p (Q : Res) (o : Option (List V)) (h : A2) (n : Nat) : Prop :=
 match o with
 | some vs => Q (A7M vs) h n
 | none => False
@[congr] theorem C6y {Q : Res} {o o' : Option (List V)} {h : A2} {n : Nat} (e : o = o') : C3p Q o h n = C3p Q o' h n := by rw [e]
@[go_sem] theorem C9a {Q : Res} {vs : List V} {h : A2} {n : Nat} : C3p Q (some vs) h n = Q (A7M vs) h n := rfl
@[go_sem ↓] theorem D1e {N : Nat} {rs : List RV} {Q : Res} {sl : List (Nat × V)} {h : A2} {n : Nat} : B4n ⟨P, N, rs, Q, none, pk⟩ ⟨sl, h, n⟩ = C3p Q (A4I ⟨sl, h, n⟩ rs) h n := rfl
@[congr] theorem C4n {b b' : Bool} {A : Prop} (e : b = b') : B6B b A = B6B b' A := by rw [e]
@[go_sem] theorem C4A {A : Prop} : B6B false A = A := rfl
@[go_sem] theorem D0C {i j : Nat} {A : Prop} : B6B (Nat.beq i j) A = if i = j then False else A := by
 cases h : Nat.beq i j with
 | true => rw [if_pos (Nat.eq_of_beq_eq_true h)]; rfl
 | false => rw [if_neg fun e => by rw [e, Nat.beq_refl] at h; cases h]; rfl
@[congr] theorem C4o {o o' : Option (List AItem)} {f : List AItem → Prop} {g : Prop} (e : o = o') : B1k o f g = B1k o' f g := by rw [e]
@[go_sem] theorem C6a {l : List AItem} {f : List AItem → Prop} {g : Prop} : B1k (some l) f g = f l := rfl
@[go_sem] theorem C6U {f : List AItem → Prop} {g : Prop} : B1k none f g = g := rfl
@[go_sem ↓] theorem C5k {N : Nat} {rs : List RV} {Q : Res} {s : St} : A2I ⟨P, N, rs, Q, none, pk⟩ none s = B4n ⟨P, N, rs, Q, none, pk⟩ s := rfl
@[go_sem ↓] theorem C7l {N : Nat} {rs : List RV} {Q : Res} {s : St} : A2I ⟨P, N, rs, Q, none, pk⟩ (some .ret) s = B4n ⟨P, N, rs, Q, none, pk⟩ s := rfl
@[go_sem ↓] theorem C4E {N id : Nat} {rs : List RV} {Q : Res} {s : St} : A2I ⟨P, N, rs, Q, none, pk⟩ (some (.exit id)) s = False := rfl
def C2K (o : Option Blk) (b st : Nat) (j : Option Code) (Q : Res) (h : A2) (n : Nat) : Prop :=
 match o with
 | some (.loop N sl ps p _ _) => Q (.bool j.isNone) (A2.put h b st (.loop N sl ps p (if j.isNone then .ready else .done) j)) n
 | _ => False
@[congr] theorem C5D {o o' : Option Blk} {b st : Nat} {j : Option Code} {Q : Res} {h : A2} {n : Nat} (e : o = o') : C2K o b st j Q h n = C2K o' b st j Q h n := by rw [e]
@[go_sem ↓] theorem C7L {N b st : Nat} {rs : List RV} {Q : Res} {j : Option Code} {sl : List (Nat × V)} {h : A2} {n : Nat} : A2I ⟨P, N, rs, Q, some (b, st), pk⟩ j ⟨sl, h, n⟩ = C2K (A2.get h b st) b st j Q h n := rfl
@[go_sem] theorem D0B {b st N : Nat} {sl : List (Nat × V)} {ps : List Nat} {p : Code → Code → Prop} {s : LoopState} {pd : Option Code} {Q : Res} {h : A2} {n : Nat} : C2K (some (.loop N sl ps p s pd)) b st none Q h n = Q (.bool true) (A2.put h b st (.loop N sl ps p .ready none)) n := rfl
@[go_sem] theorem C8r {b st N : Nat} {sl : List (Nat × V)} {ps : List Nat} {p : Code → Code → Prop} {s : LoopState} {pd : Option Code} {c : Code} {Q : Res} {h : A2} {n : Nat} : C2K (some (.loop N sl ps p s pd)) b st (some c) Q h n = Q (.bool false) (A2.put h b st (.loop N sl ps p .done (some c))) n := rfl
def C2Z (o : Option Blk) (b st : Nat) (K : St → Prop) (sl : List (Nat × V)) (h : A2) (n : Nat) : Prop :=
 match o with
 | some (.loop N sl' ps p .ready pend) => K ⟨sl, A2.put h b st (.loop N sl' ps p .busy pend), n⟩
 | _ => False
@[congr] theorem C7m {o o' : Option Blk} {b st : Nat} {K : St → Prop} {sl : List (Nat × V)} {h : A2} {n : Nat} (e : o = o') : C2Z o b st K sl h n = C2Z o' b st K sl h n := by rw [e]
@[go_sem ↓] theorem D1l {N b st : Nat} {rs : List RV} {Q : Res} {K : St → Prop} {sl : List (Nat × V)} {h : A2} {n : Nat} : C5B ⟨P, N, rs, Q, some (b, st), pk⟩ ⟨sl, h, n⟩ K = C2Z (A2.get h b st) b st K sl h n := rfl
@[go_sem] theorem C5O {b st N : Nat} {sl sl' : List (Nat × V)} {ps : List Nat} {p : Code → Code → Prop} {pd : Option Code} {K : St → Prop} {h : A2} {n : Nat} : C2Z (some (.loop N sl' ps p .ready pd)) b st K sl h n = K ⟨sl, A2.put h b st (.loop N sl' ps p .busy pd), n⟩ := rfl
@[go_sem] theorem C8m {A : Prop} : C9E none none A = A := rfl
@[go_sem] theorem C5z : B0B none = B5e := rfl
@[go_sem] theorem C5E {p : G9} : B0B (some p) = p := rfl
@[congr] theorem C7x {c : Cf} {nm : Nat} {v v' : V} {ps : List Nat} {x y : AC} {s : St} {K : Option Code → St → Prop} (e : v = v') : B9B c nm v ps x y s K = B9B c nm v' ps x y s K := by rw [e]
@[go_sem] theorem D0P {N nm : Nat} {rs : List RV} {Q : Res} {f : FuncId} {cs : List V} {ps : List Nat} {x y : AC} {sl : List (Nat × V)} {h : A2} {n : Nat} {K : Option Code → St → Prop} :
  B9B ⟨P, N, rs, Q, none, none⟩ nm (.fn f cs) ps x y ⟨sl, h, n⟩ K = (H4 P f = true ∧ A3 P f (.yld nm n :: cs) (A2.put h nm n (.loop N sl ps (t7 P N x y) .ready none)) (n + 1) (B7t nm n sl K)) := by
 simp [B9B]
def C1k (o : Option Blk) (K : Option Code → Prop) : Prop :=
 match o with
 | some (.loop _ _ _ _ s pend) => s ≠ .busy ∧ K pend
 | _ => False
@[congr] theorem C5U {o o' : Option Blk} {K : Option Code → Prop} (e : o = o') : C1k o K = C1k o' K := by rw [e]
@[go_sem] theorem D0W {nm st : Nat} {sl : List (Nat × V)} {K : Option Code → St → Prop} {r : V} {h : A2} {n : Nat} : B7t nm st sl K r h n = C1k (A2.get h nm st) fun pend => K pend ⟨sl, A2.del h nm, n⟩ := by
 unfold B7t C1k
 cases A2.get h nm st with
 | none => rfl
 | some x => cases x <;> rfl
@[go_sem] theorem C9k {N : Nat} {sl : List (Nat × V)} {ps : List Nat} {p : Code → Code → Prop} {s : LoopState} {pd : Option Code} {K : Option Code → Prop} : C1k (some (.loop N sl ps p s pd)) K = (s ≠ .busy ∧ K pd) := rfl
@[go_sem] theorem C6W {K : List AItem → St → Prop} {k : List AItem} {s : St} : B5k K k none s = K k s := rfl
@[go_sem] theorem C9h {K : List AItem → St → Prop} {k : List AItem} {s : St} : B5k K k (some .ret) s = K (.code .ret :: k) s := rfl
@[go_sem] theorem C6o {K : List AItem → St → Prop} {k : List AItem} {id : Nat} {s : St} : B5k K k (some (.exit id)) s = K (.code (.exit id) :: k) s := rfl
@[go_sem] theorem C4r {sl : List (Nat × V)} {p : Nat} {ps : List Nat} {a : V} {as : List V} : A4V sl (p :: ps) (a :: as) = A4V (D4 sl p a) ps as := rfl
@[go_sem] theorem C6O {sl : List (Nat × V)} {as : List V} : A4V sl [] as = sl := by cases as <;> rfl
@[go_sem] theorem C5y {b st : Nat} {as : List V} {k : Res} {h : A2} {n : Nat} : A6B P (.yld b st) as h n k = O3 P b st as h n k := rfl
@[congr] theorem C7D {b st : Nat} {as as' : List V} {k : Res} {h h' : A2} {n n' : Nat} (e : as = as') (e' : h = h') (e'' : n = n') : O3 P b st as h n k = O3 P b st as' h' n' k := by rw [e, e', e'']
@[congr] theorem D0l {l l' : List AI} {K : St → Prop} {s s' : St} (e' : l = l') (e : s = s') : vo P PK l K s = vo P PK l' K s' := by rw [e, e']
@[congr] theorem D0s {k k' : List AItem} {s s' : St} (e' : k = k') (e : s = s') : go c m k s = go c m k' s' := by rw [e, e']
@[congr] theorem C8Y {s s' : St} (e : s = s') : Run c k s = Run c k s' := by rw [e]
@[go_sem] theorem C8A {sz : Nat} : C4 [] sz = True := by simp [C4]
@[go_sem] theorem C7u {sz : Nat} {r : List V} {rs : List (List V)} : C4 (r :: rs) sz = (r.length = sz ∧ C4 rs sz) := by simp [C4]
@[go_sem] theorem C1f {i : Nat} : C7 [] i = .undef := rfl
theorem A9T {α : Type} {i j : Nat} {a b : α} : (bif Nat.beq i j then a else b) = if i = j then a else b := by
 by_cases h : i = j
 ·subst h; simp
 ·rw [if_neg h]
  have : Nat.beq i j = false := by
   cases hb : Nat.beq i j with
   | false => rfl
   | true => exact (h (Nat.eq_of_beq_eq_true hb)).elim
  rw [this]; rfl
@[go_sem] theorem C0D {p : Nat × V} {r : List (Nat × V)} {i : Nat} : C7 (p :: r) i = if p.1 = i then p.2 else C7 r i := A9T
@[go_sem] theorem C9S {i : Nat} {v : V} : D4 [] i v = [(i, v)] := rfl
@[go_sem] theorem C8X {p : Nat × V} {r : List (Nat × V)} {i : Nat} {v : V} : D4 (p :: r) i v = if p.1 < i then (i, v) :: p :: r else if p.1 = i then (i, v) :: r else p :: D4 r i v := by
 simp only [D4]
 rw [A9T]
 by_cases h : p.1 < i
 ·rw [if_pos h, if_neg (by omega), show Nat.blt p.1 i = true from Nat.ble_eq_true_of_le h]; rfl
 ·rw [if_neg h]
  have : Nat.blt p.1 i = false := by
   cases hb : Nat.blt p.1 i with
   | false => rfl
   | true => exact (h (Nat.le_of_ble_eq_true hb)).elim
  rw [this]; rfl
attribute [go_sem] St.ev.eq_1 St.ev.eq_2 St.ev.eq_3 St.ev.eq_4 know A4I A7M V5 A8T B0C B6O B1S B5H Y6 B1x C1D C2n B5Y B1J C0O unV C3B B7i C2f A2T A0H A1E B0t B7n B7I A5K F3 A8D H4
attribute [go_sem] inR B3l C0L eqE eqE.eqFs B4w C3E mmV mm2 A1H G0 I7 A6n J2
attribute [go_sem] Option.map_some Option.map_none Option.bind_some Option.bind_none Option.getD_some Option.getD_none Option.isSome_some
attribute [go_sem] List.getElem?_cons_zero List.getElem?_cons_succ List.getElem?_nil List.length_cons List.length_nil List.drop_zero List.drop_succ_cons List.drop_nil List.take_zero List.take_succ_cons List.take_nil List.map_cons List.map_nil List.cons_append List.nil_append List.append_nil List.set_cons_zero List.set_cons_succ
attribute [go_sem] if_true if_false cond_true cond_false Bool.not_true Bool.not_false true_and and_true false_and and_false true_implies forall_const Bool.true_and Bool.and_true Bool.false_and Bool.and_false ite_true ite_false reduceIte
attribute [go_sem] Bool.not_eq_true Bool.not_eq_false decide_eq_true_eq decide_eq_false_iff_not Classical.not_not Bool.not_not decide_true decide_false Nat.zero_add Nat.add_zero ne_eq reduceCtorEq
@[go_sem] theorem D0I {α : Type} {a b : α} {p : Prop} [Decidable p] : (bif decide p then a else b) = if p then a else b := by by_cases h : p <;> simp [h]
@[go_sem] theorem D1i {b st : Nat} : A2.get [] b st = none := rfl
@[go_sem] theorem C9u {b' st' b st : Nat} {x : Blk} {r : A2} : A2.get ((b', st', x) :: r) b st = if b' = b then (if st' = st then some x else none) else A2.get r b st := A9T
@[go_sem] theorem D1r {h : A2} {b st : Nat} {x : Blk} : A2.put h b st x = (b, st, x) :: A2.del h b := rfl
@[go_sem] theorem D0H {b : Nat} : A2.del [] b = [] := rfl
@[go_sem] theorem D0a {b' st' b : Nat} {x : Blk} {r : A2} : A2.del ((b', st', x) :: r) b = if b' = b then A2.del r b else (b', st', x) :: A2.del r b := by
 unfold A2.del
 rw [List.filter_cons, ← A9T]
 cases Nat.beq b' b <;> simp
@[go_sem] theorem C7W {row : List V} {j n : Nat} : F6 row j n true = if j + n ≤ row.length then some (.agg ((row.drop j).take n)) else none := by
 unfold F6
 by_cases h : j + n ≤ row.length
 ·rw [if_pos h, Nat.ble_eq_true_of_le h]; rfl
 ·rw [if_neg h]
  have : Nat.ble (j + n) row.length = false := by
   cases hb : Nat.ble (j + n) row.length with
   | false => rfl
   | true => exact (h (Nat.le_of_ble_eq_true hb)).elim
  rw [this]; rfl
@[go_sem] theorem C8c {row : List V} {j n : Nat} : F6 row j n false = row[j]? := rfl
theorem C0I {α : Type} {i j : Nat} {a b : α} : (bif Nat.ble i j then a else b) = if i ≤ j then a else b := by
 by_cases h : i ≤ j
 ·rw [if_pos h, Nat.ble_eq_true_of_le h]; rfl
 ·rw [if_neg h]
  have : Nat.ble i j = false := by
   cases hb : Nat.ble i j with
   | false => rfl
   | true => exact (h (Nat.le_of_ble_eq_true hb)).elim
  rw [this]; rfl
@[go_sem] theorem C8O {α : Type} {i j k l : Nat} {a b : α} : (bif Nat.beq i j && Nat.ble k l then a else b) = if i = j then (if k ≤ l then a else b) else b := by
 rw [← A9T, ← C0I]
 cases Nat.beq i j <;> rfl
attribute [go_sem] A9T C0I
@[go_sem] theorem D1y {sl : List (Nat × V)} {h : A2} {n i : Nat} : St.ev ⟨sl, h, n⟩ (.t i) = C7 sl i := rfl
section
variable {d : Nat} {h : A2} {φ : Nat → Nat → Nat → Nat → V}
attribute [go_sem] V.sub A1u U3
theorem q8 : ∃ φ, frz d h = V.sub φ := by cases d <;> exact ⟨_, rfl⟩
@[go_sem] theorem C4d {j : IntKind} {z : Int} : frz d h (.int j z) = .int j z := by obtain ⟨φ, e⟩ := q8 (d := d) (h := h); rw [e, V.sub]
@[go_sem] theorem C9p {b : Bool} : frz d h (.bool b) = .bool b := by obtain ⟨φ, e⟩ := q8 (d := d) (h := h); rw [e, V.sub]
@[go_sem] theorem D0G {b : List UInt8} : frz d h (.str b) = .str b := by obtain ⟨φ, e⟩ := q8 (d := d) (h := h); rw [e, V.sub]
@[go_sem] theorem C8N : frz d h .undef = .undef := by obtain ⟨φ, e⟩ := q8 (d := d) (h := h); rw [e, V.sub]
@[go_sem] theorem C9T : frz d h .nilp = .nilp := by obtain ⟨φ, e⟩ := q8 (d := d) (h := h); rw [e, V.sub]
@[go_sem] theorem D1d : frz d h .err = .err := by obtain ⟨φ, e⟩ := q8 (d := d) (h := h); rw [e, V.sub]
@[go_sem] theorem D0r {k : IntKind} : frz d h (.anyi k) = .anyi k := by obtain ⟨φ, e⟩ := q8 (d := d) (h := h); rw [e, V.sub]
@[go_sem] theorem C9o : frz d h .nilm = .nilm := by obtain ⟨φ, e⟩ := q8 (d := d) (h := h); rw [e, V.sub]
@[go_sem] theorem D0p : frz d h .nils = .isl [] := by obtain ⟨φ, e⟩ := q8 (d := d) (h := h); rw [e, V.sub]
@[go_sem] theorem D0L {cs : List V} : frz d h (.agg cs) = .agg (cs.map (frz d h)) := by obtain ⟨φ, e⟩ := q8 (d := d) (h := h); rw [e, V.sub, A1u]
@[go_sem] theorem D1g {cs : List V} : frz d h (.tup cs) = .tup (cs.map (frz d h)) := by obtain ⟨φ, e⟩ := q8 (d := d) (h := h); rw [e, V.sub, A1u]
@[go_sem] theorem D1k {es : List (List V)} : frz d h (.isl es) = .isl (es.map fun r => r.map (frz d h)) := by obtain ⟨φ, e⟩ := q8 (d := d) (h := h); rw [e, V.sub, U3]
@[go_sem] theorem D1u {b st i n : Nat} : frz (d + 1) h (.sl b st i n) = match A0H h (.sl b st i n) with | some rs => .isl (rs.map fun r => r.map (frz d h)) | none => .undef := by rw [frz, V.sub]; rfl
end
theorem A3.pureF {f : FuncId} {xs : List V} {r : V} {h : A2} {n : Nat} {k : Res} (hp : Pure P f xs r) (has : xs.map (V.sub R4) = xs) (hk : k r h n) : A3 P f xs h n k := A3.pure hp has hk
theorem A2B.pureF {f : FuncId} {xs : List V} {r : V} {h : A2} {n : Nat} {k : Res} (hp : Pure P f xs r) (has : xs.map (V.sub R4) = xs) (hk : k r h n) : A2B P f xs k h n := ⟨r, fun _ h' => A3.pureF hp has h', hk⟩
def A6O (s : List (Nat × V)) : List (Nat × V) → Prop
 | [] => True
 | p :: r => C7 s p.1 = p.2 ∧ A6O s r
def B4J (e : Nat × Nat × Blk) : A2 → Prop
 | [] => False
 | x :: r => x = e ∨ B4J e r
def A8E (h : A2) : A2 → Prop
 | [] => True
 | e :: r => B4J e h ∧ A8E h r
theorem L0 {s : List (Nat × V)} : ∀ {l : List (Nat × V)}, A6O s l ↔ ∀ p ∈ l, p.2 = C7 s p.1
 | [] => by simp [A6O]
 | p :: r => by simp only [A6O, L0, List.forall_mem_cons]; rw [eq_comm]
theorem B6h {e : Nat × Nat × Blk} : ∀ {l : A2}, B4J e l ↔ e ∈ l
 | [] => by simp [B4J]
 | p :: r => by simp only [B4J, B6h, List.mem_cons]; rw [eq_comm]
theorem A9V {h : A2} : ∀ {l : A2}, A8E h l ↔ ∀ p ∈ l, p ∈ h
 | [] => by simp [A8E]
 | p :: r => by simp only [A8E, A9V, List.forall_mem_cons, B6h]
@[go_sem] theorem C9D {s s' : St} : m9 s s' = (A6O s.sl s'.sl ∧ A8E s.h s'.h ∧ s.n ≤ s'.n) := by
 rw [eq_iff_iff, L0, A9V]; exact Iff.rfl
@[go_sem] theorem C5p {s : List (Nat × V)} : A6O s [] = True := rfl
@[go_sem] theorem C4m {s : List (Nat × V)} {p : Nat × V} {r : List (Nat × V)} : A6O s (p :: r) = (C7 s p.1 = p.2 ∧ A6O s r) := rfl
@[go_sem] theorem C9v {e : Nat × Nat × Blk} : B4J e [] = False := rfl
@[go_sem] theorem C8w {e x : Nat × Nat × Blk} {r : A2} : B4J e (x :: r) = (x = e ∨ B4J e r) := rfl
@[go_sem] theorem C8x {h : A2} : A8E h [] = True := rfl
@[go_sem] theorem C6Y {h r : A2} {e : Nat × Nat × Blk} : A8E h (e :: r) = (B4J e h ∧ A8E h r) := rfl
attribute [go_sem] Prod.mk.injEq V.int.injEq V.bool.injEq V.str.injEq V.agg.injEq V.tup.injEq V.isl.injEq V.sl.injEq V.ptr.injEq V.mp.injEq V.yld.injEq Blk.loop.injEq Blk.rows.injEq List.cons.injEq
attribute [go_sem] List.length_map List.drop_zero List.take_length List.length_append List.length_cons List.length_nil List.length_set List.length_replicate
attribute [go_sem] List.cons_append List.nil_append
attribute [go_sem] true_or or_true or_false false_or Nat.le_refl false_implies implies_true forall_const
end
end Go.Abs
attribute [go_sem] Nat.reduceEqDiff Nat.reduceAdd Nat.reduceSub Nat.reduceMul Nat.reduceLeDiff Nat.reduceLT Nat.reduceBEq Int.reduceToNat Int.reduceLE Int.reduceLT Int.reduceEq Int.reduceNe Int.reduceAdd Int.reduceSub Int.reduceNeg Int.toNat_natCast Int.cast_ofNat_Int Int.natCast_zero Int.natCast_one reduceCtorEq reduceIte Nat.lt_irrefl and_self not_false_eq_true not_true_eq_false
