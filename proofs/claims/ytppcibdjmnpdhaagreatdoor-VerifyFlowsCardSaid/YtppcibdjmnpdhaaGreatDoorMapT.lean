/-
  Maps with integers as keys. No condition.
-/
import Derived.Test.YtppcibdjmnpdhaaGreatDoorWk
set_option linter.unusedVariables false
set_option linter.unusedSimpArgs false
namespace Go.Abs
def IntKeys (es : List (V × V)) : Prop := ∀ e ∈ es, ∃ z, e.1 = .int .i64 z
theorem IntKeys.nil : IntKeys [] := fun e h => by cases h
theorem keyEq_int (a b : Int) : keyEq (.int .i64 a) (.int .i64 b) = some (decide (a = b)) := rfl
theorem IntKeys.ok : ∀ {es : List (V × V)} (h : IntKeys es) (k : Int), keyOK (.int .i64 k) es
  | [], _, _ => trivial
  | e :: r, h, k => by
    obtain ⟨z, hz⟩ := h e List.mem_cons_self
    exact ⟨by rw [hz]; rfl, IntKeys.ok (fun x hx => h x (List.mem_cons_of_mem _ hx)) k⟩
theorem IntKeys.set : ∀ {es : List (V × V)} (h : IntKeys es) (k : Int) (v : V), IntKeys (mset (.int .i64 k) v es)
  | [], _, k, v => fun e he => by rw [mset] at he; rw [List.mem_singleton.1 he]; exact ⟨k, rfl⟩
  | e :: r, h, k, v => by
    have ih := IntKeys.set (fun x hx => h x (List.mem_cons_of_mem _ hx) : IntKeys r) k v
    rw [mset]
    cases (keyEq (.int .i64 k) e.1).getD false with
    | true =>
      intro x hx
      rcases List.mem_cons.1 hx with rfl | hx
      · exact ⟨k, rfl⟩
      · exact h x (List.mem_cons_of_mem _ hx)
    | false =>
      intro x hx
      rcases List.mem_cons.1 hx with rfl | hx
      · exact h x List.mem_cons_self
      · exact ih x hx
theorem mfind_mset : ∀ {es : List (V × V)} (h : IntKeys es) (k k' : Int) (v : V), mfind (.int .i64 k') (mset (.int .i64 k) v es) = if k' = k then some v else mfind (.int .i64 k') es
  | [], _, k, k', v => by
    simp only [mset, mfind, keyEq_int, Option.getD_some]
    by_cases c : k' = k <;> simp [c]
  | e :: r, h, k, k', v => by
    obtain ⟨z, hz⟩ := h e List.mem_cons_self
    have ih := mfind_mset (fun x hx => h x (List.mem_cons_of_mem _ hx) : IntKeys r) k k' v
    obtain ⟨ek, ev⟩ := e
    simp only at hz
    subst hz
    simp only [mset, keyEq_int, Option.getD_some]
    by_cases c : k = z
    · subst c
      simp only [decide_true, cond_true, mfind, keyEq_int, Option.getD_some]
      by_cases c2 : k' = k <;> simp [c2]
    · simp only [c, decide_false, cond_false, mfind, keyEq_int, Option.getD_some]
      by_cases c2 : k' = z
      · subst c2
        have : ¬ k' = k := fun e => c e.symm
        simp [this]
      · simp only [c2, decide_false, cond_false]
        exact ih
structure MSet (es : List (V × V)) (S : Int → Bool) : Prop where
  keys : IntKeys es
  find : ∀ k, mfind (.int .i64 k) es = if S k then some (.bool true) else none
theorem MSet.put {es : List (V × V)} {S : Int → Bool} (h : MSet es S) (z : Int) : MSet (mset (.int .i64 z) (.bool true) es) fun k => S k || decide (k = z) :=
  ⟨h.keys.set z _, fun k => by
    rw [mfind_mset h.keys, h.find]
    by_cases c : k = z
    · simp [c]
    · simp [c]⟩
theorem MSet.of {es : List (V × V)} {S T : Int → Bool} (h : MSet es S) (e : S = T) : MSet es T := e ▸ h
theorem MSet.nil : MSet [] fun _ => false := ⟨.nil, fun k => rfl⟩
structure MNum (es : List (V × V)) (f : Int → Option Nat) : Prop where
  keys : IntKeys es
  find : ∀ k, mfind (.int .i64 k) es = (f k).map fun j => .int .i64 (j : Nat)
theorem MNum.put {es : List (V × V)} {f : Int → Option Nat} (h : MNum es f) (z : Int) (n : Nat) : MNum (mset (.int .i64 z) (.int .i64 n) es) fun k => if k = z then some n else f k :=
  ⟨h.keys.set z _, fun k => by
    rw [mfind_mset h.keys, h.find]
    by_cases c : k = z
    · simp [c]
    · simp [c]⟩
theorem MNum.of {es : List (V × V)} {f g : Int → Option Nat} (h : MNum es f) (e : f = g) : MNum es g := e ▸ h
theorem MNum.nil : MNum [] fun _ => none := ⟨.nil, fun k => rfl⟩
end Go.Abs
