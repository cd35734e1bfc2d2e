/-
 Functions within functions, their parts, copies. No condition.
-/
import Derived.Test.YtoanghfeednogaaGreatDoorFn
import Derived.Test.YtoanghfeednogaaGreatDoorRnd
import Derived.Test.YtoanghfeednogaaGreatDoorCode
set_option linter.unusedVariables false
set_option linter.unusedSimpArgs false
set_option maxRecDepth 100000
set_option maxHeartbeats 0
namespace Go.Proofs.YtoanghfeednogaaGreatDoor
open Go.Abs
attribute [local irreducible] A2 Run Q4
theorem S3 {d : Nat} {h : A0} {es : List (List V)} (hs : ∀ φ, es.map (fun r => r.map (V.sub φ)) = es) : es.map (fun r => r.map (frz d h)) = es := by
 obtain ⟨φ, e⟩ := F9 (d := d) (h := h)
 rw [e]; exact hs φ
theorem C0y (es : List (List V)) (hz : B6 es 5) (hl : es.length ≤ 3518437208883) (hs : ∀ φ, es.map (fun r => r.map (V.sub φ)) = es) : Pure Tryz.prog 78 [.isl es] (.isl es) := by
 have hz' : B6 es 5 = True := eq_true hz
 have hl' := eq_true hl
 refine Pure.of 1 (A2.enter H8 (Nat.le_of_ble_eq_true rfl) (Run.go 100 ?_))
 simp -implicitDefEqProofs only [go_sem, A5, hz', hl']
 exact ⟨S3 hs, fun e => e.symm⟩
theorem C0z (es : List (List V)) (hz : B6 es 1) (hl : es.length ≤ 17592186044416) (hs : ∀ φ, es.map (fun r => r.map (V.sub φ)) = es) : Pure Tryz.prog 63 [.isl es] (.isl es) := by
 have hz' : B6 es 1 = True := eq_true hz
 have hl' := eq_true hl
 refine Pure.of 1 (A2.enter M9 (Nat.le_of_ble_eq_true rfl) (Run.go 100 ?_))
 simp -implicitDefEqProofs only [go_sem, A5, hz', hl']
 exact ⟨S3 hs, fun e => e.symm⟩
theorem C0A (es : List (List V)) (hz : B6 es 5) (hl : es.length ≤ 2932031007402) (hs : ∀ φ, es.map (fun r => r.map (V.sub φ)) = es) : Pure Tryz.prog 79 [.isl es] (.isl es) := by
 have hz' : B6 es 5 = True := eq_true hz
 have hl' := eq_true hl
 refine Pure.of 1 (A2.enter H9 (Nat.le_of_ble_eq_true rfl) (Run.go 100 ?_))
 simp -implicitDefEqProofs only [go_sem, A5, hz', hl']
 exact ⟨S3 hs, fun e => e.symm⟩
theorem C2K (es : List (List V)) (hz : B6 es 3) (hl : es.length ≤ 4398046511104) (hs : ∀ φ, es.map (fun r => r.map (V.sub φ)) = es) : Pure Tryz.prog 80 [.isl es] (.isl es) := by
 have hz' : B6 es 3 = True := eq_true hz
 have hl' := eq_true hl
 refine Pure.of 1 (A2.enter N8 (Nat.le_of_ble_eq_true rfl) (Run.go 100 ?_))
 simp -implicitDefEqProofs only [go_sem, A5, hz', hl']
 exact ⟨S3 hs, fun e => e.symm⟩
theorem C2L (es : List (List V)) (hz : B6 es 5) (hl : es.length ≤ 2932031007402) (hs : ∀ φ, es.map (fun r => r.map (V.sub φ)) = es) : Pure Tryz.prog 81 [.isl es] (.isl es) := by
 have hz' : B6 es 5 = True := eq_true hz
 have hl' := eq_true hl
 refine Pure.of 1 (A2.enter L7 (Nat.le_of_ble_eq_true rfl) (Run.go 100 ?_))
 simp -implicitDefEqProofs only [go_sem, A5, hz', hl']
 exact ⟨S3 hs, fun e => e.symm⟩
theorem B0 {α : Type} (f : α → List V) (sz : Nat) (h : ∀ x, (f x).length = sz) (l : List α) : B6 (l.map f) sz := fun r hr => by
 obtain ⟨y, _, rfl⟩ := List.mem_map.1 hr
 exact h y
theorem B6q (p : Fn) (hw : p.bd) : Pure Tryz.prog 66 [.agg p.row] (.agg p.row) := by
 induction p using Fn.ind with
 | h p ih' =>
  have hl := hw.self
  have c1 := C0y (p.code.map Ins.row) (B0 _ 5 (fun _ => rfl) _) (by rw [List.length_map]; exact Nat.le_trans hl.code (by decide)) (fun φ => B8 φ _ _ fun x _ => Ins.row_sub φ x)
  have c2 := C0z (p.lines.map D2) (B0 _ 1 (fun _ => rfl) _) (by rw [List.length_map]; exact Nat.le_trans hl.lines (by decide)) (fun φ => B8 φ _ _ fun x _ => A5P φ x)
  have c3 := C0A (p.consts.map Kst.row) (B0 _ 5 (fun _ => rfl) _) (by rw [List.length_map]; exact Nat.le_trans hl.consts (by decide)) (fun φ => B8 φ _ _ fun x _ => Kst.row_sub φ x)
  have c4 := C2K (p.ups.map Upv.row) (B0 _ 3 (fun _ => rfl) _) (by rw [List.length_map]; exact Nat.le_trans hl.ups (by decide)) (fun φ => B8 φ _ _ fun x _ => Upv.row_sub φ x)
  have c5 := C2L (p.vars.map Vr.row) (B0 _ 5 (fun _ => rfl) _) (by rw [List.length_map]; exact Nat.le_trans hl.vars (by decide)) (fun φ => B8 φ _ _ fun x _ => Vr.row_sub φ x)
  have g1 := fun φ => B8 φ _ p.code fun x _ => Ins.row_sub φ x
  have s1 := g1 C0
  have f1 := fun d h => S3 (d := d) (h := h) g1
  have g2 := fun φ => B8 φ _ p.lines fun x _ => A5P φ x
  have s2 := g2 C0
  have f2 := fun d h => S3 (d := d) (h := h) g2
  have g3 := fun φ => B8 φ _ p.consts fun x _ => Kst.row_sub φ x
  have s3 := g3 C0
  have f3 := fun d h => S3 (d := d) (h := h) g3
  have g4 := fun φ => B8 φ _ p.ups fun x _ => Upv.row_sub φ x
  have s4 := g4 C0
  have f4 := fun d h => S3 (d := d) (h := h) g4
  have g5 := fun φ => B8 φ _ p.vars fun x _ => Vr.row_sub φ x
  have s5 := g5 C0
  have f5 := fun d h => S3 (d := d) (h := h) g5
  refine Pure.of 1 (A2.enter A4M (Nat.le_of_ble_eq_true rfl) ?_)
  rw [Fn.row_eq p]
  generalize p.code.map Ins.row = e1 at *
  generalize p.lines.map D2 = e2 at *
  generalize p.consts.map Kst.row = e3 at *
  generalize p.ups.map Upv.row = e4 at *
  generalize p.vars.map Vr.row = e5 at *
  refine Run.go 100 ?_
  simp -implicitDefEqProofs only [go_sem, A5]
  refine A0V.pureF c1 (by simp -implicitDefEqProofs only [go_sem, s1]) ?_
  simp -implicitDefEqProofs only [go_sem]
  refine A0V.pureF c2 (by simp -implicitDefEqProofs only [go_sem, s2]) ?_
  simp -implicitDefEqProofs only [go_sem]
  refine A0V.pureF c3 (by simp -implicitDefEqProofs only [go_sem, s3]) ?_
  simp -implicitDefEqProofs only [go_sem]
  refine A0V.pureF c4 (by simp -implicitDefEqProofs only [go_sem, s4]) ?_
  simp -implicitDefEqProofs only [go_sem]
  refine A0V.pureF c5 (by simp -implicitDefEqProofs only [go_sem, s5]) ?_
  simp -implicitDefEqProofs only [go_sem]
  have hlen : (p.protos.map Fn.row).length = p.protos.length := List.length_map ..
  have hpl := hl.protos
  have hrz := eq_true (B0 Fn.row 11 Fn.row_len p.protos)
  have hrow : ∀ (k : Nat) q, p.protos[k]? = some q → (p.protos.map Fn.row)[k]? = some q.row := fun k q hk => by rw [List.getElem?_map, hk]; rfl
  have hsub := fun φ => Fn.rows_sub φ p.protos
  have htk : ∀ (k : Nat) q, p.protos[k]? = some q → (p.protos.take (k + 1)).map Fn.row = (p.protos.take k).map Fn.row ++ [q.row] := fun k q hk => by
   rw [List.take_add_one, hk]; simp
  have htl : ∀ k, ((p.protos.take k).map Fn.row).length = min k p.protos.length := fun k => by simp
  have hta : (p.protos.take p.protos.length).map Fn.row = p.protos.map Fn.row := by rw [List.take_length]
  have ht0 : (p.protos.take 0).map Fn.row = [] := rfl
  generalize hP : p.protos.map Fn.row = es at *
  generalize hT : (fun k => (p.protos.take k).map Fn.row) = T
  have hT' : ∀ k, (p.protos.take k).map Fn.row = T k := fun k => by rw [← hT]
  simp only [hT'] at htk htl hta ht0
  refine Run.roundsK (fun (x : Nat × Nat × Nat) => ⟨[(29, .int .i64 x.1), (28, .int .i64 p.protos.length), (27, .isl es), (3, .sl (66 * 10000 + 37) x.2.1 0 x.1), (2, .ptr (66 * 10000 + 2) 1 0 0), (1, .ptr (66 * 10000 + 1) 0 0 0)],
    [((66 * 10000 + 37), x.2.1, .rows 11 (T x.1)), ((66 * 10000 + 1), 0, .rows 11 [[.str p.name, .int .i64 p.line, .int .i64 p.params, .bool p.vararg, .int .i64 p.regs, .isl e1, .isl e2, .isl e3, .isl es, .isl e4, .isl e5]]), ((66 * 10000 + 2), 1, .rows 11 [[.str [], .int .i64 0, .int .i64 0, .bool false, .int .i64 0, .nils, .nils, .nils, .nils, .nils, .nils]])], x.2.2⟩)
   (fun x => x.1 ≤ p.protos.length) (fun x => p.protos.length - x.1) (0, 2, 3) ?_ (Nat.zero_le _) ?_
  ·refine .trans (.fresh (66 * 10000 + 37) 11 _ _ _) (.turn id ⟨.refl _, .refl _, .refl _, .nils, .refl _, .refl _, trivial⟩ (.at 0 rfl rfl (.of_eq (by simp only [ht0])) (.at 1 rfl rfl (.refl _) (.at 2 rfl rfl (.refl _) trivial))))
  rintro ⟨k, st, m⟩ hk ih
  simp only at hk ih ⊢
  refine Run.unf A8l (Run.go 100 ?_)
  by_cases hlt : k < p.protos.length
  ·have q0 : ((k : Int) < (p.protos.length : Int)) = True := eq_true (by omega)
   have q1 : ((0 : Int) ≤ (k : Int)) = True := eq_true (by omega)
   obtain ⟨q, hq⟩ : ∃ q, p.protos[k]? = some q := ⟨p.protos[k], by simp [hlt]⟩
   have hqm : q ∈ p.protos := List.mem_of_getElem? hq
   have hqr := hrow k q hq
   have hql := q.row_len
   have hqs := Fn.row_sub C0 q
   have hih := ih' q hqm (hw.child hqm)
   have hTl : (T k).length = k := by rw [htl]; omega
   have hTk := htk k q hq
   have hzk : ((k : Int) + 1) = ((k + 1 : Nat) : Int) := by omega
   have hap : (k + 1 ≤ 733007751850) = True := eq_true (by omega)
   have hTt : (T k).take k = T k := List.take_of_length_le (by omega)
   have htq : q.row.take 11 = q.row := List.take_of_length_le (by omega)
   generalize q.row = qr at *
   simp -implicitDefEqProofs only [go_sem, q0, q1, hlen, hrz, hqr, Option.some.injEq, forall_eq', hql, htq, List.append_nil]
   refine ⟨hlt, ?_⟩
   refine A2.pureF hih (by simp -implicitDefEqProofs only [go_sem, hqs]) ?_
   simp -implicitDefEqProofs only [go_sem, hql, hTl, hap, hTt, htq]
   refine ⟨by omega, ?_⟩
   refine ih _ (k + 1, m + 1, m + 2) (by simp only; omega) (by simp only; omega) (B7.wk ?_)
   simp only [← hzk, hTk]
   simp -implicitDefEqProofs only [go_sem]
  ·have e : k = p.protos.length := by omega
   subst e
   simp -implicitDefEqProofs only [go_sem, Int.lt_irrefl]
   have hTl : (T p.protos.length).length = p.protos.length := by rw [htl]; omega
   have e2 : Nat.ble p.protos.length (T p.protos.length).length = true := Nat.ble_eq_true_of_le (by omega)
   have e3 : (T p.protos.length).take p.protos.length = es := by rw [List.take_of_length_le (by omega), hta]
   have e4 := fun d h => S3 (d := d) (h := h) hsub
   simp only [f1, f2, f3, f4, f5, e3, if_pos (Nat.le_of_ble_eq_true e2), e4, and_self]
theorem A9 (p : Fn) : p.row.length = 11 ∧ p.row.take 11 = p.row := ⟨p.row_len, List.take_of_length_le (by rw [p.row_len]; exact Nat.le_refl _)⟩
theorem C0J (p : Fn) (n : Nat) : A2 Tryz.prog 51 [.agg p.row] [] n fun r h' n' => r = .fn 64 [.ptr (51 * 10000 + 1) n 0 0] ∧ h' = [((51 * 10000 + 1), n, .rows 11 [p.row])] ∧ n' = n + 1 := by
 obtain ⟨h1, h2⟩ := A9 p
 generalize p.row = pr at *
 refine A2.enterK A7D (Nat.le_of_ble_eq_true rfl) fun Q hQ => Run.go 100 ?_
 simp -implicitDefEqProofs only [go_sem, A5, h1, h2]
 subst hQ
 exact .is ⟨rfl, rfl, rfl⟩
structure Rnds (nm st : Nat) (whole : List Fn) (J X : List Fn → A0 → Nat → Prop) : Prop where
 round : ∀ pre q rest h n, whole = pre ++ q :: rest → J pre h n → Q4 Tryz.prog nm st [.agg q.row] h n fun r h' n' => (r = .bool true ∧ J (pre ++ [q]) h' n') ∨ (r = .bool false ∧ X (pre ++ [q]) h' n')
 up : ∀ pre h n n', n ≤ n' → J pre h n → J pre h n'
 apJ : ∀ pre h n, J pre h n → Y8 h (65 * 10000 + 2) ∧ Y8 h (65 * 10000 + 6)
 apX : ∀ pre h n, X pre h n → Y8 h (65 * 10000 + 2) ∧ Y8 h (65 * 10000 + 6)
theorem C4M {nm st : Nat} {whole : List Fn} {J X : List Fn → A0 → Nat → Prop} (hR : Rnds nm st whole J X) (p : Fn) (hp : p.bd) : ∀ pre post h n, whole = pre ++ p.each ++ post → J pre h n →
  A2 Tryz.prog 65 [.agg p.row, .yld nm st] h n fun r h' n' => (r = .bool true ∧ J (pre ++ p.each) h' n') ∨ (r = .bool false ∧ ∃ pre' q rest, whole = pre' ++ q :: rest ∧ X (pre' ++ [q]) h' n') := by
 induction p using Fn.ind with
 | h p ih' =>
  intro pre post h n hw hJ
  have hp8 := hp.self.protos
  obtain ⟨a1, a2⟩ := hR.apJ _ _ _ hJ
  have d1 := a1.del
  have d2 := a2.del
  have hround := hR.round pre p (Fn.eachs p.protos ++ post) h (n + 1) (by rw [hw, Fn.each_eq]; simp) (hR.up _ _ _ _ (Nat.le_succ n) hJ)
  refine A2.enterK A7K (Nat.le_of_ble_eq_true rfl) fun Q hQ => Run.go 100 ?_
  obtain ⟨h1, h2⟩ := A9 p
  have heq := p.row_eq
  have h8 : p.row[8]? = some (.isl (p.protos.map Fn.row)) := by rw [heq]; rfl
  have hpl : (p.protos.map Fn.row).length = p.protos.length := List.length_map ..
  have hrz := eq_true (B0 Fn.row 11 Fn.row_len p.protos)
  have hrow : ∀ (k : Nat) q, p.protos[k]? = some q → (p.protos.map Fn.row)[k]? = some q.row := fun k q hk => by rw [List.getElem?_map, hk]; rfl
  clear heq
  generalize p.row = pr at *
  generalize p.protos.map Fn.row = es at *
  simp -implicitDefEqProofs only [go_sem, A5, h1, h2, d1]
  refine Q4.use (rest := [_]) hround rfl (fun e he e' he' => by rw [List.mem_singleton.1 he]; exact a1 e' he') ?_
  rintro r h' n' hn (⟨rfl, hJ'⟩ | ⟨rfl, hX⟩)
  ·simp -implicitDefEqProofs only [go_sem, h8]
   refine Run.roundsK (fun (x : Nat × A0 × Nat) => ⟨[(14, .int .i64 x.1), (13, .int .i64 p.protos.length), (12, .isl es), (2, .ptr (65 * 10000 + 2) n 0 0), (1, .yld nm st)], ((65 * 10000 + 2), n, .rows 11 [pr]) :: x.2.1, x.2.2⟩)
    (fun x => x.1 ≤ p.protos.length ∧ J (pre ++ [p] ++ Fn.eachs (p.protos.take x.1)) x.2.1 x.2.2) (fun x => p.protos.length - x.1) (0, h', n') ?_ ⟨Nat.zero_le _, by simpa [Fn.eachs] using hJ'⟩ ?_
   ·refine B7.wk ⟨D0.1 (by simp -implicitDefEqProofs only [go_sem, hpl]), fun e he => ?_, Nat.le_refl _⟩
    simpa using he
   rintro ⟨k, h3, n3⟩ ⟨hk, hJ3⟩ ih
   simp only at hk hJ3 ih ⊢
   obtain ⟨b1, b2⟩ := hR.apJ _ _ _ hJ3
   have c1 := b1.del
   have c2 := b2.del
   refine Run.unf B0H (Run.go 100 ?_)
   by_cases hlt : k < p.protos.length
   ·have q0 : ((k : Int) < (p.protos.length : Int)) = True := eq_true (by omega)
    have q1 : ((0 : Int) ≤ (k : Int)) = True := eq_true (by omega)
    obtain ⟨q, hq⟩ : ∃ q, p.protos[k]? = some q := ⟨p.protos[k], by simp [hlt]⟩
    have hqm : q ∈ p.protos := List.mem_of_getElem? hq
    have hqr := hrow k q hq
    have hql := q.row_len
    have htq : q.row.take 11 = q.row := List.take_of_length_le (by omega)
    have hzk : ((k : Int) + 1) = ((k + 1 : Nat) : Int) := by omega
    have hspl : p.protos = p.protos.take k ++ q :: p.protos.drop (k + 1) := by
     have := List.getElem_of_getElem? hq
     obtain ⟨hk', e⟩ := this
     rw [← e, List.getElem_cons_drop]; simp
    have hw3 : whole = (pre ++ [p] ++ Fn.eachs (p.protos.take k)) ++ q.each ++ (Fn.eachs (p.protos.drop (k + 1)) ++ post) := by
     have e1 : Fn.eachs p.protos = Fn.eachs (p.protos.take k) ++ (q.each ++ Fn.eachs (p.protos.drop (k + 1))) := by
      conv => lhs; rw [hspl]
      rw [Fn.eachs_append, Fn.eachs]
     rw [hw, Fn.each_eq p, e1]; simp
    have hcall := ih' q hqm (hp.child hqm) _ _ h3 (n3 + 1) hw3 (hR.up _ _ _ _ (Nat.le_succ n3) hJ3)
    have htk : Fn.eachs (p.protos.take (k + 1)) = Fn.eachs (p.protos.take k) ++ q.each := by
     rw [List.take_add_one, hq]; simp [Fn.eachs_append, Fn.eachs]
    generalize q.row = qr at *
    simp -implicitDefEqProofs only [go_sem, q0, q1, hpl, hrz, hqr, Option.some.injEq, forall_eq', hql, htq, List.append_nil, c2]
    refine ⟨hlt, ?_⟩
    refine A2.use (rest := [_, _]) hcall rfl (fun e he e' he' => ?_) ?_
    ·simp only [List.mem_cons, List.not_mem_nil, or_false] at he
     rcases he with rfl | rfl
     ·exact b2 e' he'
     ·exact b1 e' he'
    rintro r h4 n4 hn4 (⟨rfl, hJ4⟩ | ⟨rfl, pre', q', rest, hwx, hX⟩)
    ·simp -implicitDefEqProofs only [go_sem]
     refine ⟨by omega, ?_⟩
     refine ih _ (k + 1, h4, n4) ⟨by simp only; omega, by simp only [htk]; rw [← List.append_assoc]; exact hJ4⟩ (by simp only; omega) (B7.wk ⟨D0.1 (by simp -implicitDefEqProofs only [go_sem, hzk]), fun e he => List.mem_cons_of_mem _ he, Nat.le_refl _⟩)
    ·simp -implicitDefEqProofs only [go_sem]
     subst hQ
     refine .to (Or.inr ⟨rfl, pre', q', rest, hwx, hX⟩) (B7.wk ⟨fun p hp => ?_, fun e he => List.mem_cons_of_mem _ (List.mem_cons_of_mem _ he), Nat.le_refl _⟩)
     rw [List.mem_singleton.1 hp]; rfl
   ·have e : k = p.protos.length := by omega
    subst e
    simp -implicitDefEqProofs only [go_sem, Int.lt_irrefl]
    subst hQ
    rw [List.take_length] at hJ3
    refine .to (Or.inl ⟨rfl, by rw [Fn.each_eq]; simpa using hJ3⟩) (B7.wk ⟨fun p hp => ?_, fun e he => List.mem_cons_of_mem _ he, Nat.le_refl _⟩)
    rw [List.mem_singleton.1 hp]; rfl
  ·simp -implicitDefEqProofs only [go_sem]
   subst hQ
   refine .to (Or.inr ⟨rfl, pre, p, Fn.eachs p.protos ++ post, by rw [hw, Fn.each_eq]; simp, hX⟩) (B7.wk ⟨fun p hp => ?_, fun e he => List.mem_cons_of_mem _ he, Nat.le_refl _⟩)
   rw [List.mem_singleton.1 hp]; rfl
theorem B8j {nm st b sb : Nat} {J X : List Fn → A0 → Nat → Prop} (p : Fn) (hp : p.bd) (hR : Rnds nm st p.each J X) (h : A0) (n : Nat) (hg : A0.get h b sb = some (.rows 11 [p.row])) (hJ : J [] h n) :
  A2 Tryz.prog 64 [.yld nm st, .ptr b sb 0 0] h n fun r h' n' => J p.each h' n' ∨ ∃ pre' q rest, p.each = pre' ++ q :: rest ∧ X (pre' ++ [q]) h' n' := by
 obtain ⟨h1, h2⟩ := A9 p
 have hc := B6q p hp
 have hs := Fn.row_sub C0 p
 have hw := C4M hR p hp [] [] h n (by simp) hJ
 generalize p.row = pr at *
 refine A2.enterK A4K (Nat.le_of_ble_eq_true rfl) fun Q hQ => Run.go 100 ?_
 simp -implicitDefEqProofs only [go_sem, A5, hg, h1, h2]
 refine A2.pureF hc (by simp -implicitDefEqProofs only [go_sem, hs]) ?_
 simp -implicitDefEqProofs only [go_sem]
 refine hw.mono ?_
 rintro r h' n' (⟨rfl, hJ'⟩ | ⟨rfl, pre', q', rest, hwx, hX⟩)
 ·simp -implicitDefEqProofs only [go_sem]
  subst hQ
  exact .is (.inl (by simpa using hJ'))
 ·simp -implicitDefEqProofs only [go_sem]
  subst hQ
  exact .is (.inr ⟨pre', q', rest, hwx, hX⟩)
def parts (q : Fn) : Nat := q.code.length + q.lines.length + q.consts.length + q.ups.length + q.vars.length
structure SmallP (p : Fn) : Prop where
 count : p.each.length ≤ 40
 parts : ∀ q ∈ p.each, parts q ≤ 400 ∧ q.protos.length ≤ 40
theorem SmallP.bd {p : Fn} (h : SmallP p) : p.bd := fun q hq => by
 have h1 := (h.parts q hq).1
 have h2 := (h.parts q hq).2
 unfold Go.Proofs.YtoanghfeednogaaGreatDoor.parts at h1
 exact ⟨by omega, by omega, by omega, by omega, by omega, by omega⟩
def M4 : List Int → Int
 | [] => 0
 | x :: r => if x = 0 then M4 r else x
theorem A4a : ∀ {l : List Int}, (∀ x ∈ l, x = 0) → M4 l = 0
 | [], _ => rfl
 | x :: r, h => by rw [M4, if_pos (h x List.mem_cons_self)]; exact A4a fun y hy => h y (List.mem_cons_of_mem _ hy)
theorem A7X : ∀ {l : List Int} {x : Int} {r : List Int}, (∀ y ∈ l, y = 0) → x ≠ 0 → M4 (l ++ x :: r) = x
 | [], x, r, _, hx => by simp [M4, hx]
 | y :: l, x, r, h, hx => by rw [List.cons_append, M4, if_pos (h y List.mem_cons_self)]; exact A7X (fun z hz => h z (List.mem_cons_of_mem _ hz)) hx
def B2m (d : Nat) (l : List Int) : Int := if 64 < d then 3 else M4 l
theorem C2G (p : Fn) (hp : p.bd) (d : Nat) (hd : Pure Tryz.prog 50 [.agg p.row] (.int .i64 d)) (e : Fn → Int)
  (hs : ∀ q ∈ p.each, Pure Tryz.prog 52 [.agg q.row] (.int .i64 (e q))) : Pure Tryz.prog 37 [.agg p.row] (.int .i64 (B2m d (p.each.map e))) := by
 obtain ⟨h1, h2⟩ := A9 p
 have hps := Fn.row_sub C0 p
 have hec := fun n => C0J p n
 have he1 := fun nm st b sb J X hR h n hg hJ => B8j (nm := nm) (st := st) (b := b) (sb := sb) (J := J) (X := X) p hp hR h n hg hJ
 generalize hpr : p.row = pr at *
 refine Pure.of 0 (A2.enter A6h (Nat.le_of_ble_eq_true rfl) (Run.go 100 ?_))
 simp -implicitDefEqProofs only [go_sem, A5, h1, h2]
 refine A2.pureF hd (by simp -implicitDefEqProofs only [go_sem, hps]) ?_
 by_cases hb : 64 < d
 ·have z0 : ((64 : Int) < (d : Int)) = True := eq_true (by omega)
  have z1 : B2m d (p.each.map e) = 3 := if_pos hb
  simp -implicitDefEqProofs only [go_sem, z0, z1]
 have z0 : ((64 : Int) < (d : Int)) = False := eq_false (by omega)
 have z1 : B2m d (p.each.map e) = M4 (p.each.map e) := if_neg hb
 rw [z1]
 simp -implicitDefEqProofs only [go_sem, z0, h1, h2]
 refine A2.at [] [0, 1] (hec 2) rfl rfl ?_
 rintro r h' n' hn ⟨rfl, rfl, rfl⟩
 simp -implicitDefEqProofs only [go_sem]
 refine ⟨by kernel_rfl, ?_⟩
 generalize hSL : [(9, V.fn 64 [V.ptr (51 * 10000 + 1) 2 0 0]), (8, .agg pr), (7, .bool false), (6, .int .i64 d), (5, .agg pr), (2, .ptr (37 * 10000 + 2) 1 0 0), (1, .ptr (37 * 10000 + 1) 0 0 0), (0, .agg pr)] = SL
 refine A2.pre (xs' := [.yld (37 * 10000 + 9010) 3, .ptr (51 * 10000 + 1) 2 0 0]) (h' := [((37 * 10000 + 9010), 3, .loop 16 SL [10] (Y9 Tryz.prog 16 P5 P6) .ready none), ((37 * 10000 + 2), 1, .rows 1 [[.int .i64 0]]), ((51 * 10000 + 1), 2, .rows 11 [pr]), ((37 * 10000 + 1), 0, .rows 11 [pr])]) (n' := 4)
  (.turn id ⟨.refl _, .refl _, trivial⟩ (.at 0 rfl rfl (.refl _) (.at 2 rfl rfl (.refl _) (.at 1 rfl rfl (.refl _) (.at 3 rfl rfl (.refl _) trivial))))) rfl ?_
 refine (he1 (37 * 10000 + 9010) 3 (51 * 10000 + 1) 2 (fun pre h n => (∀ x ∈ pre.map e, x = 0) ∧ h = [((37 * 10000 + 9010), 3, .loop 16 SL [10] (Y9 Tryz.prog 16 P5 P6) .ready none), ((37 * 10000 + 2), 1, .rows 1 [[.int .i64 0]]), ((51 * 10000 + 1), 2, .rows 11 [pr]), ((37 * 10000 + 1), 0, .rows 11 [pr])])
  (fun pre h n => ∃ pre' q, pre = pre' ++ [q] ∧ (∀ x ∈ pre'.map e, x = 0) ∧ e q ≠ 0 ∧ h = [((37 * 10000 + 9010), 3, .loop 16 SL [10] (Y9 Tryz.prog 16 P5 P6) .done (some .ret)), ((37 * 10000 + 2), 1, .rows 1 [[.int .i64 (e q)]]), ((51 * 10000 + 1), 2, .rows 11 [pr]), ((37 * 10000 + 1), 0, .rows 11 [pr])]) ⟨?_, fun _ _ _ _ _ h => h, ?_, ?_⟩ _ 4 (by simp -implicitDefEqProofs only [go_sem]) ⟨by simp, rfl⟩).mono ?_
 ·rintro pre q rest h n hw ⟨hz, rfl⟩
  have hqm : q ∈ p.each := by rw [hw]; simp
  have hq := hs q hqm
  obtain ⟨g1, g2⟩ := A9 q
  have hqs := Fn.row_sub C0 q
  generalize q.row = qr at *
  refine Q4.enterU A8j A8k rfl rfl fun Q hQ => Run.go 100 ?_
  subst hSL
  simp -implicitDefEqProofs only [go_sem, g1, g2]
  refine A2.pureF hq (by simp -implicitDefEqProofs only [go_sem, hqs]) ?_
  by_cases hq0 : e q = 0
  ·simp -implicitDefEqProofs only [go_sem, hq0]
   subst hQ
   refine .to (n2 := n + 1) (.inl ⟨rfl, ?_, rfl⟩) (.turn id ⟨.refl _, trivial⟩ (.at 0 rfl rfl (.refl _) (.at 2 rfl rfl (.refl _) (.at 3 rfl rfl (.refl _) (.at 4 rfl rfl (.refl _) trivial)))))
   intro x hx
   simp only [List.map_append, List.mem_append, List.map_cons, List.map_nil, List.mem_singleton] at hx
   rcases hx with hx | rfl
   ·exact hz x hx
   ·exact hq0
  ·simp -implicitDefEqProofs only [go_sem, hq0]
   subst hQ
   refine .to (n2 := n + 1) (.inr ⟨rfl, pre, q, rfl, hz, hq0, rfl⟩) (.turn id ⟨.refl _, trivial⟩ (.at 0 rfl rfl (.refl _) (.at 1 rfl rfl (.refl _) (.at 3 rfl rfl (.refl _) (.at 4 rfl rfl (.refl _) trivial)))))
 ·rintro pre h n ⟨_, rfl⟩
  exact ⟨.of rfl, .of rfl⟩
 ·rintro pre h n ⟨_, _, _, _, _, rfl⟩
  exact ⟨.of rfl, .of rfl⟩
 ·rintro r h' n' (⟨hz, rfl⟩ | ⟨pre, q, rest, hw, pre', q', hpq, hz, hq0, rfl⟩)
  ·subst hSL
   have := A4a hz
   simp -implicitDefEqProofs only [go_sem, this]
  ·subst hSL
   obtain ⟨rfl, hqq⟩ := List.append_inj' hpq rfl
   obtain rfl : q = q' := by simpa using hqq
   have : M4 (p.each.map e) = e q := by rw [hw, List.map_append, List.map_cons]; exact A7X hz hq0
   simp -implicitDefEqProofs only [go_sem, this]
end Go.Proofs.YtoanghfeednogaaGreatDoor
