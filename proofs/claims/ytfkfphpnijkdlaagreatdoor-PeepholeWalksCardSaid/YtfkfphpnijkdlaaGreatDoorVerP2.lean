/-
 More steps of the verifier. No condition.
-/
import Derived.Test.YtfkfphpnijkdlaaGreatDoorVerP1
import Derived.Test.YtfkfphpnijkdlaaGreatDoorVerT
import Derived.Test.YtfkfphpnijkdlaaGreatDoorFnMb
set_option linter.unusedVariables false
set_option linter.unusedSimpArgs false
set_option maxRecDepth 100000
set_option maxHeartbeats 0
namespace Go.Proofs.YtfkfphpnijkdlaaGreatDoor
open Go.Abs
attribute [local irreducible] CallS Run
-- EV: Ins.v, Ins.row
-- EV: Ins.v, Ins.row
theorem Fit.ends {N : Nat} {i : Ins} (h : Fit N i) (hop : i.op = 23 ∨ i.op = 24) : 0 ≤ i.a + 3 ∧ i.a + 3 < N := by
 have hw : (writes i).1 = if i.op = 23 then [i.a + 3] else [i.a, i.a + 3] := by
  rw [show writes i = wrs i from if_pos h.ok]
  rcases hop with c | c <;> simp [wrs, c]
 have := h.ws (i.a + 3) (by rw [hw]; split <;> simp)
 omega
theorem passed_call (N : Nat) (code : List Ins) (pr : List V) (h11 : pr.length = 11) (ht11 : pr.take 11 = pr) (h5 : pr[5]? = some (.isl (code.map Ins.row))) (a : Nat) (i : Ins) (ha : code[a]? = some i) (b : Int) (hc : code.length ≤ 1000000) (s : Stt) (hN : N ≤ 100000) (hi : Fit N i) (hm : s.marks.length ≤ 1000000) (n : Nat) :
  CallS Tryz.prog 90 [.agg pr, .agg [.int .i64 a, .int .i64 b], .agg [.isl (boolR N s.set), .int .i64 s.opn, .isl (s.marks.map zrw)]] [] n fun r h' n' => ∃ st st2,
   r = .agg [.sl (126 * 10000 + 5) st 0 N, .int .i64 (writes i).2, .sl (39 * 10000 + 5) st2 0 (effM i s.marks).length] ∧
   h' = [((126 * 10000 + 5), st, .rows 1 (boolR N (passF N i a b s).set)), ((39 * 10000 + 5), st2, .rows 1 ((effM i s.marks).map zrw))] := by
 have hal : a < code.length := (List.getElem?_eq_some_iff.1 ha).1
 have k5 : (code.map Ins.row).length = code.length := List.length_map ..
 have z5 := rowszP Ins.row 5 (fun _ => rfl) code
 have r5 : (code.map Ins.row)[a]? = some (Ins.row i) := by rw [List.getElem?_map, ha]; rfl
 generalize code.map Ins.row = rcode at *
 have q0 : ((a : Int) < (code.length : Int)) = True := eq_true (by omega)
 have q1 : ((0 : Int) ≤ (a : Int)) = True := eq_true (by omega)
 have hcal := effect_call N i s hN hi hm
 simp only [Ins.v, Ins.row] at hcal r5
 have hends := hi.ends
 have hok := chk_ok hi.ok
 obtain ⟨f, o, m⟩ := s
 simp only at hcal hm ⊢
 have hlen := boolR_len N f
 have hbz := boolR_sz N f
 refine CallS.enterK verify_passed_ok (Nat.le_of_ble_eq_true rfl) fun Q hQ => Run.go 6 ?_
 simp -implicitDefEqProofs only [go_sem, Ins.v, Ins.row, initSl, h11, ht11, h5, k5, z5, r5, q0, q1, hal, Option.some.injEq, forall_eq']
 refine CallS.at [] [0, 1, 2, 3, 4] (hcal _) rfl rfl ?_
 rintro r h' n1 hn1 ⟨st, st2, rfl, rfl⟩
 simp -implicitDefEqProofs only [go_sem, Ins.v, Ins.row]
 refine Run.keep [8, 7, 6, 5, 4, 3] ?_
 have hpo : (⟨f, o, m⟩ : Stt).set = f := rfl
 -- the three ways
 have hno : (endsB i a b = true ∧ f (i.a + 3).toNat = false → False) → boolR N (passF N i a b ⟨f, o, m⟩).set = boolR N (effF N i ⟨f, o, m⟩).set := fun h => by
  unfold passF; rw [if_neg h]
 have hyes : endsB i a b = true ∧ f (i.a + 3).toNat = false → boolR N (passF N i a b ⟨f, o, m⟩).set = (boolR N (effF N i ⟨f, o, m⟩).set).set (i.a + 3).toNat [.bool false] := fun h => by
  refine (boolR_set _ fun x hx => ?_).symm
  unfold passF; rw [if_pos h]
  have := hok.2.1
  have h0 := hok
  by_cases c : x = (i.a + 3).toNat
  ·have e : (x : Int) = i.a + 3 := by omega
   rw [if_pos c]; simp [e]
  ·have e : ¬ (x : Int) = i.a + 3 := by omega
   rw [if_neg c]; simp [e]
 generalize boolR N (passF N i a b ⟨f, o, m⟩).set = PS at *
 have hel := boolR_len N (effF N i ⟨f, o, m⟩).set
 have hez := boolR_sz N (effF N i ⟨f, o, m⟩).set
 have heat : ∀ r, r < N → ∃ v, (boolR N (effF N i ⟨f, o, m⟩).set)[r]? = some [.bool v] := fun r hr => ⟨_, boolR_at hr⟩
 generalize boolR N (effF N i ⟨f, o, m⟩).set = ES at *
 have hfat : ∀ r, r < N → (boolR N f)[r]? = some [.bool (f r)] := fun r hr => boolR_at hr
 generalize boolR N f = FSs at *
 have hii : (i.op = 23 ∧ b = i.b) ∨ (i.op = 24 ∧ b ≠ i.b) ∨ (i.op = 24 ∧ b = i.b ∧ i.b = (a : Int) + 1) ∨ endsB i a b = false := by
  unfold endsB
  by_cases c1 : i.op = 23 <;> by_cases c2 : i.op = 24 <;> by_cases c3 : b = i.b <;> by_cases c4 : i.b = (a : Int) + 1 <;> simp [c1, c2, c3, c4] <;> omega
 rcases hii with ⟨c1, c2⟩ | ⟨c1, c2⟩ | ⟨c1, c2, c3⟩ | c0
 ·have he : endsB i a b = true := by simp [endsB, c1, c2]
  have hb := hends (.inl c1)
  obtain ⟨A3, hA3⟩ : ∃ A3 : Nat, i.a + 3 = A3 := ⟨(i.a + 3).toNat, by omega⟩
  rw [hA3] at hb hno hyes
  have hAN : A3 < N := by omega
  rw [Int.toNat_natCast] at hno hyes
  have p0 : ((0 : Int) ≤ (A3 : Int)) = True := eq_true (by omega)
  have p1 : ((A3 : Int) < (N : Int)) = True := eq_true (by omega)
  have hfa := hfat A3 hAN
  obtain ⟨v, hva⟩ := heat A3 hAN
  cases hf : f A3 with
  | false =>
   rw [hf] at hfa hno hyes
   have := hyes ⟨he, rfl⟩
   subst this
   refine Run.go 100 ?_
   simp -implicitDefEqProofs only [go_sem, Ins.v, Ins.row, c1, c2, hA3, p0, p1, hfa, hva, hAN, hel, hez, hlen, hbz, Option.some.injEq, forall_eq']
   repeat refine ⟨by omega, ?_⟩
   subst hQ
   exact .to ⟨st, st2, rfl, rfl⟩ (.turn id ⟨.refl _, trivial⟩ (.at 1 rfl rfl (.refl _) (.at 3 rfl rfl (.refl _) trivial)))
  | true =>
   rw [hf] at hfa hno
   have := hno (fun h => by simp at h)
   subst this
   refine Run.go 100 ?_
   simp -implicitDefEqProofs only [go_sem, Ins.v, Ins.row, c1, c2, hA3, p0, p1, hfa, hva, hAN, hel, hez, hlen, hbz, Option.some.injEq, forall_eq']
   repeat refine ⟨by omega, ?_⟩
   subst hQ
   exact .to ⟨st, st2, rfl, rfl⟩ (.turn id ⟨.refl _, trivial⟩ (.at 2 rfl rfl (.refl _) (.at 3 rfl rfl (.refl _) trivial)))
 ·have he : endsB i a b = true := by simp [endsB, c1, c2]
  have hb := hends (.inr c1)
  obtain ⟨A3, hA3⟩ : ∃ A3 : Nat, i.a + 3 = A3 := ⟨(i.a + 3).toNat, by omega⟩
  rw [hA3] at hb hno hyes
  have hAN : A3 < N := by omega
  rw [Int.toNat_natCast] at hno hyes
  have p0 : ((0 : Int) ≤ (A3 : Int)) = True := eq_true (by omega)
  have p1 : ((A3 : Int) < (N : Int)) = True := eq_true (by omega)
  have hfa := hfat A3 hAN
  obtain ⟨v, hva⟩ := heat A3 hAN
  cases hf : f A3 with
  | false =>
   rw [hf] at hfa hno hyes
   have := hyes ⟨he, rfl⟩
   subst this
   refine Run.go 100 ?_
   simp -implicitDefEqProofs only [go_sem, Ins.v, Ins.row, c1, c2, hA3, p0, p1, hfa, hva, hAN, hel, hez, hlen, hbz, Option.some.injEq, forall_eq']
   repeat refine ⟨by omega, ?_⟩
   subst hQ
   exact .to ⟨st, st2, rfl, rfl⟩ (.turn id ⟨.refl _, trivial⟩ (.at 1 rfl rfl (.refl _) (.at 3 rfl rfl (.refl _) trivial)))
  | true =>
   rw [hf] at hfa hno
   have := hno (fun h => by simp at h)
   subst this
   refine Run.go 100 ?_
   simp -implicitDefEqProofs only [go_sem, Ins.v, Ins.row, c1, c2, hA3, p0, p1, hfa, hva, hAN, hel, hez, hlen, hbz, Option.some.injEq, forall_eq']
   repeat refine ⟨by omega, ?_⟩
   subst hQ
   exact .to ⟨st, st2, rfl, rfl⟩ (.turn id ⟨.refl _, trivial⟩ (.at 2 rfl rfl (.refl _) (.at 3 rfl rfl (.refl _) trivial)))
 ·have he : endsB i a b = true := by simp [endsB, c1, c2, c3]
  have hb := hends (.inr c1)
  obtain ⟨A3, hA3⟩ : ∃ A3 : Nat, i.a + 3 = A3 := ⟨(i.a + 3).toNat, by omega⟩
  rw [hA3] at hb hno hyes
  have hAN : A3 < N := by omega
  rw [Int.toNat_natCast] at hno hyes
  have p0 : ((0 : Int) ≤ (A3 : Int)) = True := eq_true (by omega)
  have p1 : ((A3 : Int) < (N : Int)) = True := eq_true (by omega)
  have hfa := hfat A3 hAN
  obtain ⟨v, hva⟩ := heat A3 hAN
  cases hf : f A3 with
  | false =>
   rw [hf] at hfa hno hyes
   have := hyes ⟨he, rfl⟩
   subst this
   refine Run.go 100 ?_
   simp -implicitDefEqProofs only [go_sem, Ins.v, Ins.row, c1, c2, c3, hA3, p0, p1, hfa, hva, hAN, hel, hez, hlen, hbz, Option.some.injEq, forall_eq']
   repeat refine ⟨by omega, ?_⟩
   subst hQ
   exact .to ⟨st, st2, rfl, rfl⟩ (.turn id ⟨.refl _, trivial⟩ (.at 1 rfl rfl (.refl _) (.at 3 rfl rfl (.refl _) trivial)))
  | true =>
   rw [hf] at hfa hno
   have := hno (fun h => by simp at h)
   subst this
   refine Run.go 100 ?_
   simp -implicitDefEqProofs only [go_sem, Ins.v, Ins.row, c1, c2, c3, hA3, p0, p1, hfa, hva, hAN, hel, hez, hlen, hbz, Option.some.injEq, forall_eq']
   repeat refine ⟨by omega, ?_⟩
   subst hQ
   exact .to ⟨st, st2, rfl, rfl⟩ (.turn id ⟨.refl _, trivial⟩ (.at 2 rfl rfl (.refl _) (.at 3 rfl rfl (.refl _) trivial)))
 have := hno (fun h => by rw [c0] at h; simp at h)
 subst this
 by_cases c1 : i.op = 23
 ·have c2 : ¬ b = i.b := fun e => by simp [endsB, c1, e] at c0
  refine Run.go 100 ?_
  simp -implicitDefEqProofs only [go_sem, Ins.v, Ins.row, c1, c2, h11, ht11]
  repeat refine ⟨by omega, ?_⟩
  subst hQ
  exact .to ⟨st, st2, rfl, rfl⟩ (.turn id ⟨.refl _, trivial⟩ (.at 2 rfl rfl (.refl _) (.at 3 rfl rfl (.refl _) trivial)))
 by_cases c2 : i.op = 24
 ·have c3 : b = i.b := by
   refine Decidable.byContradiction fun e => ?_
   simp [endsB, c2, e] at c0
  have c4 : ¬ i.b = (a : Int) + 1 := fun e => by simp [endsB, c2, c3, e] at c0
  refine Run.go 100 ?_
  simp -implicitDefEqProofs only [go_sem, Ins.v, Ins.row, c2, c3, c4, h11, ht11]
  repeat refine ⟨by omega, ?_⟩
  subst hQ
  exact .to ⟨st, st2, rfl, rfl⟩ (.turn id ⟨.refl _, trivial⟩ (.at 2 rfl rfl (.refl _) (.at 3 rfl rfl (.refl _) trivial)))
 ·refine Run.go 100 ?_
  simp -implicitDefEqProofs only [go_sem, Ins.v, Ins.row, c1, c2, h11, ht11]
  repeat refine ⟨by omega, ?_⟩
  subst hQ
  exact .to ⟨st, st2, rfl, rfl⟩ (.turn id ⟨.refl _, trivial⟩ (.at 2 rfl rfl (.refl _) (.at 3 rfl rfl (.refl _) trivial)))
-- EV: Ins.v, Ins.row
theorem join_call (N : Nat) (f g : Nat → Bool) (hN : N ≤ 100000) (b st1 st2 : Nat) (o1 o2 m1 m2 : V) (n : Nat) :
  CallS Tryz.prog 91 [.agg [.sl (1000000000000 + b) st1 0 N, o1, m1], .agg [.sl (126 * 10000 + 5) st2 0 N, o2, m2]]
   [(1000000000000 + b, st1, .rows 1 (boolR N f)), ((126 * 10000 + 5), st2, .rows 1 (boolR N g))] n fun r h' n' =>
   r = .bool ((List.range N).any fun r => f r && !g r) ∧ h' = [(1000000000000 + b, st1, .rows 1 (boolR N fun r => f r && g r)), ((126 * 10000 + 5), st2, .rows 1 (boolR N g))] := by
 obtain ⟨B, hB⟩ : ∃ B, B = 1000000000000 + b := ⟨_, rfl⟩
 have hbq : ∀ k : Nat, k < 1000000000000 → (k = B) = False := fun k h => eq_false (by omega)
 have hbq2 : ∀ k : Nat, k < 1000000000000 → (B = k) = False := fun k h => eq_false (by omega)
 rw [← hB]
 have gl := boolR_len N g
 have gz := boolR_sz N g
 have ga : ∀ r, r < N → (boolR N g)[r]? = some [.bool (g r)] := fun r hr => boolR_at hr
 generalize boolR N g = G at *
 refine CallS.enterK verify_join_ok (Nat.le_of_ble_eq_true rfl) fun Q hQ => Run.go 100 ?_
 simp -implicitDefEqProofs only [go_sem, Ins.v, Ins.row, initSl, hbq, hbq2]
 refine Run.rounds (fun (k : Nat) => ⟨[(10, .int .i64 k), (9, .int .i64 N), (5, .bool ((List.range k).any fun r => f r && !g r)), (3, .ptr (91 * 10000 + 3) (n + 1) 0 0), (2, .ptr (91 * 10000 + 2) n 0 0)],
  [((91 * 10000 + 3), n + 1, .rows 3 [[.sl (126 * 10000 + 5) st2 0 N, o2, m2]]), ((91 * 10000 + 2), n, .rows 3 [[.sl B st1 0 N, o1, m1]]), (B, st1, .rows 1 (boolR N fun r => f r && (g r || decide (k ≤ r)))), ((126 * 10000 + 5), st2, .rows 1 G)], n + 1 + 1⟩)
  (fun k => k ≤ N) (fun k => N - k) 0 ?_ (Nat.zero_le _) ?_
 ·have : (boolR N fun r => f r && (g r || decide (0 ≤ r))) = boolR N f := boolR_congr fun r hr => by simp
  simp -implicitDefEqProofs only [go_sem, Ins.v, Ins.row, this, hbq, hbq2]
  rfl
 intro k hk ih
 refine Run.unf verify_join_l0_eq (Run.go 100 ?_)
 have hlen := boolR_len N fun r => f r && (g r || decide (k ≤ r))
 have hz' := boolR_sz N fun r => f r && (g r || decide (k ≤ r))
 by_cases hlt : k < N
 ·have q0 : ((k : Int) < (N : Int)) = True := eq_true (by omega)
  have q1 : ((0 : Int) ≤ (k : Int)) = True := eq_true (by omega)
  have hat := boolR_at (f := fun r => f r && (g r || decide (k ≤ r))) hlt
  have hgk := ga k hlt
  have hkk : decide (k ≤ k) = true := by simp
  rw [hkk, Bool.or_true, Bool.and_true] at hat
  have hany : ((List.range (k + 1)).any fun r => f r && !g r) = (((List.range k).any fun r => f r && !g r) || (f k && !g k)) := by simp [List.range_succ]
  have hset := boolR_set (N := N) (r := k) (b := false) (f := fun r => f r && (g r || decide (k ≤ r))) (fun r => f r && (g r || decide (k + 1 ≤ r)))
  have hsame : (f k && !g k) = false → (boolR N fun r => f r && (g r || decide (k + 1 ≤ r))) = boolR N fun r => f r && (g r || decide (k ≤ r)) := fun h => boolR_congr fun r hr => by
   by_cases c : r = k
   ·subst c
    cases hf : f r <;> cases hg : g r <;> simp [hf, hg] at h ⊢
   ·have : decide (k + 1 ≤ r) = decide (k ≤ r) := decide_eq_decide.2 (by omega)
    rw [this]
  have hset := fun h : (f k && !g k) = true => hset fun x hx => by
   by_cases c : x = k
   ·subst c
    cases hf : f x <;> cases hg : g x <;> simp [hf, hg] at h ⊢
   ·have : decide (k + 1 ≤ x) = decide (k ≤ x) := decide_eq_decide.2 (by omega)
    rw [if_neg c, this]
  have hzk : ((k + 1 : Nat) : Int) = (k : Int) + 1 := by omega
  have fin := fun s => ih s (k + 1) (by omega) (by omega)
  clear ih
  simp only [hany] at fin
  generalize (boolR N fun r => f r && (g r || decide (k ≤ r))) = es at *
  generalize ((List.range k).any fun r => f r && !g r) = ch at *
  cases hf : f k with
  | false =>
   rw [hf] at hat hsame fin
   have hsame := hsame rfl
   simp -implicitDefEqProofs only [go_sem, Ins.v, Ins.row, q0, q1, hlen, hz', hat, hlt, hbq, hbq2, Option.some.injEq, forall_eq']
   exact ⟨by omega, fin _ (by simp -implicitDefEqProofs only [go_sem, Ins.v, Ins.row, hzk, hsame, hbq, hbq2, Bool.false_and, Bool.or_false])⟩
  | true =>
   cases hg : g k with
   | true =>
    rw [hf] at hat hsame fin
    rw [hg] at hgk hsame fin
    have hsame := hsame rfl
    simp -implicitDefEqProofs only [go_sem, Ins.v, Ins.row, q0, q1, hlen, hz', hat, hlt, hgk, gl, gz, hbq, hbq2, Option.some.injEq, forall_eq']
    exact ⟨by omega, fin _ (by simp -implicitDefEqProofs only [go_sem, Ins.v, Ins.row, hzk, hsame, hbq, hbq2, Bool.not_true, Bool.and_false, Bool.or_false])⟩
   | false =>
    rw [hf] at hat hset fin
    rw [hg] at hgk hset fin
    have hset := hset rfl
    simp -implicitDefEqProofs only [go_sem, Ins.v, Ins.row, q0, q1, hlen, hz', hat, hlt, hgk, gl, gz, hbq, hbq2, Option.some.injEq, forall_eq']
    exact ⟨by omega, fin _ (by simp -implicitDefEqProofs only [go_sem, Ins.v, Ins.row, hzk, hset, hbq, hbq2, Bool.not_false, Bool.and_true, Bool.or_true])⟩
 ·have e : k = N := by omega
  subst e
  have : (boolR k fun r => f r && (g r || decide (k ≤ r))) = boolR k fun r => f r && g r := boolR_congr fun r hr => by
   have : decide (k ≤ r) = false := decide_eq_false (by omega)
   rw [this, Bool.or_false]
  rw [this]
  simp -implicitDefEqProofs only [go_sem, Ins.v, Ins.row, Int.lt_irrefl]
  subst hQ
  exact .to ⟨rfl, rfl⟩ (.turn id ⟨.refl _, trivial⟩ (.at 2 rfl rfl (.refl _) (.at 3 rfl rfl (.refl _) trivial)))
theorem entry_call (pr : List V) (h11 : pr.length = 11) (ht11 : pr.take 11 = pr) (regs params : Int) (h4 : pr[4]? = some (.int .i64 regs)) (h2 : pr[2]? = some (.int .i64 params)) (N : Nat) (hN : regs = N) (hNl : N ≤ 100000) (hp0 : 0 ≤ params) (hp1 : params ≤ N) (n : Nat) :
  CallS Tryz.prog 89 [.agg pr] [] n fun r h' n' => ∃ st, r = .agg [.sl (89 * 10000 + 7) st 0 N, .int .i64 (-1), .isl []] ∧ h' = [((89 * 10000 + 7), st, .rows 1 (boolR N (entF N params).set))] := by
 obtain ⟨K, rfl⟩ : ∃ K : Nat, params = K := ⟨params.toNat, by omega⟩
 subst hN
 have hn0 := boolR_none N
 refine CallS.enterK verify_entry_ok (Nat.le_of_ble_eq_true rfl) fun Q hQ => Run.go 100 ?_
 simp -implicitDefEqProofs only [go_sem, Ins.v, Ins.row, initSl, h11, ht11, h4, h2]
 refine ⟨by omega, by omega, ?_⟩
 refine Run.keep [11, 10, 3, 2] ?_
 refine Run.rounds (fun (k : Nat) => ⟨[(11, .int .i64 k), (10, .int .i64 K), (3, .ptr (89 * 10000 + 3) (n + 1 + 1 + 1) 0 0), (2, .ptr (89 * 10000 + 2) (n + 1) 0 0)],
   [((89 * 10000 + 3), n + 1 + 1 + 1, .rows 3 [[.sl (89 * 10000 + 7) (n + 1 + 1) 0 N, .int .i64 (-1), .nils]]), ((89 * 10000 + 7), n + 1 + 1, .rows 1 (boolR N fun r => decide (r < k))), ((89 * 10000 + 2), n + 1, .rows 3 [[.nils, .int .i64 0, .nils]])], n + 1 + 1 + 1 + 1⟩)
  (fun k => k ≤ K) (fun k => K - k) 0 ?_ (Nat.zero_le _) ?_
 ·have : (boolR N fun r => decide (r < 0)) = List.replicate N [.bool false] := by rw [← hn0]; exact boolR_congr fun r hr => by simp
  simp -implicitDefEqProofs only [go_sem, Ins.v, Ins.row, this]
 intro k hk ih
 refine Run.unf verify_entry_l0_eq (Run.go 100 ?_)
 have hlen := boolR_len N fun r => decide (r < k)
 have hz' := boolR_sz N fun r => decide (r < k)
 by_cases hlt : k < K
 ·have q0 : ((k : Int) < (K : Int)) = True := eq_true (by omega)
  have q1 : ((0 : Int) ≤ (k : Int)) = True := eq_true (by omega)
  have hkN : k < N := by omega
  have q2 : ((k : Int) < (N : Int)) = True := eq_true (by omega)
  have hat := boolR_at (f := fun r => decide (r < k)) hkN
  have hset := boolR_set (N := N) (r := k) (b := true) (f := fun r => decide (r < k)) (fun r => decide (r < k + 1)) (fun x hx => by
   by_cases c : x = k
   ·subst c; simp
   ·rw [if_neg c]; exact decide_eq_decide.2 (by omega))
  have hzk : ((k + 1 : Nat) : Int) = (k : Int) + 1 := by omega
  generalize (boolR N fun r => decide (r < k)) = es at *
  simp -implicitDefEqProofs only [go_sem, Ins.v, Ins.row, q0, q1, q2, hlen, hz', hat, hkN, Option.some.injEq, forall_eq']
  exact ⟨by omega, ih _ (k + 1) (by omega) (by omega) (by simp -implicitDefEqProofs only [go_sem, Ins.v, Ins.row, hzk, hset])⟩
 ·have e : k = K := by omega
  subst e
  have : (boolR N fun r => decide (r < k)) = boolR N (entF N k).set := boolR_congr fun r hr => by
   have : decide ((r : Int) < (k : Int)) = decide (r < k) := decide_eq_decide.2 (by omega)
   simp [entF, hr, this]
  rw [this]
  simp -implicitDefEqProofs only [go_sem, Ins.v, Ins.row, Int.lt_irrefl]
  subst hQ
  exact .to ⟨_, rfl, rfl⟩ (.turn id ⟨.agg ⟨.refl _, .refl _, .nilI, trivial⟩, trivial⟩ (.at 2 rfl rfl (.refl _) trivial))
def edgesP (code : List Ins) (a : Nat) : List (Nat × Int) := (List.range a).flatMap fun (a : Nat) => (nextL code a).map fun (b : Int) => (a, b)
def edgesK (code : List Ins) (a k : Nat) : List (Nat × Int) := edgesP code a ++ ((nextL code a).take k).map fun (b : Int) => (a, b)
theorem edgesK_zero (code : List Ins) (a : Nat) : edgesK code a 0 = edgesP code a := by simp [edgesK]
theorem edgesK_all (code : List Ins) (a : Nat) : edgesK code a (nextL code a).length = edgesP code (a + 1) := by
 rw [edgesK, List.take_length, edgesP, edgesP, List.range_succ, List.flatMap_append]; simp
theorem edgesK_succ {code : List Ins} {a k : Nat} {x : Int} (h : (nextL code a)[k]? = some x) : edgesK code a (k + 1) = edgesK code a k ++ [(a, x)] := by
 rw [edgesK, edgesK, List.take_add_one, h, List.map_append, List.append_assoc]; rfl
theorem edgesP_len (code : List Ins) (a : Nat) : (edgesP code a).length ≤ 2 * a := by
 induction a with
 | zero => simp [edgesP]
 | succ a ih =>
  rw [← edgesK_all, edgesK, List.take_length, List.length_append, List.length_map]
  have := nextL_len2 code a
  omega
theorem edges_pure (code : List Ins) (pr : List V) (h11 : pr.length = 11) (ht11 : pr.take 11 = pr) (h5 : pr[5]? = some (.isl (code.map Ins.row))) (hsub : pr.map (V.sub lost) = pr) (hc : code.length ≤ 100000)
  (hnx : ∀ a : Int, Pure Tryz.prog 34 [.agg pr, .int .i64 a] (.isl ((nextL code a).map zrw))) : Pure Tryz.prog 65 [.agg pr] (.isl ((edgesL code).map erow)) := by
 have k5 : (code.map Ins.row).length = code.length := List.length_map ..
 generalize code.map Ins.row = rcode at *
 refine Pure.of 1 (CallS.enter verify_edges_ok (Nat.le_of_ble_eq_true rfl) (Run.go 100 ?_))
 simp -implicitDefEqProofs only [go_sem, Ins.v, Ins.row, initSl, h11, ht11, h5, k5]
 refine Run.keep [10, 9, 3, 1] ?_
 have hfrz : ∀ d h, ((edgesL code).map erow).map (fun r => r.map (frz d h)) = (edgesL code).map erow := fun d h => by
  obtain ⟨φ, e⟩ := frz_eq (d := d) (h := h)
  rw [e, List.map_map]
  exact List.map_congr_left fun y _ => by simp [erow, V.sub]
 have hal : edgesL code = edgesP code code.length := rfl
 generalize hnn : code.length = nn at *
 refine Run.roundsK (fun (x : Nat × Nat × Nat) => ⟨[(10, .int .i64 x.1), (9, .int .i64 nn), (3, .sl (65 * 10000 + 26) x.2.1 0 (edgesP code x.1).length), (1, .ptr (65 * 10000 + 1) 0 0 0)],
   [((65 * 10000 + 26), x.2.1, .rows 2 ((edgesP code x.1).map erow)), ((65 * 10000 + 1), 0, .rows 11 [pr])], x.2.2⟩)
  (fun x => x.1 ≤ nn) (fun x => nn - x.1) (0, 1, 2) ?_ (Nat.zero_le _) ?_
 ·exact .trans (.fresh (65 * 10000 + 26) 2 _ _ _) (.turn id ⟨.refl _, .refl _, .nils, .refl _, trivial⟩ (.at 0 rfl rfl (.refl _) (.at 1 rfl rfl (.refl _) trivial)))
 rintro ⟨a, st, m⟩ ha ih
 simp only at ha ih ⊢
 refine Run.unf verify_edges_l0_eq (Run.go 100 ?_)
 by_cases hlt : a < nn
 ·have q0 : ((a : Int) < (nn : Int)) = True := eq_true (by omega)
  have q1 : ((0 : Int) ≤ (a : Int)) = True := eq_true (by omega)
  simp -implicitDefEqProofs only [go_sem, Ins.v, Ins.row, q0, h11, ht11]
  refine CallS.pureF (hnx a) (by simp -implicitDefEqProofs only [go_sem, Ins.v, Ins.row, hsub]) ?_
  have hin := fun x (hx : x ∈ nextL code a) => nextL_in hx
  have hnl2 := nextL_len2 code a
  have hz0 := edgesK_zero code a
  have hza := edgesK_all code a
  have hzs := fun k x => edgesK_succ (code := code) (a := a) (k := k) (x := x)
  have hpl := edgesP_len code (a + 1)
  have hkl : ∀ k, k ≤ (nextL code a).length → (edgesK code a k).length = (edgesP code a).length + k := fun k hk => by
   rw [edgesK, List.length_append, List.length_map, List.length_take]; omega
  generalize nextL code a = nl at *
  have hnls : ∀ (k : Nat) (x : Int), nl[k]? = some x → (nl.map zrw)[k]? = some [.int .i64 x] := fun k x h => zrw_at h
  have hnll : (nl.map zrw).length = nl.length := List.length_map ..
  have hnlz := rowszZ' nl
  generalize nl.map zrw = nls at *
  simp -implicitDefEqProofs only [go_sem, Ins.v, Ins.row, hnll]
  refine Run.keep [17, 16, 15, 10, 9, 4, 3, 1] ?_
  refine Run.rounds (fun (y : Nat × Nat × Nat) => ⟨[(17, .int .i64 y.1), (16, .int .i64 nl.length), (15, .isl nls), (10, .int .i64 a), (9, .int .i64 nn), (4, .int .i64 a), (3, .sl (65 * 10000 + 26) y.2.1 0 (edgesK code a y.1).length), (1, .ptr (65 * 10000 + 1) 0 0 0)],
    [((65 * 10000 + 26), y.2.1, .rows 2 ((edgesK code a y.1).map erow)), ((65 * 10000 + 1), 0, .rows 11 [pr])], y.2.2⟩)
   (fun y => y.1 ≤ nl.length) (fun y => nl.length - y.1) (0, st, m) (by simp -implicitDefEqProofs only [go_sem, Ins.v, Ins.row, hz0]) (Nat.zero_le _) ?_
  rintro ⟨k, st2, m2⟩ hk ih2
  simp only at hk ih2 ⊢
  refine Run.unf verify_edges_l1_eq (Run.go 100 ?_)
  by_cases hlk : k < nl.length
  ·have w0 : ((k : Int) < (nl.length : Int)) = True := eq_true (by omega)
   have w1 : ((0 : Int) ≤ (k : Int)) = True := eq_true (by omega)
   obtain ⟨x, hx⟩ : ∃ x, nl[k]? = some x := ⟨nl[k], by simp [hlk]⟩
   have hxr := hnls k x hx
   have hzk : ((k + 1 : Nat) : Int) = (k : Int) + 1 := by omega
   have hEl : ((edgesK code a k).map erow).length = (edgesK code a k).length := List.length_map ..
   have hEt : ((edgesK code a k).map erow).take (edgesK code a k).length = (edgesK code a k).map erow := List.take_of_length_le (by rw [hEl]; exact Nat.le_refl _)
   have hEz : rowsz ((edgesK code a k).map erow) 2 = True := rowszP erow 2 (fun _ => rfl) _
   have hsucc := hzs k x hx
   have hs1 : (edgesK code a (k + 1)).map erow = (edgesK code a k).map erow ++ [[.int .i64 a, .int .i64 x]] := by rw [hsucc, List.map_append]; rfl
   have hs2 : (edgesK code a (k + 1)).length = (edgesK code a k).length + 1 := by rw [hsucc]; simp
   have hkk := hkl k hk
   have hk1 := hkl (k + 1) hlk
   have hka := hkl nl.length (Nat.le_refl _)
   rw [hza] at hka
   have fin := fun s => ih2 s (k + 1, m2, m2 + 1) (by simp only; omega) (by simp only; omega)
   clear ih2
   simp only [hs1, hs2] at fin
   generalize (edgesK code a k).map erow = EK at *
   generalize (edgesK code a k).length = L at *
   simp -implicitDefEqProofs only [go_sem, Ins.v, Ins.row, w0, w1, hnll, hnlz, hxr, hlk, hEl, hEt, hEz, Option.some.injEq, forall_eq']
   exact ⟨by omega, by omega, fin _ (by simp -implicitDefEqProofs only [go_sem, Ins.v, Ins.row, hzk])⟩
  ·have e : k = nl.length := by omega
   subst e
   have hza' : ((a + 1 : Nat) : Int) = (a : Int) + 1 := by omega
   simp -implicitDefEqProofs only [go_sem, Ins.v, Ins.row, Int.lt_irrefl]
   refine ⟨by omega, ih _ (a + 1, st2, m2) (by simp only; omega) (by simp only; omega) (Weak.wk (by simp -implicitDefEqProofs only [go_sem, Ins.v, Ins.row, hza, hza']))⟩
 ·have e : a = nn := by omega
  subst e
  have hl : ((edgesP code a).map erow).length = (edgesP code a).length := List.length_map ..
  have ht : ((edgesP code a).map erow).take (edgesP code a).length = (edgesP code a).map erow := List.take_of_length_le (by rw [hl]; exact Nat.le_refl _)
  rw [hal]
  simp -implicitDefEqProofs only [go_sem, Ins.v, Ins.row, Int.lt_irrefl, hl]
  rw [hal] at hfrz
  exact hfrz _ _
-- EV: Ins.v, Ins.row
def sttV (w : V) (s : Stt) : V := .agg [w, .int .i64 s.opn, .isl (s.marks.map zrw)]
def cellV (N : Nat) (M : Nat → Option Stt) (k : Nat) : V := match M k with | some s => sttV (.isl (boolR N s.set)) s | none => .nils
def cellW (N : Nat) (S : Nat → Nat) (M : Nat → Option Stt) (k : Nat) : V := match M k with | some s => sttV (.sl (1000000000000 + k) (S k) 0 N) s | none => .nils
def rowM (N : Nat) (M : Nat → Option Stt) (k : Nat) : List (List V) := match M k with | some s => boolR N s.set | none => []
theorem passed_lend (N : Nat) (code : List Ins) (pr : List V) (h11 : pr.length = 11) (ht11 : pr.take 11 = pr) (h5 : pr[5]? = some (.isl (code.map Ins.row))) (a : Nat) (i : Ins) (ha : code[a]? = some i) (b : Int) (hc : code.length ≤ 1000000) (s : Stt) (hN : N ≤ 100000) (hi : Fit N i) (hm : s.marks.length ≤ 1000000)
  (xs : List V) (h : Heap) (n d : Nat) (Q : Res) (has : xs.map (frz d h) = [.agg pr, .agg [.int .i64 a, .int .i64 b], sttV (.isl (boolR N s.set)) s]) (nm : Nat) (hnm : ∀ e ∈ h, e.1 ≠ nm) (hM : ∀ e ∈ h, e.1 ≠ (39 * 10000 + 5)) (hB : ∀ e ∈ h, e.1 ≠ (126 * 10000 + 5))
  (hk : ∀ st n', n ≤ n' → Q (sttV (.sl nm st 0 N) (passF N i a b s)) ((nm, st, .rows 1 (boolR N (passF N i a b s).set)) :: h) n') : CallS Tryz.prog 90 xs h n Q := by
 refine (CallS.lend (k := fun r h' n' => n ≤ n' ∧ ∃ st st2, r = .agg [.sl (126 * 10000 + 5) st 0 N, .int .i64 (writes i).2, .sl (39 * 10000 + 5) st2 0 (effM i s.marks).length] ∧
   h' = [((126 * 10000 + 5), st, .rows 1 (boolR N (passF N i a b s).set)), ((39 * 10000 + 5), st2, .rows 1 ((effM i s.marks).map zrw))] ++ h)
  (passed_call N code pr h11 ht11 h5 a i ha b hc s hN hi hm n) d has ?_).wk ?_
 ·rintro r h' n' hn ⟨st, st2, rfl, rfl⟩
  refine ⟨rfl, fun e he => ?_, hn, st, st2, rfl, rfl⟩
  simp only [List.mem_cons, List.not_mem_nil, or_false] at he
  rcases he with rfl | rfl
  ·exact boolR_flat _ _
  ·exact zrw_flat _
 ·rintro r h' n' ⟨hn, st, st2, rfl, rfl⟩
  have w1 : Wk ⟨[(0, .agg [.sl (126 * 10000 + 5) st 0 N, .int .i64 (writes i).2, .sl (39 * 10000 + 5) st2 0 (effM i s.marks).length])],
    [((126 * 10000 + 5), st, .rows 1 (boolR N (passF N i a b s).set)), ((39 * 10000 + 5), st2, .rows 1 ((effM i s.marks).map zrw))] ++ h, n'⟩
    ⟨[(0, .agg [.sl (126 * 10000 + 5) st 0 N, .int .i64 (writes i).2, .isl ((effM i s.marks).map zrw)])],
    ((126 * 10000 + 5), st, .rows 1 (boolR N (passF N i a b s).set)) :: h, n'⟩ := by
   refine Wk.freeze (b := (39 * 10000 + 5)) (st := st2) (sz := 1) (rs := (effM i s.marks).map zrw) (by simp) ⟨.agg ⟨.of (.refl _), .of (.refl _), .all (by simp), trivial⟩, trivial⟩ (FrzH.of fun e he => ?_)
   rcases List.mem_cons.1 he with rfl | he
   ·exact ⟨by simp, by simp only; decide⟩
   ·exact ⟨by simp [he], hM e he⟩
  have w2 : Wk ⟨[(0, .agg [.sl (126 * 10000 + 5) st 0 N, .int .i64 (writes i).2, .isl ((effM i s.marks).map zrw)])],
    ((126 * 10000 + 5), st, .rows 1 (boolR N (passF N i a b s).set)) :: h, n'⟩
    ⟨[(0, sttV (.sl nm st 0 N) (passF N i a b s))], (nm, st, .rows 1 (boolR N (passF N i a b s).set)) :: h, n'⟩ := by
   rw [sttV, passF_opn, passF_marks]
   refine Wk.turn (fun x => if x = (126 * 10000 + 5) then nm else x) ⟨.agg ⟨.sl, .refl _, .refl _, trivial⟩, trivial⟩ (SameH.of fun e he => ?_)
   rcases List.mem_cons.1 he with rfl | he
   ·exact ⟨_, List.mem_cons_self, by simp, rfl, .refl _⟩
   ·exact ⟨e, List.mem_cons_of_mem _ he, by rw [if_neg (hB e he)], rfl, .refl _⟩
  exact ⟨_, _, _, w1.trans w2, hk st n' hn⟩
theorem freeze_fam (N nm st n : Nat) (hnm : nm < 1000000000000) (S : Nat → Nat) (M : Nat → Option Stt) (L : List Nat) (hL : ∀ k ∈ L, (M k).isSome) : ∀ l : List Nat, l.Nodup → (∀ k ∈ l, k ∈ L) →
  Wk ⟨[(0, .mp nm st)], (nm, st, .map (mapE L fun k => if k ∈ l then cellW N S M k else cellV N M k)) :: famL (rowM N M) S l, n⟩ ⟨[(0, .mp nm st)], [(nm, st, .map (mapE L (cellV N M)))], n⟩
 | [], _, _ => by
  have e : (mapE L fun k => if k ∈ ([] : List Nat) then cellW N S M k else cellV N M k) = mapE L (cellV N M) := mapE_congr fun x hx => by simp
  rw [e]; exact .refl _
 | a :: l, hn, hl => by
  obtain ⟨h1, h2⟩ := List.nodup_cons.1 hn
  refine Wk.trans ?_ (freeze_fam N nm st n hnm S M L hL l h2 fun k hk => hl k (List.mem_cons_of_mem _ hk))
  refine Wk.freeze (b := 1000000000000 + a) (st := S a) (sz := 1) (rs := rowM N M a) (by simp [famL, famE]) ⟨.of (.refl _), trivial⟩ ⟨⟨_, List.mem_cons_self, by simp only; omega, ?_⟩, FrzH.of fun e he => ?_⟩
  ·refine FrzB.map (by simp [mapE]) fun i p2 hi => ?_
   simp only [mapE, List.getElem?_map, Option.map_eq_some_iff] at hi ⊢
   obtain ⟨k, hk, rfl⟩ := hi
   refine ⟨_, ⟨k, hk, rfl⟩, .of (.refl _), ?_⟩
   simp only
   by_cases c : k = a
   ·subst c
    rw [if_pos List.mem_cons_self, if_neg h1]
    have hs := hL k (List.mem_of_getElem? hk)
    obtain ⟨s, hs⟩ := Option.isSome_iff_exists.1 hs
    simp only [cellW, cellV, rowM, hs, sttV]
    exact .agg ⟨.all (boolR_len _ _).symm, .of (.refl _), .of (.refl _), trivial⟩
   ·have : (k ∈ a :: l) ↔ (k ∈ l) := by simp [c]
    by_cases c2 : k ∈ l
    ·rw [if_pos (this.2 c2), if_pos c2]; exact .of (.refl _)
    ·rw [if_neg (fun h => c2 (this.1 h)), if_neg c2]; exact .of (.refl _)
  ·obtain ⟨j, hj, rfl⟩ := famL_mem.1 he
   refine ⟨List.mem_cons_of_mem _ (famL_mem.2 ⟨j, List.mem_cons_of_mem _ hj, rfl⟩), ?_⟩
   simp only [famE]
   intro e
   exact h1 (by rw [show a = j by omega]; exact hj)
theorem famL_put {F G : Nat → List (List V)} {S : Nat → Nat} {l : List Nat} {b : Nat} {e : Nat × Nat × Blk} (hg : ∀ k ∈ l, k ≠ b → G k = F k) (h : e ∈ famL G S l) : e = (1000000000000 + b, S b, .rows 1 (G b)) ∨ e ∈ Heap.del (famL F S l) (1000000000000 + b) := by
 obtain ⟨j, hj, rfl⟩ := famL_mem.1 h
 by_cases c : j = b
 ·subst c; left; rfl
 ·right
  refine Heap.mem_del.2 ⟨famL_mem.2 ⟨j, hj, by simp [famE, hg j hj c]⟩, by simp only [famE]; omega⟩
theorem famL_snoc {F G : Nat → List (List V)} {S T : Nat → Nat} {l : List Nat} {b : Nat} (hg : ∀ k ∈ l, G k = F k ∧ T k = S k) : famL G T (l ++ [b]) = famL F S l ++ [(1000000000000 + b, T b, .rows 1 (G b))] := by
 simp only [famL, List.map_append, List.map_cons, List.map_nil, famE]
 congr 1
 refine List.map_congr_left fun k hk => ?_
 simp only [famE]
 rw [(hg k hk).1, (hg k hk).2]
end Go.Proofs.YtfkfphpnijkdlaaGreatDoor
