/-
 What dump.decode answers. No condition.
-/
import Derived.Test.YtpmkgcjhbpiojaaGreatDoorDmG2
import Derived.Test.YtpmkgcjhbpiojaaGreatDoorDmPS
import Derived.Test.YtpmkgcjhbpiojaaGreatDoorFnMb
set_option linter.unusedVariables false
set_option linter.unusedSimpArgs false
set_option maxRecDepth 100000
set_option maxHeartbeats 0
namespace Go.Proofs.YtpmkgcjhbpiojaaGreatDoor
open Go.Abs
attribute [local irreducible] A3 C2 Run
abbrev xN (k : Nat) : Nat := 13 * 10000 + k
-- EV: rD, xN
def C2v : List V := [.str [], .int .i64 0, .int .i64 0, .bool false, .int .i64 0, .nils, .nils, .nils, .nils, .nils, .nils]
theorem B4T (e : Int) (sp se n : Nat) (rp re : List V) (hp : rp.length = 11) (he : re.length = 1) : C1w Tryz.prog 21 [.ptr (xN 2) sp 0 0, .ptr (xN 3) se 0 0] (C2V e) [(xN 3, se, .rows 1 [re]), (xN 2, sp, .rows 11 [rp])] n [(xN 3, se, .rows 1 [[.int .i64 e]]), (xN 2, sp, .rows 11 [C2v])] (n + 1) := by
 match rp, hp with
 | [p0, p1, p2, p3, p4, p5, p6, p7, p8, p9, p10], _ =>
 match re, he with
 | [r0], _ =>
 refine C1w.of (a0 := 5) (t0 := 2) A4t (Nat.le_of_ble_eq_true rfl) (by kernel_rfl) (Run.go 100 ?_)
 unfold C2V
 simp -implicitDefEqProofs only [go_sem, rD, xN, A8]
 exact A2A.to (r2 := .tup []) ⟨rfl, rfl⟩ (.turn id ⟨.refl _, trivial⟩ (.at 0 rfl rfl (.refl _) (.at 1 rfl rfl (.refl _) (.of fun e he => by cases he))))
theorem Fn.row_frz' (d : Nat) (h : A2) (p : Fn) : p.row.map (frz d h) = p.row := by
 obtain ⟨φ, e⟩ := q8 (d := d) (h := h)
 rw [e]; exact Fn.row_sub φ p
def B6a (G : Rd Fn) : V := match G with
 | .ok (p, r) => if r = [] then .tup [.agg p.row, .int .i64 0] else .tup [A1m, .int .i64 4]
 | .error e => .tup [A1m, .int .i64 e]
theorem B5C (l : List Int) (hg : G1 l) : Pure Tryz.prog 13 [.isl (byR l)] (B6a (A1z 64 l)) := by
 have hf := fun s n => C7a 64 s n 1 l rfl (Nat.le_refl _) hg
 have hR := G4 l
 generalize hG : A1z 64 l = G at *
 have hrow : ∀ p : Fn, p.row.length = 11 := Fn.row_len
 refine Pure.of 1 (A3.recoverV (g := 21) [2, 3] A6k (Nat.le_of_ble_eq_true rfl) (by kernel_rfl) (by decide) fun Q hQ => ?_)
 simp -implicitDefEqProofs only [go_sem, rD, xN, A8]
 refine C2.at [0] [1, 2] (hf _ _) rfl rfl ?_ ?_
 rotate_left
 ·rintro x h' n' _ ⟨e, rfl, rfl, rfl⟩
  refine ⟨_, _, B4T e _ _ _ _ _ rfl rfl, ?_⟩
  simp -implicitDefEqProofs only [go_sem, rD, xN, B0v, C2v]
  subst hQ
  exact .is rfl
 rintro r h' n1 _ ⟨p, l1, rfl, rfl, rfl⟩
 have hR1 := G4 l1
 by_cases c : (l1.length : Int) > 0
 ·simp -implicitDefEqProofs only [go_sem, rD, xN, rdH, hR1, c, Fn.row_eq]
  refine C2.at [] [2, 0] (A0T rD _ _ 4) rfl rfl (fun _ _ _ _ h => h.elim) ?_
  rintro x h' n' _ ⟨rfl, rfl⟩
  refine ⟨_, _, B4T 4 _ _ _ _ _ rfl rfl, ?_⟩
  simp -implicitDefEqProofs only [go_sem, rD, xN, B0v, C2v]
  subst hQ
  have hne : l1 ≠ [] := fun h => by subst h; exact absurd c (by decide)
  refine .is ?_
  rw [show B6a (.ok (p, l1)) = .tup [A1m, .int .i64 4] from if_neg hne]
  rfl
 ·simp -implicitDefEqProofs only [go_sem, rD, xN, rdH, hR1, c, Fn.row_eq]
  subst hQ
  obtain rfl : l1 = [] := List.length_eq_zero_iff.1 (by omega)
  refine .is ?_
  have key : ∀ H : A2, frz 1 H (.tup [.agg p.row, .int .i64 0]) = .tup [.agg p.row, .int .i64 0] := fun H => by simp -implicitDefEqProofs only [go_sem, rD, xN, Fn.row_frz']
  have e : B6a (.ok (p, [])) = .tup [.agg p.row, .int .i64 0] := by simp [B6a]
  rw [e]
  rw [Fn.row_eq] at key ⊢
  exact key _
theorem A9H (p : Fn) : 81 * p.each.length ≤ (A7n p).length := by
 induction p using Fn.ind with
 | h p ih =>
 have key : ∀ l : List Fn, (∀ q ∈ l, 81 * q.each.length ≤ (A7n q).length) → 81 * (Fn.eachs l).length ≤ (encL l).length := by
  intro l
  induction l with
  | nil => intro _; simp [Fn.eachs]
  | cons q r ihr =>
   intro h
   have h1 := h q List.mem_cons_self
   have h2 := ihr fun x hx => h x (List.mem_cons_of_mem _ hx)
   rw [Fn.eachs, encL, List.length_append, List.length_append]
   omega
 have := key p.protos ih
 have hsl : ∀ t : List UInt8, (B3U t).length = 8 + t.length := fun t => by unfold B3U; rw [List.length_append, A5V, List.length_map]
 rw [Fn.each_eq, A8P]
 simp only [List.length_cons, List.length_append, A5V, hsl, List.length_nil]
 omega
theorem C2u (p : Fn) : ∀ q ∈ p.each, (A7n q).length ≤ (A7n p).length := by
 induction p using Fn.ind with
 | h p ih =>
 intro q hq
 rw [Fn.each_eq] at hq
 rcases List.mem_cons.1 hq with rfl | hq
 ·exact Nat.le_refl _
 ·obtain ⟨r, hr, hq⟩ := Fn.mem_eachs.1 hq
  have h1 := ih r hr q hq
  have h2 : (A7n r).length ≤ (encL p.protos).length := by
   rw [A7h]
   obtain ⟨s, t, e⟩ := List.append_of_mem hr
   rw [e]
   simp only [List.flatMap_append, List.flatMap_cons, List.length_append]
   omega
  rw [A8P p]
  simp only [List.length_append]
  omega
theorem B4l {p : Fn} (h : (A7n p).length ≤ 10000000000) : p.bd := by
 intro q hq
 have h1 := C2u p q hq
 rw [A8P q, A7h] at h1
 simp only [List.length_append] at h1
 have hcC := Y5 (f := fun i => A3Y (B5m i)) (fun i => by rw [B1B]; show 1 ≤ 8 * 5; decide) q.code
 have hcL := Y5 (f := Y4) (fun z => by rw [A5V]; decide) q.lines
 have hcK := Y5 (f := B7B) (fun v => by unfold B7B; simp) q.consts
 have hcP := Y5 (f := A7n) (fun q => by rw [A8P]; simp only [List.length_append, A5V]; omega) q.protos
 have hcU := Y5 (f := upL) (fun u => by unfold upL; simp only [List.length_append, List.length_singleton]; omega) q.ups
 have hcV := Y5 (f := vrL) (fun v => by unfold vrL; simp only [List.length_append, B1B]; show 1 ≤ _ + 8 * 4; omega) q.vars
 rw [show A3Y q.lines = q.lines.flatMap Y4 from rfl] at h1
 exact ⟨by omega, by omega, by omega, by omega, by omega, by omega⟩
theorem B3f {α : Type} {f : List Int → Rd α} {C : α → Prop} (hf : ∀ l x r, f l = .ok (x, r) → C x) : ∀ (n : Nat) (l r : List Int) (xs : List α), F4 f n l = .ok (xs, r) → ∀ x ∈ xs, C x
 | 0, l, r, xs, h => by
  injection h with h
  injection h with e1 e2
  subst e1
  intro x hx
  cases hx
 | n + 1, l, r, xs, h => by
  obtain ⟨x, l1, h1, h2⟩ := Rd.bind_inv h
  obtain ⟨ys, l2, h3, h4⟩ := Rd.bind_inv h2
  injection h4 with h4
  injection h4 with e1 e2
  subst e1
  intro y hy
  rcases List.mem_cons.1 hy with rfl | hy
  ·exact hf _ _ _ h1
  ·exact B3f hf n _ _ _ h3 y hy
theorem B3g {d : Nat} : ∀ {l : List Fn}, (∀ q ∈ l, q.depth ≤ d) → Fn.depths l ≤ d
 | [], _ => Nat.zero_le _
 | p :: r, h => by
  rw [Fn.depths]
  exact Nat.max_le.2 ⟨h p List.mem_cons_self, B3g fun q hq => h q (List.mem_cons_of_mem _ hq)⟩
theorem A8p : ∀ (d : Nat) (l r : List Int) (p : Fn), A1z d l = .ok (p, r) → p.depth ≤ d
 | 0, l, r, p, h => by cases h
 | d + 1, l, r, p, h => by
  rw [B4A] at h
  obtain ⟨name, l1, _, h⟩ := Rd.bind_inv h
  obtain ⟨line, l2, _, h⟩ := Rd.bind_inv h
  obtain ⟨params, l3, _, h⟩ := Rd.bind_inv h
  obtain ⟨vararg, l4, _, h⟩ := Rd.bind_inv h
  obtain ⟨regs, l5, _, h⟩ := Rd.bind_inv h
  obtain ⟨code, l6, _, h⟩ := Rd.bind_inv h
  obtain ⟨lines, l7, _, h⟩ := Rd.bind_inv h
  obtain ⟨consts, l8, _, h⟩ := Rd.bind_inv h
  obtain ⟨protos, l9, h9, h⟩ := Rd.bind_inv h
  obtain ⟨ups, l10, _, h⟩ := Rd.bind_inv h
  obtain ⟨vars, l11, _, h⟩ := Rd.bind_inv h
  injection h with h
  injection h with e1 e2
  subst e1
  obtain ⟨n, l12, _, h10⟩ := Rd.bind_inv h9
  rw [Fn.depth_eq]
  exact Nat.succ_le_succ (B3g (B3f (fun l x r hx => A8p d l r x hx) _ _ _ _ h10))
abbrev nz {α : Type} (x : Rd α) : Prop := ∀ e, x = .error e → e ≠ 0
theorem D0 {α β : Type} {x : Rd α} {f : α → List Int → Rd β} (h1 : nz x) (h2 : ∀ a l, nz (f a l)) : nz (x.bind f) := by
 intro e h
 cases x with
 | ok y => exact h2 _ _ e h
 | error z =>
  injection (show (Except.error z : Rd β) = .error e from h) with h
  exact h1 e (by rw [h])
theorem A2G {α : Type} (r : α × List Int) : nz (.ok r : Rd α) := fun e h => by cases h
theorem A9O {α : Type} {e : Int} (h : e ≠ 0) : nz (.error e : Rd α) := fun e' h' => by cases h'; exact h
theorem A9z (n : Nat) (l : List Int) : nz (A2E n l) := by
 unfold A2E
 split
 ·exact A2G _
 ·exact A9O (by decide)
theorem K9 (l : List Int) : nz (J0 l) := D0 (A9z _ _) fun _ _ => A2G _
theorem A9W (l : List Int) : nz (A0Y l) := D0 (A9z _ _) fun _ _ => by
 split
 ·exact A9O (by decide)
 ·exact A2G _
theorem B8J (l : List Int) : nz (A9g l) := D0 (K9 _) fun _ _ => by
 split
 ·exact A9O (by decide)
 split
 ·exact A9O (by decide)
 ·exact A2G _
theorem B0Y (l : List Int) : nz (A6g l) := D0 (B8J _) fun _ _ => D0 (A9z _ _) fun _ _ => A2G _
theorem C3O (l : List Int) : nz (A3Z l) := D0 (A9z _ _) fun _ _ => by
 split
 ·exact A2G _
 split
 ·exact D0 (A9W _) fun _ _ => A2G _
 split
 ·exact D0 (K9 _) fun _ _ => D0 (K9 _) fun _ _ => A2G _
 split
 ·exact D0 (B0Y _) fun _ _ => A2G _
 ·exact A9O (by decide)
theorem B6D {α : Type} {f : List Int → Rd α} (hf : ∀ l, nz (f l)) : ∀ (n : Nat) (l : List Int), nz (F4 f n l)
 | 0, _ => A2G _
 | n + 1, l => D0 (hf l) fun _ l => D0 (B6D hf n l) fun _ _ => A2G _
theorem A4J {α : Type} {f : List Int → Rd α} (hf : ∀ l, nz (f l)) (l : List Int) : nz (I1 f l) := D0 (B8J l) fun n l => B6D hf n l
theorem C4e (l : List Int) : nz (A7t l) := D0 (K9 _) fun _ _ => D0 (K9 _) fun _ _ => D0 (K9 _) fun _ _ => D0 (K9 _) fun _ _ => D0 (K9 _) fun _ _ => A2G _
theorem C7s (l : List Int) : nz (upP l) := D0 (B0Y _) fun _ _ => D0 (A9W _) fun _ _ => D0 (K9 _) fun _ _ => A2G _
theorem C6X (l : List Int) : nz (vrP l) := D0 (B0Y _) fun _ _ => D0 (K9 _) fun _ _ => D0 (K9 _) fun _ _ => D0 (K9 _) fun _ _ => D0 (K9 _) fun _ _ => A2G _
theorem B8B : ∀ (d : Nat) (l : List Int), nz (A1z d l)
 | 0, _ => A9O (by decide)
 | d + 1, l => D0 (B0Y _) fun _ _ => D0 (K9 _) fun _ _ => D0 (K9 _) fun _ _ => D0 (A9W _) fun _ _ => D0 (K9 _) fun _ _ =>
  D0 (A4J C4e _) fun _ _ => D0 (A4J K9 _) fun _ _ => D0 (A4J C3O _) fun _ _ => D0 (A4J (B8B d) _) fun _ _ => D0 (A4J C7s _) fun _ _ => D0 (A4J C6X _) fun _ _ => A2G _
def B1C (L : List Int) (a b c d : Int) : Except Int Fn :=
 if V4 a b c d ≠ O4 L then .error 20 else if A7s (L.take 5) ≠ [83, 67, 82, 66, 1] then .error 4 else match A1z 64 (L.drop 5) with
 | .error e => .error e
 | .ok (p, r) => if r ≠ [] then .error 4 else if B0f p = 0 then .ok p else .error (B0f p)
def B0R : Except Int Fn → V
 | .ok p => .tup [.agg p.row, .int .i64 0]
 | .error e => .tup [A1m, .int .i64 e]
theorem B3u (M : List Int) (h : M.length < 9) : Pure Tryz.prog 6 [.isl (byR M)] (.tup [A1m, .int .i64 5]) := by
 have hR := G4 M
 generalize byR M = BR at *
 generalize M.length = L at *
 refine Pure.of 0 (A3.enterK A3r (Nat.le_of_ble_eq_true rfl) fun Q hQ => Run.go 100 ?_)
 have c5 : ((L : Int) - 4 < 5) = True := eq_true (by omega)
 simp -implicitDefEqProofs only [go_sem, A8, hR, c5]
 subst hQ
 exact ⟨by omega, .is rfl⟩
theorem B5F (M : List Int) (a b c d : Int) (h5 : 5 ≤ M.length) (hg : G1 M) : Pure Tryz.prog 6 [.isl (byR (M ++ [a, b, c, d]))] (B0R (B1C M a b c d)) := by
 have hl := hg.2
 by_cases hne : V4 a b c d = O4 M
 rotate_left
 ·unfold B1C
  rw [if_pos hne]
  exact C3X M a b c d h5 hl hne
 have hG : B1C M a b c d = if A7s (M.take 5) ≠ [83, 67, 82, 66, 1] then .error 4 else match A1z 64 (M.drop 5) with
  | .error e => .error e
  | .ok (p, r) => if r ≠ [] then .error 4 else if B0f p = 0 then .ok p else .error (B0f p) := by
  unfold B1C
  rw [if_neg (fun h => h hne)]
 generalize B1C M a b c d = G at *
 have hgd : G1 (M.drop 5) := ⟨fun z hz => hg.1 z (List.mem_of_mem_drop hz), by rw [List.length_drop]; omega⟩
 have hdec := B5C (M.drop 5) hgd
 have hbd : ∀ p, A1z 64 (M.drop 5) = .ok (p, []) → p.bd ∧ p.depth ≤ 1000000 := fun p hp => by
  have h1 := A6p _ _ _ _ hgd.1 hp
  have h2 := congrArg List.length h1
  rw [List.append_nil] at h2
  exact ⟨B4l (by have := hgd.2; omega), Nat.le_trans (A8p _ _ _ _ hp) (by decide)⟩
 have hnz := B8B 64 (M.drop 5)
 have hs := B5z M (by have : 10000000000 ≤ reachBytes := (by decide); omega)
 have hR : (byR (M ++ [a, b, c, d])).length = M.length + 4 := by rw [G4]; simp
 have hS := A5a (M ++ [a, b, c, d])
 have ha : (byR (M ++ [a, b, c, d]))[M.length]? = some [.int .u8 a] := by simp [byR]
 have hb : (byR (M ++ [a, b, c, d]))[M.length + 1]? = some [.int .u8 b] := by simp [byR]
 have hc : (byR (M ++ [a, b, c, d]))[M.length + 2]? = some [.int .u8 c] := by simp [byR]
 have hd : (byR (M ++ [a, b, c, d]))[M.length + 3]? = some [.int .u8 d] := by simp [byR]
 have ht : (byR (M ++ [a, b, c, d])).take M.length = byR M := by simp [byR]
 have ht5 : (byR (M ++ [a, b, c, d])).take 5 = byR (M.take 5) := by
  unfold byR
  rw [← List.map_take, List.take_append_of_le_length h5]
 have hd5 : ((byR (M ++ [a, b, c, d])).drop 5).take (M.length - 5) = byR (M.drop 5) := by
  unfold byR
  rw [← List.map_drop, List.drop_append_of_le_length h5, ← List.map_take, List.take_left' (by rw [List.length_drop])]
 have hbs := A2b (M.take 5)
 generalize byR (M ++ [a, b, c, d]) = BR at *
 generalize byR (M.take 5) = B5 at *
 generalize A7s (M.take 5) = T5 at *
 have hDs := A1W (M.drop 5)
 generalize byR (M.drop 5) = DR at *
 generalize A1z 64 (M.drop 5) = FP at *
 generalize hLd : M.length = L at *
 refine Pure.of 0 (A3.enterK A3r (Nat.le_of_ble_eq_true rfl) fun Q hQ => Run.go 100 ?_)
 have e0 : (L : Int) + 4 - 4 = (L : Int) := by omega
 have e1 : ((L + 4 : Nat) : Int) = (L : Int) + 4 := by omega
 have c5 : ((L : Int) < 5) = False := eq_false (by omega)
 have t1 : ((L : Int) + 1).toNat = L + 1 := by omega
 have t2 : ((L : Int) + 2).toNat = L + 2 := by omega
 have t3 : ((L : Int) + 3).toNat = L + 3 := by omega
 have q0 : ((0 : Int) ≤ (L : Int)) = True := eq_true (by omega)
 have q1 : ((L : Int) < (L : Int) + 4) = True := eq_true (by omega)
 have u0 : (L < L + 4) = True := eq_true (by omega)
 have u1 : (L + 1 < L + 4) = True := eq_true (by omega)
 have u2 : (L + 2 < L + 4) = True := eq_true (by omega)
 have u3 : (L + 3 < L + 4) = True := eq_true (by omega)
 have v1 : ((L : Int) + 1 < (L : Int) + 4) = True := eq_true (by omega)
 have v2 : ((L : Int) + 2 < (L : Int) + 4) = True := eq_true (by omega)
 have v3 : ((L : Int) + 3 < (L : Int) + 4) = True := eq_true (by omega)
 have p1 : ((0 : Int) ≤ (L : Int) + 1) = True := eq_true (by omega)
 have p2 : ((0 : Int) ≤ (L : Int) + 2) = True := eq_true (by omega)
 have p3 : ((0 : Int) ≤ (L : Int) + 3) = True := eq_true (by omega)
 simp -implicitDefEqProofs only [go_sem, A8, hR, hS, e0, e1, c5, t1, t2, t3, q0, q1, u0, u1, u2, u3, v1, v2, v3, p1, p2, p3, ha, hb, hc, hd, Option.some.injEq, forall_eq', Int.toNat_natCast]
 have hsub : ((L : Int) - 0).toNat = L := by omega
 have hsub5 : ((L : Int) - 5).toNat = L - 5 := by omega
 rw [hsub, ht]
 refine ⟨by omega, by omega, by omega, by omega, by omega, A3.pureF hs (by simp -implicitDefEqProofs only [go_sem, A1W]) ?_⟩
 have hne' := eq_true hne
 unfold V4 at hne'
 by_cases h83 : T5 = [83, 67, 82, 66, 1]
 rotate_left
 ·rw [if_pos h83] at hG
  subst hG
  simp -implicitDefEqProofs only [go_sem, hne', hR, hS, e1, ht5, hbs, h83]
  subst hQ
  exact ⟨by omega, .is rfl⟩
 rw [if_neg (fun h => h h83)] at hG
 simp -implicitDefEqProofs only [go_sem, hne', hR, hS, e1, ht5, hbs, h83, hsub5, hd5]
 refine ⟨by omega, by omega, by omega, A3.pureF hdec (by simp -implicitDefEqProofs only [go_sem, hDs]) ?_⟩
 cases FP with
 | error e =>
  have he := hnz e rfl
  subst hG
  simp -implicitDefEqProofs only [go_sem, B6a, A1m, he]
  subst hQ
  exact .is rfl
 | ok y =>
  obtain ⟨p, r⟩ := y
  by_cases hr : r = []
  rotate_left
  ·simp only at hG
   rw [if_pos hr] at hG
   subst hG
   simp -implicitDefEqProofs only [go_sem, B6a, A1m, hr]
   subst hQ
   exact .is rfl
  subst hr
  obtain ⟨hb1, hb2⟩ := hbd p rfl
  have hck := B0G p hb1 hb2
  have hps := Fn.row_sub R4 p
  obtain ⟨g1, g2⟩ := C5 p
  simp only [ne_eq, not_true_eq_false, if_false] at hG
  by_cases c0 : B0f p = 0
  ·rw [if_pos c0] at hG
   subst hG
   simp -implicitDefEqProofs only [go_sem, B6a, g1, g2]
   refine A3.pureF hck (by simp -implicitDefEqProofs only [go_sem, hps]) ?_
   simp -implicitDefEqProofs only [go_sem, c0, g1, g2]
   subst hQ
   exact .is (by simp -implicitDefEqProofs only [go_sem, B0R, Fn.row_frz'])
  ·rw [if_neg c0] at hG
   subst hG
   simp -implicitDefEqProofs only [go_sem, B6a, g1, g2]
   refine A3.pureF hck (by simp -implicitDefEqProofs only [go_sem, hps]) ?_
   simp -implicitDefEqProofs only [go_sem, c0, g1, g2]
   subst hQ
   exact .is rfl
theorem C1A {a b c d s : Int} (ha : isB a) (hb : isB b) (hc : isB c) (hd : isB d) (h : V4 a b c d = s) : [a, b, c, d] = le4 s := by
 rw [B8h ha hb hc hd] at h
 unfold isB at ha hb hc hd
 obtain ⟨a', b', c', d', e, h1, h2, h3, h4, h5⟩ := B3W (s := s) (by omega)
 rw [e]
 obtain rfl : a = a' := by omega
 obtain rfl : b = b' := by omega
 obtain rfl : c = c' := by omega
 obtain rfl : d = d' := by omega
 rfl
theorem C1P {M : List Int} (hg : G1 M) (h : 9 ≤ M.length) : ∃ L a b c d, M = L ++ [a, b, c, d] ∧ 5 ≤ L.length ∧ G1 L ∧ K3 [a, b, c, d] := by
 have h4 : (M.drop (M.length - 4)).length = 4 := by rw [List.length_drop]; omega
 obtain ⟨a, b, c, d, e⟩ : ∃ a b c d, M.drop (M.length - 4) = [a, b, c, d] := by
  match M.drop (M.length - 4), h4 with
  | [a, b, c, d], _ => exact ⟨a, b, c, d, rfl⟩
 refine ⟨M.take (M.length - 4), a, b, c, d, by rw [← e, List.take_append_drop], by rw [List.length_take]; omega, ⟨fun z hz => hg.1 z (List.mem_of_mem_take hz), by rw [List.length_take]; have := hg.2; omega⟩, fun z hz => hg.1 z (List.mem_of_mem_drop (e ▸ hz))⟩
theorem B8k {L : List Int} {a b c d : Int} {p : Fn} (hg : G1 L) (hB : K3 [a, b, c, d]) (h : B1C L a b c d = .ok p) : L ++ [a, b, c, d] = B5u p ∧ B0f p = 0 ∧ p.bd ∧ p.depth ≤ 1000000 ∧ (A7n p).length ≤ 10000000000 := by
 unfold B1C at h
 split at h
 ·cases h
 rename_i hs
 have hs := Classical.not_not.1 hs
 split at h
 ·cases h
 rename_i h5
 have h5 := Classical.not_not.1 h5
 have hgd : G1 (L.drop 5) := ⟨fun z hz => hg.1 z (List.mem_of_mem_drop hz), by rw [List.length_drop]; have := hg.2; omega⟩
 cases hF : A1z 64 (L.drop 5) with
 | error z =>
  rw [hF] at h
  have h : (Except.error z : Except Int Fn) = .ok p := h
  cases h
 | ok y =>
  rw [hF] at h
  simp only at h
  split at h
  ·cases h
  rename_i hr
  have hr := Classical.not_not.1 hr
  split at h
  rotate_left
  ·cases h
  rename_i hc
  injection h with h
  obtain ⟨q, r⟩ := y
  have hr : r = [] := hr
  have h : q = p := h
  have hc : B0f q = 0 := hc
  subst hr; subst h
  have e := A6p _ _ _ _ hgd.1 hF
  rw [List.append_nil] at e
  have e5 : L.take 5 = [83, 67, 82, 66, 1] := by
   have := A9i (b := L.take 5) fun z hz => hg.1 z (List.mem_of_mem_take hz)
   rw [h5] at this
   exact this.symm
  have hL : L = B5d q := by
   unfold B5d
   rw [← e5, ← e, List.take_append_drop]
  have hlen := congrArg List.length e
  have := hgd.2
  show L ++ [a, b, c, d] = B5u q ∧ B0f q = 0 ∧ q.bd ∧ q.depth ≤ 1000000 ∧ (A7n q).length ≤ 10000000000
  refine ⟨?_, hc, B4l (by omega), Nat.le_trans (A8p _ _ _ _ hF) (by decide), by omega⟩
  unfold B5u
  rw [← hL, C1A (hB a (by simp)) (hB b (by simp)) (hB c (by simp)) (hB d (by simp)) hs]
theorem C2s {zs : List Int} (wz : ∀ z ∈ zs, (Lit.int .u8 z).wf = true) : K3 zs := fun z hz => by
 have h : IntKind.u8.min ≤ z ∧ z ≤ IntKind.u8.max := by simpa [Lit.wf] using wz z hz
 rw [show IntKind.u8.min = 0 from rfl, show IntKind.u8.max = 255 from rfl] at h
 exact ⟨h.1, by omega⟩
theorem B6c (l : List Int) (hl : l.length ≤ 1000000000) : Pure Tryz.prog 5 [.isl (byR l)] (.isl (byR (l ++ le4 (O4 l)))) := by
 have hs := B2Z l (by have : 1000000000 ≤ reachBytes := (by decide); omega)
 rw [show (l.map fun z => [V.int .u8 z]) = byR l from rfl] at hs
 have hR := G4 l
 have hS := A5a l
 have hU := A1W l
 have hF := fun h => B8v l 0 h
 have hT := B2z l
 have hW : byR (l ++ le4 (O4 l)) = byR l ++ [[.int .u8 (IntKind.u8.wrap (O4 l))], [.int .u8 (IntKind.u8.wrap (shZ false .u32 (O4 l) 8))], [.int .u8 (IntKind.u8.wrap (shZ false .u32 (O4 l) 16))], [.int .u8 (IntKind.u8.wrap (shZ false .u32 (O4 l) 24))]] := by
  rw [C3U]
  rfl
 rw [hW]
 generalize byR l = BR at *
 generalize O4 l = z at *
 generalize l.length = m at *
 have f1 : (m ≤ m) = True := eq_true (Nat.le_refl _)
 refine Pure.of 1 (A3.enterK W2 (Nat.le_of_ble_eq_true rfl) fun Q hQ => Run.go 100 ?_)
 simp -implicitDefEqProofs only [go_sem, A8]
 refine A3.pureF hs (by simp -implicitDefEqProofs only [go_sem, hU]) ?_
 simp -implicitDefEqProofs only [go_sem, hR, hS, hT, f1]
 subst hQ
 refine ⟨by omega, by omega, .is ?_⟩
 have f2 : (m + 4 ≤ m + 4) = True := eq_true (Nat.le_refl _)
 have hT2 : ∀ a b c d : List V, (BR ++ [a, b, c, d]).take (m + 4) = BR ++ [a, b, c, d] := fun a b c d => List.take_of_length_le (by simp [hR])
 simp -implicitDefEqProofs only [go_sem, hR, hT2, hF, List.drop_zero, f2, List.map_append]
end Go.Proofs.YtpmkgcjhbpiojaaGreatDoor
