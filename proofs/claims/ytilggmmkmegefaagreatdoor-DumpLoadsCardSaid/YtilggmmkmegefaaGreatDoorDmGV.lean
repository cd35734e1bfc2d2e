/-
 What dump.decode answers. No condition.
-/
import Derived.Test.YtilggmmkmegefaaGreatDoorDmG2
import Derived.Test.YtilggmmkmegefaaGreatDoorDmPS
import Derived.Test.YtilggmmkmegefaaGreatDoorFnMb
set_option linter.unusedVariables false
set_option linter.unusedSimpArgs false
set_option maxRecDepth 100000
set_option maxHeartbeats 0
namespace Go.Proofs.YtilggmmkmegefaaGreatDoor
open Go.Abs
attribute [local irreducible] A4 C3 Run
abbrev xN (k : Nat) : Nat := 14 * 10000 + k
-- EV: rD, xN
def C0F : List V := [.str [], .int .i64 0, .int .i64 0, .bool false, .int .i64 0, .nils, .nils, .nils, .nils, .nils, .nils]
theorem B5Y (e : Int) (sp se n : Nat) (rp re : List V) (hp : rp.length = 11) (he : re.length = 1) : C1i Tryz.prog 20 [.ptr (xN 2) sp 0 0, .ptr (xN 3) se 0 0] (C3K e) [(xN 3, se, .rows 1 [re]), (xN 2, sp, .rows 11 [rp])] n [(xN 3, se, .rows 1 [[.int .i64 e]]), (xN 2, sp, .rows 11 [C0F])] (n + 1) := by
 match rp, hp with
 | [p0, p1, p2, p3, p4, p5, p6, p7, p8, p9, p10], _ =>
 match re, he with
 | [r0], _ =>
 refine C1i.of (a0 := 5) (t0 := 2) A2T (Nat.le_of_ble_eq_true rfl) (by kernel_rfl) (Run.go 100 ?_)
 unfold C3K
 simp -implicitDefEqProofs only [go_sem, rD, xN, B3]
 exact A0h.to (r2 := .tup []) ⟨rfl, rfl⟩ (.turn id ⟨.refl _, trivial⟩ (.at 0 rfl rfl (.refl _) (.at 1 rfl rfl (.refl _) (.of fun e he => by cases he))))
theorem Fn.row_frz' (d : Nat) (h : A2) (p : Fn) : p.row.map (frz d h) = p.row := by
 obtain ⟨φ, e⟩ := F1 (d := d) (h := h)
 rw [e]; exact Fn.row_sub φ p
def B6n (G : Rd Fn) : V := match G with
 | .ok (p, r) => if r = [] then .tup [.agg p.row, .int .i64 0] else .tup [O4, .int .i64 4]
 | .error e => .tup [O4, .int .i64 e]
theorem B6m (l : List Int) (hg : G6 l) : Pure Tryz.prog 14 [.isl (byR l)] (B6n (A3Y 64 l)) := by
 have hf := fun s n => C5F 64 s n 1 l rfl (Nat.le_refl _) hg
 have hR := T8 l
 generalize hG : A3Y 64 l = G at *
 have hrow : ∀ p : Fn, p.row.length = 11 := Fn.row_len
 refine Pure.of 1 (A4.recoverV (g := 20) [2, 3] A5v (Nat.le_of_ble_eq_true rfl) (by kernel_rfl) (by decide) fun Q hQ => ?_)
 simp -implicitDefEqProofs only [go_sem, rD, xN, B3]
 refine C3.at [0] [1, 2] (hf _ _) rfl rfl ?_ ?_
 rotate_left
 ·rintro x h' n' _ ⟨e, rfl, rfl, rfl⟩
  refine ⟨_, _, B5Y e _ _ _ _ _ rfl rfl, ?_⟩
  simp -implicitDefEqProofs only [go_sem, rD, xN, A9D, C0F]
  subst hQ
  exact .is rfl
 rintro r h' n1 _ ⟨p, l1, rfl, rfl, rfl⟩
 have hR1 := T8 l1
 by_cases c : (l1.length : Int) > 0
 ·simp -implicitDefEqProofs only [go_sem, rD, xN, rdH, hR1, c, Fn.row_eq]
  refine C3.at [] [2, 0] (j5 rD _ _ 4) rfl rfl (fun _ _ _ _ h => h.elim) ?_
  rintro x h' n' _ ⟨rfl, rfl⟩
  refine ⟨_, _, B5Y 4 _ _ _ _ _ rfl rfl, ?_⟩
  simp -implicitDefEqProofs only [go_sem, rD, xN, A9D, C0F]
  subst hQ
  have hne : l1 ≠ [] := fun h => by subst h; exact absurd c (by decide)
  refine .is ?_
  rw [show B6n (.ok (p, l1)) = .tup [O4, .int .i64 4] from if_neg hne]
  rfl
 ·simp -implicitDefEqProofs only [go_sem, rD, xN, rdH, hR1, c, Fn.row_eq]
  subst hQ
  obtain rfl : l1 = [] := List.length_eq_zero_iff.1 (by omega)
  refine .is ?_
  have key : ∀ H : A2, frz 1 H (.tup [.agg p.row, .int .i64 0]) = .tup [.agg p.row, .int .i64 0] := fun H => by simp -implicitDefEqProofs only [go_sem, rD, xN, Fn.row_frz']
  have e : B6n (.ok (p, [])) = .tup [.agg p.row, .int .i64 0] := by simp [B6n]
  rw [e]
  rw [Fn.row_eq] at key ⊢
  exact key _
theorem B3l (p : Fn) : 81 * p.each.length ≤ (A6z p).length := by
 induction p using Fn.ind with
 | h p ih =>
 have key : ∀ l : List Fn, (∀ q ∈ l, 81 * q.each.length ≤ (A6z q).length) → 81 * (Fn.eachs l).length ≤ (encL l).length := by
  intro l
  induction l with
  | nil => intro _; simp [Fn.eachs]
  | cons q r ihr =>
   intro h
   have h1 := h q List.mem_cons_self
   have h2 := ihr fun x hx => h x (List.mem_cons_of_mem _ hx)
   rw [Fn.eachs, encL, List.length_append, List.length_append]
   omega
 have := key p.protos ih
 have hsl : ∀ t : List UInt8, (B4k t).length = 8 + t.length := fun t => by unfold B4k; rw [List.length_append, A5E, List.length_map]
 rw [Fn.each_eq, A8B]
 simp only [List.length_cons, List.length_append, A5E, hsl, List.length_nil]
 omega
theorem C1a (p : Fn) : ∀ q ∈ p.each, (A6z q).length ≤ (A6z p).length := by
 induction p using Fn.ind with
 | h p ih =>
 intro q hq
 rw [Fn.each_eq] at hq
 rcases List.mem_cons.1 hq with rfl | hq
 ·exact Nat.le_refl _
 ·obtain ⟨r, hr, hq⟩ := Fn.mem_eachs.1 hq
  have h1 := ih r hr q hq
  have h2 : (A6z r).length ≤ (encL p.protos).length := by
   rw [A6f]
   obtain ⟨s, t, e⟩ := List.append_of_mem hr
   rw [e]
   simp only [List.flatMap_append, List.flatMap_cons, List.length_append]
   omega
  rw [A8B p]
  simp only [List.length_append]
  omega
theorem C2y {p : Fn} (h : (A6z p).length ≤ 10000000000) : p.bd := by
 intro q hq
 have h1 := C1a p q hq
 rw [A8B q, A6f] at h1
 simp only [List.length_append] at h1
 have hcC := U2 (f := fun i => A3d (B6w i)) (fun i => by rw [B1f]; show 1 ≤ 8 * 5; decide) q.code
 have hcL := U2 (f := U0) (fun z => by rw [A5E]; decide) q.lines
 have hcK := U2 (f := B7g) (fun v => by unfold B7g; simp) q.consts
 have hcP := U2 (f := A6z) (fun q => by rw [A8B]; simp only [List.length_append, A5E]; omega) q.protos
 have hcU := U2 (f := upL) (fun u => by unfold upL; simp only [List.length_append, List.length_singleton]; omega) q.ups
 have hcV := U2 (f := vrL) (fun v => by unfold vrL; simp only [List.length_append, B1f]; show 1 ≤ _ + 8 * 4; omega) q.vars
 rw [show A3d q.lines = q.lines.flatMap U0 from rfl] at h1
 exact ⟨by omega, by omega, by omega, by omega, by omega, by omega⟩
theorem B2G {α : Type} {f : List Int → Rd α} {C : α → Prop} (hf : ∀ l x r, f l = .ok (x, r) → C x) : ∀ (n : Nat) (l r : List Int) (xs : List α), P6 f n l = .ok (xs, r) → ∀ x ∈ xs, C x
 | 0, l, r, xs, h => by
  injection h with h
  injection h with e1 e2
  subst e1
  intro x hx
  cases hx
 | n + 1, l, r, xs, h => by
  obtain ⟨x, l1, h1, h2⟩ := Rd.bind_inv h
  obtain ⟨ys, l2, h3, h4⟩ := Rd.bind_inv h2
  injection h4 with h4
  injection h4 with e1 e2
  subst e1
  intro y hy
  rcases List.mem_cons.1 hy with rfl | hy
  ·exact hf _ _ _ h1
  ·exact B2G hf n _ _ _ h3 y hy
theorem B2Y {d : Nat} : ∀ {l : List Fn}, (∀ q ∈ l, q.depth ≤ d) → Fn.depths l ≤ d
 | [], _ => Nat.zero_le _
 | p :: r, h => by
  rw [Fn.depths]
  exact Nat.max_le.2 ⟨h p List.mem_cons_self, B2Y fun q hq => h q (List.mem_cons_of_mem _ hq)⟩
theorem A7i : ∀ (d : Nat) (l r : List Int) (p : Fn), A3Y d l = .ok (p, r) → p.depth ≤ d
 | 0, l, r, p, h => by cases h
 | d + 1, l, r, p, h => by
  rw [B8A] at h
  obtain ⟨name, l1, _, h⟩ := Rd.bind_inv h
  obtain ⟨line, l2, _, h⟩ := Rd.bind_inv h
  obtain ⟨params, l3, _, h⟩ := Rd.bind_inv h
  obtain ⟨vararg, l4, _, h⟩ := Rd.bind_inv h
  obtain ⟨regs, l5, _, h⟩ := Rd.bind_inv h
  obtain ⟨code, l6, _, h⟩ := Rd.bind_inv h
  obtain ⟨lines, l7, _, h⟩ := Rd.bind_inv h
  obtain ⟨consts, l8, _, h⟩ := Rd.bind_inv h
  obtain ⟨protos, l9, h9, h⟩ := Rd.bind_inv h
  obtain ⟨ups, l10, _, h⟩ := Rd.bind_inv h
  obtain ⟨vars, l11, _, h⟩ := Rd.bind_inv h
  injection h with h
  injection h with e1 e2
  subst e1
  obtain ⟨n, l12, _, h10⟩ := Rd.bind_inv h9
  rw [Fn.depth_eq]
  exact Nat.succ_le_succ (B2Y (B2G (fun l x r hx => A7i d l r x hx) _ _ _ _ h10))
abbrev nz {α : Type} (x : Rd α) : Prop := ∀ e, x = .error e → e ≠ 0
theorem D0 {α β : Type} {x : Rd α} {f : α → List Int → Rd β} (h1 : nz x) (h2 : ∀ a l, nz (f a l)) : nz (x.bind f) := by
 intro e h
 cases x with
 | ok y => exact h2 _ _ e h
 | error z =>
  injection (show (Except.error z : Rd β) = .error e from h) with h
  exact h1 e (by rw [h])
theorem A0J {α : Type} (r : α × List Int) : nz (.ok r : Rd α) := fun e h => by cases h
theorem A9z {α : Type} {e : Int} (h : e ≠ 0) : nz (.error e : Rd α) := fun e' h' => by cases h'; exact h
theorem A8N (n : Nat) (l : List Int) : nz (A6C n l) := by
 unfold A6C
 split
 ·exact A0J _
 ·exact A9z (by decide)
theorem J3 (l : List Int) : nz (Y2 l) := D0 (A8N _ _) fun _ _ => A0J _
theorem A9e (l : List Int) : nz (A3E l) := D0 (A8N _ _) fun _ _ => by
 split
 ·exact A9z (by decide)
 ·exact A0J _
theorem B7X (l : List Int) : nz (B7s l) := D0 (J3 _) fun _ _ => by
 split
 ·exact A9z (by decide)
 split
 ·exact A9z (by decide)
 ·exact A0J _
theorem B0A (l : List Int) : nz (B2k l) := D0 (B7X _) fun _ _ => D0 (A8N _ _) fun _ _ => A0J _
theorem C2X (l : List Int) : nz (B2r l) := D0 (A8N _ _) fun _ _ => by
 split
 ·exact A0J _
 split
 ·exact D0 (A9e _) fun _ _ => A0J _
 split
 ·exact D0 (J3 _) fun _ _ => D0 (J3 _) fun _ _ => A0J _
 split
 ·exact D0 (B0A _) fun _ _ => A0J _
 ·exact A9z (by decide)
theorem B6a {α : Type} {f : List Int → Rd α} (hf : ∀ l, nz (f l)) : ∀ (n : Nat) (l : List Int), nz (P6 f n l)
 | 0, _ => A0J _
 | n + 1, l => D0 (hf l) fun _ l => D0 (B6a hf n l) fun _ _ => A0J _
theorem A2W {α : Type} {f : List Int → Rd α} (hf : ∀ l, nz (f l)) (l : List Int) : nz (L5 f l) := D0 (B7X l) fun n l => B6a hf n l
theorem C3E (l : List Int) : nz (B6r l) := D0 (J3 _) fun _ _ => D0 (J3 _) fun _ _ => D0 (J3 _) fun _ _ => D0 (J3 _) fun _ _ => D0 (J3 _) fun _ _ => A0J _
theorem C6h (l : List Int) : nz (upP l) := D0 (B0A _) fun _ _ => D0 (A9e _) fun _ _ => D0 (J3 _) fun _ _ => A0J _
theorem C7x (l : List Int) : nz (vrP l) := D0 (B0A _) fun _ _ => D0 (J3 _) fun _ _ => D0 (J3 _) fun _ _ => D0 (J3 _) fun _ _ => D0 (J3 _) fun _ _ => A0J _
theorem B3U : ∀ (d : Nat) (l : List Int), nz (A3Y d l)
 | 0, _ => A9z (by decide)
 | d + 1, l => D0 (B0A _) fun _ _ => D0 (J3 _) fun _ _ => D0 (J3 _) fun _ _ => D0 (A9e _) fun _ _ => D0 (J3 _) fun _ _ =>
  D0 (A2W C3E _) fun _ _ => D0 (A2W J3 _) fun _ _ => D0 (A2W C2X _) fun _ _ => D0 (A2W (B3U d) _) fun _ _ => D0 (A2W C6h _) fun _ _ => D0 (A2W C7x _) fun _ _ => A0J _
def B1I (L : List Int) (a b c d : Int) : Except Int Fn :=
 if V4 a b c d ≠ R8 L then .error 20 else if B2o (L.take 5) ≠ [83, 67, 82, 66, 1] then .error 4 else match A3Y 64 (L.drop 5) with
 | .error e => .error e
 | .ok (p, r) => if r ≠ [] then .error 4 else if A1k p = 0 then .ok p else .error (A1k p)
def A9l : Except Int Fn → V
 | .ok p => .tup [.agg p.row, .int .i64 0]
 | .error e => .tup [O4, .int .i64 e]
theorem B2H (M : List Int) (h : M.length < 9) : Pure Tryz.prog 6 [.isl (byR M)] (.tup [O4, .int .i64 5]) := by
 have hR := T8 M
 generalize byR M = BR at *
 generalize M.length = L at *
 refine Pure.of 0 (A4.enterK A1B (Nat.le_of_ble_eq_true rfl) fun Q hQ => Run.go 100 ?_)
 have c5 : ((L : Int) - 4 < 5) = True := eq_true (by omega)
 simp -implicitDefEqProofs only [go_sem, B3, hR, c5]
 subst hQ
 exact ⟨by omega, .is rfl⟩
theorem B5h (M : List Int) (a b c d : Int) (h5 : 5 ≤ M.length) (hg : G6 M) : Pure Tryz.prog 6 [.isl (byR (M ++ [a, b, c, d]))] (A9l (B1I M a b c d)) := by
 have hl := hg.2
 by_cases hne : V4 a b c d = R8 M
 rotate_left
 ·unfold B1I
  rw [if_pos hne]
  exact C2L M a b c d h5 hl hne
 have hG : B1I M a b c d = if B2o (M.take 5) ≠ [83, 67, 82, 66, 1] then .error 4 else match A3Y 64 (M.drop 5) with
  | .error e => .error e
  | .ok (p, r) => if r ≠ [] then .error 4 else if A1k p = 0 then .ok p else .error (A1k p) := by
  unfold B1I
  rw [if_neg (fun h => h hne)]
 generalize B1I M a b c d = G at *
 have hgd : G6 (M.drop 5) := ⟨fun z hz => hg.1 z (List.mem_of_mem_drop hz), by rw [List.length_drop]; omega⟩
 have hdec := B6m (M.drop 5) hgd
 have hbd : ∀ p, A3Y 64 (M.drop 5) = .ok (p, []) → p.bd ∧ p.depth ≤ 1000000 := fun p hp => by
  have h1 := A8J _ _ _ _ hgd.1 hp
  have h2 := congrArg List.length h1
  rw [List.append_nil] at h2
  exact ⟨C2y (by have := hgd.2; omega), Nat.le_trans (A7i _ _ _ _ hp) (by decide)⟩
 have hnz := B3U 64 (M.drop 5)
 have hs := B5c M (by have : 10000000000 ≤ reachBytes := (by decide); omega)
 have hR : (byR (M ++ [a, b, c, d])).length = M.length + 4 := by rw [T8]; simp
 have hS := B0O (M ++ [a, b, c, d])
 have ha : (byR (M ++ [a, b, c, d]))[M.length]? = some [.int .u8 a] := by simp [byR]
 have hb : (byR (M ++ [a, b, c, d]))[M.length + 1]? = some [.int .u8 b] := by simp [byR]
 have hc : (byR (M ++ [a, b, c, d]))[M.length + 2]? = some [.int .u8 c] := by simp [byR]
 have hd : (byR (M ++ [a, b, c, d]))[M.length + 3]? = some [.int .u8 d] := by simp [byR]
 have ht : (byR (M ++ [a, b, c, d])).take M.length = byR M := by simp [byR]
 have ht5 : (byR (M ++ [a, b, c, d])).take 5 = byR (M.take 5) := by
  unfold byR
  rw [← List.map_take, List.take_append_of_le_length h5]
 have hd5 : ((byR (M ++ [a, b, c, d])).drop 5).take (M.length - 5) = byR (M.drop 5) := by
  unfold byR
  rw [← List.map_drop, List.drop_append_of_le_length h5, ← List.map_take, List.take_left' (by rw [List.length_drop])]
 have hbs := B3r (M.take 5)
 generalize byR (M ++ [a, b, c, d]) = BR at *
 generalize byR (M.take 5) = B5 at *
 generalize B2o (M.take 5) = T5 at *
 have hDs := A3K (M.drop 5)
 generalize byR (M.drop 5) = DR at *
 generalize A3Y 64 (M.drop 5) = FP at *
 generalize hLd : M.length = L at *
 refine Pure.of 0 (A4.enterK A1B (Nat.le_of_ble_eq_true rfl) fun Q hQ => Run.go 100 ?_)
 have e0 : (L : Int) + 4 - 4 = (L : Int) := by omega
 have e1 : ((L + 4 : Nat) : Int) = (L : Int) + 4 := by omega
 have c5 : ((L : Int) < 5) = False := eq_false (by omega)
 have t1 : ((L : Int) + 1).toNat = L + 1 := by omega
 have t2 : ((L : Int) + 2).toNat = L + 2 := by omega
 have t3 : ((L : Int) + 3).toNat = L + 3 := by omega
 have q0 : ((0 : Int) ≤ (L : Int)) = True := eq_true (by omega)
 have q1 : ((L : Int) < (L : Int) + 4) = True := eq_true (by omega)
 have u0 : (L < L + 4) = True := eq_true (by omega)
 have u1 : (L + 1 < L + 4) = True := eq_true (by omega)
 have u2 : (L + 2 < L + 4) = True := eq_true (by omega)
 have u3 : (L + 3 < L + 4) = True := eq_true (by omega)
 have v1 : ((L : Int) + 1 < (L : Int) + 4) = True := eq_true (by omega)
 have v2 : ((L : Int) + 2 < (L : Int) + 4) = True := eq_true (by omega)
 have v3 : ((L : Int) + 3 < (L : Int) + 4) = True := eq_true (by omega)
 have p1 : ((0 : Int) ≤ (L : Int) + 1) = True := eq_true (by omega)
 have p2 : ((0 : Int) ≤ (L : Int) + 2) = True := eq_true (by omega)
 have p3 : ((0 : Int) ≤ (L : Int) + 3) = True := eq_true (by omega)
 simp -implicitDefEqProofs only [go_sem, B3, hR, hS, e0, e1, c5, t1, t2, t3, q0, q1, u0, u1, u2, u3, v1, v2, v3, p1, p2, p3, ha, hb, hc, hd, Option.some.injEq, forall_eq', Int.toNat_natCast]
 have hsub : ((L : Int) - 0).toNat = L := by omega
 have hsub5 : ((L : Int) - 5).toNat = L - 5 := by omega
 rw [hsub, ht]
 refine ⟨by omega, by omega, by omega, by omega, by omega, A4.pureF hs (by simp -implicitDefEqProofs only [go_sem, A3K]) ?_⟩
 have hne' := eq_true hne
 unfold V4 at hne'
 by_cases h83 : T5 = [83, 67, 82, 66, 1]
 rotate_left
 ·rw [if_pos h83] at hG
  subst hG
  simp -implicitDefEqProofs only [go_sem, hne', hR, hS, e1, ht5, hbs, h83]
  subst hQ
  exact ⟨by omega, .is rfl⟩
 rw [if_neg (fun h => h h83)] at hG
 simp -implicitDefEqProofs only [go_sem, hne', hR, hS, e1, ht5, hbs, h83, hsub5, hd5]
 refine ⟨by omega, by omega, by omega, A4.pureF hdec (by simp -implicitDefEqProofs only [go_sem, hDs]) ?_⟩
 cases FP with
 | error e =>
  have he := hnz e rfl
  subst hG
  simp -implicitDefEqProofs only [go_sem, B6n, O4, he]
  subst hQ
  exact .is rfl
 | ok y =>
  obtain ⟨p, r⟩ := y
  by_cases hr : r = []
  rotate_left
  ·simp only at hG
   rw [if_pos hr] at hG
   subst hG
   simp -implicitDefEqProofs only [go_sem, B6n, O4, hr]
   subst hQ
   exact .is rfl
  subst hr
  obtain ⟨hb1, hb2⟩ := hbd p rfl
  have hck := A5s p hb1 hb2
  have hps := Fn.row_sub J2 p
  obtain ⟨g1, g2⟩ := C5 p
  simp only [ne_eq, not_true_eq_false, if_false] at hG
  by_cases c0 : A1k p = 0
  ·rw [if_pos c0] at hG
   subst hG
   simp -implicitDefEqProofs only [go_sem, B6n, g1, g2]
   refine A4.pureF hck (by simp -implicitDefEqProofs only [go_sem, hps]) ?_
   simp -implicitDefEqProofs only [go_sem, c0, g1, g2]
   subst hQ
   exact .is (by simp -implicitDefEqProofs only [go_sem, A9l, Fn.row_frz'])
  ·rw [if_neg c0] at hG
   subst hG
   simp -implicitDefEqProofs only [go_sem, B6n, g1, g2]
   refine A4.pureF hck (by simp -implicitDefEqProofs only [go_sem, hps]) ?_
   simp -implicitDefEqProofs only [go_sem, c0, g1, g2]
   subst hQ
   exact .is rfl
theorem C6J {a b c d s : Int} (ha : isB a) (hb : isB b) (hc : isB c) (hd : isB d) (h : V4 a b c d = s) : [a, b, c, d] = le4 s := by
 rw [C0C ha hb hc hd] at h
 unfold isB at ha hb hc hd
 obtain ⟨a', b', c', d', e, h1, h2, h3, h4, h5⟩ := C2j (s := s) (by omega)
 rw [e]
 obtain rfl : a = a' := by omega
 obtain rfl : b = b' := by omega
 obtain rfl : c = c' := by omega
 obtain rfl : d = d' := by omega
 rfl
theorem C0K {M : List Int} (hg : G6 M) (h : 9 ≤ M.length) : ∃ L a b c d, M = L ++ [a, b, c, d] ∧ 5 ≤ L.length ∧ G6 L ∧ M6 [a, b, c, d] := by
 have h4 : (M.drop (M.length - 4)).length = 4 := by rw [List.length_drop]; omega
 obtain ⟨a, b, c, d, e⟩ : ∃ a b c d, M.drop (M.length - 4) = [a, b, c, d] := by
  match M.drop (M.length - 4), h4 with
  | [a, b, c, d], _ => exact ⟨a, b, c, d, rfl⟩
 refine ⟨M.take (M.length - 4), a, b, c, d, by rw [← e, List.take_append_drop], by rw [List.length_take]; omega, ⟨fun z hz => hg.1 z (List.mem_of_mem_take hz), by rw [List.length_take]; have := hg.2; omega⟩, fun z hz => hg.1 z (List.mem_of_mem_drop (e ▸ hz))⟩
theorem B0w {L : List Int} {a b c d e : Int} (h : B1I L a b c d = .error e) : e ≠ 0 := by
 unfold B1I at h
 split at h
 ·injection h with h; omega
 split at h
 ·injection h with h; omega
 cases hF : A3Y 64 (L.drop 5) with
 | error z =>
  rw [hF] at h
  have h : (Except.error z : Except Int Fn) = .error e := h
  injection h with h
  exact h ▸ B3U _ _ _ hF
 | ok y =>
  rw [hF] at h
  simp only at h
  split at h
  ·injection h with h; omega
  split at h
  ·cases h
  ·rename_i hc
   injection h with h
   exact h ▸ hc
theorem B8E {L : List Int} {a b c d : Int} {p : Fn} (hg : G6 L) (hB : M6 [a, b, c, d]) (h : B1I L a b c d = .ok p) : L ++ [a, b, c, d] = B4V p ∧ A1k p = 0 ∧ p.bd ∧ p.depth ≤ 1000000 ∧ (A6z p).length ≤ 10000000000 := by
 unfold B1I at h
 split at h
 ·cases h
 rename_i hs
 have hs := Classical.not_not.1 hs
 split at h
 ·cases h
 rename_i h5
 have h5 := Classical.not_not.1 h5
 have hgd : G6 (L.drop 5) := ⟨fun z hz => hg.1 z (List.mem_of_mem_drop hz), by rw [List.length_drop]; have := hg.2; omega⟩
 cases hF : A3Y 64 (L.drop 5) with
 | error z =>
  rw [hF] at h
  have h : (Except.error z : Except Int Fn) = .ok p := h
  cases h
 | ok y =>
  rw [hF] at h
  simp only at h
  split at h
  ·cases h
  rename_i hr
  have hr := Classical.not_not.1 hr
  split at h
  rotate_left
  ·cases h
  rename_i hc
  injection h with h
  obtain ⟨q, r⟩ := y
  have hr : r = [] := hr
  have h : q = p := h
  have hc : A1k q = 0 := hc
  subst hr; subst h
  have e := A8J _ _ _ _ hgd.1 hF
  rw [List.append_nil] at e
  have e5 : L.take 5 = [83, 67, 82, 66, 1] := by
   have := B5o (b := L.take 5) fun z hz => hg.1 z (List.mem_of_mem_take hz)
   rw [h5] at this
   exact this.symm
  have hL : L = B5v q := by
   unfold B5v
   rw [← e5, ← e, List.take_append_drop]
  have hlen := congrArg List.length e
  have := hgd.2
  show L ++ [a, b, c, d] = B4V q ∧ A1k q = 0 ∧ q.bd ∧ q.depth ≤ 1000000 ∧ (A6z q).length ≤ 10000000000
  refine ⟨?_, hc, C2y (by omega), Nat.le_trans (A7i _ _ _ _ hF) (by decide), by omega⟩
  unfold B4V
  rw [← hL, C6J (hB a (by simp)) (hB b (by simp)) (hB c (by simp)) (hB d (by simp)) hs]
theorem C1X {zs : List Int} (wz : ∀ z ∈ zs, (Lit.int .u8 z).wf = true) : M6 zs := fun z hz => by
 have h : IntKind.u8.min ≤ z ∧ z ≤ IntKind.u8.max := by simpa [Lit.wf] using wz z hz
 rw [show IntKind.u8.min = 0 from rfl, show IntKind.u8.max = 255 from rfl] at h
 exact ⟨h.1, by omega⟩
theorem B5l (l : List Int) (hl : l.length ≤ 1000000000) : Pure Tryz.prog 5 [.isl (byR l)] (.isl (byR (l ++ le4 (R8 l)))) := by
 have hs := C0t l (by have : 1000000000 ≤ reachBytes := (by decide); omega)
 rw [show (l.map fun z => [V.int .u8 z]) = byR l from rfl] at hs
 have hR := T8 l
 have hS := B0O l
 have hU := A3K l
 have hF := fun h => C3Y l 0 h
 have hT := C1Y l
 have hW : byR (l ++ le4 (R8 l)) = byR l ++ [[.int .u8 (IntKind.u8.wrap (R8 l))], [.int .u8 (IntKind.u8.wrap (shZ false .u32 (R8 l) 8))], [.int .u8 (IntKind.u8.wrap (shZ false .u32 (R8 l) 16))], [.int .u8 (IntKind.u8.wrap (shZ false .u32 (R8 l) 24))]] := by
  rw [C2Q]
  rfl
 rw [hW]
 generalize byR l = BR at *
 generalize R8 l = z at *
 generalize l.length = m at *
 have f1 : (m ≤ m) = True := eq_true (Nat.le_refl _)
 refine Pure.of 1 (A4.enterK S3 (Nat.le_of_ble_eq_true rfl) fun Q hQ => Run.go 100 ?_)
 simp -implicitDefEqProofs only [go_sem, B3]
 refine A4.pureF hs (by simp -implicitDefEqProofs only [go_sem, hU]) ?_
 simp -implicitDefEqProofs only [go_sem, hR, hS, hT, f1]
 subst hQ
 refine ⟨by omega, by omega, .is ?_⟩
 have f2 : (m + 4 ≤ m + 4) = True := eq_true (Nat.le_refl _)
 have hT2 : ∀ a b c d : List V, (BR ++ [a, b, c, d]).take (m + 4) = BR ++ [a, b, c, d] := fun a b c d => List.take_of_length_le (by simp [hR])
 simp -implicitDefEqProofs only [go_sem, hR, hT2, hF, List.drop_zero, f2, List.map_append]
end Go.Proofs.YtilggmmkmegefaaGreatDoor
