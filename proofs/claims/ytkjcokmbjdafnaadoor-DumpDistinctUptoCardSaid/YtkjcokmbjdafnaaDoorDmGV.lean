/-
  What dump.decode answers. No condition.
-/
import Derived.Test.YtkjcokmbjdafnaaDoorDmG2
import Derived.Test.YtkjcokmbjdafnaaDoorDmPS
import Derived.Test.YtkjcokmbjdafnaaDoorFnM9
set_option linter.unusedVariables false
set_option linter.unusedSimpArgs false
set_option maxRecDepth 100000
set_option maxHeartbeats 0
namespace Go.Proofs.YtkjcokmbjdafnaaDoor
open Go.Abs
attribute [local irreducible] CallS CallP Run
abbrev xN (k : Nat) : Nat := 17 * 10000 + k
-- EV: rD, xN
def zeroC : List V := [.str [], .int .i64 0, .int .i64 0, .bool false, .int .i64 0, .nils, .nils, .nils, .nils, .nils, .nils]
theorem rec_call (e : Int) (sp se n : Nat) (rp re : List V) (hp : rp.length = 11) (he : re.length = 1) : RecS Tryd.prog 25 [.ptr (xN 2) sp 0 0, .ptr (xN 3) se 0 0] (fltV e) [(xN 3, se, .rows 1 [re]), (xN 2, sp, .rows 11 [rp])] n [(xN 3, se, .rows 1 [[.int .i64 e]]), (xN 2, sp, .rows 11 [zeroC])] (n + 1) := by
  match rp, hp with
  | [p0, p1, p2, p3, p4, p5, p6, p7, p8, p9, p10], _ =>
  match re, he with
  | [r0], _ =>
  refine RecS.of (a0 := 5) (t0 := 2) dump_decode_1_ok (Nat.le_of_ble_eq_true rfl) (by kernel_rfl) (Run.go 100 ?_)
  unfold fltV
  simp -implicitDefEqProofs only [go_sem, rD, xN, initSl]
  exact Post.to (r2 := .tup []) ⟨rfl, rfl⟩ (.turn id ⟨.refl _, trivial⟩ (.at 0 rfl rfl (.refl _) (.at 1 rfl rfl (.refl _) (.of fun e he => by cases he))))
theorem Fn.row_frz' (d : Nat) (h : Heap) (p : Fn) : p.row.map (frz d h) = p.row := by
  obtain ⟨φ, e⟩ := frz_eq (d := d) (h := h)
  rw [e]; exact Fn.row_sub φ p
def decV (G : Rd Fn) : V := match G with
  | .ok (p, r) => if r = [] then .tup [.agg p.row, .int .i64 0] else .tup [zeroF, .int .i64 4]
  | .error e => .tup [zeroF, .int .i64 e]
theorem decode_call (l : List Int) (hg : good l) : Pure Tryd.prog 17 [.isl (byR l)] (decV (funP 64 l)) := by
  have hf := fun s n => fun_rd 64 s n 1 l rfl (Nat.le_refl _) hg
  have hR := byR_len l
  generalize hG : funP 64 l = G at *
  have hrow : ∀ p : Fn, p.row.length = 11 := Fn.row_len
  refine Pure.of 1 (CallS.recoverV (g := 25) [2, 3] dump_decode_ok (Nat.le_of_ble_eq_true rfl) (by kernel_rfl) (by decide) fun Q hQ => ?_)
  simp -implicitDefEqProofs only [go_sem, rD, xN, initSl]
  refine CallP.at [0] [1, 2] (hf _ _) rfl rfl ?_ ?_
  rotate_left
  · rintro x h' n' _ ⟨e, rfl, rfl, rfl⟩
    refine ⟨_, _, rec_call e _ _ _ _ _ rfl rfl, ?_⟩
    simp -implicitDefEqProofs only [go_sem, rD, xN, capSl, zeroC]
    subst hQ
    exact .is rfl
  rintro r h' n1 _ ⟨p, l1, rfl, rfl, rfl⟩
  have hR1 := byR_len l1
  by_cases c : (l1.length : Int) > 0
  · simp -implicitDefEqProofs only [go_sem, rD, xN, rdH, hR1, c, Fn.row_eq]
    refine CallP.at [] [2, 0] (fail_call rD _ _ 4) rfl rfl (fun _ _ _ _ h => h.elim) ?_
    rintro x h' n' _ ⟨rfl, rfl⟩
    refine ⟨_, _, rec_call 4 _ _ _ _ _ rfl rfl, ?_⟩
    simp -implicitDefEqProofs only [go_sem, rD, xN, capSl, zeroC]
    subst hQ
    have hne : l1 ≠ [] := fun h => by subst h; exact absurd c (by decide)
    refine .is ?_
    rw [show decV (.ok (p, l1)) = .tup [zeroF, .int .i64 4] from if_neg hne]
    rfl
  · simp -implicitDefEqProofs only [go_sem, rD, xN, rdH, hR1, c, Fn.row_eq]
    subst hQ
    obtain rfl : l1 = [] := List.length_eq_zero_iff.1 (by omega)
    refine .is ?_
    have key : ∀ H : Heap, frz 1 H (.tup [.agg p.row, .int .i64 0]) = .tup [.agg p.row, .int .i64 0] := fun H => by simp -implicitDefEqProofs only [go_sem, rD, xN, Fn.row_frz']
    have e : decV (.ok (p, [])) = .tup [.agg p.row, .int .i64 0] := by simp [decV]
    rw [e]
    rw [Fn.row_eq] at key ⊢
    exact key _
theorem enc_count (p : Fn) : 81 * p.each.length ≤ (encF p).length := by
  induction p using Fn.ind with
  | h p ih =>
  have key : ∀ l : List Fn, (∀ q ∈ l, 81 * q.each.length ≤ (encF q).length) → 81 * (Fn.eachs l).length ≤ (encL l).length := by
    intro l
    induction l with
    | nil => intro _; simp [Fn.eachs]
    | cons q r ihr =>
      intro h
      have h1 := h q List.mem_cons_self
      have h2 := ihr fun x hx => h x (List.mem_cons_of_mem _ hx)
      rw [Fn.eachs, encL, List.length_append, List.length_append]
      omega
  have := key p.protos ih
  have hsl : ∀ t : List UInt8, (strL t).length = 8 + t.length := fun t => by unfold strL; rw [List.length_append, numL_len, List.length_map]
  rw [Fn.each_eq, encF_eq]
  simp only [List.length_cons, List.length_append, numL_len, hsl, List.length_nil]
  omega
theorem enc_each (p : Fn) : ∀ q ∈ p.each, (encF q).length ≤ (encF p).length := by
  induction p using Fn.ind with
  | h p ih =>
  intro q hq
  rw [Fn.each_eq] at hq
  rcases List.mem_cons.1 hq with rfl | hq
  · exact Nat.le_refl _
  · obtain ⟨r, hr, hq⟩ := Fn.mem_eachs.1 hq
    have h1 := ih r hr q hq
    have h2 : (encF r).length ≤ (encL p.protos).length := by
      rw [encL_flat]
      obtain ⟨s, t, e⟩ := List.append_of_mem hr
      rw [e]
      simp only [List.flatMap_append, List.flatMap_cons, List.length_append]
      omega
    rw [encF_eq p]
    simp only [List.length_append]
    omega
theorem bd_enc {p : Fn} (h : (encF p).length ≤ 10000000000) : p.bd := by
  intro q hq
  have h1 := enc_each p q hq
  rw [encF_eq q, encL_flat] at h1
  simp only [List.length_append] at h1
  have hcC := flat_count (f := fun i => numsL (insZs i)) (fun i => by rw [nums_len]; show 1 ≤ 8 * 5; decide) q.code
  have hcL := flat_count (f := numL) (fun z => by rw [numL_len]; decide) q.lines
  have hcK := flat_count (f := valL) (fun v => by unfold valL; simp) q.consts
  have hcP := flat_count (f := encF) (fun q => by rw [encF_eq]; simp only [List.length_append, numL_len]; omega) q.protos
  have hcU := flat_count (f := upL) (fun u => by unfold upL; simp only [List.length_append, List.length_singleton]; omega) q.ups
  have hcV := flat_count (f := vrL) (fun v => by unfold vrL; simp only [List.length_append, nums_len]; show 1 ≤ _ + 8 * 4; omega) q.vars
  rw [show numsL q.lines = q.lines.flatMap numL from rfl] at h1
  exact ⟨by omega, by omega, by omega, by omega, by omega, by omega⟩
theorem manyP_all {α : Type} {f : List Int → Rd α} {C : α → Prop} (hf : ∀ l x r, f l = .ok (x, r) → C x) : ∀ (n : Nat) (l r : List Int) (xs : List α), manyP f n l = .ok (xs, r) → ∀ x ∈ xs, C x
  | 0, l, r, xs, h => by
    injection h with h
    injection h with e1 e2
    subst e1
    intro x hx
    cases hx
  | n + 1, l, r, xs, h => by
    obtain ⟨x, l1, h1, h2⟩ := Rd.bind_inv h
    obtain ⟨ys, l2, h3, h4⟩ := Rd.bind_inv h2
    injection h4 with h4
    injection h4 with e1 e2
    subst e1
    intro y hy
    rcases List.mem_cons.1 hy with rfl | hy
    · exact hf _ _ _ h1
    · exact manyP_all hf n _ _ _ h3 y hy
theorem depths_le {d : Nat} : ∀ {l : List Fn}, (∀ q ∈ l, q.depth ≤ d) → Fn.depths l ≤ d
  | [], _ => Nat.zero_le _
  | p :: r, h => by
    rw [Fn.depths]
    exact Nat.max_le.2 ⟨h p List.mem_cons_self, depths_le fun q hq => h q (List.mem_cons_of_mem _ hq)⟩
theorem funP_depth : ∀ (d : Nat) (l r : List Int) (p : Fn), funP d l = .ok (p, r) → p.depth ≤ d
  | 0, l, r, p, h => by cases h
  | d + 1, l, r, p, h => by
    rw [funP_eq] at h
    obtain ⟨name, l1, _, h⟩ := Rd.bind_inv h
    obtain ⟨line, l2, _, h⟩ := Rd.bind_inv h
    obtain ⟨params, l3, _, h⟩ := Rd.bind_inv h
    obtain ⟨vararg, l4, _, h⟩ := Rd.bind_inv h
    obtain ⟨regs, l5, _, h⟩ := Rd.bind_inv h
    obtain ⟨code, l6, _, h⟩ := Rd.bind_inv h
    obtain ⟨lines, l7, _, h⟩ := Rd.bind_inv h
    obtain ⟨consts, l8, _, h⟩ := Rd.bind_inv h
    obtain ⟨protos, l9, h9, h⟩ := Rd.bind_inv h
    obtain ⟨ups, l10, _, h⟩ := Rd.bind_inv h
    obtain ⟨vars, l11, _, h⟩ := Rd.bind_inv h
    injection h with h
    injection h with e1 e2
    subst e1
    obtain ⟨n, l12, _, h10⟩ := Rd.bind_inv h9
    rw [Fn.depth_eq]
    exact Nat.succ_le_succ (depths_le (manyP_all (fun l x r hx => funP_depth d l r x hx) _ _ _ _ h10))
abbrev nz {α : Type} (x : Rd α) : Prop := ∀ e, x = .error e → e ≠ 0
theorem nz_bind {α β : Type} {x : Rd α} {f : α → List Int → Rd β} (h1 : nz x) (h2 : ∀ a l, nz (f a l)) : nz (x.bind f) := by
  intro e h
  cases x with
  | ok y => exact h2 _ _ e h
  | error z =>
    injection (show (Except.error z : Rd β) = .error e from h) with h
    exact h1 e (by rw [h])
theorem nz_ok {α : Type} (r : α × List Int) : nz (.ok r : Rd α) := fun e h => by cases h
theorem nz_err {α : Type} {e : Int} (h : e ≠ 0) : nz (.error e : Rd α) := fun e' h' => by cases h'; exact h
theorem takeP_nz (n : Nat) (l : List Int) : nz (takeP n l) := by
  unfold takeP
  split
  · exact nz_ok _
  · exact nz_err (by decide)
theorem numP_nz (l : List Int) : nz (numP l) := nz_bind (takeP_nz _ _) fun _ _ => nz_ok _
theorem truthP_nz (l : List Int) : nz (truthP l) := nz_bind (takeP_nz _ _) fun _ _ => by
  split
  · exact nz_err (by decide)
  · exact nz_ok _
theorem lenP_nz (l : List Int) : nz (lenP l) := nz_bind (numP_nz _) fun _ _ => by
  split
  · exact nz_err (by decide)
  split
  · exact nz_err (by decide)
  · exact nz_ok _
theorem strP_nz (l : List Int) : nz (strP l) := nz_bind (lenP_nz _) fun _ _ => nz_bind (takeP_nz _ _) fun _ _ => nz_ok _
theorem valP_nz (l : List Int) : nz (valP l) := nz_bind (takeP_nz _ _) fun _ _ => by
  split
  · exact nz_ok _
  split
  · exact nz_bind (truthP_nz _) fun _ _ => nz_ok _
  split
  · exact nz_bind (numP_nz _) fun _ _ => nz_bind (numP_nz _) fun _ _ => nz_ok _
  split
  · exact nz_bind (strP_nz _) fun _ _ => nz_ok _
  · exact nz_err (by decide)
theorem manyP_nz {α : Type} {f : List Int → Rd α} (hf : ∀ l, nz (f l)) : ∀ (n : Nat) (l : List Int), nz (manyP f n l)
  | 0, _ => nz_ok _
  | n + 1, l => nz_bind (hf l) fun _ l => nz_bind (manyP_nz hf n l) fun _ _ => nz_ok _
theorem listP_nz {α : Type} {f : List Int → Rd α} (hf : ∀ l, nz (f l)) (l : List Int) : nz (listP f l) := nz_bind (lenP_nz l) fun n l => manyP_nz hf n l
theorem insP_nz (l : List Int) : nz (insP l) := nz_bind (numP_nz _) fun _ _ => nz_bind (numP_nz _) fun _ _ => nz_bind (numP_nz _) fun _ _ => nz_bind (numP_nz _) fun _ _ => nz_bind (numP_nz _) fun _ _ => nz_ok _
theorem upP_nz (l : List Int) : nz (upP l) := nz_bind (strP_nz _) fun _ _ => nz_bind (truthP_nz _) fun _ _ => nz_bind (numP_nz _) fun _ _ => nz_ok _
theorem vrP_nz (l : List Int) : nz (vrP l) := nz_bind (strP_nz _) fun _ _ => nz_bind (numP_nz _) fun _ _ => nz_bind (numP_nz _) fun _ _ => nz_bind (numP_nz _) fun _ _ => nz_bind (numP_nz _) fun _ _ => nz_ok _
theorem funP_nz : ∀ (d : Nat) (l : List Int), nz (funP d l)
  | 0, _ => nz_err (by decide)
  | d + 1, l => nz_bind (strP_nz _) fun _ _ => nz_bind (numP_nz _) fun _ _ => nz_bind (numP_nz _) fun _ _ => nz_bind (truthP_nz _) fun _ _ => nz_bind (numP_nz _) fun _ _ =>
    nz_bind (listP_nz insP_nz _) fun _ _ => nz_bind (listP_nz numP_nz _) fun _ _ => nz_bind (listP_nz valP_nz _) fun _ _ => nz_bind (listP_nz (funP_nz d) _) fun _ _ => nz_bind (listP_nz upP_nz _) fun _ _ => nz_bind (listP_nz vrP_nz _) fun _ _ => nz_ok _
def getR (L : List Int) (a b c d : Int) : Except Int Fn :=
  if V4 a b c d ≠ sumZ L then .error 20 else if txtB (L.take 5) ≠ [83, 67, 82, 66, 1] then .error 4 else match funP 64 (L.drop 5) with
  | .error e => .error e
  | .ok (p, r) => if r ≠ [] then .error 4 else if chkE p = 0 then .ok p else .error (chkE p)
def getV : Except Int Fn → V
  | .ok p => .tup [.agg p.row, .int .i64 0]
  | .error e => .tup [zeroF, .int .i64 e]
theorem get_short (M : List Int) (h : M.length < 9) : Pure Tryd.prog 8 [.isl (byR M)] (.tup [zeroF, .int .i64 5]) := by
  have hR := byR_len M
  generalize byR M = BR at *
  generalize M.length = L at *
  refine Pure.of 0 (CallS.enterK dump_Get_ok (Nat.le_of_ble_eq_true rfl) fun Q hQ => Run.go 100 ?_)
  have c5 : ((L : Int) - 4 < 5) = True := eq_true (by omega)
  simp -implicitDefEqProofs only [go_sem, initSl, hR, c5]
  subst hQ
  exact ⟨by omega, .is rfl⟩
theorem get_call (M : List Int) (a b c d : Int) (h5 : 5 ≤ M.length) (hg : good M) : Pure Tryd.prog 8 [.isl (byR (M ++ [a, b, c, d]))] (getV (getR M a b c d)) := by
  have hl := hg.2
  by_cases hne : V4 a b c d = sumZ M
  rotate_left
  · unfold getR
    rw [if_pos hne]
    exact get_sum M a b c d h5 hl hne
  have hG : getR M a b c d = if txtB (M.take 5) ≠ [83, 67, 82, 66, 1] then .error 4 else match funP 64 (M.drop 5) with
    | .error e => .error e
    | .ok (p, r) => if r ≠ [] then .error 4 else if chkE p = 0 then .ok p else .error (chkE p) := by
    unfold getR
    rw [if_neg (fun h => h hne)]
  generalize getR M a b c d = G at *
  have hgd : good (M.drop 5) := ⟨fun z hz => hg.1 z (List.mem_of_mem_drop hz), by rw [List.length_drop]; omega⟩
  have hdec := decode_call (M.drop 5) hgd
  have hbd : ∀ p, funP 64 (M.drop 5) = .ok (p, []) → p.bd ∧ p.depth ≤ 1000000 := fun p hp => by
    have h1 := funP_inv _ _ _ _ hgd.1 hp
    have h2 := congrArg List.length h1
    rw [List.append_nil] at h2
    exact ⟨bd_enc (by have := hgd.2; omega), Nat.le_trans (funP_depth _ _ _ _ hp) (by decide)⟩
  have hnz := funP_nz 64 (M.drop 5)
  have hs := sum_pure M (by have : 10000000000 ≤ reachBytes := by decide
                            omega)
  have hR : (byR (M ++ [a, b, c, d])).length = M.length + 4 := by rw [byR_len]; simp
  have hS := byR_sz (M ++ [a, b, c, d])
  have ha : (byR (M ++ [a, b, c, d]))[M.length]? = some [.int .u8 a] := by simp [byR]
  have hb : (byR (M ++ [a, b, c, d]))[M.length + 1]? = some [.int .u8 b] := by simp [byR]
  have hc : (byR (M ++ [a, b, c, d]))[M.length + 2]? = some [.int .u8 c] := by simp [byR]
  have hd : (byR (M ++ [a, b, c, d]))[M.length + 3]? = some [.int .u8 d] := by simp [byR]
  have ht : (byR (M ++ [a, b, c, d])).take M.length = byR M := by simp [byR]
  have ht5 : (byR (M ++ [a, b, c, d])).take 5 = byR (M.take 5) := by
    unfold byR
    rw [← List.map_take, List.take_append_of_le_length h5]
  have hd5 : ((byR (M ++ [a, b, c, d])).drop 5).take (M.length - 5) = byR (M.drop 5) := by
    unfold byR
    rw [← List.map_drop, List.drop_append_of_le_length h5, ← List.map_take, List.take_left' (by rw [List.length_drop])]
  have hbs := byteV_byR (M.take 5)
  generalize byR (M ++ [a, b, c, d]) = BR at *
  generalize byR (M.take 5) = B5 at *
  generalize txtB (M.take 5) = T5 at *
  have hDs := byR_sub (M.drop 5)
  generalize byR (M.drop 5) = DR at *
  generalize funP 64 (M.drop 5) = FP at *
  generalize hLd : M.length = L at *
  refine Pure.of 0 (CallS.enterK dump_Get_ok (Nat.le_of_ble_eq_true rfl) fun Q hQ => Run.go 100 ?_)
  have e0 : (L : Int) + 4 - 4 = (L : Int) := by omega
  have e1 : ((L + 4 : Nat) : Int) = (L : Int) + 4 := by omega
  have c5 : ((L : Int) < 5) = False := eq_false (by omega)
  have t1 : ((L : Int) + 1).toNat = L + 1 := by omega
  have t2 : ((L : Int) + 2).toNat = L + 2 := by omega
  have t3 : ((L : Int) + 3).toNat = L + 3 := by omega
  have q0 : ((0 : Int) ≤ (L : Int)) = True := eq_true (by omega)
  have q1 : ((L : Int) < (L : Int) + 4) = True := eq_true (by omega)
  have u0 : (L < L + 4) = True := eq_true (by omega)
  have u1 : (L + 1 < L + 4) = True := eq_true (by omega)
  have u2 : (L + 2 < L + 4) = True := eq_true (by omega)
  have u3 : (L + 3 < L + 4) = True := eq_true (by omega)
  have v1 : ((L : Int) + 1 < (L : Int) + 4) = True := eq_true (by omega)
  have v2 : ((L : Int) + 2 < (L : Int) + 4) = True := eq_true (by omega)
  have v3 : ((L : Int) + 3 < (L : Int) + 4) = True := eq_true (by omega)
  have p1 : ((0 : Int) ≤ (L : Int) + 1) = True := eq_true (by omega)
  have p2 : ((0 : Int) ≤ (L : Int) + 2) = True := eq_true (by omega)
  have p3 : ((0 : Int) ≤ (L : Int) + 3) = True := eq_true (by omega)
  simp -implicitDefEqProofs only [go_sem, initSl, hR, hS, e0, e1, c5, t1, t2, t3, q0, q1, u0, u1, u2, u3, v1, v2, v3, p1, p2, p3, ha, hb, hc, hd, Option.some.injEq, forall_eq', Int.toNat_natCast]
  have hsub : ((L : Int) - 0).toNat = L := by omega
  have hsub5 : ((L : Int) - 5).toNat = L - 5 := by omega
  rw [hsub, ht]
  refine ⟨by omega, by omega, by omega, by omega, by omega, CallS.pureF hs (by simp -implicitDefEqProofs only [go_sem, byR_sub]) ?_⟩
  have hne' := eq_true hne
  unfold V4 at hne'
  by_cases h83 : T5 = [83, 67, 82, 66, 1]
  rotate_left
  · rw [if_pos h83] at hG
    subst hG
    simp -implicitDefEqProofs only [go_sem, hne', hR, hS, e1, ht5, hbs, h83]
    subst hQ
    exact ⟨by omega, .is rfl⟩
  rw [if_neg (fun h => h h83)] at hG
  simp -implicitDefEqProofs only [go_sem, hne', hR, hS, e1, ht5, hbs, h83, hsub5, hd5]
  refine ⟨by omega, by omega, by omega, CallS.pureF hdec (by simp -implicitDefEqProofs only [go_sem, hDs]) ?_⟩
  cases FP with
  | error e =>
    have he := hnz e rfl
    subst hG
    simp -implicitDefEqProofs only [go_sem, decV, zeroF, he]
    subst hQ
    exact .is rfl
  | ok y =>
    obtain ⟨p, r⟩ := y
    by_cases hr : r = []
    rotate_left
    · simp only at hG
      rw [if_pos hr] at hG
      subst hG
      simp -implicitDefEqProofs only [go_sem, decV, zeroF, hr]
      subst hQ
      exact .is rfl
    subst hr
    obtain ⟨hb1, hb2⟩ := hbd p rfl
    have hck := pcheck_pure p hb1 hb2
    have hps := Fn.row_sub lost p
    obtain ⟨g1, g2⟩ := fn_row11 p
    simp only [ne_eq, not_true_eq_false, if_false] at hG
    by_cases c0 : chkE p = 0
    · rw [if_pos c0] at hG
      subst hG
      simp -implicitDefEqProofs only [go_sem, decV, g1, g2]
      refine CallS.pureF hck (by simp -implicitDefEqProofs only [go_sem, hps]) ?_
      simp -implicitDefEqProofs only [go_sem, c0, g1, g2]
      subst hQ
      exact .is (by simp -implicitDefEqProofs only [go_sem, getV, Fn.row_frz'])
    · rw [if_neg c0] at hG
      subst hG
      simp -implicitDefEqProofs only [go_sem, decV, g1, g2]
      refine CallS.pureF hck (by simp -implicitDefEqProofs only [go_sem, hps]) ?_
      simp -implicitDefEqProofs only [go_sem, c0, g1, g2]
      subst hQ
      exact .is rfl
theorem le4_of {a b c d s : Int} (ha : isB a) (hb : isB b) (hc : isB c) (hd : isB d) (h : V4 a b c d = s) : [a, b, c, d] = le4 s := by
  rw [V4_eq ha hb hc hd] at h
  unfold isB at ha hb hc hd
  obtain ⟨a', b', c', d', e, h1, h2, h3, h4, h5⟩ := le4_eq (s := s) (by omega)
  rw [e]
  obtain rfl : a = a' := by omega
  obtain rfl : b = b' := by omega
  obtain rfl : c = c' := by omega
  obtain rfl : d = d' := by omega
  rfl
theorem split4 {M : List Int} (hg : good M) (h : 9 ≤ M.length) : ∃ L a b c d, M = L ++ [a, b, c, d] ∧ 5 ≤ L.length ∧ good L ∧ allB [a, b, c, d] := by
  have h4 : (M.drop (M.length - 4)).length = 4 := by rw [List.length_drop]; omega
  obtain ⟨a, b, c, d, e⟩ : ∃ a b c d, M.drop (M.length - 4) = [a, b, c, d] := by
    match M.drop (M.length - 4), h4 with
    | [a, b, c, d], _ => exact ⟨a, b, c, d, rfl⟩
  refine ⟨M.take (M.length - 4), a, b, c, d, by rw [← e, List.take_append_drop], by rw [List.length_take]; omega, ⟨fun z hz => hg.1 z (List.mem_of_mem_take hz), by rw [List.length_take]; have := hg.2; omega⟩, fun z hz => hg.1 z (List.mem_of_mem_drop (e ▸ hz))⟩
theorem getR_nz {L : List Int} {a b c d e : Int} (h : getR L a b c d = .error e) : e ≠ 0 := by
  unfold getR at h
  split at h
  · injection h with h; omega
  split at h
  · injection h with h; omega
  cases hF : funP 64 (L.drop 5) with
  | error z =>
    rw [hF] at h
    have h : (Except.error z : Except Int Fn) = .error e := h
    injection h with h
    exact h ▸ funP_nz _ _ _ hF
  | ok y =>
    rw [hF] at h
    simp only at h
    split at h
    · injection h with h; omega
    split at h
    · cases h
    · rename_i hc
      injection h with h
      exact h ▸ hc
theorem getR_ok {L : List Int} {a b c d : Int} {p : Fn} (hg : good L) (hB : allB [a, b, c, d]) (h : getR L a b c d = .ok p) : L ++ [a, b, c, d] = fileZ p ∧ chkE p = 0 ∧ p.bd ∧ p.depth ≤ 1000000 ∧ (encF p).length ≤ 10000000000 := by
  unfold getR at h
  split at h
  · cases h
  rename_i hs
  have hs := Classical.not_not.1 hs
  split at h
  · cases h
  rename_i h5
  have h5 := Classical.not_not.1 h5
  have hgd : good (L.drop 5) := ⟨fun z hz => hg.1 z (List.mem_of_mem_drop hz), by rw [List.length_drop]; have := hg.2; omega⟩
  cases hF : funP 64 (L.drop 5) with
  | error z =>
    rw [hF] at h
    have h : (Except.error z : Except Int Fn) = .ok p := h
    cases h
  | ok y =>
    rw [hF] at h
    simp only at h
    split at h
    · cases h
    rename_i hr
    have hr := Classical.not_not.1 hr
    split at h
    rotate_left
    · cases h
    rename_i hc
    injection h with h
    obtain ⟨q, r⟩ := y
    have hr : r = [] := hr
    have h : q = p := h
    have hc : chkE q = 0 := hc
    subst hr; subst h
    have e := funP_inv _ _ _ _ hgd.1 hF
    rw [List.append_nil] at e
    have e5 : L.take 5 = [83, 67, 82, 66, 1] := by
      have := txtB_inv (b := L.take 5) fun z hz => hg.1 z (List.mem_of_mem_take hz)
      rw [h5] at this
      exact this.symm
    have hL : L = bodyZ q := by
      unfold bodyZ
      rw [← e5, ← e, List.take_append_drop]
    have hlen := congrArg List.length e
    have := hgd.2
    show L ++ [a, b, c, d] = fileZ q ∧ chkE q = 0 ∧ q.bd ∧ q.depth ≤ 1000000 ∧ (encF q).length ≤ 10000000000
    refine ⟨?_, hc, bd_enc (by omega), Nat.le_trans (funP_depth _ _ _ _ hF) (by decide), by omega⟩
    unfold fileZ
    rw [← hL, le4_of (hB a (by simp)) (hB b (by simp)) (hB c (by simp)) (hB d (by simp)) hs]
mutual
def v64 : V → Prop
  | .int .i64 z => is64 z
  | .isl es => v64LL es
  | .agg cs => v64L cs
  | _ => True
def v64L : List V → Prop
  | [] => True
  | c :: r => v64 c ∧ v64L r
def v64LL : List (List V) → Prop
  | [] => True
  | c :: r => v64L c ∧ v64LL r
end
theorem v64L_app : ∀ {a b : List V}, v64L a → v64L b → v64L (a ++ b)
  | [], _, _, h => h
  | c :: r, b, h1, h2 => by
    rw [v64L] at h1
    rw [List.cons_append, v64L]
    exact ⟨h1.1, v64L_app h1.2 h2⟩
theorem v64L_flat : ∀ {l : List (List V)}, (∀ c ∈ l, v64L c) → v64L l.flatten
  | [], _ => by rw [List.flatten_nil, v64L]; trivial
  | c :: r, h => by
    rw [List.flatten_cons]
    exact v64L_app (h c List.mem_cons_self) (v64L_flat fun x hx => h x (List.mem_cons_of_mem _ hx))
theorem v64LL_mem : ∀ {l : List (List V)}, v64LL l ↔ ∀ c ∈ l, v64L c
  | [] => by simp [v64LL]
  | c :: r => by rw [v64LL, v64LL_mem, List.forall_mem_cons]
theorem typed64 {P : Program} {t : TypeId} {row : List V} (h : Typed P t row) : v64L row := by
  induction h with
  | bool h b => rw [v64L, v64L]; exact ⟨by unfold v64; trivial, trivial⟩
  | @int t k h n hn =>
    rw [v64L, v64L]
    refine ⟨?_, trivial⟩
    have h : k = .i64 → is64 n := fun e => by
      subst e
      have h : IntKind.i64.min ≤ n ∧ n ≤ IntKind.i64.max := by simpa [Lit.wf] using hn
      rw [show IntKind.i64.min = -9223372036854775808 from rfl, show IntKind.i64.max = 9223372036854775807 from rfl] at h
      exact ⟨h.1, by omega⟩
    unfold v64
    cases k <;> first | trivial | exact h rfl
  | str h s hs => rw [v64L, v64L]; exact ⟨by unfold v64; trivial, trivial⟩
  | slice h es hl hb he ih => rw [v64L, v64L, v64]; exact ⟨v64LL_mem.2 ih, trivial⟩
  | struct h cs hl hf ih =>
    refine v64L_flat fun c hc => ?_
    obtain ⟨i, hi, rfl⟩ := List.getElem_of_mem hc
    exact ih i _ _ (List.getElem?_eq_getElem (by omega)) (List.getElem?_eq_getElem hi)
  | array h cs hl hf ih => exact v64L_flat ih
abbrev shortL (l : List Int) : Prop := l.length ≤ 100000000000
theorem takeP_enc {b : List Int} {n : Nat} (h : b.length = n) (r : List Int) : takeP n (b ++ r) = .ok (b, r) := by
  subst h
  unfold takeP
  rw [if_pos (by simp), List.take_left, List.drop_left]
theorem take1 (c : Int) (r : List Int) : takeP 1 ([c] ++ r) = .ok ([c], r) := takeP_enc (b := [c]) rfl r
theorem numP_enc {z : Int} (hz : is64 z) (r : List Int) : numP (numL z ++ r) = .ok (z, r) := by
  unfold numP
  rw [takeP_enc (numL_len z), Rd.bind_ok, un_numL hz]
theorem truthP_enc (t : Bool) (r : List Int) : truthP ([if t then 1 else 0] ++ r) = .ok (t, r) := by
  unfold truthP
  rw [take1, Rd.bind_ok]
  cases t <;> rfl
theorem lenP_enc {n : Nat} {r : List Int} (h : n ≤ r.length) (hr : shortL r) : lenP (numL n ++ r) = .ok (n, r) := by
  unfold lenP
  rw [numP_enc (z := (n : Int)) ⟨by omega, by omega⟩, Rd.bind_ok, if_neg (by omega), if_neg (by omega), Int.toNat_natCast]
theorem txtB_enc (s : List UInt8) : txtB (s.map fun u => (u.toNat : Int)) = s := by
  unfold txtB
  rw [List.map_map]
  conv => rhs; rw [← List.map_id s]
  refine List.map_congr_left fun u _ => ?_
  simp
theorem strP_enc {s : List UInt8} {r : List Int} (h : shortL (strL s ++ r)) : strP (strL s ++ r) = .ok (s, r) := by
  unfold strL at h ⊢
  unfold strP
  rw [List.append_assoc] at h ⊢
  have h2 := h
  unfold shortL at h
  rw [List.length_append, List.length_append, List.length_map] at h
  rw [lenP_enc (by rw [List.length_append, List.length_map]; omega) (by unfold shortL; rw [List.length_append, List.length_map]; omega), Rd.bind_ok, takeP_enc (List.length_map ..), Rd.bind_ok, txtB_enc]
theorem valP_enc {v : Kst} {r : List Int} (hv : badK v = false) (hp : is64 v.p) (hq : is64 v.q) (h : shortL (valL v ++ r)) : valP (valL v ++ r) = .ok (v, r) := by
  obtain ⟨kind, p, q, str, ref⟩ := v
  simp only [badK, Bool.or_eq_false_iff, decide_eq_false_iff_not, Bool.not_eq_false'] at hv
  obtain ⟨h3, hv⟩ := hv
  unfold validK at hv
  unfold valP
  by_cases k0 : kind = 0
  · subst k0
    simp at hv
    obtain ⟨rfl, rfl, rfl, rfl⟩ := hv
    rfl
  by_cases k1 : kind = 1
  · subst k1
    simp at hv
    obtain ⟨hr, rfl, rfl, rfl⟩ := hv
    show (takeP 1 ([1] ++ ([if ref = 1 then 1 else 0] ++ r))).bind _ = _
    rw [take1, Rd.bind_ok]
    simp only [List.getD_cons_zero]
    have e : ([if ref = 1 then 1 else 0] ++ r : List Int) = [if decide (ref = 1) then 1 else 0] ++ r := by simp
    rw [if_neg (by decide), if_pos trivial, e, truthP_enc, Rd.bind_ok]
    rcases hr with rfl | rfl <;> rfl
  by_cases k2 : kind = 2
  · subst k2
    simp at hv
    obtain ⟨_, rfl, rfl⟩ := hv
    show (takeP 1 ([2] ++ (numL p ++ numL q) ++ r)).bind _ = _
    rw [List.append_assoc, take1, Rd.bind_ok]
    simp only [List.getD_cons_zero]
    rw [if_neg (by decide), if_neg (by decide), if_pos trivial, List.append_assoc, numP_enc hp, Rd.bind_ok, numP_enc hq, Rd.bind_ok]
  · simp [k0, k1, k2] at hv
    obtain ⟨rfl, _, rfl, rfl, rfl⟩ := hv
    have h : shortL ([3] ++ strL str ++ r) := h
    show (takeP 1 ([3] ++ strL str ++ r)).bind _ = _
    rw [List.append_assoc] at h ⊢
    rw [take1, Rd.bind_ok]
    simp only [List.getD_cons_zero]
    rw [if_neg (by decide), if_neg (by decide), if_neg (by decide), if_pos trivial, strP_enc (by unfold shortL at h ⊢; rw [List.length_append] at h; omega), Rd.bind_ok]
theorem shortL.right {a b : List Int} (h : shortL (a ++ b)) : shortL b := by
  unfold shortL at h ⊢
  rw [List.length_append] at h
  omega
theorem manyP_enc {α : Type} {f : List Int → Rd α} {w : α → List Int} : ∀ {xs : List α} {r : List Int}, (∀ x ∈ xs, ∀ r, shortL (w x ++ r) → f (w x ++ r) = .ok (x, r)) → shortL (xs.flatMap w ++ r) → manyP f xs.length (xs.flatMap w ++ r) = .ok (xs, r)
  | [], r, _, _ => rfl
  | x :: xs, r, hf, h => by
    rw [List.flatMap_cons, List.append_assoc] at h ⊢
    rw [List.length_cons, manyP, hf x List.mem_cons_self _ h, Rd.bind_ok, manyP_enc (fun y hy => hf y (List.mem_cons_of_mem _ hy)) h.right, Rd.bind_ok]
theorem listP_enc {α : Type} {f : List Int → Rd α} {w : α → List Int} {xs : List α} {r : List Int} (hw : ∀ x, 1 ≤ (w x).length) (hf : ∀ x ∈ xs, ∀ r, shortL (w x ++ r) → f (w x ++ r) = .ok (x, r)) (h : shortL (numL xs.length ++ (xs.flatMap w ++ r))) : listP f (numL xs.length ++ (xs.flatMap w ++ r)) = .ok (xs, r) := by
  unfold listP
  have := flat_count hw xs
  rw [lenP_enc (by rw [List.length_append]; omega) h.right, Rd.bind_ok, manyP_enc hf h.right]
theorem insP_enc {i : Ins} {r : List Int} (hi : v64L i.row) : insP (numsL (insZs i) ++ r) = .ok (i, r) := by
  simp only [Ins.row, v64L, v64] at hi
  obtain ⟨h1, h2, h3, h4, h5, _⟩ := hi
  unfold insP
  rw [show numsL (insZs i) ++ r = numL i.op ++ (numL i.a ++ (numL i.b ++ (numL i.c ++ (numL i.d ++ r)))) by simp [numsL, insZs]]
  rw [numP_enc h1, Rd.bind_ok, numP_enc h2, Rd.bind_ok, numP_enc h3, Rd.bind_ok, numP_enc h4, Rd.bind_ok, numP_enc h5, Rd.bind_ok]
theorem upP_enc {u : Upv} {r : List Int} (hu : v64L u.row) (h : shortL (upL u ++ r)) : upP (upL u ++ r) = .ok (u, r) := by
  simp only [Upv.row, v64L, v64] at hu
  unfold upP
  have e : upL u ++ r = strL u.name ++ ([if u.loc then 1 else 0] ++ (numL u.idx ++ r)) := by simp [upL]
  rw [e] at h ⊢
  rw [strP_enc h, Rd.bind_ok, truthP_enc, Rd.bind_ok, numP_enc hu.2.2.1, Rd.bind_ok]
theorem vrP_enc {u : Vr} {r : List Int} (hu : v64L u.row) (h : shortL (vrL u ++ r)) : vrP (vrL u ++ r) = .ok (u, r) := by
  simp only [Vr.row, v64L, v64] at hu
  obtain ⟨_, h1, h2, h3, h4, _⟩ := hu
  unfold vrP
  have e : vrL u ++ r = strL u.name ++ (numL u.reg ++ (numL u.lo ++ (numL u.hi ++ (numL u.attr ++ r)))) := by simp [vrL, numsL, vrZs]
  rw [e] at h ⊢
  rw [strP_enc h, Rd.bind_ok, numP_enc h1, Rd.bind_ok, numP_enc h2, Rd.bind_ok, numP_enc h3, Rd.bind_ok, numP_enc h4, Rd.bind_ok]
theorem funP_enc : ∀ (d : Nat) (p : Fn) (r : List Int), p.depth ≤ d → v64L p.row → (∀ q ∈ p.each, ∀ v ∈ q.consts, badK v = false) → shortL (encF p ++ r) → funP d (encF p ++ r) = .ok (p, r)
  | 0, p, r, hd, _, _, _ => by rw [Fn.depth_eq] at hd; omega
  | d + 1, p, r, hd, hv, hk, h => by
    have hdq : ∀ q ∈ p.protos, q.depth ≤ d := fun q hq => by
      have := Fn.depths_mem hq
      rw [Fn.depth_eq] at hd
      omega
    have hkq : ∀ q ∈ p.protos, ∀ x ∈ q.each, ∀ v ∈ x.consts, badK v = false := fun q hq x hx => hk x (Fn.each_trans p q (Fn.child_mem p.self_mem hq) x hx)
    have hkp := hk p p.self_mem
    rw [Fn.row_eq] at hv
    simp only [v64L, v64, v64LL_mem, List.mem_map, forall_exists_index, and_imp, forall_apply_eq_imp_iff₂] at hv
    obtain ⟨_, v1, v2, _, v3, v4, v5, v6, v7, v8, v9, _⟩ := hv
    have e : encF p ++ r = strL p.name ++ (numL p.line ++ (numL p.params ++ ([if p.vararg then 1 else 0] ++ (numL p.regs ++ (numL p.code.length ++ (p.code.flatMap (fun i => numsL (insZs i)) ++ (numL p.lines.length ++ (p.lines.flatMap numL ++ (numL p.consts.length ++ (p.consts.flatMap valL ++ (numL p.protos.length ++ (p.protos.flatMap encF ++ (numL p.ups.length ++ (p.ups.flatMap upL ++ (numL p.vars.length ++ (p.vars.flatMap vrL ++ r)))))))))))))))) := by
      rw [encF_eq, encL_flat]
      simp only [List.append_assoc, numsL]
    rw [e] at h ⊢
    have hsl : ∀ t : List UInt8, (strL t).length = 8 + t.length := fun t => by unfold strL; rw [List.length_append, numL_len, List.length_map]
    have h1 := h.right
    have h5 := h1.right.right.right.right
    have h7 := h5.right.right
    have h9 := h7.right.right
    have h11 := h9.right.right
    have h13 := h11.right.right
    have h15 := h13.right.right
    rw [funP]
    rw [strP_enc h, Rd.bind_ok, numP_enc v1, Rd.bind_ok, numP_enc v2, Rd.bind_ok, truthP_enc, Rd.bind_ok, numP_enc v3, Rd.bind_ok]
    rw [listP_enc (fun i => by rw [nums_len]; show 1 ≤ 8 * 5; decide) (fun i hi r _ => insP_enc (v4 i hi)) h5, Rd.bind_ok]
    rw [listP_enc (fun z => by rw [numL_len]; decide) (fun z hz r _ => numP_enc (by have := v5 z hz; simp only [lrow, v64L, v64] at this; exact this.1) r) h7, Rd.bind_ok]
    rw [listP_enc (fun v => by unfold valL; simp) (fun v hv r hr => valP_enc (hkp v hv) (by have := v6 v hv; simp only [Kst.row, v64L, v64] at this; exact this.2.1) (by have := v6 v hv; simp only [Kst.row, v64L, v64] at this; exact this.2.2.1) hr) h9, Rd.bind_ok]
    rw [listP_enc (fun q => by rw [encF_eq]; simp only [List.length_append, numL_len]; omega) (fun q hq r hr => funP_enc d q r (hdq q hq) (v7 q hq) (hkq q hq) hr) h11, Rd.bind_ok]
    rw [listP_enc (fun u => by unfold upL; simp only [List.length_append, List.length_singleton]; omega) (fun u hu r hr => upP_enc (v8 u hu) hr) h13, Rd.bind_ok]
    rw [listP_enc (fun v => by unfold vrL; simp only [List.length_append, nums_len]; show 1 ≤ _ + 8 * 4; omega) (fun v hv r hr => vrP_enc (v9 v hv) hr) h15, Rd.bind_ok]
    cases p
    rfl
theorem firstNZ_all : ∀ {l : List Int}, firstNZ l = 0 → ∀ x ∈ l, x = 0
  | [], _ => by simp
  | x :: r, h => by
    rw [firstNZ] at h
    split at h
    · rename_i h0
      intro y hy
      rcases List.mem_cons.1 hy with rfl | hy
      · exact h0
      · exact firstNZ_all h y hy
    · rename_i h0; exact (h0 h).elim
theorem chk_read {p : Fn} (h : chkE p = 0) : p.depth ≤ 64 ∧ ∀ q ∈ p.each, ∀ v ∈ q.consts, badK v = false := by
  unfold chkE chkAll at h
  split at h
  · omega
  refine ⟨by omega, fun q hq v hv => ?_⟩
  have hs : sglE q = 0 := firstNZ_all h _ (List.mem_map_of_mem hq)
  unfold sglE at hs
  split at hs
  · omega
  split at hs
  · omega
  rename_i h2
  have h2 := Classical.not_not.1 h2
  unfold formE at h2
  split at h2
  · rename_i hc
    have := hc.2.2.2.2.2.2.2.2.1
    rw [List.any_eq_false] at this
    simpa using this v hv
  · omega
theorem file_inj {p q : Fn} (hp : chkE p = 0) (hq : chkE q = 0) (vp : v64L p.row) (vq : v64L q.row) (sp : shortL (encF p)) (sq : shortL (encF q)) (h : fileZ p = fileZ q) : p = q := by
  have hl := congrArg List.length h
  have l4 : ∀ s : Int, (le4 s).length = 4 := fun _ => rfl
  unfold fileZ at h hl
  rw [List.length_append, List.length_append, l4, l4] at hl
  have hb := (List.append_inj h (by omega)).1
  unfold bodyZ at hb
  have he := List.append_cancel_left hb
  have e1 := funP_enc 64 p [] (chk_read hp).1 vp (chk_read hp).2 (by rw [List.append_nil]; exact sp)
  have e2 := funP_enc 64 q [] (chk_read hq).1 vq (chk_read hq).2 (by rw [List.append_nil]; exact sq)
  rw [he, e2] at e1
  injection e1 with e1
  injection e1 with e1
  exact e1.symm
end Go.Proofs.YtkjcokmbjdafnaaDoor
