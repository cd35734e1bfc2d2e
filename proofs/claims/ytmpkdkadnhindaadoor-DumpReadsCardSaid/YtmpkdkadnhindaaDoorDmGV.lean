/-
  What dump.decode answers. No condition.
-/
import Derived.Test.YtmpkdkadnhindaaDoorDmG2
import Derived.Test.YtmpkdkadnhindaaDoorDmPS
import Derived.Test.YtmpkdkadnhindaaDoorFnM9
set_option linter.unusedVariables false
set_option linter.unusedSimpArgs false
set_option maxRecDepth 100000
set_option maxHeartbeats 0
namespace Go.Proofs.YtmpkdkadnhindaaDoor
open Go.Abs
attribute [local irreducible] CallS CallP Run
abbrev xN (k : Nat) : Nat := 13 * 10000 + k
-- EV: rD, xN
def zeroC : List V := [.str [], .int .i64 0, .int .i64 0, .bool false, .int .i64 0, .nils, .nils, .nils, .nils, .nils, .nils]
theorem rec_call (e : Int) (sp se n : Nat) (rp re : List V) (hp : rp.length = 11) (he : re.length = 1) : RecS Tryd.prog 20 [.ptr (xN 2) sp 0 0, .ptr (xN 3) se 0 0] (fltV e) [(xN 3, se, .rows 1 [re]), (xN 2, sp, .rows 11 [rp])] n [(xN 3, se, .rows 1 [[.int .i64 e]]), (xN 2, sp, .rows 11 [zeroC])] (n + 1) := by
  match rp, hp with
  | [p0, p1, p2, p3, p4, p5, p6, p7, p8, p9, p10], _ =>
  match re, he with
  | [r0], _ =>
  refine RecS.of (a0 := 5) (t0 := 2) dump_decode_1_ok (Nat.le_of_ble_eq_true rfl) (by kernel_rfl) (Run.go 100 ?_)
  unfold fltV
  simp -implicitDefEqProofs only [go_sem, rD, xN, initSl]
  exact Post.to (r2 := .tup []) ⟨rfl, rfl⟩ (.turn id ⟨.refl _, trivial⟩ (.at 0 rfl rfl (.refl _) (.at 1 rfl rfl (.refl _) (.of fun e he => by cases he))))
theorem Fn.row_frz' (d : Nat) (h : Heap) (p : Fn) : p.row.map (frz d h) = p.row := by
  obtain ⟨φ, e⟩ := frz_eq (d := d) (h := h)
  rw [e]; exact Fn.row_sub φ p
/-- What decoding answers. -/
def decV (G : Rd Fn) : V := match G with
  | .ok (p, r) => if r = [] then .tup [.agg p.row, .int .i64 0] else .tup [zeroF, .int .i64 4]
  | .error e => .tup [zeroF, .int .i64 e]
theorem decode_call (l : List Int) (hg : good l) : Pure Tryd.prog 13 [.isl (byR l)] (decV (funP 64 l)) := by
  have hf := fun s n => fun_rd 64 s n 1 l rfl (Nat.le_refl _) hg
  have hR := byR_len l
  generalize hG : funP 64 l = G at *
  have hrow : ∀ p : Fn, p.row.length = 11 := Fn.row_len
  refine Pure.of 1 (CallS.recoverV (g := 20) [2, 3] dump_decode_ok (Nat.le_of_ble_eq_true rfl) (by kernel_rfl) (by decide) fun Q hQ => ?_)
  simp -implicitDefEqProofs only [go_sem, rD, xN, initSl]
  refine CallP.at [0] [1, 2] (hf _ _) rfl rfl ?_ ?_
  rotate_left
  · rintro x h' n' _ ⟨e, rfl, rfl, rfl⟩
    refine ⟨_, _, rec_call e _ _ _ _ _ rfl rfl, ?_⟩
    simp -implicitDefEqProofs only [go_sem, rD, xN, capSl, zeroC]
    subst hQ
    exact .is rfl
  rintro r h' n1 _ ⟨p, l1, rfl, rfl, rfl⟩
  have hR1 := byR_len l1
  by_cases c : (l1.length : Int) > 0
  · simp -implicitDefEqProofs only [go_sem, rD, xN, rdH, hR1, c, Fn.row_eq]
    refine CallP.at [] [2, 0] (fail_call rD _ _ 4) rfl rfl (fun _ _ _ _ h => h.elim) ?_
    rintro x h' n' _ ⟨rfl, rfl⟩
    refine ⟨_, _, rec_call 4 _ _ _ _ _ rfl rfl, ?_⟩
    simp -implicitDefEqProofs only [go_sem, rD, xN, capSl, zeroC]
    subst hQ
    have hne : l1 ≠ [] := fun h => by subst h; exact absurd c (by decide)
    refine .is ?_
    rw [show decV (.ok (p, l1)) = .tup [zeroF, .int .i64 4] from if_neg hne]
    rfl
  · simp -implicitDefEqProofs only [go_sem, rD, xN, rdH, hR1, c, Fn.row_eq]
    subst hQ
    obtain rfl : l1 = [] := List.length_eq_zero_iff.1 (by omega)
    refine .is ?_
    have key : ∀ H : Heap, frz 1 H (.tup [.agg p.row, .int .i64 0]) = .tup [.agg p.row, .int .i64 0] := fun H => by simp -implicitDefEqProofs only [go_sem, rD, xN, Fn.row_frz']
    have e : decV (.ok (p, [])) = .tup [.agg p.row, .int .i64 0] := by simp [decV]
    rw [e]
    rw [Fn.row_eq] at key ⊢
    exact key _
/-! How much a function's bytes bound. -/
theorem enc_count (p : Fn) : 81 * p.each.length ≤ (encF p).length := by
  induction p using Fn.ind with
  | h p ih =>
  have key : ∀ l : List Fn, (∀ q ∈ l, 81 * q.each.length ≤ (encF q).length) → 81 * (Fn.eachs l).length ≤ (encL l).length := by
    intro l
    induction l with
    | nil => intro _; simp [Fn.eachs]
    | cons q r ihr =>
      intro h
      have h1 := h q List.mem_cons_self
      have h2 := ihr fun x hx => h x (List.mem_cons_of_mem _ hx)
      rw [Fn.eachs, encL, List.length_append, List.length_append]
      omega
  have := key p.protos ih
  have hsl : ∀ t : List UInt8, (strL t).length = 8 + t.length := fun t => by unfold strL; rw [List.length_append, numL_len, List.length_map]
  rw [Fn.each_eq, encF_eq]
  simp only [List.length_cons, List.length_append, numL_len, hsl, List.length_nil]
  omega
theorem enc_each (p : Fn) : ∀ q ∈ p.each, (encF q).length ≤ (encF p).length := by
  induction p using Fn.ind with
  | h p ih =>
  intro q hq
  rw [Fn.each_eq] at hq
  rcases List.mem_cons.1 hq with rfl | hq
  · exact Nat.le_refl _
  · obtain ⟨r, hr, hq⟩ := Fn.mem_eachs.1 hq
    have h1 := ih r hr q hq
    have h2 : (encF r).length ≤ (encL p.protos).length := by
      rw [encL_flat]
      obtain ⟨s, t, e⟩ := List.append_of_mem hr
      rw [e]
      simp only [List.flatMap_append, List.flatMap_cons, List.length_append]
      omega
    rw [encF_eq p]
    simp only [List.length_append]
    omega
theorem bd_enc {p : Fn} (h : (encF p).length ≤ 10000000000) : p.bd := by
  intro q hq
  have h1 := enc_each p q hq
  rw [encF_eq q, encL_flat] at h1
  simp only [List.length_append] at h1
  have hcC := flat_count (f := fun i => numsL (insZs i)) (fun i => by rw [nums_len]; show 1 ≤ 8 * 5; decide) q.code
  have hcL := flat_count (f := numL) (fun z => by rw [numL_len]; decide) q.lines
  have hcK := flat_count (f := valL) (fun v => by unfold valL; simp) q.consts
  have hcP := flat_count (f := encF) (fun q => by rw [encF_eq]; simp only [List.length_append, numL_len]; omega) q.protos
  have hcU := flat_count (f := upL) (fun u => by unfold upL; simp only [List.length_append, List.length_singleton]; omega) q.ups
  have hcV := flat_count (f := vrL) (fun v => by unfold vrL; simp only [List.length_append, nums_len]; show 1 ≤ _ + 8 * 4; omega) q.vars
  rw [show numsL q.lines = q.lines.flatMap numL from rfl] at h1
  exact ⟨by omega, by omega, by omega, by omega, by omega, by omega⟩
theorem manyP_all {α : Type} {f : List Int → Rd α} {C : α → Prop} (hf : ∀ l x r, f l = .ok (x, r) → C x) : ∀ (n : Nat) (l r : List Int) (xs : List α), manyP f n l = .ok (xs, r) → ∀ x ∈ xs, C x
  | 0, l, r, xs, h => by
    injection h with h
    injection h with e1 e2
    subst e1
    intro x hx
    cases hx
  | n + 1, l, r, xs, h => by
    obtain ⟨x, l1, h1, h2⟩ := Rd.bind_inv h
    obtain ⟨ys, l2, h3, h4⟩ := Rd.bind_inv h2
    injection h4 with h4
    injection h4 with e1 e2
    subst e1
    intro y hy
    rcases List.mem_cons.1 hy with rfl | hy
    · exact hf _ _ _ h1
    · exact manyP_all hf n _ _ _ h3 y hy
theorem depths_le {d : Nat} : ∀ {l : List Fn}, (∀ q ∈ l, q.depth ≤ d) → Fn.depths l ≤ d
  | [], _ => Nat.zero_le _
  | p :: r, h => by
    rw [Fn.depths]
    exact Nat.max_le.2 ⟨h p List.mem_cons_self, depths_le fun q hq => h q (List.mem_cons_of_mem _ hq)⟩
theorem funP_depth : ∀ (d : Nat) (l r : List Int) (p : Fn), funP d l = .ok (p, r) → p.depth ≤ d
  | 0, l, r, p, h => by cases h
  | d + 1, l, r, p, h => by
    rw [funP_eq] at h
    obtain ⟨name, l1, _, h⟩ := Rd.bind_inv h
    obtain ⟨line, l2, _, h⟩ := Rd.bind_inv h
    obtain ⟨params, l3, _, h⟩ := Rd.bind_inv h
    obtain ⟨vararg, l4, _, h⟩ := Rd.bind_inv h
    obtain ⟨regs, l5, _, h⟩ := Rd.bind_inv h
    obtain ⟨code, l6, _, h⟩ := Rd.bind_inv h
    obtain ⟨lines, l7, _, h⟩ := Rd.bind_inv h
    obtain ⟨consts, l8, _, h⟩ := Rd.bind_inv h
    obtain ⟨protos, l9, h9, h⟩ := Rd.bind_inv h
    obtain ⟨ups, l10, _, h⟩ := Rd.bind_inv h
    obtain ⟨vars, l11, _, h⟩ := Rd.bind_inv h
    injection h with h
    injection h with e1 e2
    subst e1
    obtain ⟨n, l12, _, h10⟩ := Rd.bind_inv h9
    rw [Fn.depth_eq]
    exact Nat.succ_le_succ (depths_le (manyP_all (fun l x r hx => funP_depth d l r x hx) _ _ _ _ h10))
/-! An error is one. -/
abbrev nz {α : Type} (x : Rd α) : Prop := ∀ e, x = .error e → e ≠ 0
theorem nz_bind {α β : Type} {x : Rd α} {f : α → List Int → Rd β} (h1 : nz x) (h2 : ∀ a l, nz (f a l)) : nz (x.bind f) := by
  intro e h
  cases x with
  | ok y => exact h2 _ _ e h
  | error z =>
    injection (show (Except.error z : Rd β) = .error e from h) with h
    exact h1 e (by rw [h])
theorem nz_ok {α : Type} (r : α × List Int) : nz (.ok r : Rd α) := fun e h => by cases h
theorem nz_err {α : Type} {e : Int} (h : e ≠ 0) : nz (.error e : Rd α) := fun e' h' => by cases h'; exact h
theorem takeP_nz (n : Nat) (l : List Int) : nz (takeP n l) := by
  unfold takeP
  split
  · exact nz_ok _
  · exact nz_err (by decide)
theorem numP_nz (l : List Int) : nz (numP l) := nz_bind (takeP_nz _ _) fun _ _ => nz_ok _
theorem truthP_nz (l : List Int) : nz (truthP l) := nz_bind (takeP_nz _ _) fun _ _ => by
  split
  · exact nz_err (by decide)
  · exact nz_ok _
theorem lenP_nz (l : List Int) : nz (lenP l) := nz_bind (numP_nz _) fun _ _ => by
  split
  · exact nz_err (by decide)
  split
  · exact nz_err (by decide)
  · exact nz_ok _
theorem strP_nz (l : List Int) : nz (strP l) := nz_bind (lenP_nz _) fun _ _ => nz_bind (takeP_nz _ _) fun _ _ => nz_ok _
theorem valP_nz (l : List Int) : nz (valP l) := nz_bind (takeP_nz _ _) fun _ _ => by
  split
  · exact nz_ok _
  split
  · exact nz_bind (truthP_nz _) fun _ _ => nz_ok _
  split
  · exact nz_bind (numP_nz _) fun _ _ => nz_bind (numP_nz _) fun _ _ => nz_ok _
  split
  · exact nz_bind (strP_nz _) fun _ _ => nz_ok _
  · exact nz_err (by decide)
theorem manyP_nz {α : Type} {f : List Int → Rd α} (hf : ∀ l, nz (f l)) : ∀ (n : Nat) (l : List Int), nz (manyP f n l)
  | 0, _ => nz_ok _
  | n + 1, l => nz_bind (hf l) fun _ l => nz_bind (manyP_nz hf n l) fun _ _ => nz_ok _
theorem listP_nz {α : Type} {f : List Int → Rd α} (hf : ∀ l, nz (f l)) (l : List Int) : nz (listP f l) := nz_bind (lenP_nz l) fun n l => manyP_nz hf n l
theorem insP_nz (l : List Int) : nz (insP l) := nz_bind (numP_nz _) fun _ _ => nz_bind (numP_nz _) fun _ _ => nz_bind (numP_nz _) fun _ _ => nz_bind (numP_nz _) fun _ _ => nz_bind (numP_nz _) fun _ _ => nz_ok _
theorem upP_nz (l : List Int) : nz (upP l) := nz_bind (strP_nz _) fun _ _ => nz_bind (truthP_nz _) fun _ _ => nz_bind (numP_nz _) fun _ _ => nz_ok _
theorem vrP_nz (l : List Int) : nz (vrP l) := nz_bind (strP_nz _) fun _ _ => nz_bind (numP_nz _) fun _ _ => nz_bind (numP_nz _) fun _ _ => nz_bind (numP_nz _) fun _ _ => nz_bind (numP_nz _) fun _ _ => nz_ok _
theorem funP_nz : ∀ (d : Nat) (l : List Int), nz (funP d l)
  | 0, _ => nz_err (by decide)
  | d + 1, l => nz_bind (strP_nz _) fun _ _ => nz_bind (numP_nz _) fun _ _ => nz_bind (numP_nz _) fun _ _ => nz_bind (truthP_nz _) fun _ _ => nz_bind (numP_nz _) fun _ _ =>
    nz_bind (listP_nz insP_nz _) fun _ _ => nz_bind (listP_nz numP_nz _) fun _ _ => nz_bind (listP_nz valP_nz _) fun _ _ => nz_bind (listP_nz (funP_nz d) _) fun _ _ => nz_bind (listP_nz upP_nz _) fun _ _ => nz_bind (listP_nz vrP_nz _) fun _ _ => nz_ok _

/-- What Get answers. -/
def getR (L : List Int) (a b c d : Int) : Except Int Fn :=
  if V4 a b c d ≠ sumZ L then .error 20 else if txtB (L.take 5) ≠ [83, 67, 82, 66, 1] then .error 4 else match funP 64 (L.drop 5) with
  | .error e => .error e
  | .ok (p, r) => if r ≠ [] then .error 4 else if chkE p = 0 then .ok p else .error (chkE p)
def getV : Except Int Fn → V
  | .ok p => .tup [.agg p.row, .int .i64 0]
  | .error e => .tup [zeroF, .int .i64 e]
theorem get_short (M : List Int) (h : M.length < 9) : Pure Tryd.prog 6 [.isl (byR M)] (.tup [zeroF, .int .i64 5]) := by
  have hR := byR_len M
  generalize byR M = BR at *
  generalize M.length = L at *
  refine Pure.of 0 (CallS.enterK dump_Get_ok (Nat.le_of_ble_eq_true rfl) fun Q hQ => Run.go 100 ?_)
  have c5 : ((L : Int) - 4 < 5) = True := eq_true (by omega)
  simp -implicitDefEqProofs only [go_sem, initSl, hR, c5]
  subst hQ
  exact ⟨by omega, .is rfl⟩
theorem get_call (M : List Int) (a b c d : Int) (h5 : 5 ≤ M.length) (hg : good M) : Pure Tryd.prog 6 [.isl (byR (M ++ [a, b, c, d]))] (getV (getR M a b c d)) := by
  have hl := hg.2
  by_cases hne : V4 a b c d = sumZ M
  rotate_left
  · unfold getR
    rw [if_pos hne]
    exact get_sum M a b c d h5 hl hne
  have hG : getR M a b c d = if txtB (M.take 5) ≠ [83, 67, 82, 66, 1] then .error 4 else match funP 64 (M.drop 5) with
    | .error e => .error e
    | .ok (p, r) => if r ≠ [] then .error 4 else if chkE p = 0 then .ok p else .error (chkE p) := by
    unfold getR
    rw [if_neg (fun h => h hne)]
  generalize getR M a b c d = G at *
  have hgd : good (M.drop 5) := ⟨fun z hz => hg.1 z (List.mem_of_mem_drop hz), by rw [List.length_drop]; omega⟩
  have hdec := decode_call (M.drop 5) hgd
  have hbd : ∀ p, funP 64 (M.drop 5) = .ok (p, []) → p.bd ∧ p.depth ≤ 1000000 := fun p hp => by
    have h1 := funP_inv _ _ _ _ hgd.1 hp
    have h2 := congrArg List.length h1
    rw [List.append_nil] at h2
    exact ⟨bd_enc (by have := hgd.2; omega), Nat.le_trans (funP_depth _ _ _ _ hp) (by decide)⟩
  have hnz := funP_nz 64 (M.drop 5)
  have hs := sum_pure M (by have : 10000000000 ≤ reachBytes := by decide
                            omega)
  have hR : (byR (M ++ [a, b, c, d])).length = M.length + 4 := by rw [byR_len]; simp
  have hS := byR_sz (M ++ [a, b, c, d])
  have ha : (byR (M ++ [a, b, c, d]))[M.length]? = some [.int .u8 a] := by simp [byR]
  have hb : (byR (M ++ [a, b, c, d]))[M.length + 1]? = some [.int .u8 b] := by simp [byR]
  have hc : (byR (M ++ [a, b, c, d]))[M.length + 2]? = some [.int .u8 c] := by simp [byR]
  have hd : (byR (M ++ [a, b, c, d]))[M.length + 3]? = some [.int .u8 d] := by simp [byR]
  have ht : (byR (M ++ [a, b, c, d])).take M.length = byR M := by simp [byR]
  have ht5 : (byR (M ++ [a, b, c, d])).take 5 = byR (M.take 5) := by
    unfold byR
    rw [← List.map_take, List.take_append_of_le_length h5]
  have hd5 : ((byR (M ++ [a, b, c, d])).drop 5).take (M.length - 5) = byR (M.drop 5) := by
    unfold byR
    rw [← List.map_drop, List.drop_append_of_le_length h5, ← List.map_take, List.take_left' (by rw [List.length_drop])]
  have hbs := byteV_byR (M.take 5)
  generalize byR (M ++ [a, b, c, d]) = BR at *
  generalize byR (M.take 5) = B5 at *
  generalize txtB (M.take 5) = T5 at *
  have hDs := byR_sub (M.drop 5)
  generalize byR (M.drop 5) = DR at *
  generalize funP 64 (M.drop 5) = FP at *
  generalize hLd : M.length = L at *
  refine Pure.of 0 (CallS.enterK dump_Get_ok (Nat.le_of_ble_eq_true rfl) fun Q hQ => Run.go 100 ?_)
  have e0 : (L : Int) + 4 - 4 = (L : Int) := by omega
  have e1 : ((L + 4 : Nat) : Int) = (L : Int) + 4 := by omega
  have c5 : ((L : Int) < 5) = False := eq_false (by omega)
  have t1 : ((L : Int) + 1).toNat = L + 1 := by omega
  have t2 : ((L : Int) + 2).toNat = L + 2 := by omega
  have t3 : ((L : Int) + 3).toNat = L + 3 := by omega
  have q0 : ((0 : Int) ≤ (L : Int)) = True := eq_true (by omega)
  have q1 : ((L : Int) < (L : Int) + 4) = True := eq_true (by omega)
  have u0 : (L < L + 4) = True := eq_true (by omega)
  have u1 : (L + 1 < L + 4) = True := eq_true (by omega)
  have u2 : (L + 2 < L + 4) = True := eq_true (by omega)
  have u3 : (L + 3 < L + 4) = True := eq_true (by omega)
  have v1 : ((L : Int) + 1 < (L : Int) + 4) = True := eq_true (by omega)
  have v2 : ((L : Int) + 2 < (L : Int) + 4) = True := eq_true (by omega)
  have v3 : ((L : Int) + 3 < (L : Int) + 4) = True := eq_true (by omega)
  have p1 : ((0 : Int) ≤ (L : Int) + 1) = True := eq_true (by omega)
  have p2 : ((0 : Int) ≤ (L : Int) + 2) = True := eq_true (by omega)
  have p3 : ((0 : Int) ≤ (L : Int) + 3) = True := eq_true (by omega)
  simp -implicitDefEqProofs only [go_sem, initSl, hR, hS, e0, e1, c5, t1, t2, t3, q0, q1, u0, u1, u2, u3, v1, v2, v3, p1, p2, p3, ha, hb, hc, hd, Option.some.injEq, forall_eq', Int.toNat_natCast]
  have hsub : ((L : Int) - 0).toNat = L := by omega
  have hsub5 : ((L : Int) - 5).toNat = L - 5 := by omega
  rw [hsub, ht]
  refine ⟨by omega, by omega, by omega, by omega, by omega, CallS.pureF hs (by simp -implicitDefEqProofs only [go_sem, byR_sub]) ?_⟩
  have hne' := eq_true hne
  unfold V4 at hne'
  by_cases h83 : T5 = [83, 67, 82, 66, 1]
  rotate_left
  · rw [if_pos h83] at hG
    subst hG
    simp -implicitDefEqProofs only [go_sem, hne', hR, hS, e1, ht5, hbs, h83]
    subst hQ
    exact ⟨by omega, .is rfl⟩
  rw [if_neg (fun h => h h83)] at hG
  simp -implicitDefEqProofs only [go_sem, hne', hR, hS, e1, ht5, hbs, h83, hsub5, hd5]
  refine ⟨by omega, by omega, by omega, CallS.pureF hdec (by simp -implicitDefEqProofs only [go_sem, hDs]) ?_⟩
  cases FP with
  | error e =>
    have he := hnz e rfl
    subst hG
    simp -implicitDefEqProofs only [go_sem, decV, zeroF, he]
    subst hQ
    exact .is rfl
  | ok y =>
    obtain ⟨p, r⟩ := y
    by_cases hr : r = []
    rotate_left
    · simp only at hG
      rw [if_pos hr] at hG
      subst hG
      simp -implicitDefEqProofs only [go_sem, decV, zeroF, hr]
      subst hQ
      exact .is rfl
    subst hr
    obtain ⟨hb1, hb2⟩ := hbd p rfl
    have hck := pcheck_pure p hb1 hb2
    have hps := Fn.row_sub lost p
    obtain ⟨g1, g2⟩ := fn_row11 p
    simp only [ne_eq, not_true_eq_false, if_false] at hG
    by_cases c0 : chkE p = 0
    · rw [if_pos c0] at hG
      subst hG
      simp -implicitDefEqProofs only [go_sem, decV, g1, g2]
      refine CallS.pureF hck (by simp -implicitDefEqProofs only [go_sem, hps]) ?_
      simp -implicitDefEqProofs only [go_sem, c0, g1, g2]
      subst hQ
      exact .is (by simp -implicitDefEqProofs only [go_sem, getV, Fn.row_frz'])
    · rw [if_neg c0] at hG
      subst hG
      simp -implicitDefEqProofs only [go_sem, decV, g1, g2]
      refine CallS.pureF hck (by simp -implicitDefEqProofs only [go_sem, hps]) ?_
      simp -implicitDefEqProofs only [go_sem, c0, g1, g2]
      subst hQ
      exact .is rfl
theorem le4_of {a b c d s : Int} (ha : isB a) (hb : isB b) (hc : isB c) (hd : isB d) (h : V4 a b c d = s) : [a, b, c, d] = le4 s := by
  rw [V4_eq ha hb hc hd] at h
  unfold isB at ha hb hc hd
  obtain ⟨a', b', c', d', e, h1, h2, h3, h4, h5⟩ := le4_eq (s := s) (by omega)
  rw [e]
  obtain rfl : a = a' := by omega
  obtain rfl : b = b' := by omega
  obtain rfl : c = c' := by omega
  obtain rfl : d = d' := by omega
  rfl
theorem split4 {M : List Int} (hg : good M) (h : 9 ≤ M.length) : ∃ L a b c d, M = L ++ [a, b, c, d] ∧ 5 ≤ L.length ∧ good L ∧ allB [a, b, c, d] := by
  have h4 : (M.drop (M.length - 4)).length = 4 := by rw [List.length_drop]; omega
  obtain ⟨a, b, c, d, e⟩ : ∃ a b c d, M.drop (M.length - 4) = [a, b, c, d] := by
    match M.drop (M.length - 4), h4 with
    | [a, b, c, d], _ => exact ⟨a, b, c, d, rfl⟩
  refine ⟨M.take (M.length - 4), a, b, c, d, by rw [← e, List.take_append_drop], by rw [List.length_take]; omega, ⟨fun z hz => hg.1 z (List.mem_of_mem_take hz), by rw [List.length_take]; have := hg.2; omega⟩, fun z hz => hg.1 z (List.mem_of_mem_drop (e ▸ hz))⟩
theorem getR_nz {L : List Int} {a b c d e : Int} (h : getR L a b c d = .error e) : e ≠ 0 := by
  unfold getR at h
  split at h
  · injection h with h; omega
  split at h
  · injection h with h; omega
  cases hF : funP 64 (L.drop 5) with
  | error z =>
    rw [hF] at h
    have h : (Except.error z : Except Int Fn) = .error e := h
    injection h with h
    exact h ▸ funP_nz _ _ _ hF
  | ok y =>
    rw [hF] at h
    simp only at h
    split at h
    · injection h with h; omega
    split at h
    · cases h
    · rename_i hc
      injection h with h
      exact h ▸ hc
theorem getR_ok {L : List Int} {a b c d : Int} {p : Fn} (hg : good L) (hB : allB [a, b, c, d]) (h : getR L a b c d = .ok p) : L ++ [a, b, c, d] = fileZ p ∧ chkE p = 0 ∧ p.bd ∧ p.depth ≤ 1000000 ∧ (encF p).length ≤ 10000000000 := by
  unfold getR at h
  split at h
  · cases h
  rename_i hs
  have hs := Classical.not_not.1 hs
  split at h
  · cases h
  rename_i h5
  have h5 := Classical.not_not.1 h5
  have hgd : good (L.drop 5) := ⟨fun z hz => hg.1 z (List.mem_of_mem_drop hz), by rw [List.length_drop]; have := hg.2; omega⟩
  cases hF : funP 64 (L.drop 5) with
  | error z =>
    rw [hF] at h
    have h : (Except.error z : Except Int Fn) = .ok p := h
    cases h
  | ok y =>
    rw [hF] at h
    simp only at h
    split at h
    · cases h
    rename_i hr
    have hr := Classical.not_not.1 hr
    split at h
    rotate_left
    · cases h
    rename_i hc
    injection h with h
    obtain ⟨q, r⟩ := y
    have hr : r = [] := hr
    have h : q = p := h
    have hc : chkE q = 0 := hc
    subst hr; subst h
    have e := funP_inv _ _ _ _ hgd.1 hF
    rw [List.append_nil] at e
    have e5 : L.take 5 = [83, 67, 82, 66, 1] := by
      have := txtB_inv (b := L.take 5) fun z hz => hg.1 z (List.mem_of_mem_take hz)
      rw [h5] at this
      exact this.symm
    have hL : L = bodyZ q := by
      unfold bodyZ
      rw [← e5, ← e, List.take_append_drop]
    have hlen := congrArg List.length e
    have := hgd.2
    show L ++ [a, b, c, d] = fileZ q ∧ chkE q = 0 ∧ q.bd ∧ q.depth ≤ 1000000 ∧ (encF q).length ≤ 10000000000
    refine ⟨?_, hc, bd_enc (by omega), Nat.le_trans (funP_depth _ _ _ _ hF) (by decide), by omega⟩
    unfold fileZ
    rw [← hL, le4_of (hB a (by simp)) (hB b (by simp)) (hB c (by simp)) (hB d (by simp)) hs]
theorem bytes_of {zs : List Int} (wz : ∀ z ∈ zs, (Lit.int .u8 z).wf = true) : allB zs := fun z hz => by
  have h : IntKind.u8.min ≤ z ∧ z ≤ IntKind.u8.max := by simpa [Lit.wf] using wz z hz
  rw [show IntKind.u8.min = 0 from rfl, show IntKind.u8.max = 255 from rfl] at h
  exact ⟨h.1, by omega⟩
theorem sealed_call (l : List Int) (hl : l.length ≤ 1000000000) : Pure Tryd.prog 5 [.isl (byR l)] (.isl (byR (l ++ le4 (sumZ l)))) := by
  have hs := rsum_pure l (by have : 1000000000 ≤ reachBytes := by decide
                             omega)
  rw [show (l.map fun z => [V.int .u8 z]) = byR l from rfl] at hs
  have hR := byR_len l
  have hS := byR_sz l
  have hU := byR_sub l
  have hF := fun h => byR_frz l 0 h
  have hT := byR_take l
  have hW : byR (l ++ le4 (sumZ l)) = byR l ++ [[.int .u8 (IntKind.u8.wrap (sumZ l))], [.int .u8 (IntKind.u8.wrap (shZ false .u32 (sumZ l) 8))], [.int .u8 (IntKind.u8.wrap (shZ false .u32 (sumZ l) 16))], [.int .u8 (IntKind.u8.wrap (shZ false .u32 (sumZ l) 24))]] := by
    rw [byR_app]
    rfl
  rw [hW]
  generalize byR l = BR at *
  generalize sumZ l = z at *
  generalize l.length = m at *
  have f1 : (m ≤ m) = True := eq_true (Nat.le_refl _)
  refine Pure.of 1 (CallS.enterK scriptinglaw40_sealed_ok (Nat.le_of_ble_eq_true rfl) fun Q hQ => Run.go 100 ?_)
  simp -implicitDefEqProofs only [go_sem, initSl]
  refine CallS.pureF hs (by simp -implicitDefEqProofs only [go_sem, hU]) ?_
  simp -implicitDefEqProofs only [go_sem, hR, hS, hT, f1]
  subst hQ
  refine ⟨by omega, by omega, .is ?_⟩
  have f2 : (m + 4 ≤ m + 4) = True := eq_true (Nat.le_refl _)
  have hT2 : ∀ a b c d : List V, (BR ++ [a, b, c, d]).take (m + 4) = BR ++ [a, b, c, d] := fun a b c d => List.take_of_length_le (by simp [hR])
  simp -implicitDefEqProofs only [go_sem, hR, hT2, hF, List.drop_zero, f2, List.map_append]
theorem dumpReads_args (zs : List Int) (lz : zs.length ≤ reachBytes) (wz : ∀ z ∈ zs, (Lit.int .u8 z).wf = true) (sb : Bool) : Pure Tryd.prog 3 [.isl (zs.map fun z => [.int .u8 z]), .bool sb] (.bool true) := by
  have aw := awake_pure
  have hB0 : allB zs := bytes_of wz
  rw [show (zs.map fun z => [V.int .u8 z]) = byR zs from rfl]
  have hR := byR_len zs
  refine Pure.of 0 (CallS.enter scriptinglaw40_DumpReads_ok (Nat.le_of_ble_eq_true rfl) (Run.go 100 ?_))
  by_cases c : (100000 : Int) < zs.length
  · simp -implicitDefEqProofs only [go_sem, initSl, hR, c]
    refine CallS.pureF aw rfl ?_
    simp -implicitDefEqProofs only [go_sem]
  have hg : good zs := ⟨hB0, by omega⟩
  have hgs : good (zs ++ le4 (sumZ zs)) := ⟨hB0.app le4_B, by simp [le4]; omega⟩
  have hse := sealed_call zs (by omega)
  cases sb

  · simp -implicitDefEqProofs only [go_sem, initSl, hR, c]
    rcases Nat.lt_or_ge (zs).length 9 with h9 | h9
    · refine CallS.pureF (get_short _ h9) (by simp -implicitDefEqProofs only [go_sem, byR_sub]) ?_
      simp -implicitDefEqProofs only [go_sem, zeroF]
      refine CallS.pureF aw rfl ?_
      simp -implicitDefEqProofs only [go_sem]
    obtain ⟨L, a, b, cc, d, eM, h5, hgL, hB⟩ := split4 hg h9
    have hbM := byteV_byR (zs)
    have hMs := byR_sub (zs)
    rw [eM] at hbM hMs ⊢
    refine CallS.pureF (get_call L a b cc d h5 hgL) (by simp -implicitDefEqProofs only [go_sem, hMs]) ?_
    cases hG : getR L a b cc d with
    | error e =>
      have he := getR_nz hG
      simp -implicitDefEqProofs only [go_sem, getV, zeroF, he]
      refine CallS.pureF aw rfl ?_
      simp -implicitDefEqProofs only [go_sem]
    | ok p =>
      obtain ⟨e1, e2, e3, e4, e5⟩ := getR_ok hgL hB hG
      have hput := put_call p e3 e4 e5
      have hck := pcheck_pure p e3 e4
      unfold putV at hput
      rw [if_pos e2, ← e1] at hput
      rw [e2] at hck
      have hps := Fn.row_sub lost p
      obtain ⟨g1, g2⟩ := fn_row11 p
      simp -implicitDefEqProofs only [go_sem, getV, g1, g2]
      refine CallS.pureF hput (by simp -implicitDefEqProofs only [go_sem, hps]) ?_
      simp -implicitDefEqProofs only [go_sem, g1, g2]
      refine CallS.pureF hck (by simp -implicitDefEqProofs only [go_sem, hps]) ?_
      generalize byR (L ++ [a, b, cc, d]) = BM at *
      simp -implicitDefEqProofs only [go_sem, hbM]
      refine CallS.pureF aw rfl ?_
      simp -implicitDefEqProofs only [go_sem]

  · simp -implicitDefEqProofs only [go_sem, initSl, hR, c]
    refine CallS.pureF hse (by simp -implicitDefEqProofs only [go_sem, byR_sub]) ?_
    simp -implicitDefEqProofs only [go_sem]
    rcases Nat.lt_or_ge (zs ++ le4 (sumZ zs)).length 9 with h9 | h9
    · refine CallS.pureF (get_short _ h9) (by simp -implicitDefEqProofs only [go_sem, byR_sub]) ?_
      simp -implicitDefEqProofs only [go_sem, zeroF]
      refine CallS.pureF aw rfl ?_
      simp -implicitDefEqProofs only [go_sem]
    obtain ⟨L, a, b, cc, d, eM, h5, hgL, hB⟩ := split4 hgs h9
    have hbM := byteV_byR (zs ++ le4 (sumZ zs))
    have hMs := byR_sub (zs ++ le4 (sumZ zs))
    rw [eM] at hbM hMs ⊢
    refine CallS.pureF (get_call L a b cc d h5 hgL) (by simp -implicitDefEqProofs only [go_sem, hMs]) ?_
    cases hG : getR L a b cc d with
    | error e =>
      have he := getR_nz hG
      simp -implicitDefEqProofs only [go_sem, getV, zeroF, he]
      refine CallS.pureF aw rfl ?_
      simp -implicitDefEqProofs only [go_sem]
    | ok p =>
      obtain ⟨e1, e2, e3, e4, e5⟩ := getR_ok hgL hB hG
      have hput := put_call p e3 e4 e5
      have hck := pcheck_pure p e3 e4
      unfold putV at hput
      rw [if_pos e2, ← e1] at hput
      rw [e2] at hck
      have hps := Fn.row_sub lost p
      obtain ⟨g1, g2⟩ := fn_row11 p
      simp -implicitDefEqProofs only [go_sem, getV, g1, g2]
      refine CallS.pureF hput (by simp -implicitDefEqProofs only [go_sem, hps]) ?_
      simp -implicitDefEqProofs only [go_sem, g1, g2]
      refine CallS.pureF hck (by simp -implicitDefEqProofs only [go_sem, hps]) ?_
      generalize byR (L ++ [a, b, cc, d]) = BM at *
      simp -implicitDefEqProofs only [go_sem, hbM]
      refine CallS.pureF aw rfl ?_
      simp -implicitDefEqProofs only [go_sem]
end Go.Proofs.YtmpkdkadnhindaaDoor
