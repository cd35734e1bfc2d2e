/-
  What the reference's writers of numbers, truths, texts and values return. No condition.
-/
import Derived.Test.YtabdlpfhfmeppaaGreatDoorDmCP
set_option linter.unusedVariables false
set_option linter.unusedSimpArgs false
set_option maxRecDepth 100000
set_option maxHeartbeats 0
namespace Go.Proofs.YtabdlpfhfmeppaaGreatDoor
open Go.Abs
attribute [local irreducible] CallS Run
abbrev rW : Nat := (18 * 10000 + 16)
abbrev rI : Nat := (33 * 10000 + 18)
abbrev rS : Nat := (32 * 10000 + 9)
abbrev rT : Nat := (34 * 10000 + 4)
abbrev rT' : Nat := (34 * 10000 + 5)
-- EV: rW, rI, rS, rT, rT'
def bk1 (B s : Nat) (l : List Int) : Heap := [(B, s, .rows 1 (byR l))]
def Gives (B : Nat) (l : List Int) : Res := fun r h' _ => ∃ s' L, L = l ∧ r = .sl B s' 0 L.length ∧ h' = bk1 B s' L
theorem word_call (z : Int) (k : Nat) (hk : k ≤ 8) (n : Nat) : CallS Tryz.prog 18 [.int .u64 (IntKind.u64.wrap z), .int .i64 k] [] n (Gives rW (numN z k)) := by
  refine CallS.enterK scriptingref40_word_ok (Nat.le_of_ble_eq_true rfl) fun Q hQ => Run.go 100 ?_
  simp -implicitDefEqProofs only [go_sem, rW, rI, rS, rT, rT', initSl]
  refine Run.roundsK (fun (x : Nat × Nat × Nat) => ⟨[(6, .int .i64 x.1), (5, .sl rW x.2.1 0 x.1), (1, .int .i64 k), (0, .int .u64 (uN z x.1))], bk1 rW x.2.1 (numN z x.1), x.2.2⟩) (fun x => x.1 ≤ k) (fun x => k - x.1) (0, n, n + 1) ?_ (Nat.zero_le _) ?_
  · exact .trans (.fresh rW 1 _ _ _) (.turn id ⟨.refl _, .nils, .refl _, .refl _, trivial⟩ (.at 0 rfl rfl (.refl _) trivial))
  rintro ⟨j, s1, m⟩ hj ih
  dsimp only at hj ih ⊢
  refine Run.unf scriptingref40_word_l0_eq (Run.go 100 ?_)
  by_cases c : (j : Int) < k
  · have hR := byR_len (numN z j)
    have hS := byR_sz (numN z j)
    have hT := byR_take (numN z j)
    rw [numN_len] at hR hT
    have fin := fun s' s2 m2 => ih s' (j + 1, s2, m2) (by dsimp only; omega) (by dsimp only; omega)
    dsimp only at fin
    unfold bk1 at fin
    rw [numN, byR_snoc] at fin
    unfold bk1
    generalize byR (numN z j) = BR at *
    have f1 : (j ≤ j) = True := eq_true (Nat.le_refl _)
    simp -implicitDefEqProofs only [go_sem, rW, rI, rS, rT, rT', c, hR, hS, hT, f1]
    exact ⟨by omega, by omega, fin _ m (m + 1) (.turn id ⟨.refl _, .refl _, .refl _, .refl _, trivial⟩ (.of fun e he => ⟨e, he, rfl, rfl, .refl _⟩))⟩
  · obtain rfl : j = k := by omega
    simp -implicitDefEqProofs only [go_sem, rW, rI, rS, rT, rT', c]
    subst hQ
    exact .is ⟨s1, _, rfl, by rw [numN_len], rfl⟩
theorem ints_call (l : List Int) (hl : l.length ≤ 1000000000) (n : Nat) : CallS Tryz.prog 33 [.isl (l.map lrow)] [] n (Gives rI (numsL l)) := by
  have hlL : (l.map lrow).length = l.length := List.length_map ..
  have hzL : rowsz (l.map lrow) 1 = True := eq_true (fun r hr => by obtain ⟨y, _, rfl⟩ := List.mem_map.1 hr; rfl)
  have hrL : ∀ (k : Nat) z, l[k]? = some z → (l.map lrow)[k]? = some [.int .i64 z] := fun k z h => by rw [List.getElem?_map, h]; rfl
  generalize l.map lrow = LR at *
  refine CallS.enterK scriptingref40_integers_ok (Nat.le_of_ble_eq_true rfl) fun Q hQ => Run.go 100 ?_
  simp -implicitDefEqProofs only [go_sem, rW, rI, rS, rT, rT', initSl]
  refine Run.roundsK (fun (x : Nat × Nat × Nat) => ⟨[(4, .int .i64 x.1), (3, .sl rI x.2.1 0 (8 * x.1)), (0, .isl LR)], bk1 rI x.2.1 (numsL (l.take x.1)), x.2.2⟩) (fun x => x.1 ≤ l.length) (fun x => l.length - x.1) (0, n, n + 1) ?_ (Nat.zero_le _) ?_
  · exact .trans (.fresh rI 1 _ _ _) (.turn id ⟨.refl _, .nils, .refl _, trivial⟩ (.at 0 rfl rfl (.refl _) trivial))
  rintro ⟨j, s1, m⟩ hj ih
  dsimp only at hj ih ⊢
  refine Run.unf scriptingref40_integers_l0_eq (Run.go 100 ?_)
  by_cases c : (j : Int) < l.length
  · obtain ⟨z, hz⟩ : ∃ z, l[j]? = some z := ⟨l[j]'(by omega), by simp⟩
    have hzr := hrL j z hz
    have hR := byR_len (numsL (l.take j))
    have hS := byR_sz (numsL (l.take j))
    have hT := byR_take (numsL (l.take j))
    have hlen : (numsL (l.take j)).length = 8 * j := by rw [nums_len, List.length_take]; omega
    rw [hlen] at hR hT
    have fin := fun s' s2 m2 => ih s' (j + 1, s2, m2) (by dsimp only; omega) (by dsimp only; omega)
    dsimp only at fin
    unfold bk1 at fin
    rw [show numsL (l.take (j + 1)) = numsL (l.take j) ++ numL z from flat_next hz, byR_app] at fin
    unfold bk1
    generalize byR (numsL (l.take j)) = BR at *
    have j0 : ((0 : Int) ≤ (j : Int)) = True := eq_true (by omega)
    have j1 : (j < l.length) = True := eq_true (by omega)
    simp -implicitDefEqProofs only [go_sem, rW, rI, rS, rT, rT', c, j0, j1, hlL, hzL, hzr, Option.some.injEq, forall_eq']
    refine CallS.at [] [0] (word_call z 8 (by decide) m) rfl rfl ?_
    rintro r h' n1 hn1 ⟨s2, L, e1, rfl, rfl⟩
    have hL8 : L.length = 8 := by rw [e1]; exact numL_len z
    have hR2 := byR_len L
    have hS2 := byR_sz L
    have hT2 := byR_take L
    rw [show numL z = L from e1.symm] at fin
    rw [hL8] at hR2 hT2 ⊢
    unfold bk1
    generalize byR L = WR at *
    have f1 : (8 * j ≤ 8 * j) = True := eq_true (Nat.le_refl _)
    simp -implicitDefEqProofs only [go_sem, rW, rI, rS, rT, rT', bk1, hR, hS, hT, hR2, hS2, hT2, f1]
    exact ⟨by omega, by omega, fin _ n1 (n1 + 1) (.turn id ⟨.refl _, .sl' (by omega), .refl _, trivial⟩ (.at 0 rfl rfl (.refl _) trivial))⟩
  · obtain rfl : j = l.length := by omega
    rw [List.take_length]
    simp -implicitDefEqProofs only [go_sem, rW, rI, rS, rT, rT', c, hlL]
    subst hQ
    exact .is ⟨s1, _, rfl, by rw [nums_len], rfl⟩
theorem rstr_call (t : List UInt8) (hl : t.length ≤ 1000000000) (n : Nat) : CallS Tryz.prog 32 [.str t] [] n (Gives rI (strL t)) := by
  refine CallS.enterK scriptingref40_str_ok (Nat.le_of_ble_eq_true rfl) fun Q hQ => Run.go 100 ?_
  simp -implicitDefEqProofs only [go_sem, rW, rI, rS, rT, rT', initSl]
  refine CallS.at [] [] (ints_call [(t.length : Int)] (by simp) n) rfl rfl ?_
  rintro r h' n1 hn1 ⟨s1, L, e1, rfl, rfl⟩
  have hL8 : L.length = 8 := by rw [e1]; simp [numsL, numL_len]
  have hR := byR_len L
  have hS := byR_sz L
  have hT := byR_take L
  have hst : strRows t = byR (t.map fun u => (u.toNat : Int)) := by simp [strRows, byR]
  have hsl : (strRows t).length = t.length := by rw [hst, byR_len, List.length_map]
  have hsz : rowsz (strRows t) 1 = True := by rw [hst]; exact byR_sz _
  have hX : byR (strL t) = byR L ++ strRows t := by unfold strL; rw [byR_app, hst, e1]; simp [numsL]
  have hXl : (strL t).length = 8 + t.length := by unfold strL; rw [List.length_append, numL_len, List.length_map]
  rw [show strRows t = t.map fun b => [V.int .u8 (b.toNat : Int)] from rfl] at hst hsl hsz hX
  rw [hL8] at hR hT ⊢
  unfold bk1
  generalize byR L = BR at *
  simp -implicitDefEqProofs only [go_sem, rW, rI, rS, rT, rT', hR, hS, hT, hsl, hsz]
  subst hQ
  exact ⟨by omega, .to (h2 := bk1 rI (n1 + 1) (strL t)) (n2 := n1 + 1 + 1) ⟨n1 + 1, _, rfl, rfl, rfl⟩ (.turn id ⟨.sl' hXl.symm, trivial⟩ (by unfold bk1; rw [hX]; exact .at 0 rfl rfl (.refl _) trivial))⟩
theorem rtruth_call (b : Bool) (n : Nat) : CallS Tryz.prog 34 [.bool b] [] n (Gives rT [if b then 1 else 0]) := by
  refine CallS.enterK scriptingref40_truth_ok (Nat.le_of_ble_eq_true rfl) fun Q hQ => Run.go 100 ?_
  cases b
  · simp -implicitDefEqProofs only [go_sem, rW, rI, rS, rT, rT', initSl]
    subst hQ
    exact .to (h2 := bk1 rT n [0]) (n2 := n + 1) ⟨n, _, rfl, rfl, rfl⟩ (.turn (fun b => if b = rT' then rT else b) ⟨.sl, trivial⟩ (.at 0 rfl rfl (.refl _) trivial))
  · simp -implicitDefEqProofs only [go_sem, rW, rI, rS, rT, rT', initSl]
    subst hQ
    exact .is ⟨n, _, rfl, rfl, rfl⟩
def truthOK (v : Kst) : Prop := v.kind = 1 → v.ref = 0 ∨ v.ref = 1
abbrev rV : Nat := (35 * 10000 + 7)
theorem rvalue_call (v : Kst) (hv : truthOK v) (hl : v.kind = 3 → v.str.length ≤ 1000000000) (n : Nat) : CallS Tryz.prog 35 [.agg v.row] [] n (Gives rV (valL v)) := by
  refine CallS.enterK scriptingref40_value_ok (Nat.le_of_ble_eq_true rfl) fun Q hQ => Run.go 100 ?_
  by_cases c1 : v.kind = 1
  · simp -implicitDefEqProofs only [go_sem, rW, rI, rS, rT, rT', initSl, Kst.row, c1, rV]
    refine CallS.at [] [0, 1] (rtruth_call (decide ¬ v.ref = 0) _) rfl rfl ?_
    rintro r h' n1 hn1 ⟨s1, L, e1, rfl, rfl⟩
    have hX : valL v = [IntKind.u8.wrap 1] ++ L := by
      unfold valL
      rw [if_pos c1, c1, e1]
      rcases hv c1 with h | h <;> simp [h]
    have hL : L.length = 1 := by rw [e1]; rfl
    have hR := byR_len L
    have hS := byR_sz L
    have hT := byR_take L
    rw [hL] at hR hT ⊢
    have hb : byR (valL v) = [[V.int .u8 (IntKind.u8.wrap 1)]] ++ byR L := by rw [hX, byR_app]; rfl
    have hbl : (valL v).length = 2 := by rw [hX]; simp [hL]
    generalize valL v = X at *
    unfold bk1
    generalize byR L = BR at *
    simp -implicitDefEqProofs only [go_sem, rW, rI, rS, rT, rT', hR, hS, hT]
    subst hQ
    exact .to (h2 := bk1 rV n1 X) (n2 := n1 + 1) ⟨n1, _, rfl, rfl, rfl⟩ (.turn id ⟨.sl' (by omega), trivial⟩ (by unfold bk1; rw [hb]; exact .at 0 rfl rfl (.refl _) trivial))
  by_cases c2 : v.kind = 2
  · simp -implicitDefEqProofs only [go_sem, rW, rI, rS, rT, rT', initSl, Kst.row, c2, rV]
    refine CallS.at [] [0, 1] (ints_call [v.p, v.q] (by simp) _) rfl rfl ?_
    rintro r h' n1 hn1 ⟨s1, L, e1, rfl, rfl⟩
    have hX : valL v = [IntKind.u8.wrap 2] ++ L := by
      unfold valL
      rw [if_neg c1, if_pos c2, c2, e1]
      simp [numsL]
    have hL : L.length = 16 := by rw [e1, nums_len]; rfl
    have hR := byR_len L
    have hS := byR_sz L
    have hT := byR_take L
    rw [hL] at hR hT ⊢
    have hb : byR (valL v) = [[V.int .u8 (IntKind.u8.wrap 2)]] ++ byR L := by rw [hX, byR_app]; rfl
    have hbl : (valL v).length = 17 := by rw [hX]; simp [hL]
    generalize valL v = X at *
    unfold bk1
    generalize byR L = BR at *
    simp -implicitDefEqProofs only [go_sem, rW, rI, rS, rT, rT', hR, hS, hT]
    subst hQ
    exact .to (h2 := bk1 rV n1 X) (n2 := n1 + 1) ⟨n1, _, rfl, rfl, rfl⟩ (.turn id ⟨.sl' (by omega), trivial⟩ (by unfold bk1; rw [hb]; exact .at 0 rfl rfl (.refl _) trivial))
  by_cases c3 : v.kind = 3
  · simp -implicitDefEqProofs only [go_sem, rW, rI, rS, rT, rT', initSl, Kst.row, c3, rV]
    refine CallS.at [] [0, 1] (rstr_call v.str (hl c3) _) rfl rfl ?_
    rintro r h' n1 hn1 ⟨s1, L, e1, rfl, rfl⟩
    have hX : valL v = [IntKind.u8.wrap 3] ++ L := by
      unfold valL
      rw [if_neg c1, if_neg c2, if_pos c3, c3, e1]
    have hL : L.length = 8 + v.str.length := by rw [e1]; unfold strL; rw [List.length_append, numL_len, List.length_map]
    have hR := byR_len L
    have hS := byR_sz L
    have hT := byR_take L
    have hb : byR (valL v) = [[V.int .u8 (IntKind.u8.wrap 3)]] ++ byR L := by rw [hX, byR_app]; rfl
    have hbl : (valL v).length = L.length + 1 := by rw [hX]; simp
    generalize valL v = X at *
    unfold bk1
    generalize byR L = BR at *
    generalize L.length = m at *
    simp -implicitDefEqProofs only [go_sem, rW, rI, rS, rT, rT', hR, hS, hT]
    subst hQ
    exact ⟨by omega, .to (h2 := bk1 rV n1 X) (n2 := n1 + 1) ⟨n1, _, rfl, rfl, rfl⟩ (.turn id ⟨.sl' (by omega), trivial⟩ (by unfold bk1; rw [hb]; exact .at 0 rfl rfl (.refl _) trivial))⟩
  · have hX : valL v = [IntKind.u8.wrap v.kind] := by unfold valL; rw [if_neg c1, if_neg c2, if_neg c3]; rfl
    rw [hX] at hQ
    simp -implicitDefEqProofs only [go_sem, rW, rI, rS, rT, rT', initSl, Kst.row, c1, c2, c3, rV]
    subst hQ
    exact .to (h2 := bk1 rV (n + 1) [IntKind.u8.wrap v.kind]) (n2 := n + 1 + 1) ⟨n + 1, _, rfl, rfl, rfl⟩ (.turn id ⟨.refl _, trivial⟩ (.at 0 rfl rfl (.refl _) trivial))
-- EV: rI, rT, rV, rW
theorem gives_as (B' : Nat) {P : Program} {f : FuncId} {xs : List V} {h : Heap} {n B : Nat} {l : List Int} (hc : CallS P f xs h n (Gives B l)) : CallS P f xs h n (Gives B' l) :=
  hc.wk fun r h' n' ⟨s', L, e, e1, e2⟩ => ⟨.sl B' s' 0 L.length, bk1 B' s' L, n', by subst e1; subst e2; exact .turn (fun _ => B') ⟨.sl, trivial⟩ (.at 0 rfl rfl (.refl _) trivial), s', L, e, rfl, rfl⟩
theorem leT (m : Nat) : (m ≤ m) = True := eq_true (Nat.le_refl m)
theorem rfunc_call (p : Fn) : (∀ q ∈ p.each, ∀ v ∈ q.consts, truthOK v) → ∀ n : Nat, (encF p).length ≤ 100000000 →
    CallS Tryz.prog 17 [.agg p.row] [] n (Gives rI (encF p)) := by
  induction p using Fn.ind with
  | h p ih =>
  intro hv n hl
  have hvs : ∀ v ∈ p.consts, truthOK v := hv p p.self_mem
  have hvp : ∀ q ∈ p.protos, ∀ q' ∈ q.each, ∀ v ∈ q'.consts, truthOK v := fun q hq q' hq' => hv q' (by
    rw [Fn.each_eq]
    exact List.mem_cons_of_mem _ (Fn.mem_eachs.2 ⟨q, hq, hq'⟩))
  clear hv
  have hsl : ∀ t : List UInt8, (strL t).length = 8 + t.length := fun t => by unfold strL; rw [List.length_append, numL_len, List.length_map]
  have henc := encF_eq p
  rw [encL_flat, show numsL p.lines = p.lines.flatMap numL from rfl] at henc
  have hll := congrArg List.length henc
  simp only [List.length_append, hsl, numL_len, List.length_cons, List.length_nil] at hll
  have hcC := flat_count (f := fun i => numsL (insZs i)) (fun i => by rw [nums_len]; show 1 ≤ 8 * 5; decide) p.code
  have hcL := flat_count (f := numL) (fun z => by rw [numL_len]; decide) p.lines
  have hcK := flat_count (f := valL) (fun v => by unfold valL; simp) p.consts
  have hcP := flat_count (f := encF) (fun q => by rw [encF_eq]; simp only [List.length_append, numL_len]; omega) p.protos
  have hcU := flat_count (f := upL) (fun u => by unfold upL; simp only [List.length_append, List.length_singleton]; omega) p.ups
  have hcV := flat_count (f := vrL) (fun v => by unfold vrL; simp only [List.length_append, hsl]; omega) p.vars
  rw [Fn.row_eq]
  have hlC : (p.code.map Ins.row).length = p.code.length := List.length_map ..
  have hlL : (p.lines.map lrow).length = p.lines.length := List.length_map ..
  have hlK : (p.consts.map Kst.row).length = p.consts.length := List.length_map ..
  have hlP : (p.protos.map Fn.row).length = p.protos.length := List.length_map ..
  have hlU : (p.ups.map Upv.row).length = p.ups.length := List.length_map ..
  have hlV : (p.vars.map Vr.row).length = p.vars.length := List.length_map ..
  have hzC : rowsz (p.code.map Ins.row) 5 = True := eq_true (fun r hr => by obtain ⟨y, _, rfl⟩ := List.mem_map.1 hr; rfl)
  have hzL : rowsz (p.lines.map lrow) 1 = True := eq_true (fun r hr => by obtain ⟨y, _, rfl⟩ := List.mem_map.1 hr; rfl)
  have hzK : rowsz (p.consts.map Kst.row) 5 = True := eq_true (fun r hr => by obtain ⟨y, _, rfl⟩ := List.mem_map.1 hr; rfl)
  have hzP : rowsz (p.protos.map Fn.row) 11 = True := eq_true (fun r hr => by obtain ⟨y, _, rfl⟩ := List.mem_map.1 hr; exact Fn.row_len y)
  have hzU : rowsz (p.ups.map Upv.row) 3 = True := eq_true (fun r hr => by obtain ⟨y, _, rfl⟩ := List.mem_map.1 hr; rfl)
  have hzV : rowsz (p.vars.map Vr.row) 5 = True := eq_true (fun r hr => by obtain ⟨y, _, rfl⟩ := List.mem_map.1 hr; rfl)
  generalize hCR : p.code.map Ins.row = CR at *
  obtain ⟨LR, hLR⟩ : ∃ LR, p.lines.map lrow = LR := ⟨_, rfl⟩
  rw [hLR] at hlL hzL ⊢
  generalize hKR : p.consts.map Kst.row = KR at *
  generalize hPR : p.protos.map Fn.row = PR at *
  generalize hUR : p.ups.map Upv.row = UR at *
  generalize hVR : p.vars.map Vr.row = VR at *
  refine CallS.enterK scriptingref40_function_ok (Nat.le_of_ble_eq_true rfl) fun Q hQ => Run.go 100 ?_
  simp -implicitDefEqProofs only [go_sem, rI, rT, rV, rW, initSl]
  refine CallS.at [] [] (rstr_call p.name (by omega) _) rfl rfl ?_
  rintro r h' n0 hn0 ⟨s0, L0, eL0, rfl, rfl⟩
  have kL0 : L0.length = 8 + p.name.length := by rw [eL0]; exact hsl _
  unfold bk1
  simp -implicitDefEqProofs only [go_sem, rI, rT, rV, rW]
  refine CallS.at [] [0] (gives_as rW (ints_call [p.line, p.params] (by simp) _)) rfl rfl ?_
  rintro r h' n1 hn1 ⟨s1, X1, eX1, rfl, rfl⟩
  have kX1 : X1.length = 16 := by rw [eX1]; simp [nums_len]
  unfold bk1
  simp -implicitDefEqProofs only [go_sem, rI, rT, rV, rW, byR_len, byR_sz, byR_take, leT]
  refine ⟨by omega, ?_⟩
  rw [← byR_app L0 X1, ← @List.length_append _ L0 X1]
  obtain ⟨L1, eL1⟩ : ∃ L', L' = L0 ++ X1 := ⟨_, rfl⟩
  have kL1 : L1.length = L0.length + X1.length := by rw [eL1, List.length_append]
  rw [← eL1]
  refine CallS.at [] [0] (gives_as rW (rtruth_call p.vararg _)) rfl rfl ?_
  rintro r h' n2 hn2 ⟨s2, X2, eX2, rfl, rfl⟩
  have kX2 : X2.length = 1 := by rw [eX2]; rfl
  unfold bk1
  simp -implicitDefEqProofs only [go_sem, rI, rT, rV, rW, byR_len, byR_sz, byR_take, leT, hlC]
  refine ⟨by omega, ?_⟩
  rw [← byR_app L1 X2, ← @List.length_append _ L1 X2]
  obtain ⟨L2, eL2⟩ : ∃ L', L' = L1 ++ X2 := ⟨_, rfl⟩
  have kL2 : L2.length = L1.length + X2.length := by rw [eL2, List.length_append]
  rw [← eL2]
  refine CallS.at [] [0] (gives_as rW (ints_call [p.regs, p.code.length] (by simp) _)) rfl rfl ?_
  rintro r h' n3 hn3 ⟨s3, X3, eX3, rfl, rfl⟩
  have kX3 : X3.length = 16 := by rw [eX3]; simp [nums_len]
  unfold bk1
  simp -implicitDefEqProofs only [go_sem, rI, rT, rV, rW, byR_len, byR_sz, byR_take, leT]
  refine ⟨by omega, ?_⟩
  rw [← byR_app L2 X3, ← @List.length_append _ L2 X3]
  obtain ⟨L3, eL3⟩ : ∃ L', L' = L2 ++ X3 := ⟨_, rfl⟩
  have kL3 : L3.length = L2.length + X3.length := by rw [eL3, List.length_append]
  rw [← eL3]
  refine Run.roundsK (fun (x : Nat × Nat × Nat) => ⟨[(4, .int .i64 x.1), (3, .sl rI x.2.1 0 (L3 ++ (p.code.take x.1).flatMap (fun i => numsL (insZs i))).length), (1, .iptr [[.str p.name, .int .i64 p.line, .int .i64 p.params, .bool p.vararg, .int .i64 p.regs, .isl CR, .isl LR, .isl KR, .isl PR, .isl UR, .isl VR]] 0 0)], [(rI, x.2.1, .rows 1 (byR (L3 ++ (p.code.take x.1).flatMap (fun i => numsL (insZs i)))))], x.2.2⟩) (fun x => x.1 ≤ p.code.length) (fun x => p.code.length - x.1) (0, n3, (n3 + 1)) ?_ (Nat.zero_le _) ?_
  · simp only [List.take_zero, List.flatMap_nil, List.append_nil]
    exact .turn id ⟨.refl _, .refl _, .refl _, trivial⟩ (.at 0 rfl rfl (.refl _) trivial)
  rintro ⟨k, t1, m1⟩ hk lp
  dsimp only at hk lp ⊢
  have hfl := flat_le (f := (fun i => numsL (insZs i))) p.code k
  obtain ⟨M1, eM1⟩ : ∃ L', L' = L3 ++ (p.code.take k).flatMap (fun i => numsL (insZs i)) := ⟨_, rfl⟩
  have kM1 := congrArg List.length eM1
  rw [List.length_append] at kM1
  rw [← eM1]
  by_cases c : (k : Int) < p.code.length
  · refine Run.unf scriptingref40_function_l0_eq (Run.go 100 ?_)
    obtain ⟨i, hi⟩ : ∃ i, p.code[k]? = some i := ⟨p.code[k]'(by omega), by simp⟩
    have hir : CR[k]? = some [.int .i64 i.op, .int .i64 i.a, .int .i64 i.b, .int .i64 i.c, .int .i64 i.d] := by rw [← hCR, List.getElem?_map, hi]; rfl
    have hnx := flat_next (f := (fun i => numsL (insZs i))) hi
    have hfl2 := flat_le (f := (fun i => numsL (insZs i))) p.code (k + 1)
    rw [hnx, List.length_append] at hfl2
    have k0 : ((0 : Int) ≤ (k : Int)) = True := eq_true (by omega)
    have k1' : (k < p.code.length) = True := eq_true (by omega)
    have fin := fun s' s2 m2 => lp s' (k + 1, s2, m2) (by dsimp only; omega) (by dsimp only; omega)
    dsimp only at fin
    rw [hnx, ← List.append_assoc, ← eM1] at fin
    simp -implicitDefEqProofs only [go_sem, rI, rT, rV, rW, c, k0, k1', hlC, hzC, hir, Option.some.injEq, forall_eq']
    refine CallS.at [] [1] (gives_as rW (ints_call (insZs i) (Nat.le_of_ble_eq_true rfl) _)) rfl rfl ?_
    rintro r h' nz hnz ⟨sz, X, eX, rfl, rfl⟩
    rw [show numsL (insZs i) = X from eX.symm] at fin hfl2
    rw [byR_app, List.length_append] at fin
    unfold bk1
    simp -implicitDefEqProofs only [go_sem, rI, rT, rV, rW, byR_len, byR_sz, byR_take, leT]
    exact ⟨by omega, by omega, fin _ nz (nz + 1) (.turn id ⟨.refl _, .refl _, .refl _, trivial⟩ (.at 0 rfl rfl (.refl _) trivial))⟩
  · obtain rfl : k = p.code.length := by omega
    rw [List.take_length] at eM1 hfl kM1
    clear lp
    refine Run.unf scriptingref40_function_l0_eq (Run.go 100 ?_)
    simp -implicitDefEqProofs only [go_sem, rI, rT, rV, rW, c, hlC, hlL]
    refine CallS.at [] [0] (gives_as rW (ints_call [(p.lines.length : Int)] (by simp) _)) rfl rfl ?_
    rintro r h' n4 hn4 ⟨s4, X4, eX4, rfl, rfl⟩
    have kX4 : X4.length = 8 := by rw [eX4]; simp [nums_len]
    unfold bk1
    simp -implicitDefEqProofs only [go_sem, rI, rT, rV, rW, byR_len, byR_sz, byR_take, leT, hlL]
    refine ⟨by omega, ?_⟩
    rw [← byR_app M1 X4, ← @List.length_append _ M1 X4]
    obtain ⟨L4, eL4⟩ : ∃ L', L' = M1 ++ X4 := ⟨_, rfl⟩
    have kL4 : L4.length = M1.length + X4.length := by rw [eL4, List.length_append]
    rw [← eL4]
    rw [← hLR]
    refine CallS.at [] [0] (gives_as rW (ints_call p.lines (by omega) _)) rfl rfl ?_
    rintro r h' n5 hn5 ⟨s5, X5, eX5, rfl, rfl⟩
    have kX5 : X5.length = 8 * p.lines.length := by rw [eX5]; rw [nums_len]
    unfold bk1
    simp -implicitDefEqProofs only [go_sem, rI, rT, rV, rW, byR_len, byR_sz, byR_take, leT, hlK]
    refine ⟨by omega, ?_⟩
    rw [← byR_app L4 X5, ← @List.length_append _ L4 X5]
    obtain ⟨L5, eL5⟩ : ∃ L', L' = L4 ++ X5 := ⟨_, rfl⟩
    have kL5 : L5.length = L4.length + X5.length := by rw [eL5, List.length_append]
    rw [← eL5]
    rw [hLR]
    refine CallS.at [] [0] (gives_as rW (ints_call [(p.consts.length : Int)] (by simp) _)) rfl rfl ?_
    rintro r h' n6 hn6 ⟨s6, X6, eX6, rfl, rfl⟩
    have kX6 : X6.length = 8 := by rw [eX6]; simp [nums_len]
    unfold bk1
    simp -implicitDefEqProofs only [go_sem, rI, rT, rV, rW, byR_len, byR_sz, byR_take, leT]
    refine ⟨by omega, ?_⟩
    rw [← byR_app L5 X6, ← @List.length_append _ L5 X6]
    obtain ⟨L6, eL6⟩ : ∃ L', L' = L5 ++ X6 := ⟨_, rfl⟩
    have kL6 : L6.length = L5.length + X6.length := by rw [eL6, List.length_append]
    rw [← eL6]
    refine Run.roundsK (fun (x : Nat × Nat × Nat) => ⟨[(6, .int .i64 x.1), (3, .sl rI x.2.1 0 (L6 ++ (p.consts.take x.1).flatMap valL).length), (1, .iptr [[.str p.name, .int .i64 p.line, .int .i64 p.params, .bool p.vararg, .int .i64 p.regs, .isl CR, .isl LR, .isl KR, .isl PR, .isl UR, .isl VR]] 0 0)], [(rI, x.2.1, .rows 1 (byR (L6 ++ (p.consts.take x.1).flatMap valL)))], x.2.2⟩) (fun x => x.1 ≤ p.consts.length) (fun x => p.consts.length - x.1) (0, n6, (n6 + 1)) ?_ (Nat.zero_le _) ?_
    · simp only [List.take_zero, List.flatMap_nil, List.append_nil]
      exact .turn id ⟨.refl _, .refl _, .refl _, trivial⟩ (.at 0 rfl rfl (.refl _) trivial)
    rintro ⟨k, t2, m2⟩ hk lp
    dsimp only at hk lp ⊢
    have hfl := flat_le (f := valL) p.consts k
    obtain ⟨M2, eM2⟩ : ∃ L', L' = L6 ++ (p.consts.take k).flatMap valL := ⟨_, rfl⟩
    have kM2 := congrArg List.length eM2
    rw [List.length_append] at kM2
    rw [← eM2]
    by_cases c : (k : Int) < p.consts.length
    · refine Run.unf scriptingref40_function_l1_eq (Run.go 100 ?_)
      obtain ⟨i, hi⟩ : ∃ i, p.consts[k]? = some i := ⟨p.consts[k]'(by omega), by simp⟩
      have hir : KR[k]? = some [.int .i64 i.kind, .int .i64 i.p, .int .i64 i.q, .str i.str, .int .i64 i.ref] := by rw [← hKR, List.getElem?_map, hi]; rfl
      have hnx := flat_next (f := valL) hi
      have hfl2 := flat_le (f := valL) p.consts (k + 1)
      rw [hnx, List.length_append] at hfl2
      have k0 : ((0 : Int) ≤ (k : Int)) = True := eq_true (by omega)
      have k1' : (k < p.consts.length) = True := eq_true (by omega)
      have fin := fun s' s2 m2 => lp s' (k + 1, s2, m2) (by dsimp only; omega) (by dsimp only; omega)
      dsimp only at fin
      rw [hnx, ← List.append_assoc, ← eM2] at fin
      have hsv := hvs i (List.mem_of_getElem? hi)
      have hvl : i.kind = 3 → i.str.length ≤ 1000000000 := fun c3 => by have := val_str i c3; omega
      simp -implicitDefEqProofs only [go_sem, rI, rT, rV, rW, c, k0, k1', hlK, hzK, hir, Option.some.injEq, forall_eq']
      refine CallS.at [] [0] (gives_as rW (rvalue_call i hsv hvl _)) rfl rfl ?_
      rintro r h' nz hnz ⟨sz, X, eX, rfl, rfl⟩
      rw [show valL i = X from eX.symm] at fin hfl2
      rw [byR_app, List.length_append] at fin
      unfold bk1
      simp -implicitDefEqProofs only [go_sem, rI, rT, rV, rW, byR_len, byR_sz, byR_take, leT]
      exact ⟨by omega, by omega, fin _ nz (nz + 1) (.turn id ⟨.refl _, .refl _, .refl _, trivial⟩ (.at 0 rfl rfl (.refl _) trivial))⟩
    · obtain rfl : k = p.consts.length := by omega
      rw [List.take_length] at eM2 hfl kM2
      clear lp
      refine Run.unf scriptingref40_function_l1_eq (Run.go 100 ?_)
      simp -implicitDefEqProofs only [go_sem, rI, rT, rV, rW, c, hlK, hlP]
      refine CallS.at [] [0] (gives_as rW (ints_call [(p.protos.length : Int)] (by simp) _)) rfl rfl ?_
      rintro r h' n7 hn7 ⟨s7, X7, eX7, rfl, rfl⟩
      have kX7 : X7.length = 8 := by rw [eX7]; simp [nums_len]
      unfold bk1
      simp -implicitDefEqProofs only [go_sem, rI, rT, rV, rW, byR_len, byR_sz, byR_take, leT]
      refine ⟨by omega, ?_⟩
      rw [← byR_app M2 X7, ← @List.length_append _ M2 X7]
      obtain ⟨L7, eL7⟩ : ∃ L', L' = M2 ++ X7 := ⟨_, rfl⟩
      have kL7 : L7.length = M2.length + X7.length := by rw [eL7, List.length_append]
      rw [← eL7]
      refine Run.roundsK (fun (x : Nat × Nat × Nat) => ⟨[(7, .int .i64 x.1), (3, .sl rI x.2.1 0 (L7 ++ (p.protos.take x.1).flatMap encF).length), (1, .iptr [[.str p.name, .int .i64 p.line, .int .i64 p.params, .bool p.vararg, .int .i64 p.regs, .isl CR, .isl LR, .isl KR, .isl PR, .isl UR, .isl VR]] 0 0)], [(rI, x.2.1, .rows 1 (byR (L7 ++ (p.protos.take x.1).flatMap encF)))], x.2.2⟩) (fun x => x.1 ≤ p.protos.length) (fun x => p.protos.length - x.1) (0, n7, (n7 + 1)) ?_ (Nat.zero_le _) ?_
      · simp only [List.take_zero, List.flatMap_nil, List.append_nil]
        exact .turn id ⟨.refl _, .refl _, .refl _, trivial⟩ (.at 0 rfl rfl (.refl _) trivial)
      rintro ⟨k, t3, m3⟩ hk lp
      dsimp only at hk lp ⊢
      have hfl := flat_le (f := encF) p.protos k
      obtain ⟨M3, eM3⟩ : ∃ L', L' = L7 ++ (p.protos.take k).flatMap encF := ⟨_, rfl⟩
      have kM3 := congrArg List.length eM3
      rw [List.length_append] at kM3
      rw [← eM3]
      by_cases c : (k : Int) < p.protos.length
      · refine Run.unf scriptingref40_function_l2_eq (Run.go 100 ?_)
        obtain ⟨i, hi⟩ : ∃ i, p.protos[k]? = some i := ⟨p.protos[k]'(by omega), by simp⟩
        have hir : PR[k]? = some i.row := by rw [← hPR, List.getElem?_map, hi]; rfl
        have hnx := flat_next (f := encF) hi
        have hfl2 := flat_le (f := encF) p.protos (k + 1)
        rw [hnx, List.length_append] at hfl2
        have k0 : ((0 : Int) ≤ (k : Int)) = True := eq_true (by omega)
        have k1' : (k < p.protos.length) = True := eq_true (by omega)
        have fin := fun s' s2 m2 => lp s' (k + 1, s2, m2) (by dsimp only; omega) (by dsimp only; omega)
        dsimp only at fin
        rw [hnx, ← List.append_assoc, ← eM3] at fin
        obtain ⟨o1, o2⟩ := fn_row11 i
        simp -implicitDefEqProofs only [go_sem, rI, rT, rV, rW, c, k0, k1', hlP, hzP, hir, o1, o2, Option.some.injEq, forall_eq']
        refine CallS.at [] [0] (gives_as rW (ih i (List.mem_of_getElem? hi) (hvp i (List.mem_of_getElem? hi)) _ (by omega))) rfl rfl ?_
        rintro r h' nz hnz ⟨sz, X, eX, rfl, rfl⟩
        rw [show encF i = X from eX.symm] at fin hfl2
        rw [byR_app, List.length_append] at fin
        unfold bk1
        simp -implicitDefEqProofs only [go_sem, rI, rT, rV, rW, byR_len, byR_sz, byR_take, leT]
        exact ⟨by omega, by omega, fin _ nz (nz + 1) (.turn id ⟨.refl _, .refl _, .refl _, trivial⟩ (.at 0 rfl rfl (.refl _) trivial))⟩
      · obtain rfl : k = p.protos.length := by omega
        rw [List.take_length] at eM3 hfl kM3
        clear lp
        refine Run.unf scriptingref40_function_l2_eq (Run.go 100 ?_)
        simp -implicitDefEqProofs only [go_sem, rI, rT, rV, rW, c, hlP, hlU]
        refine CallS.at [] [0] (gives_as rW (ints_call [(p.ups.length : Int)] (by simp) _)) rfl rfl ?_
        rintro r h' n8 hn8 ⟨s8, X8, eX8, rfl, rfl⟩
        have kX8 : X8.length = 8 := by rw [eX8]; simp [nums_len]
        unfold bk1
        simp -implicitDefEqProofs only [go_sem, rI, rT, rV, rW, byR_len, byR_sz, byR_take, leT]
        refine ⟨by omega, ?_⟩
        rw [← byR_app M3 X8, ← @List.length_append _ M3 X8]
        obtain ⟨L8, eL8⟩ : ∃ L', L' = M3 ++ X8 := ⟨_, rfl⟩
        have kL8 : L8.length = M3.length + X8.length := by rw [eL8, List.length_append]
        rw [← eL8]
        refine Run.roundsK (fun (x : Nat × Nat × Nat) => ⟨[(8, .int .i64 x.1), (3, .sl rI x.2.1 0 (L8 ++ (p.ups.take x.1).flatMap upL).length), (1, .iptr [[.str p.name, .int .i64 p.line, .int .i64 p.params, .bool p.vararg, .int .i64 p.regs, .isl CR, .isl LR, .isl KR, .isl PR, .isl UR, .isl VR]] 0 0)], [(rI, x.2.1, .rows 1 (byR (L8 ++ (p.ups.take x.1).flatMap upL)))], x.2.2⟩) (fun x => x.1 ≤ p.ups.length) (fun x => p.ups.length - x.1) (0, n8, (n8 + 1)) ?_ (Nat.zero_le _) ?_
        · simp only [List.take_zero, List.flatMap_nil, List.append_nil]
          exact .turn id ⟨.refl _, .refl _, .refl _, trivial⟩ (.at 0 rfl rfl (.refl _) trivial)
        rintro ⟨k, t4, m4⟩ hk lp
        dsimp only at hk lp ⊢
        have hfl := flat_le (f := upL) p.ups k
        obtain ⟨M4, eM4⟩ : ∃ L', L' = L8 ++ (p.ups.take k).flatMap upL := ⟨_, rfl⟩
        have kM4 := congrArg List.length eM4
        rw [List.length_append] at kM4
        rw [← eM4]
        by_cases c : (k : Int) < p.ups.length
        · refine Run.unf scriptingref40_function_l3_eq (Run.go 9 ?_)
          obtain ⟨i, hi⟩ : ∃ i, p.ups[k]? = some i := ⟨p.ups[k]'(by omega), by simp⟩
          have hir : UR[k]? = some [.str i.name, .bool i.loc, .int .i64 i.idx] := by rw [← hUR, List.getElem?_map, hi]; rfl
          have hnx := flat_next (f := upL) hi
          have hfl2 := flat_le (f := upL) p.ups (k + 1)
          rw [hnx, List.length_append] at hfl2
          have k0 : ((0 : Int) ≤ (k : Int)) = True := eq_true (by omega)
          have k1' : (k < p.ups.length) = True := eq_true (by omega)
          have fin := fun s' s2 m2 => lp s' (k + 1, s2, m2) (by dsimp only; omega) (by dsimp only; omega)
          dsimp only at fin
          rw [hnx, ← List.append_assoc, ← eM4] at fin
          have hup : (upL i).length = 8 + i.name.length + 1 + 8 := by unfold upL; simp only [List.length_append, hsl, numL_len, List.length_singleton]
          simp -implicitDefEqProofs only [go_sem, rI, rT, rV, rW, c, k0, k1', hlU, hzU, hir, Option.some.injEq, forall_eq']
          refine Run.wk (.ice (b := (17 * 10000 + 9)) (st := m4) (sz := 3) (rs := [[.str i.name, .bool i.loc, .int .i64 i.idx]]) (sl' := [(9, .iptr [[.str i.name, .bool i.loc, .int .i64 i.idx]] 0 0), (8, .int .i64 k), (3, .sl rI t4 0 M4.length), (1, .iptr [[.str p.name, .int .i64 p.line, .int .i64 p.params, .bool p.vararg, .int .i64 p.regs, .isl CR, .isl LR, .isl KR, .isl PR, .isl UR, .isl VR]] 0 0)]) (h' := [(rI, t4, .rows 1 (byR M4))]) List.mem_cons_self (fun q hq => by
            simp only [List.mem_cons, List.not_mem_nil, or_false] at hq
            rcases hq with rfl | rfl | rfl | rfl
            · exact .inr ⟨0, 0, rfl, rfl⟩
            · exact .inl rfl
            · exact .inl rfl
            · exact .inl rfl) (fun e he => by
            obtain rfl := List.mem_singleton.1 he
            exact ⟨List.mem_cons_of_mem _ (List.mem_singleton.2 rfl), show rI ≠ (17 * 10000 + 9) from by decide⟩)) (Run.go 100 ?_)
          simp -implicitDefEqProofs only [go_sem, rI, rT, rV, rW]
          refine CallS.at [] [0] (gives_as rW (rstr_call i.name (by omega) _)) rfl rfl ?_
          rintro r h' na hna ⟨sa, Xa, eXa, rfl, rfl⟩
          have kXa : Xa.length = 8 + i.name.length := by rw [eXa]; exact hsl _
          unfold bk1
          simp -implicitDefEqProofs only [go_sem, rI, rT, rV, rW, byR_len, byR_sz, byR_take, leT]
          refine ⟨by omega, ?_⟩
          rw [← byR_app M4 Xa, ← @List.length_append _ M4 Xa]
          obtain ⟨La, eLa⟩ : ∃ L', L' = M4 ++ Xa := ⟨_, rfl⟩
          have kLa : La.length = M4.length + Xa.length := by rw [eLa, List.length_append]
          rw [← eLa]
          refine CallS.at [] [0] (gives_as rW (rtruth_call i.loc _)) rfl rfl ?_
          rintro r h' nb hnb ⟨sb, Xb, eXb, rfl, rfl⟩
          have kXb : Xb.length = 1 := by rw [eXb]; rfl
          unfold bk1
          simp -implicitDefEqProofs only [go_sem, rI, rT, rV, rW, byR_len, byR_sz, byR_take, leT]
          refine ⟨by omega, ?_⟩
          rw [← byR_app La Xb, ← @List.length_append _ La Xb]
          obtain ⟨Lb, eLb⟩ : ∃ L', L' = La ++ Xb := ⟨_, rfl⟩
          have kLb : Lb.length = La.length + Xb.length := by rw [eLb, List.length_append]
          rw [← eLb]
          refine CallS.at [] [0] (gives_as rW (ints_call [i.idx] (by simp) _)) rfl rfl ?_
          rintro r h' nc hnc ⟨sc, Xc, eXc, rfl, rfl⟩
          have kXc : Xc.length = 8 := by rw [eXc]; simp [nums_len]
          unfold bk1
          simp -implicitDefEqProofs only [go_sem, rI, rT, rV, rW, byR_len, byR_sz, byR_take, leT]
          have hul : M4 ++ upL i = Lb ++ Xc := by rw [eLb, eLa, eXa, eXb, eXc]; simp [upL, numsL]
          rw [hul, byR_app, List.length_append] at fin
          exact ⟨by omega, by omega, fin _ nc (nc + 1) (.turn id ⟨.refl _, .refl _, .refl _, trivial⟩ (.at 0 rfl rfl (.refl _) trivial))⟩
        · obtain rfl : k = p.ups.length := by omega
          rw [List.take_length] at eM4 hfl kM4
          clear lp
          refine Run.unf scriptingref40_function_l3_eq (Run.go 100 ?_)
          simp -implicitDefEqProofs only [go_sem, rI, rT, rV, rW, c, hlU, hlV]
          refine CallS.at [] [0] (gives_as rW (ints_call [(p.vars.length : Int)] (by simp) _)) rfl rfl ?_
          rintro r h' n9 hn9 ⟨s9, X9, eX9, rfl, rfl⟩
          have kX9 : X9.length = 8 := by rw [eX9]; simp [nums_len]
          unfold bk1
          simp -implicitDefEqProofs only [go_sem, rI, rT, rV, rW, byR_len, byR_sz, byR_take, leT]
          refine ⟨by omega, ?_⟩
          rw [← byR_app M4 X9, ← @List.length_append _ M4 X9]
          obtain ⟨L9, eL9⟩ : ∃ L', L' = M4 ++ X9 := ⟨_, rfl⟩
          have kL9 : L9.length = M4.length + X9.length := by rw [eL9, List.length_append]
          rw [← eL9]
          refine Run.roundsK (fun (x : Nat × Nat × Nat) => ⟨[(10, .int .i64 x.1), (3, .sl rI x.2.1 0 (L9 ++ (p.vars.take x.1).flatMap vrL).length), (1, .iptr [[.str p.name, .int .i64 p.line, .int .i64 p.params, .bool p.vararg, .int .i64 p.regs, .isl CR, .isl LR, .isl KR, .isl PR, .isl UR, .isl VR]] 0 0)], [(rI, x.2.1, .rows 1 (byR (L9 ++ (p.vars.take x.1).flatMap vrL)))], x.2.2⟩) (fun x => x.1 ≤ p.vars.length) (fun x => p.vars.length - x.1) (0, n9, (n9 + 1)) ?_ (Nat.zero_le _) ?_
          · simp only [List.take_zero, List.flatMap_nil, List.append_nil]
            exact .turn id ⟨.refl _, .refl _, .refl _, trivial⟩ (.at 0 rfl rfl (.refl _) trivial)
          rintro ⟨k, t5, m5⟩ hk lp
          dsimp only at hk lp ⊢
          have hfl := flat_le (f := vrL) p.vars k
          obtain ⟨M5, eM5⟩ : ∃ L', L' = L9 ++ (p.vars.take k).flatMap vrL := ⟨_, rfl⟩
          have kM5 := congrArg List.length eM5
          rw [List.length_append] at kM5
          rw [← eM5]
          by_cases c : (k : Int) < p.vars.length
          · refine Run.unf scriptingref40_function_l4_eq (Run.go 9 ?_)
            obtain ⟨i, hi⟩ : ∃ i, p.vars[k]? = some i := ⟨p.vars[k]'(by omega), by simp⟩
            have hir : VR[k]? = some [.str i.name, .int .i64 i.reg, .int .i64 i.lo, .int .i64 i.hi, .int .i64 i.attr] := by rw [← hVR, List.getElem?_map, hi]; rfl
            have hnx := flat_next (f := vrL) hi
            have hfl2 := flat_le (f := vrL) p.vars (k + 1)
            rw [hnx, List.length_append] at hfl2
            have k0 : ((0 : Int) ≤ (k : Int)) = True := eq_true (by omega)
            have k1' : (k < p.vars.length) = True := eq_true (by omega)
            have fin := fun s' s2 m2 => lp s' (k + 1, s2, m2) (by dsimp only; omega) (by dsimp only; omega)
            dsimp only at fin
            rw [hnx, ← List.append_assoc, ← eM5] at fin
            have hup : (vrL i).length = 8 + i.name.length + 8 * 4 := by unfold vrL; rw [List.length_append, hsl, nums_len]; rfl
            simp -implicitDefEqProofs only [go_sem, rI, rT, rV, rW, c, k0, k1', hlV, hzV, hir, Option.some.injEq, forall_eq']
            refine Run.wk (.ice (b := (17 * 10000 + 11)) (st := m5) (sz := 5) (rs := [[.str i.name, .int .i64 i.reg, .int .i64 i.lo, .int .i64 i.hi, .int .i64 i.attr]]) (sl' := [(11, .iptr [[.str i.name, .int .i64 i.reg, .int .i64 i.lo, .int .i64 i.hi, .int .i64 i.attr]] 0 0), (10, .int .i64 k), (3, .sl rI t5 0 M5.length), (1, .iptr [[.str p.name, .int .i64 p.line, .int .i64 p.params, .bool p.vararg, .int .i64 p.regs, .isl CR, .isl LR, .isl KR, .isl PR, .isl UR, .isl VR]] 0 0)]) (h' := [(rI, t5, .rows 1 (byR M5))]) List.mem_cons_self (fun q hq => by
              simp only [List.mem_cons, List.not_mem_nil, or_false] at hq
              rcases hq with rfl | rfl | rfl | rfl
              · exact .inr ⟨0, 0, rfl, rfl⟩
              · exact .inl rfl
              · exact .inl rfl
              · exact .inl rfl) (fun e he => by
              obtain rfl := List.mem_singleton.1 he
              exact ⟨List.mem_cons_of_mem _ (List.mem_singleton.2 rfl), show rI ≠ (17 * 10000 + 11) from by decide⟩)) (Run.go 100 ?_)
            simp -implicitDefEqProofs only [go_sem, rI, rT, rV, rW]
            refine CallS.at [] [0] (gives_as rW (rstr_call i.name (by omega) _)) rfl rfl ?_
            rintro r h' na hna ⟨sa, Xa, eXa, rfl, rfl⟩
            have kXa : Xa.length = 8 + i.name.length := by rw [eXa]; exact hsl _
            unfold bk1
            simp -implicitDefEqProofs only [go_sem, rI, rT, rV, rW, byR_len, byR_sz, byR_take, leT]
            refine ⟨by omega, ?_⟩
            rw [← byR_app M5 Xa, ← @List.length_append _ M5 Xa]
            obtain ⟨La, eLa⟩ : ∃ L', L' = M5 ++ Xa := ⟨_, rfl⟩
            have kLa : La.length = M5.length + Xa.length := by rw [eLa, List.length_append]
            rw [← eLa]
            refine CallS.at [] [0] (gives_as rW (ints_call (vrZs i) (Nat.le_of_ble_eq_true rfl) _)) rfl rfl ?_
            rintro r h' nb hnb ⟨sb, Xb, eXb, rfl, rfl⟩
            have kXb : Xb.length = 32 := by rw [eXb]; rw [nums_len]; rfl
            unfold bk1
            simp -implicitDefEqProofs only [go_sem, rI, rT, rV, rW, byR_len, byR_sz, byR_take, leT]
            have hul : M5 ++ vrL i = La ++ Xb := by rw [eLa, eXa, eXb]; simp [vrL]
            rw [hul, byR_app, List.length_append] at fin
            exact ⟨by omega, by omega, fin _ nb (nb + 1) (.turn id ⟨.refl _, .refl _, .refl _, trivial⟩ (.at 0 rfl rfl (.refl _) trivial))⟩
          · obtain rfl : k = p.vars.length := by omega
            rw [List.take_length] at eM5 hfl kM5
            clear lp
            refine Run.unf scriptingref40_function_l4_eq (Run.go 100 ?_)
            simp -implicitDefEqProofs only [go_sem, rI, rT, rV, rW, c, hlV]
            subst hQ
            have hend : M5 = encF p := by
              rw [henc]
              simp only [eL0, eL1, eX1, eL2, eX2, eL3, eX3, eM1, eL4, eX4, eL5, eX5, eL6, eX6, eM2, eL7, eX7, eM3, eL8, eX8, eM4, eL9, eX9, eM5, numsL, List.flatMap_cons, List.flatMap_nil, List.append_assoc, List.append_nil]
            exact .is ⟨t5, _, hend, rfl, rfl⟩
end Go.Proofs.YtabdlpfhfmeppaaGreatDoor
