/-
  What the writer of numbers, truths, texts and values puts behind its bytes. No condition.
-/
import Derived.Test.YtkjcokmbjdafnaaDoorFn
import Derived.Test.YtkjcokmbjdafnaaDoorCode
set_option linter.unusedVariables false
set_option linter.unusedSimpArgs false
set_option maxRecDepth 100000
set_option maxHeartbeats 0
namespace Go.Proofs.YtkjcokmbjdafnaaDoor
open Go.Abs
attribute [local irreducible] CallS Run
abbrev dW : Nat := (6 * 10000 + 15)
abbrev dB : Nat := (6 * 10000 + 12)
-- EV: dW, dB
def byR (l : List Int) : List (List V) := l.map fun z => [.int .u8 z]
def wrH (W sW B s : Nat) (l : List Int) : Heap := [(W, sW, .rows 1 [[.sl B s 0 l.length]]), (B, s, .rows 1 (byR l))]
theorem byR_len (l : List Int) : (byR l).length = l.length := List.length_map ..
theorem byR_sz (l : List Int) : rowsz (byR l) 1 = True := eq_true (fun r hr => by obtain ⟨y, _, rfl⟩ := List.mem_map.1 hr; rfl)
theorem byR_snoc (l : List Int) (z : Int) : byR (l ++ [z]) = byR l ++ [[.int .u8 z]] := by simp [byR]
theorem byR_take (l : List Int) : (byR l).take l.length = byR l := List.take_of_length_le (by rw [byR_len]; exact Nat.le_refl _)
def uN (z : Int) : Nat → Int
  | 0 => IntKind.u64.wrap z
  | k + 1 => shZ false .u64 (uN z k) 8
def numN (z : Int) : Nat → List Int
  | 0 => []
  | k + 1 => numN z k ++ [IntKind.u8.wrap (uN z k)]
def numL (z : Int) : List Int := numN z 8
theorem numN_len (z : Int) : ∀ k, (numN z k).length = k
  | 0 => rfl
  | k + 1 => by rw [numN, List.length_append, numN_len z k]; rfl
theorem num_call (W sW B s n : Nat) (hWB : W ≠ B) (l : List Int) (hl : l.length ≤ 100000000000000) (z : Int) :
    CallS Tryd.prog 22 [.ptr W sW 0 0, .int .i64 z] (wrH W sW B s l) n fun r h' n' => r = .tup [] ∧ ∃ s', h' = wrH W sW B s' (l ++ numL z) := by
  have q1 : (W = B) = False := eq_false hWB
  have q2 : (B = W) = False := eq_false (Ne.symm hWB)
  refine CallS.enterK dump_writer_num_ok (Nat.le_of_ble_eq_true rfl) fun Q hQ => Run.go 100 ?_
  simp -implicitDefEqProofs only [go_sem, dW, dB, initSl]
  refine Run.roundsK (fun (x : Nat × Nat × Nat) => ⟨[(7, .int .i64 x.1), (4, .int .u64 (uN z x.1)), (0, .ptr W sW 0 0)], wrH W sW B x.2.1 (l ++ numN z x.1), x.2.2⟩) (fun x => x.1 ≤ 8) (fun x => 8 - x.1) (0, s, n) ?_ (Nat.zero_le _) ?_
  · exact .turn id ⟨.refl _, .refl _, .refl _, trivial⟩ (.of fun e he => ⟨e, by simpa [numN] using he, rfl, rfl, .refl _⟩)
  rintro ⟨k, s1, m⟩ hk ih
  dsimp only at hk ih ⊢
  refine Run.unf dump_writer_num_l0_eq (Run.go 100 ?_)
  by_cases c : (k : Int) < 8
  · have hR := byR_len (l ++ numN z k)
    have hS := byR_sz (l ++ numN z k)
    have hT := byR_take (l ++ numN z k)
    have hle : (l ++ numN z k).length ≤ 100000000000010 := by rw [List.length_append, numN_len]; omega
    have fin := fun s' s2 m2 => ih s' (k + 1, s2, m2) (by dsimp only; omega) (by dsimp only; omega)
    dsimp only at fin
    unfold wrH at fin
    rw [numN, ← List.append_assoc, byR_snoc, List.length_append, List.length_singleton] at fin
    unfold wrH
    generalize byR (l ++ numN z k) = BR at *
    generalize (l ++ numN z k).length = L at *
    have f1 : (L ≤ L) = True := eq_true (Nat.le_refl _)
    simp -implicitDefEqProofs only [go_sem, dW, dB, c, q1, q2, hR, hS, hT, f1]
    exact ⟨by omega, ⟨by omega, by omega⟩, fin _ m (m + 1) (.turn id ⟨.refl _, .refl _, .refl _, trivial⟩ (.of fun e he => ⟨e, he, rfl, rfl, .refl _⟩))⟩
  · obtain rfl : k = 8 := by omega
    simp -implicitDefEqProofs only [go_sem, dW, dB, c]
    subst hQ
    exact .is ⟨rfl, s1, rfl⟩
theorem truth_call (W sW B s n : Nat) (hWB : W ≠ B) (l : List Int) (hl : l.length ≤ 100000000000000) (b : Bool) :
    CallS Tryd.prog 23 [.ptr W sW 0 0, .bool b] (wrH W sW B s l) n fun r h' n' => r = .tup [] ∧ ∃ s', h' = wrH W sW B s' (l ++ [if b then 1 else 0]) := by
  have q1 : (W = B) = False := eq_false hWB
  have q2 : (B = W) = False := eq_false (Ne.symm hWB)
  refine CallS.enterK dump_writer_truth_ok (Nat.le_of_ble_eq_true rfl) fun Q hQ => Run.go 100 ?_
  have hR := byR_len l
  have hS := byR_sz l
  have hT := byR_take l
  have f1 : (l.length ≤ l.length) = True := eq_true (Nat.le_refl _)
  have hW : ∀ z, wrH W sW B n (l ++ [z]) = [(W, sW, .rows 1 [[.sl B n 0 (l.length + 1)]]), (B, n, .rows 1 (byR l ++ [[.int .u8 z]]))] := fun z => by unfold wrH; rw [byR_snoc, List.length_append, List.length_singleton]
  unfold wrH
  cases b <;>
  · simp -implicitDefEqProofs only [go_sem, dW, dB, initSl, q1, q2, hR, hS, hT, f1]
    subst hQ
    exact ⟨by omega, .is ⟨rfl, n, (hW _).symm⟩⟩
def strL (s : List UInt8) : List Int := numL s.length ++ s.map fun u => (u.toNat : Int)
theorem byR_app (a b : List Int) : byR (a ++ b) = byR a ++ byR b := by simp [byR]
theorem numL_len (z : Int) : (numL z).length = 8 := numN_len z 8
theorem str_call (W sW B s n : Nat) (hWB : W ≠ B) (l : List Int) (t : List UInt8) (hl : l.length + t.length ≤ 90000000000000) :
    CallS Tryd.prog 21 [.ptr W sW 0 0, .str t] (wrH W sW B s l) n fun r h' n' => r = .tup [] ∧ ∃ s', h' = wrH W sW B s' (l ++ strL t) := by
  have q1 : (W = B) = False := eq_false hWB
  have q2 : (B = W) = False := eq_false (Ne.symm hWB)
  refine CallS.enterK dump_writer_str_ok (Nat.le_of_ble_eq_true rfl) fun Q hQ => Run.go 100 ?_
  simp -implicitDefEqProofs only [go_sem, dW, dB, initSl]
  refine (num_call W sW B s _ hWB l (by omega) t.length).mono ?_
  rintro r h' n1 ⟨rfl, s1, rfl⟩
  have hR := byR_len (l ++ numL t.length)
  have hS := byR_sz (l ++ numL t.length)
  have hT := byR_take (l ++ numL t.length)
  have hle : (l ++ numL t.length).length = l.length + 8 := by rw [List.length_append, numL_len]
  have hst : strRows t = byR (t.map fun u => (u.toNat : Int)) := by simp [strRows, byR]
  have hsl : (strRows t).length = t.length := by rw [hst, byR_len, List.length_map]
  have hsz : rowsz (strRows t) 1 = True := by rw [hst]; exact byR_sz _
  have hW : ∀ s2, wrH W sW B s2 (l ++ strL t) = [(W, sW, .rows 1 [[.sl B s2 0 ((l ++ numL t.length).length + t.length)]]), (B, s2, .rows 1 (byR (l ++ numL t.length) ++ strRows t))] := fun s2 => by
    unfold wrH strL
    rw [← List.append_assoc, byR_app, List.length_append, List.length_map, hst]
  rw [show strRows t = t.map fun b => [V.int .u8 (b.toNat : Int)] from rfl] at hst hsl hsz hW
  unfold wrH
  generalize byR (l ++ numL t.length) = BR at *
  generalize (l ++ numL t.length).length = L at *
  have f1 : (L ≤ L) = True := eq_true (Nat.le_refl _)
  simp -implicitDefEqProofs only [go_sem, dW, dB, q1, q2, hR, hS, hT, f1, hsl, hsz]
  subst hQ
  exact ⟨by omega, .is ⟨rfl, n1, (hW _).symm⟩⟩
def Puts (W sW B : Nat) (l X : List Int) : Res := fun r h' _ => r = .tup [] ∧ ∃ s' L, L = l ++ X ∧ L.length = l.length + X.length ∧ h' = wrH W sW B s' L
theorem puts_of {P : Program} {f : FuncId} {xs : List V} {h : Heap} {n W sW B : Nat} {l X : List Int} (hc : CallS P f xs h n fun r h' n' => r = .tup [] ∧ ∃ s', h' = wrH W sW B s' (l ++ X)) : CallS P f xs h n (Puts W sW B l X) :=
  hc.mono fun r h' n' ⟨h1, s', h2⟩ => ⟨h1, s', _, rfl, List.length_append, h2⟩
def valL (v : Kst) : List Int := [IntKind.u8.wrap v.kind] ++ (if v.kind = 1 then [if v.ref = 1 then 1 else 0] else if v.kind = 2 then numL v.p ++ numL v.q else if v.kind = 3 then strL v.str else [])
theorem value_call (sW s n : Nat) (l : List Int) (v : Kst) (hl : l.length + (valL v).length ≤ 80000000000000) :
    CallS Tryd.prog 24 [.ptr dW sW 0 0, .agg v.row] (wrH dW sW dB s l) n fun r h' n' => r = .tup [] ∧ ∃ s', h' = wrH dW sW dB s' (l ++ valL v) := by
  have hWB : dW ≠ dB := by decide
  have nc := fun s l hl z n => puts_of (num_call dW sW dB s n hWB l hl z)
  have tc := fun s l hl b n => puts_of (truth_call dW sW dB s n hWB l hl b)
  have sc := fun s l t hl n => puts_of (str_call dW sW dB s n hWB l t hl)
  refine CallS.enterK dump_writer_value_ok (Nat.le_of_ble_eq_true rfl) fun Q hQ => Run.go 100 ?_
  have hR := byR_len l
  have hS := byR_sz l
  have hT := byR_take l
  have f1 : (l.length ≤ l.length) = True := eq_true (Nat.le_refl _)
  have hW : ∀ (z : Int) (s2 : Nat), [(dW, sW, .rows 1 [[.sl dB s2 0 (l.length + 1)]]), (dB, s2, Blk.rows 1 (byR l ++ [[V.int .u8 z]]))] = wrH dW sW dB s2 (l ++ [z]) := fun z s2 => by unfold wrH; rw [byR_snoc, List.length_append, List.length_singleton]
  have l1 : ∀ z : Int, (l ++ [z]).length = l.length + 1 := fun z => by simp
  unfold wrH
  by_cases c1 : v.kind = 1
  · have e : l ++ valL v = (l ++ [IntKind.u8.wrap 1]) ++ [if v.ref = 1 then 1 else 0] := by unfold valL; rw [if_pos c1, c1]; simp
    rw [e] at hQ
    simp -implicitDefEqProofs only [go_sem, dW, dB, initSl, Kst.row, hR, hS, hT, f1, c1]
    refine ⟨by omega, CallS.at [0, 1] [2] (tc _ (l ++ [_]) (by rw [l1]; omega) _ _) (hW _ _) rfl ?_⟩
    rintro r h' n1 hn1 ⟨rfl, s1, L1, rfl, k1, rfl⟩
    simp -implicitDefEqProofs only [go_sem, dW, dB]
    subst hQ
    exact .to (h2 := wrH dW sW dB s1 _) (n2 := n1) ⟨rfl, s1, rfl⟩ (.turn id ⟨.refl _, trivial⟩ (.of fun e he => ⟨e, List.mem_append_left _ (by simpa using he), rfl, rfl, .refl _⟩))
  by_cases c2 : v.kind = 2
  · have e : l ++ valL v = ((l ++ [IntKind.u8.wrap 2]) ++ numL v.p) ++ numL v.q := by unfold valL; rw [if_neg c1, if_pos c2, c2]; simp
    rw [e] at hQ
    simp -implicitDefEqProofs only [go_sem, dW, dB, initSl, Kst.row, hR, hS, hT, f1, c2]
    refine ⟨by omega, CallS.at [0, 1] [2] (nc _ (l ++ [_]) (by rw [l1]; omega) _ _) (hW _ _) rfl ?_⟩
    rintro r h' n1 hn1 ⟨rfl, s1, L1, hL1, k1, rfl⟩
    rw [l1, numL_len] at k1
    rw [← hL1] at hQ
    simp -implicitDefEqProofs only [go_sem, dW, dB, wrH]
    refine CallS.at [0, 1] [2] (nc s1 L1 (by omega) _ _) rfl rfl ?_
    rintro r h' n2 hn2 ⟨rfl, s2, L2, hL2, k2, rfl⟩
    rw [← hL2] at hQ
    simp -implicitDefEqProofs only [go_sem, dW, dB]
    subst hQ
    exact .to (h2 := wrH dW sW dB s2 _) (n2 := n2) ⟨rfl, s2, rfl⟩ (.turn id ⟨.refl _, trivial⟩ (.of fun e he => ⟨e, List.mem_append_left _ he, rfl, rfl, .refl _⟩))
  by_cases c3 : v.kind = 3
  · have e : l ++ valL v = (l ++ [IntKind.u8.wrap 3]) ++ strL v.str := by unfold valL; rw [if_neg c1, if_neg c2, if_pos c3, c3]; simp
    rw [e] at hQ
    simp -implicitDefEqProofs only [go_sem, dW, dB, initSl, Kst.row, hR, hS, hT, f1, c3]
    have hvl : (valL v).length = 1 + (8 + v.str.length) := by unfold valL strL; rw [if_neg c1, if_neg c2, if_pos c3]; simp only [List.length_append, List.length_singleton, numL_len, List.length_map]
    refine ⟨by omega, CallS.at [0, 1] [2] (sc _ (l ++ [_]) _ (by rw [l1]; omega) _) (hW _ _) rfl ?_⟩
    rintro r h' n1 hn1 ⟨rfl, s1, L1, hL1, k1, rfl⟩
    rw [← hL1] at hQ
    simp -implicitDefEqProofs only [go_sem, dW, dB]
    subst hQ
    exact .to (h2 := wrH dW sW dB s1 _) (n2 := n1) ⟨rfl, s1, rfl⟩ (.turn id ⟨.refl _, trivial⟩ (.of fun e he => ⟨e, List.mem_append_left _ he, rfl, rfl, .refl _⟩))
  · have e : l ++ valL v = l ++ [IntKind.u8.wrap v.kind] := by unfold valL; rw [if_neg c1, if_neg c2, if_neg c3]; simp
    rw [e] at hQ
    simp -implicitDefEqProofs only [go_sem, dW, dB, initSl, Kst.row, hR, hS, hT, f1, c1, c2, c3]
    subst hQ
    exact ⟨by omega, .to (h2 := wrH dW sW dB (n + 1) _) (n2 := n + 1 + 1) ⟨rfl, n + 1, rfl⟩ (.turn id ⟨.refl _, trivial⟩ (by rw [← hW]; exact .at 0 rfl rfl (.refl _) (.at 1 rfl rfl (.refl _) (.of fun e he => by cases he))))⟩
end Go.Proofs.YtkjcokmbjdafnaaDoor
