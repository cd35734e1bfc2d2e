/-
  What strconv.Atoi, opcode.Text and opcode.Parse answer. No condition.
-/
import Derived.Test.YtembaiapafbfcaaDoorTxt0
import Derived.Test.YtembaiapafbfcaaDoorOp32n
import Derived.Test.YtembaiapafbfcaaDoorOpc3
import Derived.Below
set_option linter.unusedVariables false
set_option linter.unusedSimpArgs false
set_option maxRecDepth 100000
set_option maxHeartbeats 0
namespace Go.Proofs.YtembaiapafbfcaaDoor
open Go Go.Abs
attribute [local irreducible] CallS Run
-- EV: Ins.v, Ins.row, Frm.v, Frm.row

theorem splitL_eq (s : List UInt8) : splitL s = Lib.split s [32] := by
  unfold splitL Lib.split
  have := Lib.splitB_data ⟨#[32]⟩ 0 (Lib.countB ⟨s.toArray⟩ ⟨#[32]⟩) ⟨s.toArray⟩
  simpa using this

/-- What Atoi answers. -/
def atoiV (s : List UInt8) : V := match Lib.atoiAll s with
  | .ok n => .tup [.int .i64 n, .cst .nilIface]
  | .«syntax» => .tup [.int .i64 0, .err]
  | .range => .tup [.int .i64 (Lib.atoiSat s), .err]
theorem atoiE_pure (s : List UInt8) (hs : s.length ≤ 100000) : Abs.Pure Tryd.prog 16 [.str s] (atoiV s) := by
  unfold atoiV
  cases h : Lib.atoiAll s with
  | ok n => exact atoi_pure s hs n h
  | range =>
    intro w O cargs hO hgl hR
    obtain ⟨hl, hR⟩ := hR
    obtain ⟨cs⟩ := cargs
    match cs, hl with
    | [a], _ =>
      have ha : a = .string ⟨s.toArray⟩ := by have := hR 0 _ a rfl rfl; cases this; rfl
      subst ha
      obtain ⟨x, hx, hxr⟩ := glob_get hgl (g := 3) (c := [.err]) (by kernel_rfl) 0 .err rfl
      obtain ⟨t, p, rfl⟩ : ∃ t p, x = .iface t p := by cases hxr; exact ⟨_, _, rfl⟩
      refine (Tryd.strconv_Atoi_range ⟨s.toArray⟩ (by simp [ByteArray.size]; omega) (by simpa using h) (.iface t p) w hx (.inr ⟨t, p, rfl⟩)).mono ?_
      rintro e w' ⟨N, rfl, _, _, hB⟩
      refine ⟨_, rfl, .tup _ _ rfl (fun i c v hc hv => ?_), ⟨hB.size, hB.os, hB.output⟩, fun x hx => hB.block x hx⟩
      match i with
      | 0 => simp at hc hv; subst hc; subst hv; exact .int _ _
      | 1 => simp at hc hv; subst hc; subst hv; exact .err _ _
      | i + 2 => simp at hc

  | _ =>
    intro w O cargs hO hgl hR
    obtain ⟨hl, hR⟩ := hR
    obtain ⟨cs⟩ := cargs
    match cs, hl with
    | [a], _ =>
      have ha : a = .string ⟨s.toArray⟩ := by have := hR 0 _ a rfl rfl; cases this; rfl
      subst ha
      obtain ⟨x, hx, hxr⟩ := glob_get hgl (g := 2) (c := [.err]) (by kernel_rfl) 0 .err rfl
      obtain ⟨t, p, rfl⟩ : ∃ t p, x = .iface t p := by cases hxr; exact ⟨_, _, rfl⟩
      refine (Tryd.strconv_Atoi_syntax ⟨s.toArray⟩ (by simp [ByteArray.size]; omega) (by simpa using h) (.iface t p) w hx (.inr ⟨t, p, rfl⟩)).mono ?_
      rintro e w' ⟨N, rfl, _, _, hB⟩
      refine ⟨_, rfl, .tup _ _ rfl (fun i c v hc hv => ?_), ⟨hB.size, hB.os, hB.output⟩, fun x hx => hB.block x hx⟩
      match i with
      | 0 => simp at hc hv; subst hc; subst hv; exact .int _ _
      | 1 => simp at hc hv; subst hc; subst hv; exact .err _ _
      | i + 2 => simp at hc
def inB (x : Int) : Prop := -9223372036854775808 ≤ x ∧ x ≤ 9223372036854775807
theorem frm_word_len (op : Int) : (frm op).word.length ≤ 20 := by
  unfold frm
  cases h : isOp op with
  | false => simp
  | true =>
    obtain ⟨n, rfl, h1, h2⟩ := isOp_nat h
    simp only [if_true, Int.toNat_natCast]
    have : ∀ n : Nat, n ≤ 29 → (frmN n).word.length ≤ 20 := by decide
    exact this n h2
def pcs (k x : Int) : List UInt8 := if k = 0 then [] else 32 :: Lib.itoa x
theorem pcs_len (k x : Int) (h : inB x) : (pcs k x).length ≤ 22 := by
  unfold pcs
  split
  · simp
  · have := itoa_len h.1 h.2; simp only [List.length_cons]; omega
def outT (w : List UInt8) (k1 k2 k3 k4 x1 x2 x3 x4 : Int) : Nat → List UInt8
  | 0 => w
  | 1 => w ++ pcs k1 x1
  | 2 => w ++ pcs k1 x1 ++ pcs k2 x2
  | 3 => w ++ pcs k1 x1 ++ pcs k2 x2 ++ pcs k3 x3
  | _ => w ++ pcs k1 x1 ++ pcs k2 x2 ++ pcs k3 x3 ++ pcs k4 x4
theorem outT_end (w : List UInt8) (k1 k2 k3 k4 x1 x2 x3 x4 : Int) : w ++ piecesL [k1, k2, k3, k4] [x1, x2, x3, x4] = outT w k1 k2 k3 k4 x1 x2 x3 x4 4 := by
  simp only [piecesL, outT, pcs, List.append_nil, List.append_assoc]
theorem outT_len {w : List UInt8} {k1 k2 k3 k4 x1 x2 x3 x4 : Int} (hw : w.length ≤ 20) (h1 : inB x1) (h2 : inB x2) (h3 : inB x3) (h4 : inB x4) (k : Nat) : (outT w k1 k2 k3 k4 x1 x2 x3 x4 k).length ≤ 200 := by
  have l1 := pcs_len k1 x1 h1
  have l2 := pcs_len k2 x2 h2
  have l3 := pcs_len k3 x3 h3
  have l4 := pcs_len k4 x4 h4
  unfold outT
  split <;> (try simp only [List.length_append]) <;> omega
theorem text_pure (i : Ins) (hb : inB i.a ∧ inB i.b ∧ inB i.c ∧ inB i.d) : Abs.Pure Tryd.prog 8 [i.v] (.str (textL i)) := by
  have ho := of_pure i.op
  have hf := fieldsP_pure (frm i.op) i
  have hwl := frm_word_len i.op
  unfold textL
  refine Pure.of 0 (CallS.enter opcode_Text_ok (Nat.le_of_ble_eq_true rfl) (Run.go 100 ?_))
  cases hop : isOp i.op with
  | false =>
    rw [hop] at ho
    simp -implicitDefEqProofs only [go_sem, Ins.v, Ins.row, Frm.v, Frm.row, initSl]
    refine CallS.pureF ho (by simp -implicitDefEqProofs only [go_sem, Ins.v, Ins.row, Frm.v, Frm.row]) ?_
    simp -implicitDefEqProofs only [go_sem, Ins.v, Ins.row, Frm.v, Frm.row]
  | true =>
    rw [hop] at ho
    simp -implicitDefEqProofs only [go_sem, Ins.v, Ins.row, Frm.v, Frm.row, initSl]
    refine CallS.pureF ho (by simp -implicitDefEqProofs only [go_sem, Ins.v, Ins.row, Frm.v, Frm.row]) ?_
    simp -implicitDefEqProofs only [go_sem, Ins.v, Ins.row, Frm.v, Frm.row]
    refine CallS.pureF hf (by simp -implicitDefEqProofs only [go_sem, Ins.v, Ins.row, Frm.v, Frm.row]) ?_
    simp -implicitDefEqProofs only [go_sem, Ins.v, Ins.row, Frm.v, Frm.row, intsV, Frm.ks, Ins.fs]
    obtain ⟨op, x1, x2, x3, x4⟩ := i
    simp only at hb hwl hop ⊢
    rw [outT_end]
    have hlen := fun k => outT_len (k1 := (frm op).a) (k2 := (frm op).b) (k3 := (frm op).c) (k4 := (frm op).d) hwl hb.1 hb.2.1 hb.2.2.1 hb.2.2.2 k
    have i1 := itoa_pure x1 hb.1.1 hb.1.2
    have i2 := itoa_pure x2 hb.2.1.1 hb.2.1.2
    have i3 := itoa_pure x3 hb.2.2.1.1 hb.2.2.1.2
    have i4 := itoa_pure x4 hb.2.2.2.1 hb.2.2.2.2
    generalize (frm op).word = w at *
    generalize (frm op).a = k1 at *
    generalize (frm op).b = k2 at *
    generalize (frm op).c = k3 at *
    generalize (frm op).d = k4 at *
    refine Run.keep [27, 26, 7, 5] ?_
    refine Run.rounds (fun (k : Nat) => ⟨[(27, .int .i64 k), (26, .agg [.int .i64 k1, .int .i64 k2, .int .i64 k3, .int .i64 k4]), (7, .ptr (8 * 10000 + 7) 3 0 0), (5, .str (outT w k1 k2 k3 k4 x1 x2 x3 x4 k))], [((8 * 10000 + 7), 3, .rows 4 [[.int .i64 x1, .int .i64 x2, .int .i64 x3, .int .i64 x4]])], 4⟩) (fun k => k ≤ 4) (fun k => 4 - k) 0 (by simp -implicitDefEqProofs only [go_sem, Ins.v, Ins.row, Frm.v, Frm.row, outT]) (Nat.zero_le _) ?_
    intro k hk ih
    refine Run.unf opcode_Text_l0_eq (Run.go 100 ?_)
    have hkk : k = 0 ∨ k = 1 ∨ k = 2 ∨ k = 3 ∨ k = 4 := by omega
    rcases hkk with rfl | rfl | rfl | rfl | rfl
    · have l0 := hlen 0
      have il := itoa_len hb.1.1 hb.1.2
      by_cases hz : k1 = 0
      · subst hz
        have e : outT w 0 k2 k3 k4 x1 x2 x3 x4 1 = outT w 0 k2 k3 k4 x1 x2 x3 x4 0 := by simp only [outT, pcs, if_true, List.append_nil]
        simp -implicitDefEqProofs only [go_sem, Ins.v, Ins.row, Frm.v, Frm.row]
        refine ih _ 1 (by omega) (by omega) ?_
        rw [e]; simp -implicitDefEqProofs only [go_sem, Ins.v, Ins.row, Frm.v, Frm.row]
      · have e : outT w k1 k2 k3 k4 x1 x2 x3 x4 1 = outT w k1 k2 k3 k4 x1 x2 x3 x4 0 ++ 32 :: Lib.itoa x1 := by simp only [outT, pcs, hz, if_false]
        simp -implicitDefEqProofs only [go_sem, Ins.v, Ins.row, Frm.v, Frm.row, hz]
        refine CallS.pureF i1 (by simp -implicitDefEqProofs only [go_sem, Ins.v, Ins.row, Frm.v, Frm.row]) ?_
        simp -implicitDefEqProofs only [go_sem, Ins.v, Ins.row, Frm.v, Frm.row]
        refine ⟨by omega, by omega, ih _ 1 (by omega) (by omega) ?_⟩
        rw [e]; simp -implicitDefEqProofs only [go_sem, Ins.v, Ins.row, Frm.v, Frm.row]
    · have l0 := hlen 1
      have il := itoa_len hb.2.1.1 hb.2.1.2
      by_cases hz : k2 = 0
      · subst hz
        have e : outT w k1 0 k3 k4 x1 x2 x3 x4 2 = outT w k1 0 k3 k4 x1 x2 x3 x4 1 := by simp only [outT, pcs, if_true, List.append_nil]
        simp -implicitDefEqProofs only [go_sem, Ins.v, Ins.row, Frm.v, Frm.row]
        refine ih _ 2 (by omega) (by omega) ?_
        rw [e]; simp -implicitDefEqProofs only [go_sem, Ins.v, Ins.row, Frm.v, Frm.row]
      · have e : outT w k1 k2 k3 k4 x1 x2 x3 x4 2 = outT w k1 k2 k3 k4 x1 x2 x3 x4 1 ++ 32 :: Lib.itoa x2 := by simp only [outT, pcs, hz, if_false]
        simp -implicitDefEqProofs only [go_sem, Ins.v, Ins.row, Frm.v, Frm.row, hz]
        refine CallS.pureF i2 (by simp -implicitDefEqProofs only [go_sem, Ins.v, Ins.row, Frm.v, Frm.row]) ?_
        simp -implicitDefEqProofs only [go_sem, Ins.v, Ins.row, Frm.v, Frm.row]
        refine ⟨by omega, by omega, ih _ 2 (by omega) (by omega) ?_⟩
        rw [e]; simp -implicitDefEqProofs only [go_sem, Ins.v, Ins.row, Frm.v, Frm.row]
    · have l0 := hlen 2
      have il := itoa_len hb.2.2.1.1 hb.2.2.1.2
      by_cases hz : k3 = 0
      · subst hz
        have e : outT w k1 k2 0 k4 x1 x2 x3 x4 3 = outT w k1 k2 0 k4 x1 x2 x3 x4 2 := by simp only [outT, pcs, if_true, List.append_nil]
        simp -implicitDefEqProofs only [go_sem, Ins.v, Ins.row, Frm.v, Frm.row]
        refine ih _ 3 (by omega) (by omega) ?_
        rw [e]; simp -implicitDefEqProofs only [go_sem, Ins.v, Ins.row, Frm.v, Frm.row]
      · have e : outT w k1 k2 k3 k4 x1 x2 x3 x4 3 = outT w k1 k2 k3 k4 x1 x2 x3 x4 2 ++ 32 :: Lib.itoa x3 := by simp only [outT, pcs, hz, if_false]
        simp -implicitDefEqProofs only [go_sem, Ins.v, Ins.row, Frm.v, Frm.row, hz]
        refine CallS.pureF i3 (by simp -implicitDefEqProofs only [go_sem, Ins.v, Ins.row, Frm.v, Frm.row]) ?_
        simp -implicitDefEqProofs only [go_sem, Ins.v, Ins.row, Frm.v, Frm.row]
        refine ⟨by omega, by omega, ih _ 3 (by omega) (by omega) ?_⟩
        rw [e]; simp -implicitDefEqProofs only [go_sem, Ins.v, Ins.row, Frm.v, Frm.row]
    · have l0 := hlen 3
      have il := itoa_len hb.2.2.2.1 hb.2.2.2.2
      by_cases hz : k4 = 0
      · subst hz
        have e : outT w k1 k2 k3 0 x1 x2 x3 x4 4 = outT w k1 k2 k3 0 x1 x2 x3 x4 3 := by simp only [outT, pcs, if_true, List.append_nil]
        simp -implicitDefEqProofs only [go_sem, Ins.v, Ins.row, Frm.v, Frm.row]
        refine ih _ 4 (by omega) (by omega) ?_
        rw [e]; simp -implicitDefEqProofs only [go_sem, Ins.v, Ins.row, Frm.v, Frm.row]
      · have e : outT w k1 k2 k3 k4 x1 x2 x3 x4 4 = outT w k1 k2 k3 k4 x1 x2 x3 x4 3 ++ 32 :: Lib.itoa x4 := by simp only [outT, pcs, hz, if_false]
        simp -implicitDefEqProofs only [go_sem, Ins.v, Ins.row, Frm.v, Frm.row, hz]
        refine CallS.pureF i4 (by simp -implicitDefEqProofs only [go_sem, Ins.v, Ins.row, Frm.v, Frm.row]) ?_
        simp -implicitDefEqProofs only [go_sem, Ins.v, Ins.row, Frm.v, Frm.row]
        refine ⟨by omega, by omega, ih _ 4 (by omega) (by omega) ?_⟩
        rw [e]; simp -implicitDefEqProofs only [go_sem, Ins.v, Ins.row, Frm.v, Frm.row]
    · simp -implicitDefEqProofs only [go_sem, Ins.v, Ins.row, Frm.v, Frm.row]
end Go.Proofs.YtembaiapafbfcaaDoor
