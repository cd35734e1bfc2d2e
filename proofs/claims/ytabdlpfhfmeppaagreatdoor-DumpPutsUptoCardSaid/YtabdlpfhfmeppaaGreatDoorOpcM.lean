/-
  The tables of instructions, read off the program by running it. No condition.
-/
import Derived.Test.YtabdlpfhfmeppaaGreatDoorCode
import Derived.Test.YtabdlpfhfmeppaaGreatDoorOpT
set_option linter.unusedVariables false
set_option linter.unusedSimpArgs false
set_option maxRecDepth 100000
set_option maxHeartbeats 0
namespace Go.Proofs.YtabdlpfhfmeppaaGreatDoor
open Go.Abs
attribute [local irreducible] CallS Run
def wordsS : List UInt8 := [109, 111, 118, 101, 32, 99, 111, 110, 115, 116, 32, 110, 105, 108, 32, 98, 111, 111, 108, 32, 117, 112, 103, 101, 116, 32, 117, 112, 115, 101, 116, 32, 103, 108, 111, 98, 97, 108, 32, 115, 101, 116, 103, 108, 111, 98, 32, 103, 101, 116, 32, 115, 101, 116, 32, 115, 101, 108, 102, 32, 117, 110, 97, 114, 121, 32, 98, 105, 110, 97, 114, 121, 32, 106, 117, 109, 112, 32, 116, 101, 115, 116, 32, 99, 97, 108, 108, 32, 116, 97, 105, 108, 32, 114, 101, 116, 117, 114, 110, 32, 118, 97, 114, 97, 114, 103, 32, 116, 97, 98, 108, 101, 32, 97, 112, 112, 101, 110, 100, 32, 99, 108, 111, 115, 117, 114, 101, 32, 112, 114, 101, 112, 32, 108, 111, 111, 112, 32, 105, 116, 101, 114, 32, 110, 101, 120, 116, 32, 99, 108, 111, 115, 101, 32, 109, 97, 114, 107, 32, 115, 116, 97, 116]
def wordsV : V := .isl (wordT.map fun w => [.str w])
theorem fields_pure : Pure Tryz.prog 102 [.str wordsS] wordsV :=
  Pure.execB (m := 50000) (d := 3) (fr := 2) exT_ok noLib_ok (by kernel_rfl)
def libF : Caller := fun f xs h n => bif Nat.beq f 102 then (match xs with
  | [.str s] => bif bytesEq s wordsS then oneO wordsV h n else none
  | _ => none) else none
theorem libF_ok : CallerOK Tryz.prog libF := by
  intro f xs h n k hg
  unfold libF at hg
  cases hb : Nat.beq f 102 with
  | false => rw [hb] at hg; exact hg.no.elim
  | true =>
    rw [hb, cond_true] at hg
    obtain rfl := Nat.eq_of_beq_eq_true hb
    split at hg
    · rename_i s
      cases hs : bytesEq s wordsS with
      | false => rw [hs] at hg; exact hg.no.elim
      | true =>
        rw [hs, cond_true] at hg
        rw [bytesEq_iff.1 hs]
        exact CallS.pureF fields_pure rfl hg.one
    · exact hg.no.elim
-- EV: Ins.v, Ins.row, Frm.v, Frm.row
def intsV (l : List Int) : List V := l.map fun z => .int .i64 z
theorem of_yes : ∀ n : Nat, 1 ≤ n → n ≤ 29 → Pure Tryz.prog 85 [.int .i64 n] (.tup [(frmN n).v, .bool true]) := by
  have key : ∀ n : Nat, n < 30 → (Nat.blt 0 n = true → eqR (exR Tryz.prog exT libF 1000 5 1 85 [.int .i64 n]) (.tup [(frmN n).v, .bool true]) = true) := by
    have : (List.range 30).all (fun n => !Nat.blt 0 n || eqR (exR Tryz.prog exT libF 1000 5 1 85 [.int .i64 n]) (.tup [(frmN n).v, .bool true])) = true := by kernel_rfl
    intro n hn h0
    have := List.all_eq_true.1 this n (List.mem_range.2 hn)
    rw [h0] at this
    simpa using this
  intro n h1 h2
  exact Pure.execB (m := 1000) (d := 5) (fr := 1) exT_ok libF_ok (key n (by omega) (Nat.ble_eq_true_of_le h1))
theorem of_no {op : Int} (h : isOp op = false) : Pure Tryz.prog 85 [.int .i64 op] (.tup [(frm op).v, .bool false]) := by
  refine Pure.of 0 (CallS.enter opcode_of_ok (Nat.le_of_ble_eq_true rfl) ?_)
  refine Run.go 100 ?_
  simp -implicitDefEqProofs only [go_sem, Ins.v, Ins.row, Frm.v, Frm.row, initSl]
  refine CallS.pureF (r := wordsV) fields_pure rfl ?_
  have hno := of_decide_eq_false h
  have hf : frm op = ⟨[], 0, 0, 0, 0, 0⟩ := by rw [frm, if_neg (by rw [h]; simp)]
  rw [hf]
  have hw : (wordT.map fun w => [V.str w]).length = 29 := rfl
  simp -implicitDefEqProofs only [go_sem, Ins.v, Ins.row, Frm.v, Frm.row, wordsV, hw]
  omega
theorem of_pure (op : Int) : Pure Tryz.prog 85 [.int .i64 op] (.tup [(frm op).v, .bool (isOp op)]) := by
  cases h : isOp op with
  | false => exact of_no h
  | true =>
    obtain ⟨n, rfl, h1, h2⟩ := isOp_nat h
    have := of_yes n h1 h2
    rwa [show frm (n : Int) = frmN n by rw [frm, if_pos h]; rfl]
theorem between_pure : ∀ n : Nat, n ≤ 12 → Pure Tryz.prog 87 [.int .i64 n] (.tup [.int .i64 (low n), .int .i64 (high n)]) := by
  have this : (List.range 13).all (fun n => eqR (exR Tryz.prog exT noLib 1000 5 1 87 [.int .i64 n]) (.tup [.int .i64 (low n), .int .i64 (high n)])) = true := by kernel_rfl
  intro n h2
  exact Pure.execB (m := 1000) (d := 5) (fr := 1) exT_ok noLib_ok (List.all_eq_true.1 this n (List.mem_range.2 (by omega)))
theorem fieldsP_pure (f : Frm) (i : Ins) : Pure Tryz.prog 86 [f.v, i.v] (.tup [.agg (intsV f.ks), .agg (intsV i.fs)]) := by
  refine Pure.of 0 (CallS.enter opcode_fields_ok (Nat.le_of_ble_eq_true rfl) ?_)
  refine Run.go 100 ?_
  simp -implicitDefEqProofs only [go_sem, Ins.v, Ins.row, Frm.v, Frm.row, initSl, intsV, Frm.ks, Ins.fs]
theorem target_pure (i : Ins) : Pure Tryz.prog 71 [i.v] (.tup [.int .i64 (if isJump i.op then i.b else 0), .bool (isJump i.op)]) := by
  have hj : isJump i.op = decide (i.op = 14 ∨ i.op = 15 ∨ i.op = 23 ∨ i.op = 24 ∨ i.op = 26) := rfl
  rw [hj]
  refine Pure.of 0 (CallS.enter opcode_Target_ok (Nat.le_of_ble_eq_true rfl) ?_)
  refine Run.go 100 ?_
  simp -implicitDefEqProofs only [go_sem, Ins.v, Ins.row, Frm.v, Frm.row, initSl]
  repeat' (first | refine And.intro ?_ ?_ | refine fun h => ?_)
  all_goals simp_all
end Go.Proofs.YtabdlpfhfmeppaaGreatDoor
