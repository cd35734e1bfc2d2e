/-
  The tables of instructions, read off the program by running it. No condition.
-/
import Derived.Test.YtkjcokmbjdafnaaDoorCode
import Derived.Test.YtkjcokmbjdafnaaDoorOpT
set_option linter.unusedVariables false
set_option linter.unusedSimpArgs false
set_option maxRecDepth 100000
namespace Go.Proofs.YtkjcokmbjdafnaaDoor
open Go.Abs
def wordsS : List UInt8 := [109, 111, 118, 101, 32, 99, 111, 110, 115, 116, 32, 110, 105, 108, 32, 98, 111, 111, 108, 32, 117, 112, 103, 101, 116, 32, 117, 112, 115, 101, 116, 32, 103, 108, 111, 98, 97, 108, 32, 115, 101, 116, 103, 108, 111, 98, 32, 103, 101, 116, 32, 115, 101, 116, 32, 115, 101, 108, 102, 32, 117, 110, 97, 114, 121, 32, 98, 105, 110, 97, 114, 121, 32, 106, 117, 109, 112, 32, 116, 101, 115, 116, 32, 99, 97, 108, 108, 32, 116, 97, 105, 108, 32, 114, 101, 116, 117, 114, 110, 32, 118, 97, 114, 97, 114, 103, 32, 116, 97, 98, 108, 101, 32, 97, 112, 112, 101, 110, 100, 32, 99, 108, 111, 115, 117, 114, 101, 32, 112, 114, 101, 112, 32, 108, 111, 111, 112, 32, 105, 116, 101, 114, 32, 110, 101, 120, 116, 32, 99, 108, 111, 115, 101, 32, 109, 97, 114, 107, 32, 115, 116, 97, 116]
def wordsV : V := .isl (wordT.map fun w => [.str w])
theorem fields_pure : Pure Tryd.prog 73 [.str wordsS] wordsV :=
  Pure.execB (m := 50000) (d := 3) (fr := 2) exT_ok noLib_ok (by kernel_rfl)
def libF : Caller := fun f xs h n => bif Nat.beq f 73 then (match xs with
  | [.str s] => bif bytesEq s wordsS then oneO wordsV h n else none
  | _ => none) else none
theorem libF_ok : CallerOK Tryd.prog libF := by
  intro f xs h n k hg
  unfold libF at hg
  cases hb : Nat.beq f 73 with
  | false => rw [hb] at hg; exact hg.no.elim
  | true =>
    rw [hb, cond_true] at hg
    obtain rfl := Nat.eq_of_beq_eq_true hb
    split at hg
    · rename_i s
      cases hs : bytesEq s wordsS with
      | false => rw [hs] at hg; exact hg.no.elim
      | true =>
        rw [hs, cond_true] at hg
        rw [bytesEq_iff.1 hs]
        exact CallS.pureF fields_pure rfl hg.one
    · exact hg.no.elim
end Go.Proofs.YtkjcokmbjdafnaaDoor
