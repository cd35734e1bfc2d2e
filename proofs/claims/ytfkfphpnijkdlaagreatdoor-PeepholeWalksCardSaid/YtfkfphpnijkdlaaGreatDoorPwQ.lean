/-
 Walks of a verified function. No condition.
-/
import Derived.Test.YtfkfphpnijkdlaaGreatDoorPwP
import Derived.Test.YtfkfphpnijkdlaaGreatDoorPeF
import Derived.Test.YtfkfphpnijkdlaaGreatDoorSetM
import Derived.Test.YtfkfphpnijkdlaaGreatDoorRchM
import Derived.Test.YtfkfphpnijkdlaaGreatDoorVerEj
set_option linter.unusedVariables false
set_option linter.unusedSimpArgs false
set_option maxRecDepth 100000
set_option maxHeartbeats 0
namespace Go.Proofs.YtfkfphpnijkdlaaGreatDoor
open Go.Abs
theorem nextL_jump {code : List Ins} {a : Nat} {x : Ins} (hx : code[a]? = some x) (hj : isJump x.op = true) (b0 : 0 ≤ x.b) (b1 : x.b < code.length) : x.b ∈ nextL code a := by
 have ha := (List.getElem?_eq_some_iff.1 hx).1
 unfold nextL
 rw [if_neg (by omega), Int.toNat_natCast, hx]
 refine mem_normZ (List.mem_append_left _ ?_)
 unfold tgtL
 rw [if_pos ⟨hj, b0, b1⟩]
 exact List.mem_singleton.2 rfl
theorem nextL_fall {code : List Ins} {a : Nat} {x : Ins} (hx : code[a]? = some x) (hf : falls x.op = true) (h1 : a + 1 < code.length) : ((a + 1 : Nat) : Int) ∈ nextL code a := by
 have ha := (List.getElem?_eq_some_iff.1 hx).1
 unfold nextL
 rw [if_neg (by omega), Int.toNat_natCast, hx]
 refine mem_normZ (List.mem_append_right _ ?_)
 unfold fallL
 rw [if_pos ⟨hf, by omega⟩]
 exact List.mem_singleton.2 (by omega)
theorem fwd_of {code : List Ins} (h0 : 0 < code.length) (hj : InJ code) (hb : ∀ a, Path code a → ∀ t ∈ nextL code a, t ≤ (a : Int) → ∃ y, code[t.toNat]? = some y ∧ y.op = 29) (hf : ∀ a x, Path code a → code[a]? = some x → falls x.op = true → a + 1 < code.length) : Fwd code (Path code) := by
 refine ⟨.zero h0, fun a ha => ?_, fun a x ha hx hjx => ?_, fun a x ha hx hjx hle => ?_, fun a x ha hx hfx => ?_⟩
 ·cases ha with
  | zero h => exact h
  | step _ h => have := (nextL_in h).2; omega
 ·obtain ⟨b0, b1⟩ := hj x (List.mem_of_getElem? hx) hjx
  refine ⟨b0, .step ha ?_⟩
  rw [Int.toNat_of_nonneg b0]
  exact nextL_jump hx hjx b0 b1
 ·obtain ⟨b0, b1⟩ := hj x (List.mem_of_getElem? hx) hjx
  exact hb a ha x.b (nextL_jump hx hjx b0 b1) hle
 ·exact .step ha (nextL_fall hx hfx (hf a x ha hx hfx))
theorem GoodF.inJ {p : Fn} (h : GoodF p) : InJ p.code := fun i hi hj => (inst_parts ((sgl_parts h.self).2.2.1 i hi)).2 hj
theorem GoodF.jumps1 {p : Fn} (h : GoodF p) : Abs.Pure Tryz.prog 18 [.agg p.row] (.agg (jumpsF p).row) :=
 jumps1_pure p (by have := h.few p p.self_mem; omega) h.inJ
theorem GoodF.eachC {p : Fn} (h : GoodF p) (g : Fn → Fn) : (eachF g p).code = (g p).code := by
 rw [eachF_eq, if_pos (alone_chk h.self fun q hq => (h.child hq).self)]
theorem GoodF.walks {p : Fn} (h : GoodF p) (hb : ∀ a, Path p.code a → ∀ t ∈ nextL p.code a, t ≤ (a : Int) → ∃ y, p.code[t.toNat]? = some y ∧ y.op = 29) (hf : ∀ a x, Path p.code a → p.code[a]? = some x → falls x.op = true → a + 1 < p.code.length) (ch : List Int) :
  wkN (eachF jumpsF p).code ch 13000 0 0 [] = wkN p.code ch 13000 0 0 [] ∧ wkN (eachF deadF p).code ch 13000 0 0 [] = wkN p.code ch 13000 0 0 [] := by
 have hF := fwd_of h.pos h.inJ hb hf
 have hl := h.few p p.self_mem
 rw [h.eachC, h.eachC]
 refine ⟨(hF.walkJ hl ch).symm, ?_⟩
 exact (hF.walkD (gone := fun k => !reachB p.code k) (fun a ha => by rw [reachB_iff.2 ha]; rfl) hl ch).symm
theorem ver_walks {p : Fn} (h : GoodF p) (hv : verE p = 0) (ch : List Int) :
  wkN (eachF jumpsF p).code ch 13000 0 0 [] = wkN p.code ch 13000 0 0 [] ∧ wkN (eachF deadF p).code ch 13000 0 0 [] = wkN p.code ch 13000 0 0 [] := by
 obtain ⟨hck, hfr⟩ := (verE_iff p).1 hv
 have hs := Sound.of hck
 have hf := hfr p (Fn.self_mem p)
 have hI : StIs p.regs.toNat p.code p.params (stOf p) := stM_is hs.code0
 refine h.walks (fun a ha t ht hle => ?_) (fun a x ha hx hfx => ?_) ch
 ·have h1 := nextL_in ht
  have h2 : t.toNat < p.code.length := by omega
  exact ⟨insAt p.code t.toNat, (insAt_mem h2).1, (jumps_law hs hI hf ha).2 t ht hle⟩
 ·obtain ⟨hl, s, hm⟩ := hI.path ha
  have h1 := (violF_no (firstF_none.1 hf a hl) hm).1
  rw [(insAt_mem hl).1] at hx
  injection hx with hx
  rw [hx] at h1
  have := h1 hfx
  omega
end Go.Proofs.YtfkfphpnijkdlaaGreatDoor
