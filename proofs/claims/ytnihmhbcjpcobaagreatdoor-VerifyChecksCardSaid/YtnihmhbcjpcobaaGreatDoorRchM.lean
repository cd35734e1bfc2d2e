/-
 What is reached. No condition.
-/
import Derived.Test.YtnihmhbcjpcobaaGreatDoorFlowN
set_option linter.unusedVariables false
set_option linter.unusedSimpArgs false
set_option maxRecDepth 100000
set_option maxHeartbeats 0
namespace Go.Proofs.YtnihmhbcjpcobaaGreatDoor
open Go.Abs
attribute [local irreducible] A2 Run
-- EV: Ins.v, Ins.row
attribute [local go_sem] Ins.v Ins.row
theorem A4C{code:List Ins}{at_ x:Int}(h:x∈C7 code at_):0≤x∧x<code.length:=by
 unfold C7 at h
 split at h
 ·cases h
 ·rename_i h0
  split at h
  ·rw [X0]at h
   rcases List.mem_append.1 h with h|h
   ·unfold B0L at h
    split at h
    ·rename_i hc;rw [List.mem_singleton.1 h];exact hc.2
    ·cases h
   ·unfold U4 at h
    split at h
    ·rename_i hc;rw [List.mem_singleton.1 h];exact⟨by omega,hc.2⟩
    ·cases h
  ·cases h
theorem A3a(code:List Ins)(at_:Int):(C7 code at_).length≤2:=by
 have h1: ∀l:List Int,(D2 l).length≤l.length:=fun l=>Nat.le_trans (Lib.compact_length_le _) (by simp [L8])
 unfold C7
 split
 ·simp
 split
 ·refine Nat.le_trans (h1 _) ?_
  unfold B0L U4
  split<;>split<;>simp
 ·simp
inductive Path (code:List Ins):Nat→Prop
 |zero:0<code.length→Path code 0
 |step {i j:Nat}:Path code i→(j:Int)∈C7 code i→Path code j
noncomputable def B3q (code:List Ins) (i:Nat):Bool:= @decide (Path code i) (Classical.propDecidable _)
theorem B3r{code:List Ins}{i:Nat}:B3q code i=true↔Path code i:=by unfold B3q;simp
noncomputable def B3s (code:List Ins):List Bool:=(List.range code.length).map (B3q code)
theorem B8Q(code:List Ins):(B3s code).length=code.length:=by simp [B3s]
theorem C1c{code:List Ins}{i:Nat}(h:i<code.length):(B3s code)[i]? =some (B3q code i):=by simp [B3s,h]
structure RI(code:List Ins)(ms:List Bool)(td:List Int):Prop where
 len:ms.length=code.length
 tdin: ∀t∈td,∃i:Nat,t=i∧ms[i]? =some true
 path: ∀i:Nat,ms[i]? =some true→Path code i
 closed: ∀i:Nat,ms[i]? =some true→(i:Int)∈td∨ ∀j:Nat,(j:Int)∈C7 code i→ms[j]? =some true
 zero:0<code.length→ms[0]? =some true
structure RJ(code:List Ins)(a k:Nat)(ms:List Bool)(td:List Int):Prop where
 len:ms.length=code.length
 tdin: ∀t∈td,∃i:Nat,t=i∧ms[i]? =some true
 path: ∀i:Nat,ms[i]? =some true→Path code i
 closed: ∀i:Nat,ms[i]? =some true→(i:Int)∈td∨i=a∨ ∀j:Nat,(j:Int)∈C7 code i→ms[j]? =some true
 zero:0<code.length→ms[0]? =some true
 cur:ms[a]? =some true
 done: ∀j:Nat,(j:Int)∈(C7 code a).take k→ms[j]? =some true
theorem RI.fin{code:List Ins}{ms:List Bool}(h:RI code ms []):ms=B3s code:=by
 have hall: ∀i,Path code i→ms[i]? =some true:=by
  intro i hp
  induction hp with
  |zero h0=>exact h.zero h0
  |step _ hj ih=>
   rcases h.closed _ ih with h1|h1
   ·cases h1
   ·exact h1 _ hj
 refine List.ext_getElem? fun i=> ?_
 by_cases hi:i<code.length
 ·rw [C1c hi]
  have:i<ms.length:=by rw [h.len];exact hi
  cases hb:ms[i]with
  |true=>
   have e:ms[i]? =some true:=by simp [this,hb]
   rw [e,B3r.2 (h.path i e)]
  |false=>
   have e:ms[i]? =some false:=by simp [this,hb]
   rw [e]
   cases hr:B3q code i with
   |false=>rfl
   |true=>rw [hall i (B3r.1 hr)]at e;cases e
 ·rw [List.getElem?_eq_none (by rw [h.len];omega),List.getElem?_eq_none (by rw [B8Q];omega)]
theorem RJ.over{code:List Ins}{a k:Nat}{ms:List Bool}{td:List Int}(h:RJ code a k ms td)(hk:(C7 code a).length≤k):RI code ms td:=by
 refine⟨h.len,h.tdin,h.path,fun i hi=> ?_,h.zero⟩
 rcases h.closed i hi with h1|h1|h1
 ·exact .inl h1
 ·subst h1
  refine .inr fun j hj=>h.done j ?_
  rwa [List.take_of_length_le hk]
 ·exact .inr h1
theorem RJ.skip{code:List Ins}{a k j:Nat}{ms:List Bool}{td:List Int}(h:RJ code a k ms td)(hj:(C7 code a)[k]? =some (j:Int))(hm:ms[j]? =some true):RJ code a (k+1) ms td:=by
 refine⟨h.len,h.tdin,h.path,h.closed,h.zero,h.cur,fun i hi=> ?_⟩
 rw [List.take_add_one,hj]at hi
 rcases List.mem_append.1 hi with hi|hi
 ·exact h.done i hi
 ·have:i=j:=Int.ofNat_inj.1 (by simpa using hi)
  subst this;exact hm
theorem RI.start{code:List Ins}(h:0<code.length):RI code ((List.replicate code.length false).set 0 true) [0]:=by
 refine⟨by simp,fun t ht=>⟨0,by simpa using ht,by simp [h]⟩,fun i hi=> ?_,fun i hi=> ?_,fun _=>by simp [h]⟩
 ·rw [List.getElem?_set]at hi
  split at hi
  ·rename_i e;subst e;exact .zero h
  ·rw [List.getElem?_replicate]at hi
   split at hi<;>cases hi
 ·rw [List.getElem?_set]at hi
  split at hi
  ·rename_i e;subst e;exact .inl (by simp)
  ·rw [List.getElem?_replicate]at hi
   split at hi<;>cases hi
end Go.Proofs.YtnihmhbcjpcobaaGreatDoor
