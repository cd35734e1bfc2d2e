/-
 What opcode.Text answers. No condition.
-/
import Derived.Test.YtcjgeliglgcflaaGreatDoorTxt0
import Derived.Test.YtcjgeliglgcflaaGreatDoorLib32
import Derived.Test.YtcjgeliglgcflaaGreatDoorOpc3
import Derived.Below
set_option linter.unusedVariables false
set_option linter.unusedSimpArgs false
set_option maxRecDepth 100000
set_option maxHeartbeats 0
namespace Go.Proofs.YtcjgeliglgcflaaGreatDoor
open Go Go.Abs
attribute [local irreducible] A3 Run
-- EV: Ins.v, Ins.row, Frm.v, Frm.row
attribute [local go_sem] Ins.v Ins.row Frm.v Frm.row
def inB(x:Int):Prop:= -9223372036854775808≤x∧x≤9223372036854775807
theorem A8K(op:Int):(frm op).word.length≤20:=by
 unfold frm
 cases h:A1Z op with
 |false=>simp
 |true=>
  obtain⟨n,rfl,h1,h2⟩:=B1R h
  simp only [if_true,Int.toNat_natCast]
  have: ∀n:Nat,n≤29→(B1M n).word.length≤20:=by decide
  exact this n h2
def pcs(k x:Int):List UInt8:=if k=0 then []else 32::Lib.itoa x
theorem B1c(k x:Int)(h:inB x):(pcs k x).length≤22:=by
 unfold pcs
 split
 ·simp
 ·have:=A2a h.1 h.2;simp only [List.length_cons];omega
def d8(w:List UInt8)(k1 k2 k3 k4 x1 x2 x3 x4:Int):Nat→List UInt8
 |0=>w
 |1=>w++pcs k1 x1
 |2=>w++pcs k1 x1++pcs k2 x2
 |3=>w++pcs k1 x1++pcs k2 x2++pcs k3 x3
 |_=>w++pcs k1 x1++pcs k2 x2++pcs k3 x3++pcs k4 x4
theorem B6f(w:List UInt8)(k1 k2 k3 k4 x1 x2 x3 x4:Int):w++A7c [k1,k2,k3,k4] [x1,x2,x3,x4]=d8 w k1 k2 k3 k4 x1 x2 x3 x4 4:=by
 simp only [A7c,d8,pcs,List.append_nil,List.append_assoc]
theorem B6g{w:List UInt8}{k1 k2 k3 k4 x1 x2 x3 x4:Int}(hw:w.length≤20)(h1:inB x1)(h2:inB x2)(h3:inB x3)(h4:inB x4)(k:Nat):(d8 w k1 k2 k3 k4 x1 x2 x3 x4 k).length≤200:=by
 have l1:=B1c k1 x1 h1
 have l2:=B1c k2 x2 h2
 have l3:=B1c k3 x3 h3
 have l4:=B1c k4 x4 h4
 unfold d8
 split<;>(try simp only [List.length_append])<;>omega
theorem C0z(i:Ins)(hb:inB i.a∧inB i.b∧inB i.c∧inB i.d):Abs.Pure Tryz.prog 90 [i.v] (.str (A9z i)):=by
 have ho:=B8M i.op
 have hf:=A8F (frm i.op) i
 have hwl:=A8K i.op
 unfold A9z
 refine Pure.of 0 (A3.enter A6m (Nat.le_of_ble_eq_true rfl) (Run.go 100 ?_))
 cases hop:A1Z i.op with
 |false=>
  rw [hop]at ho
  simp -implicitDefEqProofs only [go_sem,A8]
  refine A3.pureF ho (by simp -implicitDefEqProofs only [go_sem]) ?_
  simp -implicitDefEqProofs only [go_sem]
 | true=>
  rw [hop]at ho
  simp -implicitDefEqProofs only [go_sem,A8]
  refine A3.pureF ho (by simp -implicitDefEqProofs only [go_sem]) ?_
  simp -implicitDefEqProofs only [go_sem]
  refine A3.pureF hf (by simp -implicitDefEqProofs only [go_sem]) ?_
  simp -implicitDefEqProofs only [go_sem,B5H,Frm.ks,Ins.fs]
  obtain⟨op,x1,x2,x3,x4⟩:=i
  simp only at hb hwl hop⊢
  rw [B6f]
  have hlen:=fun k=>B6g (k1:=(frm op).a) (k2:=(frm op).b) (k3:=(frm op).c) (k4:=(frm op).d) hwl hb.1 hb.2.1 hb.2.2.1 hb.2.2.2 k
  have i1:=E0 x1 hb.1.1 hb.1.2
  have i2:=E0 x2 hb.2.1.1 hb.2.1.2
  have i3:=E0 x3 hb.2.2.1.1 hb.2.2.1.2
  have i4:=E0 x4 hb.2.2.2.1 hb.2.2.2.2
  generalize (frm op).word=w at*
  generalize (frm op).a=k1 at*
  generalize (frm op).b=k2 at*
  generalize (frm op).c=k3 at*
  generalize (frm op).d=k4 at*
  refine Run.keep [27,26,7,5] ?_
  refine Run.rounds (fun(k:Nat)=>⟨[(27,.int .i64 k),(26,.agg [.int .i64 k1,.int .i64 k2,.int .i64 k3,.int .i64 k4]),(7,.ptr (90*10000+7) 3 0 0),(5,.str (d8 w k1 k2 k3 k4 x1 x2 x3 x4 k))],[((90*10000+7),3,.rows 4 [[.int .i64 x1,.int .i64 x2,.int .i64 x3,.int .i64 x4]])],4⟩) (fun k=>k≤4) (fun k=>4-k) 0 (by simp -implicitDefEqProofs only [go_sem,d8]) (Nat.zero_le _) ?_
  intro k hk ih
  refine Run.unf A8U (Run.go 100 ?_)
  have hkk:k=0∨k=1∨k=2∨k=3∨k=4:=by omega
  rcases hkk with rfl|rfl|rfl|rfl|rfl
  ·have l0:=hlen 0
   have il:=A2a hb.1.1 hb.1.2
   by_cases hz:k1=0
   ·subst hz
    have e:d8 w 0 k2 k3 k4 x1 x2 x3 x4 1=d8 w 0 k2 k3 k4 x1 x2 x3 x4 0:=by simp only [d8,pcs,if_true,List.append_nil]
    simp -implicitDefEqProofs only [go_sem]
    refine ih _ 1 (by omega) (by omega) ?_
    rw [e];simp -implicitDefEqProofs only [go_sem]
   ·have e:d8 w k1 k2 k3 k4 x1 x2 x3 x4 1=d8 w k1 k2 k3 k4 x1 x2 x3 x4 0++32::Lib.itoa x1:=by simp only [d8,pcs,hz,if_false]
    simp -implicitDefEqProofs only [go_sem,hz]
    refine A3.pureF i1 (by simp -implicitDefEqProofs only [go_sem]) ?_
    simp -implicitDefEqProofs only [go_sem]
    refine⟨by omega,by omega,ih _ 1 (by omega) (by omega) ?_⟩
    rw [e];simp -implicitDefEqProofs only [go_sem]
  ·have l0:=hlen 1
   have il:=A2a hb.2.1.1 hb.2.1.2
   by_cases hz:k2=0
   ·subst hz
    have e:d8 w k1 0 k3 k4 x1 x2 x3 x4 2=d8 w k1 0 k3 k4 x1 x2 x3 x4 1:=by simp only [d8,pcs,if_true,List.append_nil]
    simp -implicitDefEqProofs only [go_sem]
    refine ih _ 2 (by omega) (by omega) ?_
    rw [e];simp -implicitDefEqProofs only [go_sem]
   ·have e:d8 w k1 k2 k3 k4 x1 x2 x3 x4 2=d8 w k1 k2 k3 k4 x1 x2 x3 x4 1++32::Lib.itoa x2:=by simp only [d8,pcs,hz,if_false]
    simp -implicitDefEqProofs only [go_sem,hz]
    refine A3.pureF i2 (by simp -implicitDefEqProofs only [go_sem]) ?_
    simp -implicitDefEqProofs only [go_sem]
    refine⟨by omega,by omega,ih _ 2 (by omega) (by omega) ?_⟩
    rw [e];simp -implicitDefEqProofs only [go_sem]
  ·have l0:=hlen 2
   have il:=A2a hb.2.2.1.1 hb.2.2.1.2
   by_cases hz:k3=0
   ·subst hz
    have e:d8 w k1 k2 0 k4 x1 x2 x3 x4 3=d8 w k1 k2 0 k4 x1 x2 x3 x4 2:=by simp only [d8,pcs,if_true,List.append_nil]
    simp -implicitDefEqProofs only [go_sem]
    refine ih _ 3 (by omega) (by omega) ?_
    rw [e];simp -implicitDefEqProofs only [go_sem]
   ·have e:d8 w k1 k2 k3 k4 x1 x2 x3 x4 3=d8 w k1 k2 k3 k4 x1 x2 x3 x4 2++32::Lib.itoa x3:=by simp only [d8,pcs,hz,if_false]
    simp -implicitDefEqProofs only [go_sem,hz]
    refine A3.pureF i3 (by simp -implicitDefEqProofs only [go_sem]) ?_
    simp -implicitDefEqProofs only [go_sem]
    refine⟨by omega,by omega,ih _ 3 (by omega) (by omega) ?_⟩
    rw [e];simp -implicitDefEqProofs only [go_sem]
  ·have l0:=hlen 3
   have il:=A2a hb.2.2.2.1 hb.2.2.2.2
   by_cases hz:k4=0
   ·subst hz
    have e:d8 w k1 k2 k3 0 x1 x2 x3 x4 4=d8 w k1 k2 k3 0 x1 x2 x3 x4 3:=by simp only [d8,pcs,if_true,List.append_nil]
    simp -implicitDefEqProofs only [go_sem]
    refine ih _ 4 (by omega) (by omega) ?_
    rw [e];simp -implicitDefEqProofs only [go_sem]
   ·have e:d8 w k1 k2 k3 k4 x1 x2 x3 x4 4=d8 w k1 k2 k3 k4 x1 x2 x3 x4 3++32::Lib.itoa x4:=by simp only [d8,pcs,hz,if_false]
    simp -implicitDefEqProofs only [go_sem,hz]
    refine A3.pureF i4 (by simp -implicitDefEqProofs only [go_sem]) ?_
    simp -implicitDefEqProofs only [go_sem]
    refine⟨by omega,by omega,ih _ 4 (by omega) (by omega) ?_⟩
    rw [e];simp -implicitDefEqProofs only [go_sem]
  ·simp -implicitDefEqProofs only [go_sem]
end Go.Proofs.YtcjgeliglgcflaaGreatDoor
