/-
 strings.Builder as the program uses it. No condition.
-/
import Derived.Test.YtcjgeliglgcflaaGreatDoorBld
import Derived.Test.YtcjgeliglgcflaaGreatDoorLsQ
set_option linter.unusedVariables false
set_option linter.unusedSimpArgs false
set_option maxRecDepth 100000
set_option maxHeartbeats 0
namespace Go.Proofs.YtcjgeliglgcflaaGreatDoor
open Go Go.Abs
attribute [local irreducible] A3 Run
abbrev tB:Nat:=56
abbrev tU:Nat:=5
abbrev nWS:Nat:=(22*10000+14)
abbrev nWB:Nat:=(24*10000+14)
-- EV: tB, tU, nWS, nWB
attribute [local go_sem] tB tU nWS nWB
theorem A5P{a b:Nat}(h:a≠b):Nat.beq a b=false:=by
 cases hb:Nat.beq a b with
 |false=>rfl
 |true=>exact absurd (Nat.eq_of_beq_eq_true hb) h
theorem A9I(b st n:Nat)(a x:V)(ha:a= .nilp∨a= .ptr b st 0 0):A3 Tryz.prog 55 [.ptr b st 0 0] [(b,st,.tb tB 2 [[a,x]])] n fun r h' n'=>r= .tup []∧h'= [(b,st,.tb tB 2 [[.ptr b st 0 0,x]])]∧n'=n:=
 B9r (fun b w h1 h2 h3=>Any.Builder_copyCheck_fresh (P:=Tryz.prog) (ρ:=Tryz.lays105_ren) {Tryz.lays105 with} Tryz.Builder_Extra_105.toX72 b w h1 h2 h3)
  (fun b w h=>Any.Builder_copyCheck_used (P:=Tryz.prog) (ρ:=Tryz.lays105_ren) {Tryz.lays105 with} Tryz.Builder_Extra_105.toX72 b w h) b st n a x ha
theorem C3e(b st nb sb n:Nat)(a:V)(l:List UInt8)(hne:nb≠b)(h0:l≠ [])(h63:l.length≤9223372036854775807):
  A3 Tryz.prog 25 [.ptr b st 0 0] [(nb,sb,.tb tU 1 (C1 l)),(b,st,.tb tB 2 [[a,.sl nb sb 0 l.length]])] n fun r h' n'=>r= .str l∧h'= []∧n'=n:=
 B6K (fun b g c cap l w h1 h2 h3 h4 h5 h6 h7=>A9H (P:=Tryz.prog) (ρ:=Tryz.lays169_ren) Tryz.lays169 Tryz.Builder_Extra_169 b g c cap l w h1 h2 h3 h4 h5 h6 h7) b st nb sb n a l hne h0 h63
def bH(b st:Nat)(l:List UInt8)(h:A2):Prop:= ∃a,(a= .nilp∨a= .ptr b st 0 0)∧
 ((l= []∧h= [(b,st,.tb tB 2 [[a,.nils]])])∨ ∃nb sb,(nb=nWS∨nb=nWB)∧h= [(b,st,.tb tB 2 [[a,.sl nb sb 0 l.length]]),(nb,sb,.tb tU 1 (C1 l))])
theorem A4u(b st:Nat)(hb1:b≠nWS)(hb2:b≠nWB)(l s:List UInt8)(hl:l.length+s.length≤137438953472)(h:A2)(hh:bH b st l h)(n:Nat):
  A3 Tryz.prog 22 [.ptr b st 0 0,.str s] h n fun r h' n'=>r= .tup [.int .i64 s.length,.cst .nilIface]∧bH b st (l++s) h':=by
 have q1:(b=nWS)=False:=eq_false hb1
 have q2:(nWS=b)=False:=eq_false (Ne.symm hb1)
 have q3:(b=nWB)=False:=eq_false hb2
 have q4:(nWB=b)=False:=eq_false (Ne.symm hb2)
 have x1:=A5P hb1
 have x2:=A5P (Ne.symm hb1)
 have x3:=A5P hb2
 have x4:=A5P (Ne.symm hb2)
 have hsl:=d5 s
 have hsz:=B2E s
 have f2:(s.length≤137438953472)=True:=eq_true (by omega)
 have f3:(l.length+s.length≤137438953472)=True:=eq_true hl
 have hap:=A3p l s
 obtain⟨a,ha,hh⟩:=hh
 rcases hh with⟨rfl,rfl⟩|⟨nb,sb,hnb,rfl⟩
 ·rw [show C1 s=s.map fun b=> [V.int .u8 (b.toNat:Int)] from rfl]at hsl hsz
  refine A3.enterK E6 (Nat.le_of_ble_eq_true rfl) fun Q hQ=>Run.go 100 ?_
  simp -implicitDefEqProofs only [go_sem,A8]
  refine A3.at [0] [] (A9I b st _ a .nils ha) rfl rfl ?_
  rintro r h' n' hn ⟨rfl,rfl,rfl⟩
  simp -implicitDefEqProofs only [go_sem,q1,q2,hsl,hsz,f2]
  subst hQ
  exact .is ⟨rfl,_,.inr rfl,.inr ⟨nWS,_,.inl rfl,rfl⟩⟩
 ·rcases hnb with rfl|rfl
  ·have hR:=d5 l
   rw [show C1 s=s.map fun b=> [V.int .u8 (b.toNat:Int)] from rfl]at hsl hsz hap
   refine A3.enterK E6 (Nat.le_of_ble_eq_true rfl) fun Q hQ=>Run.go 100 ?_
   simp -implicitDefEqProofs only [go_sem,A8]
   refine A3.at [0] [1] (A9I b st _ a _ ha) rfl (by simp [A5L,A0d,x1,x2,x3,x4]) ?_
   rintro r h' n' hn ⟨rfl,rfl,rfl⟩
   simp -implicitDefEqProofs only [go_sem,q1,q2,hsl,hsz,f3,hR]
   subst hQ
   refine .is ⟨rfl,.ptr b st 0 0,.inr rfl,.inr ⟨nWS,n',.inl rfl,?_⟩⟩
   rw [hap,List.length_append];rfl
  ·have hR:=d5 l
   rw [show C1 s=s.map fun b=> [V.int .u8 (b.toNat:Int)] from rfl]at hsl hsz hap
   refine A3.enterK E6 (Nat.le_of_ble_eq_true rfl) fun Q hQ=>Run.go 100 ?_
   simp -implicitDefEqProofs only [go_sem,A8]
   refine A3.at [0] [1] (A9I b st _ a _ ha) rfl (by simp [A5L,A0d,x1,x2,x3,x4]) ?_
   rintro r h' n' hn ⟨rfl,rfl,rfl⟩
   simp -implicitDefEqProofs only [go_sem,q3,q4,hsl,hsz,f3,hR]
   subst hQ
   refine .is ⟨rfl,.ptr b st 0 0,.inr rfl,.inr ⟨nWB,n',.inr rfl,?_⟩⟩
   rw [hap,List.length_append];rfl
theorem B2M(b st:Nat)(hb1:b≠nWS)(hb2:b≠nWB)(l:List UInt8)(c:UInt8)(hl:l.length+1≤137438953472)(h:A2)(hh:bH b st l h)(n:Nat):
  A3 Tryz.prog 24 [.ptr b st 0 0,.int .u8 c.toNat] h n fun r h' n'=>r= .cst .nilIface∧bH b st (l++ [c]) h':=by
 have q1:(b=nWS)=False:=eq_false hb1
 have q2:(nWS=b)=False:=eq_false (Ne.symm hb1)
 have q3:(b=nWB)=False:=eq_false hb2
 have q4:(nWB=b)=False:=eq_false (Ne.symm hb2)
 have x1:=A5P hb1
 have x2:=A5P (Ne.symm hb1)
 have x3:=A5P hb2
 have x4:=A5P (Ne.symm hb2)
 have f3:(l.length+1≤137438953472)=True:=eq_true hl
 have hap:C1 (l++ [c])=C1 l++ [[.int .u8 c.toNat]]:=A3p l [c]
 have hR:=d5 l
 obtain⟨a,ha,hh⟩:=hh
 rcases hh with⟨rfl,rfl⟩|⟨nb,sb,hnb,rfl⟩
 ·refine A3.enterK E8 (Nat.le_of_ble_eq_true rfl) fun Q hQ=>Run.go 100 ?_
  simp -implicitDefEqProofs only [go_sem,A8]
  refine A3.at [0] [] (A9I b st _ a .nils ha) rfl rfl ?_
  rintro r h' n' hn ⟨rfl,rfl,rfl⟩
  simp -implicitDefEqProofs only [go_sem,q3,q4]
  subst hQ
  exact .is ⟨rfl,_,.inr rfl,.inr ⟨nWB,_,.inr rfl,rfl⟩⟩
 ·rcases hnb with rfl|rfl
  ·refine A3.enterK E8 (Nat.le_of_ble_eq_true rfl) fun Q hQ=>Run.go 100 ?_
   simp -implicitDefEqProofs only [go_sem,A8]
   refine A3.at [0] [1] (A9I b st _ a _ ha) rfl (by simp [A5L,A0d,x1,x2,x3,x4]) ?_
   rintro r h' n' hn ⟨rfl,rfl,rfl⟩
   simp -implicitDefEqProofs only [go_sem,q1,q2,f3,hR]
   subst hQ
   refine .is ⟨rfl,.ptr b st 0 0,.inr rfl,.inr ⟨nWS,n',.inl rfl,?_⟩⟩
   rw [hap,List.length_append];rfl
  ·refine A3.enterK E8 (Nat.le_of_ble_eq_true rfl) fun Q hQ=>Run.go 100 ?_
   simp -implicitDefEqProofs only [go_sem,A8]
   refine A3.at [0] [1] (A9I b st _ a _ ha) rfl (by simp [A5L,A0d,x1,x2,x3,x4]) ?_
   rintro r h' n' hn ⟨rfl,rfl,rfl⟩
   simp -implicitDefEqProofs only [go_sem,q3,q4,f3,hR]
   subst hQ
   refine .is ⟨rfl,.ptr b st 0 0,.inr rfl,.inr ⟨nWB,n',.inr rfl,?_⟩⟩
   rw [hap,List.length_append];rfl
end Go.Proofs.YtcjgeliglgcflaaGreatDoor
