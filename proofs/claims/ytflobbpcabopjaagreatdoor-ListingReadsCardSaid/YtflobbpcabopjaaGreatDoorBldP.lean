/-
 strings.Builder as the program uses it. No condition.
-/
import Derived.Test.YtflobbpcabopjaaGreatDoorBld
import Derived.Test.YtflobbpcabopjaaGreatDoorLsL
set_option linter.unusedSimpArgs false set_option linter.unusedVariables false set_option maxRecDepth 100000
set_option maxHeartbeats 0
namespace Go.Proofs.YtflobbpcabopjaaGreatDoor
open Go Go.Abs
attribute [local irreducible] A0 Run
abbrev tB:Nat:=46
abbrev tU:Nat:=5
abbrev nWS:Nat:=(22*10000+14)
abbrev nWB:Nat:=(24*10000+14)
-- EV: tB, tU, nWS, nWB
attribute [local go_sem] tB tU nWS nWB
theorem A4F{a b:Nat}(h:a≠b):Nat.beq a b=false:=by
 cases hb:Nat.beq a b with
 |false=>rfl
 |true=>exact absurd (Nat.eq_of_beq_eq_true hb) h
theorem B0I(b st n:Nat)(a x:V)(ha:a= .nilp∨a= .ptr b st 0 0):A0 Tryz.prog 50 [.ptr b st 0 0] [(b,st,.tb tB 2 [[a,x]])] n fun r h' n'=>r= .tup []∧h'= [(b,st,.tb tB 2 [[.ptr b st 0 0,x]])]∧n'=n:=
 C4g (fun b w h1 h2 h3=>Any.Builder_copyCheck_fresh (P:=Tryz.prog) (ρ:=Tryz.lays105_ren) {Tryz.lays105 with} Tryz.Builder_Extra_105.toX72 b w h1 h2 h3)
  (fun b w h=>Any.Builder_copyCheck_used (P:=Tryz.prog) (ρ:=Tryz.lays105_ren) {Tryz.lays105 with} Tryz.Builder_Extra_105.toX72 b w h) b st n a x ha
theorem C8G(b st nb sb n:Nat)(a:V)(l:List UInt8)(hne:nb≠b)(h0:l≠ [])(h63:l.length≤9223372036854775807):
  A0 Tryz.prog 25 [.ptr b st 0 0] [(nb,sb,.tb tU 1 (C2 l)),(b,st,.tb tB 2 [[a,.sl nb sb 0 l.length]])] n fun r h' n'=>r= .str l∧h'= []∧n'=n:=
 C0R (fun b g c cap l w h1 h2 h3 h4 h5 h6 h7=>P3 (P:=Tryz.prog) (ρ:=Tryz.lays169_ren) Tryz.lays169 Tryz.Builder_Extra_169 b g c cap l w h1 h2 h3 h4 h5 h6 h7) b st nb sb n a l hne h0 h63
def bH(b st:Nat)(l:List UInt8)(h:A2):Prop:= ∃a,(a= .nilp∨a= .ptr b st 0 0)∧
 ((l= []∧h= [(b,st,.tb tB 2 [[a,.nils]])])∨ ∃nb sb,(nb=nWS∨nb=nWB)∧h= [(b,st,.tb tB 2 [[a,.sl nb sb 0 l.length]]),(nb,sb,.tb tU 1 (C2 l))])
theorem A6o(b st:Nat)(hb1:b≠nWS)(hb2:b≠nWB)(l s:List UInt8)(hl:l.length+s.length≤137438953472)(h:A2)(hh:bH b st l h)(n:Nat):
  A0 Tryz.prog 22 [.ptr b st 0 0,.str s] h n fun r h' n'=>r= .tup [.int .i64 s.length,.cst .nilIface]∧bH b st (l++s) h':=by
 have q1:(b=nWS)=False:=eq_false hb1
 have q2:(nWS=b)=False:=eq_false (Ne.symm hb1)
 have q3:(b=nWB)=False:=eq_false hb2
 have q4:(nWB=b)=False:=eq_false (Ne.symm hb2)
 have x1:=A4F hb1
 have x2:=A4F (Ne.symm hb1)
 have x3:=A4F hb2
 have x4:=A4F (Ne.symm hb2)
 have hsl:=A0d s
 have hsz:=B6c s
 have f2:(s.length≤137438953472)=True:=Jm
 have f3:(l.length+s.length≤137438953472)=True:=eq_true hl
 have hap:=A4D l s
 obtain⟨a,ha,hh⟩:=hh
 rcases hh with⟨rfl,rfl⟩|⟨nb,sb,hnb,rfl⟩
 ·rw [show C2 s=s.map fun b=> [V.int .u8 (b.toNat:Int)] from rfl]at hsl hsz
  refine A0.enterK F9 Jo fun Q hQ=>Run.go 100 ?_
  refine Qz ?_
  refine A0.at [0] [] (B0I b st _ a .nils ha) rfl rfl ?_
  rintro r h' n' hn ⟨rfl,rfl,rfl⟩
  simp -implicitDefEqProofs only [go_sem,q1,q2,hsl,hsz,f2]
  subst hQ
  exact .is ⟨rfl,_,.inr rfl,.inr ⟨nWS,_,.inl rfl,rfl⟩⟩
 ·rcases hnb with rfl|rfl
  ·have hR:=A0d l
   rw [show C2 s=s.map fun b=> [V.int .u8 (b.toNat:Int)] from rfl]at hsl hsz hap
   refine A0.enterK F9 Jo fun Q hQ=>Run.go 100 ?_
   refine Qz ?_
   refine A0.at [0] [1] (B0I b st _ a _ ha) rfl zX ?_
   rintro r h' n' hn ⟨rfl,rfl,rfl⟩
   simp -implicitDefEqProofs only [go_sem,q1,q2,hsl,hsz,f3,hR]
   exact Yy
  ·have hR:=A0d l
   rw [show C2 s=s.map fun b=> [V.int .u8 (b.toNat:Int)] from rfl]at hsl hsz hap
   refine A0.enterK F9 Jo fun Q hQ=>Run.go 100 ?_
   refine Qz ?_
   refine A0.at [0] [1] (B0I b st _ a _ ha) rfl zX ?_
   rintro r h' n' hn ⟨rfl,rfl,rfl⟩
   simp -implicitDefEqProofs only [go_sem,q3,q4,hsl,hsz,f3,hR]
   exact Yz
theorem A9t(b st:Nat)(hb1:b≠nWS)(hb2:b≠nWB)(l:List UInt8)(c:UInt8)(hl:l.length+1≤137438953472)(h:A2)(hh:bH b st l h)(n:Nat):
  A0 Tryz.prog 24 [.ptr b st 0 0,.int .u8 c.toNat] h n fun r h' n'=>r= .cst .nilIface∧bH b st (l++ [c]) h':=by
 have q1:(b=nWS)=False:=eq_false hb1
 have q2:(nWS=b)=False:=eq_false (Ne.symm hb1)
 have q3:(b=nWB)=False:=eq_false hb2
 have q4:(nWB=b)=False:=eq_false (Ne.symm hb2)
 have x1:=A4F hb1
 have x2:=A4F (Ne.symm hb1)
 have x3:=A4F hb2
 have x4:=A4F (Ne.symm hb2)
 have f3:(l.length+1≤137438953472)=True:=eq_true hl
 have hap:C2 (l++ [c])=C2 l++ [[.int .u8 c.toNat]]:=A4D l [c]
 have hR:=A0d l
 obtain⟨a,ha,hh⟩:=hh
 rcases hh with⟨rfl,rfl⟩|⟨nb,sb,hnb,rfl⟩
 ·refine A0.enterK G4 Jo fun Q hQ=>Run.go 100 ?_
  refine Qz ?_
  refine A0.at [0] [] (B0I b st _ a .nils ha) rfl rfl ?_
  rintro r h' n' hn ⟨rfl,rfl,rfl⟩
  simp -implicitDefEqProofs only [go_sem,q3,q4]
  subst hQ
  exact .is ⟨rfl,_,.inr rfl,.inr ⟨nWB,_,.inr rfl,rfl⟩⟩
 ·rcases hnb with rfl|rfl
  ·refine A0.enterK G4 Jo fun Q hQ=>Run.go 100 ?_
   refine Qz ?_
   refine A0.at [0] [1] (B0I b st _ a _ ha) rfl zX ?_
   rintro r h' n' hn ⟨rfl,rfl,rfl⟩
   simp -implicitDefEqProofs only [go_sem,q1,q2,f3,hR]
   exact Yy
  ·refine A0.enterK G4 Jo fun Q hQ=>Run.go 100 ?_
   refine Qz ?_
   refine A0.at [0] [1] (B0I b st _ a _ ha) rfl zX ?_
   rintro r h' n' hn ⟨rfl,rfl,rfl⟩
   simp -implicitDefEqProofs only [go_sem,q3,q4,f3,hR]
   exact Yz
end Go.Proofs.YtflobbpcabopjaaGreatDoor
