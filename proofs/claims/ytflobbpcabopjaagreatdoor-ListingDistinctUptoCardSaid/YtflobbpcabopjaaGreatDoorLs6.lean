/-
 ListingDistinct: the walk. No condition.
-/
import Derived.Test.YtflobbpcabopjaaGreatDoorLs0
import Derived.Test.YtflobbpcabopjaaGreatDoorLsI
import Derived.Test.YtflobbpcabopjaaGreatDoorLsV
import Derived.Test.YtflobbpcabopjaaGreatDoorFnQ2
set_option linter.unusedVariables false
set_option linter.unusedSimpArgs false
set_option maxRecDepth 100000
set_option maxHeartbeats 0
namespace Go.Proofs.YtflobbpcabopjaaGreatDoor
open Go Go.Abs
attribute [local irreducible] A0 Run
theorem B8P(p q:Fn)(hp:p.bd)(hq:q.bd)(vp:n64L p.row)(vq:n64L q.row)(hcp:p.each.length≤1000000)(hcq:q.each.length≤1000000):Abs.Pure Tryz.prog 8 [.agg p.row,.agg q.row] (.bool true):=by
 have aw:=B0Q
 have hlp:=A6m p hp hcp
 have hlq:=A6m q hq hcq
 obtain⟨g1,g2⟩:=B5 p
 have hps:=Fn.row_sub E8 p
 obtain⟨k1,k2⟩:=B5 q
 have hqs:=Fn.row_sub E8 q
 have hdp:p.depth≤1000000:=Nat.le_trans (Fn.depth_each p) (by omega)
 have hdq:q.depth≤1000000:=Nat.le_trans (Fn.depth_each q) (by omega)
 have hsame:=C3Q p hp q
 by_cases c1:(p.each.length:Int)>60∨A1n p.each>2000
 ·rw [decide_eq_true c1]at hlp
  generalize p.row=pr at*
  generalize q.row=qr at*
  refine Pure.of 0 (A0.enter B6 (Nat.le_of_ble_eq_true rfl) (Run.go 100 ?_))
  simp -implicitDefEqProofs only [go_sem,A3,g1,g2,k1,k2]
  refine A0.pureF hlp (by simp -implicitDefEqProofs only [go_sem,hps]) ?_
  simp -implicitDefEqProofs only [go_sem]
  refine A0.pureF aw rfl ?_
  simp -implicitDefEqProofs only [go_sem]
 rw [decide_eq_false c1]at hlp
 by_cases c2:(q.each.length:Int)>60∨A1n q.each>2000
 ·rw [decide_eq_true c2]at hlq
  generalize p.row=pr at*
  generalize q.row=qr at*
  refine Pure.of 0 (A0.enter B6 (Nat.le_of_ble_eq_true rfl) (Run.go 100 ?_))
  simp -implicitDefEqProofs only [go_sem,A3,g1,g2,k1,k2]
  refine A0.pureF hlp (by simp -implicitDefEqProofs only [go_sem,hps]) ?_
  simp -implicitDefEqProofs only [go_sem,k1,k2]
  refine A0.pureF hlq (by simp -implicitDefEqProofs only [go_sem,hqs]) ?_
  simp -implicitDefEqProofs only [go_sem]
  refine A0.pureF aw rfl ?_
  simp -implicitDefEqProofs only [go_sem]
 rw [decide_eq_false c2]at hlq
 have htp:=V6 p hp hdp vp (by omega)
 have htq:=V6 q hq hdq vq (by omega)
 unfold B4h at htp htq
 by_cases d1: ¬A6d p=0
 ·rw [if_neg d1]at htp
  by_cases d2:A6d q=0
  ·rw [if_pos d2]at htq
   generalize Q8 q=t at*
   generalize p.row=pr at*
   generalize q.row=qr at*
   refine Pure.of 0 (A0.enter B6 (Nat.le_of_ble_eq_true rfl) (Run.go 100 ?_))
   simp -implicitDefEqProofs only [go_sem,A3,g1,g2,k1,k2]
   refine A0.pureF hlp (by simp -implicitDefEqProofs only [go_sem,hps]) ?_
   simp -implicitDefEqProofs only [go_sem,k1,k2]
   refine A0.pureF hlq (by simp -implicitDefEqProofs only [go_sem,hqs]) ?_
   simp -implicitDefEqProofs only [go_sem,g1,g2]
   refine A0.pureF htp (by simp -implicitDefEqProofs only [go_sem,hps]) ?_
   simp -implicitDefEqProofs only [go_sem,k1,k2]
   refine A0.pureF htq (by simp -implicitDefEqProofs only [go_sem,hqs]) ?_
   simp -implicitDefEqProofs only [go_sem,d1]
   refine A0.pureF aw rfl ?_
   simp -implicitDefEqProofs only [go_sem]
  ·rw [if_neg d2]at htq
   generalize p.row=pr at*
   generalize q.row=qr at*
   refine Pure.of 0 (A0.enter B6 (Nat.le_of_ble_eq_true rfl) (Run.go 100 ?_))
   simp -implicitDefEqProofs only [go_sem,A3,g1,g2,k1,k2]
   refine A0.pureF hlp (by simp -implicitDefEqProofs only [go_sem,hps]) ?_
   simp -implicitDefEqProofs only [go_sem,k1,k2]
   refine A0.pureF hlq (by simp -implicitDefEqProofs only [go_sem,hqs]) ?_
   simp -implicitDefEqProofs only [go_sem,g1,g2]
   refine A0.pureF htp (by simp -implicitDefEqProofs only [go_sem,hps]) ?_
   simp -implicitDefEqProofs only [go_sem,k1,k2]
   refine A0.pureF htq (by simp -implicitDefEqProofs only [go_sem,hqs]) ?_
   simp -implicitDefEqProofs only [go_sem,d1]
   refine A0.pureF aw rfl ?_
   simp -implicitDefEqProofs only [go_sem]
 have d1:A6d p=0:=Classical.not_not.1 d1
 rw [if_pos d1]at htp
 by_cases d2: ¬A6d q=0
 ·rw [if_neg d2]at htq
  generalize Q8 p=s at*
  generalize p.row=pr at*
  generalize q.row=qr at*
  refine Pure.of 0 (A0.enter B6 (Nat.le_of_ble_eq_true rfl) (Run.go 100 ?_))
  simp -implicitDefEqProofs only [go_sem,A3,g1,g2,k1,k2]
  refine A0.pureF hlp (by simp -implicitDefEqProofs only [go_sem,hps]) ?_
  simp -implicitDefEqProofs only [go_sem,k1,k2]
  refine A0.pureF hlq (by simp -implicitDefEqProofs only [go_sem,hqs]) ?_
  simp -implicitDefEqProofs only [go_sem,g1,g2]
  refine A0.pureF htp (by simp -implicitDefEqProofs only [go_sem,hps]) ?_
  simp -implicitDefEqProofs only [go_sem,k1,k2]
  refine A0.pureF htq (by simp -implicitDefEqProofs only [go_sem,hqs]) ?_
  simp -implicitDefEqProofs only [go_sem,d2]
  refine A0.pureF aw rfl ?_
  simp -implicitDefEqProofs only [go_sem]
 have d2:A6d q=0:=Classical.not_not.1 d2
 rw [if_pos d2]at htq
 have hinj:= @C3n p q (B5I d1 vp).2 (B5I d2 vq).2
 by_cases hpq:p=q
 ·have hl:Q8 p=Q8 q:=by rw [hpq]
  rw [B3G hpq]at hsame
  rw [hl]at htp
  generalize Q8 q=s at*
  generalize p.row=pr at*
  generalize q.row=qr at*
  refine Pure.of 0 (A0.enter B6 (Nat.le_of_ble_eq_true rfl) (Run.go 100 ?_))
  simp -implicitDefEqProofs only [go_sem,A3,g1,g2,k1,k2]
  refine A0.pureF hlp (by simp -implicitDefEqProofs only [go_sem,hps]) ?_
  simp -implicitDefEqProofs only [go_sem,k1,k2]
  refine A0.pureF hlq (by simp -implicitDefEqProofs only [go_sem,hqs]) ?_
  simp -implicitDefEqProofs only [go_sem,g1,g2]
  refine A0.pureF htp (by simp -implicitDefEqProofs only [go_sem,hps]) ?_
  simp -implicitDefEqProofs only [go_sem,k1,k2]
  refine A0.pureF htq (by simp -implicitDefEqProofs only [go_sem,hqs]) ?_
  simp -implicitDefEqProofs only [go_sem,g1,g2,k1,k2]
  refine A0.pureF hsame (by simp -implicitDefEqProofs only [go_sem,hps,hqs]) ?_
  simp -implicitDefEqProofs only [go_sem]
  refine A0.pureF aw rfl ?_
  simp -implicitDefEqProofs only [go_sem]
 ·have hl:(Q8 p=Q8 q)=False:=eq_false fun h=>hpq (hinj h)
  rw [M9 hpq]at hsame
  generalize Q8 p=s at*
  generalize Q8 q=t at*
  generalize p.row=pr at*
  generalize q.row=qr at*
  refine Pure.of 0 (A0.enter B6 (Nat.le_of_ble_eq_true rfl) (Run.go 100 ?_))
  simp -implicitDefEqProofs only [go_sem,A3,g1,g2,k1,k2]
  refine A0.pureF hlp (by simp -implicitDefEqProofs only [go_sem,hps]) ?_
  simp -implicitDefEqProofs only [go_sem,k1,k2]
  refine A0.pureF hlq (by simp -implicitDefEqProofs only [go_sem,hqs]) ?_
  simp -implicitDefEqProofs only [go_sem,g1,g2]
  refine A0.pureF htp (by simp -implicitDefEqProofs only [go_sem,hps]) ?_
  simp -implicitDefEqProofs only [go_sem,k1,k2]
  refine A0.pureF htq (by simp -implicitDefEqProofs only [go_sem,hqs]) ?_
  simp -implicitDefEqProofs only [go_sem,g1,g2,k1,k2,hl]
  refine A0.pureF hsame (by simp -implicitDefEqProofs only [go_sem,hps,hqs]) ?_
  simp -implicitDefEqProofs only [go_sem]
  refine A0.pureF aw rfl ?_
  simp -implicitDefEqProofs only [go_sem]
theorem A8L(n0:List V)(w0:A4J Tryz.prog 29 n0)(n1:List V)(w1:A4J Tryz.prog 29 n1)(hsm:bkL [.agg n0,.agg n1]≤1048576):Abs.Pure Tryz.prog 8 [.agg n0,.agg n1] (.bool true):=by
 have v0:=B0g w0
 have v1:=B0g w1
 obtain⟨p,rfl,hp,hb⟩:=B1N w0
 obtain⟨q,rfl,hq,hc⟩:=B1N w1
 simp only [bkL,bkV]at hsm
 exact B8P p q hb hc v0 v1 (by have:=B4E p;omega) (by have:=B4E q;omega)
end Go.Proofs.YtflobbpcabopjaaGreatDoor
