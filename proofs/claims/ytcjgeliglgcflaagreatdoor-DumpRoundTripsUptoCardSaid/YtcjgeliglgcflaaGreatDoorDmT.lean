/-
 DumpRoundTrips, on arguments of a bounded bulk. No condition.
-/
import Derived.Test.YtcjgeliglgcflaaGreatDoorDmJ
import Derived.Test.YtcjgeliglgcflaaGreatDoorDmP
import Derived.Test.YtcjgeliglgcflaaGreatDoorDmL
import Derived.Test.YtcjgeliglgcflaaGreatDoorDmB
import Derived.Test.YtcjgeliglgcflaaGreatDoorFnQ2
import Derived.Test.YtcjgeliglgcflaaGreatDoorFnQ4
import Derived.Test.YtcjgeliglgcflaaGreatDoorLs3
set_option linter.unusedVariables false
set_option linter.unusedSimpArgs false
set_option maxRecDepth 100000
set_option maxHeartbeats 0
namespace Go.Proofs.YtcjgeliglgcflaaGreatDoor
open Go Go.Abs
attribute [local irreducible] A3 C2 Run
theorem C5w{s:Int}(hs:0≤s∧s<4294967296): ∃a b c d,le4 s= [a,b,c,d]∧V4 a b c d=s:=by
 obtain⟨a,b,c,d,e,h1,h2,h3,h4,h5⟩:=C1C hs
 exact⟨a,b,c,d,e,(C0H h1 h2 h3 h4).trans h5⟩
theorem B9U{p:Fn}(hk:A3E p=0)(hv:v64L p.row)(hs:O1 (W6 p))(hl:(W6 p).length≤9000000000): ∃L a b c d,B5y p=L++ [a,b,c,d]∧5≤L.length∧J8 L∧B7k L a b c d= .ok p:=by
 obtain⟨a,b,c,d,e,hV⟩:=C5w (B2F (A2S p))
 have h5:(A2S p).length=(W6 p).length+5:=by
  unfold A2S
  simp
 refine⟨A2S p,a,b,c,d,?_,by omega,⟨C3d p,by omega⟩,?_⟩
 ·rw [B5y,e]
 have e1:=B5C 64 p [] (B5i hk).1 hv (B5i hk).2 (by rw [List.append_nil];exact hs)
 rw [List.append_nil]at e1
 have ht:B0d ((A2S p).take 5)= [83,67,82,66,1]:=by
  unfold A2S
  rw [show (5:Nat)= [(83:Int),67,82,66,1].length from rfl,List.take_left]
  rfl
 have hd:(A2S p).drop 5=W6 p:=by
  unfold A2S
  rw [show (5:Nat)= [(83:Int),67,82,66,1].length from rfl,List.drop_left]
 unfold B7k
 rw [if_neg (fun h=>h hV),if_neg (fun h=>h ht),hd,e1]
 simp only
 rw [if_neg (fun h=>h rfl),if_pos hk]
theorem C2e(p:Fn)(hp:p.bd)(vp:v64L p.row)(np:n64L p.row)(hbp:bkL p.row≤1048576):Abs.Pure Tryz.prog 3 [.agg p.row] (.bool true):=by
 have aw:=B6X
 have hEp:=C3i p
 have hFp:=C3j p
 have hd:=Nat.le_trans (Fn.depth_each p) (show p.each.length≤1000000 by omega)
 have hlp:=C1B p hp (by omega)
 have hputp:=C1Z p hp hd (by omega)
 have hchk:=A0K p hp hd
 have hsame:=B7M p p hp hp (by omega) (by omega)
 have hsm2:=A9Z p hp p
 rw [A7f (rfl:p=p)]at hsame hsm2
 have hps:=Fn.row_sub G6 p
 obtain⟨g1,g2⟩:=C7 p
 by_cases c0:(p.each.length:Int)>60∨A3o p.each>2000
 ·rw [decide_eq_true c0]at hlp
  generalize p.row=pr at*
  refine Pure.of 0 (A3.enter E3 (Nat.le_of_ble_eq_true rfl) (Run.go 100 ?_))
  simp -implicitDefEqProofs only [go_sem,A8,g1,g2]
  refine A3.pureF hlp (by simp -implicitDefEqProofs only [go_sem,hps]) ?_
  simp -implicitDefEqProofs only [go_sem]
  refine A3.pureF aw rfl ?_
  simp -implicitDefEqProofs only [go_sem]
 rw [decide_eq_false c0]at hlp
 unfold C6J at hputp
 by_cases c1:A3E p=0
 rotate_left
 ·rw [if_neg c1]at hputp
  generalize p.row=pr at*
  refine Pure.of 0 (A3.enter E3 (Nat.le_of_ble_eq_true rfl) (Run.go 100 ?_))
  simp -implicitDefEqProofs only [go_sem,A8,g1,g2]
  refine A3.pureF hlp (by simp -implicitDefEqProofs only [go_sem,hps]) ?_
  simp -implicitDefEqProofs only [go_sem,g1,g2]
  refine A3.pureF hputp (by simp -implicitDefEqProofs only [go_sem,hps]) ?_
  simp -implicitDefEqProofs only [go_sem,c1,g1,g2]
  refine A3.pureF hchk (by simp -implicitDefEqProofs only [go_sem,hps]) ?_
  simp -implicitDefEqProofs only [go_sem]
  refine A3.pureF aw rfl ?_
  simp -implicitDefEqProofs only [go_sem]
 rw [if_pos c1]at hputp
 have htx:=B2V p hp hd np (by omega)
 unfold C2B at htx
 rw [if_pos c1]at htx
 obtain⟨L,a,b,c,d,hf,h5,hgL,hG⟩:=B9U c1 vp (by unfold O1;omega) (by omega)
 have hget:=C1p L a b c d h5 hgL
 rw [hG,←hf]at hget
 simp only [C6k]at hget
 have hsb:=A8w
 generalize B2d p=s at*
 generalize p.row=pr at*
 refine Pure.of 0 (A3.enter E3 (Nat.le_of_ble_eq_true rfl) (Run.go 100 ?_))
 simp -implicitDefEqProofs only [go_sem,A8,g1,g2]
 refine A3.pureF hlp (by simp -implicitDefEqProofs only [go_sem,hps]) ?_
 simp -implicitDefEqProofs only [go_sem,g1,g2]
 refine A3.pureF hputp (by simp -implicitDefEqProofs only [go_sem,hps]) ?_
 simp -implicitDefEqProofs only [go_sem,g1,g2]
 refine A3.pureF hget (by simp -implicitDefEqProofs only [go_sem,A8w]) ?_
 simp -implicitDefEqProofs only [go_sem,g1,g2]
 refine A3.pureF htx (by simp -implicitDefEqProofs only [go_sem,hps]) ?_
 simp -implicitDefEqProofs only [go_sem,g1,g2]
 refine A3.pureF htx (by simp -implicitDefEqProofs only [go_sem,hps]) ?_
 simp -implicitDefEqProofs only [go_sem,g1,g2]
 refine A3.pureF hsm2 (by simp -implicitDefEqProofs only [go_sem,hps]) ?_
 simp -implicitDefEqProofs only [go_sem,g1,g2]
 refine A3.pureF hsame (by simp -implicitDefEqProofs only [go_sem,hps]) ?_
 simp -implicitDefEqProofs only [go_sem,g1,g2]
 refine A3.pureF aw rfl ?_
 simp -implicitDefEqProofs only [go_sem]
theorem A7l(n0:List V)(w0:A5K Tryz.prog 29 n0)(hsm:bkL [.agg n0]≤1048576):Abs.Pure Tryz.prog 3 [.agg n0] (.bool true):=by
 have v0:=C4g w0
 have v1:=C0B w0
 obtain⟨p,rfl,hp,hb⟩:=C1k w0
 simp only [bkL,bkV]at hsm
 exact C2e p hb v0 v1 (by omega)
end Go.Proofs.YtcjgeliglgcflaaGreatDoor
