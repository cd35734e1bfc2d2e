/-
 The forms of the operations. No condition.
-/
import Derived.Test.YtflobbpcabopjaaGreatDoorCode
import Derived.Test.YtflobbpcabopjaaGreatDoorOpT
set_option linter.unusedVariables false
set_option linter.unusedSimpArgs false
set_option maxRecDepth 100000
set_option maxHeartbeats 0
namespace Go.Proofs.YtflobbpcabopjaaGreatDoor
open Go.Abs
attribute [local irreducible] A0 Run
-- EV: Ins.v, Ins.row, Frm.v, Frm.row
attribute [local go_sem] Ins.v Ins.row Frm.v Frm.row
def C1z:List UInt8:= [109,111,118,101,32,99,111,110,115,116,32,110,105,108,32,98,111,111,108,32,117,112,103,101,116,32,117,112,115,101,116,32,103,108,111,98,97,108,32,115,101,116,103,108,111,98,32,103,101,116,32,115,101,116,32,115,101,108,102,32,117,110,97,114,121,32,98,105,110,97,114,121,32,106,117,109,112,32,116,101,115,116,32,99,97,108,108,32,116,97,105,108,32,114,101,116,117,114,110,32,118,97,114,97,114,103,32,116,97,98,108,101,32,97,112,112,101,110,100,32,99,108,111,115,117,114,101,32,112,114,101,112,32,108,111,111,112,32,105,116,101,114,32,110,101,120,116,32,99,108,111,115,101,32,109,97,114,107,32,115,116,97,116]
def B8r:V:= .isl (C6s.map fun w=> [.str w])
theorem B3Q:Pure Tryz.prog 171 [.str C1z] B8r:=
 Pure.execB (m:=50000) (d:=3) (fr:=2) B7M B5E (by kernel_rfl)
def C7b:G8:=fun f xs h n=>bif Nat.beq f 171 then(match xs with
 | [.str s]=>bif Q6 s C1z then F3 B8r h n else none
 |_=>none)else none
theorem C7c:G6 Tryz.prog C7b:=by
 intro f xs h n k hg
 unfold C7b at hg
 cases hb:Nat.beq f 171 with
 |false=>rw [hb]at hg;exact hg.no.elim
 | true=>
  rw [hb,cond_true]at hg
  obtain rfl:=Nat.eq_of_beq_eq_true hb
  split at hg
  ·rename_i s
   cases hs:Q6 s C1z with
   |false=>rw [hs]at hg;exact hg.no.elim
   |true=>
    rw [hs,cond_true]at hg
    rw [A3P.1 hs]
    exact A0.pureF B3Q rfl hg.one
  ·exact hg.no.elim
-- EV: Ins.v, Ins.row, Frm.v, Frm.row
def A8G(l:List Int):List V:=l.map fun z=> .int .i64 z
theorem D0g: ∀n:Nat,1≤n→n≤29→Pure Tryz.prog 130 [.int .i64 n] (.tup [(A8E n).v,.bool true]):=by
 have key: ∀n:Nat,n<30→(Nat.blt 0 n=true→eqR (exR Tryz.prog exT C7b 1000 5 1 130 [.int .i64 n]) (.tup [(A8E n).v,.bool true])=true):=by
  have:(List.range 30).all (fun n=> !Nat.blt 0 n||eqR (exR Tryz.prog exT C7b 1000 5 1 130 [.int .i64 n]) (.tup [(A8E n).v,.bool true]))=true:=by kernel_rfl
  intro n hn h0
  have:=List.all_eq_true.1 this n (List.mem_range.2 hn)
  rw [h0]at this
  simpa using this
 intro n h1 h2
 exact Pure.execB (m:=1000) (d:=5) (fr:=1) B7M C7c (key n (by omega) (Nat.ble_eq_true_of_le h1))
theorem D3A{op:Int}(h:L3 op=false):Pure Tryz.prog 130 [.int .i64 op] (.tup [(frm op).v,.bool false]):=by
 refine Pure.of 0 (A0.enter B2h (Nat.le_of_ble_eq_true rfl) ?_)
 refine Run.go 100 ?_
 simp -implicitDefEqProofs only [go_sem,A3]
 refine A0.pureF (r:=B8r) B3Q rfl ?_
 have hno:=of_decide_eq_false h
 have hf:frm op=⟨[],0,0,0,0,0⟩:=by rw [frm,if_neg (by rw [h];simp)]
 rw [hf]
 have hw:(C6s.map fun w=> [V.str w]).length=29:=rfl
 simp -implicitDefEqProofs only [go_sem,B8r,hw]
 omega
theorem C2d(op:Int):Pure Tryz.prog 130 [.int .i64 op] (.tup [(frm op).v,.bool (L3 op)]):=by
 cases h:L3 op with
 |false=>exact D3A h
 |true=>
  obtain⟨n,rfl,h1,h2⟩:=A2p h
  have:=D0g n h1 h2
  rwa [show frm (n:Int)=A8E n by rw [frm,if_pos h];rfl]
theorem B7z: ∀n:Nat,n≤12→Pure Tryz.prog 160 [.int .i64 n] (.tup [.int .i64 (low n),.int .i64 (high n)]):=by
 have this:(List.range 13).all (fun n=>eqR (exR Tryz.prog exT C1Z 1000 5 1 160 [.int .i64 n]) (.tup [.int .i64 (low n),.int .i64 (high n)]))=true:=by kernel_rfl
 intro n h2
 exact Pure.execB (m:=1000) (d:=5) (fr:=1) B7M B5E (List.all_eq_true.1 this n (List.mem_range.2 (by omega)))
theorem B1J(f:Frm)(i:Ins):Pure Tryz.prog 131 [f.v,i.v] (.tup [.agg (A8G f.ks),.agg (A8G i.fs)]):=by
 refine Pure.of 0 (A0.enter A5e (Nat.le_of_ble_eq_true rfl) ?_)
 refine Run.go 100 ?_
 simp -implicitDefEqProofs only [go_sem,A3,A8G,Frm.ks,Ins.fs]
theorem C0b(i:Ins):Pure Tryz.prog 125 [i.v] (.tup [.int .i64 (if A6j i.op then i.b else 0),.bool (A6j i.op)]):=by
 have hj:A6j i.op=decide (i.op=14∨i.op=15∨i.op=23∨i.op=24∨i.op=26):=rfl
 rw [hj]
 refine Pure.of 0 (A0.enter A5b (Nat.le_of_ble_eq_true rfl) ?_)
 refine Run.go 100 ?_
 simp -implicitDefEqProofs only [go_sem,A3]
 repeat' (first|refine And.intro ?_ ?_|refine fun h=> ?_)
 all_goals simp_all
end Go.Proofs.YtflobbpcabopjaaGreatDoor
