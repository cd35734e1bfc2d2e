/-
 The forms of the operations. No condition.
-/
import Derived.Test.YtcjgeliglgcflaaGreatDoorCode
import Derived.Test.YtcjgeliglgcflaaGreatDoorOpT
set_option linter.unusedVariables false
set_option linter.unusedSimpArgs false
set_option maxRecDepth 100000
set_option maxHeartbeats 0
namespace Go.Proofs.YtcjgeliglgcflaaGreatDoor
open Go.Abs
attribute [local irreducible] A3 Run
-- EV: Ins.v, Ins.row, Frm.v, Frm.row
attribute [local go_sem] Ins.v Ins.row Frm.v Frm.row
def B8b:List UInt8:= [109,111,118,101,32,99,111,110,115,116,32,110,105,108,32,98,111,111,108,32,117,112,103,101,116,32,117,112,115,101,116,32,103,108,111,98,97,108,32,115,101,116,103,108,111,98,32,103,101,116,32,115,101,116,32,115,101,108,102,32,117,110,97,114,121,32,98,105,110,97,114,121,32,106,117,109,112,32,116,101,115,116,32,99,97,108,108,32,116,97,105,108,32,114,101,116,117,114,110,32,118,97,114,97,114,103,32,116,97,98,108,101,32,97,112,112,101,110,100,32,99,108,111,115,117,114,101,32,112,114,101,112,32,108,111,111,112,32,105,116,101,114,32,110,101,120,116,32,99,108,111,115,101,32,109,97,114,107,32,115,116,97,116]
def B4T:V:= .isl (C2O.map fun w=> [.str w])
theorem B0n:Pure Tryz.prog 113 [.str B8b] B4T:=
 Pure.execB (m:=50000) (d:=3) (fr:=2) A4B A2o (by kernel_rfl)
def C3v:I9:=fun f xs h n=>bif Nat.beq f 113 then(match xs with
 | [.str s]=>bif R4 s B8b then E9 B4T h n else none
 |_=>none)else none
theorem C3w:H4 Tryz.prog C3v:=by
 intro f xs h n k hg
 unfold C3v at hg
 cases hb:Nat.beq f 113 with
 |false=>rw [hb]at hg;exact hg.no.elim
 | true=>
  rw [hb,cond_true]at hg
  obtain rfl:=Nat.eq_of_beq_eq_true hb
  split at hg
  ·rename_i s
   cases hs:R4 s B8b with
   |false=>rw [hs]at hg;exact hg.no.elim
   |true=>
    rw [hs,cond_true]at hg
    rw [A2T.1 hs]
    exact A3.pureF B0n rfl hg.one
  ·exact hg.no.elim
-- EV: Ins.v, Ins.row, Frm.v, Frm.row
def B5H(l:List Int):List V:=l.map fun z=> .int .i64 z
theorem C6C: ∀n:Nat,1≤n→n≤29→Pure Tryz.prog 100 [.int .i64 n] (.tup [(B1M n).v,.bool true]):=by
 have key: ∀n:Nat,n<30→(Nat.blt 0 n=true→eqR (exR Tryz.prog exT C3v 1000 5 1 100 [.int .i64 n]) (.tup [(B1M n).v,.bool true])=true):=by
  have:(List.range 30).all (fun n=> !Nat.blt 0 n||eqR (exR Tryz.prog exT C3v 1000 5 1 100 [.int .i64 n]) (.tup [(B1M n).v,.bool true]))=true:=by kernel_rfl
  intro n hn h0
  have:=List.all_eq_true.1 this n (List.mem_range.2 hn)
  rw [h0]at this
  simpa using this
 intro n h1 h2
 exact Pure.execB (m:=1000) (d:=5) (fr:=1) A4B C3w (key n (by omega) (Nat.ble_eq_true_of_le h1))
theorem C9Z{op:Int}(h:A1Z op=false):Pure Tryz.prog 100 [.int .i64 op] (.tup [(frm op).v,.bool false]):=by
 refine Pure.of 0 (A3.enter A8W (Nat.le_of_ble_eq_true rfl) ?_)
 refine Run.go 100 ?_
 simp -implicitDefEqProofs only [go_sem,A8]
 refine A3.pureF (r:=B4T) B0n rfl ?_
 have hno:=of_decide_eq_false h
 have hf:frm op=⟨[],0,0,0,0,0⟩:=by rw [frm,if_neg (by rw [h];simp)]
 rw [hf]
 have hw:(C2O.map fun w=> [V.str w]).length=29:=rfl
 simp -implicitDefEqProofs only [go_sem,B4T,hw]
 omega
theorem B8M(op:Int):Pure Tryz.prog 100 [.int .i64 op] (.tup [(frm op).v,.bool (A1Z op)]):=by
 cases h:A1Z op with
 |false=>exact C9Z h
 |true=>
  obtain⟨n,rfl,h1,h2⟩:=B1R h
  have:=C6C n h1 h2
  rwa [show frm (n:Int)=B1M n by rw [frm,if_pos h];rfl]
theorem B4f: ∀n:Nat,n≤12→Pure Tryz.prog 102 [.int .i64 n] (.tup [.int .i64 (low n),.int .i64 (high n)]):=by
 have this:(List.range 13).all (fun n=>eqR (exR Tryz.prog exT B8I 1000 5 1 102 [.int .i64 n]) (.tup [.int .i64 (low n),.int .i64 (high n)]))=true:=by kernel_rfl
 intro n h2
 exact Pure.execB (m:=1000) (d:=5) (fr:=1) A4B A2o (List.all_eq_true.1 this n (List.mem_range.2 (by omega)))
theorem A8F(f:Frm)(i:Ins):Pure Tryz.prog 101 [f.v,i.v] (.tup [.agg (B5H f.ks),.agg (B5H i.fs)]):=by
 refine Pure.of 0 (A3.enter A3V (Nat.le_of_ble_eq_true rfl) ?_)
 refine Run.go 100 ?_
 simp -implicitDefEqProofs only [go_sem,A8,B5H,Frm.ks,Ins.fs]
theorem B6L(i:Ins):Pure Tryz.prog 78 [i.v] (.tup [.int .i64 (if B1Q i.op then i.b else 0),.bool (B1Q i.op)]):=by
 have hj:B1Q i.op=decide (i.op=14∨i.op=15∨i.op=23∨i.op=24∨i.op=26):=rfl
 rw [hj]
 refine Pure.of 0 (A3.enter A3S (Nat.le_of_ble_eq_true rfl) ?_)
 refine Run.go 100 ?_
 simp -implicitDefEqProofs only [go_sem,A8]
 repeat' (first|refine And.intro ?_ ?_|refine fun h=> ?_)
 all_goals simp_all
end Go.Proofs.YtcjgeliglgcflaaGreatDoor
