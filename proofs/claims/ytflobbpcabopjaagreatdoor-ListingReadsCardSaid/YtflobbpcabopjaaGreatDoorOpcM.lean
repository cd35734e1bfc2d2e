/-
 The forms of the operations. No condition.
-/
import Derived.Test.YtflobbpcabopjaaGreatDoorCode
import Derived.Test.YtflobbpcabopjaaGreatDoorTxt0
set_option linter.unusedVariables false set_option maxRecDepth 100000
set_option maxHeartbeats 0
namespace Go.Proofs.YtflobbpcabopjaaGreatDoor
open Go.Abs
attribute [local irreducible] A0 Run
-- EV: Ins.v, Ins.row, Frm.v, Frm.row
attribute [local go_sem] Ins.v Ins.row Frm.v Frm.row
def B8T:List UInt8:= [109,111,118,101,32,99,111,110,115,116,32,110,105,108,32,98,111,111,108,32,117,112,103,101,116,32,117,112,115,101,116,32,103,108,111,98,97,108,32,115,101,116,103,108,111,98,32,103,101,116,32,115,101,116,32,115,101,108,102,32,117,110,97,114,121,32,98,105,110,97,114,121,32,106,117,109,112,32,116,101,115,116,32,99,97,108,108,32,116,97,105,108,32,114,101,116,117,114,110,32,118,97,114,97,114,103,32,116,97,98,108,101,32,97,112,112,101,110,100,32,99,108,111,115,117,114,101,32,112,114,101,112,32,108,111,111,112,32,105,116,101,114,32,110,101,120,116,32,99,108,111,115,101,32,109,97,114,107,32,115,116,97,116]
def B8U:V:= .isl (d8.map fun w=> [.str w])
theorem A8h:Pure Tryz.prog 171 [.str B8T] B8U:=
 Pure.execB (m:=50000) (d:=3) (fr:=2) B4X B5x zh
def C6R:G9:=fun f xs h n=>bif Nat.beq f 171 then(match xs with
 | [.str s]=>bif M3 s B8T then G3 B8U h n else none
 |_=>none)else none
theorem C3e:G2 Tryz.prog C6R:=by
 intro f xs h n k hg
 unfold C6R at hg
 cases hb:Nat.beq f 171 with
 |false=>rw [hb]at hg;exact hg.no.elim
 | true=>
  rw [hb,cond_true]at hg
  obtain rfl:=Nat.eq_of_beq_eq_true hb
  split at hg
  ·rename_i s
   cases hs:M3 s B8T with
   |false=>rw [hs]at hg;exact hg.no.elim
   |true=>
    rw [hs,cond_true]at hg
    rw [o8.1 hs]
    exact A0.pureF A8h rfl hg.one
  ·exact JJ
-- EV: Ins.v, Ins.row, Frm.v, Frm.row
def B7e(l:List Int):List V:=l.map fun z=> .int .i64 z
theorem D2H: ∀n:Nat,1≤n→n≤29→Pure Tryz.prog 130 [.int .i64 n] (.tup [(B3f n).v,.bool true]):=by
 have key: ∀n:Nat,n<30→(Nat.blt 0 n=true→eqR (exR Tryz.prog exT C6R 1000 5 1 130 [.int .i64 n]) (.tup [(B3f n).v,.bool true])=true):=by
  have:(List.range 30).all (fun n=> !Nat.blt 0 n||eqR (exR Tryz.prog exT C6R 1000 5 1 130 [.int .i64 n]) (.tup [(B3f n).v,.bool true]))=true:=by kernel_rfl
  intro n hn h0
  have:=List.all_eq_true.1 this n (List.mem_range.2 hn)
  rw [h0]at this
  simpa using this
 intro n h1 h2
 exact Pure.execB (m:=1000) (d:=5) (fr:=1) B4X C3e (key n zd (Nat.ble_eq_true_of_le h1))
theorem D6m{op:Int}(h:A1g op=false):Pure Tryz.prog 130 [.int .i64 op] (.tup [(frm op).v,.bool false]):=by
 refine Pure.of 0 (A0.enter B2m Jo ?_)
 refine Run.go 100 ?_
 refine Qz ?_
 refine A0.pureF (r:=B8U) A8h rfl ?_
 have hno:=of_decide_eq_false h
 have hf:frm op=⟨[],0,0,0,0,0⟩:=by rw [frm,if_neg (by rw [h];simp)]
 rw [hf]
 have hw:(d8.map fun w=> [V.str w]).length=29:=rfl
 simp -implicitDefEqProofs only [go_sem,B8U,hw]
 omega
theorem B8v(op:Int):Pure Tryz.prog 130 [.int .i64 op] (.tup [(frm op).v,.bool (A1g op)]):=by
 cases h:A1g op with
 |false=>exact D6m h
 |true=>
  obtain⟨n,rfl,h1,h2⟩:=A5i h
  have:=D2H n h1 h2
  rwa [show frm (n:Int)=B3f n by rw [frm,if_pos h];rfl]
theorem B7W: ∀n:Nat,n≤12→Pure Tryz.prog 160 [.int .i64 n] (.tup [.int .i64 (low n),.int .i64 (high n)]):=by
 have this:(List.range 13).all (fun n=>eqR (exR Tryz.prog exT D0Q 1000 5 1 160 [.int .i64 n]) (.tup [.int .i64 (low n),.int .i64 (high n)]))=true:=by kernel_rfl
 intro n h2
 exact Pure.execB (m:=1000) (d:=5) (fr:=1) B4X B5x (List.all_eq_true.1 this n (List.mem_range.2 zd))
theorem A6v(f:Frm)(i:Ins):Pure Tryz.prog 131 [f.v,i.v] (.tup [.agg (B7e f.ks),.agg (B7e i.fs)]):=by
 refine Pure.of 0 (A0.enter A5D Jo ?_)
 refine Run.go 100 ?_
 simp -implicitDefEqProofs only [go_sem,A3,B7e,Frm.ks,Ins.fs]
theorem C0T(i:Ins):Pure Tryz.prog 125 [i.v] (.tup [.int .i64 (if B5e i.op then i.b else 0),.bool (B5e i.op)]):=by
 have hj:B5e i.op=decide (i.op=14∨i.op=15∨i.op=23∨i.op=24∨i.op=26):=rfl
 rw [hj]
 refine Pure.of 0 (A0.enter A5A Jo ?_)
 refine Run.go 100 ?_
 refine Qz ?_
 repeat' (first|refine And.intro ?_ ?_|refine fun h=> ?_)
 all_goals simp_all
end Go.Proofs.YtflobbpcabopjaaGreatDoor
