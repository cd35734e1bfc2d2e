/-
 The chapter's examples: what each function answers on them, by running it. No condition.
-/
import Derived.Test.YtcjgeliglgcflaaGreatDoorFnMb
import Derived.Test.YtcjgeliglgcflaaGreatDoorCode
import Derived.Test.YtcjgeliglgcflaaGreatDoorFnCk
set_option linter.unusedVariables false
set_option linter.unusedSimpArgs false
set_option maxRecDepth 1000000
set_option maxHeartbeats 0
namespace Go.Proofs.YtcjgeliglgcflaaGreatDoor
open Go.Abs
attribute [local irreducible] A3 Run
def C7c:Ins:=⟨18,0,0,0,0⟩
def B2w:Fn:=⟨[109,97,105,110],0,0,true,1,[C7c],[1],[],[],[],[]⟩
def i5(a b c d e:Int):List V:= [.int .i64 a,.int .i64 b,.int .i64 c,.int .i64 d,.int .i64 e]
def X0:List V:= [.str [109,97,105,110],.int .i64 0,.int .i64 0,.bool true,.int .i64 1,.isl [i5 18 0 0 0 0],.isl [[.int .i64 1]],.isl [],.isl [],.isl [],.isl []]
theorem C0f:B2w.row=X0:=by rw [Fn.row_eq];rfl
def n8(n:Nat):List Nat:= [n,0,0,0,0,0,0,0]
def B9g(l:List Nat):List (List V):=l.map fun(n:Nat)=> [V.int .u8 (n:Int)]
def C0P:List Nat:=n8 4++ [109,97,105,110]++n8 0++n8 0++ [1]++n8 1++n8 1++n8 18++n8 0++n8 0++n8 0++n8 0++n8 1++n8 1++n8 0++n8 0++n8 0++n8 0
def D1j:List Nat:= [236,73,49,172]
def C2T:List Nat:= [83,67,82,66,1]++C0P++D1j
def B5O(T:List (FuncId×List V×V))(lib:I9):I9:=fun f xs h n=>find f xs h n T
where
 find (f:FuncId) (xs:List V) (h:A2) (n:Nat):List (FuncId×List V×V)→P4
  | []=>lib f xs h n
  |e::r=>bif Nat.beq e.1 f&&V.beqL e.2.1 xs then E9 e.2.2 h n else find f xs h n r
theorem B5P{T:List (FuncId×List V×V)}{lib:I9}(hT: ∀e∈T,Abs.Pure Tryz.prog e.1 e.2.1 e.2.2∧e.2.1.map (V.sub G6)=e.2.1)(hl:H4 Tryz.prog lib):H4 Tryz.prog (B5O T lib):=by
 intro f xs h n k hg
 have key: ∀T':List (FuncId×List V×V),(∀e∈T',e∈T)→Go.Abs.Good (B5O.find lib f xs h n T') k→A3 Tryz.prog f xs h n k:=by
  intro T'
  induction T' with
  |nil=>exact fun _ hg=>hl f xs h n k hg
  | cons e r ih=>
   intro hm hg
   simp only [B5O.find]at hg
   cases hb:Nat.beq e.1 f&&V.beqL e.2.1 xs with
   |false=>rw [hb]at hg;exact ih (fun x hx=>hm x (List.mem_cons_of_mem _ hx)) hg
   |true=>
    rw [hb,cond_true]at hg
    rw [Bool.and_eq_true]at hb
    obtain⟨h1,h2⟩:=hT e (hm e List.mem_cons_self)
    rw [←Nat.eq_of_beq_eq_true hb.1,←V.beqL_eq hb.2]
    exact A3.pure h1 h2 hg.one
 exact key T (fun _ h=>h) hg
theorem C0e:A3E B2w=0:=by decide+kernel
theorem B6y:Abs.Pure Tryz.prog 7 [.agg X0] (.int .i64 0):=by
 have hb:B2w.bd:=by
  intro q hq
  rw [Fn.each_eq]at hq
  obtain rfl:=List.mem_singleton.1 (show q∈ [B2w] from hq)
  exact⟨by decide,by decide,by decide,by decide,by decide,by decide⟩
 have h:=A0K B2w hb (by rw [Fn.depth_eq];decide)
 rw [C0e,C0f]at h
 exact h
theorem B7Q:Abs.Pure Tryz.prog 14 [] (.agg X0):=
 Pure.execB (m:=20000) (d:=20) (fr:=1) A4B A2o (by kernel_rfl)
theorem B5v:Abs.Pure Tryz.prog 20 [.isl (B9g C0P)] (.tup [.agg X0,.int .i64 0]):=
 Pure.execB (m:=20000) (d:=20) (fr:=1) A4B A2o (by kernel_rfl)
theorem A9Zq:Abs.Pure Tryz.prog 11 [.agg X0,.agg X0] (.bool true):=
 Pure.execB (m:=20000) (d:=20) (fr:=1) A4B A2o (by kernel_rfl)
def D1f:I9:=B5O [(7,[.agg X0],.int .i64 0),(20,[.isl (B9g C0P)],.tup [.agg X0,.int .i64 0])] B8I
theorem B8D:H4 Tryz.prog D1f:=B5P (fun e he=>by
 simp only [List.mem_cons,List.not_mem_nil,or_false]at he
 rcases he with rfl|rfl
 ·exact⟨B6y,rfl⟩
 ·exact⟨B5v,rfl⟩) A2o
theorem C2a:Abs.Pure Tryz.prog 6 [.agg X0] (.tup [.isl (B9g C2T),.int .i64 0]):=
 Pure.execB (m:=20000) (d:=20) (fr:=1) A4B B8D (by kernel_rfl)
theorem C1q:Abs.Pure Tryz.prog 8 [.isl (B9g C2T)] (.tup [.agg X0,.int .i64 0]):=
 Pure.execB (m:=20000) (d:=20) (fr:=1) A4B B8D (by kernel_rfl)
def D1g:I9:=B5O [
 (14,[],.agg X0),
 (6,[.agg X0],.tup [.isl (B9g C2T),.int .i64 0]),
 (8,[.isl (B9g C2T)],.tup [.agg X0,.int .i64 0]),
 (11,[.agg X0,.agg X0],.bool true)] B8I
theorem C3x:H4 Tryz.prog D1g:=B5P (fun e he=>by
 simp only [List.mem_cons,List.not_mem_nil,or_false]at he
 rcases he with rfl|rfl|rfl|rfl
 ·exact⟨B7Q,rfl⟩
 ·exact⟨C2a,rfl⟩
 ·exact⟨C1q,rfl⟩
 ·exact⟨A9Zq,rfl⟩) A2o
theorem B6X:Abs.Pure Tryz.prog 5 [] (.bool true):=
 Pure.execB (m:=20000) (d:=20) (fr:=1) A4B C3x (by kernel_rfl)
theorem B6l(p:Fn)(hp:p.bd)(hc:p.each.length≤1000000):Pure Tryz.prog 12 [.agg p.row] (.int .i64 p.each.length):=by
 have he:=A4M p hp hc
 have hps:=Fn.row_sub G6 p
 obtain⟨g1,g2⟩:=C7 p
 have hlE:(p.each.map Fn.row).length=p.each.length:=List.length_map ..
 generalize p.each.map Fn.row=ER at*
 generalize p.row=pr at*
 refine Pure.of 0 (A3.enter Z1 (Nat.le_of_ble_eq_true rfl) (Run.go 100 ?_))
 simp -implicitDefEqProofs only [go_sem,A8,g1,g2]
 refine A3.pureF he (by simp -implicitDefEqProofs only [go_sem,hps]) ?_
 simp -implicitDefEqProofs only [go_sem,hlE]
theorem C1B(p:Fn)(hp:p.bd)(hc:p.each.length≤1000000):Pure Tryz.prog 4 [.agg p.row] (.bool (decide ((p.each.length:Int)>60∨A3o p.each>2000))):=by
 have h1:=B6l p hp hc
 have h2:=B7N p hp hc
 have hps:=Fn.row_sub G6 p
 obtain⟨g1,g2⟩:=C7 p
 generalize hn:(p.each.length:Int)=n at*
 generalize A3o p.each=z at*
 generalize p.row=pr at*
 refine Pure.of 0 (A3.enter Z0 (Nat.le_of_ble_eq_true rfl) (Run.go 100 ?_))
 simp -implicitDefEqProofs only [go_sem,A8,g1,g2]
 refine A3.pureF h1 (by simp -implicitDefEqProofs only [go_sem,hps]) ?_
 by_cases c1:n>60
 ·simp -implicitDefEqProofs only [go_sem,c1]
 ·simp -implicitDefEqProofs only [go_sem,c1,g1,g2]
  refine A3.pureF h2 (by simp -implicitDefEqProofs only [go_sem,hps]) ?_
  simp -implicitDefEqProofs only [go_sem,c1]
  exact decide_eq_decide.2 (by omega)
end Go.Proofs.YtcjgeliglgcflaaGreatDoor
