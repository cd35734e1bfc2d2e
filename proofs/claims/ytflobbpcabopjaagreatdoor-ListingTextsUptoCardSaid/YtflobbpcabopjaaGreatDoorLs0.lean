/-
 What the bound on the arguments' bulk gives, as the arguments are seen abstractly. No condition.
-/
import Derived.Test.YtflobbpcabopjaaGreatDoorArg
import Derived.Test.YtflobbpcabopjaaGreatDoorRows
import Derived.Test.YtflobbpcabopjaaGreatDoorLs3
set_option linter.unusedVariables false
set_option linter.unusedSimpArgs false
set_option maxRecDepth 100000
set_option maxHeartbeats 0
namespace Go.Proofs.YtflobbpcabopjaaGreatDoor
open Go.Abs
attribute [local irreducible] A0 Run
mutual
def bkV:V→Nat
 | .str s=>s.length+1
 | .isl es=>bkLL es+1
 | .agg cs=>bkL cs
 |_=>1
def bkL:List V→Nat
 | []=>0
 |c::r=>bkV c+bkL r
def bkLL:List (List V)→Nat
 | []=>0
 |c::r=>bkL c+bkLL r
end
theorem B4X: ∀a b:List V,bkL (a++b)=bkL a+bkL b
 | [],b=>by rw [List.nil_append,bkL];omega
 |c::r,b=>by rw [List.cons_append,bkL,bkL,B4X r b];omega
theorem B8A: ∀l:List (List V),bkL l.flatten=bkLL l
 | []=>by rw [List.flatten_nil,bkL,bkLL]
 |c::r=>by rw [List.flatten_cons,B4X,bkLL,B8A r]
section
variable {H:Type}
mutual
theorem C4v: ∀d:DataW H,bkL (toL d)≤Rows.uptoBulk d
 | .lit l=>by cases l<;>simp [toL,bkL,bkV,Rows.uptoBulk]
 | .nil=>by simp [toL,bkL,bkV,bkLL,Rows.uptoBulk]
 | .ptr d=>by simp [toL,bkL,bkV,Rows.uptoBulk]
 | .slice elems spare=>by
  have:=bk_toLs elems
  simp only [toL,bkL,bkV,Rows.uptoBulk]
  omega
 | .agg parts=>by
  have:=bk_toLs parts
  simp only [toL,B8A,Rows.uptoBulk]
  omega
 | .iface _ d=>by simp [toL,bkL,bkV,Rows.uptoBulk]
 | .map entries=>by simp [toL,bkL,bkV,Rows.uptoBulk]
 | .held _=>by simp [toL,bkL,bkV,Rows.uptoBulk]
theorem bk_toLs: ∀l:List (DataW H),bkLL (toLs l)≤Rows.uptoBulkAll l
 | []=>by simp [toLs,bkLL]
 |d::r=>by
  have:=C4v d
  have:=bk_toLs r
  simp only [toLs,bkLL,Rows.uptoBulkAll]
  omega
end
theorem C1H: ∀{ds:List (DataW H)} {xs:List V},C1B ds xs→bkL xs≤Rows.uptoBulkAll ds
 | [],[],_=>by simp [bkL]
 | d::ds,a::xs,⟨h1,h2⟩=>by
  have h3:=C1H h2
  have h4:=C4v d
  have h5:bkV a=bkL (toL d):=by
   rcases h1 with rfl|h1
   ·rw [bkV]
   ·rw [←h1,bkL,bkL];omega
  simp only [bkL,Rows.uptoBulkAll]
  omega
 | [],_::_,h=>h.elim
 |_::_,[],h=>h.elim
theorem A8y(l r:List (DataW H)):Rows.uptoBulkAll (l++r)=Rows.uptoBulkAll l+Rows.uptoBulkAll r:=by
 induction l with
 |nil=>simp [Rows.uptoBulkAll]
 |cons x l ih=>simp only [List.cons_append,Rows.uptoBulkAll,ih];omega
end
theorem B9E(p:Fn)(hp:p.bd)(hc:p.each.length≤1000000):Abs.Pure Tryz.prog 18 [.agg p.row] (.int .i64 p.each.length):=by
 have he:=B1o p hp hc
 have hps:=Fn.row_sub E8 p
 obtain⟨g1,g2⟩:=B5 p
 have hlE:(p.each.map Fn.row).length=p.each.length:=List.length_map ..
 generalize p.each.map Fn.row=ER at*
 generalize p.row=pr at*
 refine Pure.of 0 (A0.enter d6 (Nat.le_of_ble_eq_true rfl) (Run.go 100 ?_))
 simp -implicitDefEqProofs only [go_sem,A3,g1,g2]
 refine A0.pureF he (by simp -implicitDefEqProofs only [go_sem,hps]) ?_
 simp -implicitDefEqProofs only [go_sem,hlE]
theorem A6m(p:Fn)(hp:p.bd)(hc:p.each.length≤1000000):Abs.Pure Tryz.prog 9 [.agg p.row] (.bool (decide ((p.each.length:Int)>60∨A1n p.each>2000))):=by
 have h1:=B9E p hp hc
 have h2:=C1l p hp hc
 have hps:=Fn.row_sub E8 p
 obtain⟨g1,g2⟩:=B5 p
 generalize hn:(p.each.length:Int)=n at*
 generalize A1n p.each=z at*
 generalize p.row=pr at*
 refine Pure.of 0 (A0.enter Y9 (Nat.le_of_ble_eq_true rfl) (Run.go 100 ?_))
 simp -implicitDefEqProofs only [go_sem,A3,g1,g2]
 refine A0.pureF h1 (by simp -implicitDefEqProofs only [go_sem,hps]) ?_
 by_cases c1:n>60
 ·simp -implicitDefEqProofs only [go_sem,c1]
 ·simp -implicitDefEqProofs only [go_sem,c1,g1,g2]
  refine A0.pureF h2 (by simp -implicitDefEqProofs only [go_sem,hps]) ?_
  simp -implicitDefEqProofs only [go_sem,c1]
  exact decide_eq_decide.2 (by omega)
theorem C9n(p:Fn):bkL p.row=p.name.length+11+(bkLL (p.code.map Ins.row)+bkLL (p.lines.map C7)+bkLL (p.consts.map Kst.row)+bkLL (p.protos.map Fn.row)+bkLL (p.ups.map Upv.row)+bkLL (p.vars.map Vr.row)):=by
 rw [Fn.row_eq]
 simp only [bkL,bkV]
 omega
theorem B4E(p:Fn):11*p.each.length≤bkL p.row:=by
 induction p using Fn.ind with
 |h p ih=>
 have key: ∀l:List Fn,(∀q∈l,11*q.each.length≤bkL q.row)→11*(Fn.eachs l).length≤bkLL (l.map Fn.row):=by
  intro l
  induction l with
  |nil=>intro _;simp [Fn.eachs]
  |cons q r ihr=>
   intro h
   have h1:=h q List.mem_cons_self
   have h2:=ihr fun x hx=>h x (List.mem_cons_of_mem _ hx)
   rw [Fn.eachs,List.length_append,List.map_cons,bkLL]
   omega
 have:=key p.protos ih
 rw [Fn.each_eq,C9n,List.length_cons]
 omega
end Go.Proofs.YtflobbpcabopjaaGreatDoor
