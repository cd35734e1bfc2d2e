/-
 What the bound on the arguments' bulk gives, as the arguments are seen abstractly. No condition.
-/
import Derived.Test.YtcjgeliglgcflaaGreatDoorArg
import Derived.Test.YtcjgeliglgcflaaGreatDoorRows
import Derived.Test.YtcjgeliglgcflaaGreatDoorDmF
set_option linter.unusedVariables false
set_option linter.unusedSimpArgs false
set_option maxRecDepth 100000
namespace Go.Proofs.YtcjgeliglgcflaaGreatDoor
open Go.Abs
mutual
def bkV:V→Nat
 | .str s=>s.length+1
 | .isl es=>bkLL es+1
 | .agg cs=>bkL cs
 |_=>1
def bkL:List V→Nat
 | []=>0
 |c::r=>bkV c+bkL r
def bkLL:List (List V)→Nat
 | []=>0
 |c::r=>bkL c+bkLL r
end
theorem B1u: ∀a b:List V,bkL (a++b)=bkL a+bkL b
 | [],b=>by rw [List.nil_append,bkL];omega
 |c::r,b=>by rw [List.cons_append,bkL,bkL,B1u r b];omega
theorem B5f: ∀l:List (List V),bkL l.flatten=bkLL l
 | []=>by rw [List.flatten_nil,bkL,bkLL]
 |c::r=>by rw [List.flatten_cons,B1u,bkLL,B5f r]
section
variable {H:Type}
mutual
theorem C0N: ∀d:DataW H,bkL (toL d)≤Rows.uptoBulk d
 | .lit l=>by cases l<;>simp [toL,bkL,bkV,Rows.uptoBulk]
 | .nil=>by simp [toL,bkL,bkV,bkLL,Rows.uptoBulk]
 | .ptr d=>by simp [toL,bkL,bkV,Rows.uptoBulk]
 | .slice elems spare=>by
  have:=bk_toLs elems
  simp only [toL,bkL,bkV,Rows.uptoBulk]
  omega
 | .agg parts=>by
  have:=bk_toLs parts
  simp only [toL,B5f,Rows.uptoBulk]
  omega
 | .iface _ d=>by simp [toL,bkL,bkV,Rows.uptoBulk]
 | .map entries=>by simp [toL,bkL,bkV,Rows.uptoBulk]
 | .held _=>by simp [toL,bkL,bkV,Rows.uptoBulk]
theorem bk_toLs: ∀l:List (DataW H),bkLL (toLs l)≤Rows.uptoBulkAll l
 | []=>by simp [toLs,bkLL]
 |d::r=>by
  have:=C0N d
  have:=bk_toLs r
  simp only [toLs,bkLL,Rows.uptoBulkAll]
  omega
end
theorem C4z: ∀{ds:List (DataW H)} {xs:List V},B8d ds xs→bkL xs≤Rows.uptoBulkAll ds
 | [],[],_=>by simp [bkL]
 | d::ds,a::xs,⟨h1,h2⟩=>by
  have h3:=C4z h2
  have h4:=C0N d
  have h5:bkV a=bkL (toL d):=by
   rcases h1 with rfl|h1
   ·rw [bkV]
   ·rw [←h1,bkL,bkL];omega
  simp only [bkL,Rows.uptoBulkAll]
  omega
 | [],_::_,h=>h.elim
 |_::_,[],h=>h.elim
theorem B5h(l r:List (DataW H)):Rows.uptoBulkAll (l++r)=Rows.uptoBulkAll l+Rows.uptoBulkAll r:=by
 induction l with
 |nil=>simp [Rows.uptoBulkAll]
 |cons x l ih=>simp only [List.cons_append,Rows.uptoBulkAll,ih];omega
end
theorem B5e{α:Type}{f:α→List V}: ∀l:List α,bkLL (l.map f)=(l.map fun x=>bkL (f x)).sum
 | []=>by simp [bkLL]
 |x::r=>by rw [List.map_cons,bkLL,B5e r];simp
theorem A8p{α:Type}{f g:α→Nat}(c:Nat): ∀l:List α,(∀x∈l,f x≤c*g x)→(l.map f).sum≤c*(l.map g).sum
 | [],_=>by simp
 |x::r,h=>by
  have h1:=h x List.mem_cons_self
  have h2:=A8p c r fun y hy=>h y (List.mem_cons_of_mem _ hy)
  simp only [List.map_cons,List.sum_cons,Nat.mul_add]
  omega
theorem B5A{α:Type}{f:α→List Int}: ∀l:List α,(l.flatMap f).length=(l.map fun x=>(f x).length).sum
 | []=>rfl
 |x::r=>by rw [List.flatMap_cons,List.length_append,B5A r];simp
theorem C0M(p:Fn):bkL p.row=p.name.length+11+(bkLL (p.code.map Ins.row)+bkLL (p.lines.map D1)+bkLL (p.consts.map Kst.row)+bkLL (p.protos.map Fn.row)+bkLL (p.ups.map Upv.row)+bkLL (p.vars.map Vr.row)):=by
 rw [Fn.row_eq]
 simp only [bkL,bkV]
 omega
theorem C3j(p:Fn):(W6 p).length≤17*bkL p.row:=by
 induction p using Fn.ind with
 |h p ih=>
 have hsl: ∀t:List UInt8,(w8 t).length=8+t.length:=fun t=>by unfold w8;rw [List.length_append,D2,List.length_map]
 rw [A0w,Y8,C0M]
 simp only [List.length_append,hsl,D2,List.length_singleton,T1,B5A,B5e]
 have h1:=A8p (f:=fun i=>8*(F9 i).length) (g:=fun i=>bkL (Ins.row i)) 17 p.code (fun i _=>by simp [F9,Ins.row,bkL,bkV])
 have h2:8*p.lines.length≤17*(p.lines.map fun z=>bkL (D1 z)).sum:=by
  have:=A8p (f:=fun _=>8) (g:=fun z=>bkL (D1 z)) 17 p.lines (fun i _=>by simp [D1,bkL,bkV])
  rw [List.map_const']at this
  simpa [Nat.mul_comm]using this
 have h3:=A8p (f:=fun v=>(T7 v).length) (g:=fun v=>bkL (Kst.row v)) 17 p.consts (fun v _=>by
  have:(T7 v).length≤17+v.str.length:=by
   unfold T7
   rw [List.length_append,List.length_singleton]
   split
   ·simp;omega
   split
   ·simp [D2]
   split
   ·rw [hsl];omega
   ·simp;omega
  simp only [Kst.row,bkL,bkV]
  omega)
 have h4:=A8p (f:=fun q=>(W6 q).length) (g:=fun q=>bkL (Fn.row q)) 17 p.protos ih
 have h5:=A8p (f:=fun u=>(upL u).length) (g:=fun u=>bkL (Upv.row u)) 17 p.ups (fun u _=>by
  have:(upL u).length=8+u.name.length+1+8:=by unfold upL;simp only [List.length_append,hsl,D2,List.length_singleton]
  simp only [Upv.row,bkL,bkV]
  omega)
 have h6:=A8p (f:=fun v=>(vrL v).length) (g:=fun v=>bkL (Vr.row v)) 17 p.vars (fun v _=>by
  have:(vrL v).length=8+v.name.length+8*4:=by unfold vrL;rw [List.length_append,hsl,T1];rfl
  simp only [Vr.row,bkL,bkV]
  omega)
 omega
theorem C3i(p:Fn):11*p.each.length≤bkL p.row:=by
 induction p using Fn.ind with
 |h p ih=>
 have key: ∀l:List Fn,(∀q∈l,11*q.each.length≤bkL q.row)→11*(Fn.eachs l).length≤bkLL (l.map Fn.row):=by
  intro l
  induction l with
  |nil=>intro _;simp [Fn.eachs]
  |cons q r ihr=>
   intro h
   have h1:=h q List.mem_cons_self
   have h2:=ihr fun x hx=>h x (List.mem_cons_of_mem _ hx)
   rw [Fn.eachs,List.length_append,List.map_cons,bkLL]
   omega
 have:=key p.protos ih
 rw [Fn.each_eq,C0M,List.length_cons]
 omega
end Go.Proofs.YtcjgeliglgcflaaGreatDoor
