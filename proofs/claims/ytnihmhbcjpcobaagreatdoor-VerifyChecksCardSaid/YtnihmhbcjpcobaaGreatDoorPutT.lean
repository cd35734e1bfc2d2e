/-
 A number put into an ascending list, step by step. No condition.
-/
import Derived.Test.YtnihmhbcjpcobaaGreatDoorSetM
import Derived.Test.YtnihmhbcjpcobaaGreatDoorWk
set_option linter.unusedVariables false
set_option linter.unusedSimpArgs false
set_option maxRecDepth 100000
set_option maxHeartbeats 0
namespace Go.Proofs.YtnihmhbcjpcobaaGreatDoor
open Go.Abs
theorem F4.slI{b st i:Nat}:F4 (.sl b st i 0) (.isl []):=fun E x h=>by
 cases h with
 |sl _ _ _ _ cap h1 h2 h3=>exact .isl0 _ _
 |sl0 _ _ _ a=>exact .isl0 _ _
def H2(l:List Int)(r:Int)(k:Nat):Bool:=(l.take k).any fun x=>decide (r≤x)
def A6Z(l:List Int)(r:Int)(k:Nat):List Int:=(l.take k).filter (fun x=>decide (x<r))++(if H2 l r k then r::(l.take k).filter (fun x=>decide (r<x))else [])
theorem A8Z{l:List Int}{r x:Int}{k:Nat}(h:l[k]? =some x):H2 l r (k+1)=(H2 l r k||decide (r≤x)):=by
 unfold H2
 rw [List.take_add_one,h,Option.toList_some,List.any_append];simp
theorem B4N{l:List Int}(hl:Asc l){r x:Int}{k:Nat}(h:l[k]? =some x):
  A6Z l r (k+1)=A6Z l r k++(if H2 l r k=false∧r≤x then [r]else [])++(if x=r then []else [x]):=by
 have hgt:H2 l r k=true→r<x:=by
  intro hd
  unfold H2 at hd
  obtain⟨y,hy,hr⟩:=List.any_eq_true.1 hd
  obtain⟨j,hj,hjy⟩:=List.getElem_of_mem hy
  rw [List.length_take]at hj
  rw [List.getElem_take]at hjy
  have hk:=(List.getElem?_eq_some_iff.1 h)
  obtain⟨hk1,hk2⟩:=hk
  have:=List.pairwise_iff_getElem.1 hl j k (by omega) hk1 (by omega)
  rw [hjy,hk2]at this
  have:=of_decide_eq_true hr
  omega
 have hno:H2 l r k=false→(l.take k).filter (fun x=>decide (r<x))= []:=by
  intro hd
  rw [List.filter_eq_nil_iff]
  intro y hy hr
  have h1:=of_decide_eq_true hr
  have:H2 l r k=true:=List.any_eq_true.2 ⟨y,hy,by simp;omega⟩
  rw [hd]at this;cases this
 have e:=A8Z (r:=r) h
 unfold A6Z
 rw [List.take_add_one,h,Option.toList_some,List.filter_append,List.filter_append,e]
 cases hd:H2 l r k with
 |true=>
  have:=hgt hd
  simp [List.filter,show¬x<r by omega,this,show¬x=r by omega]
 | false=>
  rw [hno hd]
  by_cases c:r≤x
  ·by_cases e:x=r
   ·subst e;simp [List.filter]
   ·simp [List.filter,show¬x<r by omega,c,e,show r<x by omega]
  ·simp [List.filter,show x<r by omega,c,show¬x=r by omega]
theorem B4O(l:List Int)(r:Int):A6Z l r 0= []:=by simp [A6Z,H2]
theorem B7i(l:List Int)(r:Int)(k:Nat):(A6Z l r k).length≤2*l.length+1:=by
 unfold A6Z
 have h1:=List.length_filter_le (fun x=>decide (x<r)) (l.take k)
 have h2:=List.length_filter_le (fun x=>decide (r<x)) (l.take k)
 have h3:(l.take k).length≤l.length:=by simp;omega
 split<;>simp<;>omega
theorem B7h(l:List Int)(r:Int):B2T l r=(if H2 l r l.length then A6Z l r l.length else A6Z l r l.length++ [r]):=by
 unfold A6Z B2T
 rw [List.take_length]
 cases hd:H2 l r l.length with
 |true=>simp
 | false=>
  have:l.filter (fun x=>decide (r<x))= []:=by
   rw [List.filter_eq_nil_iff]
   intro y hy hr
   have h1:=of_decide_eq_true hr
   have:H2 l r l.length=true:=List.any_eq_true.2 ⟨y,by rw [List.take_length];exact hy,by simp;omega⟩
   rw [hd]at this;cases this
  rw [this];simp
end Go.Proofs.YtnihmhbcjpcobaaGreatDoor
