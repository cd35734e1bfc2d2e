/-
 Live registers: the least solution, and how it is reached from below. No program, no condition.
-/
import Derived.Test.YtcaaenddpjepiaaGreatDoorOps
set_option linter.unusedVariables false
set_option linter.unusedSimpArgs false
set_option maxRecDepth 100000
namespace Go.Proofs.YtcaaenddpjepiaaGreatDoor
open Go.Abs
inductive LiveR (U:Nat→Nat→Bool) (Nx:Nat→List Int) (D:Nat→Int→Nat→Bool):Nat→Nat→Prop
 |use {a r:Nat}:U a r=true→LiveR U Nx D a r
 |flow {a r to_:Nat}:(to_:Int)∈Nx a→D a to_ r=false→LiveR U Nx D to_ r→LiveR U Nx D a r
noncomputable def C8T (U:Nat→Nat→Bool) (Nx:Nat→List Int) (D:Nat→Int→Nat→Bool) (a r:Nat):Bool:= @decide (LiveR U Nx D a r) (Classical.propDecidable _)
theorem B8y{U:Nat→Nat→Bool}{Nx:Nat→List Int}{D:Nat→Int→Nat→Bool}{a r:Nat}:C8T U Nx D a r=true↔LiveR U Nx D a r:=by
 unfold C8T;exact @decide_eq_true_iff _ (Classical.propDecidable _)
section
variable {U:Nat→Nat→Bool} {Nx:Nat→List Int} {D:Nat→Int→Nat→Bool}
def A4T(U:Nat→Nat→Bool)(Nx:Nat→List Int)(D:Nat→Int→Nat→Bool)(M:Nat→Nat→Bool):Prop:= ∀a r,M a r=true→LiveR U Nx D a r
def j9(U:Nat→Nat→Bool)(Nx:Nat→List Int)(D:Nat→Int→Nat→Bool)(M:Nat→Nat→Bool)(a r:Nat):Prop:=
 (U a r=true→M a r=true)∧ ∀to_:Nat,(to_:Int)∈Nx a→D a to_ r=false→M to_ r=true→M a r=true
theorem B4l{M:Nat→Nat→Bool}{n N:Nat}(c: ∀a,∀x∈Nx a,0≤x∧x<(n:Int))(d: ∀a r,a<n→r<N→j9 U Nx D M a r){a r:Nat}(h:LiveR U Nx D a r)(e:a<n)(b:r<N):M a r=true:=by
 induction h with
 |use g=>exact(d _ _ e b).1 g
 |flow f j _ i=>
  have:=c _ _ f
  exact(d _ _ e b).2 _ f j (i zd b)
def A9m(M:Nat→Nat→Bool)(a r:Nat):Nat→Nat→Bool:=fun x y=>M x y||(decide (x=a)&&decide (y=r))
theorem B7g{M:Nat→Nat→Bool}{a r:Nat}(h:A4T U Nx D M)(c:LiveR U Nx D a r):A4T U Nx D (A9m M a r):=by
 intro x y b
 simp only [A9m,Bool.or_eq_true,Bool.and_eq_true,decide_eq_true_eq]at b
 rcases b with b|⟨rfl,rfl⟩
 ·exact h _ _ b
 ·exact c
def C9q(n N:Nat):List (Nat×Nat):=(List.range n).flatMap fun a=>(List.range N).map fun r=>(a,r)
theorem C6M{n N:Nat}{c:Nat×Nat}:c∈C9q n N↔c.1<n∧c.2<N:=by
 simp only [C9q,List.mem_flatMap,List.mem_range,List.mem_map]
 constructor
 ·rintro⟨a,b,r,h,rfl⟩;exact⟨b,h⟩
 ·rintro⟨d,e⟩;exact⟨c.1,d,c.2,e,rfl⟩
def unM(n N:Nat)(M:Nat→Nat→Bool):Nat:=(C9q n N).countP fun c=> !M c.1 c.2
theorem B8b{α:Type}{p q:α→Bool}: ∀{l:List α},(∀c∈l,q c=true→p c=true)→ ∀{c:α},c∈l→p c=true→q c=false→l.countP q<l.countP p
 | [],_,c,h,_,_=>by cases h
 | x::l,hs,c,h,hp,hq=>by
  have b:l.countP q≤l.countP p:=List.countP_mono_left fun y a=>hs y (List.mem_cons_of_mem _ a)
  rcases List.mem_cons.1 h with rfl|h
  ·rw [List.countP_cons,List.countP_cons,hp,hq];simp;omega
  ·have i:=B8b (fun y a=>hs y (List.mem_cons_of_mem _ a)) h hp hq
   rw [List.countP_cons,List.countP_cons]
   have:=hs x List.mem_cons_self
   cases h1:q x
   ·simp;omega
   ·rw [this h1];simp;omega
theorem C2Q{n N:Nat}{M:Nat→Nat→Bool}{a r:Nat}(d:a<n)(b:r<N)(e:M a r=false):unM n N (A9m M a r)<unM n N M:=by
 refine B8b (c:=(a,r)) (fun c _ h=> ?_) (C6M.2 ⟨d,b⟩) (by simp [e]) (by simp [A9m])
 simp only [A9m,Bool.not_or,Bool.and_eq_true]at h
 exact h.1
def r6(D:Nat→Int→Nat→Bool)(M:Nat→Nat→Bool)(nl:List Int)(a r k:Nat):Bool:=(nl.take k).any fun x=> !D a x r&&M x.toNat r
theorem B7O{M:Nat→Nat→Bool}{n:List Int}{a r:Nat}:r6 D M n a r 0=false:=by simp [r6]
theorem B7N{M:Nat→Nat→Bool}{n:List Int}{a r k:Nat}{x:Int}(h:n[k]? =some x):r6 D M n a r (k+1)=(r6 D M n a r k||(!D a x r&&M x.toNat r)):=by
 unfold r6
 rw [List.take_add_one,h,Option.toList_some,List.any_append];simp
theorem C1x{M:Nat→Nat→Bool}{a r:Nat}(f:A4T U Nx D M)(b: ∀x∈Nx a,0≤x)(h:(U a r||r6 D M (Nx a) a r (Nx a).length)=true):LiveR U Nx D a r:=by
 rw [Bool.or_eq_true]at h
 rcases h with h|h
 ·exact .use h
 ·unfold r6 at h
  rw [List.take_length]at h
  obtain⟨x,d,c⟩:=List.any_eq_true.1 h
  simp only [Bool.and_eq_true,Bool.not_eq_true']at c
  have:=b x d
  have e:((x.toNat:Nat):Int)=x:=by omega
  exact .flow (to_:=x.toNat) (by rw [e];exact d) (by rw [e];exact c.1) (f _ _ c.2)
theorem B5M{M:Nat→Nat→Bool}{a r:Nat}(h:(U a r||r6 D M (Nx a) a r (Nx a).length)=true→M a r=true):j9 U Nx D M a r:=by
 refine⟨fun b=>h (by rw [b];rfl),fun t e d c=>h ?_⟩
 rw [Bool.or_eq_true]
 right
 unfold r6
 rw [List.take_length]
 exact List.any_eq_true.2 ⟨t,e,by simp [d,c]⟩
end
end Go.Proofs.YtcaaenddpjepiaaGreatDoor
