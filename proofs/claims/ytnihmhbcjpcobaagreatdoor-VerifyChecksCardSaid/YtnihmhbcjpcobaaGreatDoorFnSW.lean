/-
 Functions without names and lines; what is accepted. No condition.
-/
import Derived.Test.YtnihmhbcjpcobaaGreatDoorFnCk
import Derived.Test.YtnihmhbcjpcobaaGreatDoorFnMb
set_option linter.unusedVariables false
set_option linter.unusedSimpArgs false
set_option maxRecDepth 100000
set_option maxHeartbeats 0
namespace Go.Proofs.YtnihmhbcjpcobaaGreatDoor
open Go.Abs
attribute [local irreducible] A2 Run P7
def Upv.bare(u:Upv):Upv:=⟨[],u.loc,u.idx⟩
mutual
def Fn.strip:Fn→Fn
 |⟨_,_,params,vararg,regs,code,_,consts,protos,ups,_⟩=>⟨[],0,params,vararg,regs,code,[],consts,Fn.strips protos,ups.map Upv.bare,[]⟩
def Fn.strips:List Fn→List Fn
 | []=> []
 |p::r=>Fn.strip p::Fn.strips r
end
theorem Fn.strips_map: ∀l:List Fn,Fn.strips l=l.map Fn.strip
 | []=>rfl
 |p::r=>by rw [Fn.strips,Fn.strips_map r];rfl
theorem Fn.strip_eq(p:Fn):p.strip=⟨[],0,p.params,p.vararg,p.regs,p.code,[],p.consts,p.protos.map Fn.strip,p.ups.map Upv.bare,[]⟩:=by
 obtain⟨a,b,c,d,e,f,g,h,i,j,k⟩:=p
 rw [Fn.strip,Fn.strips_map]
theorem A7m: ∀{l:List Int},J7 l=0↔ ∀x∈l,x=0
 | []=>by simp [J7]
 |x::r=>by
  rw [J7]
  split
  ·rename_i h;rw [A7m,List.forall_mem_cons];simp [h]
  ·rename_i h;rw [List.forall_mem_cons];simp [h]
theorem A9R(p:Fn):A2e p=0↔p.depth≤64∧ ∀q∈p.each,A5W q=0:=by
 unfold A2e A8X
 split
 ·rename_i h;constructor
  ·intro h;omega
  ·intro h;omega
 ·rename_i h
  rw [A7m]
  simp only [List.mem_map,forall_exists_index,and_imp,forall_apply_eq_imp_iff₂]
  exact⟨fun h2=>⟨by omega,h2⟩,fun h2=>h2.2⟩
theorem Fn.depth_within(p:Fn): ∀q∈p.each,q.depth≤p.depth:=by
 induction p using Fn.ind with
 | h p ih=>
  intro q hq
  rw [Fn.each_eq]at hq
  rcases List.mem_cons.1 hq with rfl|hq
  ·exact Nat.le_refl _
  ·obtain⟨r,hr,hq⟩:=Fn.mem_eachs.1 hq
   have h1:=ih r hr q hq
   have h2:=Fn.depths_mem hr
   rw [Fn.depth_eq p]
   omega
theorem B1w{p q:Fn}(h:A2e p=0)(hq:q∈p.each):A2e q=0:=by
 rw [A9R]at h⊢
 have:=Fn.depth_within p q hq
 exact⟨by omega,fun x hx=>h.2 x (Fn.each_trans p q hq x hx)⟩
theorem Fn.eachs_strip: ∀(l:List Fn),(∀q∈l,q.strip.each=q.each.map Fn.strip)→Fn.eachs (l.map Fn.strip)=(Fn.eachs l).map Fn.strip
 | [],_=>rfl
 |p::r,h=>by
  rw [List.map_cons,Fn.eachs,Fn.eachs,List.map_append,h p List.mem_cons_self,Fn.eachs_strip r fun q hq=>h q (List.mem_cons_of_mem _ hq)]
theorem Fn.strip_each(p:Fn):p.strip.each=p.each.map Fn.strip:=by
 induction p using Fn.ind with
 |h p ih=>
  rw [Fn.each_eq p,Fn.each_eq p.strip,List.map_cons]
  congr 1
  rw [Fn.strip_eq p]
  exact Fn.eachs_strip p.protos ih
theorem Fn.Le.strip{p:Fn}(h:p.Le):p.strip.Le:=by
 rw [Fn.strip_eq]
 exact⟨h.code,Nat.zero_le _,h.consts,by simpa using h.protos,by simpa using h.ups,Nat.zero_le _⟩
theorem Fn.bd.strip{p:Fn}(h:p.bd):p.strip.bd:=fun q hq=>by
 rw [Fn.strip_each]at hq
 obtain⟨x,hx,rfl⟩:=List.mem_map.1 hq
 exact(h x hx).strip
end Go.Proofs.YtnihmhbcjpcobaaGreatDoor
