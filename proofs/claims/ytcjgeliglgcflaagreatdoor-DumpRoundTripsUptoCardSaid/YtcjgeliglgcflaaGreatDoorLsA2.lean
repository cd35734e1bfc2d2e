/-
 What proto.Check says of a function, as far as its listing needs it. No condition.
-/
import Derived.Test.YtcjgeliglgcflaaGreatDoorLsS
import Derived.Test.YtcjgeliglgcflaaGreatDoorFnMb
set_option linter.unusedVariables false
set_option linter.unusedSimpArgs false
set_option maxRecDepth 100000
namespace Go.Proofs.YtcjgeliglgcflaaGreatDoor
open Go Go.Abs
theorem C1J{p:Fn}(h:n64L p.row): ∀q∈p.each,n64L q.row:=by
 induction p using Fn.ind with
 | h p ih=>
  intro q hq
  rw [Fn.each_eq]at hq
  rcases List.mem_cons.1 hq with rfl|hq
  ·exact h
  ·obtain⟨r,hr,hq⟩:=Fn.mem_eachs.1 hq
   refine ih r hr ?_ q hq
   rw [Fn.row_eq]at h
   simp only [n64L,n64,A6Z,List.mem_map,forall_exists_index,and_imp,forall_apply_eq_imp_iff₂]at h
   exact h.2.2.2.2.2.2.2.2.1 r hr
theorem A5W: ∀{l:List Int},N7 l=0→ ∀x∈l,x=0
 | [],_=>by simp
 | x::r,h=>by
  rw [N7]at h
  split at h
  ·rename_i h0
   intro y hy
   rcases List.mem_cons.1 hy with rfl|hy
   ·exact h0
   ·exact A5W h y hy
  ·rename_i h0;exact(h0 h).elim
theorem C3D{p:Fn}(h:B4L p=0)(hv:n64L p.row):p.Okl:=by
 rw [Fn.row_eq]at hv
 simp only [n64L,n64,A6Z,List.mem_map,forall_exists_index,and_imp,forall_apply_eq_imp_iff₂]at hv
 obtain⟨_,v1,v2,_,v3,v4,v5,v6,v7,v8,v9,_⟩:=hv
 unfold B4L at h
 split at h
 ·omega
 split at h
 ·omega
 split at h
 ·omega
 rename_i h1 h2 h3
 simp only [ne_eq,Classical.not_not]at h1 h2 h3
 unfold B7v at h1
 split at h1
 ·rename_i hc
  obtain⟨a1,a2,a3,a4,a5,a6,a7,a8,a9⟩:=hc
  unfold B0p at h2
  split at h2
  ·rename_i hc
   obtain⟨b1,b2,b3,b4,b5,b6,b7,b8,b9,b10⟩:=hc
   rw [List.any_eq_false]at a8 a9 b7 b8 b9 b10
   refine⟨⟨v1,v2,v3⟩,a7,⟨a2,fun v hm=> ?_⟩,⟨a4,fun u hm=> ?_⟩,⟨a5,fun v hm=> ?_⟩,⟨a1,fun i hm=> ?_⟩,⟨b6,fun z hz=> ?_⟩,a3⟩
   ·have:=b9 v hm
    simp only [A4w,Bool.or_eq_true,Bool.not_eq_true',decide_eq_true_eq,not_or]at this
    exact⟨by simpa using this.2,by omega⟩
   ·have x1:=a8 u hm
    have x2:=v8 u hm
    simp only [Upv.row,n64L,n64]at x2
    exact⟨by simpa using x1,x2.2.2.1⟩
   ·have x1:=a9 v hm
    have x2:=v9 v hm
    have x3:=b10 v hm
    simp only [Vr.row,n64L,n64]at x2
    simp [A1u]at x3
    exact⟨by simpa using x1,x2.2.1,x2.2.2.1,x2.2.2.2.1,by omega,by omega⟩
   ·have:=A5W h3 _ (List.mem_map_of_mem hm)
    unfold A8L at this
    split at this
    ·rename_i h5;exact absurd this h5
    ·rename_i h5;simpa using h5
   ·have:=v5 z hz
    simp only [D1,n64L,n64]at this
    exact this.1
  ·omega
 ·omega
theorem C6D{p:Fn}(h:A3E p=0)(hv:n64L p.row):p.depth≤64∧ ∀q∈p.each,q.Okl:=by
 unfold A3E A9J at h
 split at h
 ·omega
 exact⟨by omega,fun q hq=>C3D (A5W h _ (List.mem_map_of_mem hq)) (C1J hv q hq)⟩
end Go.Proofs.YtcjgeliglgcflaaGreatDoor
