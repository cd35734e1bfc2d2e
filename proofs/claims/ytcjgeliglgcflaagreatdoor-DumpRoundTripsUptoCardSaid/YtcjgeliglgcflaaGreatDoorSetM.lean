/-
 Sorted lists; sets of numbers as lists. No condition.
-/
import Derived.Test.YtcjgeliglgcflaaGreatDoorPan
import Derived.Test.YtcjgeliglgcflaaGreatDoorShelf
import Derived.Test.YtcjgeliglgcflaaGreatDoorWk
set_option linter.unusedVariables false
set_option linter.unusedSimpArgs false
set_option maxRecDepth 100000
set_option maxHeartbeats 0
namespace Go.Proofs.YtcjgeliglgcflaaGreatDoor
open Go.Abs
attribute [local irreducible] A3 Run
def A7K(zs:List Int):List Int:=zs.mergeSort fun x y=>decide (x≤y)
theorem C7f(zs:List Int)(hm:0<zs.length)(hB:zs.length≤100000)(b st n:Nat):
  A3 Tryz.prog 115 [.sl b st 0 zs.length] [(b,st,.rows 1 (zs.map zrw))] n (fun r h' _=>r= .tup []∧h'= [(b,st,.rows 1 ((A7K zs).map zrw))]):=
 A3.inplace zs (A7K zs) hm (by simp [A7K]) (fun _ _ _=> .tuple #[]) (.tup []) b st n (fun E cap _ _ _ _=> .tup [] #[] rfl (fun i c v h=>by simp at h))
  (fun blk off cap w hH hb hcap=>(Tryz.slices_Sort_int blk off cap zs w hH hb (by omega)).mono fun e w' h=>h)
theorem B9p(zs:List Int)(hm:0<zs.length)(hB:zs.length≤100000)(b st n:Nat):
  A3 Tryz.prog 116 [.sl b st 0 zs.length] [(b,st,.rows 1 (zs.map zrw))] n
   (fun r h' _=>r= .sl b st 0 (Lib.compact zs).length∧h'= [(b,st,.rows 1 ((Lib.compact zs++List.replicate (zs.length-(Lib.compact zs).length) 0).map zrw))]):=by
 have hle:(Lib.compact zs).length≤zs.length:=Lib.compact_length_le zs
 refine A3.inplace zs (Lib.compact zs++List.replicate (zs.length-(Lib.compact zs).length) 0) hm (by simp;omega) (fun blk off cap=> .slice (some ⟨blk,off,none⟩) (Lib.compact zs).length cap) _ b st n ?_ ?_
 ·intro E cap h1 h2 h3 h4
  have:=R.sl (E:=E) b st 0 (Lib.compact zs).length cap h1 (by omega) (by omega)
  simpa using this
 ·intro blk off cap w hH hb hcap
  refine(Tryz.slices_Compact_int blk off cap zs w hH (by omega) hcap).mono ?_
  rintro e w' ⟨rfl,q,rfl⟩
  exact⟨rfl,q, #[],by simp⟩
theorem C7g(zs:List Int){m:Nat}(hl:zs.length=m)(hm:0<m)(hB:m≤100000)(b st n:Nat):
  A3 Tryz.prog 115 [.sl b st 0 m] [(b,st,.rows 1 (zs.map zrw))] n (fun r h' _=>r= .tup []∧h'= [(b,st,.rows 1 ((A7K zs).map zrw))]):=by
 subst hl;exact C7f zs hm hB b st n
theorem B9q(zs:List Int){m:Nat}(hl:zs.length=m)(hm:0<m)(hB:m≤100000)(b st n:Nat):
  A3 Tryz.prog 116 [.sl b st 0 m] [(b,st,.rows 1 (zs.map zrw))] n
   (fun r h' _=>r= .sl b st 0 (Lib.compact zs).length∧h'= [(b,st,.rows 1 ((Lib.compact zs++List.replicate (m-(Lib.compact zs).length) 0).map zrw))]):=by
 subst hl;exact B9p zs hm hB b st n
theorem B0K(d:Nat)(h:A2)(l:List Int):(l.map zrw).map (fun r=>r.map (frz d h))=l.map zrw:=by
 rw [List.map_map]
 exact List.map_congr_left fun y _=>by simp [zrw,C3m]
def A3h(l:List Int):List Int:=Lib.compact (A7K l)
theorem B4m(zs:List Int)(m:Nat):(((Lib.compact zs++List.replicate m 0).map zrw).take (Lib.compact zs).length)=(Lib.compact zs).map zrw:=by
 rw [List.map_append]
 have:(Lib.compact zs).length=((Lib.compact zs).map zrw).length:=by simp
 rw [this,List.take_left]
theorem A0R(d:Array Int): ∀m j,j<m→d[j]! ∈Lib.compactUpTo d m
 |0,j,h=>absurd h (Nat.not_lt_zero _)
 | m +1,j,h=>by
  rw [Lib.compactUpTo_succ]
  by_cases hj:j<m
  ·exact List.mem_append.2 (.inl (A0R d m j hj))
  ·obtain rfl:j=m:=by omega
   cases hk:Lib.keeps d j with
   |true=>simp
   | false=>
    have: ¬(j=0∨d[j]! ≠d[j-1]!):=of_decide_eq_false hk
    have e:d[j]! =d[j-1]! :=by
     by_cases h2:d[j]! =d[j-1]!
     ·exact h2
     ·exact absurd (.inr h2) this
    have h0:j≠0:=fun h=>this (.inl h)
    rw [e]
    exact List.mem_append.2 (.inl (A0R d j (j-1) (by omega)))
theorem B2g{zs:List Int}{x:Int}(h:x∈zs):x∈Lib.compact zs:=by
 obtain⟨j,hj,rfl⟩:=List.getElem_of_mem h
 have:=A0R zs.toArray zs.length j hj
 simpa [Lib.compact,hj]using this
def Asc(l:List Int):Prop:=l.Pairwise (· < ·)
theorem A2n(d:Array Int){x:Int}: ∀m,m≤d.size→x∈Lib.compactUpTo d m→ ∃j,j<m∧d[j]! =x∧(∀i,i<m→True)
 |m,hm,h=>by
  unfold Lib.compactUpTo at h
  obtain⟨j,h1,h2⟩:=List.mem_map.1 h
  have:=List.mem_range.1 (List.mem_filter.1 h1).1
  exact⟨j,this,h2,fun _ _=>trivial⟩
theorem B0M{zs:List Int}{x:Int}:x∈Lib.compact zs↔x∈zs:=by
 refine⟨fun h=> ?_,B2g⟩
 obtain⟨j,h1,h2,_⟩:=A2n zs.toArray zs.length (by simp) h
 have:zs.toArray[j]! =zs[j]:=by simp [h1]
 rw [this]at h2
 rw [←h2]
 exact List.getElem_mem h1
theorem A7v{l:List Int}{x:Int}:x∈A3h l↔x∈l:=by
 unfold A3h A7K
 rw [B0M]
 exact(List.mergeSort_perm l _).mem_iff
theorem A4S(zs:List Int)(hs:zs.Pairwise (· ≤ ·)): ∀m,m≤zs.length→Asc (Lib.compactUpTo zs.toArray m)
 |0,_=>by simp [Lib.compactUpTo,Asc]
 | m +1,hm=>by
  rw [Lib.compactUpTo_succ]
  have ih:=A4S zs hs m (by omega)
  cases hk:Lib.keeps zs.toArray m with
  |false=>simpa using ih
  | true=>
   simp only [if_true]
   refine List.pairwise_append.2 ⟨ih,by simp,fun a ha b hb=> ?_⟩
   rw [List.mem_singleton.1 hb]
   obtain⟨j,h1,h2,_⟩:=A2n zs.toArray m (by simp;omega) ha
   have hget: ∀i (h:i<zs.length),zs.toArray[i]! =zs[i]:=fun i h=>by simp [h]
   rw [←h2,hget j (by omega),hget m (by omega)]
   have hk':=of_decide_eq_true hk
   have hle:=List.pairwise_iff_getElem.1 hs
   rcases hk' with h0|hne
   ·omega
   ·rw [hget m (by omega),hget (m-1) (by omega)]at hne
    have a1:=hle (m-1) m (by omega) (by omega) (by omega)
    by_cases e:j=m-1
    ·subst e;omega
    ·have a2:=hle j (m-1) (by omega) (by omega) (by omega)
     omega
theorem B3c(l:List Int):Asc (A3h l):=by
 refine A4S _ ?_ _ (Nat.le_refl _)
 unfold A7K
 have:=List.pairwise_mergeSort (le:=fun x y:Int=>decide (x≤y)) (fun a b c h1 h2=>by simp at*;omega) (fun a b=>by simp;omega) l
 exact this.imp fun h=>by simpa using h
theorem A6R:Asc []:=List.Pairwise.nil
theorem B4d(x:Int):Asc [x]:=List.pairwise_singleton ..
def A5B(a:Int)(n:Nat):List Int:=(List.range n).map fun k=>a+(k:Nat)
theorem B2z(a:Int)(n:Nat):A5B a (n+1)=A5B a n++ [a+(n:Nat)]:=by simp [A5B,List.range_succ]
theorem B3U(a:Int)(n:Nat):(A5B a n).length=n:=by simp [A5B]
theorem B3K{a x:Int}{n:Nat}:x∈A5B a n↔a≤x∧x<a+n:=by
 unfold A5B
 simp only [List.mem_map,List.mem_range]
 constructor
 ·rintro⟨k,h1,rfl⟩;omega
 ·rintro⟨h1,h2⟩;exact⟨(x-a).toNat,by omega,by omega⟩
theorem B3d(a:Int): ∀n,Asc (A5B a n)
 |0=>A6R
 |n+1=>by
  rw [B2z]
  refine List.pairwise_append.2 ⟨B3d a n,by simp,fun x hx y hy=> ?_⟩
  rw [List.mem_singleton.1 hy]
  have:=B3K.1 hx;omega
end Go.Proofs.YtcjgeliglgcflaaGreatDoor
