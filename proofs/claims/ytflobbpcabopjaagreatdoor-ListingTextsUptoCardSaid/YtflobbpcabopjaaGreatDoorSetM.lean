/-
 Sorted lists; sets of numbers as lists. No condition.
-/
import Derived.Test.YtflobbpcabopjaaGreatDoorSrt
import Derived.Test.YtflobbpcabopjaaGreatDoorShelf
import Derived.Test.YtflobbpcabopjaaGreatDoorWk
set_option linter.unusedVariables false
set_option linter.unusedSimpArgs false
set_option maxRecDepth 100000
set_option maxHeartbeats 0
namespace Go.Proofs.YtflobbpcabopjaaGreatDoor
open Go.Abs
attribute [local irreducible] A0 Run
def A3b(zs:List Int):List Int:=zs.mergeSort fun x y=>decide (x≤y)
theorem D0H(zs:List Int)(hm:0<zs.length)(hB:zs.length≤100000)(b st n:Nat):
  A0 Tryz.prog 195 [.sl b st 0 zs.length] [(b,st,.rows 1 (zs.map zrw))] n (fun r h' _=>r= .tup []∧h'= [(b,st,.rows 1 ((A3b zs).map zrw))]):=
 A0.inplace zs (A3b zs) hm (by simp [A3b]) (fun _ _ _=> .tuple #[]) (.tup []) b st n (fun E cap _ _ _ _=> .tup [] #[] rfl (fun i c v h=>by simp at h))
  (fun blk off cap w hH hb hcap=>(Tryz.slices_Sort_int blk off cap zs w hH hb (by omega)).mono fun e w' h=>h)
theorem C2K(zs:List Int)(hm:0<zs.length)(hB:zs.length≤100000)(b st n:Nat):
  A0 Tryz.prog 196 [.sl b st 0 zs.length] [(b,st,.rows 1 (zs.map zrw))] n
   (fun r h' _=>r= .sl b st 0 (Lib.compact zs).length∧h'= [(b,st,.rows 1 ((Lib.compact zs++List.replicate (zs.length-(Lib.compact zs).length) 0).map zrw))]):=by
 have hle:(Lib.compact zs).length≤zs.length:=Lib.compact_length_le zs
 refine A0.inplace zs (Lib.compact zs++List.replicate (zs.length-(Lib.compact zs).length) 0) hm (by simp;omega) (fun blk off cap=> .slice (some ⟨blk,off,none⟩) (Lib.compact zs).length cap) _ b st n ?_ ?_
 ·intro E cap h1 h2 h3 h4
  have:=R.sl (E:=E) b st 0 (Lib.compact zs).length cap h1 (by omega) (by omega)
  simpa using this
 ·intro blk off cap w hH hb hcap
  refine(Tryz.slices_Compact_int blk off cap zs w hH (by omega) hcap).mono ?_
  rintro e w' ⟨rfl,q,rfl⟩
  exact⟨rfl,q, #[],by simp⟩
theorem D0I(zs:List Int){m:Nat}(hl:zs.length=m)(hm:0<m)(hB:m≤100000)(b st n:Nat):
  A0 Tryz.prog 195 [.sl b st 0 m] [(b,st,.rows 1 (zs.map zrw))] n (fun r h' _=>r= .tup []∧h'= [(b,st,.rows 1 ((A3b zs).map zrw))]):=by
 subst hl;exact D0H zs hm hB b st n
theorem C2L(zs:List Int){m:Nat}(hl:zs.length=m)(hm:0<m)(hB:m≤100000)(b st n:Nat):
  A0 Tryz.prog 196 [.sl b st 0 m] [(b,st,.rows 1 (zs.map zrw))] n
   (fun r h' _=>r= .sl b st 0 (Lib.compact zs).length∧h'= [(b,st,.rows 1 ((Lib.compact zs++List.replicate (m-(Lib.compact zs).length) 0).map zrw))]):=by
 subst hl;exact C2K zs hm hB b st n
theorem V4(d:Nat)(h:A2)(l:List Int):(l.map zrw).map (fun r=>r.map (frz d h))=l.map zrw:=by
 rw [List.map_map]
 exact List.map_congr_left fun y _=>by simp [zrw,C6Q]
def D5(l:List Int):List Int:=Lib.compact (A3b l)
theorem B7H(zs:List Int)(m:Nat):(((Lib.compact zs++List.replicate m 0).map zrw).take (Lib.compact zs).length)=(Lib.compact zs).map zrw:=by
 rw [List.map_append]
 have:(Lib.compact zs).length=((Lib.compact zs).map zrw).length:=by simp
 rw [this,List.take_left]
theorem C3q:D5 []= []:=by simp [D5,A3b,Lib.compact,Lib.compactUpTo]
theorem A2g(x:Int):D5 [x]= [x]:=by
 simp [D5,A3b,Lib.compact,Lib.compactUpTo,Lib.keeps,List.range_succ]
theorem C4g(x y:Int):A3b [x,y]=if x≤y then [x,y]else [y,x]:=by
 unfold A3b
 by_cases h:x≤y<;>simp [List.mergeSort,List.MergeSort.Internal.splitInTwo,List.merge,h]
theorem B3M(x y:Int):Lib.compact [x,y]=if x=y then [x]else [x,y]:=by
 by_cases h:x=y
 ·subst h;simp [Lib.compact,Lib.compactUpTo,Lib.keeps,List.range_succ,List.filter]
 ·have h': ¬y=x:=fun e=>h e.symm
  simp [Lib.compact,Lib.compactUpTo,Lib.keeps,List.range_succ,List.filter,h,h']
theorem C3r(x y:Int):D5 [x,y]=if x=y then [x]else if x<y then [x,y]else [y,x]:=by
 unfold D5
 rw [C4g]
 by_cases h:x≤y
 ·rw [if_pos h,B3M]
  by_cases e:x=y
  ·simp [e]
  ·rw [if_neg e,if_neg e,if_pos (by omega)]
 ·rw [if_neg h,B3M,if_neg (by omega),if_neg (by omega),if_neg (by omega)]
theorem A1t(d:Array Int): ∀m j,j<m→d[j]! ∈Lib.compactUpTo d m
 |0,j,h=>absurd h (Nat.not_lt_zero _)
 | m +1,j,h=>by
  rw [Lib.compactUpTo_succ]
  by_cases hj:j<m
  ·exact List.mem_append.2 (.inl (A1t d m j hj))
  ·obtain rfl:j=m:=by omega
   cases hk:Lib.keeps d j with
   |true=>simp
   | false=>
    have: ¬(j=0∨d[j]! ≠d[j-1]!):=of_decide_eq_false hk
    have e:d[j]! =d[j-1]! :=by
     by_cases h2:d[j]! =d[j-1]!
     ·exact h2
     ·exact absurd (.inr h2) this
    have h0:j≠0:=fun h=>this (.inl h)
    rw [e]
    exact List.mem_append.2 (.inl (A1t d j (j-1) (by omega)))
theorem B5C{zs:List Int}{x:Int}(h:x∈zs):x∈Lib.compact zs:=by
 obtain⟨j,hj,rfl⟩:=List.getElem_of_mem h
 have:=A1t zs.toArray zs.length j hj
 simpa [Lib.compact,hj]using this
theorem C1j(l:List Int):C1 (l.map zrw) 1=True:=eq_true fun r hr=>by obtain⟨y,_,rfl⟩:=List.mem_map.1 hr;rfl
theorem C1A{l:List Int}{k:Nat}{x:Int}(h:l[k]? =some x):(l.map zrw)[k]? =some [.int .i64 x]:=by rw [List.getElem?_map,h];rfl
def Asc(l:List Int):Prop:=l.Pairwise (· < ·)
theorem C1D: ∀{l m:List Int},Asc l→Asc m→(∀x,x∈l↔x∈m)→l=m
 | [],[],_,_,_=>rfl
 | [],y::m,_,_,h=>by have:=(h y).2 List.mem_cons_self;cases this
 |x::l,[],_,_,h=>by have:=(h x).1 List.mem_cons_self;cases this
 | x::l,y::m,hl,hm,h=>by
  obtain⟨hl1,hl2⟩:=List.pairwise_cons.1 hl
  obtain⟨hm1,hm2⟩:=List.pairwise_cons.1 hm
  have e:x=y:=by
   rcases List.mem_cons.1 ((h x).1 List.mem_cons_self)with e|e
   ·exact e
   ·rcases List.mem_cons.1 ((h y).2 List.mem_cons_self)with e'|e'
    ·exact e'.symm
    ·have:=hm1 x e;have:=hl1 y e';omega
  subst e
  congr 1
  refine C1D hl2 hm2 fun z=>⟨fun hz=> ?_,fun hz=> ?_⟩
  ·rcases List.mem_cons.1 ((h z).1 (List.mem_cons_of_mem _ hz))with e|e
   ·have:=hl1 z hz;omega
   ·exact e
  ·rcases List.mem_cons.1 ((h z).2 (List.mem_cons_of_mem _ hz))with e|e
   ·have:=hm1 z hz;omega
   ·exact e
theorem A2E(d:Array Int){x:Int}: ∀m,m≤d.size→x∈Lib.compactUpTo d m→ ∃j,j<m∧d[j]! =x∧(∀i,i<m→True)
 |m,hm,h=>by
  unfold Lib.compactUpTo at h
  obtain⟨j,h1,h2⟩:=List.mem_map.1 h
  have:=List.mem_range.1 (List.mem_filter.1 h1).1
  exact⟨j,this,h2,fun _ _=>trivial⟩
theorem B4o{zs:List Int}{x:Int}:x∈Lib.compact zs↔x∈zs:=by
 refine⟨fun h=> ?_,B5C⟩
 obtain⟨j,h1,h2,_⟩:=A2E zs.toArray zs.length (by simp) h
 have:zs.toArray[j]! =zs[j]:=by simp [h1]
 rw [this]at h2
 rw [←h2]
 exact List.getElem_mem h1
theorem A0W{l:List Int}{x:Int}:x∈D5 l↔x∈l:=by
 unfold D5 A3b
 rw [B4o]
 exact(List.mergeSort_perm l _).mem_iff
theorem A7e(zs:List Int)(hs:zs.Pairwise (· ≤ ·)): ∀m,m≤zs.length→Asc (Lib.compactUpTo zs.toArray m)
 |0,_=>by simp [Lib.compactUpTo,Asc]
 | m +1,hm=>by
  rw [Lib.compactUpTo_succ]
  have ih:=A7e zs hs m (by omega)
  cases hk:Lib.keeps zs.toArray m with
  |false=>simpa using ih
  | true=>
   simp only [if_true]
   refine List.pairwise_append.2 ⟨ih,by simp,fun a ha b hb=> ?_⟩
   rw [List.mem_singleton.1 hb]
   obtain⟨j,h1,h2,_⟩:=A2E zs.toArray m (by simp;omega) ha
   have hget: ∀i (h:i<zs.length),zs.toArray[i]! =zs[i]:=fun i h=>by simp [h]
   rw [←h2,hget j (by omega),hget m (by omega)]
   have hk':=of_decide_eq_true hk
   have hle:=List.pairwise_iff_getElem.1 hs
   rcases hk' with h0|hne
   ·omega
   ·rw [hget m (by omega),hget (m-1) (by omega)]at hne
    have a1:=hle (m-1) m (by omega) (by omega) (by omega)
    by_cases e:j=m-1
    ·subst e;omega
    ·have a2:=hle j (m-1) (by omega) (by omega) (by omega)
     omega
theorem A4K(l:List Int):Asc (D5 l):=by
 refine A7e _ ?_ _ (Nat.le_refl _)
 unfold A3b
 have:=List.pairwise_mergeSort (le:=fun x y:Int=>decide (x≤y)) (fun a b c h1 h2=>by simp at*;omega) (fun a b=>by simp;omega) l
 exact this.imp fun h=>by simpa using h
theorem B9u{l m:List Int}(hm:Asc m)(h: ∀x,x∈l↔x∈m):D5 l=m:=C1D (A4K l) hm fun x=>A0W.trans (h x)
theorem C3p{l:List Int}(h:Asc l):D5 l=l:=B9u h fun _=> .rfl
def B7Q(l:List Int)(r:Int):List Int:=l.filter (fun x=>decide (x<r))++r::l.filter (fun x=>decide (r<x))
theorem C5m{l:List Int}{r x:Int}:x∈B7Q l r↔x∈l∨x=r:=by
 unfold B7Q
 simp only [List.mem_append,List.mem_filter,List.mem_cons,decide_eq_true_eq]
 constructor
 ·rintro(⟨h,_⟩|h|⟨h,_⟩)
  ·exact .inl h
  ·exact .inr h
  ·exact .inl h
 ·rintro(h|h)
  ·rcases Int.lt_trichotomy x r with c|c|c
   ·exact .inl ⟨h,c⟩
   ·exact .inr (.inl c)
   ·exact .inr (.inr ⟨h,c⟩)
  ·exact .inr (.inl h)
theorem C4s{l:List Int}(h:Asc l)(r:Int):Asc (B7Q l r):=by
 unfold B7Q
 refine List.pairwise_append.2 ⟨h.filter _,List.pairwise_cons.2 ⟨fun a ha=> ?_,h.filter _⟩,fun a ha b hb=> ?_⟩
 ·simpa using (List.mem_filter.1 ha).2
 ·have h1:a<r:=by simpa using (List.mem_filter.1 ha).2
  rcases List.mem_cons.1 hb with rfl|hb
  ·exact h1
  ·have h2:r<b:=by simpa using (List.mem_filter.1 hb).2
   omega
theorem C0E(l:List Int)(r:Int):B7Q (D5 l) r=D5 (l++ [r]):=
 (B9u (C4s (A4K l) r) fun x=>by rw [C5m,A0W];simp).symm
theorem A9Q:Asc []:=List.Pairwise.nil
theorem B7y(x:Int):Asc [x]:=List.pairwise_singleton ..
def D2(a:Int)(n:Nat):List Int:=(List.range n).map fun k=>a+(k:Nat)
theorem C1u(a:Int):D2 a 0= []:=rfl
theorem A0P(a:Int)(n:Nat):D2 a (n+1)=D2 a n++ [a+(n:Nat)]:=by simp [D2,List.range_succ]
theorem B0f(a:Int)(n:Nat):(D2 a n).length=n:=by simp [D2]
theorem B6Y{a x:Int}{n:Nat}:x∈D2 a n↔a≤x∧x<a+n:=by
 unfold D2
 simp only [List.mem_map,List.mem_range]
 constructor
 ·rintro⟨k,h1,rfl⟩;omega
 ·rintro⟨h1,h2⟩;exact⟨(x-a).toNat,by omega,by omega⟩
theorem B2R(a:Int): ∀n,Asc (D2 a n)
 |0=>A9Q
 |n+1=>by
  rw [A0P]
  refine List.pairwise_append.2 ⟨B2R a n,by simp,fun x hx y hy=> ?_⟩
  rw [List.mem_singleton.1 hy]
  have:=B6Y.1 hx;omega
end Go.Proofs.YtflobbpcabopjaaGreatDoor
