/-
 Sorted lists; sets of numbers as lists. No condition.
-/
import Derived.Test.YtnihmhbcjpcobaaGreatDoorUtl
import Derived.Test.YtnihmhbcjpcobaaGreatDoorShelf
import Derived.Test.YtnihmhbcjpcobaaGreatDoorWk
set_option linter.unusedVariables false
set_option linter.unusedSimpArgs false
set_option maxRecDepth 100000
set_option maxHeartbeats 0
namespace Go.Proofs.YtnihmhbcjpcobaaGreatDoor
open Go.Abs
attribute [local irreducible] A2 Run
def L8(zs:List Int):List Int:=zs.mergeSort fun x y=>decide (x≤y)
theorem C7U(zs:List Int)(hm:0<zs.length)(hB:zs.length≤100000)(b st n:Nat):
  A2 Tryz.prog 91 [.sl b st 0 zs.length] [(b,st,.rows 1 (zs.map zrw))] n (fun r h' _=>r= .tup []∧h'= [(b,st,.rows 1 ((L8 zs).map zrw))]):=
 A2.inplace zs (L8 zs) hm (by simp [L8]) (fun _ _ _=> .tuple #[]) (.tup []) b st n (fun E cap _ _ _ _=> .tup [] #[] rfl (fun i c v h=>by simp at h))
  (fun blk off cap w hH hb hcap=>(Tryz.slices_Sort_int blk off cap zs w hH hb (by omega)).mono fun e w' h=>h)
theorem A5f:Abs.Pure Tryz.prog 91 [.isl []] (.tup []):=by
 intro w O cargs _ _ hR
 obtain⟨hl,hR⟩:=hR
 obtain⟨cs⟩:=cargs
 match cs,hl with
 | [v],_=>
  obtain⟨p,cap,hv⟩: ∃p cap,v= .slice p 0 cap:=by
   have h:=hR 0 _ v rfl rfl
   cases h with
   |isl _ p cap sz f hp hcap hrow hcell hR=>exact⟨_,_,rfl⟩
   |isl0 a cap=>exact⟨_,_,rfl⟩
  subst hv
  refine(Tryz.slices_Sort_int_none p cap w).mono ?_
  rintro e w' ⟨rfl,rfl⟩
  exact⟨_,rfl,.tup [] #[] rfl (fun i c v h=>by simp at h),Wd.refl _,fun _ _=>rfl⟩
theorem C0t(zs:List Int)(hm:0<zs.length)(hB:zs.length≤100000)(b st n:Nat):
  A2 Tryz.prog 92 [.sl b st 0 zs.length] [(b,st,.rows 1 (zs.map zrw))] n
   (fun r h' _=>r= .sl b st 0 (Lib.compact zs).length∧h'= [(b,st,.rows 1 ((Lib.compact zs++List.replicate (zs.length-(Lib.compact zs).length) 0).map zrw))]):=by
 have hle:(Lib.compact zs).length≤zs.length:=Lib.compact_length_le zs
 refine A2.inplace zs (Lib.compact zs++List.replicate (zs.length-(Lib.compact zs).length) 0) hm (by simp;omega) (fun blk off cap=> .slice (some ⟨blk,off,none⟩) (Lib.compact zs).length cap) _ b st n ?_ ?_
 ·intro E cap h1 h2 h3 h4
  have:=R.sl (E:=E) b st 0 (Lib.compact zs).length cap h1 (by omega) (by omega)
  simpa using this
 ·intro blk off cap w hH hb hcap
  refine(Tryz.slices_Compact_int blk off cap zs w hH (by omega) hcap).mono ?_
  rintro e w' ⟨rfl,q,rfl⟩
  exact⟨rfl,q, #[],by simp⟩
theorem j4:Abs.Pure Tryz.prog 92 [.isl []] (.isl []):=by
 intro w O cargs _ _ hR
 obtain⟨hl,hR⟩:=hR
 obtain⟨cs⟩:=cargs
 match cs,hl with
 | [v],_=>
  obtain⟨p,cap,hv⟩: ∃p cap,v= .slice p 0 cap:=by
   have h:=hR 0 _ v rfl rfl
   cases h with
   |isl _ p cap sz f hp hcap hrow hcell hR=>exact⟨_,_,rfl⟩
   |isl0 a cap=>exact⟨_,_,rfl⟩
  subst hv
  refine(Tryz.slices_Compact_int_empty p cap w).mono ?_
  rintro e w' ⟨rfl,rfl⟩
  exact⟨_,rfl,.isl0 _ _,Wd.refl _,fun _ _=>rfl⟩
theorem A9x(zs:List Int){m:Nat}(hl:zs.length=m)(hm:0<m)(hB:m≤100000)(b st n:Nat):
  A2 Tryz.prog 91 [.sl b st 0 m] [(b,st,.rows 1 (zs.map zrw))] n (fun r h' _=>r= .tup []∧h'= [(b,st,.rows 1 ((L8 zs).map zrw))]):=by
 subst hl;exact C7U zs hm hB b st n
theorem A1F(zs:List Int){m:Nat}(hl:zs.length=m)(hm:0<m)(hB:m≤100000)(b st n:Nat):
  A2 Tryz.prog 92 [.sl b st 0 m] [(b,st,.rows 1 (zs.map zrw))] n
   (fun r h' _=>r= .sl b st 0 (Lib.compact zs).length∧h'= [(b,st,.rows 1 ((Lib.compact zs++List.replicate (m-(Lib.compact zs).length) 0).map zrw))]):=by
 subst hl;exact C0t zs hm hB b st n
theorem K4(d:Nat)(h:A0)(l:List Int):(l.map zrw).map (fun r=>r.map (frz d h))=l.map zrw:=by
 rw [List.map_map]
 exact List.map_congr_left fun y _=>by simp [zrw,B5n]
def D2(l:List Int):List Int:=Lib.compact (L8 l)
theorem O4(zs:List Int)(m:Nat):(((Lib.compact zs++List.replicate m 0).map zrw).take (Lib.compact zs).length)=(Lib.compact zs).map zrw:=by
 rw [List.map_append]
 have:(Lib.compact zs).length=((Lib.compact zs).map zrw).length:=by simp
 rw [this,List.take_left]
theorem G0:D2 []= []:=by simp [D2,L8,Lib.compact,Lib.compactUpTo]
theorem H9(x:Int):D2 [x]= [x]:=by
 simp [D2,L8,Lib.compact,Lib.compactUpTo,Lib.keeps,List.range_succ]
theorem C1J(x y:Int):L8 [x,y]=if x≤y then [x,y]else [y,x]:=by
 unfold L8
 by_cases h:x≤y<;>simp [List.mergeSort,List.MergeSort.Internal.splitInTwo,List.merge,h]
theorem B1x(x y:Int):Lib.compact [x,y]=if x=y then [x]else [x,y]:=by
 by_cases h:x=y
 ·subst h;simp [Lib.compact,Lib.compactUpTo,Lib.keeps,List.range_succ,List.filter]
 ·have h': ¬y=x:=fun e=>h e.symm
  simp [Lib.compact,Lib.compactUpTo,Lib.keeps,List.range_succ,List.filter,h,h']
theorem B4L(x y:Int):D2 [x,y]=if x=y then [x]else if x<y then [x,y]else [y,x]:=by
 unfold D2
 rw [C1J]
 by_cases h:x≤y
 ·rw [if_pos h,B1x]
  by_cases e:x=y
  ·simp [e]
  ·rw [if_neg e,if_neg e,if_pos (by omega)]
 ·rw [if_neg h,B1x,if_neg (by omega),if_neg (by omega),if_neg (by omega)]
theorem A2g(d:Array Int): ∀m j,j<m→d[j]! ∈Lib.compactUpTo d m
 |0,j,h=>absurd h (Nat.not_lt_zero _)
 | m +1,j,h=>by
  rw [Lib.compactUpTo_succ]
  by_cases hj:j<m
  ·exact List.mem_append.2 (.inl (A2g d m j hj))
  ·obtain rfl:j=m:=by omega
   cases hk:Lib.keeps d j with
   |true=>simp
   | false=>
    have: ¬(j=0∨d[j]! ≠d[j-1]!):=of_decide_eq_false hk
    have e:d[j]! =d[j-1]! :=by
     by_cases h2:d[j]! =d[j-1]!
     ·exact h2
     ·exact absurd (.inr h2) this
    have h0:j≠0:=fun h=>this (.inl h)
    rw [e]
    exact List.mem_append.2 (.inl (A2g d j (j-1) (by omega)))
theorem B3h{zs:List Int}{x:Int}(h:x∈zs):x∈Lib.compact zs:=by
 obtain⟨j,hj,rfl⟩:=List.getElem_of_mem h
 have:=A2g zs.toArray zs.length j hj
 simpa [Lib.compact,hj]using this
theorem B5N(l:List Int):C4 (l.map zrw) 1=True:=eq_true fun r hr=>by obtain⟨y,_,rfl⟩:=List.mem_map.1 hr;rfl
theorem W8{l:List Int}{k:Nat}{x:Int}(h:l[k]? =some x):(l.map zrw)[k]? =some [.int .i64 x]:=by rw [List.getElem?_map,h];rfl
def Asc(l:List Int):Prop:=l.Pairwise (· < ·)
theorem B9s: ∀{l m:List Int},Asc l→Asc m→(∀x,x∈l↔x∈m)→l=m
 | [],[],_,_,_=>rfl
 | [],y::m,_,_,h=>by have:=(h y).2 List.mem_cons_self;cases this
 |x::l,[],_,_,h=>by have:=(h x).1 List.mem_cons_self;cases this
 | x::l,y::m,hl,hm,h=>by
  obtain⟨hl1,hl2⟩:=List.pairwise_cons.1 hl
  obtain⟨hm1,hm2⟩:=List.pairwise_cons.1 hm
  have e:x=y:=by
   rcases List.mem_cons.1 ((h x).1 List.mem_cons_self)with e|e
   ·exact e
   ·rcases List.mem_cons.1 ((h y).2 List.mem_cons_self)with e'|e'
    ·exact e'.symm
    ·have:=hm1 x e;have:=hl1 y e';omega
  subst e
  congr 1
  refine B9s hl2 hm2 fun z=>⟨fun hz=> ?_,fun hz=> ?_⟩
  ·rcases List.mem_cons.1 ((h z).1 (List.mem_cons_of_mem _ hz))with e|e
   ·have:=hl1 z hz;omega
   ·exact e
  ·rcases List.mem_cons.1 ((h z).2 (List.mem_cons_of_mem _ hz))with e|e
   ·have:=hm1 z hz;omega
   ·exact e
theorem A2Z(d:Array Int){x:Int}: ∀m,m≤d.size→x∈Lib.compactUpTo d m→ ∃j,j<m∧d[j]! =x∧(∀i,i<m→True)
 |m,hm,h=>by
  unfold Lib.compactUpTo at h
  obtain⟨j,h1,h2⟩:=List.mem_map.1 h
  have:=List.mem_range.1 (List.mem_filter.1 h1).1
  exact⟨j,this,h2,fun _ _=>trivial⟩
theorem B2e{zs:List Int}{x:Int}:x∈Lib.compact zs↔x∈zs:=by
 refine⟨fun h=> ?_,B3h⟩
 obtain⟨j,h1,h2,_⟩:=A2Z zs.toArray zs.length (by simp) h
 have:zs.toArray[j]! =zs[j]:=by simp [h1]
 rw [this]at h2
 rw [←h2]
 exact List.getElem_mem h1
theorem X0{l:List Int}{x:Int}:x∈D2 l↔x∈l:=by
 unfold D2 L8
 rw [B2e]
 exact(List.mergeSort_perm l _).mem_iff
theorem A6d(zs:List Int)(hs:zs.Pairwise (· ≤ ·)): ∀m,m≤zs.length→Asc (Lib.compactUpTo zs.toArray m)
 |0,_=>by simp [Lib.compactUpTo,Asc]
 | m +1,hm=>by
  rw [Lib.compactUpTo_succ]
  have ih:=A6d zs hs m (by omega)
  cases hk:Lib.keeps zs.toArray m with
  |false=>simpa using ih
  | true=>
   simp only [if_true]
   refine List.pairwise_append.2 ⟨ih,by simp,fun a ha b hb=> ?_⟩
   rw [List.mem_singleton.1 hb]
   obtain⟨j,h1,h2,_⟩:=A2Z zs.toArray m (by simp;omega) ha
   have hget: ∀i (h:i<zs.length),zs.toArray[i]! =zs[i]:=fun i h=>by simp [h]
   rw [←h2,hget j (by omega),hget m (by omega)]
   have hk':=of_decide_eq_true hk
   have hle:=List.pairwise_iff_getElem.1 hs
   rcases hk' with h0|hne
   ·omega
   ·rw [hget m (by omega),hget (m-1) (by omega)]at hne
    have a1:=hle (m-1) m (by omega) (by omega) (by omega)
    by_cases e:j=m-1
    ·subst e;omega
    ·have a2:=hle j (m-1) (by omega) (by omega) (by omega)
     omega
theorem A4w(l:List Int):Asc (D2 l):=by
 refine A6d _ ?_ _ (Nat.le_refl _)
 unfold L8
 have:=List.pairwise_mergeSort (le:=fun x y:Int=>decide (x≤y)) (fun a b c h1 h2=>by simp at*;omega) (fun a b=>by simp;omega) l
 exact this.imp fun h=>by simpa using h
theorem B7f{l m:List Int}(hm:Asc m)(h: ∀x,x∈l↔x∈m):D2 l=m:=B9s (A4w l) hm fun x=>X0.trans (h x)
theorem B4K{l:List Int}(h:Asc l):D2 l=l:=B7f h fun _=> .rfl
def B2T(l:List Int)(r:Int):List Int:=l.filter (fun x=>decide (x<r))++r::l.filter (fun x=>decide (r<x))
theorem C2M{l:List Int}{r x:Int}:x∈B2T l r↔x∈l∨x=r:=by
 unfold B2T
 simp only [List.mem_append,List.mem_filter,List.mem_cons,decide_eq_true_eq]
 constructor
 ·rintro(⟨h,_⟩|h|⟨h,_⟩)
  ·exact .inl h
  ·exact .inr h
  ·exact .inl h
 ·rintro(h|h)
  ·rcases Int.lt_trichotomy x r with c|c|c
   ·exact .inl ⟨h,c⟩
   ·exact .inr (.inl c)
   ·exact .inr (.inr ⟨h,c⟩)
  ·exact .inr (.inl h)
theorem C1X{l:List Int}(h:Asc l)(r:Int):Asc (B2T l r):=by
 unfold B2T
 refine List.pairwise_append.2 ⟨h.filter _,List.pairwise_cons.2 ⟨fun a ha=> ?_,h.filter _⟩,fun a ha b hb=> ?_⟩
 ·simpa using (List.mem_filter.1 ha).2
 ·have h1:a<r:=by simpa using (List.mem_filter.1 ha).2
  rcases List.mem_cons.1 hb with rfl|hb
  ·exact h1
  ·have h2:r<b:=by simpa using (List.mem_filter.1 hb).2
   omega
theorem B2U(l:List Int)(r:Int):B2T (D2 l) r=D2 (l++ [r]):=
 (B7f (C1X (A4w l) r) fun x=>by rw [C2M,X0];simp).symm
theorem A5C:Asc []:=List.Pairwise.nil
theorem B2l(x:Int):Asc [x]:=List.pairwise_singleton ..
def D4(a:Int)(n:Nat):List Int:=(List.range n).map fun k=>a+(k:Nat)
theorem B9l(a:Int):D4 a 0= []:=rfl
theorem A1J(a:Int)(n:Nat):D4 a (n+1)=D4 a n++ [a+(n:Nat)]:=by simp [D4,List.range_succ]
theorem A8q(a:Int)(n:Nat):(D4 a n).length=n:=by simp [D4]
theorem B4H{a x:Int}{n:Nat}:x∈D4 a n↔a≤x∧x<a+n:=by
 unfold D4
 simp only [List.mem_map,List.mem_range]
 constructor
 ·rintro⟨k,h1,rfl⟩;omega
 ·rintro⟨h1,h2⟩;exact⟨(x-a).toNat,by omega,by omega⟩
theorem B0P(a:Int): ∀n,Asc (D4 a n)
 |0=>A5C
 |n+1=>by
  rw [A1J]
  refine List.pairwise_append.2 ⟨B0P a n,by simp,fun x hx y hy=> ?_⟩
  rw [List.mem_singleton.1 hy]
  have:=B4H.1 hx;omega
end Go.Proofs.YtnihmhbcjpcobaaGreatDoor
