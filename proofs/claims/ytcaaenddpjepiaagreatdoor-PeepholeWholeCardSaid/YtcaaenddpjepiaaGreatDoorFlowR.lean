/-
 Sorted lists; sets of numbers as lists. No condition.
-/
import Derived.Test.YtcaaenddpjepiaaGreatDoorTsub
import Derived.Test.YtcaaenddpjepiaaGreatDoorShelf
import Derived.Test.YtcaaenddpjepiaaGreatDoorExe
import Derived.Test.YtcaaenddpjepiaaGreatDoorPeTR
import Derived.Test.YtcaaenddpjepiaaGreatDoorOpc3
import Derived.Test.YtcaaenddpjepiaaGreatDoorFnCk
set_option linter.unusedVariables false
set_option linter.unusedSimpArgs false
set_option maxRecDepth 100000
set_option maxHeartbeats 0
namespace Go.Proofs.YtcaaenddpjepiaaGreatDoor
section
open Go.Abs
attribute [local irreducible] A0 Run
def W5(zs:List Int):List Int:=zs.mergeSort fun x y=>decide (x≤y)
theorem D4l(z:List Int)(g:0<z.length)(p:z.length≤100000)(b st n:Nat):
  A0 Tryz.prog 82 [.sl b st 0 z.length] [(b,st,.rows 1 (z.map zrw))] n (fun r j _=>r= .tup []∧j= [(b,st,.rows 1 ((W5 z).map zrw))]):=
 A0.inplace z (W5 z) g zI (fun _ _ _=> .tuple #[]) (.tup []) b st n (fun E a _ _ _ _=> .tup [] #[] rfl (fun i c v h=>by simp at h))
  (fun d o a w k l f=>(Tryz.slices_Sort_int d o a z w k l zd).mono fun e m h=>h)
theorem A7P:Abs.Pure Tryz.prog 82 [.isl []] (.tup []):=by
 intro w O d _ _ g
 obtain⟨n,g⟩:=g
 obtain⟨o⟩:=d
 match o,n with
 | [v],_=>
  obtain⟨p,b,m⟩: ∃p b,v= .slice p 0 b:=by
   have h:=g 0 _ v rfl rfl
   cases h with
   |isl _ p b s f r l k j g=>exact⟨_,_,rfl⟩
   |isl0 a b=>exact⟨_,_,rfl⟩
  subst m
  refine(Tryz.slices_Sort_int_none p b w).mono ?_
  rintro e q ⟨rfl,rfl⟩
  exact⟨_,rfl,.tup [] #[] rfl (fun i c v h=>by simp at h),Wd.refl _,fun _ _=>rfl⟩
theorem C5X(z:List Int)(d:0<z.length)(t:z.length≤100000)(b st n:Nat):
  A0 Tryz.prog 83 [.sl b st 0 z.length] [(b,st,.rows 1 (z.map zrw))] n
   (fun r f _=>r= .sl b st 0 (Lib.compact z).length∧f= [(b,st,.rows 1 ((Lib.compact z++List.replicate (z.length-(Lib.compact z).length) 0).map zrw))]):=by
 have g:(Lib.compact z).length≤z.length:=Lib.compact_length_le z
 refine A0.inplace z (Lib.compact z++List.replicate (z.length-(Lib.compact z).length) 0) d zl (fun a o c=> .slice (some ⟨a,o,none⟩) (Lib.compact z).length c) _ b st n ?_ ?_
 ·intro E c j l p m
  have:=R.sl (E:=E) b st 0 (Lib.compact z).length c j zd zd
  simpa using this
 ·intro a o c w i s h
  refine(Tryz.slices_Compact_int a o c z w i zd h).mono ?_
  rintro e k ⟨rfl,q,rfl⟩
  exact⟨rfl,q, #[],by simp⟩
theorem A1J:Abs.Pure Tryz.prog 83 [.isl []] (.isl []):=by
 intro w O b _ _ d
 obtain⟨l,d⟩:=d
 obtain⟨m⟩:=b
 match m,l with
 | [v],_=>
  obtain⟨p,c,k⟩: ∃p c,v= .slice p 0 c:=by
   have h:=d 0 _ v rfl rfl
   cases h with
   |isl _ p c s f o j i g d=>exact⟨_,_,rfl⟩
   |isl0 a c=>exact⟨_,_,rfl⟩
  subst k
  refine(Tryz.slices_Compact_int_empty p c w).mono ?_
  rintro e n ⟨rfl,rfl⟩
  exact⟨_,rfl,.isl0 _ _,Wd.refl _,fun _ _=>rfl⟩
theorem B1X(z:List Int){m:Nat}(c:z.length=m)(h:0<m)(d:m≤100000)(b st n:Nat):
  A0 Tryz.prog 82 [.sl b st 0 m] [(b,st,.rows 1 (z.map zrw))] n (fun r a _=>r= .tup []∧a= [(b,st,.rows 1 ((W5 z).map zrw))]):=by
 subst c;exact D4l z h d b st n
theorem A3z(z:List Int){m:Nat}(c:z.length=m)(h:0<m)(d:m≤100000)(b st n:Nat):
  A0 Tryz.prog 83 [.sl b st 0 m] [(b,st,.rows 1 (z.map zrw))] n
   (fun r a _=>r= .sl b st 0 (Lib.compact z).length∧a= [(b,st,.rows 1 ((Lib.compact z++List.replicate (m-(Lib.compact z).length) 0).map zrw))]):=by
 subst c;exact C5X z h d b st n
theorem O7(d:Nat)(h:A2)(l:List Int):(l.map zrw).map (fun r=>r.map (frz d h))=l.map zrw:=by
 rw [List.map_map]
 exact List.map_congr_left fun y _=>by simp [zrw,B9I]
def F7(l:List Int):List Int:=Lib.compact (W5 l)
theorem Z3(z:List Int)(m:Nat):(((Lib.compact z++List.replicate m 0).map zrw).take (Lib.compact z).length)=(Lib.compact z).map zrw:=by
 rw [List.map_append]
 have:(Lib.compact z).length=((Lib.compact z).map zrw).length:=by simp
 rw [this,List.take_left]
theorem J9:F7 []= []:=by simp [F7,W5,Lib.compact,Lib.compactUpTo]
theorem N4(x:Int):F7 [x]= [x]:=by
 simp [F7,W5,Lib.compact,Lib.compactUpTo,Lib.keeps,List.range_succ]
theorem C7C(x y:Int):W5 [x,y]=if x≤y then [x,y]else [y,x]:=by
 unfold W5
 by_cases h:x≤y<;>simp [List.mergeSort,List.MergeSort.Internal.splitInTwo,List.merge,h]
theorem B4m(x y:Int):Lib.compact [x,y]=if x=y then [x]else [x,y]:=by
 by_cases h:x=y
 ·subst h;simp [Lib.compact,Lib.compactUpTo,Lib.keeps,List.range_succ,List.filter]
 ·have a: ¬y=x:=fun e=>h e.symm
  simp [Lib.compact,Lib.compactUpTo,Lib.keeps,List.range_succ,List.filter,h,a]
theorem B8F(x y:Int):F7 [x,y]=if x=y then [x]else if x<y then [x,y]else [y,x]:=by
 unfold F7
 rw [C7C]
 by_cases h:x≤y
 ·rw [if_pos h,B4m]
  by_cases e:x=y
  ·simp [e]
  ·rw [if_neg e,if_neg e,if_pos zd]
 ·rw [if_neg h,B4m,if_neg zd,if_neg zd,if_neg zd]
theorem A4h(d:Array Int): ∀m j,j<m→d[j]! ∈Lib.compactUpTo d m
 |0,j,h=>absurd h (Nat.not_lt_zero _)
 | m +1,j,h=>by
  rw [Lib.compactUpTo_succ]
  by_cases b:j<m
  ·exact List.mem_append.2 (.inl (A4h d m j b))
  ·obtain rfl:j=m:=by omega
   cases hk:Lib.keeps d j with
   |true=>simp
   | false=>
    have: ¬(j=0∨d[j]! ≠d[j-1]!):=of_decide_eq_false hk
    have e:d[j]! =d[j-1]! :=by
     by_cases a:d[j]! =d[j-1]!
     ·exact a
     ·exact absurd (.inr a) this
    have c:j≠0:=fun h=>this (.inl h)
    rw [e]
    exact List.mem_append.2 (.inl (A4h d j (j-1) zd))
theorem B6w{z:List Int}{x:Int}(h:x∈z):x∈Lib.compact z:=by
 obtain⟨j,a,rfl⟩:=List.getElem_of_mem h
 have:=A4h z.toArray z.length j a
 simpa [Lib.compact,a]using this
theorem B3Y(l:List Int):C4 (l.map zrw) 1=True:=eq_true fun r h=>by obtain⟨y,_,rfl⟩:=List.mem_map.1 h;rfl
theorem P9{l:List Int}{k:Nat}{x:Int}(h:l[k]? =some x):(l.map zrw)[k]? =some [.int .i64 x]:=by rw [List.getElem?_map,h];rfl
def Asc(l:List Int):Prop:=l.Pairwise (· < ·)
theorem C4G: ∀{l m:List Int},Asc l→Asc m→(∀x,x∈l↔x∈m)→l=m
 | [],[],_,_,_=>rfl
 | [],y::m,_,_,h=>by have:=(h y).2 List.mem_cons_self;cases this
 |x::l,[],_,_,h=>by have:=(h x).1 List.mem_cons_self;cases this
 | x::l,y::m,hl,hm,h=>by
  obtain⟨b,f⟩:=List.pairwise_cons.1 hl
  obtain⟨c,d⟩:=List.pairwise_cons.1 hm
  have e:x=y:=by
   rcases List.mem_cons.1 ((h x).1 List.mem_cons_self)with e|e
   ·exact e
   ·rcases List.mem_cons.1 ((h y).2 List.mem_cons_self)with e'|e'
    ·exact e'.symm
    ·have:=c x e;have:=b y e';omega
  subst e
  congr 1
  refine C4G f d fun z=>⟨fun a=> ?_,fun a=> ?_⟩
  ·rcases List.mem_cons.1 ((h z).1 (List.mem_cons_of_mem _ a))with e|e
   ·have:=b z a;omega
   ·exact e
  ·rcases List.mem_cons.1 ((h z).2 (List.mem_cons_of_mem _ a))with e|e
   ·have:=c z a;omega
   ·exact e
theorem A5d(d:Array Int){x:Int}: ∀m,m≤d.size→x∈Lib.compactUpTo d m→ ∃j,j<m∧d[j]! =x∧(∀i,i<m→True)
 |m,hm,h=>by
  unfold Lib.compactUpTo at h
  obtain⟨j,a,b⟩:=List.mem_map.1 h
  have:=List.mem_range.1 (List.mem_filter.1 a).1
  exact⟨j,this,b,fun _ _=>trivial⟩
theorem B4X{z:List Int}{x:Int}:x∈Lib.compact z↔x∈z:=by
 refine⟨fun h=> ?_,B6w⟩
 obtain⟨j,a,b,_⟩:=A5d z.toArray z.length zf h
 have:z.toArray[j]! =z[j]:=by simp [a]
 rw [this]at b
 rw [←b]
 exact List.getElem_mem a
theorem A0Y{l:List Int}{x:Int}:x∈F7 l↔x∈l:=by
 unfold F7 W5
 rw [B4X]
 exact(List.mergeSort_perm l _).mem_iff
theorem A9f(z:List Int)(k:z.Pairwise (· ≤ ·)): ∀m,m≤z.length→Asc (Lib.compactUpTo z.toArray m)
 |0,_=>by simp [Lib.compactUpTo,Asc]
 | m +1,hm=>by
  rw [Lib.compactUpTo_succ]
  have l:=A9f z k m zd
  cases hk:Lib.keeps z.toArray m with
  |false=>simpa using l
  | true=>
   simp only [if_true]
   refine List.pairwise_append.2 ⟨l,by simp,fun a o b p=> ?_⟩
   rw [List.mem_singleton.1 p]
   obtain⟨j,t,n,_⟩:=A5d z.toArray m zl o
   have c: ∀i (h:i<z.length),z.toArray[i]! =z[i]:=fun i h=>by simp [h]
   rw [←n,c j zd,c m zd]
   have g:=of_decide_eq_true hk
   have d:=List.pairwise_iff_getElem.1 k
   rcases g with r|f
   ·omega
   ·rw [c m zd,c (m-1) zd]at f
    have q:=d (m-1) m zd zd zd
    by_cases e:j=m-1
    ·subst e;omega
    ·have s:=d j (m-1) zd zd zd
     omega
theorem A6V(l:List Int):Asc (F7 l):=by
 refine A9f _ ?_ _ (Nat.le_refl _)
 unfold W5
 have:=List.pairwise_mergeSort (le:=fun x y:Int=>decide (x≤y)) (fun a b c d e=>by simp at*;omega) (fun a b=>by simp;omega) l
 exact this.imp fun h=>by simpa using h
theorem C1I{l m:List Int}(a:Asc m)(h: ∀x,x∈l↔x∈m):F7 l=m:=C4G (A6V l) a fun x=>A0Y.trans (h x)
theorem B8E{l:List Int}(h:Asc l):F7 l=l:=C1I h fun _=> .rfl
def B6f(l:List Int)(r:Int):List Int:=l.filter (fun x=>decide (x<r))++r::l.filter (fun x=>decide (r<x))
theorem C8W{l:List Int}{r x:Int}:x∈B6f l r↔x∈l∨x=r:=by
 unfold B6f
 simp only [List.mem_append,List.mem_filter,List.mem_cons,decide_eq_true_eq]
 constructor
 ·rintro(⟨h,_⟩|h|⟨h,_⟩)
  ·exact .inl h
  ·exact .inr h
  ·exact .inl h
 ·rintro(h|h)
  ·rcases Int.lt_trichotomy x r with c|c|c
   ·exact .inl ⟨h,c⟩
   ·exact .inr (.inl c)
   ·exact .inr (.inr ⟨h,c⟩)
  ·exact .inr (.inl h)
theorem C7Q{l:List Int}(h:Asc l)(r:Int):Asc (B6f l r):=by
 unfold B6f
 refine List.pairwise_append.2 ⟨h.filter _,List.pairwise_cons.2 ⟨fun a c=> ?_,h.filter _⟩,fun a c b d=> ?_⟩
 ·simpa using (List.mem_filter.1 c).2
 ·have e:a<r:=by simpa using (List.mem_filter.1 c).2
  rcases List.mem_cons.1 d with rfl|d
  ·exact e
  ·have f:r<b:=by simpa using (List.mem_filter.1 d).2
   omega
theorem B6g(l:List Int)(r:Int):B6f (F7 l) r=F7 (l++ [r]):=
 (C1I (C7Q (A6V l) r) fun x=>by rw [C8W,A0Y];simp).symm
theorem A8a:Asc []:=List.Pairwise.nil
theorem B5r(x:Int):Asc [x]:=List.pairwise_singleton ..
def G3(a:Int)(n:Nat):List Int:=(List.range n).map fun k=>a+(k:Nat)
theorem C4u(a:Int):G3 a 0= []:=rfl
theorem A3J(a:Int)(n:Nat):G3 a (n+1)=G3 a n++ [a+(n:Nat)]:=by simp [G3,List.range_succ]
theorem B0Q(a:Int)(n:Nat):(G3 a n).length=n:=by simp [G3]
theorem B8D{a x:Int}{n:Nat}:x∈G3 a n↔a≤x∧x<a+n:=by
 unfold G3
 simp only [List.mem_map,List.mem_range]
 constructor
 ·rintro⟨k,h,rfl⟩;omega
 ·rintro⟨h,b⟩;exact⟨(x-a).toNat,by omega,by omega⟩
theorem B3t(a:Int): ∀n,Asc (G3 a n)
 |0=>A8a
 |n+1=>by
  rw [A3J]
  refine List.pairwise_append.2 ⟨B3t a n,by simp,fun x h y b=> ?_⟩
  rw [List.mem_singleton.1 b]
  have:=B8D.1 h;omega
end
section
open Go.Abs
theorem I3.slI{b st i:Nat}:I3 (.sl b st i 0) (.isl []):=fun E x h=>by
 cases h with
 |sl _ _ _ _ c e f d=>exact .isl0 _ _
 |sl0 _ _ _ a=>exact .isl0 _ _
def M3(l:List Int)(r:Int)(k:Nat):Bool:=(l.take k).any fun x=>decide (r≤x)
def A9I(l:List Int)(r:Int)(k:Nat):List Int:=(l.take k).filter (fun x=>decide (x<r))++(if M3 l r k then r::(l.take k).filter (fun x=>decide (r<x))else [])
theorem B1u{l:List Int}{r x:Int}{k:Nat}(h:l[k]? =some x):M3 l r (k+1)=(M3 l r k||decide (r≤x)):=by
 unfold M3
 rw [List.take_add_one,h,Option.toList_some,List.any_append];simp
theorem B8H{l:List Int}(p:Asc l){r x:Int}{k:Nat}(h:l[k]? =some x):
  A9I l r (k+1)=A9I l r k++(if M3 l r k=false∧r≤x then [r]else [])++(if x=r then []else [x]):=by
 have i:M3 l r k=true→r<x:=by
  intro a
  unfold M3 at a
  obtain⟨y,m,f⟩:=List.any_eq_true.1 a
  obtain⟨j,q,b⟩:=List.getElem_of_mem m
  rw [List.length_take]at q
  rw [List.getElem_take]at b
  have o:=(List.getElem?_eq_some_iff.1 h)
  obtain⟨d,g⟩:=o
  have:=List.pairwise_iff_getElem.1 p j k zd d zd
  rw [b,g]at this
  have:=of_decide_eq_true f
  omega
 have n:M3 l r k=false→(l.take k).filter (fun x=>decide (r<x))= []:=by
  intro a
  rw [List.filter_eq_nil_iff]
  intro y m f
  have s:=of_decide_eq_true f
  have:M3 l r k=true:=List.any_eq_true.2 ⟨y,m,by simp;omega⟩
  rw [a]at this;cases this
 have e:=B1u (r:=r) h
 unfold A9I
 rw [List.take_add_one,h,Option.toList_some,List.filter_append,List.filter_append,e]
 cases a:M3 l r k with
 |true=>
  have:=i a
  simp [List.filter,show¬x<r by omega,this,show¬x=r by omega]
 | false=>
  rw [n a]
  by_cases c:r≤x
  ·by_cases e:x=r
   ·subst e;simp [List.filter]
   ·simp [List.filter,show¬x<r by omega,c,e,show r<x by omega]
  ·simp [List.filter,show x<r by omega,c,show¬x=r by omega]
theorem B8I(l:List Int)(r:Int):A9I l r 0= []:=by simp [A9I,M3]
theorem C1O(l:List Int)(r:Int)(k:Nat):(A9I l r k).length≤2*l.length+1:=by
 unfold A9I
 have a:=List.length_filter_le (fun x=>decide (x<r)) (l.take k)
 have b:=List.length_filter_le (fun x=>decide (r<x)) (l.take k)
 have h:(l.take k).length≤l.length:=by simp;omega
 split<;>simp<;>omega
theorem C1N(l:List Int)(r:Int):B6f l r=(if M3 l r l.length then A9I l r l.length else A9I l r l.length++ [r]):=by
 unfold A9I B6f
 rw [List.take_length]
 cases hd:M3 l r l.length with
 |true=>simp
 | false=>
  have:l.filter (fun x=>decide (r<x))= []:=by
   rw [List.filter_eq_nil_iff]
   intro y a h
   have b:=of_decide_eq_true h
   have:M3 l r l.length=true:=List.any_eq_true.2 ⟨y,by rw [List.take_length];exact a,by simp;omega⟩
   rw [hd]at this;cases this
  rw [this];simp
end
section
open Go.Abs
attribute [local irreducible] A0 Run
-- EV: Upv.row
attribute [local go_sem] Upv.row
theorem B2g{α:Type}{l:List α}{f:α→Bool}{k:Nat}{x:α}(a:l[k]? =some x)(h:f x=true):l.any f=true:=List.any_eq_true.2 ⟨x,List.mem_of_getElem? a,h⟩
theorem A6U{α:Type}{l:List α}{f:α→Bool}{k:Nat}{x:α}(h:(l.take k).any f=false)(a:l[k]? =some x)(b:f x=false):(l.take (k+1)).any f=false:=by
 rw [List.take_add_one,a,List.any_append,h];simp [b]
theorem A9O{α:Type}{l:List α}{f:α→Bool}(h:(l.take l.length).any f=false):l.any f=false:=by rwa [List.take_length]at h
theorem C9A(l:List Int)(z:Int)(C:l.length≤1000000):Pure Tryz.prog 48 [.isl (l.map zrw),.int .i64 z] (.bool (l.any fun x=>decide (x=z))):=by
 have d: ∀(k:Nat) (x:Int),l[k]? =some x→(l.map zrw)[k]? =some [.int .i64 x]:=fun k x h=>by rw [List.getElem?_map,h];rfl
 have a:(l.map zrw).length=l.length:=List.length_map ..
 have i:C4 (l.map zrw) 1=True:=eq_true fun r u=>by obtain⟨y,_,rfl⟩:=List.mem_map.1 u;rfl
 generalize p:(l.any fun x=>decide (x=z))=v
 generalize l.map zrw=w at*
 refine Pure.of 0 (A0.enter A3Z Jk (Run.go 100 ?_))
 simp -implicitDefEqProofs only [go_sem,A4,a]
 refine Run.rounds (fun(x:Nat)=>⟨[(5,.int .i64 x),(1,.int .i64 z),(0,.isl w)],[],0⟩) (fun x=>x≤l.length∧((l.take x).any fun x=>decide (x=z))=false) (fun x=>l.length-x) 0 ze ⟨Nat.zero_le _,rfl⟩ ?_
 rintro k ⟨B,j⟩ A
 refine Run.unf A2n (Run.go 100 ?_)
 by_cases b:k<l.length
 ·have s:((k:Int)<(l.length:Int))=True:=Ji
  have t:((0:Int)≤(k:Int))=True:=Ji
  obtain⟨x,o⟩: ∃x,l[k]? =some x:=⟨l[k],by simp [b]⟩
  have g:=d k x o
  have n:((k+1:Nat):Int)=(k:Int)+1:=by omega
  by_cases c:x=z
  ·have q:=B2g (f:=fun x=>decide (x=z)) o (decide_eq_true c)
   rw [p]at q
   subst q
   simp -implicitDefEqProofs only [go_sem,s,t,a,i,g,c,b,Option.some.injEq,forall_eq']
  ·simp -implicitDefEqProofs only [go_sem,s,t,a,i,g,c,b,Option.some.injEq,forall_eq']
   refine⟨by omega,?_⟩
   exact A _ (k+1) ⟨by omega,A6U j o (decide_eq_false c)⟩ zd Qh
 have e:k=l.length:=by omega
 subst e
 have m:=A9O j
 rw [p]at m
 subst m
 simp -implicitDefEqProofs only [go_sem,Int.lt_irrefl,a]
abbrev cN(k:Nat):Nat:=50*10000+k
-- EV: cN, Upv.row
def D0A(q:Fn)(r:Int):Bool:=q.ups.any fun u=>u.loc&&decide (u.idx=r)
def C7X(p:Fn)(r:Int):Bool:=p.protos.any fun q=>D0A q r
theorem B6I(p:Fn)(hl:p.protos.length≤1000000)(Y: ∀q∈p.protos,q.ups.length≤4398046510976)(r:Int):Pure Tryz.prog 50 [.agg p.row,.int .i64 r] (.bool (C7X p r)):=by
 have a:(p.protos.map Fn.row).length=p.protos.length:=List.length_map ..
 have l:C4 (p.protos.map Fn.row) 11=True:=eq_true (fun r M=>by obtain⟨y,_,rfl⟩:=List.mem_map.1 M;exact Fn.row_len y)
 have P: ∀(k:Nat) x,p.protos[k]? =some x→(p.protos.map Fn.row)[k]? =some x.row:=fun k x h=>by rw [List.getElem?_map,h];rfl
 rw [Fn.row_eq]
 unfold C7X
 generalize Q:(p.protos.any fun q=>D0A q r)=v
 generalize p.protos.map Fn.row=S at*
 generalize p.protos=n at*
 refine Pure.of 0 (A0.enter A0l Jk (Run.go 100 ?_))
 simp -implicitDefEqProofs only [go_sem,A4,a]
 generalize z: [V.str p.name,_,_,_,_,_,_,_,.isl S,_,_]=o
 have A:o[8]? =some (.isl S):=by rw [←z];rfl
 have b:o.length=11:=by rw [←z];rfl
 clear z
 refine Run.rounds (fun(x:Nat)=>⟨[(5,.int .i64 x),(2,.ptr (cN 2) 0 0 0),(1,.int .i64 r)],[(cN 2,0,.rows 11 [o])],1⟩) (fun x=>x≤n.length∧((n.take x).any fun q=>D0A q r)=false) (fun x=>n.length-x) 0 ze ⟨Nat.zero_le _,rfl⟩ ?_
 rintro k ⟨hk,F⟩ Z
 refine Run.unf Y7 (Run.go 100 ?_)
 by_cases c:(k:Int)<n.length
 ·obtain⟨q,J⟩: ∃q,n[k]? =some q:=⟨n[k]' zd,by simp⟩
  have g:=P k q J
  have X:=Y q (List.mem_of_getElem? J)
  have E:((0:Int)≤(k:Int))=True:=Ji
  have G:(k<n.length)=True:=Ji
  rw [Fn.row_eq q]at g
  have i:(q.ups.map Upv.row).length=q.ups.length:=List.length_map ..
  have w:C4 (q.ups.map Upv.row) 3=True:=eq_true fun r M=>by obtain⟨y,_,rfl⟩:=List.mem_map.1 M;rfl
  have O: ∀(k:Nat) x,q.ups[k]? =some x→(q.ups.map Upv.row)[k]? =some x.row:=fun k x h=>by rw [List.getElem?_map,h];rfl
  generalize W:q.ups.map Upv.row=UR at*
  simp -implicitDefEqProofs only [go_sem,c,E,G,A,b,a,l,g,i,Option.some.injEq,forall_eq']
  have U:k<n.length:=by omega
  refine Run.rounds (fun(y:Nat)=>⟨[(6,.int .i64 y),(5,.int .i64 k),(2,.ptr (cN 2) 0 0 0),(1,.int .i64 r)],[(cN 2,0,.rows 11 [o])],1⟩) (fun y=>y≤q.ups.length∧((q.ups.take y).any fun u=>u.loc&&decide (u.idx=r))=false) (fun y=>q.ups.length-y) 0 ze ⟨Nat.zero_le _,rfl⟩ ?_
  rintro j ⟨hj,D⟩ H
  refine Run.unf N0 (Run.go 100 ?_)
  by_cases d:(j:Int)<q.ups.length
  ·obtain⟨u,s⟩: ∃u,q.ups[j]? =some u:=⟨q.ups[j]' zd,by simp⟩
   have t:=O j u s
   have L:((0:Int)≤(j:Int))=True:=Ji
   have K:(j<q.ups.length)=True:=Ji
   have C:((j+1:Nat):Int)=(j:Int)+1:=by omega
   by_cases e:(u.loc&&decide (u.idx=r))=true
   ·have T:=B2g (f:=fun q=>D0A q r) J (B2g s e)
    rw [Q]at T
    subst T
    obtain⟨I,B⟩:=Bool.and_eq_true_iff.1 e
    have B:=of_decide_eq_true B
    simp -implicitDefEqProofs only [go_sem,c,E,G,d,L,K,A,b,a,l,g,i,w,t,I,B,Option.some.injEq,forall_eq']
   ·have R:=A6U D s (Bool.not_eq_true _ ▸ e)
    by_cases I:u.loc=true
    ·have B: ¬u.idx=r:=fun h=>e (by simp [I,h])
     simp -implicitDefEqProofs only [go_sem,c,E,G,d,L,K,A,b,a,l,g,i,w,t,I,B,Option.some.injEq,forall_eq']
     refine⟨by omega,?_⟩
     exact H _ (j+1) ⟨by omega,R⟩ zd zt
    ·simp -implicitDefEqProofs only [go_sem,c,E,G,d,L,K,A,b,a,l,g,i,w,t,I,Option.some.injEq,forall_eq']
     refine⟨by omega,?_⟩
     exact H _ (j+1) ⟨by omega,R⟩ zd zt
  ·obtain rfl:j=q.ups.length:=by omega
   have N:((k+1:Nat):Int)=(k:Int)+1:=by omega
   simp -implicitDefEqProofs only [go_sem,c,E,G,d,A,b,a,l,g,i,Option.some.injEq,forall_eq']
   refine⟨by omega,?_⟩
   exact Z _ (k+1) ⟨by omega,A6U F J (A9O D)⟩ zd Qw
 ·obtain rfl:k=n.length:=by omega
  have m:=A9O F
  rw [Q]at m
  subst m
  simp -implicitDefEqProofs only [go_sem,c,A,a,b]
end
section
open Go.Abs
attribute [local irreducible] A0 Run
-- EV: Ins.v, Ins.row, Shp.v, Shp.row, intsV, Ins.fs
attribute [local go_sem] Ins.v Ins.row Shp.v Shp.row B6h Ins.fs
theorem C8l: ∀n:Nat,1≤n→n≤29→Pure Tryz.prog 161 [.int .i64 n] (C7q n).v:=by
 have k: ∀n:Nat,n<30→(Nat.blt 0 n=true→eqR (exR Tryz.prog exT C1H 1000 5 1 161 [.int .i64 n]) (C7q n).v=true):=by
  have:(List.range 30).all (fun n=> !Nat.blt 0 n||eqR (exR Tryz.prog exT C1H 1000 5 1 161 [.int .i64 n]) (C7q n).v)=true:=by kernel_rfl
  exact YD
 intro n a c
 exact Pure.execB (m:=1000) (d:=5) (fr:=1) A2x B2G (k n zd (Nat.ble_eq_true_of_le a))
theorem C6O(w:List UInt8):Pure Tryz.prog 197 [.str w] (Shp.v ⟨w,false,false,false,false,0,0,0,0,0,0,0,0⟩):=by
 refine Pure.of 0 (A0.enter A2L Jk ?_)
 refine Run.go 100 ?_
 simp -implicitDefEqProofs only [go_sem,A4]
theorem C8Q{o:Int}(h: ¬(1≤o∧o≤29)):Pure Tryz.prog 185 [.int .i64 o] (shp o).v:=by
 have c:shp o=⟨[],false,false,false,false,0,0,0,0,0,0,0,0⟩:=by rw [shp,if_neg (by simp [u6];omega)]
 rw [c]
 refine Pure.of 0 (A0.enter A1V Jk ?_)
 have e: ∀k:Int,1≤k→k≤29→ ¬o=k:=fun k d b a=>h (a ▸ ⟨d,b⟩)
 refine Run.go 100 ?_
 simp -implicitDefEqProofs only [go_sem,A4,e 14 zd zd,e 15 zd zd,e 16 zd zd,e 17 zd zd,e 18 zd zd,e 19 zd zd,e 20 zd zd,e 21 zd zd,e 22 zd zd,e 23 zd zd,e 24 zd zd,e 25 zd zd,e 26 zd zd,e 27 zd zd,e 28 zd zd,e 29 zd zd]
 refine A0.pureF (C6O []) ze ?_
 exact ze
theorem D0E{o:Int}(h: ¬(1≤o∧o≤29)):Pure Tryz.prog 161 [.int .i64 o] (shp o).v:=by
 refine Pure.of 0 (A0.enter A2K Jk ?_)
 have e: ∀k:Int,1≤k→k≤29→ ¬o=k:=fun k c b a=>h (a ▸ ⟨c,b⟩)
 refine Run.go 100 ?_
 simp -implicitDefEqProofs only [go_sem,A4,e 1 zd zd,e 2 zd zd,e 3 zd zd,e 4 zd zd,e 5 zd zd,e 6 zd zd,e 7 zd zd,e 8 zd zd,e 9 zd zd,e 10 zd zd,e 11 zd zd,e 12 zd zd,e 13 zd zd]
 refine A0.pureF (C8Q h) ze ?_
 exact ze
theorem C5Z(o:Int):Pure Tryz.prog 161 [.int .i64 o] (shp o).v:=by
 cases h:u6 o with
 |false=>exact D0E (of_decide_eq_false h)
 |true=>
  obtain⟨n,rfl,b,a⟩:=C1k h
  have:=C8l n b a
  rwa [show shp (n:Int)=C7q n by rw [shp,if_pos h];rfl]
theorem C0f(i:Ins):Pure Tryz.prog 162 [i.v] (.agg (B6h i.fs)):=by
 refine Pure.of 0 (A0.enter A1c Jk ?_)
 refine Run.go 100 ?_
 simp -implicitDefEqProofs only [go_sem,A4]
theorem A4J(i:Ins):Pure Tryz.prog 53 [i.v] (.tup [.int .i64 (if G9 i.op then i.b else 0),.bool (G9 i.op)]):=by
 have a:G9 i.op=decide (i.op=14∨i.op=15∨i.op=23∨i.op=24∨i.op=26):=rfl
 rw [a]
 refine Pure.of 0 (A0.enter A1a Jk ?_)
 exact JY
theorem C3K(i:Ins)(a: -1≤i.a∧i.a≤40000)(b: -1≤i.b∧i.b≤40000)(h2: -1≤i.c∧i.c≤40000):
  Pure Tryz.prog 163 [i.v] (.int .i64 (B3I i)):=by
 refine Pure.of 0 (A0.enter A1W Jk ?_)
 refine Run.go 100 ?_
 refine QM ?_
 repeat' (first|refine And.intro ?_ ?_|refine fun h=> ?_)
 all_goals first
  |(split<;>omega)
  |omega
  |(unfold B3I mx mm2;simp [*];done)
end
section
open Go.Abs
attribute [local irreducible] A0 Run
-- EV: Ins.v, Ins.row
attribute [local go_sem] Ins.v Ins.row
theorem C9u(l:List Int)(F:Asc l)(L:l.length≤100000)(r:Int):Pure Tryz.prog 97 [.isl (l.map zrw),.int .i64 r] (.isl ((B6f l r).map zrw)):=by
 refine Pure.of 1 (A0.enter A3w Jk ?_)
 have p: ∀(k:Nat) (x:Int),l[k]? =some x→(l.map zrw)[k]? =some [.int .i64 x]:=fun k x h=>P9 h
 have a:(l.map zrw).length=l.length:=List.length_map ..
 have b:=B3Y l
 generalize l.map zrw=I at*
 refine Run.go 100 ?_
 refine QM ?_
 refine Run.rounds (fun(x:Nat×Nat×Nat)=>⟨[(7,.int .i64 x.1),(6,.bool (M3 l r x.1)),(5,.sl (97*10000+8) x.2.1 0 (A9I l r x.1).length),(1,.int .i64 r),(0,.isl I)],[((97*10000+8),x.2.1,.rows 1 ((A9I l r x.1).map zrw))],x.2.2⟩)
  (fun x=>x.1≤l.length) (fun x=>l.length-x.1) (0,0,1) (by simp -implicitDefEqProofs only [go_sem,B8I,M3,List.take_zero,List.any_nil,List.length_nil,List.map_nil]) zg ?_
 rintro⟨k,E,m⟩ H o
 simp only at H⊢
 have w:((k+1:Nat):Int)=(k:Int)+1:=by omega
 refine Run.unf A1i (Run.go 100 ?_)
 have G:=C1O l r k
 by_cases c:(k:Int)<l.length
 ·obtain⟨x,C⟩: ∃x,l[k]? =some x:=⟨l[k]' zd,by simp⟩
  have t:=p k x C
  have q:((0:Int)≤(k:Int))=True:=Ji
  have g:((k:Int)<(l.length:Int))=True:=eq_true c
  have v:(k<l.length)=True:=Ji
  have d:=B8H F (r:=r) C
  have f:=B1u (r:=r) C
  by_cases z:M3 l r k=false∧r≤x
  ·rw [if_pos z]at d
   obtain⟨i,u⟩:=z
   have D:decide (r≤x)=true:=by simp [u]
   rw [i,D]at f
   have B:=eq_true u
   by_cases e:x=r
   ·exact JG
   ·exact JH
  ·rw [if_neg z,List.append_nil]at d
   have j:M3 l r k=true∨ ¬r≤x:=by
    cases h:M3 l r k with
    |true=>exact .inl rfl
    |false=>exact .inr fun n=>z ⟨h,n⟩
   have fin: ∀s,M3 l r (k+1)=M3 l r k→_:=fun s h=>o s (k+1,m,m+1) zg zg
   by_cases e:x=r
   ·exact JL
   ·rw [if_neg e]at d
    have y:=eq_false e
    cases h:M3 l r k with
    |true=>
     rw [h,Bool.true_or]at f
     simp -implicitDefEqProofs only [go_sem,a,t,b,q,g,v,h,y,Option.some.injEq,forall_eq']
     refine⟨by omega,by omega,?_⟩
     refine o _ (k+1,m,m+1) zg zg ?_
     simp only [w,d,f,List.map_append,List.length_append,List.map_cons,List.map_nil,List.length_cons,List.length_nil,zrw]
     exact Xx
    |false=>
     exact Jz
 ·exact Jw
end
end Go.Proofs.YtcaaenddpjepiaaGreatDoor
