/-
 Library functions that turn a slice of integers in place: their contracts, seen abstractly. No condition.
-/
import Derived.Test.YtflobbpcabopjaaGreatDoorWk
import Derived.Sort.Grow
import Derived.Test.YtflobbpcabopjaaGreatDoorShelf
import Derived.Test.YtflobbpcabopjaaGreatDoorTxt0
import Derived.Test.YtflobbpcabopjaaGreatDoorCode
import Derived.Test.YtflobbpcabopjaaGreatDoorTxo
set_option linter.unusedVariables false set_option linter.unusedSimpArgs false section
namespace Go.Abs
def zrw(z:Int):List V:= [.int .i64 z]
theorem A0.inplace{P:Program}{f:FuncId}(zs ds:List Int)(hm:0<zs.length)(hlen:ds.length=zs.length)(rv:Nat→Nat→Nat→Value)(r:V)(b st n:Nat)
  (hrv: ∀(E:Env) cap,st<E.n→zs.length≤cap→cap≤(E.ρ st).cap→(E.ρ st).sz=1→R E r (rv (E.ρ st).blk (E.ρ st).off cap))
  (hc: ∀(blk off cap:Nat) (w:World),Sort.Holds (Value.int .i64) w blk off zs.toArray→blk<w.heap.size→zs.length≤cap→
    Calls P f #[.slice (some ⟨blk,off,none⟩) zs.length cap] w fun e w'=>e= .returned (rv blk off cap)∧ ∃q os,w'=Sort.grow (Sort.putRow (Value.int .i64) (Sort.ahead w q) blk off ds.toArray) os):
  A0 P f [.sl b st 0 zs.length] [(b,st,.rows 1 (zs.map zrw))] n (fun r' h' n'=>r'=r∧h'= [(b,st,.rows 1 (ds.map zrw))]):=by
 intro w O ρ cargs hr hR
 obtain⟨hl,hR⟩:=hR
 obtain⟨cs⟩:=cargs
 match cs,hl with
 | [v], _=>
  have h0:=hR 0 _ v rfl rfl
  generalize hz:zs.length=m at h0 hm
  cases h0 with
  |sl0 _ _ _ a=>exact absurd hm (Nat.lt_irrefl _)
  | sl _ _ _ _ cap hst hn hcp=>
   subst hz
   have hmem:(b,st,Blk.rows 1 (zs.map zrw))∈ [(b,st,Blk.rows 1 (zs.map zrw))]:=List.mem_singleton.2 rfl
   obtain⟨hsz,hlen',hcell,hrows⟩:=hr.blk _ hmem
   simp only at hsz hlen' hcell hrows hcp
   simp only [Nat.zero_add]at hcp
   have hcap0:(ρ st).cap≠0:=by omega
   obtain⟨hc1,hc2⟩:=hcell hcap0
   have hH:Sort.Holds (Value.int .i64) w (ρ st).blk ((ρ st).off+0*(ρ st).sz) zs.toArray:=by
    intro j hj
    have hj':j<zs.length:=by simpa using hj
    have hrow:=(hrows j (zrw zs[j]) (by simp [hj'])).2 0 (.int .i64 zs[j]) rfl
    obtain⟨x,q1,_,q3⟩:=hrow
    have hx:=q3.int_inv
    subst hx
    have hf:=(hc1 j zd).2
    rw [Nat.zero_mul,Nat.add_zero]
    refine⟨?_,hf⟩
    rw [Nat.mul_one,Nat.add_zero]at q1
    rw [q1]
    simp [hj']
   refine(hc (ρ st).blk ((ρ st).off+0*(ρ st).sz) cap w hH hc2 hn).mono ?_
   rintro e w' ⟨rfl,q,os,rfl⟩
   have hds:ds.toArray.size=zs.toArray.size:=by simpa using hlen
   have hHa:Sort.Holds (Value.int .i64) (Sort.ahead w q) (ρ st).blk ((ρ st).off+0*(ρ st).sz) zs.toArray:=hH
   have hsp:(ρ st).blk<(Sort.putRow (Value.int .i64) (Sort.ahead w q) (ρ st).blk ((ρ st).off+0*(ρ st).sz) ds.toArray).heap.size:=by
    rw [Sort.size_putRow];exact hc2
   have hother: ∀y,y≠(ρ st).blk→(Sort.putRow (Value.int .i64) (Sort.ahead w q) (ρ st).blk ((ρ st).off+0*(ρ st).sz) ds.toArray).heap[y]? =w.heap[y]? :=by
    intro y hy
    simp only [Sort.putRow,Sort.mapBlock,Sort.heap_ahead]
    rw [Array.getElem?_modify]
    rw [if_neg (fun h=>hy h.symm)]
   obtain⟨s1,s2⟩:=HeapR.step (w':=Sort.grow (Sort.putRow (Value.int .i64) (Sort.ahead w q) (ρ st).blk ((ρ st).off+0*(ρ st).sz) ds.toArray) os) (ρ':=ρ) (n':=n) (b:=b) (st:=st) (x:= .rows 1 (ds.map zrw)) hr (Nat.le_refl _) (fun _ _=>rfl) hst
    ⟨by rw [Sort.size_grow,Sort.size_putRow];exact Nat.le_add_right _ _,rfl,rfl⟩
    (fun y hy hyc=>by
      have hne:y≠(ρ st).blk:=fun h=>hcap0 (hyc h)
      rw [Sort.heap_grow_old _ _ (by rw [Sort.size_putRow];exact hy)]
      exact hother y hne)
    (.inr (.inr ⟨_,hmem,rfl,hcap0,rfl⟩))
    (fun _=>by
      refine⟨hsz,by simp only [List.length_map];omega,fun _=>⟨fun j hj=> ?_,?_⟩,fun i row hi=> ?_⟩
      ·rw [Sort.cell?_grow _ _ _ hsp,Sort.frozen?_grow _ _ _ hsp,Sort.frozen?_putRow]
       obtain⟨k1,k2⟩:=hc1 j hj
       refine⟨?_,k2⟩
       by_cases hjl:j<ds.length
       ·have:=Sort.cell?_putRow (Value.int .i64) (Sort.ahead w q) (ρ st).blk ((ρ st).off+0*(ρ st).sz) zs.toArray ds.toArray hHa hds j (by simpa using hjl)
        rw [Nat.zero_mul,Nat.add_zero]at this⊢
        rw [this];rfl
       ·rw [Sort.cell?_putRow_other _ _ _ _ _ _ (.inr (.inr zr))]
        exact k1
      ·rw [Sort.size_grow,Sort.size_putRow]
       exact Nat.lt_of_lt_of_le hc2 (Nat.le_add_right _ _)
      ·rw [List.getElem?_map,Option.map_eq_some_iff]at hi
       obtain⟨z,hz,rfl⟩:=hi
       have hil:=(List.getElem?_eq_some_iff.1 hz).1
       refine⟨rfl,fun j c hj=> ?_⟩
       have hj0:j=0∧c= .int .i64 z:=by
        cases j with
        |zero=>simp [zrw]at hj;exact⟨rfl,hj.symm⟩
        |succ j=>simp [zrw]at hj
       obtain⟨rfl,rfl⟩:=hj0
       refine⟨.int .i64 z,?_,rfl,.int _ _⟩
       have:=Sort.cell?_putRow (Value.int .i64) (Sort.ahead w q) (ρ st).blk ((ρ st).off+0*(ρ st).sz) zs.toArray ds.toArray hHa hds i (by simpa using hil)
       rw [Sort.cell?_grow _ _ _ hsp]
       rw [Nat.mul_one,Nat.add_zero]
       rw [Nat.zero_mul,Nat.add_zero]at this⊢
       rw [this]
       have hget:ds[i]=z:=by
        have:=List.getElem?_eq_getElem hil
        rw [hz]at this
        injection this with this
        exact this.symm
       simp [hil,hget])
   have hput:A2.put [(b,st,Blk.rows 1 (zs.map zrw))] b st (.rows 1 (ds.map zrw))= [(b,st,.rows 1 (ds.map zrw))]:=by
    simp [A2.put,A2.del]
   rw [hput]at s1 s2
   refine⟨_,r,_,n,ρ,rfl,⟨rfl,rfl⟩,s1,?_,s2⟩
   have:=hrv (A4 (Sort.grow (Sort.putRow (Value.int .i64) (Sort.ahead w q) (ρ st).blk ((ρ st).off+0*(ρ st).sz) ds.toArray) os) O ρ n [(b,st,.rows 1 (ds.map zrw))]) cap hst hn hcp hsz
   rw [Nat.zero_mul,Nat.add_zero]at this⊢
   exact this
end Go.Abs
end
section
set_option maxRecDepth 100000
set_option maxHeartbeats 0
namespace Go.Proofs.YtflobbpcabopjaaGreatDoor
open Go.Abs
attribute [local irreducible] A0 Run
def B0q(zs:List Int):List Int:=zs.mergeSort fun x y=>decide (x≤y)
theorem D3m(zs:List Int)(hm:0<zs.length)(hB:zs.length≤100000)(b st n:Nat):
  A0 Tryz.prog 195 [.sl b st 0 zs.length] [(b,st,.rows 1 (zs.map zrw))] n (fun r h' _=>r= .tup []∧h'= [(b,st,.rows 1 ((B0q zs).map zrw))]):=
 A0.inplace zs (B0q zs) hm (by simp [B0q]) (fun _ _ _=> .tuple #[]) (.tup []) b st n (fun E cap _ _ _ _=> .tup [] #[] rfl (fun i c v h=>by simp at h))
  (fun blk off cap w hH hb hcap=>(Tryz.slices_Sort_int blk off cap zs w hH hb zd).mono fun e w' h=>h)
theorem C4e(zs:List Int)(hm:0<zs.length)(hB:zs.length≤100000)(b st n:Nat):
  A0 Tryz.prog 196 [.sl b st 0 zs.length] [(b,st,.rows 1 (zs.map zrw))] n
   (fun r h' _=>r= .sl b st 0 (Lib.compact zs).length∧h'= [(b,st,.rows 1 ((Lib.compact zs++List.replicate (zs.length-(Lib.compact zs).length) 0).map zrw))]):=by
 have hle:(Lib.compact zs).length≤zs.length:=Lib.compact_length_le zs
 refine A0.inplace zs (Lib.compact zs++List.replicate (zs.length-(Lib.compact zs).length) 0) hm zr (fun blk off cap=> .slice (some ⟨blk,off,none⟩) (Lib.compact zs).length cap) _ b st n ?_ ?_
 ·intro E cap h1 h2 h3 h4
  have:=R.sl (E:=E) b st 0 (Lib.compact zs).length cap h1 zd zd
  simpa using this
 ·intro blk off cap w hH hb hcap
  refine(Tryz.slices_Compact_int blk off cap zs w hH zd hcap).mono ?_
  rintro e w' ⟨rfl,q,rfl⟩
  exact⟨rfl,q, #[],by simp⟩
theorem D3n(zs:List Int){m:Nat}(hl:zs.length=m)(hm:0<m)(hB:m≤100000)(b st n:Nat):
  A0 Tryz.prog 195 [.sl b st 0 m] [(b,st,.rows 1 (zs.map zrw))] n (fun r h' _=>r= .tup []∧h'= [(b,st,.rows 1 ((B0q zs).map zrw))]):=by
 subst hl;exact D3m zs hm hB b st n
theorem C4f(zs:List Int){m:Nat}(hl:zs.length=m)(hm:0<m)(hB:m≤100000)(b st n:Nat):
  A0 Tryz.prog 196 [.sl b st 0 m] [(b,st,.rows 1 (zs.map zrw))] n
   (fun r h' _=>r= .sl b st 0 (Lib.compact zs).length∧h'= [(b,st,.rows 1 ((Lib.compact zs++List.replicate (m-(Lib.compact zs).length) 0).map zrw))]):=by
 subst hl;exact C4e zs hm hB b st n
theorem B3Y(d:Nat)(h:A2)(l:List Int):(l.map zrw).map (fun r=>r.map (frz d h))=l.map zrw:=by
 rw [List.map_map]
 exact List.map_congr_left fun y _=>by simp [zrw,C8O]
def A4p(l:List Int):List Int:=Lib.compact (B0q l)
theorem B8d(zs:List Int)(m:Nat):(((Lib.compact zs++List.replicate m 0).map zrw).take (Lib.compact zs).length)=(Lib.compact zs).map zrw:=by
 rw [List.map_append]
 have:(Lib.compact zs).length=((Lib.compact zs).map zrw).length:=by simp
 rw [this,List.take_left]
theorem A2d(d:Array Int): ∀m j,j<m→d[j]! ∈Lib.compactUpTo d m
 |0,j,h=>absurd h (Nat.not_lt_zero _)
 | m +1,j,h=>by
  rw [Lib.compactUpTo_succ]
  by_cases hj:j<m
  ·exact List.mem_append.2 (.inl (A2d d m j hj))
  ·obtain rfl:j=m:=by omega
   cases hk:Lib.keeps d j with
   |true=>simp
   | false=>
    have: ¬(j=0∨d[j]! ≠d[j-1]!):=of_decide_eq_false hk
    have e:d[j]! =d[j-1]! :=by
     by_cases h2:d[j]! =d[j-1]!
     ·exact h2
     ·exact absurd (.inr h2) this
    have h0:j≠0:=fun h=>this (.inl h)
    rw [e]
    exact List.mem_append.2 (.inl (A2d d j (j-1) zd))
theorem B5v{zs:List Int}{x:Int}(h:x∈zs):x∈Lib.compact zs:=by
 obtain⟨j,hj,rfl⟩:=List.getElem_of_mem h
 have:=A2d zs.toArray zs.length j hj
 simpa [Lib.compact,hj]using this
def Asc(l:List Int):Prop:=l.Pairwise (· < ·)
theorem A3q(d:Array Int){x:Int}: ∀m,m≤d.size→x∈Lib.compactUpTo d m→ ∃j,j<m∧d[j]! =x∧(∀i,i<m→True)
 |m,hm,h=>by
  unfold Lib.compactUpTo at h
  obtain⟨j,h1,h2⟩:=List.mem_map.1 h
  have:=List.mem_range.1 (List.mem_filter.1 h1).1
  exact⟨j,this,h2,fun _ _=>trivial⟩
theorem B3Z{zs:List Int}{x:Int}:x∈Lib.compact zs↔x∈zs:=by
 refine⟨fun h=> ?_,B5v⟩
 obtain⟨j,h1,h2,_⟩:=A3q zs.toArray zs.length zg h
 have:zs.toArray[j]! =zs[j]:=by simp [h1]
 rw [this]at h2
 rw [←h2]
 exact List.getElem_mem h1
theorem B0b{l:List Int}{x:Int}:x∈A4p l↔x∈l:=by
 unfold A4p B0q
 rw [B3Z]
 exact(List.mergeSort_perm l _).mem_iff
theorem A6P(zs:List Int)(hs:zs.Pairwise (· ≤ ·)): ∀m,m≤zs.length→Asc (Lib.compactUpTo zs.toArray m)
 |0,_=>by simp [Lib.compactUpTo,Asc]
 | m +1,hm=>by
  rw [Lib.compactUpTo_succ]
  have ih:=A6P zs hs m zd
  cases hk:Lib.keeps zs.toArray m with
  |false=>simpa using ih
  | true=>
   simp only [if_true]
   refine List.pairwise_append.2 ⟨ih,by simp,fun a ha b hb=> ?_⟩
   rw [List.mem_singleton.1 hb]
   obtain⟨j,h1,h2,_⟩:=A3q zs.toArray m zr ha
   have hget: ∀i (h:i<zs.length),zs.toArray[i]! =zs[i]:=fun i h=>by simp [h]
   rw [←h2,hget j zd,hget m zd]
   have hk':=of_decide_eq_true hk
   have hle:=List.pairwise_iff_getElem.1 hs
   rcases hk' with h0|hne
   ·omega
   ·rw [hget m zd,hget (m-1) zd]at hne
    have a1:=hle (m-1) m zd zd zd
    by_cases e:j=m-1
    ·subst e;omega
    ·have a2:=hle j (m-1) zd zd zd
     omega
theorem B6B(l:List Int):Asc (A4p l):=by
 refine A6P _ ?_ _ (Nat.le_refl _)
 unfold B0q
 have:=List.pairwise_mergeSort (le:=fun x y:Int=>decide (x≤y)) (fun a b c h1 h2=>by simp at*;omega) (fun a b=>by simp;omega) l
 exact this.imp fun h=>by simpa using h
theorem A9u:Asc []:=List.Pairwise.nil
theorem B7T(x:Int):Asc [x]:=List.pairwise_singleton ..
def A7H(a:Int)(n:Nat):List Int:=(List.range n).map fun k=>a+(k:Nat)
theorem B5W(a:Int)(n:Nat):A7H a (n+1)=A7H a n++ [a+(n:Nat)]:=by simp [A7H,List.range_succ]
theorem B7C(a:Int)(n:Nat):(A7H a n).length=n:=by simp [A7H]
theorem B7n{a x:Int}{n:Nat}:x∈A7H a n↔a≤x∧x<a+n:=by
 unfold A7H
 simp only [List.mem_map,List.mem_range]
 constructor
 ·rintro⟨k,h1,rfl⟩;omega
 ·rintro⟨h1,h2⟩;exact⟨(x-a).toNat,by omega,by omega⟩
theorem B6C(a:Int): ∀n,Asc (A7H a n)
 |0=>A9u
 |n+1=>by
  rw [B5W]
  refine List.pairwise_append.2 ⟨B6C a n,by simp,fun x hx y hy=> ?_⟩
  rw [List.mem_singleton.1 hy]
  have:=B7n.1 hx;omega
end Go.Proofs.YtflobbpcabopjaaGreatDoor
end
section
set_option maxRecDepth 100000
set_option maxHeartbeats 0
namespace Go.Proofs.YtflobbpcabopjaaGreatDoor
open Go.Abs
attribute [local irreducible] A0 Run
-- EV: Ins.v, Ins.row
attribute [local go_sem] Ins.v Ins.row
def M1(a n:Int):List Int×Int:=if n<0 then([],a)else(A7H a n.toNat, -1)
def rds(i:Ins):List Int×Int:=
 if i.op=1∨i.op=6∨i.op=8∨i.op=11∨i.op=12 then([i.b], -1)
 else if i.op=9∨i.op=13 then(A4p [i.b,i.c], -1)
 else if i.op=10 then(A4p [i.a,i.b,i.c], -1)
 else if i.op=15∨i.op=28 then([i.a], -1)
 else if i.op=16∨i.op=17∨i.op=21 then(i.a::(M1 (i.a+1) i.b).1,(M1 (i.a+1) i.b).2)
 else if i.op=18 then M1 i.a i.b
 else if i.op=23∨i.op=24∨i.op=25 then M1 i.a 3
 else if i.op=26 then([i.a+3], -1)
 else([], -1)
def wrs(i:Ins):List Int×Int:=
 if i.op=1∨i.op=2∨i.op=4∨i.op=5∨i.op=7∨i.op=9∨i.op=12∨i.op=13∨i.op=20∨i.op=22 then([i.a], -1)
 else if i.op=3 then M1 i.a (i.b-i.a+1)
 else if i.op=11 then([i.a,i.a+1], -1)
 else if i.op=16 then M1 i.a i.c
 else if i.op=19 then M1 i.a i.b
 else if i.op=23 then([i.a+3], -1)
 else if i.op=24 then([i.a,i.a+3], -1)
 else if i.op=25 then M1 (i.a+3) i.c
 else if i.op=26 then([i.a+2], -1)
 else([], -1)
def T5(i:Ins):List Int×Int:=if chk i=0 then rds i else([], -1)
def S5(i:Ins):List Int×Int:=if chk i=0 then wrs i else([], -1)
theorem C6e{i:Ins}(h:chk i=0):
  (i.op=3→0≤i.b-i.a+1)∧(i.op=25→1≤i.c):=by
 unfold chk at h
 cases ho:A1g i.op with
 |false=>rw [ho]at h;simp at h
 |true=>
  obtain⟨op,a,b,c,d⟩:=i
  simp only at h ho⊢
  refine⟨?_,?_⟩<;>rintro rfl<;>simp [frm,B3f,C6A,A1g,A4H,A4I,low,high,C6U,B9H,B1S,mm2]at h<;>omega
theorem C5y{a n:Int}(h:n<0):M1 a n=([],a):=if_pos h
theorem C5z{a n:Int}(h: ¬n<0):M1 a n=(A7H a n.toNat, -1):=if_neg h
theorem C5x(a n:Int):(M1 a n).1.length≤n.toNat:=by unfold M1;split<;>simp [B7C]
theorem B2W(a n:Int):Asc (M1 a n).1:=by
 unfold M1;split
 ·exact A9u
 ·exact B6C _ _
theorem B3k{a n x:Int}:x∈(M1 a n).1↔a≤x∧x<a+n:=by
 unfold M1
 split
 ·simp;omega
 ·simp only [B7n];omega
theorem C8y{x y:Int}(h:x<y):Asc [x,y]:=List.pairwise_cons.2 ⟨fun a ha=>by rw [List.mem_singleton.1 ha];exact h,B7T y⟩
theorem C8x(i:Ins):Asc (rds i).1:=by
 unfold rds
 repeat' split
 all_goals first|exact B7T _|exact B6B _|exact B2W _ _|exact A9u|skip
 exact List.pairwise_cons.2 ⟨fun a ha=>by have:=B3k.1 ha;omega,B2W _ _⟩
theorem C8z(i:Ins):Asc (wrs i).1:=by
 unfold wrs
 repeat' split
 all_goals first|exact B7T _|exact B6B _|exact B2W _ _|exact A9u|exact C8y zd
theorem C3M(i:Ins):Asc (T5 i).1:=by unfold T5;split;exact C8x i;exact A9u
theorem C1g(i:Ins):Asc (S5 i).1:=by unfold S5;split;exact C8z i;exact A9u
theorem B7D(a n:Int):(M1 a n).2=if n<0 then a else -1:=by unfold M1;split<;>rfl
theorem C0s(i:Ins):(∀x∈(T5 i).1,0≤x∧x<4096)∧ -1≤(T5 i).2∧(T5 i).2≤4096∧((T5 i).2= -1∨i.b= -1):=by
 unfold T5
 by_cases h:chk i=0
 rotate_left
 ·rw [if_neg h];simp
 rw [if_pos h]
 have h0:=B4I h
 unfold chk at h
 cases ho:A1g i.op with
 |false=>rw [ho]at h;simp at h
 | true=>
  obtain⟨op,a,b,c,d⟩:=i
  simp only at h ho h0⊢
  rcases A8H ho with rfl|rfl|rfl|rfl|rfl|rfl|rfl|rfl|rfl|rfl|rfl|rfl|rfl|rfl|rfl|rfl|rfl|rfl|rfl|rfl|rfl|rfl|rfl|rfl|rfl|rfl|rfl|rfl|rfl<;>
  (simp [frm,B3f,C6A,A1g,A4H,A4I,low,high,C6U,B9H,B1S,mm2]at h
   refine⟨fun x hx=> ?_,?_,?_,?_⟩
   ·simp [rds,B0b,B3k]at hx<;>omega
   all_goals (simp [rds,B7D]<;>omega))
theorem B7O(i:Ins):(∀x∈(S5 i).1,0≤x∧x<4096)∧ -1≤(S5 i).2∧(S5 i).2≤4096∧((S5 i).2= -1∨i.b= -1∨i.c= -1):=by
 unfold S5
 by_cases h:chk i=0
 rotate_left
 ·rw [if_neg h];simp
 rw [if_pos h]
 have h0:=B4I h
 unfold chk at h
 cases ho:A1g i.op with
 |false=>rw [ho]at h;simp at h
 | true=>
  obtain⟨op,a,b,c,d⟩:=i
  simp only at h ho h0⊢
  rcases A8H ho with rfl|rfl|rfl|rfl|rfl|rfl|rfl|rfl|rfl|rfl|rfl|rfl|rfl|rfl|rfl|rfl|rfl|rfl|rfl|rfl|rfl|rfl|rfl|rfl|rfl|rfl|rfl|rfl|rfl<;>
  (simp [frm,B3f,C6A,A1g,A4H,A4I,low,high,C6U,B9H,B1S,mm2]at h
   refine⟨fun x hx=> ?_,?_,?_,?_⟩
   ·simp [wrs,B0b,B3k]at hx<;>omega
   all_goals (simp [wrs,B7D]<;>omega))
-- EV: Ins.v, Ins.row
theorem A1I(a n:Int)(ha: -100000≤a∧a≤100000)(hn:n≤100000):Pure Tryz.prog 163 [.int .i64 a,.int .i64 n] (.tup [.isl ((M1 a n).1.map zrw),.int .i64 (M1 a n).2]):=by
 refine Pure.of 1 (A0.enter A8Q Jo ?_)
 refine Run.go 100 ?_
 by_cases h:n<0
 ·rw [C5y h]
  simp -implicitDefEqProofs only [go_sem,A3,h,List.map_nil]
 ·rw [C5z h]
  simp -implicitDefEqProofs only [go_sem,A3,h]
  refine Run.roundsK (fun(x:Nat×Nat×Nat)=>⟨[(12,.int .i64 x.1),(11,.int .i64 n),(6,.sl (163*10000+20) x.2.1 0 (A7H a x.1).length),(0,.int .i64 a)],[((163*10000+20),x.2.1,.rows 1 ((A7H a x.1).map zrw))],x.2.2⟩)
   (fun x=>x.1≤n.toNat) (fun x=>n.toNat-x.1) (0,0,1) ?_ zj ?_
  ·refine .trans (.fresh (163*10000+20) 1 _ _ _) (.turn id ?_ (.at 0 rfl rfl (.refl _) trivial))
   exact⟨.refl _,.refl _,.nils,.refl _,trivial⟩
  rintro⟨k,st,m⟩ hk ih
  simp only at hk⊢
  have hz:((k+1:Nat):Int)=(k:Int)+1:=by omega
  have hl:=B7C a k
  refine Run.unf B2n (Run.go 100 ?_)
  by_cases c:(k:Int)<n
  ·refine QN ?_
   refine⟨by omega,by omega,by omega,?_⟩
   refine ih _ (k+1,m,m+1) zj zj (E8.wk ?_)
   simp only [hz,B5W,List.map_append,List.length_append,List.map_cons,List.map_nil,List.length_cons,List.length_nil,zrw]
   exact ze
  ·have e:k=n.toNat:=by omega
   subst e
   refine QN ?_
   exact B3Y _ _ _
theorem B7S: ∀{l:List Int} {a b:Int},Asc l→(∀x∈l,a≤x)→(∀x∈l,x<b)→(l.length:Int)≤max (b-a) 0
 | [],a,b,_,_,_=>by simp;omega
 |x::l,a,b,h,h1,h2=>by
  obtain⟨h3,h4⟩:=List.pairwise_cons.1 h
  have:=B7S (a:=x+1) (b:=b) h4 (fun y hy=>by have:=h3 y hy;omega) (fun y hy=>h2 y (List.mem_cons_of_mem _ hy))
  have hx:=h1 x List.mem_cons_self
  have hx2:=h2 x List.mem_cons_self
  simp only [List.length_cons]
  omega
theorem B7r(zs:List Int)(m:Nat):(((A4p zs++List.replicate m 0).map zrw).take (A4p zs).length)=(A4p zs).map zrw:=B8d (B0q zs) m
theorem C9F(l:List Int):D5 (l.map zrw) 1=True:=eq_true fun r hr=>by obtain⟨y,_,rfl⟩:=List.mem_map.1 hr;rfl
theorem C7V(l:List Int):(l.map zrw).map (fun r=>r.map (V.sub I6))=l.map zrw:=B3Y 0 [] l
theorem C0N(zs:List Int){m:Nat}(hl:zs.length=m)(hm:0<m)(hB:m≤100000)(b st n:Nat):
  A0 Tryz.prog 162 [.sl b st 0 m] [(b,st,.rows 1 (zs.map zrw))] n (fun r h' _=>r= .sl b st 0 (A4p zs).length∧h'= [(b,st,.rows 1 ((A4p zs++List.replicate (m-(A4p zs).length) 0).map zrw))]):=by
 refine A0.enter A5E Jo ?_
 refine Run.go 100 ?_
 refine Qz ?_
 refine A0.at [0] [] (D3n zs hl hm hB _ _ _) rfl rfl ?_
 rintro r h' n' hn ⟨rfl,rfl⟩
 refine Qy ?_
 refine A0.at [0] [] (C4f (B0q zs) (m:=m) (by simp [B0q,hl]) hm hB _ _ _) rfl rfl ?_
 rintro r h' n' hn ⟨rfl,rfl⟩
 simp -implicitDefEqProofs only [go_sem,A4p]
-- EV: Ins.v, Ins.row
theorem C2i(i:Ins):Pure Tryz.prog 122 [i.v] (.tup [.isl ((T5 i).1.map zrw),.int .i64 (T5 i).2]):=by
 refine Pure.of 1 (A0.enter A7g Jo ?_)
 refine Run.go 100 ?_
 refine Qz ?_
 refine A0.pureF (A6q i) ze ?_
 by_cases hc:chk i=0
 rotate_left
 ·rw [show T5 i=([], -1) from if_neg hc]
  simp -implicitDefEqProofs only [go_sem,hc,List.map_nil]
 ·rw [show T5 i=rds i from if_pos hc,hc]
  have h0:=B4I hc
  refine Qy ?_
  repeat' (first|refine And.intro ?_ ?_|refine fun h=> ?_)
  all_goals first
   |omega
   |(simp [rds,zrw, *];done)
   | (rw [show rds i=(A4p [i.b,i.c], -1) by simp [rds, *]]
      refine A0.at [0] [] (C0N [i.b,i.c] (m:=2) rfl zd zd _ _ _) rfl rfl ?_
      rintro r h' n' hn ⟨rfl,rfl⟩
      simp -implicitDefEqProofs only [go_sem,B7r,B3Y,Nat.le_add_right]
      done)
   | (rw [show rds i=(A4p [i.a,i.b,i.c], -1) by simp [rds, *]]
      refine A0.at [0] [] (C0N [i.a,i.b,i.c] (m:=3) rfl zd zd _ _ _) rfl rfl ?_
      rintro r h' n' hn ⟨rfl,rfl⟩
      simp -implicitDefEqProofs only [go_sem,B7r,B3Y,Nat.le_add_right]
      done)
   | (rw [show rds i=(i.a::(M1 (i.a+1) i.b).1,(M1 (i.a+1) i.b).2) by simp [rds, *]]
      have hle:(M1 (i.a+1) i.b).1.length≤20000:=by have:=C5x (i.a+1) i.b;omega
      have hsz:=C9F (M1 (i.a+1) i.b).1
      refine A0.pureF (A1I (i.a+1) i.b ⟨by omega,by omega⟩ zd) (by simp -implicitDefEqProofs only [go_sem,C7V]) ?_
      simp -implicitDefEqProofs only [go_sem,B3Y,hsz,List.length_map]
      refine⟨by omega,?_⟩
      rw [if_pos zd,List.take_of_length_le zr]
      exact congrArg V.isl (B3Y 0 _ (i.a::(M1 (i.a+1) i.b).1)))
   | (rw [show rds i=M1 (i.a) i.b by simp [rds, *]]
      refine A0.pureF (A1I (i.a) i.b ⟨by omega,by omega⟩ zd) ze ?_
      simp -implicitDefEqProofs only [go_sem,B3Y]
      done)
   | (rw [show rds i=M1 (i.a) 3 by simp [rds, *]]
      refine A0.pureF (A1I (i.a) 3 ⟨by omega,by omega⟩ (by omega)) (by simp -implicitDefEqProofs only [go_sem]) ?_
      simp -implicitDefEqProofs only [go_sem,B3Y]
      done)
theorem C1a(i:Ins):Pure Tryz.prog 123 [i.v] (.tup [.isl ((S5 i).1.map zrw),.int .i64 (S5 i).2]):=by
 refine Pure.of 1 (A0.enter A5B Jo ?_)
 refine Run.go 100 ?_
 refine Qz ?_
 refine A0.pureF (A6q i) ze ?_
 by_cases hc:chk i=0
 rotate_left
 ·rw [show S5 i=([], -1) from if_neg hc]
  simp -implicitDefEqProofs only [go_sem,hc,List.map_nil]
 ·rw [show S5 i=wrs i from if_pos hc,hc]
  have h0:=B4I hc
  have h1:=C6e hc
  refine Qy ?_
  repeat' (first|refine And.intro ?_ ?_|refine fun h=> ?_)
  all_goals first
   |omega
   |(simp [wrs,zrw, *];done)
   | (rw [show wrs i=M1 (i.a) (i.b-i.a+1) by simp [wrs, *]]
      refine A0.pureF (A1I (i.a) (i.b-i.a+1) ⟨by omega,by omega⟩ zd) ze ?_
      simp -implicitDefEqProofs only [go_sem,B3Y]
      done)
   | (rw [show wrs i=M1 (i.a) (i.c) by simp [wrs, *]]
      refine A0.pureF (A1I (i.a) (i.c) ⟨by omega,by omega⟩ zd) ze ?_
      simp -implicitDefEqProofs only [go_sem,B3Y]
      done)
   | (rw [show wrs i=M1 (i.a) (i.b) by simp [wrs, *]]
      refine A0.pureF (A1I (i.a) (i.b) ⟨by omega,by omega⟩ (by omega)) (by simp -implicitDefEqProofs only [go_sem]) ?_
      simp -implicitDefEqProofs only [go_sem,B3Y]
      done)
   | (rw [show wrs i=M1 (i.a+3) (i.c) by simp [wrs, *]]
      refine A0.pureF (A1I (i.a+3) (i.c) ⟨by omega,by omega⟩ (by omega)) (by simp -implicitDefEqProofs only [go_sem]) ?_
      simp -implicitDefEqProofs only [go_sem,B3Y]
      done)
end Go.Proofs.YtflobbpcabopjaaGreatDoor
end
