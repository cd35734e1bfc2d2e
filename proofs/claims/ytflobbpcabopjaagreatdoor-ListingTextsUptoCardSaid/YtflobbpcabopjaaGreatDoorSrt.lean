/-
 Library functions that turn a slice of integers in place: their contracts, seen abstractly. No condition.
-/
import Derived.Test.YtflobbpcabopjaaGreatDoorWk
import Derived.Sort.Grow
set_option linter.unusedVariables false
set_option linter.unusedSimpArgs false
namespace Go.Abs
def zrw(z:Int):List V:= [.int .i64 z]
theorem A0.inplace{P:Program}{f:FuncId}(zs ds:List Int)(hm:0<zs.length)(hlen:ds.length=zs.length)(rv:Nat→Nat→Nat→Value)(r:V)(b st n:Nat)
  (hrv: ∀(E:Env) cap,st<E.n→zs.length≤cap→cap≤(E.ρ st).cap→(E.ρ st).sz=1→R E r (rv (E.ρ st).blk (E.ρ st).off cap))
  (hc: ∀(blk off cap:Nat) (w:World),Sort.Holds (Value.int .i64) w blk off zs.toArray→blk<w.heap.size→zs.length≤cap→
    Calls P f #[.slice (some ⟨blk,off,none⟩) zs.length cap] w fun e w'=>e= .returned (rv blk off cap)∧ ∃q os,w'=Sort.grow (Sort.putRow (Value.int .i64) (Sort.ahead w q) blk off ds.toArray) os):
  A0 P f [.sl b st 0 zs.length] [(b,st,.rows 1 (zs.map zrw))] n (fun r' h' n'=>r'=r∧h'= [(b,st,.rows 1 (ds.map zrw))]):=by
 intro w O ρ cargs hr hR
 obtain⟨hl,hR⟩:=hR
 obtain⟨cs⟩:=cargs
 match cs,hl with
 | [v], _=>
  have h0:=hR 0 _ v rfl rfl
  generalize hz:zs.length=m at h0 hm
  cases h0 with
  |sl0 _ _ _ a=>exact absurd hm (Nat.lt_irrefl _)
  | sl _ _ _ _ cap hst hn hcp=>
   subst hz
   have hmem:(b,st,Blk.rows 1 (zs.map zrw))∈ [(b,st,Blk.rows 1 (zs.map zrw))]:=List.mem_singleton.2 rfl
   obtain⟨hsz,hlen',hcell,hrows⟩:=hr.blk _ hmem
   simp only at hsz hlen' hcell hrows hcp
   simp only [Nat.zero_add]at hcp
   have hcap0:(ρ st).cap≠0:=by omega
   obtain⟨hc1,hc2⟩:=hcell hcap0
   have hH:Sort.Holds (Value.int .i64) w (ρ st).blk ((ρ st).off+0*(ρ st).sz) zs.toArray:=by
    intro j hj
    have hj':j<zs.length:=by simpa using hj
    have hrow:=(hrows j (zrw zs[j]) (by simp [hj'])).2 0 (.int .i64 zs[j]) rfl
    obtain⟨x,q1,_,q3⟩:=hrow
    have hx:=q3.int_inv
    subst hx
    have hf:=(hc1 j (by omega)).2
    rw [Nat.zero_mul,Nat.add_zero]
    refine⟨?_,hf⟩
    rw [Nat.mul_one,Nat.add_zero]at q1
    rw [q1]
    simp [hj']
   refine(hc (ρ st).blk ((ρ st).off+0*(ρ st).sz) cap w hH hc2 hn).mono ?_
   rintro e w' ⟨rfl,q,os,rfl⟩
   have hds:ds.toArray.size=zs.toArray.size:=by simpa using hlen
   have hHa:Sort.Holds (Value.int .i64) (Sort.ahead w q) (ρ st).blk ((ρ st).off+0*(ρ st).sz) zs.toArray:=hH
   have hsp:(ρ st).blk<(Sort.putRow (Value.int .i64) (Sort.ahead w q) (ρ st).blk ((ρ st).off+0*(ρ st).sz) ds.toArray).heap.size:=by
    rw [Sort.size_putRow];exact hc2
   have hother: ∀y,y≠(ρ st).blk→(Sort.putRow (Value.int .i64) (Sort.ahead w q) (ρ st).blk ((ρ st).off+0*(ρ st).sz) ds.toArray).heap[y]? =w.heap[y]? :=by
    intro y hy
    simp only [Sort.putRow,Sort.mapBlock,Sort.heap_ahead]
    rw [Array.getElem?_modify]
    rw [if_neg (fun h=>hy h.symm)]
   obtain⟨s1,s2⟩:=HeapR.step (w':=Sort.grow (Sort.putRow (Value.int .i64) (Sort.ahead w q) (ρ st).blk ((ρ st).off+0*(ρ st).sz) ds.toArray) os) (ρ':=ρ) (n':=n) (b:=b) (st:=st) (x:= .rows 1 (ds.map zrw)) hr (Nat.le_refl _) (fun _ _=>rfl) hst
    ⟨by rw [Sort.size_grow,Sort.size_putRow];exact Nat.le_add_right _ _,rfl,rfl⟩
    (fun y hy hyc=>by
      have hne:y≠(ρ st).blk:=fun h=>hcap0 (hyc h)
      rw [Sort.heap_grow_old _ _ (by rw [Sort.size_putRow];exact hy)]
      exact hother y hne)
    (.inr (.inr ⟨_,hmem,rfl,hcap0,rfl⟩))
    (fun _=>by
      refine⟨hsz,by simp only [List.length_map];omega,fun _=>⟨fun j hj=> ?_,?_⟩,fun i row hi=> ?_⟩
      ·rw [Sort.cell?_grow _ _ _ hsp,Sort.frozen?_grow _ _ _ hsp,Sort.frozen?_putRow]
       obtain⟨k1,k2⟩:=hc1 j hj
       refine⟨?_,k2⟩
       by_cases hjl:j<ds.length
       ·have:=Sort.cell?_putRow (Value.int .i64) (Sort.ahead w q) (ρ st).blk ((ρ st).off+0*(ρ st).sz) zs.toArray ds.toArray hHa hds j (by simpa using hjl)
        rw [Nat.zero_mul,Nat.add_zero]at this⊢
        rw [this];rfl
       ·rw [Sort.cell?_putRow_other _ _ _ _ _ _ (.inr (.inr (by simp;omega)))]
        exact k1
      ·rw [Sort.size_grow,Sort.size_putRow]
       exact Nat.lt_of_lt_of_le hc2 (Nat.le_add_right _ _)
      ·rw [List.getElem?_map,Option.map_eq_some_iff]at hi
       obtain⟨z,hz,rfl⟩:=hi
       have hil:=(List.getElem?_eq_some_iff.1 hz).1
       refine⟨rfl,fun j c hj=> ?_⟩
       have hj0:j=0∧c= .int .i64 z:=by
        cases j with
        |zero=>simp [zrw]at hj;exact⟨rfl,hj.symm⟩
        |succ j=>simp [zrw]at hj
       obtain⟨rfl,rfl⟩:=hj0
       refine⟨.int .i64 z,?_,rfl,.int _ _⟩
       have:=Sort.cell?_putRow (Value.int .i64) (Sort.ahead w q) (ρ st).blk ((ρ st).off+0*(ρ st).sz) zs.toArray ds.toArray hHa hds i (by simpa using hil)
       rw [Sort.cell?_grow _ _ _ hsp]
       rw [Nat.mul_one,Nat.add_zero]
       rw [Nat.zero_mul,Nat.add_zero]at this⊢
       rw [this]
       have hget:ds[i]=z:=by
        have:=List.getElem?_eq_getElem hil
        rw [hz]at this
        injection this with this
        exact this.symm
       simp [hil,hget])
   have hput:A2.put [(b,st,Blk.rows 1 (zs.map zrw))] b st (.rows 1 (ds.map zrw))= [(b,st,.rows 1 (ds.map zrw))]:=by
    simp [A2.put,A2.del]
   rw [hput]at s1 s2
   refine⟨_,r,_,n,ρ,rfl,⟨rfl,rfl⟩,s1,?_,s2⟩
   have:=hrv (A4 (Sort.grow (Sort.putRow (Value.int .i64) (Sort.ahead w q) (ρ st).blk ((ρ st).off+0*(ρ st).sz) ds.toArray) os) O ρ n [(b,st,.rows 1 (ds.map zrw))]) cap hst hn hcp hsz
   rw [Nat.zero_mul,Nat.add_zero]at this⊢
   exact this
end Go.Abs
