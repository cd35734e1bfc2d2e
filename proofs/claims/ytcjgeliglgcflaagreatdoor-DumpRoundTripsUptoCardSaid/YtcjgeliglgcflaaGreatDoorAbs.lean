/-
 An abstract view of the model's memory: abstract values and blocks, and the relation between them and a world. No condition.
-/
import Derived.WalkKit
import Derived.Laws.IdiomCopy
import Derived.RangeFuncRecord
import Derived.Recover
set_option linter.unusedVariables false
set_option linter.unusedSimpArgs false
namespace Go.Abs
inductive V where
 |undef
 |bool (b:Bool)
 |int (k:IntKind) (n:Int)
 |str (s:List UInt8)
 |agg (cs:List V)
 |tup (vs:List V)
 |nilp
 |ptr (b st i j:Nat)
 |nils
 |sl (b st i n:Nat)
 |isl (es:List (List V))
 |iptr (es:List (List V)) (i j:Nat)
 |nilm
 |mp (b st:Nat)
 |fn (f:FuncId) (cap:List V)
 |yld (b st:Nat)
 |cst (v:Value)
 |err
 |anyi (k:IntKind)
 deriving Inhabited
structure Loc where
 blk:Nat
 off:Nat
 sz:Nat
 cap:Nat
 deriving Inhabited
structure Env where
 w:World
 own:Nat→Prop
 O:Nat→Prop
 ρ:Nat→Loc
 n:Nat
inductive R (E:Env):V→Value→Prop
 |undef (v:Value):R E .undef v
 |bool (b:Bool):R E (.bool b) (.bool b)
 |int (k:IntKind) (n:Int):R E (.int k n) (.int k n)
 |str (s:List UInt8):R E (.str s) (.string ⟨⟨s⟩⟩)
 | agg (cs:List V) (vs:Array Value) (hl:cs.length=vs.size) (h1: ∀(i:Nat) v,vs[i]? =some v→v.oneCell'=true)
   (hR: ∀(i:Nat) c v,cs[i]? =some c→vs[i]? =some v→R E c v):R E (.agg cs) (.agg vs)
 | tup (cs:List V) (vs:Array Value) (hl:cs.length=vs.size)
   (hR: ∀(i:Nat) c v,cs[i]? =some c→vs[i]? =some v→R E c v):R E (.tup cs) (.tuple vs)
 |nilp:R E .nilp (.pointer none)
 |ptr (b st i j:Nat) (h:st<E.n):R E (.ptr b st i j) (.pointer (some ⟨(E.ρ st).blk,(E.ρ st).off+i*(E.ρ st).sz+j,none⟩))
 |nils:R E .nils (.slice none 0 0)
 | sl (b st i n cap:Nat) (h:st<E.n) (hn:n≤cap) (hc:i+cap≤(E.ρ st).cap):
   R E (.sl b st i n) (.slice (some ⟨(E.ρ st).blk,(E.ρ st).off+i*(E.ρ st).sz,none⟩) n cap)
 |sl0 (b st i:Nat) (a:Option Addr):R E (.sl b st i 0) (.slice a 0 0)
 | isl (es:List (List V)) (p:Addr) (cap sz:Nat) (f:Nat→Nat→Value) (hp:p.spot=none) (hcap:es.length≤cap)
   (hrow: ∀(i:Nat) row,es[i]? =some row→row.length=sz)
   (hcell: ∀(i:Nat) row (j:Nat) c,es[i]? =some row→row[j]? =some c→
     E.w.cell? ⟨p.block,p.off+i*sz+j,none⟩=some (f i j)∧(f i j).oneCell'=true∧ ¬E.own p.block∧ ¬E.O p.block)
   (hR: ∀(i:Nat) row (j:Nat) c,es[i]? =some row→row[j]? =some c→R E c (f i j)):R E (.isl es) (.slice (some p) es.length cap)
 |isl0 (a:Option Addr) (cap:Nat):R E (.isl []) (.slice a 0 cap)
 | iptr (es:List (List V)) (i0 j0:Nat) (p:Addr) (sz:Nat) (f:Nat→Nat→Value) (hp:p.spot=none)
   (hrow: ∀(i:Nat) row,es[i]? =some row→row.length=sz)
   (hcell: ∀(i:Nat) row (j:Nat) c,es[i]? =some row→row[j]? =some c→
     E.w.cell? ⟨p.block,p.off+i*sz+j,none⟩=some (f i j)∧(f i j).oneCell'=true∧ ¬E.own p.block∧ ¬E.O p.block)
   (hR: ∀(i:Nat) row (j:Nat) c,es[i]? =some row→row[j]? =some c→R E c (f i j)):
   R E (.iptr es i0 j0) (.pointer (some ⟨p.block,p.off+i0*sz+j0,none⟩))
 |nilm:R E .nilm (.map none)
 |mp (b st:Nat) (h:st<E.n):R E (.mp b st) (.map (some (E.ρ st).blk))
 | fn (f:FuncId) (cs:List V) (vs:Array Value) (hl:cs.length=vs.size)
   (hR: ∀(i:Nat) c v,cs[i]? =some c→vs[i]? =some v→R E c v):R E (.fn f cs) (.func (.func f) #[] vs)
 |yld (b st:Nat) (h:st<E.n):R E (.yld b st) (.func (.yield (E.ρ st).blk) #[] #[])
 |cst (v:Value):R E (.cst v) v
 |err (t:TypeId) (v:Value):R E .err (.iface t v)
 |anyi (k:IntKind) (n:Int):R E (.anyi k) (.int k n)
structure Wd(w w':World):Prop where
 size:w.heap.size≤w'.heap.size
 os:w'.os=w.os
 out:w'.output=w.output
theorem Wd.refl(w:World):Wd w w:=⟨Nat.le_refl _,rfl,rfl⟩
theorem Wd.trans{w w' w'':World}(h:Wd w w')(h':Wd w' w''):Wd w w'':=⟨Nat.le_trans h.size h'.size,h'.os.trans h.os,h'.out.trans h.out⟩
theorem Wd.alloc(w:World)(ob:Obj):Wd w (w.alloc ob):=⟨by simp,rfl,rfl⟩
theorem Wd.drew(w:World):Wd w w.drew:=⟨Nat.le_refl _,rfl,rfl⟩
theorem Wd.setObj(w:World)(b:Nat)(ob:Obj):Wd w {w with heap:=w.heap.setIfInBounds b ob}:=⟨by simp,rfl,rfl⟩
structure Ext(E E':Env):Prop where
 O:E'.O=E.O
 n:E.n≤E'.n
 ρ: ∀st,st<E.n→E'.ρ st=E.ρ st
 wd:Wd E.w E'.w
 blk: ∀x,x<E.w.heap.size→ ¬E.own x→E'.w.heap[x]? =E.w.heap[x]? ∧ ¬E'.own x
theorem Ext.size{E E':Env}(h:Ext E E'):E.w.heap.size≤E'.w.heap.size:=h.wd.size
theorem Ext.refl(E:Env):Ext E E:=⟨rfl,Nat.le_refl _,fun _ _=>rfl,Wd.refl _,fun _ _ h=>⟨rfl,h⟩⟩
theorem Ext.trans{E E' E'':Env}(h:Ext E E')(h':Ext E' E''):Ext E E'':=
 ⟨h'.O.trans h.O,Nat.le_trans h.n h'.n,fun st hs=>(h'.ρ st (Nat.lt_of_lt_of_le hs h.n)).trans (h.ρ st hs),h.wd.trans h'.wd,
  fun x hx ho=>⟨(h'.blk x (Nat.lt_of_lt_of_le hx h.size) (h.blk x hx ho).2).1.trans (h.blk x hx ho).1,(h'.blk x (Nat.lt_of_lt_of_le hx h.size) (h.blk x hx ho).2).2⟩⟩
structure Imm(E E':Env):Prop where
 n:E.n≤E'.n
 ρ: ∀st,st<E.n→E'.ρ st=E.ρ st
 size:E.w.heap.size≤E'.w.heap.size
 blk: ∀x,x<E.w.heap.size→ ¬E.own x→ ¬E.O x→E'.w.heap[x]? =E.w.heap[x]? ∧ ¬E'.own x∧ ¬E'.O x
theorem Ext.imm{E E':Env}(h:Ext E E'):Imm E E':=⟨h.n,h.ρ,h.size,fun x hx ho hO=>⟨(h.blk x hx ho).1,(h.blk x hx ho).2,by rw [h.O];exact hO⟩⟩
theorem R.monoI{E E':Env}(hx:Imm E E'){v:V}{x:Value}(h:R E v x):R E' v x:=by
 induction h with
 |undef v=>exact .undef v
 |bool b=>exact .bool b
 |int k n=>exact .int k n
 |str s=>exact .str s
 |agg cs vs hl h1 _ ih=>exact .agg cs vs hl h1 ih
 |tup cs vs hl _ ih=>exact .tup cs vs hl ih
 |nilp=>exact .nilp
 |ptr b st i j h=>rw [←hx.ρ st h];exact .ptr b st i j (Nat.lt_of_lt_of_le h hx.n)
 |nils=>exact .nils
 |sl b st i n cap h hn hc=>
  rw [←hx.ρ st h]
  rw [←hx.ρ st h]at hc
  exact .sl b st i n cap (Nat.lt_of_lt_of_le h hx.n) hn hc
 |sl0 b st i a=>exact .sl0 b st i a
 |isl es p cap sz f hp hcap hrow hcell _ ih=>
  refine .isl es p cap sz f hp hcap hrow (fun i row j c h1 h2=> ?_) ih
  obtain⟨hc,h1c,ho,hO⟩:=hcell i row j c h1 h2
  have hb:=hx.blk p.block (World.block_lt_of_cell? E.w ⟨p.block,p.off+i*sz+j,none⟩ hc) ho hO
  exact⟨(World.cell?_of_block (a:=⟨p.block,p.off+i*sz+j,none⟩) hb.1).trans hc,h1c,hb.2⟩
 |isl0 a cap=>exact .isl0 a cap
 |iptr es i0 j0 p sz f hp hrow hcell _ ih=>
  refine .iptr es i0 j0 p sz f hp hrow (fun i row j c h1 h2=> ?_) ih
  obtain⟨hc,h1c,ho,hO⟩:=hcell i row j c h1 h2
  have hb:=hx.blk p.block (World.block_lt_of_cell? E.w ⟨p.block,p.off+i*sz+j,none⟩ hc) ho hO
  exact⟨(World.cell?_of_block (a:=⟨p.block,p.off+i*sz+j,none⟩) hb.1).trans hc,h1c,hb.2⟩
 |nilm=>exact .nilm
 |mp b st h=>rw [←hx.ρ st h];exact .mp b st (Nat.lt_of_lt_of_le h hx.n)
 |yld b st h=>rw [←hx.ρ st h];exact .yld b st (Nat.lt_of_lt_of_le h hx.n)
 |fn f cs vs hl _ ih=>exact .fn f cs vs hl ih
 |cst v=>exact .cst v
 |err t v=>exact .err t v
 |anyi k n=>exact .anyi k n
theorem R.mono{E E':Env}(hx:Ext E E'){v:V}{x:Value}(h:R E v x):R E' v x:=h.monoI hx.imm
abbrev A3u(w:World)(O:Nat→Prop):Env:=⟨w,fun _=>False,O,fun _=>default,0⟩
theorem R.back{E:Env}{w:World}{O':Nat→Prop}(hw:E.w=w)(hO: ∀x,¬O' x→ ¬E.own x∧ ¬E.O x){v:V}{x:Value}(h:R (A3u w O') v x):R E v x:=by
 subst hw
 induction h with
 |undef v=>exact .undef v
 |bool b=>exact .bool b
 |int k n=>exact .int k n
 |str s=>exact .str s
 |agg cs vs hl h1 _ ih=>exact .agg cs vs hl h1 ih
 |tup cs vs hl _ ih=>exact .tup cs vs hl ih
 |nilp=>exact .nilp
 |ptr b st i j h=>exact absurd h (Nat.not_lt_zero _)
 |nils=>exact .nils
 |sl b st i n cap h hn hc=>exact absurd h (Nat.not_lt_zero _)
 |sl0 b st i a=>exact .sl0 b st i a
 | isl es p cap sz f hp hcap hrow hcell _ ih=>
  exact .isl es p cap sz f hp hcap hrow (fun i row j c h1 h2=>by
   obtain⟨q1,q2,_,q4⟩:=hcell i row j c h1 h2
   exact⟨q1,q2,hO _ q4⟩) ih
 |isl0 a cap=>exact .isl0 a cap
 | iptr es i0 j0 p sz f hp hrow hcell _ ih=>
  exact .iptr es i0 j0 p sz f hp hrow (fun i row j c h1 h2=>by
   obtain⟨q1,q2,_,q4⟩:=hcell i row j c h1 h2
   exact⟨q1,q2,hO _ q4⟩) ih
 |nilm=>exact .nilm
 |mp b st h=>exact absurd h (Nat.not_lt_zero _)
 |yld b st h=>exact absurd h (Nat.not_lt_zero _)
 |fn f cs vs hl _ ih=>exact .fn f cs vs hl ih
 |cst v=>exact .cst v
 |err t v=>exact .err t v
 |anyi k n=>exact .anyi k n
def B0q:List (Nat×List V):= [(1,[.int .u8 0,.int .u8 0,.int .u8 0,.int .u8 0,.int .u8 0,.int .u8 0,.int .u8 0,.int .u8 0,.int .u8 0,.int .u8 1,.int .u8 1,.int .u8 1,.int .u8 1,.int .u8 1,.int .u8 0,.int .u8 0,.int .u8 0,.int .u8 0,.int .u8 0,.int .u8 0,.int .u8 0,.int .u8 0,.int .u8 0,.int .u8 0,.int .u8 0,.int .u8 0,.int .u8 0,.int .u8 0,.int .u8 0,.int .u8 0,.int .u8 0,.int .u8 0,.int .u8 1,.int .u8 0,.int .u8 0,.int .u8 0,.int .u8 0,.int .u8 0,.int .u8 0,.int .u8 0,.int .u8 0,.int .u8 0,.int .u8 0,.int .u8 0,.int .u8 0,.int .u8 0,.int .u8 0,.int .u8 0,.int .u8 0,.int .u8 0,.int .u8 0,.int .u8 0,.int .u8 0,.int .u8 0,.int .u8 0,.int .u8 0,.int .u8 0,.int .u8 0,.int .u8 0,.int .u8 0,.int .u8 0,.int .u8 0,.int .u8 0,.int .u8 0,.int .u8 0,.int .u8 0,.int .u8 0,.int .u8 0,.int .u8 0,.int .u8 0,.int .u8 0,.int .u8 0,.int .u8 0,.int .u8 0,.int .u8 0,.int .u8 0,.int .u8 0,.int .u8 0,.int .u8 0,.int .u8 0,.int .u8 0,.int .u8 0,.int .u8 0,.int .u8 0,.int .u8 0,.int .u8 0,.int .u8 0,.int .u8 0,.int .u8 0,.int .u8 0,.int .u8 0,.int .u8 0,.int .u8 0,.int .u8 0,.int .u8 0,.int .u8 0,.int .u8 0,.int .u8 0,.int .u8 0,.int .u8 0,.int .u8 0,.int .u8 0,.int .u8 0,.int .u8 0,.int .u8 0,.int .u8 0,.int .u8 0,.int .u8 0,.int .u8 0,.int .u8 0,.int .u8 0,.int .u8 0,.int .u8 0,.int .u8 0,.int .u8 0,.int .u8 0,.int .u8 0,.int .u8 0,.int .u8 0,.int .u8 0,.int .u8 0,.int .u8 0,.int .u8 0,.int .u8 0,.int .u8 0,.int .u8 0,.int .u8 0,.int .u8 0,.int .u8 0,.int .u8 0,.int .u8 0,.int .u8 0,.int .u8 0,.int .u8 0,.int .u8 0,.int .u8 0,.int .u8 0,.int .u8 0,.int .u8 0,.int .u8 0,.int .u8 0,.int .u8 0,.int .u8 0,.int .u8 0,.int .u8 0,.int .u8 0,.int .u8 0,.int .u8 0,.int .u8 0,.int .u8 0,.int .u8 0,.int .u8 0,.int .u8 0,.int .u8 0,.int .u8 0,.int .u8 0,.int .u8 0,.int .u8 0,.int .u8 0,.int .u8 0,.int .u8 0,.int .u8 0,.int .u8 0,.int .u8 0,.int .u8 0,.int .u8 0,.int .u8 0,.int .u8 0,.int .u8 0,.int .u8 0,.int .u8 0,.int .u8 0,.int .u8 0,.int .u8 0,.int .u8 0,.int .u8 0,.int .u8 0,.int .u8 0,.int .u8 0,.int .u8 0,.int .u8 0,.int .u8 0,.int .u8 0,.int .u8 0,.int .u8 0,.int .u8 0,.int .u8 0,.int .u8 0,.int .u8 0,.int .u8 0,.int .u8 0,.int .u8 0,.int .u8 0,.int .u8 0,.int .u8 0,.int .u8 0,.int .u8 0,.int .u8 0,.int .u8 0,.int .u8 0,.int .u8 0,.int .u8 0,.int .u8 0,.int .u8 0,.int .u8 0,.int .u8 0,.int .u8 0,.int .u8 0,.int .u8 0,.int .u8 0,.int .u8 0,.int .u8 0,.int .u8 0,.int .u8 0,.int .u8 0,.int .u8 0,.int .u8 0,.int .u8 0,.int .u8 0,.int .u8 0,.int .u8 0,.int .u8 0,.int .u8 0,.int .u8 0,.int .u8 0,.int .u8 0,.int .u8 0,.int .u8 0,.int .u8 0,.int .u8 0,.int .u8 0,.int .u8 0,.int .u8 0,.int .u8 0,.int .u8 0,.int .u8 0,.int .u8 0,.int .u8 0,.int .u8 0,.int .u8 0,.int .u8 0,.int .u8 0,.int .u8 0,.int .u8 0,.int .u8 0,.int .u8 0,.int .u8 0,.int .u8 0,.int .u8 0,.int .u8 0,.int .u8 0,.int .u8 0,.int .u8 0,.int .u8 0,.int .u8 0,.int .u8 0]),(2,[.int .u64 1,.int .u64 10,.int .u64 100,.int .u64 1000,.int .u64 10000,.int .u64 100000,.int .u64 1000000,.int .u64 10000000,.int .u64 100000000,.int .u64 1000000000,.int .u64 10000000000,.int .u64 100000000000,.int .u64 1000000000000,.int .u64 10000000000000,.int .u64 100000000000000,.int .u64 1000000000000000,.int .u64 10000000000000000,.int .u64 100000000000000000,.int .u64 1000000000000000000,.int .u64 10000000000000000000]),(0,[.anyi .i64])]
def B0t:List (Nat×List V)→Nat→Option (List V)
 | [],_=>none
 |e::r,g=>bif Nat.beq e.1 g then some e.2 else B0t r g
theorem A9O{g:Nat}{c:List V}: ∀{l:List (Nat×List V)},B0t l g=some c→(g,c)∈l
 | [],h=>by cases h
 | e::r,h=>by
  simp only [B0t]at h
  cases hb:Nat.beq e.1 g with
  |true=>
   rw [hb]at h;injection h with h
   rw [←Nat.eq_of_beq_eq_true hb,←h];exact List.mem_cons_self
  |false=>rw [hb]at h;exact List.mem_cons_of_mem _ (A9O h)
def C4J(g:Nat):V:=match B0t B0q g with
 |some c=> .iptr [c] 0 0
 |none=> .undef
def GlR(E:Env):Prop:= ∀e∈B0q,(∃cs t z,E.w.heap[e.1]? =some (.cells cs t z)∧cs.size=e.2.length∧ ¬E.own e.1∧ ¬E.O e.1)∧ ∀(j:Nat) c,e.2[j]? =some c→
 ∃x,E.w.cell? ⟨e.1,j,none⟩=some x∧x.oneCell'=true∧ ¬E.own e.1∧ ¬E.O e.1∧R (A3u E.w fun x=>E.own x∨E.O x) c x
theorem GlR.to{E E':Env}(h:GlR E)(hs:E.w.heap.size≤E'.w.heap.size)(hb: ∀x,x<E.w.heap.size→ ¬E.own x→ ¬E.O x→E'.w.heap[x]? =E.w.heap[x]? ∧ ¬E'.own x∧ ¬E'.O x):GlR E':=by
 intro e he
 obtain⟨⟨cs,t,z,hh1,hh2,hh3,hh4⟩,h⟩:=h e he
 have hh:=hb e.1 (Array.getElem?_eq_some_iff.1 hh1).1 hh3 hh4
 refine⟨⟨cs,t,z,hh.1.trans hh1,hh2,hh.2.1,hh.2.2⟩,fun j c hj=> ?_⟩
 obtain⟨x,h1,h2,h3,h4,h5⟩:=h j c hj
 obtain⟨b1,b2,b3⟩:=hb e.1 (World.block_lt_of_cell? E.w ⟨e.1,j,none⟩ h1) h3 h4
 refine⟨x,(World.cell?_of_block (a:=⟨e.1,j,none⟩) b1).trans h1,h2,b2,b3,R.monoI (E:=A3u E.w fun x=>E.own x∨E.O x) (E':=A3u E'.w fun x=>E'.own x∨E'.O x) ⟨Nat.le_refl _,fun st h=>absurd h (Nat.not_lt_zero _),hs,fun y hy _ hO=> ?_⟩ h5⟩
 obtain⟨q1,q2,q3⟩:=hb y hy (fun h=>hO (.inl h)) (fun h=>hO (.inr h))
 exact⟨q1,fun h=>h,fun h=>h.elim q2 q3⟩
theorem GlR.mono{E E':Env}(hx:Imm E E')(h:GlR E):GlR E':=h.to hx.size hx.blk
theorem GlR.val{E:Env}(h:GlR E){g:Nat}{c:List V}(hg:B0t B0q g=some c):R E (.iptr [c] 0 0) (.pointer (some ⟨g,0,none⟩)):=by
 have hm:=A9O hg
 have one: ∀(i:Nat) row,[c][i]? =some row→i=0∧row=c:=fun i row hi=>by
  cases i with
  |zero=>simp at hi;exact⟨rfl,hi.symm⟩
  |succ i=>simp at hi
 have key:=R.iptr (E:=E) [c] 0 0 ⟨g,0,none⟩ c.length (fun _ j=>(E.w.cell? ⟨g,j,none⟩).getD Go.undef) rfl (fun i row hi=>by rw [(one i row hi).2]) (fun i row j c' hi hj=>by
  obtain⟨rfl,rfl⟩:=one i row hi
  obtain⟨x,h1,h2,h3,h4,_⟩:=(h _ hm).2 j c' hj
  have e:(⟨g,0+0*row.length+j,none⟩:Addr)=⟨g,j,none⟩:=by simp
  simp only [e]
  simp only at h1
  rw [h1]
  exact⟨rfl,h2,h3,h4⟩) (fun i row j c' hi hj=>by
  obtain⟨rfl,rfl⟩:=one i row hi
  obtain⟨x,h1,h2,h3,h4,h5⟩:=(h _ hm).2 j c' hj
  simp only at h1
  rw [h1]
  exact R.back rfl (fun y hy=>⟨fun h=>hy (.inl h),fun h=>hy (.inr h)⟩) h5)
 simpa using key
def C8:List (Nat×V)→Nat→V
 | [],_=> .undef
 |p::r,i=>bif Nat.beq p.1 i then p.2 else C8 r i
inductive Blk where
 |rows (sz:Nat) (rs:List (List V))
 |map (es:List (V×V))
 |loop (N:Nat) (sl:List (Nat×V)) (ps:List Nat) (p:Code→Code→Prop) (s:LoopState) (pend:Option Code)
 |mapb (es:List (V×V)) (bs:List Nat) (ck:Nat)
 |iter (mst:Nat) (es:List (V×V)) (bs:List Nat) (ck:Nat) (left:List (Nat×V×V)) (last:Option (V×V))
 |raw (rs:List (List V))
 |tb (T:TypeId) (sz:Nat) (rs:List (List V))
 |fz (T:TypeId) (l:List Value)
 deriving Inhabited
abbrev A2:=List (Nat×Nat×Blk)
def Own(ρ:Nat→Loc)(h:A2)(x:Nat):Prop:= ∃e∈h,(ρ e.2.1).cap≠0∧(ρ e.2.1).blk=x
abbrev A4(w:World)(O:Nat→Prop)(ρ:Nat→Loc)(n:Nat)(h:A2):Env:=⟨w,Own ρ h,O,ρ,n⟩
def A1r(E:Env)(blk off:Nat)(row:List V):Prop:=
 ∀(j:Nat) c,row[j]? =some c→ ∃x,E.w.cell? ⟨blk,off+j,none⟩=some x∧x.oneCell'=true∧R E c x
def A7q(E:Env)(st sz:Nat)(rs:List (List V)):Prop:=
 (E.ρ st).sz=sz∧rs.length≤(E.ρ st).cap∧
   ((E.ρ st).cap≠0→(∀j,j<(E.ρ st).cap*sz→(E.w.cell? ⟨(E.ρ st).blk,(E.ρ st).off+j,none⟩).isSome=true∧E.w.frozen? ⟨(E.ρ st).blk,(E.ρ st).off+j,none⟩=false)∧(E.ρ st).blk<E.w.heap.size)∧
   ∀(i:Nat) row,rs[i]? =some row→row.length=sz∧A1r E (E.ρ st).blk ((E.ρ st).off+i*sz) row
def A7P(E:Env)(st:Nat):Blk→Prop
 | .rows sz rs=>(E.ρ st).sz=sz∧rs.length≤(E.ρ st).cap∧
   ((E.ρ st).cap≠0→(∀j,j<(E.ρ st).cap*sz→(E.w.cell? ⟨(E.ρ st).blk,(E.ρ st).off+j,none⟩).isSome=true∧E.w.frozen? ⟨(E.ρ st).blk,(E.ρ st).off+j,none⟩=false)∧(E.ρ st).blk<E.w.heap.size)∧
   ∀(i:Nat) row,rs[i]? =some row→row.length=sz∧A1r E (E.ρ st).blk ((E.ρ st).off+i*sz) row
 | .map es=>(E.ρ st).cap≠0∧ ∃(mes:Array MapEntry) (clock:Nat),E.w.heap[(E.ρ st).blk]? =some (.map mes clock)∧mes.size=es.length∧
   (∀(i:Nat) p m,es[i]? =some p→mes[i]? =some m→R E p.1 m.key∧R E p.2 m.val∧m.born<clock)∧
   (∀(i j:Nat) m m',mes[i]? =some m→mes[j]? =some m'→m.born=m'.born→i=j)
 | .loop N sl ps p s pend=>(E.ρ st).cap≠0∧(∀i∈ps,i<N)∧ ∃r:Loop,E.w.heap[(E.ρ st).blk]? =some (.loop r)∧r.state=s∧r.pending=pend∧r.params.toList=ps∧r.tmps.size=N∧
   (∀i,R E (C8 sl i) (r.tmps.getD i Go.undef))∧p r.assign r.body
 | .mapb es bs ck=>(E.ρ st).cap≠0∧ ∃(mes:Array MapEntry),E.w.heap[(E.ρ st).blk]? =some (.map mes ck)∧mes.size=es.length∧bs=mes.toList.map (·.born)∧
   (∀(i:Nat) p m,es[i]? =some p→mes[i]? =some m→R E p.1 m.key∧R E p.2 m.val∧m.born<ck)∧
   (∀(i j:Nat) m m',mes[i]? =some m→mes[j]? =some m'→m.born=m'.born→i=j)
 | .iter mst es bs ck left last=>(E.ρ st).cap≠0∧(E.ρ st).off=0∧mst<E.n∧ ∃sn:Array Nat,E.w.heap[(E.ρ st).blk]? =some (.mapIter (some (E.ρ mst).blk) ck sn ck)∧
   left=(bs.zip es).filter (fun e=> !sn.contains e.1)∧ ∀p,last=some p→ ∃(i:Nat) (c:Nat),es[i]? =some p∧bs[i]? =some c∧sn.back? =some c
 | .raw rs=>(E.ρ st).cap≠0∧((E.ρ st).off=0∧(E.ρ st).sz=1∧rs.length=(E.ρ st).cap)∧(∃cs el,E.w.heap[(E.ρ st).blk]? =some (.cells cs el)∧cs.size=(E.ρ st).cap)∧
   ∀(i:Nat) row,rs[i]? =some row→row.length=1∧A1r E (E.ρ st).blk ((E.ρ st).off+i*1) row
 | .tb T sz rs=>A7q E st sz rs∧(E.ρ st).off=0∧((E.ρ st).cap≠0→ ∃c,E.w.shape? (E.ρ st).blk=some (T,c)∧(E.ρ st).cap*sz≤c∧(sz≠1→c=rs.length*sz))
 | .fz T l=>(E.ρ st).cap≠0∧(E.ρ st).off=0∧ ∃cs hi,E.w.heap[(E.ρ st).blk]? =some (.cells cs T (0,hi))∧(E.ρ st).cap≤cs.size∧l.length≤hi∧ ∀(j:Nat) x,l[j]? =some x→cs[j]? =some x
structure HeapR(w:World)(O:Nat→Prop)(ρ:Nat→Loc)(n:Nat)(h:A2):Prop where
 lt: ∀e∈h,e.2.1<n
 inj: ∀e∈h,∀e'∈h,e.1≠e'.1→(ρ e.2.1).cap≠0→(ρ e'.2.1).cap≠0→(ρ e.2.1).blk≠(ρ e'.2.1).blk
 out: ∀x,O x→x<w.heap.size
 notO: ∀e∈h,(ρ e.2.1).cap≠0→ ¬O (ρ e.2.1).blk
 blk: ∀e∈h,A7P (A4 w O ρ n h) e.2.1 e.2.2
 gl:GlR (A4 w O ρ n h)
theorem A7q.monoI{E E':Env}(hx:Imm E E'){st sz:Nat}{rs:List (List V)}(hst:st<E.n)(hb:(E.ρ st).cap≠0→E'.w.heap[(E.ρ st).blk]? =E.w.heap[(E.ρ st).blk]?)(h:A7q E st sz rs):A7q E' st sz rs:=by
 have hρ:=hx.ρ st hst
 obtain⟨h1,h2,h3,h4⟩:=h
 refine⟨by rw [hρ];exact h1,by rw [hρ];exact h2,?_,?_⟩
 ·rw [hρ]
  intro hc
  obtain⟨h5,h6⟩:=h3 hc
  refine⟨fun j hj=> ?_,Nat.lt_of_lt_of_le h6 hx.size⟩
  rw [World.cell?_of_block (a:=⟨(E.ρ st).blk,(E.ρ st).off+j,none⟩) (hb hc),World.frozen?_of_block (a:=⟨(E.ρ st).blk,(E.ρ st).off+j,none⟩) (hb hc)]
  exact h5 j hj
 ·intro i row hi
  obtain⟨h5,h6⟩:=h4 i row hi
  refine⟨h5,fun j c hj=> ?_⟩
  obtain⟨x,hx1,hx2,hx3⟩:=h6 j c hj
  refine⟨x,?_,hx2,hx3.monoI hx⟩
  rw [hρ]
  have hc:(E.ρ st).cap≠0:=by
   have:=(List.getElem?_eq_some_iff.1 hi).1
   omega
  rw [World.cell?_of_block (a:=⟨(E.ρ st).blk,(E.ρ st).off+i*sz+j,none⟩) (hb hc)]
  exact hx1
theorem A7P.monoI{E E':Env}(hx:Imm E E'){st:Nat}{b:Blk}(hst:st<E.n)(hb:(E.ρ st).cap≠0→E'.w.heap[(E.ρ st).blk]? =E.w.heap[(E.ρ st).blk]?)(h:A7P E st b):A7P E' st b:=by
 have hρ:=hx.ρ st hst
 cases b with
 |rows sz rs=>exact A7q.monoI hx hst hb h
 |fz T l=>obtain⟨h1,h2,cs,hi,h3,h4⟩:=h;exact⟨by rw [hρ];exact h1,by rw [hρ];exact h2,cs,hi,by rw [hρ,hb h1];exact h3,by rw [hρ];exact h4⟩
 |tb T sz rs=>exact⟨A7q.monoI hx hst hb h.1,by rw [hρ];exact h.2.1,fun hc=>by rw [hρ]at hc⊢;simp only [World.shape?,hb hc];exact h.2.2 hc⟩
 |map es=>
  obtain⟨h1,mes,clock,h2,h3,h4,h5⟩:=h
  refine⟨by rw [hρ];exact h1,mes,clock,by rw [hρ,hb h1];exact h2,h3,fun i p m hp hm=> ?_,h5⟩
  obtain⟨a,b,c⟩:=h4 i p m hp hm
  exact⟨a.monoI hx,b.monoI hx,c⟩
 |loop N sl ps p s pend=>
  obtain⟨h1,h0,r,h2,h3,h4,h5,h6,h7,h8⟩:=h
  exact⟨by rw [hρ];exact h1,h0,r,by rw [hρ,hb h1];exact h2,h3,h4,h5,h6,fun i=>(h7 i).monoI hx,h8⟩
 |mapb es bs ck=>
  obtain⟨h1,mes,h2,h3,h0,h4,h5⟩:=h
  refine⟨by rw [hρ];exact h1,mes,by rw [hρ,hb h1];exact h2,h3,h0,fun i p m hp hm=> ?_,h5⟩
  obtain⟨a,b,c⟩:=h4 i p m hp hm
  exact⟨a.monoI hx,b.monoI hx,c⟩
 |iter mst es bs ck left last=>
  obtain⟨h1,h2,h3,sn,h4,h5⟩:=h
  exact⟨by rw [hρ];exact h1,by rw [hρ];exact h2,Nat.lt_of_lt_of_le h3 hx.n,sn,by rw [hρ,hb h1,hx.ρ mst h3];exact h4,h5⟩
 |raw rs=>
  obtain⟨h1,h2,⟨cs,el,h3,h4⟩,h5⟩:=h
  refine⟨by rw [hρ];exact h1,by rw [hρ];exact h2,⟨cs,el,by rw [hρ,hb h1];exact h3,by rw [hρ];exact h4⟩,fun i row hi=> ?_⟩
  obtain⟨h6,h7⟩:=h5 i row hi
  refine⟨h6,fun j c hj=> ?_⟩
  obtain⟨x,hx1,hx2,hx3⟩:=h7 j c hj
  refine⟨x,?_,hx2,hx3.monoI hx⟩
  rw [hρ,World.cell?_of_block (a:=⟨(E.ρ st).blk,(E.ρ st).off+i*1+j,none⟩) (hb h1)]
  exact hx1
theorem A7P.mono{E E':Env}(hx:Ext E E'){st:Nat}{b:Blk}(hst:st<E.n)(hb:(E.ρ st).cap≠0→E'.w.heap[(E.ρ st).blk]? =E.w.heap[(E.ρ st).blk]?)(h:A7P E st b):A7P E' st b:=h.monoI hx.imm hst hb
theorem HeapR.drop{w:World}{O:Nat→Prop}{ρ:Nat→Loc}{n:Nat}{h h':A2}(hr:HeapR w O ρ n h)(hs: ∀e∈h',e∈h):HeapR w O ρ n h'∧Ext (A4 w O ρ n h) (A4 w O ρ n h'):=by
 have hx:Ext (A4 w O ρ n h) (A4 w O ρ n h'):=
  ⟨rfl,Nat.le_refl _,fun _ _=>rfl,Wd.refl _,fun x _ ho=>⟨rfl,fun⟨e,he,hc⟩=>ho ⟨e,hs e he,hc⟩⟩⟩
 exact⟨⟨fun e he=>hr.lt e (hs e he),fun e he e' he'=>hr.inj e (hs e he) e' (hs e' he'),hr.out,fun e he=>hr.notO e (hs e he),fun e he=>(hr.blk e (hs e he)).mono hx (hr.lt e (hs e he)) fun _=>rfl,hr.gl.mono hx.imm⟩,hx⟩
def A2.del(h:A2)(b:Nat):A2:=h.filter fun e=> !(Nat.beq e.1 b)
def A2.put(h:A2)(b st:Nat)(x:Blk):A2:=(b,st,x)::A2.del h b
def A2.get(h:A2)(b st:Nat):Option Blk:=
 match h with
 | []=>none
 |e::r=>bif Nat.beq e.1 b then(if e.2.1=st then some e.2.2 else none)else A2.get r b st
theorem A2.mem_del{h:A2}{b:Nat}{e:Nat×Nat×Blk}:e∈A2.del h b↔e∈h∧e.1≠b:=by
 simp only [A2.del,List.mem_filter,Bool.not_eq_true']
 refine and_congr_right fun _=> ?_
 constructor
 ·intro h1 h2;rw [h2,Nat.beq_refl]at h1;cases h1
 ·intro h1;cases h2:Nat.beq e.1 b with
  |false=>rfl
  |true=>exact(h1 (Nat.eq_of_beq_eq_true h2)).elim
theorem A2.mem_of_get{h:A2}{b st:Nat}{x:Blk}(hg:A2.get h b st=some x):(b,st,x)∈h:=by
 induction h with
 |nil=>cases hg
 | cons e r ih=>
  simp only [A2.get]at hg
  cases hb:Nat.beq e.1 b with
  | true=>
   simp only [hb,cond_true]at hg
   split at hg
   ·rename_i h1
    injection hg with h2
    have h3:=Nat.eq_of_beq_eq_true hb
    obtain⟨a,b',c⟩:=e
    subst h1;subst h2;subst h3
    exact List.mem_cons_self ..
   ·cases hg
  |false=>
   simp only [hb,cond_false]at hg
   exact List.mem_cons_of_mem _ (ih hg)
theorem HeapR.step{w w':World}{O:Nat→Prop}{ρ ρ':Nat→Loc}{n n':Nat}{h:A2}{b st:Nat}{x:Blk}(hr:HeapR w O ρ n h)
  (hn:n≤n') (hρ: ∀st,st<n→ρ' st=ρ st) (hst:st<n')
  (hwd:Wd w w')
  (hkeep: ∀y,y<w.heap.size→(y=(ρ' st).blk→(ρ' st).cap=0)→w'.heap[y]? =w.heap[y]?)
  (hloc:(ρ' st).cap=0∨w.heap.size≤(ρ' st).blk∨ ∃e∈h,e.1=b∧(ρ e.2.1).cap≠0∧(ρ e.2.1).blk=(ρ' st).blk)
  (hb:Ext (A4 w O ρ n h) (A4 w' O ρ' n' (A2.put h b st x))→A7P (A4 w' O ρ' n' (A2.put h b st x)) st x):
  HeapR w' O ρ' n' (A2.put h b st x)∧Ext (A4 w O ρ n h) (A4 w' O ρ' n' (A2.put h b st x)):=by
 have hsize:=hwd.size
 have hreal: ∀e∈h,(ρ e.2.1).cap≠0→(ρ e.2.1).blk<w.heap.size:=by
  intro e he hc
  have:=hr.blk e he
  cases hx:e.2.2 with
  |rows sz rs=>rw [hx]at this;exact(this.2.2.1 hc).2
  |map es=>rw [hx]at this;obtain⟨_,mes,clock,h2,_⟩:=this;exact(Array.getElem?_eq_some_iff.1 h2).1
  |loop N sl ps p s pend=>rw [hx]at this;obtain⟨_,_,r,h2,_⟩:=this;exact(Array.getElem?_eq_some_iff.1 h2).1
  |mapb es bs ck=>rw [hx]at this;obtain⟨_,mes,h2,_⟩:=this;exact(Array.getElem?_eq_some_iff.1 h2).1
  |iter mst es bs ck left last=>rw [hx]at this;obtain⟨_,_,_,sn,h2,_⟩:=this;exact(Array.getElem?_eq_some_iff.1 h2).1
  |raw rs=>rw [hx]at this;obtain⟨_,_,⟨cs,el,h2,_⟩,_⟩:=this;exact(Array.getElem?_eq_some_iff.1 h2).1
  |tb T sz rs=>rw [hx]at this;exact(this.1.2.2.1 hc).2
  |fz T l=>rw [hx]at this;obtain⟨_,_,cs,hi,h2,_⟩:=this;exact(Array.getElem?_eq_some_iff.1 h2).1
 have hother: ∀e∈h,e.1≠b→(ρ e.2.1).cap≠0→(ρ' st).cap≠0→(ρ e.2.1).blk≠(ρ' st).blk:=by
  intro e he hne hc hc' heq
  rcases hloc with h1|h1|⟨e',he',hb',hc2,hbk⟩
  ·exact hc' h1
  ·have:=hreal e he hc;omega
  ·exact(hr.inj e he e' he' (fun h=>hne (h.trans hb'))) hc hc2 (heq.trans hbk.symm)
 have hx:Ext (A4 w O ρ n h) (A4 w' O ρ' n' (A2.put h b st x)):=by
  refine⟨rfl,hn,hρ,hwd,fun y hy ho=>⟨hkeep y hy (fun hyb=> ?_),?_⟩⟩
  ·rcases hloc with h1|h1|⟨e',he',_,hc2,hbk⟩
   ·exact h1
   ·have hy':y<w.heap.size:=hy;omega
   ·exact(ho ⟨e',he',hc2,hbk.trans hyb.symm⟩).elim
  ·rintro⟨e,he,hc,hbk⟩
   rcases List.mem_cons.1 he with rfl|he
   ·rcases hloc with h1|h1|⟨e',he',_,hc2,hbk'⟩
    ·exact hc h1
    ·have hy':y<w.heap.size:=hy
     simp only at hbk
     omega
    ·exact ho ⟨e',he',hc2,hbk'.trans hbk⟩
   ·obtain⟨he,hne⟩:=A2.mem_del.1 he
    have hl:=hr.lt e he
    have hc':(ρ e.2.1).cap≠0:=by rw [←hρ _ hl];exact hc
    have hbk':(ρ e.2.1).blk=y:=by rw [←hρ _ hl];exact hbk
    exact ho ⟨e,he,hc',hbk'⟩
 refine⟨⟨?_,?_,fun x hx=>Nat.lt_of_lt_of_le (hr.out x hx) hsize,?_,?_,hr.gl.mono hx.imm⟩,hx⟩
 ·intro e he
  rcases List.mem_cons.1 he with rfl|he
  ·exact hst
  ·exact Nat.lt_of_lt_of_le (hr.lt e (A2.mem_del.1 he).1) hn
 ·intro e he e' he' hne
  rcases List.mem_cons.1 he with rfl|he<;>rcases List.mem_cons.1 he' with rfl|he'
  ·exact(hne rfl).elim
  ·obtain⟨he',hne'⟩:=A2.mem_del.1 he'
   intro hc hc'
   rw [hρ _ (hr.lt e' he')]at hc'⊢
   exact fun h=>hother e' he' hne' hc' hc h.symm
  ·obtain⟨he,hne'⟩:=A2.mem_del.1 he
   intro hc hc'
   rw [hρ _ (hr.lt e he)]at hc⊢
   exact hother e he hne' hc hc'
  ·obtain⟨he,_⟩:=A2.mem_del.1 he
   obtain⟨he',_⟩:=A2.mem_del.1 he'
   rw [hρ _ (hr.lt e he),hρ _ (hr.lt e' he')]
   exact hr.inj e he e' he' hne
 ·intro e he
  rcases List.mem_cons.1 he with rfl|he
  ·intro hc hO
   rcases hloc with h1|h1|⟨e',he',_,hc2,hbk⟩
   ·exact hc h1
   ·exact absurd (hr.out _ hO) (Nat.not_lt.2 h1)
   ·exact hr.notO e' he' hc2 (hbk ▸ hO)
  ·obtain⟨he,_⟩:=A2.mem_del.1 he
   rw [hρ _ (hr.lt e he)]
   exact hr.notO e he
 ·intro e he
  rcases List.mem_cons.1 he with rfl|he
  ·exact hb hx
  ·obtain⟨he,hne⟩:=A2.mem_del.1 he
   refine(hr.blk e he).mono hx (hr.lt e he) fun hc=> ?_
   refine hkeep _ (hreal e he hc) fun heq=> ?_
   by_cases hc':(ρ' st).cap=0
   ·exact hc'
   ·exact(hother e he hne hc hc' heq).elim
end Go.Abs
