/-
 Operations keep the relation of abstract and real memory, one by one. No condition.
-/
import Derived.Test.YtflobbpcabopjaaGreatDoorOps
import Derived.Laws.BytesArg
import Derived.Laws.IdiomStrings
import Derived.Laws.IdiomRangeMap
import Derived.Lib.Strings
set_option linter.unusedVariables false namespace Go.Abs
variable {PK:R8}
variable {P:Program}
def C4(P:Program)(PK:R8)(k:Res)(w:World)(O:Nat→Prop)(ρ:Nat→Loc)(h:A2)(n:Nat):Result Next→Prop
 | .ok (.value v) w'=> ∃r h' n' ρ',k r h' n'∧HeapR w' O ρ' n' h'∧R (A4 w' O ρ' n' h') r v∧Ext (A4 w O ρ n h) (A4 w' O ρ' n' h')
 | .ok .skip w'=> ∃r h' n' ρ',k r h' n'∧HeapR w' O ρ' n' h'∧R (A4 w' O ρ' n' h') r Go.undef∧Ext (A4 w O ρ n h) (A4 w' O ρ' n' h')
 | .ok (.enter f cargs) w'=>w'=w∧ ∃as,RL (A4 w O ρ n h) as cargs∧B3x P f as h n k PK
 | .ok (.round l f tmps a b) w'=>w'=w∧RoundIn Fence.wide 0 P l f tmps a b w (C5O P w O ρ h n k)
 | .halt (.panic v) w'=>w'=w∧PK v h n
 |_=>False
section
variable {k:Res} {w:World} {O:Nat→Prop} {ρ:Nat→Loc} {h:A2} {n:Nat}
theorem C4.val{r:V}{v:Value}(hr:HeapR w O ρ n h)(hk:k r h n)(hR:R (A4 w O ρ n h) r v):C4 P PK k w O ρ h n (.ok (.value v) w):=
 ⟨r,h,n,ρ,hk,hr,hR,Ext.refl _⟩
theorem G8{o:Option V}(h1:J1 o k h n): ∃v,o=some v∧k v h n:=by
 cases o with
 |none=>exact h1.elim
 |some v=>exact⟨v,rfl,h1⟩
section
variable {E:Env}
theorem R.cst_inv{u:Value}{v:Value}(h:R E (.cst u) v):v=u:=by cases h;rfl
theorem R.bool_inv{b:Bool}{v:Value}(h:R E (.bool b) v):v= .bool b:=by cases h;rfl
theorem R.int_inv{j:IntKind}{z:Int}{v:Value}(h:R E (.int j z) v):v= .int j z:=by cases h;rfl
theorem R.str_inv{s:List UInt8}{v:Value}(h:R E (.str s) v):v= .string ⟨⟨s⟩⟩:=by cases h;rfl
theorem R.nilp_inv{v:Value}(h:R E .nilp v):v= .pointer none:=by cases h;rfl
theorem R.nils_inv{v:Value}(h:R E .nils v):v= .slice none 0 0:=by cases h;rfl
theorem R.nilm_inv{v:Value}(h:R E .nilm v):v= .map none:=by cases h;rfl
theorem R.agg_inv{cs:List V}{v:Value}(h:R E (.agg cs) v): ∃vs:Array Value,v= .agg vs∧cs.length=vs.size∧(∀(i:Nat) v,vs[i]? =some v→v.oneCell'=true)∧ ∀(i:Nat) c v,cs[i]? =some c→vs[i]? =some v→R E c v:=by
 cases h with
 |agg _ vs hl h1 hR=>exact⟨vs,rfl,hl,h1,hR⟩
theorem R.tup_inv{cs:List V}{v:Value}(h:R E (.tup cs) v): ∃vs:Array Value,v= .tuple vs∧RL E cs vs:=by
 cases h with
 |tup _ vs hl hR=>exact⟨vs,rfl,hl,hR⟩
theorem R.ptr_inv{b st i j:Nat}{v:Value}(h:R E (.ptr b st i j) v):st<E.n∧v= .pointer (some ⟨(E.ρ st).blk,(E.ρ st).off+i*(E.ρ st).sz+j,none⟩):=by
 cases h with
 |ptr _ _ _ _ h=>exact⟨h,rfl⟩
theorem R.mp_inv{b st:Nat}{v:Value}(h:R E (.mp b st) v):st<E.n∧v= .map (some (E.ρ st).blk):=by
 cases h with
 |mp _ _ h=>exact⟨h,rfl⟩
theorem R.iptr_inv{es:List (List V)}{i j:Nat}{v:Value}(h:R E (.iptr es i j) v): ∃p sz,v= .pointer (some ⟨p,sz,none⟩):=by
 cases h with
 |iptr _ _ _ p sz f=>exact⟨_,_,rfl⟩
theorem R.yld_inv{b st:Nat}{v:Value}(h:R E (.yld b st) v):st<E.n∧v= .func (.yield (E.ρ st).blk) #[] #[]:=by
 cases h with
 |yld _ _ h=>exact⟨h,rfl⟩
theorem R.fn_inv{f:FuncId}{cs:List V}{v:Value}(h:R E (.fn f cs) v): ∃vs:Array Value,v= .func (.func f) #[] vs∧RL E cs vs:=by
 cases h with
 |fn _ _ vs hl hR=>exact⟨vs,rfl,hl,hR⟩
end
theorem R.ptr_add{E:Env}{b st i j off:Nat}{a:Addr}(h:R E (.ptr b st i j) (.pointer (some a))):R E (.ptr b st i (j+off)) (.pointer (some (a.add off))):=by
 obtain⟨hst,ha⟩:=h.ptr_inv
 injection ha with ha
 injection ha with ha
 subst ha
 have:=R.ptr (E:=E) b st i (j+off) hst
 have e:(⟨(E.ρ st).blk,(E.ρ st).off+i*(E.ρ st).sz+j,none⟩:Addr).add off=⟨(E.ρ st).blk,(E.ρ st).off+i*(E.ρ st).sz+(j+off),none⟩:=by
  exact Ya
 rw [e];exact this
theorem R.iptr_add{E:Env}{es:List (List V)}{i j off:Nat}{a:Addr}(h:R E (.iptr es i j) (.pointer (some a))):R E (.iptr es i (j+off)) (.pointer (some (a.add off))):=by
 cases h with
 | iptr _ _ _ p sz f hp hrow hcell hR=>
  have:=R.iptr (E:=E) es i (j+off) p sz f hp hrow hcell hR
  have e:(⟨p.block,p.off+i*sz+j,none⟩:Addr).add off=⟨p.block,p.off+i*sz+(j+off),none⟩:=by
   exact Ya
  rw [e];exact this
theorem D5D{E:Env}{v:Value}{x:V}(h:cV v=some x):R E x v:=by
 unfold cV at h
 split at h<;>first|(cases h;done)|(injection h with h;subst h;first|exact .bool _|exact .int _ _|exact .str _|exact .nilp|exact .nils|exact .nilm|exact .cst _)
theorem D1O{v:Value}{x:V}(h:cV v=some x):v.oneCell'=true:=by
 unfold cV at h
 split at h<;>first|(cases h;done)|rfl
theorem C2N{E:Env}: ∀{l:List Value} {xs:List V},cVs l=some xs→xs.length=l.length∧(∀(i:Nat) c v,xs[i]? =some c→l[i]? =some v→R E c v)∧ ∀(i:Nat) v,l[i]? =some v→v.oneCell'=true
 | [],xs,h=>by simp [cVs]at h;subst h;simp
 | v::r,xs,h=>by
  simp only [cVs]at h
  split at h
  ·rename_i x ys h1 h2
   injection h with h
   subst h
   obtain⟨hl,hR,h3⟩:=C2N (E:=E) h2
   refine⟨by simp [hl],fun i c u hi hu=> ?_,fun i u hu=> ?_⟩
   ·cases i with
    |zero=>simp at hi hu;subst hi;subst hu;exact D5D h1
    |succ i=>exact hR i c u zW (by simpa using hu)
   ·cases i with
    |zero=>simp at hu;subst hu;exact D1O h1
    |succ i=>exact h3 i u (by simpa using hu)
  ·cases h
theorem D3O{z:Value}{zv:V}(h:zV z=some zv)(E:Env):R E zv z:=by
 unfold zV at h
 split at h
 ·rw [Option.map_eq_some_iff]at h
  obtain⟨cs,hcs,rfl⟩:=h
  obtain⟨h1,h2,h3⟩:=C2N (E:=E) hcs
  exact .agg _ _ (by simpa using h1) (fun i v hv=>h3 i v zt) (fun i c v hc hv=>h2 i c v hc zt)
 ·exact D5D h
def EvR(E:Env)(s:St)(η:Operand→Value):Prop:=(∀i,R E (E0 s.sl i) (η (.tmp i)))∧(∀v,η (.const v)=v)∧(∀f,η (.func f)= .func (.func f) #[] #[])∧(∀g,η (.global g)= .pointer (some ⟨g,0,none⟩))∧GlR E
theorem EvR.ev{E:Env}{s:St}{η:Operand→Value}(h:EvR E s η){x:Operand}{y:Opd}(hc:C3 x=some y):R E (s.ev y) (η x):=by
 cases x with
 |tmp i=>simp [C3]at hc;subst hc;exact h.1 i
 |const v=>
  simp only [C3,Option.map_eq_some_iff]at hc
  obtain⟨u,hu,rfl⟩:=hc
  rw [h.2.1]
  exact D3O hu E
 |func f=>
  simp [C3]at hc;subst hc
  rw [h.2.2.1]
  exact .fn f [] #[] rfl zg
 | global g=>
  simp only [C3]at hc
  split at hc
  ·rename_i hs
   injection hc with hc
   subst hc
   rw [h.2.2.2.1]
   simp only [St.ev,D0D]
   cases hg:B1Y B1N g with
   |none=>rw [hg]at hs;cases hs
   |some c=>exact h.2.2.2.2.val hg
  ·cases hc
theorem EvR.evs{E:Env}{s:St}{η:Operand→Value}(h:EvR E s η): ∀{xs:List Operand} {ys:List Opd},R9 xs=some ys→RL E (ys.map s.ev) (xs.map η).toArray
 | [],ys,hc=>by simp [R9]at hc;subst hc;exact⟨rfl,by simp⟩
 | x::r,ys,hc=>by
  simp only [R9]at hc
  split at hc
  ·rename_i y ys' h1 h2
   injection hc with hc
   subst hc
   obtain⟨hl,hR⟩:=EvR.evs h h2
   refine⟨by simpa using hl,fun i c v hi hv=> ?_⟩
   cases i with
   |zero=>simp at hi hv;subst hi;subst hv;exact h.ev h1
   |succ i=>exact hR i c v zW zt
  ·cases hc
theorem B1P{z:Int}(h1: -9223372036854775808≤z)(h2:z≤9223372036854775807):IntKind.i64.wrap z=z:=IntWalk.i64_in z ⟨h1,h2⟩
theorem B4z{E:Env}{j:IntKind}{z:Int}(h1:inR j z):R E (B7N j z) (.int j (j.wrap z)):=by
 cases j<;>first
  |(simp only [inR]at h1;rw [B1P h1.1 h1.2];exact .int _ _)
  |exact .int _ _
theorem A2T(s:List UInt8):(⟨⟨s⟩⟩:ByteArray).toList=s:=by
 exact ByteArray.toList_eq ⟨⟨s⟩⟩
theorem C6l(a b:Int):(a==b)=decide (a=b):=by rw [Bool.eq_iff_iff];simp
theorem D2b(a b:Int):(a !=b)=decide (¬a=b):=by rw [Bool.eq_iff_iff];simp
end
end Go.Abs
namespace Go.Abs
variable {PK:R8}
section
variable {P:Program} {k:Res} {w:World} {O:Nat→Prop} {ρ:Nat→Loc} {s:St} {η:Operand→Value} {o:Oper}
theorem C0M{x:Operand}{x':Opd}(ho:o.op= .move x∨o.op= .assign x)(hx:C3 x=some x')
  (hr:HeapR w O ρ s.n s.h) (he:EvR (A4 w O ρ s.n s.h) s η) (hk:A8 P PK (.mov x') s k):C4 P PK k w O ρ s.h s.n ((execOp η o).run P w):=by
 have h:(execOp η o).run P w= .ok (.value (η x)) w:=by rcases ho with ho|ho<;>simp [execOp,ho]
 rw [h]
 exact C4.val hr hk (he.ev hx)
theorem C7Q{c a b:Operand}{c' a' b':Opd}(ho:o.op= .pick c a b)(hc:C3 c=some c')(ha:C3 a=some a')(hb:C3 b=some b')
  (hr:HeapR w O ρ s.n s.h) (he:EvR (A4 w O ρ s.n s.h) s η) (hk:A8 P PK (.pick c' a' b') s k):C4 P PK k w O ρ s.h s.n ((execOp η o).run P w):=by
 obtain⟨r,h1,h2⟩:=G8 hk
 have hc:=he.ev hc
 have ha:=he.ev ha
 have hb:=he.ev hb
 generalize s.ev c'=vc at*
 generalize s.ev a'=va at*
 generalize s.ev b'=vb at*
 unfold C0o at h1
 split at h1
 ·injection h1 with h1
  subst h1
  rename_i t x y
  have e1:=hc.bool_inv
  have e2:=ha.bool_inv
  have e3:=hb.bool_inv
  have h:(execOp η o).run P w= .ok (.value (.bool (bif t then x else y))) w:=by
   cases t<;>simp [execOp,ho,asBool,e1,e2,e3]
  rw [h]
  exact C4.val hr h2 (.bool _)
 ·injection h1 with h1
  subst h1
  rename_i t _
  have e1:=hc.bool_inv
  have h:(execOp η o).run P w= .ok (.value (bif t then η a else η b)) w:=by
   cases t<;>simp [execOp,ho,asBool,e1]
  rw [h]
  refine C4.val hr h2 ?_
  cases t
  ·exact hb
  ·exact ha
 ·cases h1
theorem C5v{x:Operand}{x':Opd}(ho:o.op= .nilCheck x)(hx:C3 x=some x')
  (hr:HeapR w O ρ s.n s.h) (he:EvR (A4 w O ρ s.n s.h) s η) (hk:A8 P PK (.nilck x') s k):C4 P PK k w O ρ s.h s.n ((execOp η o).run P w):=by
 obtain⟨r,h1,h2⟩:=G8 hk
 have hx:=he.ev hx
 generalize s.ev x'=vx at*
 unfold B5w at h1
 have hr':r=vx:=by split at h1<;>first|(cases h1;done)|(injection h1 with h1;exact h1.symm)
 subst hr'
 have h:(execOp η o).run P w= .ok (.value (η x)) w:=by
  split at h1
  ·have:=hx.ptr_inv.2
   rw [this];simp [execOp,ho,this]
  ·obtain⟨p,q,hp⟩:=hx.iptr_inv
   rw [hp];simp [execOp,ho,hp]
  ·obtain⟨vs,hv,_⟩:=hx.fn_inv
   rw [hv];simp [execOp,ho,hv]
  ·cases h1
 rw [h]
 exact C4.val hr h2 hx
theorem C0J{x:Operand}{x':Opd}{i:Nat}(ho:o.op= .extract x i)(hx:C3 x=some x')
  (hr:HeapR w O ρ s.n s.h) (he:EvR (A4 w O ρ s.n s.h) s η) (hk:A8 P PK (.ext i x') s k):C4 P PK k w O ρ s.h s.n ((execOp η o).run P w):=by
 obtain⟨r,h1,h2⟩:=G8 hk
 have hx:=he.ev hx
 generalize s.ev x'=vx at*
 unfold C6s at h1
 split at h1
 ·rename_i vs
  obtain⟨us,hu,hl,hR⟩:=hx.tup_inv
  have hi:i<us.size:=by have:=(List.getElem?_eq_some_iff.1 h1).1;omega
  have h:(execOp η o).run P w= .ok (.value us[i]) w:=by
   simp [execOp,ho,Instr.extract,hu,hi]
  rw [h]
  exact C4.val hr h2 (hR i r us[i] h1 (by simp [hi]))
 ·cases h1
theorem C7H{x:Operand}{x':Opd}{a b:TypeId}{j:IntKind}{d:TypeDesc}(ho:o.op= .convert a b x)(hd:P.underlying a=some d)(hb:P.underlying b=some (.int j))(hx:C3 x=some x')
  (hr:HeapR w O ρ s.n s.h) (he:EvR (A4 w O ρ s.n s.h) s η) (hk:A8 P PK (.conv j x') s k):C4 P PK k w O ρ s.h s.n ((execOp η o).run P w):=by
 obtain⟨r,h1,h2⟩:=G8 hk
 have hx:=he.ev hx
 generalize s.ev x'=vx at*
 unfold B9r at h1
 split at h1
 ·injection h1 with h1
  subst h1
  rename_i _ z
  have e:=hx.int_inv
  have h:(execOp η o).run P w= .ok (.value (.int j (j.wrap z))) w:=by
   simp [execOp,ho,convert,run_underlying hd,run_underlying hb,e,Conv.intToInt]
  rw [h]
  exact C4.val hr h2 (.int _ _)
 ·cases h1
theorem D3l{x:Operand}{x':Opd}{t:TypeId}{op:UnOp}(ho:o.op= .unOp op t x)(hx:C3 x=some x')
  (hr:HeapR w O ρ s.n s.h) (he:EvR (A4 w O ρ s.n s.h) s η) (hk:A8 P PK (.un op x') s k):C4 P PK k w O ρ s.h s.n ((execOp η o).run P w):=by
 have hx:=he.ev hx
 simp only [A8]at hk
 generalize s.ev x'=vx at*
 unfold unK at hk
 split at hk
 ·rename_i j a
  have e:=hx.int_inv
  have h:(execOp η o).run P w= .ok (.value (.int j (j.wrap (0-a)))) w:=by
   simp [execOp,ho,Op.unary,Op.intArith,e]
  rw [h]
  exact C4.val hr hk.2 (B4z hk.1)
 ·rename_i b
  have e:=hx.bool_inv
  have h:(execOp η o).run P w= .ok (.value (.bool !b)) w:=by
   simp [execOp,ho,Op.unary,e]
  rw [h]
  exact YW
 ·rename_i j a
  have e:=hx.int_inv
  have h:(execOp η o).run P w= .ok (.value (.int j (A2c .xor j (bif j.signed then -1 else j.max) a))) w:=by
   cases hs:j.signed<;>simp [execOp,ho,Op.unary,Op.intBits,A2c,e,hs]
  rw [h]
  exact Kp
 ·exact XJ
theorem C7P{x:Operand}{x':Opd}{t:TypeId}(ho:o.op= .unOp .neg t x)(hx:C3 x=some x')
  (hr:HeapR w O ρ s.n s.h) (he:EvR (A4 w O ρ s.n s.h) s η) (hk:A8 P PK (.negw x') s k):C4 P PK k w O ρ s.h s.n ((execOp η o).run P w):=by
 have hx:=he.ev hx
 simp only [A8]at hk
 generalize s.ev x'=vx at*
 unfold B7p at hk
 split at hk
 ·rename_i j a
  have e:=hx.int_inv
  have h:(execOp η o).run P w= .ok (.value (.int j (j.wrap (0-a)))) w:=by
   simp [execOp,ho,Op.unary,Op.intArith,e]
  rw [h]
  exact Kp
 ·exact XJ
theorem C7N{f:FuncId}{xs:Array Operand}{xs':List Opd}(ho:o.op= .makeFunc (.func f) #[] xs)(hx:R9 xs.toList=some xs')
  (hr:HeapR w O ρ s.n s.h) (he:EvR (A4 w O ρ s.n s.h) s η) (hk:A8 P PK (.mkfn f xs') s k):C4 P PK k w O ρ s.h s.n ((execOp η o).run P w):=by
 have h:(execOp η o).run P w= .ok (.value (.func (.func f) #[] (xs.toList.map η).toArray)) w:=by
  simp [execOp,ho,Instr.makeFunc]
  apply Array.ext';simp
 rw [h]
 obtain⟨hl,hR⟩:=he.evs hx
 exact C4.val hr hk (.fn f _ _ hl hR)
theorem C5o{x:Operand}{x':Opd}{t:TypeId}{i:Nat}{fs:Array Field}{f:Field}{ti:TypeInfo}(ho:o.op= .fieldAddr t x i)(ht:P.underlying t=some (.struct fs))(hf:fs[i]? =some f)
  (hi:P.info? f.type=some ti) (hz:ti.size≠0) (hx:C3 x=some x')
  (hr:HeapR w O ρ s.n s.h) (he:EvR (A4 w O ρ s.n s.h) s η) (hk:A8 P PK (.faddr f.offset x') s k):C4 P PK k w O ρ s.h s.n ((execOp η o).run P w):=by
 obtain⟨r,h1,h2⟩:=G8 hk
 have hx:=he.ev hx
 generalize s.ev x'=vx at*
 have key: ∀a:Addr,η x= .pointer (some a)→(execOp η o).run P w= .ok (.value (.pointer (some (a.add f.offset)))) w:=by
  intro a ha
  simp [execOp,ho,Instr.fieldAt,run_underlying ht,hf,Instr.sureAddr,ha,fieldPlace,sizeOf,typeInfo,hi,hz]
 unfold B4Y at h1
 split at h1
 ·injection h1 with h1
  subst h1
  have e:=hx.ptr_inv.2
  rw [key _ e]
  rw [e]at hx
  exact C4.val hr h2 hx.ptr_add
 ·injection h1 with h1
  subst h1
  obtain⟨p,q,e⟩:=hx.iptr_inv
  rw [key _ e]
  rw [e]at hx
  exact C4.val hr h2 hx.iptr_add
 ·cases h1
theorem C2u{x i:Operand}{x' i':Opd}{t e:TypeId}{len:Nat}{ti:TypeInfo}(ho:o.op= .indexAddr t x i)(ht:P.underlying t=some (.array len e))(hti:P.info? e=some ti)
  (hx:C3 x=some x') (hi:C3 i=some i')
  (hr:HeapR w O ρ s.n s.h) (he:EvR (A4 w O ρ s.n s.h) s η) (hk:A8 P PK (.iaddrA len ti.size x' i') s k):C4 P PK k w O ρ s.h s.n ((execOp η o).run P w):=by
 have hx:=he.ev hx
 have hi:=he.ev hi
 simp only [A8]at hk
 generalize s.ev x'=vx at*
 generalize s.ev i'=vi at*
 unfold A1M at hk
 split at hk
 ·rename_i j z
  have ei:=hi.int_inv
  have key: ∀a:Addr,η x= .pointer (some a)→0≤z→z<len→(execOp η o).run P w= .ok (.value (.pointer (some (a.add (z.toNat*ti.size))))) w:=by
   intro a ha h0 h1
   simp [execOp,ho,Instr.indexAt,run_underlying ht,ei,ha,asIntOf,Instr.sureAddr,h0,h1,sizeOf,typeInfo,hti]
  split at hk
  ·obtain⟨h0,h1,h2⟩:=hk
   have e:=hx.ptr_inv.2
   rw [key _ e h0 h1]
   rw [e]at hx
   exact C4.val hr h2 hx.ptr_add
  ·obtain⟨h0,h1,h2⟩:=hk
   obtain⟨p,q,e⟩:=hx.iptr_inv
   rw [key _ e h0 h1]
   rw [e]at hx
   exact C4.val hr h2 hx.iptr_add
  ·exact XJ
 ·exact XJ
theorem O2{op:BinOp}{t:TypeId}{x y:Operand}{a b:Value}(h: ∀cs cs',a= .agg cs→b= .agg cs'→False)(h':a= .nilIface→b= .nilIface→False):
  (eqGuard op t x y a b).run P w= .ok () w:=by
 have key:eqGuard op t x y a b=pure ():=by
  unfold eqGuard
  cases a<;>first
   |(cases b<;>first|(exact(h' rfl rfl).elim)|(exact(h _ _ rfl rfl).elim)|(cases op<;>rfl))
 rw [key];rfl
theorem B1f(a b:List UInt8):(((⟨⟨a⟩⟩:ByteArray).toList)==(⟨⟨b⟩⟩:ByteArray).toList)=decide (a=b):=by
 rw [A2T,A2T,Bool.eq_iff_iff];simp
theorem B5u(a b:List UInt8):(a==b)=decide (a=b):=by rw [Bool.eq_iff_iff];simp
theorem B9h(a b:Bool):(a==b)=decide (a=b):=by cases a<;>cases b<;>rfl
theorem C7E{x y:Operand}{x' y':Opd}{t t':TypeId}{op:BinOp}(ho:o.op= .binOp op t x y t')
  (hx:C3 x=some x') (hy:C3 y=some y')
  (hr:HeapR w O ρ s.n s.h) (he:EvR (A4 w O ρ s.n s.h) s η) (hk:A8 P PK (.binw op x' y') s k):C4 P PK k w O ρ s.h s.n ((execOp η o).run P w):=by
 have hx:=he.ev hx
 have hy:=he.ev hy
 simp only [A8]at hk
 generalize s.ev x'=vx at*
 generalize s.ev y'=vy at*
 have run: ∀v,(eqGuard op t x y (η x) (η y)).run P w= .ok () w→(binOp op t (η x) (η y)).run P w= .ok v w→(execOp η o).run P w= .ok (.value v) w:=by
  intro v h0 h1
  simp [execOp,ho,h0,h1]
 unfold B4C at hk
 split at hk
 ·rename_i j a j' b
  have e1:=hx.int_inv
  have e2:=hy.int_inv
  have g:(eqGuard op t x y (η x) (η y)).run P w= .ok () w:=by rw [e1,e2];exact O2 zg zg
  have ar: ∀z,(binOp op t (.int j a) (.int j' b)).run P w= .ok (.int j (j.wrap z)) w→k (.int j (j.wrap z)) s.h s.n→C4 P PK k w O ρ s.h s.n ((execOp η o).run P w):=by
   intro z hb hk
   rw [run _ g Qi]
   exact Kp
  split at hk
  ·exact Yp
  ·exact Yp
  ·exact Yp
  ·exact XJ
 ·exact XJ
theorem C3u{x y:Operand}{x' y':Opd}{t t':TypeId}{op:BinOp}(ho:o.op= .binOp op t x y t')
  (hx:C3 x=some x') (hy:C3 y=some y')
  (hr:HeapR w O ρ s.n s.h) (he:EvR (A4 w O ρ s.n s.h) s η) (hk:A8 P PK (.bin op x' y') s k):C4 P PK k w O ρ s.h s.n ((execOp η o).run P w):=by
 have hx:=he.ev hx
 have hy:=he.ev hy
 simp only [A8]at hk
 generalize s.ev x'=vx at*
 generalize s.ev y'=vy at*
 have run: ∀v,(eqGuard op t x y (η x) (η y)).run P w= .ok () w→(binOp op t (η x) (η y)).run P w= .ok v w→(execOp η o).run P w= .ok (.value v) w:=by
  intro v h0 h1
  simp [execOp,ho,h0,h1]
 unfold V5 at hk
 split at hk
 ·rename_i j a j' b
  obtain⟨rfl,hk⟩:=hk
  have e1:=hx.int_inv
  have e2:=hy.int_inv
  have g:(eqGuard op t x y (η x) (η y)).run P w= .ok () w:=by rw [e1,e2];exact O2 zg zg
  have ar: ∀z,inR j z→(binOp op t (.int j a) (.int j b)).run P w= .ok (.int j (j.wrap z)) w→k (B7N j z) s.h s.n→C4 P PK k w O ρ s.h s.n ((execOp η o).run P w):=by
   intro z hz hb hk
   rw [run _ g Qi]
   exact C4.val hr hk (B4z hz)
  have bo: ∀c,(binOp op t (.int j a) (.int j b)).run P w= .ok (.bool c) w→k (.bool c) s.h s.n→C4 P PK k w O ρ s.h s.n ((execOp η o).run P w):=by
   intro c hb hk
   rw [run _ g Qi]
   exact YW
  cases op<;>try exact hk.elim
  case add=>exact ar _ hk.1 zK hk.2
  case sub=>exact ar _ hk.1 zK hk.2
  case mul=>exact ar _ hk.1 zK hk.2
  case quo=>exact ar _ hk.2.1 (by simp [binOp,Op.intDiv,hk.1]) hk.2.2
  case rem=>
   rw [run (.int j (a.tmod b)) g (by rw [e1,e2];simp [binOp,Op.intDiv,hk.1])]
   exact C4.val hr hk.2 (.int _ _)
  case eql=>exact bo _ (by simp [binOp,Op.intCmp,C6l]) hk
  case neq=>exact bo _ (by simp [binOp,Op.intCmp,D2b]) hk
  case lss=>exact bo _ Qj hk
  case leq=>exact bo _ Qj hk
  case gtr=>exact bo _ Qj hk
  case geq=>exact bo _ Qj hk
  case and=>rw [run (.int j (A2c .and j a b)) g Qk];exact C4.val hr hk (.int _ _)
  case or=>rw [run (.int j (A2c .or j a b)) g Qk];exact C4.val hr hk (.int _ _)
  case xor=>rw [run (.int j (A2c .xor j a b)) g Qk];exact C4.val hr hk (.int _ _)
  case andNot=>rw [run (.int j (A2c .andNot j a b)) g Qk];exact C4.val hr hk (.int _ _)
 ·rename_i a b
  have e1:=hx.str_inv
  have e2:=hy.str_inv
  have g:(eqGuard op t x y (η x) (η y)).run P w= .ok () w:=by rw [e1,e2];exact O2 zg zg
  have bo: ∀c,(binOp op t (.string ⟨⟨a⟩⟩) (.string ⟨⟨b⟩⟩)).run P w= .ok (.bool c) w→k (.bool c) s.h s.n→C4 P PK k w O ρ s.h s.n ((execOp η o).run P w):=by
   intro c hb hk
   rw [run _ g Qi]
   exact YW
  cases op<;>try exact hk.elim
  case add=>
   have hs: ¬(((⟨⟨a⟩⟩:ByteArray).size+(⟨⟨b⟩⟩:ByteArray).size:Nat):Int)>IntKind.i64.max:=by
    show¬((a.length+b.length:Nat):Int)>9223372036854775807
    have:=hk.1
    omega
   have e:(⟨⟨a⟩⟩++⟨⟨b⟩⟩:ByteArray)=⟨⟨a++b⟩⟩:=by
    apply ByteArray.ext
    simp
   rw [run (.string ⟨⟨a++b⟩⟩) g (by rw [e1,e2];simp only [binOp,Op.stringOp,if_neg hs,Sem.run_pure,e])]
   exact C4.val hr hk.2 (.str _)
  case eql=>exact bo _ (by simp only [binOp,Op.stringOp,B1f,Sem.run_pure]) hk
  case neq=>exact bo _ (by simp only [binOp,Op.stringOp,B1f,Sem.run_pure];simp) hk
  case lss=>exact bo _ (by simp only [binOp,Op.stringOp,A2T,Sem.run_pure,O8]) hk
  case geq=>exact bo _ (by simp only [binOp,Op.stringOp,A2T,Sem.run_pure,O8]) hk
  case leq=>exact bo _ (by simp only [binOp,Op.stringOp,A2T,Sem.run_pure,O8,B5u]) hk
  case gtr=>exact bo _ (by simp only [binOp,Op.stringOp,A2T,Sem.run_pure,O8,B5u]) hk
 ·exact XJ
theorem D3k{x y:Operand}{x' y':Opd}{t t':TypeId}{left:Bool}(ho:o.op= .binOp (if left then .shl else .shr) t x y t')
  (hx:C3 x=some x') (hy:C3 y=some y')
  (hr:HeapR w O ρ s.n s.h) (he:EvR (A4 w O ρ s.n s.h) s η) (hk:A8 P PK (.sh left x' y') s k):C4 P PK k w O ρ s.h s.n ((execOp η o).run P w):=by
 have hx:=he.ev hx
 have hy:=he.ev hy
 simp only [A8]at hk
 generalize s.ev x'=vx at*
 generalize s.ev y'=vy at*
 unfold shK at hk
 split at hk
 ·rename_i j a j' b
  obtain⟨hb,hk⟩:=hk
  have e1:=hx.int_inv
  have e2:=hy.int_inv
  have hnb: ¬b<0:=by omega
  have g:(eqGuard (if left then .shl else .shr) t x y (η x) (η y)).run P w= .ok () w:=by rw [e1,e2];exact O2 zg zg
  have hb:(binOp (if left then .shl else .shr) t (.int j a) (.int j' b)).run P w= .ok (.int j (shZ left j a b)) w:=by
   cases left<;>simp [binOp,Op.shift,hnb,shZ]
  have:(execOp η o).run P w= .ok (.value (.int j (shZ left j a b))) w:=by
   rw [e1,e2]at g
   simp [execOp,ho,e1,e2,g,hb]
  rw [this]
  exact Kp
 ·exact XJ
theorem I7{t:TypeId}{x y:Value}{c:Bool}(h: ∀d,(Op.equalIn (d+1) t x y).run P w= .ok c w):(Op.equal t x y).run P w= .ok c w:=h 9999
theorem S2{t e:TypeId}(hd:P.underlying t=some (.pointer e))(b:Option Addr):(Op.equal t (.pointer none) (.pointer b)).run P w= .ok b.isNone w:=
 I7 fun d=>by simp [Op.equalIn,run_underlying hd]
theorem A0D{t e:TypeId}(hd:P.underlying t=some (.pointer e))(a:Addr):(Op.equal t (.pointer (some a)) (.pointer none)).run P w= .ok false w:=
 I7 fun d=>by simp [Op.equalIn,run_underlying hd]
theorem B2F{t e u:TypeId}(hd:P.underlying t=some (.map e u))(b:Option Nat):(Op.equal t (.map none) (.map b)).run P w= .ok b.isNone w:=
 I7 fun d=>by simp [Op.equalIn,run_underlying hd]
theorem A0C{t e u:TypeId}(hd:P.underlying t=some (.map e u))(a:Nat):(Op.equal t (.map (some a)) (.map none)).run P w= .ok false w:=
 I7 fun d=>by simp [Op.equalIn,run_underlying hd]
theorem C0x{t:TypeId}(hd:P.underlying t=some .bool)(a b:Bool):(Op.equal t (.bool a) (.bool b)).run P w= .ok (a==b) w:=
 I7 fun d=>by simp [Op.equalIn,run_underlying hd]
theorem B2D{t:TypeId}{ms}(hd:P.underlying t=some (.interface ms)):(Op.equal t .nilIface .nilIface).run P w= .ok true w:=
 I7 fun d=>by simp [Op.equalIn,run_underlying hd]
theorem B2E{t:TypeId}{ms}(hd:P.underlying t=some (.interface ms))(a:TypeId)(v:Value):(Op.equal t (.iface a v) .nilIface).run P w= .ok false w:=
 I7 fun d=>by simp [Op.equalIn,run_underlying hd]
theorem R.err_inv{E:Env}{v:Value}(h:R E .err v): ∃t x,v= .iface t x:=by cases h;exact⟨_,_,rfl⟩
theorem R.nilI_inv{E:Env}{u v:Value}(h:R E (.cst u) v):v=u:=by cases h;rfl
theorem C9Q{x:Operand}{x':Opd}(ho:o.op= .panic x)(hx:C3 x=some x')
  (hr:HeapR w O ρ s.n s.h) (he:EvR (A4 w O ρ s.n s.h) s η) (hk:A8 P PK (.pan x') s k):C4 P PK k w O ρ s.h s.n ((execOp η o).run P w):=by
 have hx:=he.ev hx
 simp only [A8]at hk
 generalize s.ev x'=vx at*
 unfold C9r at hk
 split at hk
 ·rename_i t u
  have e:=hx.cst_inv
  have h3:(execOp η o).run P w= .halt (.panic (.iface t u)) w:=by
   simp [execOp,ho,e,Instr.panic,goPanic]
  rw [h3]
  exact⟨rfl,hk⟩
 ·exact XJ
theorem C5q{x:Operand}{x':Opd}{t t':TypeId}{neg:Bool}{ms}(ho:o.op= .binOp (if neg then .neq else .eql) t x (.const .nilIface) t')(hd:P.underlying t=some (.interface ms))(hx:C3 x=some x')
  (hr:HeapR w O ρ s.n s.h) (he:EvR (A4 w O ρ s.n s.h) s η) (hk:A8 P PK (.isnil neg x') s k) (hc:η (.const .nilIface)= .nilIface):C4 P PK k w O ρ s.h s.n ((execOp η o).run P w):=by
 obtain⟨r,h1,h2⟩:=G8 hk
 have hx:=he.ev hx
 generalize s.ev x'=vx at*
 unfold B5g at h1
 split at h1
 ·injection h1 with h1
  subst h1
  have e:=hx.nilI_inv
  have h3:(execOp η o).run P w= .ok (.value (.bool !neg)) w:=by
   have:=B2D (w:=w) hd
   cases neg<;>simp [execOp,ho,e,hc,eqGuard,binOp,this]
  rw [h3]
  exact C4.val hr h2 (.bool _)
 ·injection h1 with h1
  subst h1
  rename_i a v
  have e:=hx.nilI_inv
  exact XN
 ·injection h1 with h1
  subst h1
  obtain⟨a,v,e⟩:=hx.err_inv
  exact XN
 ·cases h1
theorem B8E{t e:TypeId}(hd:P.underlying t=some (.slice e))(a:Option Addr)(l c:Nat):(Op.equal t (.slice a l c) (.slice none 0 0)).run P w= .ok a.isNone w:=
 I7 fun d=>by cases a<;>simp [Op.equalIn,run_underlying hd]
theorem B8C{t:TypeId}{ps rs v}(hd:P.underlying t=some (.func ps rs v))(f:Fn)(a b:Array Value):(Op.equal t (.func f a b) .nilFunc).run P w= .ok false w:=
 I7 fun d=>by simp [Op.equalIn,run_underlying hd]
theorem B8D{t:TypeId}{ps rs v}(hd:P.underlying t=some (.func ps rs v)):(Op.equal t .nilFunc .nilFunc).run P w= .ok true w:=
 I7 fun d=>by simp [Op.equalIn,run_underlying hd]
theorem C7J{x:Operand}{x':Opd}{t t' e:TypeId}{neg:Bool}(ho:o.op= .binOp (if neg then .neq else .eql) t x (.const (.slice none 0 0)) t')(hd:P.underlying t=some (.slice e))(hx:C3 x=some x')
  (hr:HeapR w O ρ s.n s.h) (he:EvR (A4 w O ρ s.n s.h) s η) (hk:A8 P PK (.eqn false neg x') s k) (hc:η (.const (.slice none 0 0))= .slice none 0 0):C4 P PK k w O ρ s.h s.n ((execOp η o).run P w):=by
 have hk:A6u false neg (s.ev x') k s.h s.n:=hk
 have hx:=he.ev hx
 generalize s.ev x'=vx at*
 have fin: ∀(a:Option Addr) (l c:Nat),η x= .slice a l c→k (.bool (if a.isNone then !neg else neg)) s.h s.n→C4 P PK k w O ρ s.h s.n ((execOp η o).run P w):=by
  intro a l c e hk
  have h3:(execOp η o).run P w= .ok (.value (.bool (if a.isNone then !neg else neg))) w:=by
   have:=B8E (P:=P) (w:=w) hd a l c
   cases neg<;>cases a<;>simp [execOp,ho,e,hc,eqGuard,binOp,this]<;>simp_all
  rw [h3]
  exact YW
 unfold A6u at hk
 split at hk
 ·exact fin none 0 0 hx.nils_inv hk
 ·rename_i es
  cases hx':η x with
  | slice a l c=>
   refine fin a l c hx' ?_
   rw [hx']at hx
   cases hx with
   |isl=>exact hk.1
   |isl0=>
    split
    ·exact hk.2 rfl
    ·exact hk.1
  |_=>rw [hx']at hx;cases hx
 ·rename_i b st i m
  cases hx':η x with
  | slice a l c=>
   refine fin a l c hx' ?_
   rw [hx']at hx
   cases hx with
   |sl=>exact hk.1
   |sl0=>
    split
    ·exact hk.2 rfl
    ·exact hk.1
  |_=>rw [hx']at hx;cases hx
 all_goals first|exact hk.elim|(rename_i e;cases e)
theorem C7I{x:Operand}{x':Opd}{t t':TypeId}{neg:Bool}{ps rs v}(ho:o.op= .binOp (if neg then .neq else .eql) t x (.const .nilFunc) t')(hd:P.underlying t=some (.func ps rs v))(hx:C3 x=some x')
  (hr:HeapR w O ρ s.n s.h) (he:EvR (A4 w O ρ s.n s.h) s η) (hk:A8 P PK (.eqn true neg x') s k) (hc:η (.const .nilFunc)= .nilFunc):C4 P PK k w O ρ s.h s.n ((execOp η o).run P w):=by
 have hk:A6u true neg (s.ev x') k s.h s.n:=hk
 have hx:=he.ev hx
 generalize s.ev x'=vx at*
 unfold A6u at hk
 split at hk
 ·rename_i e;cases e
 ·rename_i e;cases e
 ·rename_i e;cases e
 ·rename_i f cs _
  obtain⟨vs,hv,_⟩:=hx.fn_inv
  have h3:(execOp η o).run P w= .ok (.value (.bool neg)) w:=by
   have:=B8C (P:=P) (w:=w) hd (.func f) #[] vs
   cases neg<;>simp [execOp,ho,hv,hc,eqGuard,binOp,this]
  rw [h3]
  exact YW
 ·have hv:=hx.nilI_inv
  have h3:(execOp η o).run P w= .ok (.value (.bool !neg)) w:=by
   have:=B8D (P:=P) (w:=w) hd
   cases neg<;>simp [execOp,ho,hv,hc,eqGuard,binOp,this]
  rw [h3]
  exact YW
 ·exact XJ
theorem B8I{x y:Operand}{x' y':Opd}{t t':TypeId}{neg:Bool}{kind:Nat}{d:TypeDesc}(ho:o.op= .binOp (if neg then .neq else .eql) t x y t')(hd:P.underlying t=some d)
  (hp:(kind=0∧ ∃e,d= .pointer e)∨(kind=1∧ ∃e u,d= .map e u)∨(kind=2∧d= .bool))
  (hx:C3 x=some x') (hy:C3 y=some y')
  (hr:HeapR w O ρ s.n s.h) (he:EvR (A4 w O ρ s.n s.h) s η) (hk:A8 P PK (.eqp kind neg x' y') s k):C4 P PK k w O ρ s.h s.n ((execOp η o).run P w):=by
 have hx:=he.ev hx
 have hy:=he.ev hy
 obtain⟨r,h1,h2⟩:=G8 hk
 generalize s.ev x'=vx at*
 generalize s.ev y'=vy at*
 cases hkind:B3E kind vx with
 |false=>rw [hkind]at h1;cases h1
 | true=>
  rw [hkind,cond_true]at h1
  have fin: ∀c,(Op.equal t (η x) (η y)).run P w= .ok c w→(eqGuard (if neg then .neq else .eql) t x y (η x) (η y)).run P w= .ok () w→
    (binOp (if neg then .neq else .eql) t (η x) (η y)).run P w= .ok (.bool (if neg then !c else c)) w→r= .bool (if neg then !c else c)→C4 P PK k w O ρ s.h s.n ((execOp η o).run P w):=by
   intro c _ h0 h3 h4
   have:(execOp η o).run P w= .ok (.value (.bool (if neg then !c else c))) w:=by simp [execOp,ho,h0,h3]
   rw [this]
   subst h4
   exact C4.val hr h2 (.bool _)
  rcases hp with⟨rfl,e,rfl⟩|⟨rfl,e,u,rfl⟩|⟨rfl,rfl⟩
  ·have hcase:(∃c,(Op.equal t (η x) (η y)).run P w= .ok c w∧r= .bool (if neg then !c else c))∧(∃a,η x= .pointer a)∧ ∃b,η y= .pointer b:=by
    unfold C1w at h1
    split at h1<;>first|(cases h1;done)|(simp [B3E]at hkind;done)|skip
    ·injection h1 with h1
     rw [hx.nilp_inv,hy.nilp_inv]
     exact YI
    ·injection h1 with h1
     rw [hx.ptr_inv.2,hy.nilp_inv]
     exact JE
    ·injection h1 with h1
     rw [hy.ptr_inv.2,hx.nilp_inv]
     exact JE
    ·injection h1 with h1
     obtain⟨p,q,hpq⟩:=hx.iptr_inv
     rw [hpq,hy.nilp_inv]
     exact JE
    ·injection h1 with h1
     obtain⟨p,q,hpq⟩:=hy.iptr_inv
     rw [hpq,hx.nilp_inv]
     exact JE
   exact Xn
  ·have hcase:(∃c,(Op.equal t (η x) (η y)).run P w= .ok c w∧r= .bool (if neg then !c else c))∧(∃a,η x= .map a)∧ ∃b,η y= .map b:=by
    unfold C1w at h1
    split at h1<;>first|(cases h1;done)|(simp [B3E]at hkind;done)|skip
    ·injection h1 with h1
     rw [hx.nilm_inv,hy.nilm_inv]
     exact YI
    ·injection h1 with h1
     rw [hx.mp_inv.2,hy.nilm_inv]
     exact JE
   exact Xn
  ·have hcase:(∃c,(Op.equal t (η x) (η y)).run P w= .ok c w∧r= .bool (if neg then !c else c))∧(∃a,η x= .bool a)∧ ∃b,η y= .bool b:=by
    unfold C1w at h1
    split at h1<;>first|(cases h1;done)|(simp [B3E]at hkind;done)|skip
    ·injection h1 with h1
     rw [hx.bool_inv,hy.bool_inv]
     rename_i a b
     exact⟨⟨a==b,C0x hd _ _,by cases neg<;>cases a<;>cases b<;>simpa using h1.symm⟩,⟨_,rfl⟩,⟨_,rfl⟩⟩
   exact Xn
end
end Go.Abs
namespace Go.Abs
variable {PK:R8}
section
variable {P:Program} {k:Res} {w:World} {O:Nat→Prop} {ρ:Nat→Loc} {s:St} {η:Operand→Value} {o:Oper}
theorem D2G{b st:Nat}{es:List (V×V)}{h:A2}{n:Nat}(hr:HeapR w O ρ n h)(hg:A2.get h b st=some (.map es)):
  ∃(mes:Array MapEntry) (clock:Nat),w.heap[(ρ st).blk]? =some (.map mes clock)∧mes.size=es.length∧
   (∀(i:Nat) p m,es[i]? =some p→mes[i]? =some m→R (A4 w O ρ n h) p.1 m.key∧R (A4 w O ρ n h) p.2 m.val∧m.born<clock)∧
   (∀(i j:Nat) m m',mes[i]? =some m→mes[j]? =some m'→m.born=m'.born→i=j):=(hr.blk _ (A2.mem_of_get hg)).2
theorem R.sl_inv{E:Env}{b st i m:Nat}{v:Value}(h:R E (.sl b st i m) v): ∃p c,v= .slice p m c:=by
 cases h with
 |sl _ _ _ _ cap=>exact⟨_,_,rfl⟩
 |sl0 _ _ _ a=>exact⟨_,_,rfl⟩
theorem R.isl_inv{E:Env}{es:List (List V)}{v:Value}(h:R E (.isl es) v): ∃p c,v= .slice p es.length c:=by
 cases h with
 |isl=>exact⟨_,_,rfl⟩
 |isl0 a cap=>exact⟨_,_,rfl⟩
theorem B8J{x:Operand}{x':Opd}{t:TypeId}{kind:Nat}{d:TypeDesc}(ho:o.op= .call {callee:= .builtin .len,args:= #[x],argTypes:= #[t]})(hd:P.underlying t=some d)
  (hp:(kind=0∧ ∃e,d= .slice e)∨(kind=1∧d= .string)∨(kind=2∧ ∃e u,d= .map e u)) (hx:C3 x=some x')
  (hr:HeapR w O ρ s.n s.h) (he:EvR (A4 w O ρ s.n s.h) s η) (hk:A8 P PK (.len kind x') s k):C4 P PK k w O ρ s.h s.n ((execOp η o).run P w):=by
 obtain⟨r,h1,h2⟩:=G8 hk
 have hx:=he.ev hx
 generalize s.ev x'=vx at*
 have fin: ∀z:Int,(Builtin.len_ #[t] o.type #[η x]).run P w= .ok (goInt z) w→r= .int .i64 z→C4 P PK k w O ρ s.h s.n ((execOp η o).run P w):=by
  intro z h e
  have:(execOp η o).run P w= .ok (.value (.int .i64 z)) w:=by simp [execOp,ho,resolve,invoke,builtin,h,goInt]
  rw [this]
  subst e
  exact C4.val hr h2 (.int _ _)
 unfold C6P at h1
 rcases hp with⟨rfl,e,rfl⟩|⟨rfl,rfl⟩|⟨rfl,e,u,rfl⟩
 ·split at h1<;>first|(cases h1;done)|(simp_all;done)|skip
  ·injection h1 with h1
   obtain⟨p,c,hv⟩:=hx.sl_inv
   exact fin _ (by rw [hv];simp [Builtin.len_,run_underlying hd]) h1.symm
  ·injection h1 with h1
   obtain⟨p,c,hv⟩:=hx.isl_inv
   exact fin _ (by rw [hv];simp [Builtin.len_,run_underlying hd]) h1.symm
  ·injection h1 with h1
   exact fin 0 (by rw [hx.nils_inv];simp [Builtin.len_,run_underlying hd]) h1.symm
 ·split at h1<;>first|(cases h1;done)|(simp_all;done)|skip
  ·injection h1 with h1
   exact fin _ (by rw [hx.str_inv];simp [Builtin.len_,run_underlying hd];rfl) h1.symm
 ·split at h1<;>first|(cases h1;done)|(simp_all;done)|skip
  ·injection h1 with h1
   exact fin 0 (by rw [hx.nilm_inv];simp [Builtin.len_,run_underlying hd]) h1.symm
  ·rename_i b st _
   unfold C1V at h1
   split at h1
   ·rename_i es hg
    injection h1 with h1
    obtain⟨mes,clock,hm,hl,_⟩:=D2G hr hg
    have hv:η x= .map (some (ρ st).blk):=hx.mp_inv.2
    refine fin es.length ?_ h1.symm
    rw [hv,←hl]
    simp [Builtin.len_,run_underlying hd,getObj,Sem.run,hm]
   ·cases h1
theorem C7L{x:Operand}{t e:TypeId}{m:Nat}(ho:o.op= .call {callee:= .builtin .len,args:= #[x],argTypes:= #[t]})(hd:P.underlying t=some (.array m e))
  (hr:HeapR w O ρ s.n s.h) (hk:A8 P PK (.lenc m) s k):C4 P PK k w O ρ s.h s.n ((execOp η o).run P w):=by
 have:(execOp η o).run P w= .ok (.value (.int .i64 m)) w:=by simp [execOp,ho,resolve,invoke,builtin,Builtin.len_,run_underlying hd,goInt]
 rw [this]
 exact Kp
theorem C7O{x y:Operand}{x' y':Opd}{mx:Bool}{ts:Array TypeId}(ho:o.op= .call {callee:= .builtin (if mx then .max else .min),args:= #[x,y],argTypes:=ts})(hx:C3 x=some x')(hy:C3 y=some y')
  (hr:HeapR w O ρ s.n s.h) (he:EvR (A4 w O ρ s.n s.h) s η) (hk:A8 P PK (.mm mx [x',y']) s k):C4 P PK k w O ρ s.h s.n ((execOp η o).run P w):=by
 obtain⟨r,h1,h2⟩:=G8 hk
 have hx:=he.ev hx
 have hy:=he.ev hy
 simp only [List.map_cons,List.map_nil]at h1
 generalize s.ev x'=vx at*
 generalize s.ev y'=vy at*
 unfold mmV at h1
 split at h1
 ·rename_i j a j' b heq
  injection heq with e1 e2
  injection e2 with e2 _
  subst e1;subst e2
  by_cases hj:j=j'
  ·subst hj
   simp at h1
   subst h1
   have:(execOp η o).run P w= .ok (.value (.int j (mm2 mx a b))) w:=by
    rw [show (execOp η o).run P w=(do let r←(if mx then Builtin.max_ ts o.type #[η x,η y]else Builtin.min_ ts o.type #[η x,η y]);pure (Next.value r):Sem Next).run P w from by
     cases mx<;>simp [execOp,ho,resolve,invoke,builtin]]
    rw [hx.int_inv,hy.int_inv]
    cases mx<;>simp [Builtin.max_,Builtin.min_,Builtin.max2,Builtin.min2,mm2]
   rw [this]
   exact C4.val hr h2 (.int _ _)
  ·simp [hj]at h1
 ·cases h1
theorem C9P{x i:Operand}{x' i':Opd}{t:TypeId}(ho:o.op= .index t x i)(hd:P.underlying t=some .string)(hx:C3 x=some x')(hi:C3 i=some i')
  (hr:HeapR w O ρ s.n s.h) (he:EvR (A4 w O ρ s.n s.h) s η) (hk:A8 P PK (.idx x' i') s k):C4 P PK k w O ρ s.h s.n ((execOp η o).run P w):=by
 have hx:=he.ev hx
 have hi:=he.ev hi
 simp only [A8]at hk
 generalize s.ev x'=vx at*
 generalize s.ev i'=vi at*
 unfold B8o at hk
 split at hk
 ·rename_i b j z
  obtain⟨h0,h1⟩:=hk
  obtain⟨r,h1,h2⟩:=G8 h1
  rw [Option.map_eq_some_iff]at h1
  obtain⟨c,hc,rfl⟩:=h1
  have hlt:z.toNat<(⟨⟨b⟩⟩:ByteArray).size:=(List.getElem?_eq_some_iff.1 hc).1
  have hg:(⟨⟨b⟩⟩:ByteArray)[z.toNat]? =some c:=by
   rw [ByteArray.getElem?_lt' _ _ hlt]
   have:=(List.getElem?_eq_some_iff.1 hc).2
   exact congrArg some this
  have:(execOp η o).run P w= .ok (.value (.int .u8 c.toNat)) w:=by
   simp [execOp,ho,Instr.index,run_underlying hd,hx.str_inv,hi.int_inv,asIntOf,h0,hg]
  rw [this]
  exact C4.val hr h2 (.int _ _)
 ·exact XJ
theorem A9M{t:TypeId}{a:Bool}{n:Nat}(h:A9W P t=some (n,a))(w:World):(isAgg t).run P w= .ok a w:=by
 unfold A9W at h
 cases hi:P.info? t with
 |none=>simp [hi]at h
 | some i=>
  cases hu:P.underlying t with
  |none=>simp [hi,hu]at h
  |some d=>
   cases d<;>simp [hi,hu]at h<;>(obtain⟨_,rfl⟩:=h;simp [isAgg,run_underlying hu])
theorem C5I{t:TypeId}{a:Bool}{n:Nat}(h:A9W P t=some (n,a)): ∃i,P.info? t=some i∧i.size=n:=by
 unfold A9W at h
 cases hi:P.info? t with
 |none=>simp [hi]at h
 |some i=>
  cases hu:P.underlying t with
  |none=>simp [hi,hu]at h
  |some d=>cases d<;>simp [hi,hu]at h<;>exact⟨i,rfl,h.1⟩
theorem C0y{t:TypeId}{a:Bool}{n:Nat}(h:A9W P t=some (n,a))(w:World):(sizeOf t).run P w= .ok n w:=by
 obtain⟨i,hi,hn⟩:=C5I h
 simp [sizeOf,typeInfo,hi,hn]
theorem B7l{E:Env}{row:List V}{vs:Array Value}{j n:Nat}{agg:Bool}{r:V}{t:TypeId}(hR:RL E row vs)(h1: ∀(i:Nat) v,vs[i]? =some v→v.oneCell'=true)
  (ht:A9W P t=some (n,agg)) (h:I1 row j n agg=some r): ∃v,(part t vs j).run P w= .ok v w∧R E r v:=by
 cases agg with
 | true=>
  simp only [I1,cond_true]at h
  cases hb:Nat.ble (j+n) row.length with
  |false=>rw [hb]at h;cases h
  | true=>
   rw [hb,cond_true]at h
   injection h with h
   subst h
   have hle:=Nat.le_of_ble_eq_true hb
   have hl:=hR.1
   refine⟨.agg (vs.extract j (j+n)),by simp [part,A9M ht,C0y ht],.agg _ _ ?_ ?_ ?_⟩
   ·simp;omega
   ·intro i v hi
    rw [Array.getElem?_extract]at hi
    split at hi
    ·exact h1 _ _ hi
    ·cases hi
   ·intro i c v hi hv
    rw [Array.getElem?_extract]at hv
    split at hv
    ·rw [List.getElem?_take,List.getElem?_drop]at hi
     split at hi
     ·exact hR.2 (j+i) c v hi hv
     ·cases hi
    ·cases hv
 |false=>
  simp only [I1,cond_false]at h
  have hlt:j<vs.size:=by have:=(List.getElem?_eq_some_iff.1 h).1;have:=hR.1;omega
  exact⟨vs[j],by simp [part,A9M ht,hlt],hR.2 j r _ h zn⟩
theorem C9O{x:Operand}{x':Opd}{t:TypeId}{i n:Nat}{agg:Bool}{fs:Array Field}{f:Field}(ho:o.op= .field t x i)(ht:P.underlying t=some (.struct fs))(hf:fs[i]? =some f)
  (hty:A9W P f.type=some (n,agg)) (hx:C3 x=some x')
  (hr:HeapR w O ρ s.n s.h) (he:EvR (A4 w O ρ s.n s.h) s η) (hk:A8 P PK (.fld f.offset n agg x') s k):C4 P PK k w O ρ s.h s.n ((execOp η o).run P w):=by
 obtain⟨r,h1,h2⟩:=G8 hk
 have hx:=he.ev hx
 generalize s.ev x'=vx at*
 unfold C6u at h1
 split at h1
 ·obtain⟨vs,hv,hl,hone,hR⟩:=hx.agg_inv
  obtain⟨v,hp,hRv⟩:=B7l (P:=P) (w:=w) ⟨hl,hR⟩ hone hty h1
  have:(execOp η o).run P w= .ok (.value v) w:=by simp [execOp,ho,Instr.field,run_underlying ht,hf,asAgg,hv,hp]
  rw [this]
  exact C4.val hr h2 hRv
 ·cases h1
theorem C7K{x i:Operand}{x' i':Opd}{t e:TypeId}{len n:Nat}{agg:Bool}{ti:TypeInfo}(ho:o.op= .index t x i)(ht:P.underlying t=some (.array len e))(hti:P.info? e=some ti)
  (hty:A9W P e=some (n,agg)) (hx:C3 x=some x') (hi:C3 i=some i')
  (hr:HeapR w O ρ s.n s.h) (he:EvR (A4 w O ρ s.n s.h) s η) (hk:A8 P PK (.idxA len ti.size n agg x' i') s k):C4 P PK k w O ρ s.h s.n ((execOp η o).run P w):=by
 have hx:=he.ev hx
 have hi:=he.ev hi
 simp only [A8]at hk
 generalize s.ev x'=vx at*
 generalize s.ev i'=vi at*
 unfold A8k at hk
 split at hk
 ·rename_i cs j z
  obtain⟨h0,h1,hk⟩:=hk
  obtain⟨r,h2,h3⟩:=G8 hk
  obtain⟨vs,hv,hl,hone,hR⟩:=hx.agg_inv
  obtain⟨v,hp,hRv⟩:=B7l (P:=P) (w:=w) ⟨hl,hR⟩ hone hty h2
  have:(execOp η o).run P w= .ok (.value v) w:=by
   simp [execOp,ho,Instr.index,run_underlying ht,hv,hi.int_inv,asIntOf,h0,h1,sizeOf,typeInfo,hti,hp]
  rw [this]
  exact C4.val hr h3 hRv
 ·exact XJ
theorem C1v{E:Env}{t:TypeId}{kd:Nat}{x y:V}{a b:Value}{c:Bool}{d:Nat}(hs:P0 P (d+1) t=some (.leaf kd))(hx:R E x a)(hy:R E y b)(h:B8j kd x y=some c):
  ∀m,(Op.equalIn (m+1) t a b).run P w= .ok c w:=by
 intro m
 have hu:(kd=0∧P.underlying t=some .bool)∨(kd=1∧ ∃j,P.underlying t=some (.int j))∨(kd=2∧P.underlying t=some .string):=by
  simp only [P0]at hs
  split at hs<;>simp_all
 unfold B8j at h
 rcases hu with⟨rfl,hu⟩|⟨rfl,j,hu⟩|⟨rfl,hu⟩
 ·split at h<;>first|(cases h;done)|(simp_all;done)|skip
  injection h with h
  rw [hx.bool_inv,hy.bool_inv,run_equalIn_bool' _ _ _ _ _ hu,←h,B9h]
 ·split at h<;>first|(cases h;done)|(simp_all;done)|skip
  rename_i j1 a1 j2 b1 _
  by_cases hj:j1=j2
  ·subst hj
   simp at h
   rw [hx.int_inv,hy.int_inv,run_equalIn_int _ _ _ _ _ _ _ hu,←h,C6l]
  ·simp [hj]at h
 ·split at h<;>first|(cases h;done)|(simp_all;done)|skip
  injection h with h
  rw [hx.str_inv,hy.str_inv,run_equalIn_string _ _ _ _ _ hu,←h,B1f]
theorem RL.part{E:Env}{xs:List V}{vs:Array Value}(h:RL E xs vs)(off n:Nat):RL E ((xs.drop off).take n) (vs.extract off (off+n)):=by
 obtain⟨hl,hR⟩:=h
 refine⟨by simp;omega,fun i c v hi hv=> ?_⟩
 rw [Array.getElem?_extract]at hv
 split at hv
 ·rw [List.getElem?_take,List.getElem?_drop]at hi
  split at hi
  ·exact hR (off+i) c v hi hv
  ·cases hi
 ·cases hv
theorem B6z{a b:Option Bool}{c:Bool}(h:C8u a b=some c): ∃x y,a=some x∧b=some y∧c=(x&&y):=by
 unfold C8u at h
 split at h
 ·injection h with h;exact⟨_,_,rfl,rfl,h.symm⟩
 ·cases h
theorem C2W{E:Env}: ∀(d:Nat) (t:TypeId) (e:ETy) (i:TypeInfo) (xs ys:List V) (vs us:Array Value) (off:Nat) (c:Bool),P0 P d t=some e→P.info? t=some i→
  RL E xs vs→RL E ys us→eqE e ((xs.drop off).take i.size) ((ys.drop off).take i.size)=some c→ ∀m (w:World),∃a b,(part t vs off).run P w= .ok a w∧(part t us off).run P w= .ok b w∧(Op.equalIn (m+d) t a b).run P w= .ok c w
 |0,_,_,_,_,_,_,_,_,_,h,_,_,_,_,_,_=>by simp [P0]at h
 | d + 1,t,e,i,xs,ys,vs,us,off,c,hsh,hi,hx,hy,he,m,w=>by
  have leaf: ∀kd desc,e= .leaf kd→P.underlying t=some desc→(∀fs,desc≠ .struct fs)→(∀n e,desc≠ .array n e)→ ∃a b,(part t vs off).run P w= .ok a w∧(part t us off).run P w= .ok b w∧(Op.equalIn (m+(d+1)) t a b).run P w= .ok c w:=by
   intro kd desc hk hu h1 h2
   subst hk
   have hag:(isAgg t).run P w= .ok false w:=by
    simp only [isAgg,Sem.run_bind,run_underlying hu,Result.andThen_ok]
    cases desc<;>first|rfl|exact(h1 _ rfl).elim|exact(h2 _ _ rfl).elim
   unfold eqE at he
   split at he<;>first|(cases he;done)|(simp_all;done)|skip
   rename_i kd' x y hkd e1 e2
   injection hkd with hkd
   subst hkd
   have gx:xs[off]? =some x:=by
    have:=congrArg (fun l=>l[0]?) e1
    exact Yf
   have gy:ys[off]? =some y:=by
    have:=congrArg (fun l=>l[0]?) e2
    exact Yf
   have lx:off<vs.size:=by have:=(List.getElem?_eq_some_iff.1 gx).1;have:=hx.1;omega
   have ly:off<us.size:=by have:=(List.getElem?_eq_some_iff.1 gy).1;have:=hy.1;omega
   refine⟨vs[off],us[off],by simp [part,hag,lx],by simp [part,hag,ly],?_⟩
   exact C1v hsh (hx.2 off x _ gx (by simp [lx])) (hy.2 off y _ gy (by simp [ly])) he (m+d)
  have hsh0:=hsh
  simp only [P0]at hsh
  split at hsh
  ·exact Yv
  ·exact Yv
  ·exact Yv
  ·rename_i fs hu
   split at hsh
   ·cases hsh
   ·rename_i hst
    rw [Option.map_eq_some_iff]at hsh
    obtain⟨es,hes,rfl⟩:=hsh
    have hag:(isAgg t).run P w= .ok true w:=by simp [isAgg,run_underlying hu]
    have hsz:(sizeOf t).run P w= .ok i.size w:=by simp [sizeOf,typeInfo,hi]
    refine⟨.agg (vs.extract off (off+i.size)),.agg (us.extract off (off+i.size)),by simp [part,hag,hsz],by simp [part,hag,hsz],?_⟩
    have hfo:P.fieldsOf t=fs:=by simp [Program.fieldsOf,hu]
    rw [show m+(d+1)=(m+d)+1 from rfl,run_equalIn_struct w (m+d) t _ _ (by rw [hfo];exact hu) (by simpa using hst),hfo]
    have hx':=hx.part off i.size
    have hy':=hy.part off i.size
    simp only [eqE]at he
    generalize (xs.drop off).take i.size=xs' at he hx'
    generalize (ys.drop off).take i.size=ys' at he hy'
    generalize vs.extract off (off+i.size)=vs' at hx'
    generalize us.extract off (off+i.size)=us' at hy'
    clear hu hfo hag hsz leaf hsh0
    generalize fs.toList=l at hes
    induction l generalizing es c with
    |nil=>
     simp [P0.shapeFs]at hes;subst hes
     simp [eqE.eqFs]at he;subst he
     rfl
    | cons f r ih=>
     simp only [P0.shapeFs]at hes
     split at hes
     ·cases hes
     ·rename_i hname
      split at hes
      ·rename_i i' e' es' h1 h2 h3
       injection hes with hes
       subst hes
       simp only [eqE.eqFs]at he
       obtain⟨x,y,hx1,hy1,rfl⟩:=B6z he
       obtain⟨a,b,ha,hb,hab⟩:=C2W d f.type e' i' xs' ys' vs' us' f.offset x h2 h1 hx' hy' hx1 m w
       exact XQ
      ·cases hes
  ·cases hsh
theorem B8F{d:Nat}{t:TypeId}{e:ETy}{fs:Array Field}(h:P0 P (d+1) t=some e)(hu:P.underlying t=some (.struct fs)):
  ∃es,e= .agg es∧P.stoodInHeld t=false∧P0.shapeFs P (P0 P d) fs.toList=some es:=by
 simp only [P0,hu]at h
 split at h
 ·cases h
 ·rename_i hst
  rw [Option.map_eq_some_iff]at h
  obtain⟨es,hes,rfl⟩:=h
  exact⟨es,rfl,by simpa using hst,hes⟩
theorem C9N{x y:Operand}{x' y':Opd}{t t':TypeId}{neg:Bool}{e:ETy}{fs:Array Field}(ho:o.op= .binOp (if neg then .neq else .eql) t x y t')(hu:P.underlying t=some (.struct fs))
  (hsh:P0 P 8 t=some e) (hg:P.eqGuardType P.depth t=false)
  (hx:C3 x=some x') (hy:C3 y=some y')
  (hr:HeapR w O ρ s.n s.h) (he:EvR (A4 w O ρ s.n s.h) s η) (hk:A8 P PK (.eqa neg e x' y') s k):C4 P PK k w O ρ s.h s.n ((execOp η o).run P w):=by
 have hx:=he.ev hx
 have hy:=he.ev hy
 obtain⟨r,h1,h2⟩:=G8 hk
 generalize s.ev x'=vx at*
 generalize s.ev y'=vy at*
 unfold C6o at h1
 split at h1
 ·rename_i xs ys
  rw [Option.map_eq_some_iff]at h1
  obtain⟨c,hc,rfl⟩:=h1
  obtain⟨vs,hv,hl,_,hR⟩:=hx.agg_inv
  obtain⟨us,hv',hl',_,hR'⟩:=hy.agg_inv
  have heq:(Op.equal t (.agg vs) (.agg us)).run P w= .ok c w:=by
   show (Op.equalIn (9992+8) t (.agg vs) (.agg us)).run P w= .ok c w
   ·obtain⟨es,rfl,hst,hes⟩:=B8F hsh hu
    have hfo:P.fieldsOf t=fs:=by simp [Program.fieldsOf,hu]
    rw [show 9992+8=(9992+7)+1 from rfl,run_equalIn_struct w (9992+7) t _ _ (by rw [hfo];exact hu) (by simpa using hst),hfo]
    simp only [eqE]at hc
    clear hsh hfo hu hg h2 hk
    generalize fs.toList=l at hes
    induction l generalizing es c with
    |nil=>
     simp [P0.shapeFs]at hes;subst hes
     simp [eqE.eqFs]at hc;subst hc
     rfl
    | cons f r ih=>
     simp only [P0.shapeFs]at hes
     split at hes
     ·cases hes
     ·rename_i hname
      split at hes
      ·rename_i i' e' es' h1 h2' h3
       injection hes with hes
       subst hes
       simp only [eqE.eqFs]at hc
       obtain⟨x,y,hx1,hy1,rfl⟩:=B6z hc
       obtain⟨a,b,ha,hb,hab⟩:=C2W 7 f.type e' i' xs ys vs us f.offset x h2' h1 ⟨hl,hR⟩ ⟨hl',hR'⟩ hx1 9992 w
       exact XQ
      ·cases hes
  have hgd:(eqGuard (if neg then .neq else .eql) t x y (.agg vs) (.agg us)).run P w= .ok () w:=by
   cases neg<;>simp [eqGuard,hg]
  have:(execOp η o).run P w= .ok (.value (.bool (bif neg then !c else c))) w:=by
   simp only [execOp,ho,hv,hv',Sem.run_bind,hgd,Result.andThen_ok]
   cases neg<;>simp [binOp,heq]
  rw [this]
  exact C4.val hr h2 (.bool _)
 ·cases h1
end
end Go.Abs
namespace Go.Abs
variable {PK:R8}
section
variable {P:Program} {k:Res} {w:World} {O:Nat→Prop} {ρ:Nat→Loc} {s:St} {η:Operand→Value} {o:Oper}
theorem HeapR.real{h:A2}{n:Nat}(hr:HeapR w O ρ n h){x:Nat}(hx:Own ρ h x):x<w.heap.size:=by
 obtain⟨e,he,hc,rfl⟩:=hx
 have:=hr.blk e he
 cases hb:e.2.2 with
 |rows sz rs=>rw [hb]at this;exact(this.2.2.1 hc).2
 |map es=>rw [hb]at this;obtain⟨_,mes,clock,h2,_⟩:=this;exact(Array.getElem?_eq_some_iff.1 h2).1
 |loop N sl ps p s pend=>rw [hb]at this;obtain⟨_,_,r,h2,_⟩:=this;exact(Array.getElem?_eq_some_iff.1 h2).1
 |mapb es bs ck=>rw [hb]at this;obtain⟨_,mes,h2,_⟩:=this;exact(Array.getElem?_eq_some_iff.1 h2).1
 |iter mst es bs ck left last=>rw [hb]at this;obtain⟨_,_,_,sn,h2,_⟩:=this;exact(Array.getElem?_eq_some_iff.1 h2).1
 |raw rs=>rw [hb]at this;obtain⟨_,_,⟨cs,el,h2,_⟩,_⟩:=this;exact(Array.getElem?_eq_some_iff.1 h2).1
 |tb T sz rs=>rw [hb]at this;exact(this.1.2.2.1 hc).2
 |fz T l=>rw [hb]at this;obtain⟨_,_,cs,hi,h2,_⟩:=this;exact(Array.getElem?_eq_some_iff.1 h2).1
theorem HeapR.world{h:A2}{n:Nat}{w':World}(hr:HeapR w O ρ n h)(hs:Wd w w')(hb: ∀x,x<w.heap.size→w'.heap[x]? =w.heap[x]?):
  HeapR w' O ρ n h∧Ext (A4 w O ρ n h) (A4 w' O ρ n h):=by
 have hx:Ext (A4 w O ρ n h) (A4 w' O ρ n h):=⟨rfl,Nat.le_refl _,fun _ _=>rfl,hs,fun x hx ho=>⟨hb x hx,ho⟩⟩
 exact⟨⟨hr.lt,hr.inj,fun x hx=>Nat.lt_of_lt_of_le (hr.out x hx) hs.size,hr.notO,fun e he=>(hr.blk e he).mono hx (hr.lt e he) fun hc=>hb _ (hr.real ⟨e,he,hc,rfl⟩),hr.gl.mono hx.imm⟩,hx⟩
theorem A1L(w:World)(ob:Obj)(x:Nat)(h:x<w.heap.size):(w.alloc ob).heap[x]? =w.heap[x]? :=heap_alloc_old w ob h
theorem R.cells{E:Env}{v:V}{x:Value}{cs:List V}(h:R E v x)(hc:U2 v=some cs):RL E cs x.cells∧ ∀(i:Nat) u,x.cells[i]? =some u→u.oneCell'=true:=by
 unfold U2 at hc
 split at hc<;>first|(cases hc;done)|skip
 ·injection hc with hc
  subst hc
  obtain⟨vs,rfl,hl,h1,hR⟩:=h.agg_inv
  exact⟨⟨hl,hR⟩,h1⟩
 ·exact Xc
 ·exact Xc
 ·rename_i h1 h2 h3 h4 h5 h6
  injection hc with hc
  subst hc
  have one:x.cells= #[x]∧x.oneCell'=true:=by
   cases h<;>first
    |exact⟨rfl,rfl⟩
    |exact(h1 _ rfl).elim
    |exact(h2 rfl).elim
    |exact(h2 _ rfl).elim
    |exact(h3 rfl).elim
    |exact(h3 _ rfl).elim
    |exact(h4 rfl).elim
    |exact(h4 _ rfl).elim
    |exact(h5 rfl).elim
    |exact(h5 _ rfl).elim
    |exact(h6 _ rfl).elim
  rw [one.1]
  refine⟨⟨rfl,fun i c u hi hu=> ?_⟩,fun i u hu=> ?_⟩
  ·cases i with
   |zero=>simp at hi hu;subst hi;subst hu;exact h
   |succ i=>simp at hi
  ·cases i with
   |zero=>simp at hu;subst hu;exact one.2
   |succ i=>simp at hu
theorem HeapR.alloc{h:A2}{n:Nat}(hr:HeapR w O ρ n h)(nm sz cap:Nat)(rs:List (List V))(cs:Array Value)(el:TypeId)(hcs:cs.size=cap*sz)(hl:rs.length≤cap)
  (hrow: ∀(i:Nat) row,rs[i]? =some row→row.length=sz∧ ∀(j:Nat) c,row[j]? =some c→ ∃x,cs[i*sz+j]? =some x∧x.oneCell'=true∧R (A4 w O ρ n h) c x):
  ∃ρ':Nat→Loc,ρ' n=⟨w.heap.size,0,sz,cap⟩∧HeapR (w.alloc (.cells cs el)) O ρ' (n+1) (A2.put h nm n (.rows sz rs))∧
   Ext (A4 w O ρ n h) (A4 (w.alloc (.cells cs el)) O ρ' (n+1) (A2.put h nm n (.rows sz rs))):=by
 let ρ':Nat→Loc:=fun st=>if st=n then⟨w.heap.size,0,sz,cap⟩else ρ st
 have hn:ρ' n=⟨w.heap.size,0,sz,cap⟩:=by simp [ρ']
 refine⟨ρ',hn,?_⟩
 refine HeapR.step hr (Nat.le_succ _) (fun st hst=>by simp [ρ',Nat.ne_of_lt hst]) (Nat.lt_succ_self _) (Wd.alloc _ _)
  (fun y hy _=>A1L _ _ _ hy) (by rw [hn];exact .inr (.inl (Nat.le_refl _))) ?_
 intro hx
 refine⟨by simp [hn],by simp [hn,hl],?_,?_⟩
 ·intro _
  simp only [hn]
  refine⟨fun j hj=> ?_,by simp⟩
  have:j<cs.size:=by rw [hcs];exact hj
  simp [this]
 ·intro i row hi
  obtain⟨h1,h2⟩:=hrow i row hi
  refine⟨h1,fun j c hj=> ?_⟩
  obtain⟨x,hx1,hx2,hx3⟩:=h2 j c hj
  exact⟨x,by simp [hn,hx1],hx2,hx3.mono hx⟩
theorem C9J{x:Operand}{x':Opd}{e:TypeId}{nm sz:Nat}(ho:(o.op= .box e x))(hx:C3 x=some x')
  (hr:HeapR w O ρ s.n s.h) (he:EvR (A4 w O ρ s.n s.h) s η) (hk:A8 P PK (.box nm sz x') s k):C4 P PK k w O ρ s.h s.n ((execOp η o).run P w):=by
 have hx:=he.ev hx
 simp only [A8]at hk
 generalize s.ev x'=vx at*
 unfold B7X at hk
 split at hk
 ·rename_i cs hc
  obtain⟨hl,hk⟩:=hk
  obtain⟨hR,h1⟩:=hx.cells hc
  have:(execOp η o).run P w= .ok (.value (.pointer (some ⟨w.heap.size,0,none⟩))) (w.alloc (.cells (η x).cells e)):=by
   simp [execOp,ho,Instr.box,newVar,newRow]
  rw [this]
  obtain⟨ρ',hn,hr',hx'⟩:=hr.alloc nm sz 1 [cs] (η x).cells e (by rw [←hR.1,hl,Nat.one_mul]) zg (fun i row hi=>by
   cases i with
   |succ i=>simp at hi
   |zero=>
    simp at hi;subst hi
    refine⟨hl,fun j c hj=> ?_⟩
    have hlt:j<(η x).cells.size:=by have:=(List.getElem?_eq_some_iff.1 hj).1;rw [←hR.1];exact this
    exact⟨(η x).cells[j],by simp [hlt],h1 j _ zn,hR.2 j c _ hj zn⟩)
  refine⟨_,_,_,ρ',hk,hr',?_,hx'⟩
  have:=R.ptr (E:=A4 (w.alloc (.cells (η x).cells e)) O ρ' (s.n+1) (A2.put s.h nm s.n (.rows sz [cs]))) nm s.n 0 0 (Nat.lt_succ_self _)
  simpa [hn]using this
 ·exact XJ
theorem C7F{x:Operand}{x':Opd}{e:TypeId}{sz:Nat}(ho:(o.op= .box e x))(hx:C3 x=some x')
  (hr:HeapR w O ρ s.n s.h) (he:EvR (A4 w O ρ s.n s.h) s η) (hk:A8 P PK (.boxi sz x') s k):C4 P PK k w O ρ s.h s.n ((execOp η o).run P w):=by
 have hx:=he.ev hx
 simp only [A8]at hk
 generalize s.ev x'=vx at*
 unfold B1t at hk
 split at hk
 ·rename_i cs hc
  obtain⟨hl,hk⟩:=hk
  obtain⟨hR,h1⟩:=hx.cells hc
  have:(execOp η o).run P w= .ok (.value (.pointer (some ⟨w.heap.size,0,none⟩))) (w.alloc (.cells (η x).cells e)):=by
   simp [execOp,ho,Instr.box,newVar,newRow]
  rw [this]
  obtain⟨b1,b2⟩:=hr.world (w':=w.alloc (.cells (η x).cells e)) (Wd.alloc _ _) fun x hx=>A1L _ _ _ hx
  refine⟨_,_,_,ρ,hk,b1,?_,b2⟩
  have one: ∀{i:Nat} {row:List V},[cs][i]? =some row→i=0∧row=cs:=fun{i row} hi=>by
   cases i with
   |zero=>simp at hi;exact⟨rfl,hi.symm⟩
   |succ i=>simp at hi
  have hmain:=R.iptr (E:=A4 (w.alloc (.cells (η x).cells e)) O ρ s.n s.h) [cs] 0 0 ⟨w.heap.size,0,none⟩ sz (fun _ j=>(η x).cells.getD j Go.undef) rfl (fun i row hi=>by rw [(one hi).2];exact hl)
   (fun i row j c hi hj=>by
     obtain⟨rfl,rfl⟩:=one hi
     have hlt:j<(η x).cells.size:=by have:=(List.getElem?_eq_some_iff.1 hj).1;rw [←hR.1];exact this
     have hgd:(η x).cells.getD j Go.undef=(η x).cells[j]:=by simp [Array.getD,hlt]
     refine⟨by simp [hlt],?_,?_,?_⟩
     ·rw [hgd];exact h1 j _ zn
     ·intro hown;exact absurd (hr.real hown) (Nat.lt_irrefl _)
     ·intro hO;exact absurd (hr.out _ hO) (Nat.lt_irrefl _))
   (fun i row j c hi hj=>by
     obtain⟨rfl,rfl⟩:=one hi
     have hlt:j<(η x).cells.size:=by have:=(List.getElem?_eq_some_iff.1 hj).1;rw [←hR.1];exact this
     have hgd:(η x).cells.getD j Go.undef=(η x).cells[j]:=by simp [Array.getD,hlt]
     rw [hgd]
     exact(hR.2 j c _ hj zn).mono b2)
  simpa using hmain
 ·exact XJ
theorem C5l{e:TypeId}{nm sz:Nat}{z:Value}{zv:V}{i:TypeInfo}(ho:o.op= .alloc e)(hi:P.info? e=some i)(hz:i.zero=some z)(hzv: ∀E:Env,R E zv z)
  (hr:HeapR w O ρ s.n s.h) (hk:A8 P PK (.box nm sz (.c zv)) s k):C4 P PK k w O ρ s.h s.n ((execOp η o).run P w):=by
 simp only [A8,St.ev]at hk
 unfold B7X at hk
 split at hk
 ·rename_i cs hc
  obtain⟨hl,hk⟩:=hk
  obtain⟨hR,h1⟩:=(hzv (A4 w O ρ s.n s.h)).cells hc
  have:(execOp η o).run P w= .ok (.value (.pointer (some ⟨w.heap.size,0,none⟩))) (w.alloc (.cells z.cells e)):=by
   simp [execOp,ho,Instr.alloc,newVar,newRow,zeroValue,typeInfo,hi,hz]
  rw [this]
  obtain⟨ρ',hn,hr',hx'⟩:=hr.alloc nm sz 1 [cs] z.cells e (by rw [←hR.1,hl,Nat.one_mul]) zg (fun i row hi=>by
   cases i with
   |succ i=>simp at hi
   |zero=>
    simp at hi;subst hi
    refine⟨hl,fun j c hj=> ?_⟩
    have hlt:j<z.cells.size:=by have:=(List.getElem?_eq_some_iff.1 hj).1;rw [←hR.1];exact this
    exact⟨z.cells[j],by simp [hlt],h1 j _ zn,hR.2 j c _ hj zn⟩)
  refine⟨_,_,_,ρ',hk,hr',?_,hx'⟩
  have:=R.ptr (E:=A4 (w.alloc (.cells z.cells e)) O ρ' (s.n+1) (A2.put s.h nm s.n (.rows sz [cs]))) nm s.n 0 0 (Nat.lt_succ_self _)
  simpa [hn]using this
 ·exact XJ
theorem A5X{E:Env}{b:Nat}{off:Nat}{row:List V}{j n:Nat}{agg:Bool}{r:V}{t:TypeId}(hR:A2D E b off row)
  (ht:A9W P t=some (n,agg)) (h:I1 row j n agg=some r): ∃v,(loadVar t ⟨b,off+j,none⟩).run P E.w= .ok v E.w∧R E r v:=by
 cases agg with
 | true=>
  simp only [I1,cond_true]at h
  cases hb:Nat.ble (j+n) row.length with
  |false=>rw [hb]at h;cases h
  | true=>
   rw [hb,cond_true]at h
   injection h with h
   subst h
   have hle:=Nat.le_of_ble_eq_true hb
   have hex: ∀i,∃x,i<n→E.w.cell? ⟨b,off+(j+i),none⟩=some x∧x.oneCell'=true∧ ∀c,row[j+i]? =some c→R E c x:=by
    intro i
    by_cases hi:i<n
    ·have hlt:j+i<row.length:=by omega
     obtain⟨x,h1,h2,h3⟩:=hR (j+i) row[j+i] zn
     exact⟨x,fun _=>⟨h1,h2,fun c hc=>by simp [hlt]at hc;subst hc;exact h3⟩⟩
    ·exact⟨undef,fun h=>(hi h).elim⟩
   let f:=fun i=>(hex i).choose
   have hf:=fun i=>(hex i).choose_spec
   have hrun:(loadCells ⟨b,off+j,none⟩ n).run P E.w= .ok ((List.range n).map f).toArray E.w:=
    run_loadCells E.w _ n f fun i hi=>by
     have:=(hf i hi).1
     have e:(⟨b,off+j,none⟩:Addr).add i=⟨b,off+(j+i),none⟩:=by
      exact Ya
     rw [e];exact this
   refine⟨.agg ((List.range n).map f).toArray,by simp [loadVar,A9M ht,C0y ht,hrun],.agg _ _ zr ?_ ?_⟩
   ·intro i v hi
    simp only [List.getElem?_toArray,List.getElem?_map,Option.map_eq_some_iff]at hi
    obtain⟨i',hi',rfl⟩:=hi
    have:i'<n:=by have:=List.mem_of_getElem? hi';simpa using this
    exact(hf i' this).2.1
   ·intro i c v hi hv
    simp only [List.getElem?_toArray,List.getElem?_map,Option.map_eq_some_iff]at hv
    obtain⟨i',hi',rfl⟩:=hv
    have hlt:i<n:=by have:=(List.getElem?_eq_some_iff.1 hi').1;simpa using this
    have:i'=i:=by
     have:=(List.getElem?_eq_some_iff.1 hi').2
     simpa using this.symm
    subst this
    rw [List.getElem?_take,if_pos hlt,List.getElem?_drop]at hi
    exact(hf i' hlt).2.2 c hi
 |false=>
  simp only [I1,cond_false]at h
  obtain⟨x,h1,h2,h3⟩:=hR j r h
  exact⟨x,by simp [loadVar,A9M ht,h1],h3⟩
theorem C0K{x:Operand}{x':Opd}{t:TypeId}{n:Nat}{agg:Bool}(ho:o.op= .load t x)(ht:A9W P t=some (n,agg))(hx:C3 x=some x')
  (hr:HeapR w O ρ s.n s.h) (he:EvR (A4 w O ρ s.n s.h) s η) (hk:A8 P PK (.load n agg x') s k):C4 P PK k w O ρ s.h s.n ((execOp η o).run P w):=by
 obtain⟨r,h1,h2⟩:=G8 hk
 have hx:=he.ev hx
 generalize s.ev x'=vx at*
 unfold A8v at h1
 split at h1
 ·rename_i b st i j
  split at h1
  ·rename_i sz rs hg
   split at h1
   ·rename_i row hrow
    have hb:=hr.blk _ (A2.mem_of_get hg)
    obtain⟨hsz,hlen,hcell,hrows⟩:=hb
    exact JL
   ·cases h1
  ·rename_i T sz rs hg
   split at h1
   ·rename_i row hrow
    have hb:=hr.blk _ (A2.mem_of_get hg)
    obtain⟨⟨hsz,hlen,hcell,hrows⟩,_⟩:=hb
    exact JL
   ·cases h1
  ·cases h1
 ·rename_i es i j
  split at h1
  ·rename_i row hrow
   generalize hvx:η x=vv at hx
   cases hx with
   | iptr _ _ _ p sz f hp hrowl hcell hR=>
    have hR':A2D (A4 w O ρ s.n s.h) p.block (p.off+i*sz) row:=fun j' c hj=>⟨f i j',(hcell i row j' c hrow hj).1,(hcell i row j' c hrow hj).2.1,hR i row j' c hrow hj⟩
    obtain⟨v,hv,hRv⟩:=A5X (P:=P) hR' ht h1
    have hv':(loadVar t ⟨p.block,p.off+i*sz+j,none⟩).run P w= .ok v w:=hv
    have:(execOp η o).run P w= .ok (.value v) w:=by
     simp [execOp,ho,Instr.loadAt,hvx,Instr.sureAddr,hv']
    rw [this]
    exact C4.val hr h2 hRv
  ·cases h1
 ·cases h1
theorem C5r{x:Operand}{x':Opd}{t:TypeId}{n:Nat}{agg:Bool}(ho:o.op= .load t x)(ht:A9W P t=some (n,agg))(hx:C3 x=some x')
  (hr:HeapR w O ρ s.n s.h) (he:EvR (A4 w O ρ s.n s.h) s η) (hk:A8 P PK (.loadi n agg x') s k):C4 P PK k w O ρ s.h s.n ((execOp η o).run P w):=by
 refine C0K ho ht hx hr he ?_
 simp only [A8]at hk⊢
 generalize s.ev x'=vx at*
 unfold A3p at hk
 split at hk
 ·unfold A8v
  unfold C3s at hk
  exact hk
 ·exact XJ
theorem C5p{x i:Operand}{x' i':Opd}{t e:TypeId}{ti:TypeInfo}(ho:o.op= .indexAddr t x i)(ht:P.underlying t=some (.slice e))(hti:P.info? e=some ti)
  (hx:C3 x=some x') (hi:C3 i=some i')
  (hr:HeapR w O ρ s.n s.h) (he:EvR (A4 w O ρ s.n s.h) s η) (hk:A8 P PK (.iaddr ti.size x' i') s k):C4 P PK k w O ρ s.h s.n ((execOp η o).run P w):=by
 have hx:=he.ev hx
 have hi:=he.ev hi
 simp only [A8]at hk
 generalize s.ev x'=vx at*
 generalize s.ev i'=vi at*
 unfold A3b at hk
 split at hk
 ·rename_i j z
  have ei:=hi.int_inv
  have key: ∀(a:Addr) (m c:Nat),η x= .slice (some a) m c→0≤z→z<m→(execOp η o).run P w= .ok (.value (.pointer (some (a.add (z.toNat*ti.size))))) w:=by
   intro a m c ha h0 h1
   simp [execOp,ho,Instr.indexAt,run_underlying ht,ei,ha,asIntOf,h0,h1,sizeOf,typeInfo,hti]
  have add: ∀(b o' m:Nat),(⟨b,o',none⟩:Addr).add m=⟨b,o'+m,none⟩:=by intro b o' m;unfold Addr.add;split<;>simp_all
  split at hk
  ·rename_i b st i0 m
   obtain⟨h0,h1,h2,h3⟩:=hk
   generalize hvx:η x=vv at hx
   have hsz:(ρ st).sz=ti.size:=by
    unfold B1r at h2
    split at h2
    ·rename_i sz rs hg
     injection h2 with h2
     subst h2
     exact(hr.blk _ (A2.mem_of_get hg)).1
    ·cases h2
   cases hx with
   |sl _ _ _ _ cap hst hn hc=>
    rw [key _ _ _ hvx h0 h1,add]
    refine C4.val hr h3 ?_
    have:=R.ptr (E:=A4 w O ρ s.n s.h) b st (i0+z.toNat) 0 hst
    have e2:(ρ st).off+i0*(ρ st).sz+z.toNat*ti.size=(ρ st).off+(i0+z.toNat)*(ρ st).sz+0:=by rw [hsz,Nat.add_mul];omega
    show R _ _ (.pointer (some ⟨(ρ st).blk,(ρ st).off+i0*(ρ st).sz+z.toNat*ti.size,none⟩))
    rw [e2]
    exact this
   |sl0 _ _ _ a=>omega
  ·rename_i es
   obtain⟨h0,h1,h2,h3⟩:=hk
   generalize hvx:η x=vv at hx
   cases hx with
   | isl _ p cap sz f hp hcap hrow hcell hR=>
    rw [key _ _ _ hvx h0 h1]
    refine C4.val hr h3 ?_
    have hlt:z.toNat<es.length:=by omega
    have hsz:sz=ti.size:=by
     have a1:=hrow z.toNat es[z.toNat] zn
     have a2:=h2 es[z.toNat] (List.getElem_mem hlt)
     omega
    subst hsz
    have:=R.iptr (E:=A4 w O ρ s.n s.h) es z.toNat 0 p ti.size f hp hrow hcell hR
    have e2:p.add (z.toNat*ti.size)=⟨p.block,p.off+z.toNat*ti.size+0,none⟩:=by
     obtain⟨pb,po,ps⟩:=p
     simp only at hp
     subst hp
     exact add pb po _
    rw [e2]
    exact this
   |isl0 a cap=>simp at h1;omega
  ·exact XJ
 ·exact XJ
end
end Go.Abs
namespace Go.Abs
variable {PK:R8}
section
variable {P:Program} {k:Res} {w:World} {O:Nat→Prop} {ρ:Nat→Loc} {s:St} {η:Operand→Value} {o:Oper}
theorem B1e(w:World)(a:Addr)(v:Value)(y:Nat)(h:y≠a.block):(w.setCell a v).heap[y]? =w.heap[y]? :=by
 simp only [World.setCell,Array.getElem?_modify]
 rw [if_neg (fun e=>h e.symm)]
theorem O9(b:Nat): ∀(vs:List Value) (o:Nat) (w:World) (y:Nat),y≠b→(w.setCells b o vs).heap[y]? =w.heap[y]?
 | [],_,_,_,_=>rfl
 |v::r,o,w,y,h=>by rw [World.setCells,O9 b r (o+1) _ y h,B1e _ _ _ _ h]
theorem A1Q(b:Nat): ∀(vs:List Value) (o:Nat) (w:World),(w.setCells b o vs).heap.size=w.heap.size
 | [],_,_=>rfl
 |v::r,o,w=>by rw [World.setCells,A1Q b r (o+1)];simp
theorem B5S(w:World)(a x:Addr)(v:Value):((w.setCell a v).cell? x).isSome=(w.cell? x).isSome:=by
 by_cases h:a=x
 ·subst h
  cases hc:w.cell? a with
  |some u=>rw [World.cell?_setCell_same _ _ _ hc];rfl
  | none=>
   unfold World.cell? at hc⊢
   simp only [World.setCell,Array.getElem?_modify,if_true]
   cases hh:w.heap[a.block]? with
   |none=>simp
   |some ob=>
    rw [hh]at hc
    cases ob<;>simp at hc⊢
    cases hs:a.spot with
    |some _=>simp
    |none=>simp [hs]at hc⊢;exact hc
 ·rw [World.cell?_setCell_other _ _ _ _ h]
theorem f8(b:Nat): ∀(vs:List Value) (o:Nat) (w:World) (x:Addr),((w.setCells b o vs).cell? x).isSome=(w.cell? x).isSome
 | [],_,_,_=>rfl
 |v::r,o,w,x=>by rw [World.setCells,f8 b r,B5S]
theorem Wd.setCell(w:World)(a:Addr)(v:Value):Wd w (w.setCell a v):=⟨by simp [World.setCell],rfl,rfl⟩
theorem Wd.setCells(b:Nat): ∀(vs:List Value) (o:Nat) (w:World),Wd w (w.setCells b o vs)
 | [],_,w=>by rw [World.setCells];exact .refl w
 |v::r,o,w=>by rw [World.setCells];exact(Wd.setCell w _ v).trans (Wd.setCells b r (o+1) _)
theorem A3C(w:World)(t:TypeId)(b o:Nat)(v:Value){ti:TypeInfo}(hi:P.info? t=some ti)(hs:v.cells.size=ti.size)
  (hc: ∀j,j<v.cells.size→(w.cell? ⟨b,o+j,none⟩).isSome=true) (hf: ∀j,j<v.cells.size→w.frozen? ⟨b,o+j,none⟩=false) (h1: ∀(i:Nat) u,v.cells[i]? =some u→u.oneCell'=true):
  (storeVar t ⟨b,o,none⟩ v).run P w= .ok () (w.setCells b o v.cells.toList):=by
 have:=run_storeCells_cells (P:=P) b o v.cells.toList 0 w zA (by simpa using hf) (fun u hu=>by
  obtain⟨i,hi,rfl⟩:=List.getElem_of_mem hu
  exact h1 i _ (by simp at hi;simp [hi]))
 simp [storeVar,sizeOf,typeInfo,hi,hs,this]
theorem A2i{z cs:List V}{off:Nat}(h:off+cs.length≤z.length):(I8 z off cs).length=z.length:=by
 simp [I8];omega
theorem B2x{z cs:List V}{off:Nat}(h:off+cs.length≤z.length)(j:Nat):(I8 z off cs)[j]? =if off≤j∧j<off+cs.length then cs[j-off]? else z[j]? :=by
 unfold I8
 rw [List.append_assoc,List.getElem?_append]
 have ht:(z.take off).length=off:=by simp;omega
 rw [ht]
 by_cases h1:j<off
 ·rw [if_pos h1,if_neg zd,List.getElem?_take,if_pos h1]
 ·rw [if_neg h1,List.getElem?_append]
  by_cases h2:j<off+cs.length
  ·rw [if_pos zd,if_pos zd]
  ·rw [if_neg zd,if_neg zd,List.getElem?_drop]
   congr 1;omega
theorem HeapR.store{h:A2}{n:Nat}(hr:HeapR w O ρ n h){b st i j:Nat}{sz:Nat}{rs:List (List V)}{row cs:List V}(hg:A2.get h b st=some (.rows sz rs))(hrow:rs[i]? =some row)
  (hle:j+cs.length≤row.length) {vs:Array Value} (hcs:RL (A4 w O ρ n h) cs vs) (h1: ∀(i:Nat) u,vs[i]? =some u→u.oneCell'=true):
  (∀j',j'<vs.size→(w.cell? ⟨(ρ st).blk,(ρ st).off+i*sz+j+j',none⟩).isSome=true)∧(∀j',j'<vs.size→w.frozen? ⟨(ρ st).blk,(ρ st).off+i*sz+j+j',none⟩=false)∧
  HeapR (w.setCells (ρ st).blk ((ρ st).off+i*sz+j) vs.toList) O ρ n (A2.put h b st (.rows sz (rs.set i (I8 row j cs))))∧
   Ext (A4 w O ρ n h) (A4 (w.setCells (ρ st).blk ((ρ st).off+i*sz+j) vs.toList) O ρ n (A2.put h b st (.rows sz (rs.set i (I8 row j cs))))):=by
 have hm:=A2.mem_of_get hg
 obtain⟨hsz,hlen,hcell,hrows⟩:=hr.blk _ hm
 simp only at hsz hlen hcell hrows
 obtain⟨hl,hR⟩:=hrows i row hrow
 have hi:=(List.getElem?_eq_some_iff.1 hrow).1
 have hc:(ρ st).cap≠0:=by omega
 obtain⟨hcell,hblk⟩:=hcell hc
 have hcl:cs.length=vs.size:=hcs.1
 have hin: ∀j',j'<vs.size→i*sz+j+j'<(ρ st).cap*sz:=by
  intro j' hj
  have h2:(i+1)*sz≤(ρ st).cap*sz:=Nat.mul_le_mul_right _ zd
  rw [Nat.add_mul,Nat.one_mul]at h2
  omega
 have hsome: ∀j',j'<vs.size→(w.cell? ⟨(ρ st).blk,(ρ st).off+i*sz+j+j',none⟩).isSome=true:=fun j' hj=>by
  have:=(hcell (i*sz+j+j') (hin j' hj)).1
  rwa [show (ρ st).off+(i*sz+j+j')=(ρ st).off+i*sz+j+j' from by omega]at this
 refine⟨hsome,fun j' hj=> ?_,?_⟩
 ·have:=(hcell (i*sz+j+j') (hin j' hj)).2
  rwa [show (ρ st).off+(i*sz+j+j')=(ρ st).off+i*sz+j+j' from by omega]at this
 ·refine HeapR.step hr (Nat.le_refl _) (fun _ _=>rfl) (hr.lt _ hm) (Wd.setCells _ _ _ _)
   (fun y hy hyb=>O9 _ _ _ _ _ fun e=>hc (hyb e)) (.inr (.inr ⟨_,hm,rfl,hc,rfl⟩)) ?_
  intro hx
  refine⟨hsz,by simpa using hlen,fun _=>⟨fun j' hj=> ?_,by rw [A1Q];exact hblk⟩,?_⟩
  ·rw [f8,World.frozen?_setCells]
   exact hcell j' hj
  ·intro i' row' hi'
   by_cases hii:i=i'
   ·subst hii
    have hset:(rs.set i (I8 row j cs))[i]? =some (I8 row j cs):=by simp [hi]
    rw [hset]at hi'
    ·injection hi' with hi'
     subst hi'
     refine⟨by rw [A2i hle];exact hl,fun j' c hj=> ?_⟩
     rw [B2x hle]at hj
     split at hj
     ·rename_i hin'
      have hlt:j'-j<vs.size:=by omega
      have hput:=World.cell?_setCells_in (ρ st).blk vs.toList ((ρ st).off+i*sz+j) w (by simpa using hsome) (j'-j) (by simpa using hlt)
      refine⟨vs[j'-j],?_,h1 (j'-j) vs[j'-j] zn,(hcs.2 (j'-j) c vs[j'-j] hj zn).mono hx⟩
      rw [show (ρ st).off+i*sz+j'=(ρ st).off+i*sz+j+(j'-j) from by omega]
      simpa using hput
     ·rename_i hout
      obtain⟨x,hx1,hx2,hx3⟩:=hR j' c hj
      refine⟨x,?_,hx2,hx3.mono hx⟩
      simp only
      rw [World.cell?_setCells_out]
      ·exact hx1
      ·intro _ _
       simp only [Array.length_toList]
       omega
   ·rw [List.getElem?_set_ne hii]at hi'
    obtain⟨hl',hR'⟩:=hrows i' row' hi'
    refine⟨hl',fun j' c hj=> ?_⟩
    obtain⟨x,hx1,hx2,hx3⟩:=hR' j' c hj
    refine⟨x,?_,hx2,hx3.mono hx⟩
    simp only
    rw [World.cell?_setCells_out]
    ·exact hx1
    ·intro _ _
     simp only [Array.length_toList]
     have hj':j'<sz:=by have:=(List.getElem?_eq_some_iff.1 hj).1;omega
     have hjn:j+vs.size≤sz:=by omega
     rcases Nat.lt_or_gt_of_ne hii with h2|h2
     ·right
      have:(i+1)*sz≤i'*sz:=Nat.mul_le_mul_right _ h2
      exact Kr
     ·left
      have:(i'+1)*sz≤i*sz:=Nat.mul_le_mul_right _ h2
      exact Kr
theorem A2.get_put(h:A2)(b st:Nat)(x:Blk):A2.get (A2.put h b st x) b st=some x:=by simp [A2.get,A2.put]
theorem A2.put_put(h:A2)(b st st':Nat)(x y:Blk):A2.put (A2.put h b st x) b st' y=A2.put h b st' y:=by
 simp [A2.put,A2.del,List.filter_filter]
theorem B6u(w:World)(a:Addr)(v:Value)(r:Nat):(w.setCell a v).shape? r=w.shape? r:=by
 unfold World.shape? World.setCell
 simp only [Array.getElem?_modify]
 by_cases h:a.block=r
 ·rw [if_pos h]
  cases hx:w.heap[r]? with
  |none=>rfl
  |some ob=>
   cases ob<;>simp
   split<;>simp
 ·rw [if_neg h]
theorem B3P(w:World)(cs:Array Value)(e:TypeId):(w.alloc (.cells cs e)).shape? w.heap.size=some (e,cs.size):=by
 simp only [World.shape?,heap_alloc_new]
theorem A0V(b r:Nat): ∀(vs:List Value) (o:Nat) (w:World),(w.setCells b o vs).shape? r=w.shape? r
 | [],_,_=>rfl
 |v::l,o,w=>by rw [World.setCells,A0V b r l (o+1),B6u]
theorem HeapR.ofTb{h:A2}{n b st T sz:Nat}{rs:List (List V)}(hr:HeapR w O ρ n h)(hg:A2.get h b st=some (.tb T sz rs)):
  HeapR w O ρ n (A2.put h b st (.rows sz rs))∧Ext (A4 w O ρ n h) (A4 w O ρ n (A2.put h b st (.rows sz rs))):=by
 have hm:=A2.mem_of_get hg
 have hb:=hr.blk _ hm
 refine HeapR.step hr (Nat.le_refl _) (fun _ _=>rfl) (hr.lt _ hm) (Wd.refl _) (fun _ _ _=>rfl) ?_ (fun hx=>A9X.monoI hx.imm (hr.lt _ hm) (fun _=>rfl) hb.1)
 by_cases hc:(ρ st).cap=0
 ·exact .inl hc
 ·exact .inr (.inr ⟨_,hm,rfl,hc,rfl⟩)
theorem HeapR.toTb{h:A2}{n b st T sz:Nat}{rs:List (List V)}(hr:HeapR w O ρ n (A2.put h b st (.rows sz rs)))(h0:(ρ st).off=0)
  (ht:(ρ st).cap≠0→ ∃c,w.shape? (ρ st).blk=some (T,c)∧(ρ st).cap*sz≤c∧(sz≠1→c=rs.length*sz)):
  HeapR w O ρ n (A2.put h b st (.tb T sz rs))∧Ext (A4 w O ρ n (A2.put h b st (.rows sz rs))) (A4 w O ρ n (A2.put h b st (.tb T sz rs))):=by
 have hm:(b,st,Blk.rows sz rs)∈A2.put h b st (.rows sz rs):=List.mem_cons_self
 have hb:=hr.blk _ hm
 have key:=HeapR.step (x:= .tb T sz rs) (b:=b) (st:=st) hr (Nat.le_refl _) (fun _ _=>rfl) (hr.lt _ hm) (Wd.refl _) (fun _ _ _=>rfl) (by
  by_cases hc:(ρ st).cap=0
  ·exact .inl hc
  ·exact .inr (.inr ⟨_,hm,rfl,hc,rfl⟩)) (fun hx=>⟨A9X.monoI hx.imm (hr.lt _ hm) (fun _=>rfl) hb,h0,ht⟩)
 rw [A2.put_put]at key
 exact key
theorem C5w{x v:Operand}{x' v':Opd}{t:TypeId}{ti:TypeInfo}(ho:o.op= .store t x v)(hi:P.info? t=some ti)(hx:C3 x=some x')(hv:C3 v=some v')
  (hr:HeapR w O ρ s.n s.h) (he:EvR (A4 w O ρ s.n s.h) s η) (hk:A8 P PK (.store ti.size x' v') s k):C4 P PK k w O ρ s.h s.n ((execOp η o).run P w):=by
 have hx:=he.ev hx
 have hv:=he.ev hv
 simp only [A8]at hk
 generalize s.ev x'=vx at*
 generalize s.ev v'=vv at*
 cases hs:B6b s.h vx vv ti.size with
 |none=>rw [hs]at hk;exact hk.elim
 | some h'=>
  rw [hs]at hk
  unfold B6b at hs
  split at hs
  ·rename_i b st i j
   unfold B4s at hs
   split at hs
   ·rename_i sz rs cs hg hcs
    split at hs
    ·rename_i row hrow
     cases hb:(Nat.beq cs.length ti.size&&Nat.ble (j+ti.size) row.length)with
     |false=>rw [hb]at hs;cases hs
     | true=>
      rw [hb,cond_true]at hs
      injection hs with hs
      subst hs
      rw [Bool.and_eq_true]at hb
      have e1:=Nat.eq_of_beq_eq_true hb.1
      have e2:=Nat.le_of_ble_eq_true hb.2
      obtain⟨hR,h1⟩:=hv.cells hcs
      have hle:j+cs.length≤row.length:=by omega
      obtain⟨a1,a2,a3,a4⟩:=hr.store hg hrow hle hR h1
      obtain⟨_,hp⟩:=hx.ptr_inv
      have hsz:(ρ st).sz=sz:=(hr.blk _ (A2.mem_of_get hg)).1
      have hrun:=A3C (P:=P) w t (ρ st).blk ((ρ st).off+i*sz+j) (η v) hi (by rw [←hR.1];exact e1) a1 a2 h1
      have:(execOp η o).run P w= .ok .skip (w.setCells (ρ st).blk ((ρ st).off+i*sz+j) (η v).cells.toList):=by
       simp [execOp,ho,Instr.storeAt,hp,Instr.sureAddr,hsz,hrun]
      rw [this]
      exact⟨_,_,_,ρ,hk,a3,.undef _,a4⟩
    ·cases hs
   ·rename_i T sz rs cs hg hcs
    split at hs
    ·rename_i row hrow
     cases hb:(Nat.beq cs.length ti.size&&Nat.ble (j+ti.size) row.length)with
     |false=>rw [hb]at hs;cases hs
     | true=>
      rw [hb,cond_true]at hs
      injection hs with hs
      subst hs
      rw [Bool.and_eq_true]at hb
      have e1:=Nat.eq_of_beq_eq_true hb.1
      have e2:=Nat.le_of_ble_eq_true hb.2
      obtain⟨hR,h1⟩:=hv.cells hcs
      have hle:j+cs.length≤row.length:=by omega
      obtain⟨_,t2,t3⟩:=hr.blk _ (A2.mem_of_get hg)
      obtain⟨hr1,hx1⟩:=hr.ofTb hg
      obtain⟨a1,a2,a3,a4⟩:=hr1.store (A2.get_put _ _ _ _) hrow hle (vs:=(η v).cells) ⟨hR.1,fun i c u hc hu=>(hR.2 i c u hc hu).mono hx1⟩ h1
      rw [A2.put_put]at a3 a4
      obtain⟨b1,b2⟩:=a3.toTb (T:=T) t2 (fun hc=>by rw [A0V,List.length_set];exact t3 hc)
      obtain⟨_,hp⟩:=hx.ptr_inv
      have hsz:(ρ st).sz=sz:=(hr.blk _ (A2.mem_of_get hg)).1.1
      have hrun:=A3C (P:=P) w t (ρ st).blk ((ρ st).off+i*sz+j) (η v) hi (by rw [←hR.1];exact e1) a1 a2 h1
      have:(execOp η o).run P w= .ok .skip (w.setCells (ρ st).blk ((ρ st).off+i*sz+j) (η v).cells.toList):=by
       simp [execOp,ho,Instr.storeAt,hp,Instr.sureAddr,hsz,hrun]
      rw [this]
      exact⟨_,_,_,ρ,hk,b1,.undef _,hx1.trans (a4.trans b2)⟩
    ·cases hs
   ·cases hs
  ·cases hs
theorem C6z(vs:Array Value): ∀(cs:Array Value) (off:Nat),off+vs.size≤cs.size→
  (vs.zipIdx.foldl (fun cs p=>cs.setIfInBounds (off+p.2) p.1) cs).toList=cs.toList.take off++vs.toList++cs.toList.drop (off+vs.size):=by
 intro cs off h
 have key: ∀(l:List Value) (k:Nat) (cs:Array Value),off+k+l.length≤cs.size→
   ((l.zipIdx k).foldl (fun cs p=>cs.setIfInBounds (off+p.2) p.1) cs).toList=cs.toList.take (off+k)++l++cs.toList.drop (off+k+l.length):=by
  intro l
  induction l with
  |nil=>intro k cs h;simp
  | cons v r ih=>
   intro k cs h
   simp only [List.zipIdx_cons,List.foldl_cons]
   simp at h
   rw [ih (k+1) (cs.setIfInBounds (off+k) v) zr]
   apply List.ext_getElem?
   intro i
   simp only [Array.toList_setIfInBounds,List.append_assoc]
   rw [List.getElem?_append (l₁:=List.take (off+(k+1)) _),List.getElem?_append (l₁:=List.take (off+k) _)]
   simp only [List.length_take,List.length_set,Array.length_toList]
   have e1:min (off+(k+1)) cs.size=off+k+1:=by omega
   have e2:min (off+k) cs.size=off+k:=by omega
   rw [e1,e2]
   by_cases h1:i<off+k
   ·rw [if_pos zd,if_pos h1]
    simp only [List.getElem?_take,List.getElem?_set]
    rw [if_pos zd,if_pos h1,if_neg zd]
   ·by_cases h2:i=off+k
    ·subst h2
     rw [if_pos zd,if_neg zd]
     simp only [List.getElem?_take,List.getElem?_set]
     have hlt:off+k<cs.size:=by omega
     rw [if_pos zd]
     simp [hlt]
    ·rw [if_neg zd,if_neg h1]
     simp only [List.cons_append]
     have e3:i-(off+k)=(i-(off+k+1))+1:=by omega
     rw [e3,List.getElem?_cons_succ,List.getElem?_append,List.getElem?_append]
     split
     ·rfl
     ·simp only [List.getElem?_drop,List.getElem?_set,List.length_cons]
      rw [if_neg zd]
      congr 1;omega
 have:=key vs.toList 0 cs zp
 rw [←Array.foldl_toList,Array.toList_zipIdx]
 simpa using this
theorem C4u(vs:Array Value)(cs:Array Value)(off:Nat)(h:off+vs.size≤cs.size):
  (vs.zipIdx.foldl (fun cs (x:Value×Nat)=>match x with|(c,j)=>cs.setIfInBounds (off+j) c) cs).toList=cs.toList.take off++vs.toList++cs.toList.drop (off+vs.size):=C6z vs cs off h
theorem RL.put{E:Env}{z cs:List V}{zs vs zs':Array Value}{off:Nat}(hz:RL E z zs)(hc:RL E cs vs)(hle:off+cs.length≤z.length)(he:zs'.toList=zs.toList.take off++vs.toList++zs.toList.drop (off+vs.size)):
  RL E (I8 z off cs) zs':=by
 have h1:=hz.1
 have h2:=hc.1
 have hs:zs'.size=zs.size:=by
  rw [←Array.length_toList,he];simp;omega
 refine⟨by rw [A2i hle,hs,h1],fun i c v hi hv=> ?_⟩
 rw [B2x hle]at hi
 rw [←Array.getElem?_toList,he,List.append_assoc,List.getElem?_append,List.getElem?_append]at hv
 simp only [List.length_take,Array.length_toList]at hv
 have e1:min off zs.size=off:=by omega
 rw [e1]at hv
 split at hi
 ·rename_i h3
  rw [if_neg zd,if_pos zd]at hv
  exact hc.2 (i-off) c v hi zt
 ·rename_i h3
  by_cases h4:i<off
  ·rw [if_pos h4,List.getElem?_take,if_pos h4]at hv
   exact hz.2 i c v hi zt
  ·rw [if_neg h4,if_neg zd,List.getElem?_drop]at hv
   rw [show off+vs.size+(i-off-vs.size)=i from by omega]at hv
   exact hz.2 i c v hi zt
theorem C9n{zs vs zs':Array Value}{off:Nat}(hz: ∀(i:Nat) v,zs[i]? =some v→v.oneCell'=true)(hc: ∀(i:Nat) v,vs[i]? =some v→v.oneCell'=true)
  (he:zs'.toList=zs.toList.take off++vs.toList++zs.toList.drop (off+vs.size)): ∀(i:Nat) v,zs'[i]? =some v→v.oneCell'=true:=by
 intro i v hv
 rw [←Array.getElem?_toList,he]at hv
 have hmem:=List.mem_of_getElem? hv
 simp only [List.append_assoc,List.mem_append]at hmem
 rcases hmem with h|h|h
 ·obtain⟨j,hj⟩:=List.getElem?_of_mem (List.mem_of_mem_take h);exact hz j v zL
 ·obtain⟨j,hj⟩:=List.getElem?_of_mem h;exact hc j v zL
 ·obtain⟨j,hj⟩:=List.getElem?_of_mem (List.mem_of_mem_drop h);exact hz j v zL
def A4G(place:Nat→Option (Nat×Nat)):List (Nat×Operand)→Option (List (Nat×Nat×Opd))
 | []=>some []
 |p::r=>match place p.1,C3 p.2,A4G place r with
  |some q,some y,some qs=>some ((q.1,q.2,y)::qs)
  |_,_,_=>none
theorem B8k{place:Nat→Option (Nat×Nat)}: ∀(ps:List (Nat×Operand)) (qs:List (Nat×Nat×Opd)) (z z':List V) (zs:Array Value),A4G place ps=some qs→EvR (A4 w O ρ s.n s.h) s η→
  RL (A4 w O ρ s.n s.h) z zs→(∀(i:Nat) v,zs[i]? =some v→v.oneCell'=true)→A2m s z qs=some z'→
  ∃zs',Instr.fill place zs (ps.map fun p=>(p.1,η p.2))=some zs'∧RL (A4 w O ρ s.n s.h) z' zs'∧ ∀(i:Nat) v,zs'[i]? =some v→v.oneCell'=true
 | [],qs,z,z',zs,hp,_,hz,h1,hf=>by
  simp [A4G]at hp;subst hp
  simp [A2m]at hf;subst hf
  exact⟨zs,rfl,hz,h1⟩
 | p ::r,qs,z,z',zs,hp,he,hz,h1,hf=>by
  simp only [A4G]at hp
  split at hp
  ·rename_i q y qs' hq hy hqs
   injection hp with hp
   subst hp
   simp only [A2m]at hf
   split at hf
   ·rename_i cs hcs
    cases hb:(Nat.beq cs.length q.2&&Nat.ble (q.1+cs.length) z.length)with
    |false=>rw [hb]at hf;cases hf
    | true=>
     rw [hb,cond_true]at hf
     rw [Bool.and_eq_true]at hb
     have e1:=Nat.eq_of_beq_eq_true hb.1
     have e2:=Nat.le_of_ble_eq_true hb.2
     obtain⟨hR,h1c⟩:=(he.ev hy).cells hcs
     have hle:q.1+(η p.2).cells.size≤zs.size:=by rw [←hR.1,←hz.1];exact e2
     have hfold:=C4u (η p.2).cells zs q.1 hle
     obtain⟨zs',a1,a2,a3⟩:=B8k r qs' _ z' _ hqs he (hz.put hR e2 hfold) (C9n h1 h1c hfold) hf
     refine⟨zs',?_,a2,a3⟩
     simp only [List.map_cons,Instr.fill,hq]
     have hsz:(η p.2).cells.size=q.2:=by rw [←hR.1];exact e1
     rw [if_neg]
     ·exact a1
     ·rw [hsz]
      simp
      omega
   ·cases hf
  ·cases hp
theorem C2p(w:World)(fs:List Field)(g:Field→Option (Nat×Nat))(pl:List (Nat×Nat))(hg: ∀f q,g f=some q→ ∃i,P.info? f.type=some i∧q=(f.offset,i.size))(h:fs.mapM g=some pl):
  (fs.mapM (m:=Sem) fun f=>do pure (f.offset,←sizeOf f.type)).run P w= .ok pl w:=by
 induction fs generalizing pl with
 |nil=>simp at h;subst h;rfl
 | cons f r ih=>
  rw [List.mapM_cons]at h⊢
  cases h1:g f with
  |none=>simp [h1]at h
  | some q=>
   cases h2:r.mapM g with
   |none=>simp [h1,h2]at h
   |some qs=>
    simp [h1,h2]at h
    subst h
    obtain⟨i,hi,rfl⟩:=hg f q h1
    rw [Sem.run_bind,show (do let s←sizeOf f.type;pure (f.offset,s):Sem (Nat×Nat)).run P w= .ok (f.offset,i.size) w from by simp [sizeOf,typeInfo,hi]]
    simp only [Result.andThen_ok,Sem.run_bind,ih qs h2,Sem.run_pure]
def B4o(P:Program)(f:Field):Option (Nat×Nat):=(P.info? f.type).map fun i=>(f.offset,i.size)
theorem C5n{t:TypeId}{parts:Array (Nat×Operand)}{fs:Array Field}{pl:List (Nat×Nat)}{qs:List (Nat×Nat×Opd)}{z:List V}{ti:TypeInfo}{zv:Value}(ho:o.op= .build t parts)
  (ht:P.underlying t=some (.struct fs)) (hpl:fs.toList.mapM (B4o P)=some pl) (hi:P.info? t=some ti) (hz:ti.zero=some zv)
  (hzs: ∀E:Env,RL E z zv.cells) (h1: ∀(i:Nat) v,zv.cells[i]? =some v→v.oneCell'=true) (hp:A4G (pl[·]?) parts.toList=some qs)
  (hr:HeapR w O ρ s.n s.h) (he:EvR (A4 w O ρ s.n s.h) s η) (hk:A8 P PK (.build z qs) s k):C4 P PK k w O ρ s.h s.n ((execOp η o).run P w):=by
 obtain⟨r,hf,h2⟩:=G8 hk
 rw [Option.map_eq_some_iff]at hf
 obtain⟨z',hf,rfl⟩:=hf
 obtain⟨zs',a1,a2,a3⟩:=B8k parts.toList qs z z' zv.cells hp he (hzs _) h1 hf
 have hrun:=C2p (P:=P) w fs.toList (B4o P) pl (fun f q hq=>by
  simp only [B4o,Option.map_eq_some_iff]at hq
  obtain⟨i,hi,rfl⟩:=hq
  exact⟨i,hi,rfl⟩) hpl
 have hmap:(fs.mapM (m:=Sem) fun f=>do pure (f.offset,←sizeOf f.type)).run P w= .ok pl.toArray w:=by
  rw [Array.mapM_eq_mapM_toList]
  simp only [Sem.run_map,hrun,Result.andThen_ok]
 have:(execOp η o).run P w= .ok (.value (.agg zs')) w:=by
  have e:(parts.map fun(x:Nat×Operand)=>match x with|(i,x)=>(i,η x)).toList=parts.toList.map fun p=>(p.1,η p.2):=by
   rw [Array.toList_map]
  simp only [execOp,ho,Instr.build,Sem.run_bind,zeroValue,typeInfo,run_program,Result.andThen_ok,hi,Sem.run_pure,hz,run_underlying ht,hmap,e]
  have e2:(fun x=>pl.toArray[x]?)=(pl[·]? :Nat→Option (Nat×Nat)):=by funext x;simp
  rw [e2,a1]
  rfl
 rw [this]
 exact C4.val hr h2 (.agg _ _ a2.1 a3 a2.2)
theorem C2t{t e:TypeId}{len:Nat}{parts:Array (Nat×Operand)}{qs:List (Nat×Nat×Opd)}{z:List V}{ti ei:TypeInfo}{zv:Value}(ho:o.op= .build t parts)
  (ht:P.underlying t=some (.array len e)) (hei:P.info? e=some ei) (hi:P.info? t=some ti) (hz:ti.zero=some zv)
  (hzs: ∀E:Env,RL E z zv.cells) (h1: ∀(i:Nat) v,zv.cells[i]? =some v→v.oneCell'=true) (hp:A4G (fun i=>some (i*ei.size,ei.size)) parts.toList=some qs)
  (hr:HeapR w O ρ s.n s.h) (he:EvR (A4 w O ρ s.n s.h) s η) (hk:A8 P PK (.build z qs) s k):C4 P PK k w O ρ s.h s.n ((execOp η o).run P w):=by
 obtain⟨r,hf,h2⟩:=G8 hk
 rw [Option.map_eq_some_iff]at hf
 obtain⟨z',hf,rfl⟩:=hf
 obtain⟨zs',a1,a2,a3⟩:=B8k parts.toList qs z z' zv.cells hp he (hzs _) h1 hf
 have:(execOp η o).run P w= .ok (.value (.agg zs')) w:=by
  have e1:(parts.map fun(x:Nat×Operand)=>match x with|(i,x)=>(i,η x)).toList=parts.toList.map fun p=>(p.1,η p.2):=by
   rw [Array.toList_map]
  simp only [execOp,ho,Instr.build,Sem.run_bind,zeroValue,typeInfo,run_program,Result.andThen_ok,hi,Sem.run_pure,hz,run_underlying ht,sizeOf,hei,e1,a1]
 rw [this]
 exact C4.val hr h2 (.agg _ _ a2.1 a3 a2.2)
end
end Go.Abs
namespace Go.Abs
variable {PK:R8}
section
variable {P:Program} {k:Res} {w:World} {O:Nat→Prop} {ρ:Nat→Loc} {s:St} {η:Operand→Value} {o:Oper}
theorem B1d{r:List V}{rs:List (List V)}{sz:Nat}(h:D5 (r::rs) sz):r.length=sz∧D5 rs sz:=⟨h r zg,fun x hx=>h x (by simp [hx])⟩
theorem G1{rs:List (List V)}{sz:Nat}(h:D5 rs sz):rs.flatten.length=rs.length*sz:=by
 induction rs with
 |nil=>simp
 |cons r rs ih=>simp [ih (B1d h).2,(B1d h).1,Nat.add_mul];omega
theorem A5g{rs:List (List V)}{sz:Nat}(h:D5 rs sz): ∀(i j:Nat),j<sz→rs.flatten[i*sz+j]? =(rs[i]?).bind (·[j]?):=by
 induction rs with
 |nil=>intro i j _;simp
 | cons r rs ih=>
  intro i j hj
  obtain⟨h1,h2⟩:=B1d h
  rw [List.flatten_cons,List.getElem?_append]
  cases i with
  |zero=>rw [if_pos zd];simp
  |succ i=>
   have e:(i+1)*sz+j-r.length=i*sz+j:=by rw [Nat.add_mul,h1];omega
   rw [if_neg (by rw [Nat.add_mul,h1];omega),e,ih h2 i j hj]
   simp
theorem C1{rs:List (List V)}{sz:Nat}(h: ∀(i:Nat) row,rs[i]? =some row→row.length=sz):D5 rs sz:=fun row hr=>by
 obtain⟨i,hi⟩:=List.getElem?_of_mem hr
 exact h i row hi
theorem X0{rs:List (List V)}{sz:Nat}(h:D5 rs sz)(i:Nat)(row:List V)(hi:rs[i]? =some row):row.length=sz:=h row (List.mem_of_getElem? hi)
theorem B3r {E : Env} {b off sz:Nat}{rs:List (List V)}(h:D5 rs sz)(hr: ∀(i:Nat) row,rs[i]? =some row→A2D E b (off+i*sz) row):A2D E b off rs.flatten:=by
 intro q c hq
 have hlt:=(List.getElem?_eq_some_iff.1 hq).1
 rw [G1 h]at hlt
 have hsz : 0 < sz := by rcases Nat.eq_zero_or_pos sz with h0|h0;· subst h0;omega
                         ·exact h0
 have hj:=Nat.mod_lt q hsz
 have e:=Nat.div_add_mod q sz
 rw [Nat.mul_comm]at e
 rw [←e,A5g h _ _ hj,Option.bind_eq_some_iff]at hq
 obtain⟨row,hrow,hc⟩:=hq
 obtain⟨x,h1,h2⟩:=hr _ row hrow _ c hc
 exact⟨x,by rw [←h1];congr 2;omega,h2⟩
theorem B6W{E:Env}{b off sz:Nat}{rs:List (List V)}(h:D5 rs sz)(hr:A2D E b off rs.flatten)(i:Nat)(row:List V)(hi:rs[i]? =some row):A2D E b (off+i*sz) row:=by
 intro j c hj
 have hlt:=(List.getElem?_eq_some_iff.1 hj).1
 rw [X0 h i row hi]at hlt
 obtain⟨x,h1,h2⟩:=hr (i*sz+j) c (by rw [A5g h i j hlt,hi];exact hj)
 exact⟨x,by rw [←h1];congr 2;omega,h2⟩
theorem C8J{E:Env}{b off:Nat}{cs:List V}(h:A2D E b off cs): ∃vs:List Value,vs.length=cs.length∧(∀(q:Nat) v,vs[q]? =some v→E.w.cell? ⟨b,off+q,none⟩=some v)∧
  RL E cs vs.toArray∧ ∀(q:Nat) v,vs[q]? =some v→v.oneCell'=true:=by
 have hex: ∀i,∃x,i<cs.length→E.w.cell? ⟨b,off+i,none⟩=some x∧x.oneCell'=true∧ ∀c,cs[i]? =some c→R E c x:=by
  intro i
  by_cases hi:i<cs.length
  ·obtain⟨x,h1,h2,h3⟩:=h i cs[i] (by simp [hi])
   exact⟨x,fun _=>⟨h1,h2,fun c hc=>by simp [hi]at hc;subst hc;exact h3⟩⟩
  ·exact⟨Go.undef,fun h=>(hi h).elim⟩
 let f:=fun i=>(hex i).choose
 have hf:=fun i=>(hex i).choose_spec
 have get: ∀(q:Nat) v,((List.range cs.length).map f)[q]? =some v→q<cs.length∧v=f q:=by
  intro q v hv
  rw [List.getElem?_map,Option.map_eq_some_iff]at hv
  obtain⟨q',hq',rfl⟩:=hv
  have hlt:q<cs.length:=by have:=(List.getElem?_eq_some_iff.1 hq').1;simpa using this
  have:q'=q:=by have:=(List.getElem?_eq_some_iff.1 hq').2;simpa using this.symm
  exact⟨hlt,by rw [this]⟩
 refine⟨(List.range cs.length).map f,by simp,fun q v hv=> ?_,⟨by simp,fun q c v hc hv=> ?_⟩,fun q v hv=> ?_⟩
 ·obtain⟨h1,rfl⟩:=get q v hv;exact(hf q h1).1
 ·obtain⟨h1,rfl⟩:=get q v zt;exact(hf q h1).2.2 c hc
 ·obtain⟨h1,rfl⟩:=get q v hv;exact(hf q h1).2.1
theorem A2E(b o m:Nat):(⟨b,o,none⟩:Addr).add m=⟨b,o+m,none⟩:=by
 unfold Addr.add
 split
 ·rename_i h;subst h;rfl
 ·rfl
theorem A6M{h:A2}{n:Nat}(hr:HeapR w O ρ n h){x:V}{v:Value}{rs:List (List V)}{sz:Nat}(hx:R (A4 w O ρ n h) x v)(hv:A4E h x=some rs)(hsz:D5 rs sz):
  ∃(p:Option Addr) (cap:Nat) (vs:List Value),v= .slice p rs.length cap∧vs.length=rs.length*sz∧RL (A4 w O ρ n h) rs.flatten vs.toArray∧(∀(q:Nat) u,vs[q]? =some u→u.oneCell'=true)∧
   ∀(P:Program) (w':World),(∀a,w'.cell? a=w.cell? a)→(Builtin.firstCells sz rs.length v).run P w'= .ok vs.toArray w':=by
 have empty: ∀(p:Option Addr) (cap:Nat),v= .slice p 0 cap→rs= []→ ∃(p:Option Addr) (cap:Nat) (vs:List Value),v= .slice p rs.length cap∧vs.length=rs.length*sz∧RL (A4 w O ρ n h) rs.flatten vs.toArray∧(∀(q:Nat) u,vs[q]? =some u→u.oneCell'=true)∧
   ∀(P:Program) (w':World),(∀a,w'.cell? a=w.cell? a)→(Builtin.firstCells sz rs.length v).run P w'= .ok vs.toArray w':=by
  intro p cap hvv hrs
  subst hrs;subst hvv
  refine⟨p,cap,[],rfl,by simp,⟨rfl,by simp⟩,by simp,fun P w' _=> ?_⟩
  cases p with
  |none=>simp [Builtin.firstCells]
  |some a=>
   have:=run_loadCells_list (P:=P) w' a [] zg
   simpa [Builtin.firstCells]using this
 have full: ∀(b off cap:Nat),v= .slice (some ⟨b,off,none⟩) rs.length cap→A2D (A4 w O ρ n h) b off rs.flatten→ ∃(p:Option Addr) (cap:Nat) (vs:List Value),v= .slice p rs.length cap∧vs.length=rs.length*sz∧RL (A4 w O ρ n h) rs.flatten vs.toArray∧(∀(q:Nat) u,vs[q]? =some u→u.oneCell'=true)∧
   ∀(P:Program) (w':World),(∀a,w'.cell? a=w.cell? a)→(Builtin.firstCells sz rs.length v).run P w'= .ok vs.toArray w':=by
  intro b off cap hv hR
  obtain⟨vs,h1,h2,h3,h4⟩:=C8J hR
  rw [G1 hsz]at h1
  refine⟨_,cap,vs,hv,h1,h3,h4,fun P w' hw=> ?_⟩
  subst hv
  have:=run_loadCells_list (P:=P) w' ⟨b,off,none⟩ vs (fun j u hj=>by rw [A2E,hw];exact h2 j u hj)
  simpa [Builtin.firstCells,h1]using this
 unfold A4E at hv
 split at hv
 ·injection hv with hv
  exact empty none 0 hx.nils_inv hv.symm
 ·rename_i es
  injection hv with hv
  subst hv
  cases hx with
  | isl _ p cap sz' f hp hcap hrow hcell hR=>
   by_cases h0:es= []
   ·subst h0;exact empty (some p) cap rfl rfl
   ·have hs:sz'=sz:=by
     obtain⟨r,es',rfl⟩:=List.exists_cons_of_ne_nil h0
     rw [←hrow 0 r rfl,←hsz r zg]
    subst hs
    obtain⟨pb,po,ps⟩:=p
    simp only at hp
    subst hp
    exact full pb po cap rfl (B3r hsz fun i row hi j c hj=>⟨f i j,(hcell i row j c hi hj).1,(hcell i row j c hi hj).2.1,hR i row j c hi hj⟩)
  |isl0 a cap=>exact empty a cap rfl rfl
 ·rename_i b st i m
  split at hv
  ·rename_i sz' rs' hg
   cases hb:Nat.ble (i+m) rs'.length with
   |false=>rw [hb]at hv;cases hv
   | true=>
    rw [hb,cond_true]at hv
    injection hv with hv
    have hle:=Nat.le_of_ble_eq_true hb
    obtain⟨hsz',hlen,hcell,hrows⟩:=hr.blk _ (A2.mem_of_get hg)
    have hl:rs.length=m:=by rw [←hv];simp;omega
    cases hx with
    | sl _ _ _ _ cap hst hn hc=>
     by_cases h0:m=0
     ·subst h0;exact empty _ cap rfl (List.eq_nil_of_length_eq_zero hl)
     ·have hsz2:sz'=sz:=by
       have h1:i<rs'.length:=by omega
       have h2:rs[0]? =some rs'[i]:=by rw [←hv,List.getElem?_take,if_pos zd,List.getElem?_drop];simp [h1]
       rw [←(hrows i rs'[i] (by simp [h1])).1,X0 hsz 0 _ h2]
      subst hsz2
      have hsz3:(ρ st).sz=sz':=hsz'
      refine full (ρ st).blk ((ρ st).off+i*(ρ st).sz) cap (by rw [hl]) (B3r hsz fun i' row hi=> ?_)
      rw [←hv,List.getElem?_take]at hi
      split at hi
      ·rw [List.getElem?_drop]at hi
       have:=(hrows (i+i') row hi).2
       rw [Nat.add_mul,←Nat.add_assoc]at this
       rw [hsz3]
       exact this
      ·cases hi
    |sl0 _ _ _ a=>exact empty a 0 rfl (List.eq_nil_of_length_eq_zero hl)
  ·cases hb:Nat.beq m 0 with
   |false=>rw [hb]at hv;cases hv
   |true=>
    rw [hb,cond_true]at hv
    injection hv with hv
    have:=Nat.eq_of_beq_eq_true hb
    subst this
    obtain⟨p,c,hp⟩:=hx.sl_inv
    exact empty p c hp hv.symm
 ·cases hv
theorem B8K(b:List UInt8):(C2 b).flatten=b.map fun c=>V.int .u8 c.toNat:=by
 unfold C2
 induction b with
 |nil=>rfl
 |cons c r ih=>simpa using ih
theorem B7F{h:A2}{n:Nat}(hr:HeapR w O ρ n h){x:V}{v:Value}{rs:List (List V)}{sz:Nat}(hx:R (A4 w O ρ n h) x v)(hv:B2K h x=some rs)(hsz:D5 rs sz):
  ∃(vs:List Value),vs.length=rs.length*sz∧RL (A4 w O ρ n h) rs.flatten vs.toArray∧(∀(q:Nat) u,vs[q]? =some u→u.oneCell'=true)∧
   (∀(P:Program) (w':World),(Builtin.lenOf v).run P w'= .ok rs.length w')∧
   ∀(P:Program) (w':World),(∀a,w'.cell? a=w.cell? a)→(Builtin.firstCells sz rs.length v).run P w'= .ok vs.toArray w':=by
 unfold B2K at hv
 split at hv
 ·rename_i b
  injection hv with hv
  rw [hx.str_inv]
  have hl:rs.length=b.length:=by rw [←hv];simp [C2]
  have hflat:rs.flatten=b.map fun c=>V.int .u8 c.toNat:=by
   rw [←hv];exact B8K b
  have hsz1:rs≠ []→sz=1:=by
   intro h0
   obtain⟨r,rs',rfl⟩:=List.exists_cons_of_ne_nil h0
   rw [←hsz r zg]
   cases b with
   |nil=>simp [C2]at hv
   |cons c r'=>simp [C2]at hv;rw [←hv.1];rfl
  refine⟨b.map fun c=>Value.int .u8 c.toNat,?_,?_,?_,fun P w'=>by simp [Builtin.lenOf,hl];rfl,fun P w' _=> ?_⟩
  ·rw [List.length_map,←hl]
   by_cases h0:rs= []
   ·subst h0;simp
   ·rw [hsz1 h0,Nat.mul_one]
  ·rw [hflat]
   refine⟨by simp,fun q c u hc hu=> ?_⟩
   simp only [List.getElem?_map,Option.map_eq_some_iff,List.getElem?_toArray]at hc hu
   obtain⟨a,ha,rfl⟩:=hc
   obtain⟨a',ha',rfl⟩:=hu
   rw [ha]at ha'
   injection ha' with ha'
   subst ha'
   exact .int _ _
  ·intro q u hu
   rw [List.getElem?_map,Option.map_eq_some_iff]at hu
   obtain⟨a,_,rfl⟩:=hu
   rfl
  ·simp only [Builtin.firstCells,Sem.run_pure,hl]
   congr 1
   apply Array.ext'
   simp
 ·obtain⟨p,cap,vs,h1,h2,h3,h4,h5⟩:=A6M hr hx hv hsz
  exact⟨vs,h2,h3,h4,fun P w'=>by rw [h1];simp [Builtin.lenOf],h5⟩
end
end Go.Abs
namespace Go.Abs
variable {PK:R8}
section
variable {P:Program} {k:Res} {w:World} {O:Nat→Prop} {ρ:Nat→Loc} {s:St} {η:Operand→Value} {o:Oper}
theorem A2D.append{E:Env}{b off:Nat}{xs ys:List V}(h1:A2D E b off xs)(h2:A2D E b (off+xs.length) ys):A2D E b off (xs++ys):=by
 intro q c hq
 rw [List.getElem?_append]at hq
 split at hq
 ·exact h1 q c hq
 ·rename_i h
  obtain⟨x,a,b⟩:=h2 _ c hq
  exact⟨x,by rw [←a];congr 2;omega,b⟩
theorem A2D.mono{E E':Env}(hx:Ext E E'){b off:Nat}{cs:List V}(h:A2D E b off cs)(hw: ∀q,q<cs.length→E'.w.cell? ⟨b,off+q,none⟩=E.w.cell? ⟨b,off+q,none⟩):A2D E' b off cs:=by
 intro q c hq
 obtain⟨x,h1,h2,h3⟩:=h q c hq
 exact⟨x,by rw [hw q (List.getElem?_eq_some_iff.1 hq).1];exact h1,h2,h3.mono hx⟩
theorem B2B{xs ys:List (List V)}{sz:Nat}(h1:D5 xs sz)(h2:D5 ys sz):D5 (xs++ys) sz:=fun r hr=>by
 rcases List.mem_append.1 hr with h|h
 ·exact h1 r h
 ·exact h2 r h
theorem A5Y{xs:List (List V)}{sz:Nat}(h:D5 xs sz)(i m:Nat):D5 ((xs.drop i).take m) sz:=fun r hr=>h r (List.mem_of_mem_drop (List.mem_of_mem_take hr))
theorem HeapR.allocFlat{h:A2}{n:Nat}(hr:HeapR w O ρ n h)(nm sz cap:Nat)(rs:List (List V))(cs:Array Value)(el:TypeId)(hcs:cs.size=cap*sz)(hl:rs.length≤cap)(hsz:D5 rs sz)
  (hrow: ∀(q:Nat) c,rs.flatten[q]? =some c→ ∃x,cs[q]? =some x∧x.oneCell'=true∧R (A4 w O ρ n h) c x):
  ∃ρ':Nat→Loc,ρ' n=⟨w.heap.size,0,sz,cap⟩∧HeapR (w.alloc (.cells cs el)) O ρ' (n+1) (A2.put h nm n (.rows sz rs))∧
   Ext (A4 w O ρ n h) (A4 (w.alloc (.cells cs el)) O ρ' (n+1) (A2.put h nm n (.rows sz rs))):=
 hr.alloc nm sz cap rs cs el hcs hl fun i row hi=>⟨X0 hsz i row hi,fun j c hj=>by
  have hlt:=(List.getElem?_eq_some_iff.1 hj).1
  rw [X0 hsz i row hi]at hlt
  exact hrow (i*sz+j) c (by rw [A5g hsz i j hlt,hi];exact hj)⟩
theorem A9m{E:Env}{nm st m cap blk sz:Nat}(hst:st<E.n)(hρ:E.ρ st=⟨blk,0,sz,cap⟩)(hm:m≤cap):R E (.sl nm st 0 m) (.slice (some ⟨blk,0,none⟩) m cap):=by
 have:=R.sl (E:=E) nm st 0 m cap hst hm (by rw [hρ];simp)
 simpa [hρ]using this
theorem HeapR.drew{h:A2}{n:Nat}(hr:HeapR w O ρ n h):HeapR w.drew O ρ n h∧Ext (A4 w O ρ n h) (A4 w.drew O ρ n h):=hr.world (Wd.drew _) fun _ _=>rfl
section
variable {t u ty e:TypeId} {i:TypeInfo} {z:Value}
theorem A5Z{du:TypeDesc}(ht:P.underlying t=some (.slice e))(hu:P.underlying u=some du)(hd:(∃e',du= .slice e')∨du= .string)(hi:P.info? e=some i)(hz:i.zero=some z)
  (base:Option Addr) (sLen sCap m:Nat) (x:Value) (olds news:List Value) (hlen: ∀w',(Builtin.lenOf x).run P w'= .ok m w')
  (hold: ∀w',(∀a,w'.cell? a=w.cell? a)→(Builtin.firstCells i.size sLen (.slice base sLen sCap)).run P w'= .ok olds.toArray w') (hnew: ∀w',(∀a,w'.cell? a=w.cell? a)→(Builtin.firstCells i.size m x).run P w'= .ok news.toArray w')
  {L:Nat} (hL:L≤140737488355328) (hg:sCap<sLen+m) (h63:sLen+m≤L) (hb:L*i.bytes≤140737488355328):
  (Builtin.append_ #[t,u] ty #[.slice base sLen sCap,x]).run P w=
   .ok (.slice (some ⟨w.heap.size,0,none⟩) (sLen+m) (grownCap w (sLen+m) sCap e))
    (w.drew.alloc (.cells (olds.toArray++news.toArray++Builtin.zeroCells z.cells (grownCap w (sLen+m) sCap e-(sLen+m))) e)):=by
 have hn: ¬(sLen+m≤sCap):=by omega
 have h63': ¬(9223372036854775807<((sLen:Int)+(m:Int))):=by omega
 have h48': ¬(281474976710656<Builtin.nextslicecap (sLen+m) sCap*i.bytes):=by
  have:=growslice_fits (need:=sLen+m) (old:=sCap) (bytes:=i.bytes) hg (Nat.le_trans (Nat.mul_le_mul_right _ h63) hb)
  omega
 have h1:=hold w.drew fun _=>rfl
 have h2:=hnew w.drew fun _=>rfl
 have h3:=hlen w
 rcases hd with⟨e',rfl⟩|rfl
 ·exact XU
 ·exact XU
theorem A9k{du:TypeDesc}(ht:P.underlying t=some (.slice e))(hu:P.underlying u=some du)(hd:(∃e',du= .slice e')∨du= .string)(hi:P.info? e=some i)
  (b off sLen sCap m:Nat) (x:Value) (news:List Value) (hlen: ∀w',(Builtin.lenOf x).run P w'= .ok m w')
  (hnew: ∀w',(∀a,w'.cell? a=w.cell? a)→(Builtin.firstCells i.size m x).run P w'= .ok news.toArray w') (hg:sLen+m≤sCap)
  (hc: ∀j,j<news.length→(w.cell? ⟨b,off+sLen*i.size+j,none⟩).isSome=true) (hf: ∀j,j<news.length→w.frozen? ⟨b,off+sLen*i.size+j,none⟩=false) (h1: ∀(q:Nat) u,news[q]? =some u→u.oneCell'=true):
  (Builtin.append_ #[t,u] ty #[.slice (some ⟨b,off,none⟩) sLen sCap,x]).run P w= .ok (.slice (some ⟨b,off,none⟩) (sLen+m) sCap) (w.setCells b (off+sLen*i.size) news):=by
 have h2:=hnew w fun _=>rfl
 have h3:=hlen w
 have hst:=run_storeCells_cells (P:=P) b (off+sLen*i.size) news 0 w zA (by simpa using hf) (fun v hv=>by
  obtain⟨q,hq⟩:=List.getElem?_of_mem hv;exact h1 q v hq)
 rcases hd with⟨e',rfl⟩|rfl
 ·exact Km
 ·exact Km
theorem A7E{du:TypeDesc}(ht:P.underlying t=some (.slice e))(hu:P.underlying u=some du)(hd:(∃e',du= .slice e')∨du= .string)(hi:P.info? e=some i)
  (base:Option Addr) (x:Value) (hlen: ∀w',(Builtin.lenOf x).run P w'= .ok 0 w')
  (hnew: ∀w',(∀a,w'.cell? a=w.cell? a)→(Builtin.firstCells i.size 0 x).run P w'= .ok #[] w'):
  (Builtin.append_ #[t,u] ty #[.slice base 0 0,x]).run P w= .ok (.slice base 0 0) w:=by
 have h2:=hnew w fun _=>rfl
 have h3:=hlen w
 cases base<;>rcases hd with⟨e',rfl⟩|rfl<;>simp [Builtin.append_,run_underlying ht,run_underlying hu,sizeOf,typeInfo,hi,h3,h2,storeCells]
end
theorem RL.get_one{E:Env}{cs:List V}{vs:List Value}(h:RL E cs vs.toArray)(h1: ∀(q:Nat) u,vs[q]? =some u→u.oneCell'=true)(q:Nat)(c:V)(hq:cs[q]? =some c): ∃x,vs[q]? =some x∧x.oneCell'=true∧R E c x:=by
 have hlt:q<vs.length:=by have:=(List.getElem?_eq_some_iff.1 hq).1;have:=h.1;simp at this;omega
 exact⟨vs[q],by simp [hlt],h1 q _ zn,h.2 q c _ hq zn⟩
theorem B1o{nm n:Nat}{h:A2}(hr:HeapR w O ρ n h){olds news:List Value}{os ns:List (List V)}{sz cap:Nat}{z:Value}{e:TypeId}
  (hos:D5 os sz) (hns:D5 ns sz) (ho:RL (A4 w O ρ n h) os.flatten olds.toArray) (ho1: ∀(q:Nat) u,olds[q]? =some u→u.oneCell'=true)
  (hn:RL (A4 w O ρ n h) ns.flatten news.toArray) (hn1: ∀(q:Nat) u,news[q]? =some u→u.oneCell'=true) (hz:z.cells.size=sz) (hcap:os.length+ns.length≤cap):
  ∃ρ':Nat→Loc,ρ' n=⟨w.heap.size,0,sz,cap⟩∧
   HeapR (w.drew.alloc (.cells (olds.toArray++news.toArray++Builtin.zeroCells z.cells (cap-(os.length+ns.length))) e)) O ρ' (n+1) (A2.put h nm n (.rows sz (os++ns)))∧
   Ext (A4 w O ρ n h) (A4 (w.drew.alloc (.cells (olds.toArray++news.toArray++Builtin.zeroCells z.cells (cap-(os.length+ns.length))) e)) O ρ' (n+1) (A2.put h nm n (.rows sz (os++ns)))):=by
 obtain⟨hr1,hx1⟩:=hr.drew
 have l1:olds.length=os.length*sz:=by rw [←G1 hos];simpa using ho.1.symm
 have l2:news.length=ns.length*sz:=by rw [←G1 hns];simpa using hn.1.symm
 obtain⟨ρ',h1,h2,h3⟩:=hr1.allocFlat nm sz cap (os++ns) (olds.toArray++news.toArray++Builtin.zeroCells z.cells (cap-(os.length+ns.length))) e
  (by
    simp only [Array.size_append,List.size_toArray,size_zeroCells,hz,l1,l2]
    rw [←Nat.add_mul,←Nat.add_mul]
    congr 1;omega)
  (by simpa using hcap) (B2B hos hns) (fun q c hq=>by
    rw [List.flatten_append,List.getElem?_append]at hq
    split at hq
    ·rename_i hlt
     obtain⟨x,a1,a2,a3⟩:=ho.get_one ho1 q c hq
     refine⟨x,?_,a2,a3.mono hx1⟩
     have hlt':q<olds.length:=(List.getElem?_eq_some_iff.1 a1).1
     rw [Array.getElem?_append_left zr,Array.getElem?_append_left (by simpa using hlt')]
     simpa using a1
    ·rename_i hge
     rw [G1 hos]at hq hge
     obtain⟨x,a1,a2,a3⟩:=hn.get_one hn1 _ c hq
     refine⟨x,?_,a2,a3.mono hx1⟩
     have hlt':q-os.length*sz<news.length:=(List.getElem?_eq_some_iff.1 a1).1
     rw [Array.getElem?_append_left zr,Array.getElem?_append_right zr]
     simpa [l1]using a1)
 exact⟨ρ',h1,h2,hx1.trans h3⟩
theorem B4x{n:Nat}{h:A2}(hr:HeapR w O ρ n h){b st i m cap sz:Nat}{rs ns:List (List V)}{news:List Value}(hg:A2.get h b st=some (.rows sz rs))
  (hle:i+m≤rs.length) (hc:i+cap≤(ρ st).cap) (hns:D5 ns sz) (hn:RL (A4 w O ρ n h) ns.flatten news.toArray) (hn1: ∀(q:Nat) u,news[q]? =some u→u.oneCell'=true) (hfit:m+ns.length≤cap) (hcap:0<cap):
  (∀j,j<news.length→(w.cell? ⟨(ρ st).blk,(ρ st).off+i*sz+m*sz+j,none⟩).isSome=true)∧(∀j,j<news.length→w.frozen? ⟨(ρ st).blk,(ρ st).off+i*sz+m*sz+j,none⟩=false)∧
  ∃ρ':Nat→Loc,ρ' n=⟨(ρ st).blk,(ρ st).off+i*sz,sz,cap⟩∧
   HeapR (w.setCells (ρ st).blk ((ρ st).off+i*sz+m*sz) news) O ρ' (n+1) (A2.put h b n (.rows sz ((rs.drop i).take m++ns)))∧
   Ext (A4 w O ρ n h) (A4 (w.setCells (ρ st).blk ((ρ st).off+i*sz+m*sz) news) O ρ' (n+1) (A2.put h b n (.rows sz ((rs.drop i).take m++ns)))):=by
 have hm:=A2.mem_of_get hg
 obtain⟨hsz,hlen,hcell,hrows⟩:=hr.blk _ hm
 simp only at hsz hlen hcell hrows
 have hc0:(ρ st).cap≠0:=by omega
 obtain⟨hcell,hblk⟩:=hcell hc0
 have l2:news.length=ns.length*sz:=by rw [←G1 hns];simpa using hn.1.symm
 have hin: ∀q,q<cap*sz→i*sz+q<(ρ st).cap*sz:=by
  intro q hq
  have h2:(i+cap)*sz≤(ρ st).cap*sz:=Nat.mul_le_mul_right _ hc
  rw [Nat.add_mul]at h2
  omega
 have hnew: ∀j,j<news.length→m*sz+j<cap*sz:=by
  intro j hj
  have h2:(m+ns.length)*sz≤cap*sz:=Nat.mul_le_mul_right _ hfit
  rw [Nat.add_mul]at h2
  omega
 have hsome: ∀j,j<news.length→(w.cell? ⟨(ρ st).blk,(ρ st).off+i*sz+m*sz+j,none⟩).isSome=true:=fun j hj=>by
  have:=(hcell _ (hin _ (hnew j hj))).1
  rwa [show (ρ st).off+(i*sz+(m*sz+j))=(ρ st).off+i*sz+m*sz+j from by omega]at this
 refine⟨hsome,fun j hj=> ?_,?_⟩
 ·have:=(hcell _ (hin _ (hnew j hj))).2
  rwa [show (ρ st).off+(i*sz+(m*sz+j))=(ρ st).off+i*sz+m*sz+j from by omega]at this
 ·let ρ':Nat→Loc:=fun x=>if x=n then⟨(ρ st).blk,(ρ st).off+i*sz,sz,cap⟩else ρ x
  have hn':ρ' n=⟨(ρ st).blk,(ρ st).off+i*sz,sz,cap⟩:=by simp [ρ']
  refine⟨ρ',hn',?_⟩
  have hrsz:D5 rs sz:=C1 fun i row hi=>(hrows i row hi).1
  refine HeapR.step hr (Nat.le_succ _) (fun x hx=>by simp [ρ',Nat.ne_of_lt hx]) (Nat.lt_succ_self _) (Wd.setCells _ _ _ _)
   (fun y _ hyb=>O9 _ _ _ _ _ fun e=>by rw [hn']at hyb;have:=hyb e;simp at this;omega)
   (.inr (.inr ⟨_,hm,rfl,hc0,by rw [hn']⟩)) ?_
  intro hx
  have hvis:D5 ((rs.drop i).take m) sz:=A5Y hrsz i m
  have hvl:((rs.drop i).take m).length=m:=by simp;omega
  have hall:=B2B hvis hns
  have hflat:A2D (A4 (w.setCells (ρ st).blk ((ρ st).off+i*sz+m*sz) news) O ρ' (n+1) (A2.put h b n (.rows sz ((rs.drop i).take m++ns)))) (ρ st).blk ((ρ st).off+i*sz) ((rs.drop i).take m++ns).flatten:=by
   rw [List.flatten_append]
   refine A2D.append ?_ ?_
   ·have h0:A2D (A4 w O ρ n h) (ρ st).blk ((ρ st).off+i*sz) ((rs.drop i).take m).flatten:=B3r hvis fun i' row hi=>by
     rw [List.getElem?_take]at hi
     split at hi
     ·rw [List.getElem?_drop]at hi
      have:=(hrows (i+i') row hi).2
      rw [Nat.add_mul,←Nat.add_assoc]at this
      exact this
     ·cases hi
    refine h0.mono hx fun q hq=> ?_
    rw [G1 hvis,hvl]at hq
    exact World.cell?_setCells_out _ _ _ _ _ fun _ _=> .inl zj
   ·rw [G1 hvis,hvl]
    intro q c hq
    obtain⟨x,a1,a2,a3⟩:=hn.get_one hn1 q c hq
    have hlt':q<news.length:=(List.getElem?_eq_some_iff.1 a1).1
    refine⟨x,?_,a2,a3.mono hx⟩
    have hput:=World.cell?_setCells_in (ρ st).blk news ((ρ st).off+i*sz+m*sz) w hsome q hlt'
    exact Kf
  refine⟨by simp [hn'],by simp only [hn'];rw [List.length_append,hvl];exact hfit,fun _=>⟨fun j hj=> ?_,by simp only [hn'];rw [A1Q];exact hblk⟩,fun i' row hi=>⟨X0 hall i' row hi,?_⟩⟩
  ·simp only [hn']at hj⊢
   rw [f8,World.frozen?_setCells]
   have:=hcell _ (hin j hj)
   rwa [show (ρ st).off+(i*sz+j)=(ρ st).off+i*sz+j from by omega]at this
  ·simp only [hn']
   exact B6W hall hflat i' row hi
theorem B4r{x y:Operand}{x' y':Opd}{t u e:TypeId}{nm L:Nat}{ti:TypeInfo}{z:Value}{du:TypeDesc}(ho:o.op= .call {callee:= .builtin .append,args:= #[x,y],argTypes:= #[t,u]})
  (ht:P.underlying t=some (.slice e)) (hu:P.underlying u=some du) (hd:(∃e',du= .slice e')∨du= .string) (hi:P.info? e=some ti) (hz:ti.zero=some z) (hzs:z.cells.size=ti.size) (hL:L≤140737488355328) (hb:L*ti.bytes≤140737488355328)
  (hx:C3 x=some x') (hy:C3 y=some y')
  (hr:HeapR w O ρ s.n s.h) (he:EvR (A4 w O ρ s.n s.h) s η) (hk:A7U L nm ti.size (s.ev x') (B2K s.h (s.ev y')) k s.h s.n):C4 P PK k w O ρ s.h s.n ((execOp η o).run P w):=by
 have hx:=he.ev hx
 have hy:=he.ev hy
 generalize s.ev x'=vx at*
 generalize s.ev y'=vy at*
 have run: ∀v w',(Builtin.append_ #[t,u] o.type #[η x,η y]).run P w= .ok v w'→(execOp η o).run P w= .ok (.value v) w':=by
  exact YY
 unfold A7U at hk
 split at hk
 ·exact XJ
 ·rename_i xs hsrc
  obtain⟨hxs,hk⟩:=hk
  obtain⟨news,n1,n2,n3,n4,n5⟩:=B7F hr hy hsrc hxs
  have growth: ∀(base:Option Addr) (m cap:Nat) (os:List (List V)) (olds:List Value) (nm':Nat),η x= .slice base m cap→os.length=m→D5 os ti.size→RL (A4 w O ρ s.n s.h) os.flatten olds.toArray→(∀(q:Nat) u,olds[q]? =some u→u.oneCell'=true)→
    (∀w',(∀a,w'.cell? a=w.cell? a)→(Builtin.firstCells ti.size m (.slice base m cap)).run P w'= .ok olds.toArray w')→cap<m+xs.length→m+xs.length≤L→
    k (.sl nm' s.n 0 (m+xs.length)) (A2.put s.h nm' s.n (.rows ti.size (os++xs))) (s.n+1)→C4 P PK k w O ρ s.h s.n ((execOp η o).run P w):=by
   intro base m cap os olds nm' hv hl hos holds ho1 hfirst hlt hbound hk
   have hrun:=A5Z (w:=w) (ty:=o.type) ht hu hd hi hz base m cap xs.length (η y) olds news (n4 P) hfirst (n5 P) hL hlt hbound hb
   rw [run _ _ Ql]
   have hge:=grownCap_ge w (m+xs.length) cap e
   subst hl
   obtain⟨ρ',a1,a2,a3⟩:=B1o (nm:=nm') (e:=e) hr hos hxs holds ho1 n2 n3 hzs hge
   exact⟨_,_,_,ρ',hk,a2,A9m (Nat.lt_succ_self _) a1 hge,a3⟩
  have nothing: ∀(base:Option Addr) (nm':Nat),η x= .slice base 0 0→xs= []→k (.sl nm' s.n 0 0) (A2.put s.h nm' s.n (.rows ti.size [])) (s.n+1)→C4 P PK k w O ρ s.h s.n ((execOp η o).run P w):=by
   intro base nm' hv hx0 hk2
   clear hk
   subst hx0
   have hn0:news= []:=List.eq_nil_of_length_eq_zero (by simpa using n1)
   subst hn0
   have hrun:=A7E (w:=w) (ty:=o.type) ht hu hd hi base (η y) (n4 P) (n5 P)
   rw [run _ _ Ql]
   let ρ':Nat→Loc:=fun st=>if st=s.n then⟨0,0,ti.size,0⟩else ρ st
   have hn:ρ' s.n=⟨0,0,ti.size,0⟩:=by simp [ρ']
   obtain⟨a2,a3⟩:=HeapR.step (w':=w) (ρ':=ρ') (n':=s.n+1) (b:=nm') (st:=s.n) (x:= .rows ti.size []) hr (Nat.le_succ _) (fun st hst=>by simp [ρ',Nat.ne_of_lt hst]) (Nat.lt_succ_self _) (Wd.refl _)
    (fun _ _ _=>rfl) (.inl (by rw [hn])) (fun _=>⟨by simp [hn],by simp,fun h=>by simp [hn]at h,by simp⟩)
   exact⟨_,_,_,ρ',hk2,a2,.sl0 _ _ _ _,a3⟩
  split at hk
  ·obtain⟨hb2,hk⟩:=hk
   have hv:=hx.nils_inv
   by_cases h0:xs= []
   ·subst h0;exact nothing none nm hv rfl hk
   ·have hpos:0<xs.length:=List.length_pos_iff.2 h0
    refine growth none 0 0 [] [] nm hv rfl (by intro r hr;simp at hr) ⟨rfl,by simp⟩ zg (fun w' _=>by simp [Builtin.firstCells]) zd zd ?_
    simpa using hk
  ·rename_i b st i m
   split at hk
   ·rename_i sz' rs hg
    obtain⟨rfl,hle,hbound,hk⟩:=hk
    have hvl:((rs.drop i).take m).length=m:=by simp;omega
    have hrsz:D5 rs ti.size:=C1 fun i row hi=>((hr.blk _ (A2.mem_of_get hg)).2.2.2 i row hi).1
    have hview:A4E s.h (.sl b st i m)=some ((rs.drop i).take m):=by
     simp [A4E,hg,Nat.ble_eq_true_of_le hle]
    obtain⟨p,cap,olds,o1,o2,o3,o4,o5⟩:=A6M hr hx hview (A5Y hrsz i m)
    rw [hvl]at o1 o5
    generalize hvx:η x=vv at hx
    have hsz:(ρ st).sz=ti.size:=(hr.blk _ (A2.mem_of_get hg)).1
    rw [hvx]at o1 o5
    cases hx with
    | sl _ _ _ _ cap' hst hn hc=>
     by_cases hfit:m+xs.length≤cap'
     ·by_cases hc0:cap'=0
      ·subst hc0
       have hm0:m=0:=by omega
       have hx0:xs= []:=List.eq_nil_of_length_eq_zero zd
       subst hm0;subst hx0
       exact nothing _ b hvx rfl zS
      ·obtain⟨a1,a2,ρ',a3,a4,a5⟩:=B4x hr hg hle hc hxs n2 n3 hfit (Nat.pos_of_ne_zero hc0)
       have hrun:=A9k (w:=w) (ty:=o.type) ht hu hd hi (ρ st).blk ((ρ st).off+i*ti.size) m cap' xs.length (η y) news (n4 P) (n5 P) hfit a1 a2 n3
       rw [run _ _ (by rw [hvx,hsz];exact hrun)]
       refine⟨_,_,_,ρ',hk,a4,?_,a5⟩
       have:=R.sl (E:=A4 (w.setCells (ρ st).blk ((ρ st).off+i*ti.size+m*ti.size) news) O ρ' (s.n+1) (A2.put s.h b s.n (.rows ti.size ((rs.drop i).take m++xs)))) b s.n 0 (m+xs.length) cap' (Nat.lt_succ_self _) hfit (by simp [a3])
       simpa [a3]using this
     ·injection o1 with o1 o1' o1''
      subst o1''
      exact growth _ m cap' _ olds b hvx hvl (A5Y hrsz i m) o3 o4 (fun w' hw=>o5 P w' hw) zd hbound hk
    | sl0 _ _ _ a=>
     by_cases h0:xs= []
     ·subst h0;exact nothing a b hvx rfl zS
     ·have hpos:0<xs.length:=List.length_pos_iff.2 h0
      injection o1 with o1 o1' o1''
      subst o1''
      exact growth _ 0 0 _ olds b hvx hvl (A5Y hrsz i 0) o3 o4 (fun w' hw=>o5 P w' hw) zd hbound hk
   ·exact XJ
  ·exact XJ
end
end Go.Abs
namespace Go.Abs
variable {PK:R8}
section
variable {P:Program} {k:Res} {w:World} {O:Nat→Prop} {ρ:Nat→Loc} {s:St} {η:Operand→Value} {o:Oper}
def B3p(sz:Nat):Nat→List Opd→List (Nat×Nat×Opd)
 |_,[]=> []
 |k,y::r=>(k*sz,sz,y)::B3p sz (k+1) r
theorem B1E(sz:Nat): ∀(ps:List (Nat×Operand)) (k:Nat) (ys:List Opd),ps.map (·.1)=List.range' k ps.length→R9 (ps.map (·.2))=some ys→
  A4G (fun i=>some (i*sz,sz)) ps=some (B3p sz k ys)
 | [],k,ys,_,h=>by simp [R9]at h;subst h;rfl
 | p::r,k,ys,h1,h=>by
  simp only [List.map_cons,R9]at h
  split at h
  ·rename_i y ys' hy hys
   injection h with h
   subst h
   simp only [List.map_cons,List.length_cons,List.range'_succ,List.cons.injEq]at h1
   simp only [A4G,hy,B1E sz r (k+1) ys' h1.2 hys,h1.1,B3p]
  ·cases h
theorem B7y{sz:Nat}: ∀{ys:List Opd} {rs:List (List V)},I9 sz s ys=some rs→D5 rs sz∧rs.length=ys.length
 | [],rs,h=>by simp [I9]at h;subst h;exact⟨by intro r hr;simp at hr,rfl⟩
 | y::r,rs,h=>by
  simp only [I9]at h
  split at h
  ·rename_i cs rs' hc hr
   cases hb:Nat.beq cs.length sz with
   |false=>rw [hb]at h;cases h
   |true=>
    rw [hb,cond_true]at h
    injection h with h
    subst h
    obtain⟨h1,h2⟩:=B7y hr
    refine⟨fun x hx=> ?_,by simp [h2]⟩
    rcases List.mem_cons.1 hx with rfl|hx
    ·exact Nat.eq_of_beq_eq_true hb
    ·exact h1 x hx
  ·cases h
theorem B6U{sz:Nat}: ∀(ys:List Opd) (k:Nat) (z:List V) (rs:List (List V)),I9 sz s ys=some rs→z.length=(k+ys.length)*sz→A2m s z (B3p sz k ys)=some (z.take (k*sz)++rs.flatten)
 | [],k,z,rs,h,hz=>by
  simp [I9]at h;subst h
  simp only [B3p,A2m,List.flatten_nil,List.append_nil]
  rw [List.take_of_length_le (by rw [hz];simp)]
 | y::r,k,z,rs,h,hz=>by
  simp only [I9]at h
  split at h
  ·rename_i cs rs' hc hr
   cases hb:Nat.beq cs.length sz with
   |false=>rw [hb]at h;cases h
   |true=>
    rw [hb,cond_true]at h
    injection h with h
    subst h
    have hl:=Nat.eq_of_beq_eq_true hb
    have e1:k*sz+sz=(k+1)*sz:=by rw [Nat.add_mul,Nat.one_mul]
    have e2:(k+1)*sz≤z.length:=by rw [hz];exact Nat.mul_le_mul_right _ zD
    have hle:k*sz+cs.length≤z.length:=by rw [hl];omega
    simp only [B3p,A2m,hc,hb,Bool.true_and,Nat.ble_eq_true_of_le hle,cond_true]
    rw [B6U r (k+1) _ rs' hr (by rw [A2i hle,hz];congr 1;simp;omega)]
    congr 1
    rw [List.flatten_cons,←List.append_assoc]
    congr 1
    unfold I8
    rw [List.take_append_of_le_length zr,List.take_of_length_le zr]
  ·cases h
theorem A4T{t e:TypeId}{len:Nat}{parts:Array (Nat×Operand)}{ys:List Opd}{ti:TypeInfo}{z:Value}{rs:List (List V)}(ho:o.op= .buildSlice t len parts)(ht:P.underlying t=some (.slice e))(hi:P.info? e=some ti)(hz:ti.zero=some z)
  (hzs:z.cells.size=ti.size) (hz1: ∀(i:Nat) v,z.cells[i]? =some v→v.oneCell'=true) (h24:len*ti.size≤16777216) (hp:parts.toList.map (·.1)=List.range' 0 parts.toList.length) (hl:parts.toList.length=len) (hy:R9 (parts.toList.map (·.2))=some ys)
  (he:EvR (A4 w O ρ s.n s.h) s η) (hrs:I9 ti.size s ys=some rs): ∃zs:Array Value,RL (A4 w O ρ s.n s.h) rs.flatten zs∧(∀(i:Nat) v,zs[i]? =some v→v.oneCell'=true)∧rs.length=len∧D5 rs ti.size∧
   (execOp η o).run P w= .ok (.value (.slice (some ⟨w.heap.size,0,none⟩) len len)) (w.alloc (.cells zs e)):=by
 have hyl:ys.length=len:=by
  have: ∀(l:List Operand) (ys:List Opd),R9 l=some ys→ys.length=l.length:=by
   intro l
   induction l with
   |nil=>intro ys h;simp [R9]at h;subst h;rfl
   |cons x r ih=>
    intro ys h
    simp only [R9]at h
    split at h
    ·rename_i y ys' _ h2;injection h with h;subst h;simp [ih _ h2]
    ·cases h
  rw [this _ _ hy];simpa using hl
 have hqs:=B1E ti.size parts.toList 0 ys hp hy
 generalize hZ:(if len*ti.size=0 then(#[]:Array Value)else z.cells)=Z
 generalize hz0:((Array.range (len*ti.size)).map fun i=>Z[i%Z.size]!)=zs0
 have hzs0:zs0.size=len*ti.size:=by rw [←hz0];simp
 have hz01: ∀(i:Nat) v,zs0[i]? =some v→v.oneCell'=true:=by
  intro i v hv
  by_cases h0:len*ti.size=0
  ·have:i<zs0.size:=(Array.getElem?_eq_some_iff.1 hv).1
   omega
  ·rw [←hz0]at hv
   rw [if_neg h0]at hZ
   subst hZ
   simp only [Array.getElem?_map,Option.map_eq_some_iff]at hv
   obtain⟨j,_,rfl⟩:=hv
   have hpos:0<z.cells.size:=by rw [hzs];exact Nat.pos_of_ne_zero fun h=>h0 (by rw [h];rfl)
   have hlt:=Nat.mod_lt j hpos
   rw [getElem!_pos z.cells _ hlt]
   exact hz1 (j%z.cells.size) z.cells[j%z.cells.size] zn
 have hfv:=B6U (s:=s) ys 0 (List.replicate (len*ti.size) V.undef) rs hrs (by simp [hyl])
 simp only [Nat.zero_mul,List.take_zero,List.nil_append]at hfv
 obtain⟨zs,a1,a2,a3⟩:=B8k parts.toList _ _ _ zs0 hqs he ⟨by simp [hzs0],fun i c v hc _=>by
  rw [List.getElem?_replicate]at hc
  split at hc
  ·injection hc with hc;subst hc;exact .undef _
  ·cases hc⟩ hz01 hfv
 obtain⟨hsz,hrl⟩:=B7y hrs
 refine⟨zs,a2,a3,by rw [hrl,hyl],hsz,?_⟩
 have e1:(parts.map fun(x:Nat×Operand)=>match x with|(i,x)=>(i,η x)).toList=parts.toList.map fun p=>(p.1,η p.2):=by rw [Array.toList_map]
 have h24': ¬(len*ti.size>2^24):=by omega
 by_cases h0:len*ti.size=0
 ·rw [if_pos h0]at hZ
  subst hZ
  have hz00:zs0= #[]:=by rw [←hz0,h0];simp
  rw [hz00]at a1
  simp only [execOp,ho,Instr.buildSlice,Sem.run_bind,run_underlying ht,Result.andThen_ok,sizeOf,typeInfo,run_program,hi,Sem.run_pure,e1]
  have r0:Array.range 0= #[]:=rfl
  simp only [h0,gt_iff_lt,Nat.not_lt_zero,if_false,if_true,r0,List.map_toArray,List.map_nil,a1]
  simp [newRow]
 ·rw [if_neg h0]at hZ
  subst hZ
  simp only [execOp,ho,Instr.buildSlice,Sem.run_bind,run_underlying ht,Result.andThen_ok,sizeOf,typeInfo,run_program,hi,Sem.run_pure,e1]
  simp only [if_neg h24',if_neg h0,Sem.run_pure,Sem.run_bind,zeroValue,typeInfo,run_program,hi,hz,Result.andThen_ok,hz0,a1]
  simp [newRow]
theorem C5u{t e:TypeId}{len nm:Nat}{parts:Array (Nat×Operand)}{ys:List Opd}{ti:TypeInfo}{z:Value}(ho:o.op= .buildSlice t len parts)(ht:P.underlying t=some (.slice e))(hi:P.info? e=some ti)(hz:ti.zero=some z)
  (hzs:z.cells.size=ti.size) (hz1: ∀(i:Nat) v,z.cells[i]? =some v→v.oneCell'=true) (h24:len*ti.size≤16777216) (hp:parts.toList.map (·.1)=List.range' 0 parts.toList.length) (hl:parts.toList.length=len) (hy:R9 (parts.toList.map (·.2))=some ys)
  (hr:HeapR w O ρ s.n s.h) (he:EvR (A4 w O ρ s.n s.h) s η) (hk:A8 P PK (.mkrow nm ti.size ys) s k):C4 P PK k w O ρ s.h s.n ((execOp η o).run P w):=by
 simp only [A8]at hk
 cases hrs:I9 ti.size s ys with
 |none=>rw [hrs]at hk;exact hk.elim
 | some rs=>
  rw [hrs]at hk
  obtain⟨zs,a1,a2,a3,a4,a5⟩:=A4T ho ht hi hz hzs hz1 h24 hp hl hy he hrs
  rw [a5]
  obtain⟨ρ',b1,b2,b3⟩:=hr.allocFlat nm ti.size len rs zs e (by rw [←a1.1,G1 a4,a3]) zd a4 (fun q c hq=>by
   have hlt:q<zs.size:=by have:=(List.getElem?_eq_some_iff.1 hq).1;rw [←a1.1];exact this
   exact⟨zs[q],by simp [hlt],a2 q _ zn,a1.2 q c _ hq zn⟩)
  refine⟨_,_,_,ρ',hk,b2,?_,b3⟩
  rw [a3]
  exact A9m (Nat.lt_succ_self _) b1 (Nat.le_refl _)
theorem C5t{t e:TypeId}{len nm:Nat}{parts:Array (Nat×Operand)}{ys:List Opd}{ti:TypeInfo}{z:Value}(ho:o.op= .buildSlice t len parts)(ht:P.underlying t=some (.slice e))(hi:P.info? e=some ti)(hz:ti.zero=some z)
  (hzs:z.cells.size=ti.size) (hz1: ∀(i:Nat) v,z.cells[i]? =some v→v.oneCell'=true) (h24:len*ti.size≤16777216) (hp:parts.toList.map (·.1)=List.range' 0 parts.toList.length) (hl:parts.toList.length=len) (hy:R9 (parts.toList.map (·.2))=some ys) (h1s:ti.size=1)
  (hr:HeapR w O ρ s.n s.h) (he:EvR (A4 w O ρ s.n s.h) s η) (hk:A8 P PK (.mkraw nm ys) s k):C4 P PK k w O ρ s.h s.n ((execOp η o).run P w):=by
 simp only [A8]at hk
 rw [←h1s]at hk
 cases hrs:I9 ti.size s ys with
 |none=>rw [hrs]at hk;exact hk.elim
 | some rs=>
  rw [hrs]at hk
  obtain⟨hpos,hk⟩:=hk
  obtain⟨zs,a1,a2,a3,a4,a5⟩:=A4T ho ht hi hz hzs hz1 h24 hp hl hy he hrs
  rw [a5]
  rw [h1s]at a4
  have hzl:zs.size=len:=by rw [←a1.1,G1 a4,a3,Nat.mul_one]
  let ρ':Nat→Loc:=fun st=>if st=s.n then⟨w.heap.size,0,1,len⟩else ρ st
  have hn:ρ' s.n=⟨w.heap.size,0,1,len⟩:=by simp [ρ']
  obtain⟨b2,b3⟩:=HeapR.step (w':=w.alloc (.cells zs e)) (ρ':=ρ') (n':=s.n+1) (b:=nm) (st:=s.n) (x:= .raw rs) hr (Nat.le_succ _) (fun st hst=>by simp [ρ',Nat.ne_of_lt hst]) (Nat.lt_succ_self _) (Wd.alloc _ _)
   (fun y hy _=>A1L _ _ _ hy) (by rw [hn];exact .inr (.inl (Nat.le_refl _))) (fun hx=>by
     refine⟨by simp [hn];omega,by simp [hn,a3],⟨zs,e,by show (w.alloc (.cells zs e)).heap[(ρ' s.n).blk]? =_;rw [hn];show (w.heap.push _)[w.heap.size]? =_;simp,by show zs.size=(ρ' s.n).cap;rw [hn,hzl]⟩,fun i row hi=> ?_⟩
     have hrow:=X0 a4 i row hi
     refine⟨hrow,fun j c hj=> ?_⟩
     have hlt:=(List.getElem?_eq_some_iff.1 hj).1
     have hq:rs.flatten[i*1+j]? =some c:=by rw [A5g a4 i j zd,hi];exact hj
     have hlt2:i*1+j<zs.size:=by have:=(List.getElem?_eq_some_iff.1 hq).1;rw [←a1.1];exact this
     obtain⟨x,hx0⟩: ∃x,zs[i*1+j]? =some x:=⟨zs[i*1+j],Array.getElem?_eq_getElem hlt2⟩
     refine⟨x,?_,a2 _ _ hx0,(a1.2 _ c _ hq hx0).mono hx⟩
     show (w.alloc (.cells zs e)).cell? ⟨(ρ' s.n).blk,(ρ' s.n).off+i*1+j,none⟩=_
     rw [hn]
     show (w.alloc (.cells zs e)).cell? ⟨w.heap.size,0+i*1+j,none⟩=_
     rw [Nat.zero_add]
     simp only [Nat.mul_one]at hx0⊢
     simp [hx0])
  refine⟨_,_,_,ρ',hk,b2,?_,b3⟩
  rw [a3]
  exact A9m (Nat.lt_succ_self _) hn (Nat.le_refl _)
theorem C9H{t e:TypeId}{a:Addr}{n c:Nat}{cs:Array Value}{el:TypeId}(ht:P.underlying t=some (.slice e))(he8:P.underlying e=some (.int .u8))(hb:w.heap[a.block]? =some (.cells cs el)):
  (convert t t (.slice (some a) n c)).run P w= .ok (.slice (some a) n c) {w with heap:=w.heap.setIfInBounds a.block (.cells cs el (cs.size,cs.size+1))}:=by
 have hsh:w.shape? a.block=some (el,cs.size):=by unfold World.shape?;rw [hb]
 have hlt:=(Array.getElem?_eq_some_iff.1 hb).1
 have hfr:w.freeze ⟨a.block,cs.size,none⟩ 1={w with heap:=w.heap.setIfInBounds a.block (.cells cs el (cs.size,cs.size+1))}:=by
  unfold World.freeze
  rw [if_neg zf]
  have hg:w.heap[a.block]= .cells cs el:=(Array.getElem?_eq_some_iff.1 hb).2
  congr 1
  apply Array.ext
  ·simp
  ·intro i h1 h2
   simp only [Array.getElem_modify]
   by_cases h:a.block=i
   ·subst h
    simp [hg]
   ·rw [if_neg h,Array.getElem_setIfInBounds_ne _ h]
 simp [convert,run_underlying ht,run_underlying he8,markStringish,hsh]
 exact hfr
theorem C9M{x:Operand}{x':Opd}{a e:TypeId}(ho:o.op= .convert a a x)(ha:P.underlying a=some (.slice e))(he8:P.underlying e=some (.int .u8))(hx:C3 x=some x')
  (hr:HeapR w O ρ s.n s.h) (he:EvR (A4 w O ρ s.n s.h) s η) (hk:A8 P PK (.cvr x') s k):C4 P PK k w O ρ s.h s.n ((execOp η o).run P w):=by
 have hx:=he.ev hx
 simp only [A8]at hk
 generalize s.ev x'=vx at*
 unfold B8f at hk
 split at hk
 ·rename_i b st m
  unfold C1r at hk
  split at hk
  ·rename_i rs hg
   obtain⟨rfl,hk⟩:=hk
   have hm:=A2.mem_of_get hg
   obtain⟨h1,⟨h2,h3,h4⟩,⟨cs,el,h5,h6⟩,h7⟩:=hr.blk _ hm
   have h1:(ρ st).cap≠0:=h1
   have h2:(ρ st).off=0:=h2
   have h3:(ρ st).sz=1:=h3
   have h4:rs.length=(ρ st).cap:=h4
   have h5:w.heap[(ρ st).blk]? =some (.cells cs el):=h5
   have h6:cs.size=(ρ st).cap:=h6
   obtain⟨cap,hcap,hv⟩: ∃cap,True∧η x= .slice (some ⟨(ρ st).blk,(ρ st).off+0*(ρ st).sz,none⟩) rs.length cap:=by
    have hl0:rs.length≠0:=by omega
    clear hk
    generalize η x=v at hx
    generalize hm:rs.length=m at hx hl0
    cases hx with
    |sl _ _ _ _ cap hst hn hc=>exact⟨cap,trivial,rfl⟩
    |sl0=>exact absurd rfl hl0
   have h:(execOp η o).run P w= .ok (.value (.slice (some ⟨(ρ st).blk,(ρ st).off+0*(ρ st).sz,none⟩) rs.length cap)) {w with heap:=w.heap.setIfInBounds (ρ st).blk (.cells cs el (cs.size,cs.size+1))}:=by
    have:=C9H (P:=P) (w:=w) (a:=⟨(ρ st).blk,(ρ st).off+0*(ρ st).sz,none⟩) (n:=rs.length) (c:=cap) ha he8 h5
    rw [Nat.zero_mul,Nat.add_zero]at this
    simp [execOp,ho,hv,this]
   rw [h]
   have hlt:=(Array.getElem?_eq_some_iff.1 h5).1
   have hg2:w.heap[(ρ st).blk]= .cells cs el:=(Array.getElem?_eq_some_iff.1 h5).2
   have hcell: ∀(j:Nat),({w with heap:=w.heap.setIfInBounds (ρ st).blk (.cells cs el (cs.size,cs.size+1))}:World).cell? ⟨(ρ st).blk,j,none⟩=w.cell? ⟨(ρ st).blk,j,none⟩:=fun j=>by
    simp [World.cell?,hlt,hg2]
   obtain⟨a2,a3⟩:=HeapR.step (w':={w with heap:=w.heap.setIfInBounds (ρ st).blk (.cells cs el (cs.size,cs.size+1))}) (ρ':=ρ) (n':=s.n) (b:=b) (st:=st) (x:= .rows 1 rs) hr (Nat.le_refl _) (fun _ _=>rfl) (hr.lt _ hm) (Wd.setObj _ _ _)
    (fun y hy hyb=>by
      have hne:(ρ st).blk≠y:=fun e=>h1 (hyb e.symm)
      simp [hne]) (.inr (.inr ⟨_,hm,rfl,h1,rfl⟩)) (fun hxx=>by
      refine⟨h3,by show rs.length≤(ρ st).cap;omega,fun _=>⟨fun j hj=> ?_,by show (ρ st).blk<_;simpa using hlt⟩,fun i row hi=> ?_⟩
      ·have hj:j<(ρ st).cap*1:=hj
       show (World.cell? _ ⟨(ρ st).blk,(ρ st).off+j,none⟩).isSome=true∧World.frozen? _ ⟨(ρ st).blk,(ρ st).off+j,none⟩=false
       rw [hcell,h2]
       refine⟨?_,?_⟩
       ·have:j<cs.size:=by omega
        simp [World.cell?,h5,this]
       ·have: ¬cs.size≤j:=by omega
        simp [World.frozen?,hlt,this]
      ·obtain⟨q1,q2⟩:=h7 i row hi
       refine⟨q1,fun j c hj=> ?_⟩
       obtain⟨y,y1,y2,y3⟩:=q2 j c hj
       exact⟨y,(hcell _).trans y1,y2,y3.mono hxx⟩)
   refine⟨_,_,_,ρ,hk,a2,?_,a3⟩
   rw [←hv]
   exact hx.mono a3
  ·exact XJ
 ·exact XJ
theorem C5s{t e:TypeId}{len:Nat}{parts:Array (Nat×Operand)}{ys:List Opd}{ti:TypeInfo}{z:Value}(ho:o.op= .buildSlice t len parts)(ht:P.underlying t=some (.slice e))(hi:P.info? e=some ti)(hz:ti.zero=some z)
  (hzs:z.cells.size=ti.size) (hz1: ∀(i:Nat) v,z.cells[i]? =some v→v.oneCell'=true) (h24:len*ti.size≤16777216) (hp:parts.toList.map (·.1)=List.range' 0 parts.toList.length) (hl:parts.toList.length=len) (hy:R9 (parts.toList.map (·.2))=some ys)
  (hr:HeapR w O ρ s.n s.h) (he:EvR (A4 w O ρ s.n s.h) s η) (hk:A8 P PK (.mkisl ti.size ys) s k):C4 P PK k w O ρ s.h s.n ((execOp η o).run P w):=by
 simp only [A8]at hk
 cases hrs:I9 ti.size s ys with
 |none=>rw [hrs]at hk;exact hk.elim
 | some rs=>
  rw [hrs]at hk
  obtain⟨zs,a1,a2,a3,a4,a5⟩:=A4T ho ht hi hz hzs hz1 h24 hp hl hy he hrs
  rw [a5]
  obtain⟨b1,b2⟩:=hr.world (w':=w.alloc (.cells zs e)) (Wd.alloc _ _) fun x hx=>A1L _ _ _ hx
  refine⟨_,_,_,ρ,hk,b1,?_,b2⟩
  have hlt: ∀{i j:Nat} {row:List V} {c:V},rs[i]? =some row→row[j]? =some c→i*ti.size+j<zs.size∧rs.flatten[i*ti.size+j]? =some c:=by
   intro i j row c hi hj
   have h1:=(List.getElem?_eq_some_iff.1 hj).1
   rw [X0 a4 i row hi]at h1
   have h2:rs.flatten[i*ti.size+j]? =some c:=by rw [A5g a4 i j h1,hi];exact hj
   exact⟨by have:=(List.getElem?_eq_some_iff.1 h2).1;rw [←a1.1];exact this,h2⟩
  have hmain:=R.isl (E:=A4 (w.alloc (.cells zs e)) O ρ s.n s.h) rs ⟨w.heap.size,0,none⟩ len ti.size (fun i j=>zs.getD (i*ti.size+j) Go.undef) rfl zd (fun i row hi=>X0 a4 i row hi)
   (fun i row j c hi hj=>by
     obtain⟨h1,h2⟩:=hlt hi hj
     have hgd:zs.getD (i*ti.size+j) Go.undef=zs[i*ti.size+j]:=by simp [Array.getD,h1]
     refine⟨by simp [h1],?_,?_,?_⟩
     ·rw [hgd]
      exact a2 (i*ti.size+j) _ (by simp [h1])
     ·intro hown;exact absurd (hr.real hown) (Nat.lt_irrefl _)
     ·intro hO;exact absurd (hr.out _ hO) (Nat.lt_irrefl _))
   (fun i row j c hi hj=>by
     obtain⟨h1,h2⟩:=hlt hi hj
     have hgd:zs.getD (i*ti.size+j) Go.undef=zs[i*ti.size+j]:=by simp [Array.getD,h1]
     rw [hgd]
     exact(a1.2 (i*ti.size+j) c _ h2 (by simp [h1])).mono b2)
  rw [a3]at hmain
  exact hmain
theorem C0L{x x2:Operand}{x':Opd}{t e:TypeId}{nm:Nat}{ti:TypeInfo}{zv:Value}{z:List V}(ho:o.op= .makeSlice t x x2)(hx2:η x2=η x)(ht:P.underlying t=some (.slice e))(hi:P.info? e=some ti)(hz:ti.zero=some zv)(hb:ti.bytes≤1024)
  (hzs: ∀E:Env,RL E z zv.cells) (hz1: ∀(i:Nat) v,zv.cells[i]? =some v→v.oneCell'=true) (hzl:z.length=ti.size) (hx:C3 x=some x')
  (hr:HeapR w O ρ s.n s.h) (he:EvR (A4 w O ρ s.n s.h) s η) (hk:A8 P PK (.mksl nm z x') s k):C4 P PK k w O ρ s.h s.n ((execOp η o).run P w):=by
 have hx:=he.ev hx
 simp only [A8]at hk
 generalize s.ev x'=vx at*
 unfold B3I at hk
 split at hk
 ·rename_i m
  obtain⟨h0,h1,hk⟩:=hk
  have hv:=hx.int_inv
  obtain⟨n,rfl⟩:=Int.eq_ofNat_of_zero_le h0
  have hzsz:zv.cells.size=ti.size:=by rw [←(hzs (A4 w O ρ s.n s.h)).1,hzl]
  generalize hcs:madeCells zv.cells (n*ti.size)=cs
  have hrun:(execOp η o).run P w= .ok (.value (.slice (some ⟨w.heap.size,0,none⟩) n n)) (w.alloc (.cells cs e)):=by
   have hbn:(ti.bytes:Int)*n≤281474976710656:=by
    have:ti.bytes*n≤1024*137438953472:=Nat.mul_le_mul hb zd
    have h3:((ti.bytes*n:Nat):Int)≤140737488355328:=by omega
    rw [Int.natCast_mul]at h3
    omega
   have h:=run_make (P:=P) w t e ti zv ht hi hz .i64 .i64 n n h0 (Int.le_refl _) hbn zd
   simp only [Int.toNat_natCast,hcs]at h
   simp [execOp,ho,hx2,hv,h]
  rw [hrun]
  have hcsz:cs.size=n*ti.size:=by rw [←hcs,size_madeCells]
  have hrep:D5 (List.replicate n z) ti.size:=fun r hr=>by rw [(List.mem_replicate.1 hr).2,hzl]
  obtain⟨ρ',b1,b2,b3⟩:=hr.alloc nm ti.size n (List.replicate n z) cs e hcsz zg (fun i row hi=>by
   have hrow:row=z:=by
    rw [List.getElem?_replicate]at hi
    split at hi
    ·injection hi with hi;exact hi.symm
    ·cases hi
   have hin:i<n:=by have:=(List.getElem?_eq_some_iff.1 hi).1;simpa using this
   subst hrow
   refine⟨hzl,fun j c hj=> ?_⟩
   have hjl:j<ti.size:=by have:=(List.getElem?_eq_some_iff.1 hj).1;omega
   have hq:i*ti.size+j<n*ti.size:=by
    have:(i+1)*ti.size≤n*ti.size:=Nat.mul_le_mul_right _ hin
    exact Kr
   have hjz:j<zv.cells.size:=by omega
   refine⟨zv.cells[j],?_,hz1 j _ (by simp [hjz]),(hzs _).2 j c _ hj (by simp [hjz])⟩
   have hmod:(i*ti.size+j)%zv.cells.size=j:=by rw [hzsz,Nat.mul_comm,Nat.mul_add_mod,Nat.mod_eq_of_lt hjl]
   rw [←hcs,madeCells,Array.getElem?_map]
   simp [hq,hmod,hjz])
  have hk':k (.sl nm s.n 0 n) (A2.put s.h nm s.n (.rows ti.size (List.replicate n z))) (s.n+1):=by simpa [hzl]using hk
  exact⟨_,_,_,ρ',hk',b2,A9m (Nat.lt_succ_self _) b1 (Nat.le_refl _),b3⟩
 ·exact XJ
end
end Go.Abs
namespace Go.Abs
variable {PK:R8}
section
variable {P:Program} {k:Res} {w:World} {O:Nat→Prop} {ρ:Nat→Loc} {s:St} {η:Operand→Value} {o:Oper}
def A6t:Option Operand→Option (Option Opd)
 |none=>some none
 |some x=>(C3 x).map some
theorem o7{E:Env}(he:EvR E s η){x:Option Operand}{x':Option Opd}(hx:A6t x=some x'){d z:Int}(hb:H8 d (x'.map s.ev)=some z):(x=none∧z=d)∨ ∃y j,x=some y∧η y= .int j z:=by
 cases x with
 |none=>
  simp [A6t]at hx;subst hx
  simp [H8]at hb
  exact .inl ⟨rfl,hb.symm⟩
 | some y=>
  simp only [A6t,Option.map_eq_some_iff]at hx
  obtain⟨y',hy,rfl⟩:=hx
  have hR:=he.ev hy
  simp only [Option.map_some]at hb
  generalize s.ev y'=v at*
  unfold H8 at hb
  split at hb
  ·rename_i h;cases h
  ·rename_i j z' h
   injection hb with hb
   injection h with h
   subst h;subst hb
   exact .inr ⟨y,j,rfl,hR.int_inv⟩
  ·cases hb
theorem A7F{lo hi:Option Operand}{isSl:Bool}{len cap:Nat}{l u:Int}(hl:(lo=none∧l=0)∨ ∃y j,lo=some y∧η y= .int j l)(hu:(hi=none∧u=len)∨ ∃y j,hi=some y∧η y= .int j u)
  (h0:0≤l) (h1:l≤u) (h2:u≤cap) (w:World):(Instr.sliceBounds isSl len cap (lo.map η) (hi.map η) none).run P w= .ok (l.toNat,u.toNat,cap) w:=by
 have hu0:0≤u:=Int.le_trans h0 h1
 have hlu:l≤(u.toNat:Int):=by omega
 have hlu':l≤max u 0:=by omega
 rcases hl with⟨rfl,rfl⟩|⟨y,j,rfl,hy⟩<;>rcases hu with⟨rfl,rfl⟩|⟨y',j',rfl,hy'⟩
 ·simp [Instr.sliceBounds]
 ·simp [Instr.sliceBounds,Instr.sliceBound,asIntOf,hy',hu0,h2]
 ·simp [Instr.sliceBounds,Instr.sliceBound,asIntOf,hy,h0,h1]
 ·simp [Instr.sliceBounds,Instr.sliceBound,asIntOf,hy,hy',h0,hu0,h2,hlu']
theorem C9R{x:Operand}{lo hi:Option Operand}{x':Opd}{lo' hi':Option Opd}{t e:TypeId}{ti:TypeInfo}(ho:o.op= .slice t x lo hi none)(ht:P.underlying t=some (.slice e))(hi0:P.info? e=some ti)
  (hx:C3 x=some x') (hlo:A6t lo=some lo') (hhi:A6t hi=some hi')
  (hr:HeapR w O ρ s.n s.h) (he:EvR (A4 w O ρ s.n s.h) s η) (hk:A8 P PK (.slc ti.size x' lo' hi') s k):C4 P PK k w O ρ s.h s.n ((execOp η o).run P w):=by
 have hx:=he.ev hx
 simp only [A8]at hk
 generalize s.ev x'=vx at*
 have key: ∀(a:Option Addr) (len cap:Nat) (l u:Int),η x= .slice a len cap→((lo=none∧l=0)∨ ∃y j,lo=some y∧η y= .int j l)→((hi=none∧u=len)∨ ∃y j,hi=some y∧η y= .int j u)→0≤l→l≤u→u≤cap→
   (execOp η o).run P w= .ok (.value (.slice (if cap=l.toNat then a else a.map (·.add (l.toNat*ti.size))) (u.toNat-l.toNat) (cap-l.toNat))) w:=by
  intro a len cap l u hv hl hu h0 h1 h2
  have hb:=A7F (P:=P) (isSl:=true) (len:=len) hl hu h0 h1 h2 w
  simp [execOp,ho,Instr.sliceAt,run_underlying ht,Instr.slice,hv,hb,sizeOf,typeInfo,hi0]
 unfold B2J at hk
 split at hk
 ·rename_i b st i m
  split at hk
  ·rename_i l u hl hu
   obtain⟨hsz,h0,h1,h2,hk⟩:=hk
   have hl':=o7 he hlo hl
   have hu':=o7 he hhi hu
   generalize hvx:η x=vv at hx
   have hsz:(ρ st).sz=ti.size:=by
    unfold B1r at hsz
    split at hsz
    ·rename_i sz rs hg
     injection hsz with hsz
     subst hsz
     exact(hr.blk _ (A2.mem_of_get hg)).1
    ·cases hsz
   cases hx with
   | sl _ _ _ _ cap hst hn hc=>
    rw [key _ _ _ l u hvx hl' hu' h0 h1 zd]
    refine C4.val hr hk ?_
    have e1:u.toNat-l.toNat=(u-l).toNat:=by omega
    rw [e1]
    by_cases hcl:cap=l.toNat
    ·rw [if_pos hcl]
     have:(u-l).toNat=0:=by omega
     rw [this,hcl,Nat.sub_self]
     exact .sl0 _ _ _ _
    ·rw [if_neg hcl]
     have:=R.sl (E:=A4 w O ρ s.n s.h) b st (i+l.toNat) (u-l).toNat (cap-l.toNat) hst zd (by show _≤(ρ st).cap;have hc':i+cap≤(ρ st).cap:=hc;omega)
     simp only [Option.map_some,A2E]
     have e2:(ρ st).off+i*(ρ st).sz+l.toNat*ti.size=(ρ st).off+(i+l.toNat)*(ρ st).sz:=by rw [hsz,Nat.add_mul];omega
     rw [e2]
     exact this
   |sl0 _ _ _ a=>
    have hl0:l=0:=by omega
    have hu0:u=0:=by omega
    subst hl0;subst hu0
    rw [key _ _ _ 0 0 hvx hl' hu' zd zd zd]
    refine C4.val hr hk ?_
    exact .sl0 _ _ _ _
  ·exact XJ
 ·rename_i es
  split at hk
  ·rename_i l u hl hu
   obtain⟨hsz,h0,h1,h2,hk⟩:=hk
   have hl':=o7 he hlo hl
   have hu':=o7 he hhi hu
   generalize hvx:η x=vv at hx
   have elen:((es.drop l.toNat).take (u-l).toNat).length=u.toNat-l.toNat:=by simp;omega
   cases hx with
   | isl _ p cap sz f hp hcap hrow hcell hR=>
    rw [key _ _ _ l u hvx hl' hu' h0 h1 zd]
    refine C4.val hr hk ?_
    rw [←elen]
    by_cases hcl:cap=l.toNat
    ·rw [if_pos hcl]
     have:(es.drop l.toNat).take (u-l).toNat= []:=List.eq_nil_of_length_eq_zero (by rw [elen];omega)
     rw [this]
     exact .isl0 _ _
    ·rw [if_neg hcl]
     simp only [Option.map_some]
     obtain⟨pb,po,ps⟩:=p
     simp only at hp
     subst hp
     rw [A2E]
     by_cases he0:es= []
     ·subst he0;simp;exact .isl0 _ _
     ·have hs:sz=ti.size:=by
       obtain⟨r,es',rfl⟩:=List.exists_cons_of_ne_nil he0
       rw [←hrow 0 r rfl,←hsz r zg]
      subst hs
      have sub: ∀{i:Nat} {row:List V},((es.drop l.toNat).take (u-l).toNat)[i]? =some row→es[l.toNat+i]? =some row:=by
       intro i row hi
       rw [List.getElem?_take]at hi
       split at hi
       ·rwa [List.getElem?_drop]at hi
       ·cases hi
      refine .isl _ ⟨pb,po+l.toNat*ti.size,none⟩ (cap-l.toNat) ti.size (fun i j=>f (l.toNat+i) j) rfl (by rw [elen];omega) (fun i row hi=>hrow _ row (sub hi)) (fun i row j c hi hj=> ?_) (fun i row j c hi hj=>hR _ row j c (sub hi) hj)
      have:=hcell _ row j c (sub hi) hj
      rw [Nat.add_mul,←Nat.add_assoc]at this
      exact this
   |isl0 a cap=>
    simp at h2
    have hl0:l=0:=by omega
    have hu0:u=0:=by omega
    subst hl0;subst hu0
    rw [key _ _ _ 0 0 hvx hl' hu' zd zd zd]
    refine C4.val hr hk ?_
    simp
    exact .isl0 _ _
  ·exact XJ
 ·split at hk
  ·rename_i l u hl hu
   obtain⟨rfl,rfl,hk⟩:=hk
   have hl':=o7 he hlo hl
   have hu':=o7 he hhi hu
   rw [key _ _ _ 0 0 hx.nils_inv hl' hu' zd zd zd]
   refine C4.val hr hk ?_
   exact .nils
  ·exact XJ
 ·exact XJ
theorem C9S{x:Operand}{lo hi:Option Operand}{x':Opd}{lo' hi':Option Opd}{t:TypeId}(ho:o.op= .slice t x lo hi none)(ht:P.underlying t=some .string)
  (hx:C3 x=some x') (hlo:A6t lo=some lo') (hhi:A6t hi=some hi')
  (hr:HeapR w O ρ s.n s.h) (he:EvR (A4 w O ρ s.n s.h) s η) (hk:A8 P PK (.sls x' lo' hi') s k):C4 P PK k w O ρ s.h s.n ((execOp η o).run P w):=by
 have hx:=he.ev hx
 simp only [A8]at hk
 generalize s.ev x'=vx at*
 unfold B4b at hk
 split at hk
 ·rename_i b
  split at hk
  ·rename_i l u hl hu
   obtain⟨h0,h1,h2,hk⟩:=hk
   have hl':=o7 he hlo hl
   have hu':=o7 he hhi hu
   have hb:=A7F (P:=P) (isSl:=false) (len:=b.length) (cap:=b.length) hl' hu' h0 h1 h2 w
   have hsz:(⟨⟨b⟩⟩:ByteArray).size=b.length:=rfl
   have hrun:(execOp η o).run P w= .ok (.value (.string ((⟨⟨b⟩⟩:ByteArray).extract l.toNat u.toNat))) w:=by
    simp [execOp,ho,Instr.sliceAt,run_underlying ht,Instr.slice,hx.str_inv,hsz,hb]
   rw [hrun]
   have e:(⟨⟨b⟩⟩:ByteArray).extract l.toNat u.toNat=⟨⟨(b.drop l.toNat).take (u-l).toNat⟩⟩:=by
    apply ByteArray.ext
    apply Array.ext'
    rw [Lib.extract_data]
    have:u.toNat-l.toNat=(u-l).toNat:=by omega
    rw [this]
   rw [e]
   exact C4.val hr hk (.str _)
  ·exact XJ
 ·exact XJ
end
end Go.Abs
namespace Go.Abs
variable {PK:R8}
section
variable {P:Program} {k:Res} {w:World} {O:Nat→Prop} {ρ:Nat→Loc} {s:St} {η:Operand→Value} {o:Oper}
def D5k(P:Program)(kt:TypeId)(kd:Nat):Prop:=(kd=0∧ ∃j,P.underlying kt=some (.int j))∨(kd=1∧P.underlying kt=some .string)∨(kd=2∧P.underlying kt=some .bool)
def D2c(kd:Nat)(d:TypeDesc):Prop:=(kd=0∧ ∃j,d= .int j)∨(kd=1∧d= .string)∨(kd=2∧d= .bool)
theorem D5k.desc{kt:TypeId}{kd:Nat}(h:D5k P kt kd): ∃d,P.underlying kt=some d∧D2c kd d:=by
 rcases h with⟨rfl,j,hj⟩|⟨rfl,hj⟩|⟨rfl,hj⟩
 ·exact⟨_,hj,.inl ⟨rfl,j,rfl⟩⟩
 ·exact⟨_,hj,.inr (.inl ⟨rfl,rfl⟩)⟩
 ·exact⟨_,hj,.inr (.inr ⟨rfl,rfl⟩)⟩
end
end Go.Abs
namespace Go.Abs
variable {PK:R8}
section
variable {P:Program} {k:Res} {w:World} {O:Nat→Prop} {ρ:Nat→Loc} {s:St} {η:Operand→Value} {o:Oper}
theorem C8K{n:Nat}{h:A2}(hr:HeapR w O ρ n h){b st i sz:Nat}{rs ns:List (List V)}{news:List Value}(hg:A2.get h b st=some (.rows sz rs))
  (hle:i+ns.length≤rs.length) (hns:D5 ns sz) (hn:RL (A4 w O ρ n h) ns.flatten news.toArray) (hn1: ∀(q:Nat) u,news[q]? =some u→u.oneCell'=true) (hpos:0<ns.length):
  (∀j,j<news.length→(w.cell? ⟨(ρ st).blk,(ρ st).off+i*sz+j,none⟩).isSome=true)∧(∀j,j<news.length→w.frozen? ⟨(ρ st).blk,(ρ st).off+i*sz+j,none⟩=false)∧
   HeapR (w.setCells (ρ st).blk ((ρ st).off+i*sz) news) O ρ n (A2.put h b st (.rows sz (rs.take i++ns++rs.drop (i+ns.length))))∧
   Ext (A4 w O ρ n h) (A4 (w.setCells (ρ st).blk ((ρ st).off+i*sz) news) O ρ n (A2.put h b st (.rows sz (rs.take i++ns++rs.drop (i+ns.length))))):=by
 have hm:=A2.mem_of_get hg
 obtain⟨hsz,hlen,hcell,hrows⟩:=hr.blk _ hm
 simp only at hsz hlen hcell hrows
 have hc0:(ρ st).cap≠0:=by omega
 obtain⟨hcell,hblk⟩:=hcell hc0
 have l2:news.length=ns.length*sz:=by rw [←G1 hns];simpa using hn.1.symm
 have hin: ∀q,q<news.length→i*sz+q<(ρ st).cap*sz:=by
  intro q hq
  have h2:(i+ns.length)*sz≤(ρ st).cap*sz:=Nat.mul_le_mul_right _ zd
  rw [Nat.add_mul]at h2
  omega
 have hsome: ∀j,j<news.length→(w.cell? ⟨(ρ st).blk,(ρ st).off+i*sz+j,none⟩).isSome=true:=fun j hj=>by
  have:=(hcell _ (hin j hj)).1
  rwa [show (ρ st).off+(i*sz+j)=(ρ st).off+i*sz+j from by omega]at this
 refine⟨hsome,fun j hj=> ?_,?_⟩
 ·have:=(hcell _ (hin j hj)).2
  rwa [show (ρ st).off+(i*sz+j)=(ρ st).off+i*sz+j from by omega]at this
 ·have hrsz:D5 rs sz:=C1 fun i row hi=>(hrows i row hi).1
  refine HeapR.step hr (Nat.le_refl _) (fun _ _=>rfl) (hr.lt _ hm) (Wd.setCells _ _ _ _)
   (fun y hy hyb=>O9 _ _ _ _ _ fun e=>hc0 (hyb e)) (.inr (.inr ⟨_,hm,rfl,hc0,rfl⟩)) ?_
  intro hx
  have hall:D5 (rs.take i++ns++rs.drop (i+ns.length)) sz:=fun r hr=>by
   simp only [List.mem_append]at hr
   rcases hr with(h|h)|h
   ·exact hrsz r (List.mem_of_mem_take h)
   ·exact hns r h
   ·exact hrsz r (List.mem_of_mem_drop h)
  have htl:(rs.take i).length=i:=by simp;omega
  have hflat:A2D (A4 (w.setCells (ρ st).blk ((ρ st).off+i*sz) news) O ρ n (A2.put h b st (.rows sz (rs.take i++ns++rs.drop (i+ns.length))))) (ρ st).blk ((ρ st).off+i*sz) ns.flatten:=by
   intro q c hq
   obtain⟨x,a1,a2,a3⟩:=hn.get_one hn1 q c hq
   have hlt':q<news.length:=(List.getElem?_eq_some_iff.1 a1).1
   refine⟨x,?_,a2,a3.mono hx⟩
   have hput:=World.cell?_setCells_in (ρ st).blk news ((ρ st).off+i*sz) w hsome q hlt'
   exact Kf
  refine⟨hsz,by simp;omega,fun _=>⟨fun j hj=> ?_,by rw [A1Q];exact hblk⟩,fun i' row hi=>⟨X0 hall i' row hi,?_⟩⟩
  ·rw [f8,World.frozen?_setCells]
   exact hcell j hj
  ·have old:rs[i']? =some row→(i'<i∨i+ns.length≤i')→A2D (A4 (w.setCells (ρ st).blk ((ρ st).off+i*sz) news) O ρ n (A2.put h b st (.rows sz (rs.take i++ns++rs.drop (i+ns.length))))) (ρ st).blk ((ρ st).off+i'*sz) row:=by
    intro hi' hor
    obtain⟨hl',hR'⟩:=hrows i' row hi'
    intro j' c hj
    obtain⟨x,hx1,hx2,hx3⟩:=hR' j' c hj
    refine⟨x,?_,hx2,hx3.mono hx⟩
    simp only
    rw [World.cell?_setCells_out]
    ·exact hx1
    ·intro _ _
     have hj':j'<sz:=by have:=(List.getElem?_eq_some_iff.1 hj).1;omega
     rcases hor with h2|h2
     ·left
      have:(i'+1)*sz≤i*sz:=Nat.mul_le_mul_right _ h2
      rw [Nat.add_mul,Nat.one_mul]at this
      simp only;omega
     ·right
      have:(i+ns.length)*sz≤i'*sz:=Nat.mul_le_mul_right _ h2
      rw [Nat.add_mul]at this
      simp only;omega
   rw [List.append_assoc,List.getElem?_append]at hi
   split at hi
   ·rename_i hlt
    rw [htl]at hlt
    rw [List.getElem?_take,if_pos hlt]at hi
    exact old hi (.inl hlt)
   ·rename_i hge
    rw [htl]at hge hi
    rw [List.getElem?_append]at hi
    split at hi
    ·have:=B6W hns hflat (i'-i) row hi
     rw [Nat.add_assoc,←Nat.add_mul,show i+(i'-i)=i' from by omega]at this
     exact this
    ·rename_i hge2
     rw [List.getElem?_drop,show i+ns.length+(i'-i-ns.length)=i' from by omega]at hi
     exact old hi (.inr zd)
theorem B0w(z:Array Value)(m:Nat)(q:Nat):(Builtin.zeroCells z m).toList[q]? =if q<m*z.size then some (z[q%z.size]!)else none:=by
 unfold Builtin.zeroCells
 rw [Array.getElem?_toList,Array.getElem?_map]
 by_cases h:q<m*z.size
 ·rw [if_pos h,Array.getElem?_range,if_pos h];rfl
 ·rw [if_neg h,Array.getElem?_range,if_neg h];rfl
theorem C9L{x:Operand}{x':Opd}{t e:TypeId}{ti:TypeInfo}{zv:Value}{zs:List V}(ho:o.op= .call {callee:= .builtin .clear,args:= #[x],argTypes:= #[t]})
  (ht:P.underlying t=some (.slice e)) (hi:P.info? e=some ti) (hz:ti.zero=some zv) (hzs: ∀E:Env,RL E zs zv.cells) (h1: ∀(i:Nat) v,zv.cells[i]? =some v→v.oneCell'=true) (hx:C3 x=some x')
  (hr:HeapR w O ρ s.n s.h) (he:EvR (A4 w O ρ s.n s.h) s η) (hk:A8 P PK (.clr zs x') s k):C4 P PK k w O ρ s.h s.n ((execOp η o).run P w):=by
 have hx:=he.ev hx
 simp only [A8]at hk
 generalize s.ev x'=vx at*
 have run: ∀v w',(Builtin.clear_ #[t] o.type #[η x]).run P w= .ok v w'→(execOp η o).run P w= .ok (.value v) w':=by
  exact YY
 have nothing: ∀a cap,η x= .slice a 0 cap→(execOp η o).run P w= .ok (.value (.tuple #[])) w:=by
  intro a cap hv
  refine run _ _ ?_
  rw [hv]
  cases a<;>simp [Builtin.clear_,run_underlying ht]
 unfold B3W at hk
 split at hk
 ·rw [nothing none 0 hx.nils_inv]
  exact C4.val hr hk (.tup _ _ rfl zg)
 ·rename_i b st i m
  split at hk
  ·rename_i sz rs hg
   obtain⟨hsz0,hle,hk⟩:=hk
   have hsz:(ρ st).sz=sz:=(hr.blk _ (A2.mem_of_get hg)).1
   generalize hvx:η x=vv at hx
   by_cases hm:m=0
   ·subst hm
    have hvv: ∃a cap,η x= .slice a 0 cap:=by
     rw [hvx]
     cases hx with
     |sl _ _ _ _ cap hst hn hc=>exact⟨_,_,rfl⟩
     |sl0 _ _ _ a=>exact⟨_,_,rfl⟩
    obtain⟨a,cap,hv⟩:=hvv
    rw [nothing a cap hv]
    have hrs:rs.take i++List.replicate 0 zs++rs.drop (i+0)=rs:=by simp
    rw [hrs]at hk
    have hst:st<s.n:=hr.lt _ (A2.mem_of_get hg)
    obtain⟨a2,a3⟩:=HeapR.step (w':=w) (ρ':=ρ) (n':=s.n) (b:=b) (st:=st) (x:= .rows sz rs) hr (Nat.le_refl _) (fun st hst=>rfl) hst (Wd.refl _)
     (fun _ _ _ => rfl) (by by_cases hc:(ρ st).cap=0
                            ·exact .inl hc
                            ·exact .inr (.inr ⟨_,A2.mem_of_get hg,rfl,hc,rfl⟩)) (fun hx=>B0x.mono hx hst (fun _=>rfl) (hr.blk _ (A2.mem_of_get hg)))
    exact⟨_,_,_,ρ,hk,a2,.tup _ _ rfl zg,a3⟩
   ·have hzl:zs.length=zv.cells.size:=(hzs (A2Y w O)).1
    have hns:D5 (List.replicate m zs) sz:=fun r hr=>by rw [(List.mem_replicate.1 hr).2,hsz0]
    have hget: ∀q,q<m*sz→ ∃j,j<sz∧q%zv.cells.size=j∧(List.replicate m zs).flatten[q]? =zs[j]? :=by
     intro q hq
     have hpos:0<sz:=Nat.pos_of_ne_zero fun h=>by rw [h]at hq;omega
     refine⟨q%sz,Nat.mod_lt _ hpos,by rw [←hzl,hsz0],?_⟩
     have e:=Nat.div_add_mod q sz
     rw [Nat.mul_comm]at e
     conv=>lhs;rw [←e]
     rw [A5g hns _ _ (Nat.mod_lt _ hpos)]
     have:q/sz<m:=by rw [Nat.div_lt_iff_lt_mul hpos];exact hq
     simp [this]
    have hn:RL (A4 w O ρ s.n s.h) (List.replicate m zs).flatten (Builtin.zeroCells zv.cells m).toList.toArray:=by
     have hl:(List.replicate m zs).flatten.length=m*sz:=by rw [G1 hns];simp
     refine⟨by rw [hl];simp [Builtin.zeroCells,←hzl,hsz0],fun q c v hc hv=> ?_⟩
     have hq:q<m*sz:=by rw [←hl];exact(List.getElem?_eq_some_iff.1 hc).1
     obtain⟨j,hj,hqj,hfl⟩:=hget q hq
     rw [hfl]at hc
     have hv':(Builtin.zeroCells zv.cells m).toList[q]? =some v:=by simpa using hv
     rw [B0w,if_pos (by rw [←hzl,←hsz0];exact hq),hqj]at hv'
     injection hv' with hv'
     have hjl:j<zv.cells.size:=by rw [←hzl,←hsz0];exact hj
     have hzj:zv.cells[j]? =some v:=by rw [←hv'];simp [hjl]
     exact(hzs _).2 j c v hc hzj
    have hn1: ∀(q:Nat) u,(Builtin.zeroCells zv.cells m).toList[q]? =some u→u.oneCell'=true:=by
     intro q u hu
     rw [B0w]at hu
     split at hu
     ·rename_i hq
      injection hu with hu
      have hpos:0<zv.cells.size:=Nat.pos_of_ne_zero fun h=>by rw [h]at hq;omega
      have hjl:=Nat.mod_lt q hpos
      exact h1 (q%zv.cells.size) u (by rw [←hu];simp [hjl])
     ·cases hu
    have hrl:(List.replicate m zs).length=m:=by simp
    obtain⟨a1,a2,a4,a5⟩:=C8K (i:=i) hr hg (by rw [hrl];exact hle) hns hn hn1 (by rw [hrl];omega)
    rw [hrl]at a4 a5
    cases hx with
    | sl _ _ _ _ cap hst hn' hc=>
     have hstore:=run_storeCells_cells (P:=P) (ρ st).blk ((ρ st).off+i*sz) (Builtin.zeroCells zv.cells m).toList 0 w (by simpa using a1) (by simpa using a2) (fun u hu=>by
      obtain⟨q,hq,rfl⟩:=List.getElem_of_mem hu
      exact hn1 q _ (List.getElem?_eq_getElem hq))
     have hrun:(Builtin.clear_ #[t] o.type #[η x]).run P w= .ok (.tuple #[]) (w.setCells (ρ st).blk ((ρ st).off+i*sz) (Builtin.zeroCells zv.cells m).toList):=by
      rw [hvx,hsz]
      cases m with
      |zero=>exact(hm rfl).elim
      |succ m=>simp [Builtin.clear_,run_underlying ht,zeroValue,typeInfo,hi,hz,hstore]
     rw [run _ _ hrun]
     exact⟨_,_,_,ρ,hk,a4,.tup _ _ rfl zg,a5⟩
    |sl0 _ _ _ a=>omega
  ·exact XJ
 ·exact XJ
theorem B4E: ∀{rs:List (List V)} {l:List UInt8},B6F rs=some l→D5 rs 1∧ ∃ns:List Int,rs.flatten=ns.map (V.int .u8)∧l=ns.map fun n=>UInt8.ofNat n.toNat
 | [],l,h=>by
  injection h with h
  subst h
  exact⟨fun r hr=>(by cases hr),[],rfl,rfl⟩
 | r::rs,l,h=>by
  unfold B6F at h
  split at h
  ·rename_i e;cases e
  ·rename_i z r' e
   injection e with e1 e2
   subst e1;subst e2
   split at h
   ·rename_i l' hl
    injection h with h
    subst h
    obtain⟨h1,ns,h2,h3⟩:=B4E hl
    refine⟨fun r hr=> ?_,z::ns,by simp [h2],by simp [h3]⟩
    rcases List.mem_cons.1 hr with rfl|hr
    ·rfl
    ·exact h1 r hr
   ·cases h
  ·cases h
theorem C3p{E:Env}: ∀{ns:List Int} {vs:List Value},RL E (ns.map (V.int .u8)) vs.toArray→vs=ns.map (Value.int .u8)
 | [],vs,h=>by
  have:=h.1
  simp at this
  exact List.eq_nil_of_length_eq_zero this.symm
 |n::ns,[],h=>by have:=h.1;simp at this
 |n::ns,v::vs,h=>by
  have h0:v= .int .u8 n:=(h.2 0 _ v rfl rfl).int_inv
  have ih:=C3p (E:=E) (ns:=ns) (vs:=vs) ⟨by simpa using h.1,fun i c u hc hu=>h.2 (i+1) c u zA (by simpa using hu)⟩
  rw [List.map_cons,h0,ih]
theorem C9K{x:Operand}{x':Opd}{a b e:TypeId}(ho:o.op= .convert a b x)(ha:P.underlying a=some (.slice e))(he8:P.underlying e=some (.int .u8))(hb:P.underlying b=some .string)(hx:C3 x=some x')
  (hr:HeapR w O ρ s.n s.h) (he:EvR (A4 w O ρ s.n s.h) s η) (hk:A8 P PK (.bst x') s k):C4 P PK k w O ρ s.h s.n ((execOp η o).run P w):=by
 obtain⟨r,h1,h2⟩:=G8 hk
 have hx:=he.ev hx
 generalize s.ev x'=vx at*
 unfold C1k at h1
 split at h1
 ·rename_i rs hv
  split at h1
  ·rename_i l hl
   injection h1 with h1
   subst h1
   obtain⟨hsz,ns,hf,rfl⟩:=B4E hl
   obtain⟨p,cap,vs,hxv,hvl,hRL,_,hrun⟩:=A6M hr hx hv hsz
   rw [hf]at hRL
   have hvs:=C3p hRL
   have hlen:rs.length=ns.length:=by rw [hvs,List.length_map]at hvl;omega
   have hc:(convert a b (η x)).run P w= .ok (.string ⟨(ns.map fun n=>UInt8.ofNat n.toNat).toArray⟩) w:=by
    have hr0:=hrun P w fun _=>rfl
    rw [hxv]at hr0⊢
    cases p with
    | none=>
     simp only [Builtin.firstCells,Sem.run_pure]at hr0
     injection hr0 with hr0
     have:vs= []:=by
      have:=congrArg Array.size hr0
      simp at this
      exact List.eq_nil_of_length_eq_zero this.symm
     rw [this]at hvs
     have hn:ns= []:=by cases ns with|nil=>rfl|cons _ _=>cases hvs
     subst hn
     rw [run_convert_bytes_nil w a e ha he8 _ _ b hb]
     rfl
    |some q=>
     simp only [Builtin.firstCells,Nat.mul_one]at hr0
     rw [hvs]at hr0
     rw [run_convert_bytes_string w a b e (some q) rs.length cap ha he8 hb,run_bytesToString w q rs.length cap ns hr0,foldl_push_bytes]
     have he0:ByteArray.empty.data= #[]:=rfl
     rw [he0]
     simp
   have h:(execOp η o).run P w= .ok (.value (.string ⟨(ns.map fun n=>UInt8.ofNat n.toNat).toArray⟩)) w:=by
    simp [execOp,ho,hc]
   rw [h]
   exact C4.val hr h2 (.str _)
  ·cases h1
 ·cases h1
end
end Go.Abs
namespace Go.Abs
variable {PK:R8}
section
variable {P:Program} {k:Res} {w:World} {O:Nat→Prop} {ρ:Nat→Loc} {s:St} {η:Operand→Value} {o:Oper}
theorem C2s{e:TypeId}{nm sz:Nat}{z:Value}{zv:V}{i:TypeInfo}(ho:o.op= .alloc e)(hi:P.info? e=some i)(hz:i.zero=some z)(hzv: ∀E:Env,R E zv z)
  (hr:HeapR w O ρ s.n s.h) (hk:A8 P PK (.boxt e nm sz (.c zv)) s k):C4 P PK k w O ρ s.h s.n ((execOp η o).run P w):=by
 simp only [A8,St.ev]at hk
 unfold B3z at hk
 split at hk
 ·rename_i cs hc
  obtain⟨hl,hk⟩:=hk
  obtain⟨hR,h1⟩:=(hzv (A4 w O ρ s.n s.h)).cells hc
  have:(execOp η o).run P w= .ok (.value (.pointer (some ⟨w.heap.size,0,none⟩))) (w.alloc (.cells z.cells e)):=by
   simp [execOp,ho,Instr.alloc,newVar,newRow,zeroValue,typeInfo,hi,hz]
  rw [this]
  obtain⟨ρ',hn,hr',hx'⟩:=hr.alloc nm sz 1 [cs] z.cells e (by rw [←hR.1,hl,Nat.one_mul]) zg (fun i row hi=>by
   cases i with
   |succ i=>simp at hi
   |zero=>
    simp at hi;subst hi
    refine⟨hl,fun j c hj=> ?_⟩
    have hlt:j<z.cells.size:=by have:=(List.getElem?_eq_some_iff.1 hj).1;rw [←hR.1];exact this
    exact⟨z.cells[j],by simp [hlt],h1 j _ zn,hR.2 j c _ hj zn⟩)
  obtain⟨b1,b2⟩:=hr'.toTb (T:=e) (by rw [hn]) (fun _=>⟨sz,by rw [hn];simp only;rw [B3P,←hR.1,hl],by rw [hn];simp,fun _=>by simp⟩)
  refine⟨_,_,_,ρ',hk,b1,?_,hx'.trans b2⟩
  have:=R.ptr (E:=A4 (w.alloc (.cells z.cells e)) O ρ' (s.n+1) (A2.put s.h nm s.n (.tb e sz [cs]))) nm s.n 0 0 (Nat.lt_succ_self _)
  simpa [hn]using this
 ·exact XJ
theorem C7D{x y:Operand}{x' y':Opd}{t u e:TypeId}{nm:Nat}{ti:TypeInfo}{z:Value}{du:TypeDesc}(ho:o.op= .call {callee:= .builtin .append,args:= #[x,y],argTypes:= #[t,u]})
  (ht:P.underlying t=some (.slice e)) (hu:P.underlying u=some du) (hd:(∃e',du= .slice e')∨du= .string) (hi:P.info? e=some ti) (hz:ti.zero=some z) (hzs:z.cells.size=ti.size) (hb:137438953472*ti.bytes≤140737488355328)
  (hx:C3 x=some x') (hy:C3 y=some y')
  (hr:HeapR w O ρ s.n s.h) (he:EvR (A4 w O ρ s.n s.h) s η) (hk:A4a e nm ti.size (s.ev x') (B2K s.h (s.ev y')) k s.h s.n):C4 P PK k w O ρ s.h s.n ((execOp η o).run P w):=by
 have hx:=he.ev hx
 have hy:=he.ev hy
 generalize s.ev x'=vx at*
 generalize s.ev y'=vy at*
 have run: ∀v w',(Builtin.append_ #[t,u] o.type #[η x,η y]).run P w= .ok v w'→(execOp η o).run P w= .ok (.value v) w':=by
  exact YY
 unfold A4a at hk
 split at hk
 ·exact XJ
 ·rename_i xs hsrc
  obtain⟨hxs,h1z,hk⟩:=hk
  obtain⟨news,n1,n2,n3,n4,n5⟩:=B7F hr hy hsrc hxs
  have growth: ∀(h0:A2) (base:Option Addr) (m cap:Nat) (os:List (List V)) (olds:List Value) (nm':Nat),HeapR w O ρ s.n h0→RL (A4 w O ρ s.n h0) xs.flatten news.toArray→η x= .slice base m cap→os.length=m→D5 os ti.size→RL (A4 w O ρ s.n h0) os.flatten olds.toArray→(∀(q:Nat) u,olds[q]? =some u→u.oneCell'=true)→
    (∀w',(∀a,w'.cell? a=w.cell? a)→(Builtin.firstCells ti.size m (.slice base m cap)).run P w'= .ok olds.toArray w')→cap<m+xs.length→m+xs.length≤137438953472→
    k (.sl nm' s.n 0 (m+xs.length)) (A2.put h0 nm' s.n (.tb e ti.size (os++xs))) (s.n+1)→Ext (A4 w O ρ s.n s.h) (A4 w O ρ s.n h0)→C4 P PK k w O ρ s.h s.n ((execOp η o).run P w):=by
   intro h0 base m cap os olds nm' hr0 n20 hv hl hos holds ho1 hfirst hlt hbound hk hxx
   have hrun:=A5Z (w:=w) (ty:=o.type) ht hu hd hi hz base m cap xs.length (η y) olds news (n4 P) hfirst (n5 P) zf hlt hbound hb
   rw [run _ _ Ql]
   have hge:=grownCap_ge w (m+xs.length) cap e
   subst hl
   obtain⟨ρ',a1,a2,a3⟩:=B1o (nm:=nm') (e:=e) hr0 hos hxs holds ho1 n20 n3 hzs hge
   have l1:olds.length=os.length*ti.size:=by rw [←G1 hos];simpa using holds.1.symm
   have l2:news.length=xs.length*ti.size:=by rw [←G1 hxs];simpa using n20.1.symm
   obtain⟨b1,b2⟩:=a2.toTb (T:=e) (by rw [a1]) (fun _=>by
    rw [a1]
    have hsz:(olds.toArray++news.toArray++Builtin.zeroCells z.cells (grownCap w (os.length+xs.length) cap e-(os.length+xs.length))).size=grownCap w (os.length+xs.length) cap e*ti.size:=by
     simp only [Array.size_append,List.size_toArray,size_zeroCells,hzs,l1,l2]
     rw [←Nat.add_mul,←Nat.add_mul]
     congr 1;omega
    refine⟨_,?_,Nat.le_refl _,fun h=>(h h1z).elim⟩
    simp only
    rw [←hsz]
    exact B3P w.drew _ _)
   exact⟨_,_,_,ρ',hk,b1,A9m (Nat.lt_succ_self _) a1 hge,hxx.trans (a3.trans b2)⟩
  have nothing: ∀(base:Option Addr) (nm':Nat),η x= .slice base 0 0→xs= []→k (.sl nm' s.n 0 0) (A2.put s.h nm' s.n (.tb e ti.size [])) (s.n+1)→C4 P PK k w O ρ s.h s.n ((execOp η o).run P w):=by
   intro base nm' hv hx0 hk2
   clear hk
   subst hx0
   have hn0:news= []:=List.eq_nil_of_length_eq_zero (by simpa using n1)
   subst hn0
   have hrun:=A7E (w:=w) (ty:=o.type) ht hu hd hi base (η y) (n4 P) (n5 P)
   rw [run _ _ Ql]
   let ρ':Nat→Loc:=fun st=>if st=s.n then⟨0,0,ti.size,0⟩else ρ st
   have hn:ρ' s.n=⟨0,0,ti.size,0⟩:=by simp [ρ']
   obtain⟨a2,a3⟩:=HeapR.step (w':=w) (ρ':=ρ') (n':=s.n+1) (b:=nm') (st:=s.n) (x:= .tb e ti.size []) hr (Nat.le_succ _) (fun st hst=>by simp [ρ',Nat.ne_of_lt hst]) (Nat.lt_succ_self _) (Wd.refl _)
    (fun _ _ _=>rfl) (.inl (by rw [hn])) (fun _=>⟨⟨by simp [hn],by simp,fun h=>by simp [hn]at h,by simp⟩,by simp [hn],fun h=>by simp [hn]at h⟩)
   exact⟨_,_,_,ρ',hk2,a2,.sl0 _ _ _ _,a3⟩
  split at hk
  ·obtain⟨hb2,hk⟩:=hk
   have hv:=hx.nils_inv
   by_cases h0:xs= []
   ·subst h0;exact nothing none nm hv rfl hk
   ·have hpos:0<xs.length:=List.length_pos_iff.2 h0
    refine growth s.h none 0 0 [] [] nm hr n2 hv rfl (by intro r hr;simp at hr) ⟨rfl,by simp⟩ zg (fun w' _=>by simp [Builtin.firstCells]) zd zd ?_ (Ext.refl _)
    simpa using hk
  ·rename_i b st i m
   split at hk
   ·rename_i T' sz' rs hg
    obtain⟨rfl,rfl,rfl,hm,hbound,hk⟩:=hk
    obtain⟨_,t2,t3⟩:=hr.blk _ (A2.mem_of_get hg)
    simp only at t2 t3
    obtain⟨hr1,hx1⟩:=hr.ofTb hg
    have hg1:=A2.get_put s.h b st (.rows ti.size rs)
    have hk:k (.sl b s.n 0 (m+xs.length)) (A2.put (A2.put s.h b st (.rows ti.size rs)) b s.n (.tb T' ti.size (rs++xs))) (s.n+1):=by rw [A2.put_put];exact hk
    have n2':RL (A4 w O ρ s.n (A2.put s.h b st (.rows ti.size rs))) xs.flatten news.toArray:=⟨n2.1,fun i c v hc hv=>(n2.2 i c v hc hv).mono hx1⟩
    have hx:=hx.mono hx1
    have hvl:((rs.drop 0).take m).length=m:=by simp;omega
    have hrsz:D5 rs ti.size:=C1 fun i row hi=>((hr1.blk _ (A2.mem_of_get hg1)).2.2.2 i row hi).1
    have hvw:(rs.drop 0).take m=rs:=by simp [hm]
    have hview:A4E (A2.put s.h b st (.rows ti.size rs)) (.sl b st 0 m)=some ((rs.drop 0).take m):=by
     simp only [A4E,hg1]
     rw [Nat.ble_eq_true_of_le zd];rfl
    obtain⟨p,cap,olds,o1,o2,o3,o4,o5⟩:=A6M hr1 hx hview (A5Y hrsz 0 m)
    rw [hvl]at o1 o5
    generalize hvx:η x=vv at hx
    have hsz:(ρ st).sz=ti.size:=(hr1.blk _ (A2.mem_of_get hg1)).1
    rw [hvx]at o1 o5
    cases hx with
    | sl _ _ _ _ cap' hst hn hc=>
     by_cases hfit:m+xs.length≤cap'
     ·by_cases hc0:cap'=0
      ·subst hc0
       have hm0:m=0:=by omega
       have hx0:xs= []:=List.eq_nil_of_length_eq_zero zd
       have hrs0:rs= []:=List.eq_nil_of_length_eq_zero zd
       subst hm0;subst hx0;subst hrs0
       rw [A2.put_put]at hk
       exact nothing _ b hvx rfl zS
      ·obtain⟨a1,a2,ρ',a3,a4,a5⟩:=B4x hr1 hg1 zd hc hxs n2' n3 hfit (Nat.pos_of_ne_zero hc0)
       have hrun:=A9k (w:=w) (ty:=o.type) ht hu hd hi (ρ st).blk ((ρ st).off+0*ti.size) m cap' xs.length (η y) news (n4 P) (n5 P) hfit a1 a2 n3
       rw [run _ _ (by rw [hvx,hsz];exact hrun)]
       rw [hvw]at a4 a5
       obtain⟨b1,b2⟩:=a4.toTb (T:=T') (by rw [a3];simp [t2]) (fun _=>by
        rw [a3,A0V]
        have hc':0+cap'≤(ρ st).cap:=hc
        obtain⟨c,c1,c2,_⟩:=t3 zd
        refine⟨c,c1,?_,fun h=>(h h1z).elim⟩
        rw [h1z]at c2⊢
        simp only
        omega)
       refine⟨_,_,_,ρ',hk,b1,?_,hx1.trans (a5.trans b2)⟩
       have:=R.sl (E:=A4 (w.setCells (ρ st).blk ((ρ st).off+0*ti.size+m*ti.size) news) O ρ' (s.n+1) (A2.put (A2.put s.h b st (.rows ti.size rs)) b s.n (.tb T' ti.size (rs++xs)))) b s.n 0 (m+xs.length) cap' (Nat.lt_succ_self _) hfit (by simp [a3])
       simpa [a3]using this
     ·injection o1 with o1 o1' o1''
      subst o1''
      rw [hvw]at o3
      exact growth _ _ m cap' rs olds b hr1 n2' hvx hm.symm hrsz o3 o4 (fun w' hw=>o5 P w' hw) zd hbound hk hx1
    | sl0 _ _ _ a=>
     have hrs0:rs= []:=List.eq_nil_of_length_eq_zero zd
     by_cases h0:xs= []
     ·subst h0;subst hrs0
      rw [A2.put_put]at hk
      exact nothing a b hvx rfl zS
     ·have hpos:0<xs.length:=List.length_pos_iff.2 h0
      injection o1 with o1 o1' o1''
      subst o1''
      rw [hvw]at o3
      exact growth _ _ 0 0 rs olds b hr1 n2' hvx hm.symm hrsz o3 o4 (fun w' hw=>o5 P w' hw) zd hbound hk hx1
   ·exact XJ
  ·exact XJ
end
end Go.Abs
