/-
 Operations keep the relation of abstract and real memory, one by one. No condition.
-/
import Derived.Test.YtcaaenddpjepiaaGreatDoorOps
import Derived.Laws.BytesArg
import Derived.Laws.IdiomStrings
import Derived.Laws.IdiomRangeMap
import Derived.Lib.Strings
set_option linter.unusedVariables false
set_option linter.unusedSimpArgs false
namespace Go.Abs
variable {P:Program}
def D8(P:Program)(k:Res)(w:World)(O:Nat→Prop)(ρ:Nat→Loc)(h:A2)(n:Nat):Result Next→Prop
 | .ok (.value v) w'=> ∃r h' n' ρ',k r h' n'∧HeapR w' O ρ' n' h'∧R (A8 w' O ρ' n' h') r v∧Ext (A8 w O ρ n h) (A8 w' O ρ' n' h')
 | .ok .skip w'=> ∃r h' n' ρ',k r h' n'∧HeapR w' O ρ' n' h'∧R (A8 w' O ρ' n' h') r Go.undef∧Ext (A8 w O ρ n h) (A8 w' O ρ' n' h')
 | .ok (.enter f cargs) w'=>w'=w∧ ∃as,RL (A8 w O ρ n h) as cargs∧A0 P f as h n k
 | .ok (.round l f tmps a b) w'=>w'=w∧RoundIn Fence.wide 0 P l f tmps a b w (C7N P w O ρ h n k)
 |_=>False
section
variable {k:Res} {w:World} {O:Nat→Prop} {ρ:Nat→Loc} {h:A2} {n:Nat}
theorem D8.val{r:V}{v:Value}(c:HeapR w O ρ n h)(b:k r h n)(a:R (A8 w O ρ n h) r v):D8 P k w O ρ h n (.ok (.value v) w):=
 ⟨r,h,n,ρ,b,c,a,Ext.refl _⟩
theorem L6{o:Option V}(a:S7 o k h n): ∃v,o=some v∧k v h n:=by
 cases o with
 |none=>exact a.elim
 |some v=>exact⟨v,rfl,a⟩
section
variable {E:Env}
theorem R.cst_inv{u:Value}{v:Value}(h:R E (.cst u) v):v=u:=by cases h;rfl
theorem R.bool_inv{b:Bool}{v:Value}(h:R E (.bool b) v):v= .bool b:=by cases h;rfl
theorem R.int_inv{j:IntKind}{z:Int}{v:Value}(h:R E (.int j z) v):v= .int j z:=by cases h;rfl
theorem R.str_inv{s:List UInt8}{v:Value}(h:R E (.str s) v):v= .string ⟨⟨s⟩⟩:=by cases h;rfl
theorem R.nilp_inv{v:Value}(h:R E .nilp v):v= .pointer none:=by cases h;rfl
theorem R.nils_inv{v:Value}(h:R E .nils v):v= .slice none 0 0:=by cases h;rfl
theorem R.nilm_inv{v:Value}(h:R E .nilm v):v= .map none:=by cases h;rfl
theorem R.agg_inv{cs:List V}{v:Value}(h:R E (.agg cs) v): ∃a:Array Value,v= .agg a∧cs.length=a.size∧(∀(i:Nat) v,a[i]? =some v→v.oneCell'=true)∧ ∀(i:Nat) c v,cs[i]? =some c→a[i]? =some v→R E c v:=by
 cases h with
 |agg _ a b d e=>exact⟨a,rfl,b,d,e⟩
theorem R.tup_inv{cs:List V}{v:Value}(h:R E (.tup cs) v): ∃a:Array Value,v= .tuple a∧RL E cs a:=by
 cases h with
 |tup _ a b c=>exact⟨a,rfl,b,c⟩
theorem R.ptr_inv{b st i j:Nat}{v:Value}(h:R E (.ptr b st i j) v):st<E.n∧v= .pointer (some ⟨(E.ρ st).blk,(E.ρ st).off+i*(E.ρ st).sz+j,none⟩):=by
 cases h with
 |ptr _ _ _ _ h=>exact⟨h,rfl⟩
theorem R.mp_inv{b st:Nat}{v:Value}(h:R E (.mp b st) v):st<E.n∧v= .map (some (E.ρ st).blk):=by
 cases h with
 |mp _ _ h=>exact⟨h,rfl⟩
theorem R.iptr_inv{es:List (List V)}{i j:Nat}{v:Value}(h:R E (.iptr es i j) v): ∃p s,v= .pointer (some ⟨p,s,none⟩):=by
 cases h with
 |iptr _ _ _ p s f=>exact⟨_,_,rfl⟩
theorem R.yld_inv{b st:Nat}{v:Value}(h:R E (.yld b st) v):st<E.n∧v= .func (.yield (E.ρ st).blk) #[] #[]:=by
 cases h with
 |yld _ _ h=>exact⟨h,rfl⟩
theorem R.fn_inv{f:FuncId}{cs:List V}{v:Value}(h:R E (.fn f cs) v): ∃a:Array Value,v= .func (.func f) #[] a∧RL E cs a:=by
 cases h with
 |fn _ _ a b c=>exact⟨a,rfl,b,c⟩
end
theorem R.ptr_add{E:Env}{b st i j o:Nat}{a:Addr}(h:R E (.ptr b st i j) (.pointer (some a))):R E (.ptr b st i (j+o)) (.pointer (some (a.add o))):=by
 obtain⟨d,c⟩:=h.ptr_inv
 injection c with c
 injection c with c
 subst c
 have:=R.ptr (E:=E) b st i (j+o) d
 have e:(⟨(E.ρ st).blk,(E.ρ st).off+i*(E.ρ st).sz+j,none⟩:Addr).add o=⟨(E.ρ st).blk,(E.ρ st).off+i*(E.ρ st).sz+(j+o),none⟩:=by
  unfold Addr.add
  split
  ·rename_i f;subst f;rfl
  ·simp [Nat.add_assoc]
 rw [e];exact this
theorem R.iptr_add{E:Env}{es:List (List V)}{i j o:Nat}{a:Addr}(h:R E (.iptr es i j) (.pointer (some a))):R E (.iptr es i (j+o)) (.pointer (some (a.add o))):=by
 cases h with
 | iptr _ _ _ p s f g c b d=>
  have:=R.iptr (E:=E) es i (j+o) p s f g c b d
  have e:(⟨p.block,p.off+i*s+j,none⟩:Addr).add o=⟨p.block,p.off+i*s+(j+o),none⟩:=by
   unfold Addr.add
   split
   ·rename_i k;subst k;rfl
   ·simp [Nat.add_assoc]
  rw [e];exact this
theorem D6p{E:Env}{v:Value}{x:V}(h:cV v=some x):R E x v:=by
 unfold cV at h
 split at h<;>first|(cases h;done)|(injection h with h;subst h;first|exact .bool _|exact .int _ _|exact .str _|exact .nilp|exact .nils|exact .nilm|exact .cst _)
theorem D2U{v:Value}{x:V}(h:cV v=some x):v.oneCell'=true:=by
 unfold cV at h
 split at h<;>first|(cases h;done)|rfl
theorem C4M{E:Env}: ∀{l:List Value} {b:List V},cVs l=some b→b.length=l.length∧(∀(i:Nat) c v,b[i]? =some c→l[i]? =some v→R E c v)∧ ∀(i:Nat) v,l[i]? =some v→v.oneCell'=true
 | [],b,h=>by simp [cVs]at h;subst h;simp
 | v::r,b,h=>by
  simp only [cVs]at h
  split at h
  ·rename_i x y e k
   injection h with h
   subst h
   obtain⟨f,j,g⟩:=C4M (E:=E) k
   refine⟨by simp [f],fun i c u d a=> ?_,fun i u a=> ?_⟩
   ·cases i with
    |zero=>simp at d a;subst d;subst a;exact D6p e
    |succ i=>exact j i c u zO zA
   ·cases i with
    |zero=>simp at a;subst a;exact D2U e
    |succ i=>exact g i u zA
  ·cases h
theorem D4I{z:Value}{d:V}(h:zV z=some d)(E:Env):R E d z:=by
 unfold zV at h
 split at h
 ·rw [Option.map_eq_some_iff]at h
  obtain⟨k,a,rfl⟩:=h
  obtain⟨j,g,f⟩:=C4M (E:=E) a
  exact .agg _ _ (by simpa using j) (fun i v b=>f i v zz) (fun i c v e b=>g i c v e zz)
 ·exact D6p h
def EvR(E:Env)(s:St)(η:Operand→Value):Prop:=(∀i,R E (D9 s.sl i) (η (.tmp i)))∧(∀v,η (.const v)=v)∧(∀f,η (.func f)= .func (.func f) #[] #[])∧(∀g,η (.global g)= .pointer (some ⟨g,0,none⟩))∧GlR E
theorem EvR.ev{E:Env}{s:St}{η:Operand→Value}(h:EvR E s η){x:Operand}{y:Opd}(a:D0 x=some y):R E (s.ev y) (η x):=by
 cases x with
 |tmp i=>simp [D0]at a;subst a;exact h.1 i
 |const v=>
  simp only [D0,Option.map_eq_some_iff]at a
  obtain⟨u,d,rfl⟩:=a
  rw [h.2.1]
  exact D4I d E
 |func f=>
  simp [D0]at a;subst a
  rw [h.2.2.1]
  exact .fn f [] #[] rfl zf
 | global g=>
  simp only [D0]at a
  split at a
  ·rename_i b
   injection a with a
   subst a
   rw [h.2.2.2.1]
   simp only [St.ev,D1X]
   cases hg:B6t B6e g with
   |none=>rw [hg]at b;cases b
   |some c=>exact h.2.2.2.2.val hg
  ·cases a
theorem EvR.evs{E:Env}{s:St}{η:Operand→Value}(h:EvR E s η): ∀{e:List Operand} {a:List Opd},u4 e=some a→RL E (a.map s.ev) (e.map η).toArray
 | [],a,hc=>by simp [u4]at hc;subst hc;exact⟨rfl,by simp⟩
 | x::r,a,hc=>by
  simp only [u4]at hc
  split at hc
  ·rename_i y j l k
   injection hc with hc
   subst hc
   obtain⟨f,g⟩:=EvR.evs h k
   refine⟨by simpa using f,fun i c v b d=> ?_⟩
   cases i with
   |zero=>simp at b d;subst b;subst d;exact h.ev l
   |succ i=>exact g i c v zz zO
  ·cases hc
theorem C8I{z:Int}(h: -9223372036854775808≤z)(h2:z≤9223372036854775807):IntKind.i64.wrap z=z:=IntWalk.i64_in z ⟨h,h2⟩
theorem B5J{E:Env}{j:IntKind}{z:Int}(h:inR j z):R E (B9e j z) (.int j (j.wrap z)):=by
 cases j<;>first
  |(simp only [inR]at h;rw [C8I h.1 h.2];exact .int _ _)
  |exact .int _ _
theorem A4R(s:List UInt8):(⟨⟨s⟩⟩:ByteArray).toList=s:=by
 exact ByteArray.toList_eq ⟨⟨s⟩⟩
theorem C3h(a b:Int):(a==b)=decide (a=b):=by rw [Bool.eq_iff_iff];simp
theorem D3f(a b:Int):(a !=b)=decide (¬a=b):=by rw [Bool.eq_iff_iff];simp
end
end Go.Abs
namespace Go.Abs
section
variable {P:Program} {k:Res} {w:World} {O:Nat→Prop} {ρ:Nat→Loc} {s:St} {η:Operand→Value} {o:Oper}
theorem C2F{x:Operand}{b:Opd}(a:o.op= .move x∨o.op= .assign x)(e:D0 x=some b)
  (f:HeapR w O ρ s.n s.h) (d:EvR (A8 w O ρ s.n s.h) s η) (c:C3 P (.mov b) s k):D8 P k w O ρ s.h s.n ((execOp η o).run P w):=by
 have h:(execOp η o).run P w= .ok (.value (η x)) w:=by rcases a with a|a<;>simp [execOp,a]
 rw [h]
 exact D8.val f c (d.ev e)
theorem C9V{c a b:Operand}{c' l i:Opd}(p:o.op= .pick c a b)(g:D0 c=some c')(e:D0 a=some l)(f:D0 b=some i)
  (q:HeapR w O ρ s.n s.h) (m:EvR (A8 w O ρ s.n s.h) s η) (u:C3 P (.pick c' l i) s k):D8 P k w O ρ s.h s.n ((execOp η o).run P w):=by
 obtain⟨r,d,n⟩:=L6 u
 have g:=m.ev g
 have e:=m.ev e
 have f:=m.ev f
 generalize s.ev c'=C at*
 generalize s.ev l=B at*
 generalize s.ev i=A at*
 unfold C1Q at d
 split at d
 ·injection d with d
  subst d
  rename_i t x y
  have j:=g.bool_inv
  have v:=e.bool_inv
  have z:=f.bool_inv
  have h:(execOp η o).run P w= .ok (.value (.bool (bif t then x else y))) w:=by
   cases t<;>simp [execOp,p,asBool,j,v,z]
  rw [h]
  exact D8.val q n (.bool _)
 ·injection d with d
  subst d
  rename_i t _
  have j:=g.bool_inv
  have h:(execOp η o).run P w= .ok (.value (bif t then η a else η b)) w:=by
   cases t<;>simp [execOp,p,asBool,j]
  rw [h]
  refine D8.val q n ?_
  cases t
  ·exact f
  ·exact e
 ·cases d
theorem C7A{x:Operand}{d:Opd}(e:o.op= .nilCheck x)(b:D0 x=some d)
  (m:HeapR w O ρ s.n s.h) (j:EvR (A8 w O ρ s.n s.h) s η) (i:C3 P (.nilck d) s k):D8 P k w O ρ s.h s.n ((execOp η o).run P w):=by
 obtain⟨r,a,l⟩:=L6 i
 have b:=j.ev b
 generalize s.ev d=v at*
 unfold B6A at a
 have c:r=v:=by split at a<;>first|(cases a;done)|(injection a with a;exact a.symm)
 subst c
 have h:(execOp η o).run P w= .ok (.value (η x)) w:=by
  split at a
  ·have:=b.ptr_inv.2
   rw [this];simp [execOp,e,this]
  ·obtain⟨p,q,f⟩:=b.iptr_inv
   rw [f];simp [execOp,e,f]
  ·obtain⟨n,g,_⟩:=b.fn_inv
   rw [g];simp [execOp,e,g]
  ·cases a
 rw [h]
 exact D8.val m l b
theorem C2D{x:Operand}{b:Opd}{i:Nat}(m:o.op= .extract x i)(c:D0 x=some b)
  (n:HeapR w O ρ s.n s.h) (j:EvR (A8 w O ρ s.n s.h) s η) (e:C3 P (.ext i b) s k):D8 P k w O ρ s.h s.n ((execOp η o).run P w):=by
 obtain⟨r,a,l⟩:=L6 e
 have c:=j.ev c
 generalize s.ev b=v at*
 unfold C8w at a
 split at a
 ·rename_i q
  obtain⟨u,f,p,g⟩:=c.tup_inv
  have d:i<u.size:=by have:=(List.getElem?_eq_some_iff.1 a).1;omega
  have h:(execOp η o).run P w= .ok (.value u[i]) w:=by
   simp [execOp,m,Instr.extract,f,d]
  rw [h]
  exact D8.val n l (g i r u[i] a (by simp [d]))
 ·cases a
theorem C9L{x:Operand}{f:Opd}{a b:TypeId}{j:IntKind}{d:TypeDesc}(q:o.op= .convert a b x)(m:P.underlying a=some d)(l:P.underlying b=some (.int j))(g:D0 x=some f)
  (t:HeapR w O ρ s.n s.h) (p:EvR (A8 w O ρ s.n s.h) s η) (i:C3 P (.conv j f) s k):D8 P k w O ρ s.h s.n ((execOp η o).run P w):=by
 obtain⟨r,c,n⟩:=L6 i
 have g:=p.ev g
 generalize s.ev f=v at*
 unfold C0R at c
 split at c
 ·injection c with c
  subst c
  rename_i _ z
  have e:=g.int_inv
  have h:(execOp η o).run P w= .ok (.value (.int j (j.wrap z))) w:=by
   simp [execOp,q,convert,run_underlying m,run_underlying l,e,Conv.intToInt]
  rw [h]
  exact D8.val t n (.int _ _)
 ·cases c
theorem D4k{x:Operand}{f:Opd}{t:TypeId}{l:UnOp}(g:o.op= .unOp l t x)(d:D0 x=some f)
  (i:HeapR w O ρ s.n s.h) (m:EvR (A8 w O ρ s.n s.h) s η) (c:C3 P (.un l f) s k):D8 P k w O ρ s.h s.n ((execOp η o).run P w):=by
 have d:=m.ev d
 simp only [C3]at c
 generalize s.ev f=v at*
 unfold unK at c
 split at c
 ·rename_i j a
  have e:=d.int_inv
  have h:(execOp η o).run P w= .ok (.value (.int j (j.wrap (0-a)))) w:=by
   simp [execOp,g,Op.unary,Op.intArith,e]
  rw [h]
  exact D8.val i c.2 (B5J c.1)
 ·rename_i b
  have e:=d.bool_inv
  have h:(execOp η o).run P w= .ok (.value (.bool !b)) w:=by
   simp [execOp,g,Op.unary,e]
  rw [h]
  exact D8.val i c (.bool _)
 ·rename_i j a
  have e:=d.int_inv
  have h:(execOp η o).run P w= .ok (.value (.int j (A4f .xor j (bif j.signed then -1 else j.max) a))) w:=by
   cases hs:j.signed<;>simp [execOp,g,Op.unary,Op.intBits,A4f,e,hs]
  rw [h]
  exact D8.val i c (.int _ _)
 ·exact c.elim
theorem C9T{f:FuncId}{x:Array Operand}{xs':List Opd}(g:o.op= .makeFunc (.func f) #[] x)(e:u4 x.toList=some xs')
  (i:HeapR w O ρ s.n s.h) (d:EvR (A8 w O ρ s.n s.h) s η) (a:C3 P (.mkfn f xs') s k):D8 P k w O ρ s.h s.n ((execOp η o).run P w):=by
 have h:(execOp η o).run P w= .ok (.value (.func (.func f) #[] (x.toList.map η).toArray)) w:=by
  simp [execOp,g,Instr.makeFunc]
  apply Array.ext';simp
 rw [h]
 obtain⟨b,c⟩:=d.evs e
 exact D8.val i a (.fn f _ _ b c)
theorem C7w{x:Operand}{d:Opd}{t:TypeId}{i:Nat}{l:Array Field}{f:Field}{g:TypeInfo}(B:o.op= .fieldAddr t x i)(y:P.underlying t=some (.struct l))(A:l[i]? =some f)
  (v:P.info? f.type=some g) (C:g.size≠0) (b:D0 x=some d)
  (m:HeapR w O ρ s.n s.h) (z:EvR (A8 w O ρ s.n s.h) s η) (n:C3 P (.faddr f.offset d) s k):D8 P k w O ρ s.h s.n ((execOp η o).run P w):=by
 obtain⟨r,h,j⟩:=L6 n
 have b:=z.ev b
 generalize s.ev d=D at*
 have c: ∀a:Addr,η x= .pointer (some a)→(execOp η o).run P w= .ok (.value (.pointer (some (a.add f.offset)))) w:=by
  intro a u
  simp [execOp,B,Instr.fieldAt,run_underlying y,A,Instr.sureAddr,u,fieldPlace,sizeOf,typeInfo,v,C]
 unfold B5X at h
 split at h
 ·injection h with h
  subst h
  have e:=b.ptr_inv.2
  rw [c _ e]
  rw [e]at b
  exact D8.val m j b.ptr_add
 ·injection h with h
  subst h
  obtain⟨p,q,e⟩:=b.iptr_inv
  rw [c _ e]
  rw [e]at b
  exact D8.val m j b.iptr_add
 ·cases h
theorem C4s{x i:Operand}{u n:Opd}{t e:TypeId}{len:Nat}{l:TypeInfo}(B:o.op= .indexAddr t x i)(D:P.underlying t=some (.array len e))(r:P.info? e=some l)
  (b:D0 x=some u) (m:D0 i=some n)
  (y:HeapR w O ρ s.n s.h) (v:EvR (A8 w O ρ s.n s.h) s η) (h:C3 P (.iaddrA len l.size u n) s k):D8 P k w O ρ s.h s.n ((execOp η o).run P w):=by
 have b:=v.ev b
 have m:=v.ev m
 simp only [C3]at h
 generalize s.ev u=F at*
 generalize s.ev n=E at*
 unfold A3M at h
 split at h
 ·rename_i j z
  have A:=m.int_inv
  have c: ∀a:Addr,η x= .pointer (some a)→0≤z→z<len→(execOp η o).run P w= .ok (.value (.pointer (some (a.add (z.toNat*l.size))))) w:=by
   intro a C d f
   simp [execOp,B,Instr.indexAt,run_underlying D,A,C,asIntOf,Instr.sureAddr,d,f,sizeOf,typeInfo,r]
  split at h
  ·obtain⟨d,f,g⟩:=h
   have e:=b.ptr_inv.2
   rw [c _ e d f]
   rw [e]at b
   exact D8.val y g b.ptr_add
  ·obtain⟨d,f,g⟩:=h
   obtain⟨p,q,e⟩:=b.iptr_inv
   rw [c _ e d f]
   rw [e]at b
   exact D8.val y g b.iptr_add
  ·exact h.elim
 ·exact h.elim
theorem A0V{o:BinOp}{t:TypeId}{x y:Operand}{a b:Value}(h: ∀d c,a= .agg d→b= .agg c→False)(h':a= .nilIface→b= .nilIface→False):
  (eqGuard o t x y a b).run P w= .ok () w:=by
 have k:eqGuard o t x y a b=pure ():=by
  unfold eqGuard
  cases a<;>first
   |(cases b<;>first|(exact(h' rfl rfl).elim)|(exact(h _ _ rfl rfl).elim)|(cases o<;>rfl))
 rw [k];rfl
theorem A8Y(a b:List UInt8):(((⟨⟨a⟩⟩:ByteArray).toList)==(⟨⟨b⟩⟩:ByteArray).toList)=decide (a=b):=by
 rw [A4R,A4R,Bool.eq_iff_iff];simp
theorem B6u(a b:List UInt8):(a==b)=decide (a=b):=by rw [Bool.eq_iff_iff];simp
theorem B4j(a b:Bool):(a==b)=decide (a=b):=by cases a<;>cases b<;>rfl
theorem C5x{x y:Operand}{A B:Opd}{t E:TypeId}{l:BinOp}(D:o.op= .binOp l t x y E)
  (u:D0 x=some A) (p:D0 y=some B)
  (m:HeapR w O ρ s.n s.h) (C:EvR (A8 w O ρ s.n s.h) s η) (h:C3 P (.bin l A B) s k):D8 P k w O ρ s.h s.n ((execOp η o).run P w):=by
 have u:=C.ev u
 have p:=C.ev p
 simp only [C3]at h
 generalize s.ev A=L at*
 generalize s.ev B=J at*
 have r: ∀v,(eqGuard l t x y (η x) (η y)).run P w= .ok () w→(binOp l t (η x) (η y)).run P w= .ok v w→(execOp η o).run P w= .ok (.value v) w:=by
  intro v I H
  simp [execOp,D,I,H]
 unfold u3 at h
 split at h
 ·rename_i j a K b
  obtain⟨rfl,h⟩:=h
  have i:=u.int_inv
  have f:=p.int_inv
  have g:(eqGuard l t x y (η x) (η y)).run P w= .ok () w:=by rw [i,f];exact A0V zf zf
  have q: ∀z,inR j z→(binOp l t (.int j a) (.int j b)).run P w= .ok (.int j (j.wrap z)) w→k (B9e j z) s.h s.n→D8 P k w O ρ s.h s.n ((execOp η o).run P w):=by
   intro z F n h
   rw [r _ g (by rw [i,f];exact n)]
   exact D8.val m h (B5J F)
  have d: ∀c,(binOp l t (.int j a) (.int j b)).run P w= .ok (.bool c) w→k (.bool c) s.h s.n→D8 P k w O ρ s.h s.n ((execOp η o).run P w):=by
   exact Kg
  cases l<;>try exact h.elim
  case add=>exact q _ h.1 (by simp [binOp,Op.intArith]) h.2
  case sub=>exact q _ h.1 (by simp [binOp,Op.intArith]) h.2
  case mul=>exact q _ h.1 (by simp [binOp,Op.intArith]) h.2
  case quo=>exact q _ h.2.1 (by simp [binOp,Op.intDiv,h.1]) h.2.2
  case rem=>
   rw [r (.int j (a.tmod b)) g (by rw [i,f];simp [binOp,Op.intDiv,h.1])]
   exact D8.val m h.2 (.int _ _)
  case eql=>exact d _ (by simp [binOp,Op.intCmp,C3h]) h
  case neq=>exact d _ (by simp [binOp,Op.intCmp,D3f]) h
  case lss=>exact d _ Qs h
  case leq=>exact d _ Qs h
  case gtr=>exact d _ Qs h
  case geq=>exact d _ Qs h
  case and=>rw [r (.int j (A4f .and j a b)) g Qt];exact D8.val m h (.int _ _)
  case or=>rw [r (.int j (A4f .or j a b)) g Qt];exact D8.val m h (.int _ _)
  case xor=>rw [r (.int j (A4f .xor j a b)) g Qt];exact D8.val m h (.int _ _)
  case andNot=>rw [r (.int j (A4f .andNot j a b)) g Qt];exact D8.val m h (.int _ _)
 ·rename_i a b
  have i:=u.str_inv
  have f:=p.str_inv
  have g:(eqGuard l t x y (η x) (η y)).run P w= .ok () w:=by rw [i,f];exact A0V zf zf
  have d: ∀c,(binOp l t (.string ⟨⟨a⟩⟩) (.string ⟨⟨b⟩⟩)).run P w= .ok (.bool c) w→k (.bool c) s.h s.n→D8 P k w O ρ s.h s.n ((execOp η o).run P w):=by
   exact Kg
  cases l<;>try exact h.elim
  case add=>
   have G: ¬(((⟨⟨a⟩⟩:ByteArray).size+(⟨⟨b⟩⟩:ByteArray).size:Nat):Int)>IntKind.i64.max:=by
    show¬((a.length+b.length:Nat):Int)>9223372036854775807
    have:=h.1
    omega
   have e:(⟨⟨a⟩⟩++⟨⟨b⟩⟩:ByteArray)=⟨⟨a++b⟩⟩:=by
    apply ByteArray.ext
    simp
   rw [r (.string ⟨⟨a++b⟩⟩) g (by rw [i,f];simp only [binOp,Op.stringOp,if_neg G,Sem.run_pure,e])]
   exact D8.val m h.2 (.str _)
  case eql=>exact d _ (by simp only [binOp,Op.stringOp,A8Y,Sem.run_pure]) h
  case neq=>exact d _ (by simp only [binOp,Op.stringOp,A8Y,Sem.run_pure];simp) h
  case lss=>exact d _ (by simp only [binOp,Op.stringOp,A4R,Sem.run_pure,W6]) h
  case geq=>exact d _ (by simp only [binOp,Op.stringOp,A4R,Sem.run_pure,W6]) h
  case leq=>exact d _ (by simp only [binOp,Op.stringOp,A4R,Sem.run_pure,W6,B6u]) h
  case gtr=>exact d _ (by simp only [binOp,Op.stringOp,A4R,Sem.run_pure,W6,B6u]) h
 ·exact h.elim
theorem O9{t:TypeId}{x y:Value}{c:Bool}(h: ∀d,(Op.equalIn (d+1) t x y).run P w= .ok c w):(Op.equal t x y).run P w= .ok c w:=h 9999
theorem Z9{t e:TypeId}(h:P.underlying t=some (.pointer e))(b:Option Addr):(Op.equal t (.pointer none) (.pointer b)).run P w= .ok b.isNone w:=
 O9 fun d=>by simp [Op.equalIn,run_underlying h]
theorem A2G{t e:TypeId}(h:P.underlying t=some (.pointer e))(a:Addr):(Op.equal t (.pointer (some a)) (.pointer none)).run P w= .ok false w:=
 O9 fun d=>by simp [Op.equalIn,run_underlying h]
theorem B3e{t e u:TypeId}(h:P.underlying t=some (.map e u))(b:Option Nat):(Op.equal t (.map none) (.map b)).run P w= .ok b.isNone w:=
 O9 fun d=>by simp [Op.equalIn,run_underlying h]
theorem A2F{t e u:TypeId}(h:P.underlying t=some (.map e u))(a:Nat):(Op.equal t (.map (some a)) (.map none)).run P w= .ok false w:=
 O9 fun d=>by simp [Op.equalIn,run_underlying h]
theorem C2r{t:TypeId}(h:P.underlying t=some .bool)(a b:Bool):(Op.equal t (.bool a) (.bool b)).run P w= .ok (a==b) w:=
 O9 fun d=>by simp [Op.equalIn,run_underlying h]
theorem C0m{t:TypeId}{ms}(h:P.underlying t=some (.interface ms)):(Op.equal t .nilIface .nilIface).run P w= .ok true w:=
 O9 fun d=>by simp [Op.equalIn,run_underlying h]
theorem R.nilI_inv{E:Env}{u v:Value}(h:R E (.cst u) v):v=u:=by cases h;rfl
theorem C0n{t e:TypeId}(h:P.underlying t=some (.slice e))(a:Option Addr)(l c:Nat):(Op.equal t (.slice a l c) (.slice none 0 0)).run P w= .ok a.isNone w:=
 O9 fun d=>by cases a<;>simp [Op.equalIn,run_underlying h]
theorem C0k{t:TypeId}{ps rs v}(h:P.underlying t=some (.func ps rs v))(f:Fn)(a b:Array Value):(Op.equal t (.func f a b) .nilFunc).run P w= .ok false w:=
 O9 fun d=>by simp [Op.equalIn,run_underlying h]
theorem C0l{t:TypeId}{ps rs v}(h:P.underlying t=some (.func ps rs v)):(Op.equal t .nilFunc .nilFunc).run P w= .ok true w:=
 O9 fun d=>by simp [Op.equalIn,run_underlying h]
theorem C9O{x:Operand}{f:Opd}{t j e:TypeId}{neg:Bool}(q:o.op= .binOp (if neg then .neq else .eql) t x (.const (.slice none 0 0)) j)(n:P.underlying t=some (.slice e))(d:D0 x=some f)
  (u:HeapR w O ρ s.n s.h) (p:EvR (A8 w O ρ s.n s.h) s η) (h:C3 P (.eqn false neg f) s k) (r:η (.const (.slice none 0 0))= .slice none 0 0):D8 P k w O ρ s.h s.n ((execOp η o).run P w):=by
 have h:A8h false neg (s.ev f) k s.h s.n:=h
 have d:=p.ev d
 generalize s.ev f=v at*
 have fin: ∀(a:Option Addr) (l c:Nat),η x= .slice a l c→k (.bool (if a.isNone then !neg else neg)) s.h s.n→D8 P k w O ρ s.h s.n ((execOp η o).run P w):=by
  intro a l c e h
  have g:(execOp η o).run P w= .ok (.value (.bool (if a.isNone then !neg else neg))) w:=by
   have:=C0n (P:=P) (w:=w) n a l c
   cases neg<;>cases a<;>simp [execOp,q,e,r,eqGuard,binOp,this]<;>simp_all
  rw [g]
  exact D8.val u h (.bool _)
 unfold A8h at h
 split at h
 ·exact fin none 0 0 d.nils_inv h
 ·rename_i z
  cases hx':η x with
  | slice a l c=>
   refine fin a l c hx' ?_
   rw [hx']at d
   cases d with
   |isl=>exact h.1
   |isl0=>
    split
    ·exact h.2 rfl
    ·exact h.1
  |_=>rw [hx']at d;cases d
 ·rename_i b y i m
  cases hx':η x with
  | slice a l c=>
   refine fin a l c hx' ?_
   rw [hx']at d
   cases d with
   |sl=>exact h.1
   |sl0=>
    split
    ·exact h.2 rfl
    ·exact h.1
  |_=>rw [hx']at d;cases d
 all_goals first|exact h.elim|(rename_i e;cases e)
theorem C9N{x:Operand}{a:Opd}{t m:TypeId}{neg:Bool}{ps rs v}(i:o.op= .binOp (if neg then .neq else .eql) t x (.const .nilFunc) m)(g:P.underlying t=some (.func ps rs v))(b:D0 x=some a)
  (l:HeapR w O ρ s.n s.h) (p:EvR (A8 w O ρ s.n s.h) s η) (h:C3 P (.eqn true neg a) s k) (j:η (.const .nilFunc)= .nilFunc):D8 P k w O ρ s.h s.n ((execOp η o).run P w):=by
 have h:A8h true neg (s.ev a) k s.h s.n:=h
 have b:=p.ev b
 generalize s.ev a=q at*
 unfold A8h at h
 split at h
 ·rename_i e;cases e
 ·rename_i e;cases e
 ·rename_i e;cases e
 ·rename_i f r _
  obtain⟨n,d,_⟩:=b.fn_inv
  have c:(execOp η o).run P w= .ok (.value (.bool neg)) w:=by
   have:=C0k (P:=P) (w:=w) g (.func f) #[] n
   cases neg<;>simp [execOp,i,d,j,eqGuard,binOp,this]
  rw [c]
  exact D8.val l h (.bool _)
 ·have d:=b.nilI_inv
  have c:(execOp η o).run P w= .ok (.value (.bool !neg)) w:=by
   have:=C0l (P:=P) (w:=w) g
   cases neg<;>simp [execOp,i,d,j,eqGuard,binOp,this]
  rw [c]
  exact D8.val l h (.bool _)
 ·exact h.elim
theorem C0q{x y:Operand}{B C:Opd}{t I:TypeId}{neg:Bool}{i:Nat}{d:TypeDesc}(H:o.op= .binOp (if neg then .neq else .eql) t x y I)(g:P.underlying t=some d)
  (E:(i=0∧ ∃e,d= .pointer e)∨(i=1∧ ∃e u,d= .map e u)∨(i=2∧d= .bool))
  (n:D0 x=some B) (m:D0 y=some C)
  (N:HeapR w O ρ s.n s.h) (D:EvR (A8 w O ρ s.n s.h) s η) (K:C3 P (.eqp i neg B C) s k):D8 P k w O ρ s.h s.n ((execOp η o).run P w):=by
 have n:=D.ev n
 have m:=D.ev m
 obtain⟨r,h,F⟩:=L6 K
 generalize s.ev B=L at*
 generalize s.ev C=Q at*
 cases hkind:B4w i L with
 |false=>rw [hkind]at h;cases h
 | true=>
  rw [hkind,cond_true]at h
  have fin: ∀c,(Op.equal t (η x) (η y)).run P w= .ok c w→(eqGuard (if neg then .neq else .eql) t x y (η x) (η y)).run P w= .ok () w→
    (binOp (if neg then .neq else .eql) t (η x) (η y)).run P w= .ok (.bool (if neg then !c else c)) w→r= .bool (if neg then !c else c)→D8 P k w O ρ s.h s.n ((execOp η o).run P w):=by
   intro c _ J M G
   have:(execOp η o).run P w= .ok (.value (.bool (if neg then !c else c))) w:=by simp [execOp,H,J,M]
   rw [this]
   subst G
   exact D8.val N F (.bool _)
  rcases E with⟨rfl,e,rfl⟩|⟨rfl,e,u,rfl⟩|⟨rfl,rfl⟩
  ·have f:(∃c,(Op.equal t (η x) (η y)).run P w= .ok c w∧r= .bool (if neg then !c else c))∧(∃a,η x= .pointer a)∧ ∃b,η y= .pointer b:=by
    unfold C3r at h
    split at h<;>first|(cases h;done)|(simp [B4w]at hkind;done)|skip
    ·injection h with h
     rw [n.nilp_inv,m.nilp_inv]
     exact Yu
    ·injection h with h
     rw [n.ptr_inv.2,m.nilp_inv]
     exact JD
    ·injection h with h
     rw [m.ptr_inv.2,n.nilp_inv]
     exact JD
    ·injection h with h
     obtain⟨p,q,A⟩:=n.iptr_inv
     rw [A,m.nilp_inv]
     exact JD
    ·injection h with h
     obtain⟨p,q,A⟩:=m.iptr_inv
     rw [A,n.nilp_inv]
     exact JD
   obtain⟨⟨c,l,j⟩,⟨a,v⟩,⟨b,z⟩⟩:=f
   refine fin c l (by rw [v,z];exact A0V zf zf) ?_ j
   rw [v,z]at l⊢
   cases neg<;>simp [binOp,l]
  ·have f:(∃c,(Op.equal t (η x) (η y)).run P w= .ok c w∧r= .bool (if neg then !c else c))∧(∃a,η x= .map a)∧ ∃b,η y= .map b:=by
    unfold C3r at h
    split at h<;>first|(cases h;done)|(simp [B4w]at hkind;done)|skip
    ·injection h with h
     rw [n.nilm_inv,m.nilm_inv]
     exact Yu
    ·injection h with h
     rw [n.mp_inv.2,m.nilm_inv]
     exact JD
   obtain⟨⟨c,l,j⟩,⟨a,v⟩,⟨b,z⟩⟩:=f
   refine fin c l (by rw [v,z];exact A0V zf zf) ?_ j
   rw [v,z]at l⊢
   cases neg<;>simp [binOp,l]
  ·have f:(∃c,(Op.equal t (η x) (η y)).run P w= .ok c w∧r= .bool (if neg then !c else c))∧(∃a,η x= .bool a)∧ ∃b,η y= .bool b:=by
    unfold C3r at h
    split at h<;>first|(cases h;done)|(simp [B4w]at hkind;done)|skip
    ·injection h with h
     rw [n.bool_inv,m.bool_inv]
     rename_i a b
     exact⟨⟨a==b,C2r g _ _,by cases neg<;>cases a<;>cases b<;>simpa using h.symm⟩,⟨_,rfl⟩,⟨_,rfl⟩⟩
   obtain⟨⟨c,l,j⟩,⟨a,v⟩,⟨b,z⟩⟩:=f
   refine fin c l (by rw [v,z];exact A0V zf zf) ?_ j
   rw [v,z]at l⊢
   cases neg<;>simp [binOp,l]
end
end Go.Abs
namespace Go.Abs
section
variable {P:Program} {k:Res} {w:World} {O:Nat→Prop} {ρ:Nat→Loc} {s:St} {η:Operand→Value} {o:Oper}
theorem C3O{b st:Nat}{es:List (V×V)}{h:A2}{n:Nat}(e:HeapR w O ρ n h)(d:A2.get h b st=some (.map es)):
  ∃(a:Array MapEntry) (c:Nat),w.heap[(ρ st).blk]? =some (.map a c)∧a.size=es.length∧
   (∀(i:Nat) p m,es[i]? =some p→a[i]? =some m→R (A8 w O ρ n h) p.1 m.key∧R (A8 w O ρ n h) p.2 m.val∧m.born<c)∧
   (∀(i j:Nat) m m',a[i]? =some m→a[j]? =some m'→m.born=m'.born→i=j):=(e.blk _ (A2.mem_of_get d)).2
theorem R.sl_inv{E:Env}{b st i m:Nat}{v:Value}(h:R E (.sl b st i m) v): ∃p c,v= .slice p m c:=by
 cases h with
 |sl _ _ _ _ d=>exact⟨_,_,rfl⟩
 |sl0 _ _ _ a=>exact⟨_,_,rfl⟩
theorem R.isl_inv{E:Env}{es:List (List V)}{v:Value}(h:R E (.isl es) v): ∃p c,v= .slice p es.length c:=by
 cases h with
 |isl=>exact⟨_,_,rfl⟩
 |isl0 a b=>exact⟨_,_,rfl⟩
theorem C0r{x:Operand}{m:Opd}{t:TypeId}{f:Nat}{d:TypeDesc}(C:o.op= .call {callee:= .builtin .len,args:= #[x],argTypes:= #[t]})(i:P.underlying t=some d)
  (q:(f=0∧ ∃e,d= .slice e)∨(f=1∧d= .string)∨(f=2∧ ∃e u,d= .map e u)) (g:D0 x=some m)
  (n:HeapR w O ρ s.n s.h) (H:EvR (A8 w O ρ s.n s.h) s η) (E:C3 P (.len f m) s k):D8 P k w O ρ s.h s.n ((execOp η o).run P w):=by
 obtain⟨r,a,v⟩:=L6 E
 have g:=H.ev g
 generalize s.ev m=I at*
 have fin: ∀z:Int,(Builtin.len_ #[t] o.type #[η x]).run P w= .ok (goInt z) w→r= .int .i64 z→D8 P k w O ρ s.h s.n ((execOp η o).run P w):=by
  intro z h e
  have:(execOp η o).run P w= .ok (.value (.int .i64 z)) w:=by simp [execOp,C,resolve,invoke,builtin,h,goInt]
  rw [this]
  subst e
  exact D8.val n v (.int _ _)
 unfold B6p at a
 rcases q with⟨rfl,e,rfl⟩|⟨rfl,rfl⟩|⟨rfl,e,u,rfl⟩
 ·split at a<;>first|(cases a;done)|(simp_all;done)|skip
  ·injection a with a
   obtain⟨p,c,j⟩:=g.sl_inv
   exact fin _ (by rw [j];simp [Builtin.len_,run_underlying i]) a.symm
  ·injection a with a
   obtain⟨p,c,j⟩:=g.isl_inv
   exact fin _ (by rw [j];simp [Builtin.len_,run_underlying i]) a.symm
  ·injection a with a
   exact fin 0 (by rw [g.nils_inv];simp [Builtin.len_,run_underlying i]) a.symm
 ·split at a<;>first|(cases a;done)|(simp_all;done)|skip
  ·injection a with a
   exact fin _ (by rw [g.str_inv];simp [Builtin.len_,run_underlying i];rfl) a.symm
 ·split at a<;>first|(cases a;done)|(simp_all;done)|skip
  ·injection a with a
   exact fin 0 (by rw [g.nilm_inv];simp [Builtin.len_,run_underlying i]) a.symm
  ·rename_i b G _
   unfold C3M at a
   split at a
   ·rename_i A D
    injection a with a
    obtain⟨y,l,B,F,_⟩:=C3O n D
    have j:η x= .map (some (ρ G).blk):=g.mp_inv.2
    refine fin A.length ?_ a.symm
    rw [j,←F]
    simp [Builtin.len_,run_underlying i,getObj,Sem.run,B]
   ·cases a
theorem C9U{x y:Operand}{e g:Opd}{mx:Bool}{ts:Array TypeId}(q:o.op= .call {callee:= .builtin (if mx then .max else .min),args:= #[x,y],argTypes:=ts})(f:D0 x=some e)(c:D0 y=some g)
  (t:HeapR w O ρ s.n s.h) (l:EvR (A8 w O ρ s.n s.h) s η) (n:C3 P (.mm mx [e,g]) s k):D8 P k w O ρ s.h s.n ((execOp η o).run P w):=by
 obtain⟨r,h,p⟩:=L6 n
 have f:=l.ev f
 have c:=l.ev c
 simp only [List.map_cons,List.map_nil]at h
 generalize s.ev e=u at*
 generalize s.ev g=v at*
 unfold mmV at h
 split at h
 ·rename_i j a m b d
  injection d with e1 e2
  injection e2 with e2 _
  subst e1;subst e2
  by_cases i:j=m
  ·subst i
   simp at h
   subst h
   have:(execOp η o).run P w= .ok (.value (.int j (mm2 mx a b))) w:=by
    rw [show (execOp η o).run P w=(do let r←(if mx then Builtin.max_ ts o.type #[η x,η y]else Builtin.min_ ts o.type #[η x,η y]);pure (Next.value r):Sem Next).run P w from by
     cases mx<;>simp [execOp,q,resolve,invoke,builtin]]
    rw [f.int_inv,c.int_inv]
    cases mx<;>simp [Builtin.max_,Builtin.min_,Builtin.max2,Builtin.min2,mm2]
   rw [this]
   exact D8.val t p (.int _ _)
  ·simp [i]at h
 ·cases h
theorem D1x{x i:Operand}{g d:Opd}{t:TypeId}(y:o.op= .index t x i)(q:P.underlying t=some .string)(l:D0 x=some g)(e:D0 i=some d)
  (p:HeapR w O ρ s.n s.h) (n:EvR (A8 w O ρ s.n s.h) s η) (h:C3 P (.idx g d) s k):D8 P k w O ρ s.h s.n ((execOp η o).run P w):=by
 have l:=n.ev l
 have e:=n.ev e
 simp only [C3]at h
 generalize s.ev g=B at*
 generalize s.ev d=C at*
 unfold B9K at h
 split at h
 ·rename_i b j z
  obtain⟨A,a⟩:=h
  obtain⟨r,a,u⟩:=L6 a
  rw [Option.map_eq_some_iff]at a
  obtain⟨c,m,rfl⟩:=a
  have f:z.toNat<(⟨⟨b⟩⟩:ByteArray).size:=(List.getElem?_eq_some_iff.1 m).1
  have v:(⟨⟨b⟩⟩:ByteArray)[z.toNat]? =some c:=by
   rw [ByteArray.getElem?_lt' _ _ f]
   have:=(List.getElem?_eq_some_iff.1 m).2
   exact congrArg some this
  have:(execOp η o).run P w= .ok (.value (.int .u8 c.toNat)) w:=by
   simp [execOp,y,Instr.index,run_underlying q,l.str_inv,e.int_inv,asIntOf,A,v]
  rw [this]
  exact D8.val p u (.int _ _)
 ·exact h.elim
theorem B0N{t:TypeId}{a:Bool}{n:Nat}(h:B2a P t=some (n,a))(w:World):(isAgg t).run P w= .ok a w:=by
 unfold B2a at h
 cases hi:P.info? t with
 |none=>simp [hi]at h
 | some i=>
  cases hu:P.underlying t with
  |none=>simp [hi,hu]at h
  |some d=>
   cases d<;>simp [hi,hu]at h<;>(obtain⟨_,rfl⟩:=h;simp [isAgg,run_underlying hu])
theorem C7H{t:TypeId}{a:Bool}{n:Nat}(h:B2a P t=some (n,a)): ∃i,P.info? t=some i∧i.size=n:=by
 unfold B2a at h
 cases hi:P.info? t with
 |none=>simp [hi]at h
 |some i=>
  cases hu:P.underlying t with
  |none=>simp [hi,hu]at h
  |some d=>cases d<;>simp [hi,hu]at h<;>exact⟨i,rfl,h.1⟩
theorem C2s{t:TypeId}{a:Bool}{n:Nat}(h:B2a P t=some (n,a))(w:World):(sizeOf t).run P w= .ok n w:=by
 obtain⟨i,c,b⟩:=C7H h
 simp [sizeOf,typeInfo,c,b]
theorem B8z{E:Env}{d:List V}{e:Array Value}{j n:Nat}{b:Bool}{r:V}{t:TypeId}(g:RL E d e)(m: ∀(i:Nat) v,e[i]? =some v→v.oneCell'=true)
  (l:B2a P t=some (n,b)) (h:S5 d j n b=some r): ∃v,(part t e j).run P w= .ok v w∧R E r v:=by
 cases b with
 | true=>
  simp only [S5,cond_true]at h
  cases hb:Nat.ble (j+n) d.length with
  |false=>rw [hb]at h;cases h
  | true=>
   rw [hb,cond_true]at h
   injection h with h
   subst h
   have o:=Nat.le_of_ble_eq_true hb
   have p:=g.1
   refine⟨.agg (e.extract j (j+n)),by simp [part,B0N l,C2s l],.agg _ _ ?_ ?_ ?_⟩
   ·simp;omega
   ·intro i v a
    rw [Array.getElem?_extract]at a
    split at a
    ·exact m _ _ a
    ·cases a
   ·intro i c v a k
    rw [Array.getElem?_extract]at k
    split at k
    ·rw [List.getElem?_take,List.getElem?_drop]at a
     split at a
     ·exact g.2 (j+i) c v a k
     ·cases a
    ·cases k
 |false=>
  simp only [S5,cond_false]at h
  have f:j<e.size:=by have:=(List.getElem?_eq_some_iff.1 h).1;have:=g.1;omega
  exact⟨e[j],by simp [part,B0N l,f],g.2 j r _ h (by simp [f])⟩
theorem D1w{x:Operand}{e:Opd}{t:TypeId}{i n:Nat}{a:Bool}{j:Array Field}{f:Field}(u:o.op= .field t x i)(C:P.underlying t=some (.struct j))(q:j[i]? =some f)
  (c:B2a P f.type=some (n,a)) (g:D0 x=some e)
  (D:HeapR w O ρ s.n s.h) (p:EvR (A8 w O ρ s.n s.h) s η) (y:C3 P (.fld f.offset n a e) s k):D8 P k w O ρ s.h s.n ((execOp η o).run P w):=by
 obtain⟨r,b,m⟩:=L6 y
 have g:=p.ev g
 generalize s.ev e=F at*
 unfold C8x at b
 split at b
 ·obtain⟨E,B,z,h,A⟩:=g.agg_inv
  obtain⟨v,l,d⟩:=B8z (P:=P) (w:=w) ⟨z,A⟩ h c b
  have:(execOp η o).run P w= .ok (.value v) w:=by simp [execOp,u,Instr.field,run_underlying C,q,asAgg,B,l]
  rw [this]
  exact D8.val D m d
 ·cases b
theorem C9P{x i:Operand}{m g:Opd}{t e:TypeId}{len n:Nat}{a:Bool}{q:TypeInfo}(C:o.op= .index t x i)(B:P.underlying t=some (.array len e))(l:P.info? e=some q)
  (c:B2a P e=some (n,a)) (p:D0 x=some m) (f:D0 i=some g)
  (D:HeapR w O ρ s.n s.h) (u:EvR (A8 w O ρ s.n s.h) s η) (h:C3 P (.idxA len q.size n a m g) s k):D8 P k w O ρ s.h s.n ((execOp η o).run P w):=by
 have p:=u.ev p
 have f:=u.ev f
 simp only [C3]at h
 generalize s.ev m=N at*
 generalize s.ev g=K at*
 unfold B0a at h
 split at h
 ·rename_i L j z
  obtain⟨J,I,h⟩:=h
  obtain⟨r,A,G⟩:=L6 h
  obtain⟨M,H,E,b,F⟩:=p.agg_inv
  obtain⟨v,y,d⟩:=B8z (P:=P) (w:=w) ⟨E,F⟩ b c A
  have:(execOp η o).run P w= .ok (.value v) w:=by
   simp [execOp,C,Instr.index,run_underlying B,H,f.int_inv,asIntOf,J,I,sizeOf,typeInfo,l,y]
  rw [this]
  exact D8.val D G d
 ·exact h.elim
theorem C3q{E:Env}{t:TypeId}{k:Nat}{x y:V}{a b:Value}{c:Bool}{d:Nat}(l:W8 P (d+1) t=some (.leaf k))(g:R E x a)(f:R E y b)(h:B9u k x y=some c):
  ∀m,(Op.equalIn (m+1) t a b).run P w= .ok c w:=by
 intro m
 have e:(k=0∧P.underlying t=some .bool)∨(k=1∧ ∃j,P.underlying t=some (.int j))∨(k=2∧P.underlying t=some .string):=by
  simp only [W8]at l
  split at l<;>simp_all
 unfold B9u at h
 rcases e with⟨rfl,e⟩|⟨rfl,j,e⟩|⟨rfl,e⟩
 ·split at h<;>first|(cases h;done)|(simp_all;done)|skip
  injection h with h
  rw [g.bool_inv,f.bool_inv,run_equalIn_bool' _ _ _ _ _ e,←h,B4j]
 ·split at h<;>first|(cases h;done)|(simp_all;done)|skip
  rename_i o p n q _
  by_cases i:o=n
  ·subst i
   simp at h
   rw [g.int_inv,f.int_inv,run_equalIn_int _ _ _ _ _ _ _ e,←h,C3h]
  ·simp [i]at h
 ·split at h<;>first|(cases h;done)|(simp_all;done)|skip
  injection h with h
  rw [g.str_inv,f.str_inv,run_equalIn_string _ _ _ _ _ e,←h,A8Y]
theorem RL.part{E:Env}{x:List V}{d:Array Value}(h:RL E x d)(o n:Nat):RL E ((x.drop o).take n) (d.extract o (o+n)):=by
 obtain⟨f,e⟩:=h
 refine⟨by simp;omega,fun i c v a b=> ?_⟩
 rw [Array.getElem?_extract]at b
 split at b
 ·rw [List.getElem?_take,List.getElem?_drop]at a
  split at a
  ·exact e (o+i) c v a b
  ·cases a
 ·cases b
theorem B7M{a b:Option Bool}{c:Bool}(h:D0o a b=some c): ∃x y,a=some x∧b=some y∧c=(x&&y):=by
 unfold D0o at h
 split at h
 ·injection h with h;exact⟨_,_,rfl,rfl,h.symm⟩
 ·cases h
theorem C5b{E:Env}: ∀(d:Nat) (t:TypeId) (e:ETy) (i:TypeInfo) (G F:List V) (v u:Array Value) (o:Nat) (c:Bool),W8 P d t=some e→P.info? t=some i→
  RL E G v→RL E F u→eqE e ((G.drop o).take i.size) ((F.drop o).take i.size)=some c→ ∀m (w:World),∃a b,(part t v o).run P w= .ok a w∧(part t u o).run P w= .ok b w∧(Op.equalIn (m+d) t a b).run P w= .ok c w
 |0,_,_,_,_,_,_,_,_,_,h,_,_,_,_,_,_=>by simp [W8]at h
 | d + 1,t,e,i,G,F,v,u,o,c,hsh,hi,hx,hy,he,m,w=>by
  have k: ∀W j,e= .leaf W→P.underlying t=some j→(∀I,j≠ .struct I)→(∀n e,j≠ .array n e)→ ∃a b,(part t v o).run P w= .ok a w∧(part t u o).run P w= .ok b w∧(Op.equalIn (m+(d+1)) t a b).run P w= .ok c w:=by
   intro W j hk q T M
   subst hk
   have p:(isAgg t).run P w= .ok false w:=by
    simp only [isAgg,Sem.run_bind,run_underlying q,Result.andThen_ok]
    cases j<;>first|rfl|exact(T _ rfl).elim|exact(M _ _ rfl).elim
   unfold eqE at he
   split at he<;>first|(cases he;done)|(simp_all;done)|skip
   rename_i kd' x y A e1 e2
   injection A with A
   subst A
   have X:G[o]? =some x:=by
    have:=congrArg (fun l=>l[0]?) e1
    exact XT
   have gy:F[o]? =some y:=by
    have:=congrArg (fun l=>l[0]?) e2
    exact XT
   have Y:o<v.size:=by have:=(List.getElem?_eq_some_iff.1 X).1;have:=hx.1;omega
   have Z:o<u.size:=by have:=(List.getElem?_eq_some_iff.1 gy).1;have:=hy.1;omega
   refine⟨v[o],u[o],by simp [part,p,Y],by simp [part,p,Z],?_⟩
   exact C3q hsh (hx.2 o x _ X (by simp [Y])) (hy.2 o y _ gy (by simp [Z])) he (m+d)
  have H:=hsh
  simp only [W8]at hsh
  split at hsh
  ·exact Ys
  ·exact Ys
  ·exact Ys
  ·rename_i I q
   split at hsh
   ·cases hsh
   ·rename_i R
    rw [Option.map_eq_some_iff]at hsh
    obtain⟨es,g,rfl⟩:=hsh
    have p:(isAgg t).run P w= .ok true w:=by simp [isAgg,run_underlying q]
    have C:(sizeOf t).run P w= .ok i.size w:=by simp [sizeOf,typeInfo,hi]
    refine⟨.agg (v.extract o (o+i.size)),.agg (u.extract o (o+i.size)),by simp [part,p,C],by simp [part,p,C],?_⟩
    have B:P.fieldsOf t=I:=by simp [Program.fieldsOf,q]
    rw [show m+(d+1)=(m+d)+1 from rfl,run_equalIn_struct w (m+d) t _ _ (by rw [B];exact q) (by simpa using R),B]
    have D:=hx.part o i.size
    have s:=hy.part o i.size
    simp only [eqE]at he
    generalize (G.drop o).take i.size=J at he D
    generalize (F.drop o).take i.size=S at he s
    generalize v.extract o (o+i.size)=N at D
    generalize u.extract o (o+i.size)=K at s
    clear q B p C k H
    generalize I.toList=l at g
    induction l generalizing es c with
    |nil=>
     simp [W8.shapeFs]at g;subst g
     simp [eqE.eqFs]at he;subst he
     rfl
    | cons f r ih=>
     simp only [W8.shapeFs]at g
     split at g
     ·cases g
     ·rename_i z
      split at g
      ·rename_i i' e' O T M h3
       injection g with g
       subst g
       simp only [eqE.eqFs]at he
       obtain⟨x,y,U,L,rfl⟩:=B7M he
       obtain⟨a,b,ha,hb,Q⟩:=C5b d f.type e' i' J S N K f.offset x M T D s U m w
       simp only [Op.eqFields,if_pos z,Sem.run_bind,ha,hb,Q,Result.andThen_ok,ne_eq]
       cases x with
       |true=>simpa using ih y O L h3
       |false=>simp
      ·cases g
  ·cases hsh
theorem C0p{d:Nat}{t:TypeId}{e:ETy}{f:Array Field}(h:W8 P (d+1) t=some e)(g:P.underlying t=some (.struct f)):
  ∃a,e= .agg a∧P.stoodInHeld t=false∧W8.shapeFs P (W8 P d) f.toList=some a:=by
 simp only [W8,g]at h
 split at h
 ·cases h
 ·rename_i c
  rw [Option.map_eq_some_iff]at h
  obtain⟨a,b,rfl⟩:=h
  exact⟨a,rfl,by simpa using c,b⟩
theorem D1v{x y:Operand}{G H:Opd}{t t':TypeId}{neg:Bool}{e:ETy}{C:Array Field}(X:o.op= .binOp (if neg then .neq else .eql) t x y t')(n:P.underlying t=some (.struct C))
  (j:W8 P 8 t=some e) (R:P.eqGuardType P.depth t=false)
  (L:D0 x=some G) (p:D0 y=some H)
  (hr:HeapR w O ρ s.n s.h) (Q:EvR (A8 w O ρ s.n s.h) s η) (S:C3 P (.eqa neg e G H) s k):D8 P k w O ρ s.h s.n ((execOp η o).run P w):=by
 have L:=Q.ev L
 have p:=Q.ev p
 obtain⟨r,i,N⟩:=L6 S
 generalize s.ev G=vx at*
 generalize s.ev H=vy at*
 unfold C8u at i
 split at i
 ·rename_i U T
  rw [Option.map_eq_some_iff]at i
  obtain⟨c,m,rfl⟩:=i
  obtain⟨v,hv,hl,_,hR⟩:=L.agg_inv
  obtain⟨u,K,z,_,F⟩:=p.agg_inv
  have J:(Op.equal t (.agg v) (.agg u)).run P w= .ok c w:=by
   show (Op.equalIn (9992+8) t (.agg v) (.agg u)).run P w= .ok c w
   ·obtain⟨W,rfl,E,h⟩:=C0p j n
    have g:P.fieldsOf t=C:=by simp [Program.fieldsOf,n]
    rw [show 9992+8=(9992+7)+1 from rfl,run_equalIn_struct w (9992+7) t _ _ (by rw [g];exact n) (by simpa using E),g]
    simp only [eqE]at m
    clear j g n R N S
    generalize C.toList=l at h
    induction l generalizing W c with
    |nil=>
     simp [W8.shapeFs]at h;subst h
     simp [eqE.eqFs]at m;subst m
     rfl
    | cons f r V=>
     simp only [W8.shapeFs]at h
     split at h
     ·cases h
     ·rename_i d
      split at h
      ·rename_i Y e' B i I h3
       injection h with h
       subst h
       simp only [eqE.eqFs]at m
       obtain⟨x,y,M,q,rfl⟩:=B7M m
       obtain⟨a,b,Z,hb,D⟩:=C5b 7 f.type e' Y U T v u f.offset x I i ⟨hl,hR⟩ ⟨z,F⟩ M 9992 w
       simp only [Op.eqFields,if_pos d,Sem.run_bind,Z,hb,D,Result.andThen_ok,ne_eq]
       cases x with
       |true=>simpa using V y B q h3
       |false=>simp
      ·cases h
  have A:(eqGuard (if neg then .neq else .eql) t x y (.agg v) (.agg u)).run P w= .ok () w:=by
   cases neg<;>simp [eqGuard,R]
  have:(execOp η o).run P w= .ok (.value (.bool (bif neg then !c else c))) w:=by
   simp only [execOp,X,hv,K,Sem.run_bind,A,Result.andThen_ok]
   cases neg<;>simp [binOp,J]
  rw [this]
  exact D8.val hr N (.bool _)
 ·cases i
end
end Go.Abs
namespace Go.Abs
section
variable {P:Program} {k:Res} {w:World} {O:Nat→Prop} {ρ:Nat→Loc} {s:St} {η:Operand→Value} {o:Oper}
theorem HeapR.real{h:A2}{n:Nat}(j:HeapR w O ρ n h){x:Nat}(q:Own ρ h x):x<w.heap.size:=by
 obtain⟨e,o,i,rfl⟩:=q
 have:=j.blk e o
 cases hb:e.2.2 with
 |rows A k=>rw [hb]at this;exact(this.2.2.1 i).2
 |map d=>rw [hb]at this;obtain⟨_,m,c,a,_⟩:=this;exact(Array.getElem?_eq_some_iff.1 a).1
 |loop N v z p s b=>rw [hb]at this;obtain⟨_,_,r,a,_⟩:=this;exact(Array.getElem?_eq_some_iff.1 a).1
 |mapb d f g=>rw [hb]at this;obtain⟨_,m,a,_⟩:=this;exact(Array.getElem?_eq_some_iff.1 a).1
 |iter t d f g left l=>rw [hb]at this;obtain⟨_,_,_,y,a,_⟩:=this;exact(Array.getElem?_eq_some_iff.1 a).1
 |raw k=>rw [hb]at this;obtain⟨_,_,⟨u,B,a,_⟩,_⟩:=this;exact(Array.getElem?_eq_some_iff.1 a).1
theorem HeapR.world{h:A2}{n:Nat}{w':World}(a:HeapR w O ρ n h)(f:Wd w w')(d: ∀x,x<w.heap.size→w'.heap[x]? =w.heap[x]?):
  HeapR w' O ρ n h∧Ext (A8 w O ρ n h) (A8 w' O ρ n h):=by
 have b:Ext (A8 w O ρ n h) (A8 w' O ρ n h):=⟨rfl,Nat.le_refl _,fun _ _=>rfl,f,fun x b g=>⟨d x b,g⟩⟩
 exact⟨⟨a.lt,a.inj,fun x b=>Nat.lt_of_lt_of_le (a.out x b) f.size,a.notO,fun e c=>(a.blk e c).mono b (a.lt e c) fun i=>d _ (a.real ⟨e,c,i,rfl⟩),a.gl.mono b.imm⟩,b⟩
theorem A6u(w:World)(o:Obj)(x:Nat)(h:x<w.heap.size):(w.alloc o).heap[x]? =w.heap[x]? :=heap_alloc_old w o h
theorem R.cells{E:Env}{v:V}{x:Value}{cs:List V}(h:R E v x)(b:A3y v=some cs):RL E cs x.cells∧ ∀(i:Nat) u,x.cells[i]? =some u→u.oneCell'=true:=by
 unfold A3y at b
 split at b<;>first|(cases b;done)|skip
 ·injection b with b
  subst b
  obtain⟨q,rfl,m,f,n⟩:=h.agg_inv
  exact⟨⟨m,n⟩,f⟩
 ·exact Xd
 ·exact Xd
 ·rename_i f l j k g p
  injection b with b
  subst b
  have o:x.cells= #[x]∧x.oneCell'=true:=by
   cases h<;>first
    |exact⟨rfl,rfl⟩
    |exact(f _ rfl).elim
    |exact(l rfl).elim
    |exact(l _ rfl).elim
    |exact(j rfl).elim
    |exact(j _ rfl).elim
    |exact(k rfl).elim
    |exact(k _ rfl).elim
    |exact(g rfl).elim
    |exact(g _ rfl).elim
    |exact(p _ rfl).elim
  rw [o.1]
  refine⟨⟨rfl,fun i c u d a=> ?_⟩,fun i u a=> ?_⟩
  ·cases i with
   |zero=>simp at d a;subst d;subst a;exact h
   |succ i=>simp at d
  ·cases i with
   |zero=>simp at a;subst a;exact o.2
   |succ i=>simp at a
theorem HeapR.alloc{h:A2}{n:Nat}(z:HeapR w O ρ n h)(nm sz cap:Nat)(rs:List (List V))(cs:Array Value)(m:TypeId)(f:cs.size=cap*sz)(o:rs.length≤cap)
  (b: ∀(i:Nat) r,rs[i]? =some r→r.length=sz∧ ∀(j:Nat) c,r[j]? =some c→ ∃x,cs[i*sz+j]? =some x∧x.oneCell'=true∧R (A8 w O ρ n h) c x):
  ∃ρ':Nat→Loc,ρ' n=⟨w.heap.size,0,sz,cap⟩∧HeapR (w.alloc (.cells cs m)) O ρ' (n+1) (A2.put h nm n (.rows sz rs))∧
   Ext (A8 w O ρ n h) (A8 (w.alloc (.cells cs m)) O ρ' (n+1) (A2.put h nm n (.rows sz rs))):=by
 let ρ':Nat→Loc:=fun s=>if s=n then⟨w.heap.size,0,sz,cap⟩else ρ s
 have a:ρ' n=⟨w.heap.size,0,sz,cap⟩:=by simp [ρ']
 refine⟨ρ',a,?_⟩
 refine HeapR.step z (Nat.le_succ _) (fun s e=>by simp [ρ',Nat.ne_of_lt e]) (Nat.lt_succ_self _) (Wd.alloc _ _)
  (fun y q _=>A6u _ _ _ q) (by rw [a];exact .inr (.inl (Nat.le_refl _))) ?_
 intro v
 refine⟨by simp [a],by simp [a,o],?_,?_⟩
 ·intro _
  simp only [a]
  refine⟨fun j d=> ?_,by simp⟩
  have:j<cs.size:=by rw [f];exact d
  simp [this]
 ·intro i r p
  obtain⟨t,u⟩:=b i r p
  refine⟨t,fun j c d=> ?_⟩
  obtain⟨x,l,k,g⟩:=u j c d
  exact⟨x,by simp [a,l],k,g.mono v⟩
theorem D1t{x:Operand}{d:Opd}{e:TypeId}{nm sz:Nat}(t:(o.op= .box e x))(m:D0 x=some d)
  (A:HeapR w O ρ s.n s.h) (y:EvR (A8 w O ρ s.n s.h) s η) (a:C3 P (.box nm sz d) s k):D8 P k w O ρ s.h s.n ((execOp η o).run P w):=by
 have m:=y.ev m
 simp only [C3]at a
 generalize s.ev d=B at*
 unfold B7x at a
 split at a
 ·rename_i n u
  obtain⟨q,a⟩:=a
  obtain⟨f,z⟩:=m.cells u
  have:(execOp η o).run P w= .ok (.value (.pointer (some ⟨w.heap.size,0,none⟩))) (w.alloc (.cells (η x).cells e)):=by
   simp [execOp,t,Instr.box,newVar,newRow]
  rw [this]
  obtain⟨ρ',r,g,l⟩:=A.alloc nm sz 1 [n] (η x).cells e (by rw [←f.1,q,Nat.one_mul]) zf (fun i v b=>by
   cases i with
   |succ i=>simp at b
   |zero=>
    simp at b;subst b
    refine⟨q,fun j c p=> ?_⟩
    have h:j<(η x).cells.size:=by have:=(List.getElem?_eq_some_iff.1 p).1;rw [←f.1];exact this
    exact⟨(η x).cells[j],by simp [h],z j _ (by simp [h]),f.2 j c _ p (by simp [h])⟩)
  refine⟨_,_,_,ρ',a,g,?_,l⟩
  have:=R.ptr (E:=A8 (w.alloc (.cells (η x).cells e)) O ρ' (s.n+1) (A2.put s.h nm s.n (.rows sz [n]))) nm s.n 0 0 (Nat.lt_succ_self _)
  simpa [r]using this
 ·exact a.elim
theorem C7t{e:TypeId}{nm sz:Nat}{z:Value}{p:V}{i:TypeInfo}(v:o.op= .alloc e)(b:P.info? e=some i)(y:i.zero=some z)(l: ∀E:Env,R E p z)
  (A:HeapR w O ρ s.n s.h) (h:C3 P (.box nm sz (.c p)) s k):D8 P k w O ρ s.h s.n ((execOp η o).run P w):=by
 simp only [C3,St.ev]at h
 unfold B7x at h
 split at h
 ·rename_i q r
  obtain⟨n,h⟩:=h
  obtain⟨d,t⟩:=(l (A8 w O ρ s.n s.h)).cells r
  have:(execOp η o).run P w= .ok (.value (.pointer (some ⟨w.heap.size,0,none⟩))) (w.alloc (.cells z.cells e)):=by
   simp [execOp,v,Instr.alloc,newVar,newRow,zeroValue,typeInfo,b,y]
  rw [this]
  obtain⟨ρ',u,f,g⟩:=A.alloc nm sz 1 [q] z.cells e (by rw [←d.1,n,Nat.one_mul]) zf (fun i x b=>by
   cases i with
   |succ i=>simp at b
   |zero=>
    simp at b;subst b
    refine⟨n,fun j c m=> ?_⟩
    have a:j<z.cells.size:=by have:=(List.getElem?_eq_some_iff.1 m).1;rw [←d.1];exact this
    exact⟨z.cells[j],by simp [a],t j _ zH,d.2 j c _ m zH⟩)
  refine⟨_,_,_,ρ',h,f,?_,g⟩
  have:=R.ptr (E:=A8 (w.alloc (.cells z.cells e)) O ρ' (s.n+1) (A2.put s.h nm s.n (.rows sz [q]))) nm s.n 0 0 (Nat.lt_succ_self _)
  simpa [u]using this
 ·exact h.elim
theorem B2Z{E:Env}{b:Nat}{o:Nat}{a:List V}{j n:Nat}{l:Bool}{r:V}{t:TypeId}(B:A4S E b o a)
  (w:B2a P t=some (n,l)) (h:S5 a j n l=some r): ∃v,(loadVar t ⟨b,o+j,none⟩).run P E.w= .ok v E.w∧R E r v:=by
 cases l with
 | true=>
  simp only [S5,cond_true]at h
  cases hb:Nat.ble (j+n) a.length with
  |false=>rw [hb]at h;cases h
  | true=>
   rw [hb,cond_true]at h
   injection h with h
   subst h
   have D:=Nat.le_of_ble_eq_true hb
   have m: ∀i,∃x,i<n→E.w.cell? ⟨b,o+(j+i),none⟩=some x∧x.oneCell'=true∧ ∀c,a[j+i]? =some c→R E c x:=by
    intro i
    by_cases k:i<n
    ·have d:j+i<a.length:=by omega
     obtain⟨x,y,z,u⟩:=B (j+i) a[j+i] (by simp [d])
     exact⟨x,fun _=>⟨y,z,fun c A=>by simp [d]at A;subst A;exact u⟩⟩
    ·exact⟨undef,fun h=>(k h).elim⟩
   let f:=fun i=>(m i).choose
   have s:=fun i=>(m i).choose_spec
   have p:(loadCells ⟨b,o+j,none⟩ n).run P E.w= .ok ((List.range n).map f).toArray E.w:=
    run_loadCells E.w _ n f fun i k=>by
     have:=(s i k).1
     have e:(⟨b,o+j,none⟩:Addr).add i=⟨b,o+(j+i),none⟩:=by
      unfold Addr.add
      split
      ·rename_i F;subst F;rfl
      ·simp [Nat.add_assoc]
     rw [e];exact this
   refine⟨.agg ((List.range n).map f).toArray,by simp [loadVar,B0N w,C2s w,p],.agg _ _ zl ?_ ?_⟩
   ·intro i v k
    simp only [List.getElem?_toArray,List.getElem?_map,Option.map_eq_some_iff]at k
    obtain⟨q,g,rfl⟩:=k
    have:q<n:=by have:=List.mem_of_getElem? g;simpa using this
    exact(s q this).2.1
   ·intro i c v k C
    simp only [List.getElem?_toArray,List.getElem?_map,Option.map_eq_some_iff]at C
    obtain⟨q,g,rfl⟩:=C
    have d:i<n:=by have:=(List.getElem?_eq_some_iff.1 g).1;simpa using this
    have:q=i:=by
     have:=(List.getElem?_eq_some_iff.1 g).2
     simpa using this.symm
    subst this
    rw [List.getElem?_take,if_pos d,List.getElem?_drop]at k
    exact(s q d).2.2 c k
 |false=>
  simp only [S5,cond_false]at h
  obtain⟨x,y,z,u⟩:=B j r h
  exact⟨x,by simp [loadVar,B0N w,y],u⟩
theorem C9Q{x:Operand}{F:Opd}{t:TypeId}{n:Nat}{u:Bool}(Q:o.op= .load t x)(N:B2a P t=some (n,u))(z:D0 x=some F)
  (K:HeapR w O ρ s.n s.h) (S:EvR (A8 w O ρ s.n s.h) s η) (T:C3 P (.load n u F) s k):D8 P k w O ρ s.h s.n ((execOp η o).run P w):=by
 obtain⟨r,e,M⟩:=L6 T
 have z:=S.ev z
 generalize s.ev F=Z at*
 unfold A4w at e
 split at e
 ·rename_i b I i j
  split at e
  ·rename_i q rs V
   split at e
   ·rename_i d h
    have U:=K.blk _ (A2.mem_of_get V)
    obtain⟨G,R,a,l⟩:=U
    obtain⟨Y,H⟩:=l i d h
    obtain⟨v,J,g⟩:=B2Z (P:=P) H N e
    obtain⟨_,L⟩:=z.ptr_inv
    have y:(ρ I).sz=q:=G
    have m:(loadVar t ⟨(ρ I).blk,(ρ I).off+i*q+j,none⟩).run P w= .ok v w:=J
    have:(execOp η o).run P w= .ok (.value v) w:=by
     simp [execOp,Q,Instr.loadAt,L,Instr.sureAddr,y,m]
    rw [this]
    exact D8.val K M g
   ·cases e
  ·cases e
 ·rename_i W i j
  split at e
  ·rename_i d h
   generalize D:η x=X at z
   cases z with
   | iptr _ _ _ p q f L B a H=>
    have E:A4S (A8 w O ρ s.n s.h) p.block (p.off+i*q) d:=fun A c C=>⟨f i A,(a i d A c h C).1,(a i d A c h C).2.1,H i d A c h C⟩
    obtain⟨v,J,g⟩:=B2Z (P:=P) E N e
    have m:(loadVar t ⟨p.block,p.off+i*q+j,none⟩).run P w= .ok v w:=J
    have:(execOp η o).run P w= .ok (.value v) w:=by
     simp [execOp,Q,Instr.loadAt,D,Instr.sureAddr,m]
    rw [this]
    exact D8.val K M g
  ·cases e
 ·cases e
theorem C7x{x i:Operand}{S L:Opd}{t e:TypeId}{d:TypeInfo}(ho:o.op= .indexAddr t x i)(ht:P.underlying t=some (.slice e))(N:P.info? e=some d)
  (v:D0 x=some S) (K:D0 i=some L)
  (Q:HeapR w O ρ s.n s.h) (W:EvR (A8 w O ρ s.n s.h) s η) (n:C3 P (.iaddr d.size S L) s k):D8 P k w O ρ s.h s.n ((execOp η o).run P w):=by
 have v:=W.ev v
 have K:=W.ev K
 simp only [C3]at n
 generalize s.ev S=vx at*
 generalize s.ev L=vi at*
 unfold A3C at n
 split at n
 ·rename_i j z
  have Z:=K.int_inv
  have B: ∀(a:Addr) (m c:Nat),η x= .slice (some a) m c→0≤z→z<m→(execOp η o).run P w= .ok (.value (.pointer (some (a.add (z.toNat*d.size))))) w:=by
   intro a m c ha F y
   simp [execOp,ho,Instr.indexAt,run_underlying ht,Z,ha,asIntOf,F,y,sizeOf,typeInfo,N]
  have A: ∀(b J m:Nat),(⟨b,J,none⟩:Addr).add m=⟨b,J+m,none⟩:=by intro b J m;unfold Addr.add;split<;>simp_all
  split at n
  ·rename_i b g G m
   obtain⟨F,y,h,U⟩:=n
   generalize r:η x=vv at v
   have u:(ρ g).sz=d.size:=by
    unfold B2i at h
    split at h
    ·rename_i X rs hg
     injection h with h
     subst h
     exact(Q.blk _ (A2.mem_of_get hg)).1
    ·cases h
   cases v with
   |sl _ _ _ _ C M hn hc=>
    rw [B _ _ _ r F y,A]
    refine D8.val Q U ?_
    have:=R.ptr (E:=A8 w O ρ s.n s.h) b g (G+z.toNat) 0 M
    have T:(ρ g).off+G*(ρ g).sz+z.toNat*d.size=(ρ g).off+(G+z.toNat)*(ρ g).sz+0:=by rw [u,Nat.add_mul];omega
    show R _ _ (.pointer (some ⟨(ρ g).blk,(ρ g).off+G*(ρ g).sz+z.toNat*d.size,none⟩))
    rw [T]
    exact this
   |sl0 _ _ _ a=>omega
  ·rename_i H
   obtain⟨F,y,h,U⟩:=n
   generalize r:η x=vv at v
   cases v with
   | isl _ p C X f I V l q hR=>
    rw [B _ _ _ r F y]
    refine D8.val Q U ?_
    have D:z.toNat<H.length:=by omega
    have u:X=d.size:=by
     have a1:=l z.toNat H[z.toNat] (by simp [D])
     have a2:=h H[z.toNat] (List.getElem_mem D)
     omega
    subst u
    have:=R.iptr (E:=A8 w O ρ s.n s.h) H z.toNat 0 p d.size f I l q hR
    have T:p.add (z.toNat*d.size)=⟨p.block,p.off+z.toNat*d.size+0,none⟩:=by
     obtain⟨Y,po,ps⟩:=p
     simp only at I
     subst I
     exact A Y po _
    rw [T]
    exact this
   |isl0 a C=>simp at y;omega
  ·exact n.elim
 ·exact n.elim
end
end Go.Abs
namespace Go.Abs
section
variable {P:Program} {k:Res} {w:World} {O:Nat→Prop} {ρ:Nat→Loc} {s:St} {η:Operand→Value} {o:Oper}
theorem B1V(w:World)(a:Addr)(v:Value)(y:Nat)(h:y≠a.block):(w.setCell a v).heap[y]? =w.heap[y]? :=by
 simp only [World.setCell,Array.getElem?_modify]
 rw [if_neg (fun e=>h e.symm)]
theorem W7(b:Nat): ∀(a:List Value) (o:Nat) (w:World) (y:Nat),y≠b→(w.setCells b o a).heap[y]? =w.heap[y]?
 | [],_,_,_,_=>rfl
 |v::r,o,w,y,h=>by rw [World.setCells,W7 b r (o+1) _ y h,B1V _ _ _ _ h]
theorem A3N(b:Nat): ∀(a:List Value) (o:Nat) (w:World),(w.setCells b o a).heap.size=w.heap.size
 | [],_,_=>rfl
 |v::r,o,w=>by rw [World.setCells,A3N b r (o+1)];simp
theorem B7d(w:World)(a x:Addr)(v:Value):((w.setCell a v).cell? x).isSome=(w.cell? x).isSome:=by
 by_cases h:a=x
 ·subst h
  cases hc:w.cell? a with
  |some u=>rw [World.cell?_setCell_same _ _ _ hc];rfl
  | none=>
   unfold World.cell? at hc⊢
   simp only [World.setCell,Array.getElem?_modify,if_true]
   cases hh:w.heap[a.block]? with
   |none=>simp
   |some o=>
    rw [hh]at hc
    cases o<;>simp at hc⊢
    cases hs:a.spot with
    |some _=>simp
    |none=>simp [hs]at hc⊢;exact hc
 ·rw [World.cell?_setCell_other _ _ _ _ h]
theorem A1v(b:Nat): ∀(a:List Value) (o:Nat) (w:World) (x:Addr),((w.setCells b o a).cell? x).isSome=(w.cell? x).isSome
 | [],_,_,_=>rfl
 |v::r,o,w,x=>by rw [World.setCells,A1v b r,B7d]
theorem Wd.setCell(w:World)(a:Addr)(v:Value):Wd w (w.setCell a v):=⟨by simp [World.setCell],rfl,rfl⟩
theorem Wd.setCells(b:Nat): ∀(a:List Value) (o:Nat) (w:World),Wd w (w.setCells b o a)
 | [],_,w=>by rw [World.setCells];exact .refl w
 |v::r,o,w=>by rw [World.setCells];exact(Wd.setCell w _ v).trans (Wd.setCells b r (o+1) _)
theorem B1T(w:World)(t:TypeId)(b o:Nat)(v:Value){a:TypeInfo}(h:P.info? t=some a)(d:v.cells.size=a.size)
  (g: ∀j,j<v.cells.size→(w.cell? ⟨b,o+j,none⟩).isSome=true) (f: ∀j,j<v.cells.size→w.frozen? ⟨b,o+j,none⟩=false) (e: ∀(i:Nat) u,v.cells[i]? =some u→u.oneCell'=true):
  (storeVar t ⟨b,o,none⟩ v).run P w= .ok () (w.setCells b o v.cells.toList):=by
 have:=run_storeCells_cells (P:=P) b o v.cells.toList 0 w Qe (by simpa using f) (fun u c=>by
  obtain⟨i,h,rfl⟩:=List.getElem_of_mem c
  exact e i _ (by simp at h;simp [h]))
 simp [storeVar,sizeOf,typeInfo,h,d,this]
theorem A4n{z cs:List V}{o:Nat}(h:o+cs.length≤z.length):(L3 z o cs).length=z.length:=by
 simp [L3];omega
theorem B2U{z cs:List V}{o:Nat}(h:o+cs.length≤z.length)(j:Nat):(L3 z o cs)[j]? =if o≤j∧j<o+cs.length then cs[j-o]? else z[j]? :=by
 unfold L3
 rw [List.append_assoc,List.getElem?_append]
 have b:(z.take o).length=o:=by simp;omega
 rw [b]
 by_cases a:j<o
 ·rw [if_pos a,if_neg zd,List.getElem?_take,if_pos a]
 ·rw [if_neg a,List.getElem?_append]
  by_cases c:j<o+cs.length
  ·rw [if_pos zd,if_pos zd]
  ·rw [if_neg zd,if_neg zd,List.getElem?_drop]
   congr 1;omega
theorem HeapR.store{h:A2}{n:Nat}(N:HeapR w O ρ n h){b st i j:Nat}{sz:Nat}{rs:List (List V)}{r cs:List V}(X:A2.get h b st=some (.rows sz rs))(m:rs[i]? =some r)
  (E:j+cs.length≤r.length) {v:Array Value} (F:RL (A8 w O ρ n h) cs v) (h1: ∀(i:Nat) u,v[i]? =some u→u.oneCell'=true):
  (∀a,a<v.size→(w.cell? ⟨(ρ st).blk,(ρ st).off+i*sz+j+a,none⟩).isSome=true)∧(∀a,a<v.size→w.frozen? ⟨(ρ st).blk,(ρ st).off+i*sz+j+a,none⟩=false)∧
  HeapR (w.setCells (ρ st).blk ((ρ st).off+i*sz+j) v.toList) O ρ n (A2.put h b st (.rows sz (rs.set i (L3 r j cs))))∧
   Ext (A8 w O ρ n h) (A8 (w.setCells (ρ st).blk ((ρ st).off+i*sz+j) v.toList) O ρ n (A2.put h b st (.rows sz (rs.set i (L3 r j cs))))):=by
 have L:=A2.mem_of_get X
 obtain⟨D,o,d,f⟩:=N.blk _ L
 simp only at D o d f
 obtain⟨Z,hR⟩:=f i r m
 have W:=(List.getElem?_eq_some_iff.1 m).1
 have M:(ρ st).cap≠0:=by omega
 obtain⟨d,B⟩:=d M
 have hcl:cs.length=v.size:=F.1
 have G: ∀a,a<v.size→i*sz+j+a<(ρ st).cap*sz:=by
  intro a g
  have A:(i+1)*sz≤(ρ st).cap*sz:=Nat.mul_le_mul_right _ zd
  rw [Nat.add_mul,Nat.one_mul]at A
  omega
 have l: ∀a,a<v.size→(w.cell? ⟨(ρ st).blk,(ρ st).off+i*sz+j+a,none⟩).isSome=true:=fun a g=>by
  have:=(d (i*sz+j+a) (G a g)).1
  rwa [show (ρ st).off+(i*sz+j+a)=(ρ st).off+i*sz+j+a from by omega]at this
 refine⟨l,fun a g=> ?_,?_⟩
 ·have:=(d (i*sz+j+a) (G a g)).2
  rwa [show (ρ st).off+(i*sz+j+a)=(ρ st).off+i*sz+j+a from by omega]at this
 ·refine HeapR.step N (Nat.le_refl _) (fun _ _=>rfl) (N.lt _ L) (Wd.setCells _ _ _ _)
   (fun y hy Q=>W7 _ _ _ _ _ fun e=>M (Q e)) (.inr (.inr ⟨_,L,rfl,M,rfl⟩)) ?_
  intro R
  refine⟨D,by simpa using o,fun _=>⟨fun a g=> ?_,by rw [A3N];exact B⟩,?_⟩
  ·rw [A1v,World.frozen?_setCells]
   exact d a g
  ·intro J H k
   by_cases t:i=J
   ·subst t
    have C:(rs.set i (L3 r j cs))[i]? =some (L3 r j cs):=by simp [W]
    rw [C]at k
    ·injection k with k
     subst k
     refine⟨by rw [A4n E];exact Z,fun a c g=> ?_⟩
     rw [B2U E]at g
     split at g
     ·rename_i S
      have s:a-j<v.size:=by omega
      have I:=World.cell?_setCells_in (ρ st).blk v.toList ((ρ st).off+i*sz+j) w (by simpa using l) (a-j) (by simpa using s)
      refine⟨v[a-j],?_,h1 (a-j) v[a-j] (by simp [s]),(F.2 (a-j) c v[a-j] g (by simp [s])).mono R⟩
      rw [show (ρ st).off+i*sz+a=(ρ st).off+i*sz+j+(a-j) from by omega]
      simpa using I
     ·rename_i T
      obtain⟨x,z,q,p⟩:=hR a c g
      refine⟨x,?_,q,p.mono R⟩
      simp only
      rw [World.cell?_setCells_out]
      ·exact z
      ·intro _ _
       simp only [Array.length_toList]
       omega
   ·rw [List.getElem?_set_ne t]at k
    obtain⟨K,P⟩:=f J H k
    refine⟨K,fun a c g=> ?_⟩
    obtain⟨x,z,q,p⟩:=P a c g
    refine⟨x,?_,q,p.mono R⟩
    simp only
    rw [World.cell?_setCells_out]
    ·exact z
    ·intro _ _
     simp only [Array.length_toList]
     have Y:a<sz:=by have:=(List.getElem?_eq_some_iff.1 g).1;omega
     have U:j+v.size≤sz:=by omega
     rcases Nat.lt_or_gt_of_ne t with A|A
     ·right
      have:(i+1)*sz≤J*sz:=Nat.mul_le_mul_right _ A
      exact YU
     ·left
      have:(J+1)*sz≤i*sz:=Nat.mul_le_mul_right _ A
      exact YU
theorem C7B{x v:Operand}{m f:Opd}{t:TypeId}{a:TypeInfo}(H:o.op= .store t x v)(F:P.info? t=some a)(u:D0 x=some m)(q:D0 v=some f)
  (D:HeapR w O ρ s.n s.h) (z:EvR (A8 w O ρ s.n s.h) s η) (d:C3 P (.store a.size m f) s k):D8 P k w O ρ s.h s.n ((execOp η o).run P w):=by
 have u:=z.ev u
 have q:=z.ev q
 simp only [C3]at d
 generalize s.ev m=J at*
 generalize s.ev f=G at*
 cases hs:B7j s.h J G a.size with
 |none=>rw [hs]at d;exact d.elim
 | some Q=>
  rw [hs]at d
  unfold B7j at hs
  split at hs
  ·rename_i b e i j
   unfold B5B at hs
   split at hs
   ·rename_i g S y B p
    split at hs
    ·rename_i r c
     cases hb:(Nat.beq y.length a.size&&Nat.ble (j+a.size) r.length)with
     |false=>rw [hb]at hs;cases hs
     | true=>
      rw [hb,cond_true]at hs
      injection hs with hs
      subst hs
      rw [Bool.and_eq_true]at hb
      have N:=Nat.eq_of_beq_eq_true hb.1
      have R:=Nat.le_of_ble_eq_true hb.2
      obtain⟨A,C⟩:=q.cells p
      have n:j+y.length≤r.length:=by omega
      obtain⟨M,K,I,L⟩:=D.store B c n A C
      obtain⟨_,E⟩:=u.ptr_inv
      have l:(ρ e).sz=g:=(D.blk _ (A2.mem_of_get B)).1
      have h:=B1T (P:=P) w t (ρ e).blk ((ρ e).off+i*g+j) (η v) F (by rw [←A.1];exact N) M K C
      have:(execOp η o).run P w= .ok .skip (w.setCells (ρ e).blk ((ρ e).off+i*g+j) (η v).cells.toList):=by
       simp [execOp,H,Instr.storeAt,E,Instr.sureAddr,l,h]
      rw [this]
      exact⟨_,_,_,ρ,d,I,.undef _,L⟩
    ·cases hs
   ·cases hs
  ·cases hs
theorem C8z(a:Array Value): ∀(cs:Array Value) (o:Nat),o+a.size≤cs.size→
  (a.zipIdx.foldl (fun cs p=>cs.setIfInBounds (o+p.2) p.1) cs).toList=cs.toList.take o++a.toList++cs.toList.drop (o+a.size):=by
 intro cs o h
 have c: ∀(l:List Value) (k:Nat) (cs:Array Value),o+k+l.length≤cs.size→
   ((l.zipIdx k).foldl (fun cs p=>cs.setIfInBounds (o+p.2) p.1) cs).toList=cs.toList.take (o+k)++l++cs.toList.drop (o+k+l.length):=by
  intro l
  induction l with
  |nil=>intro k cs h;simp
  | cons v r f=>
   intro k cs h
   simp only [List.zipIdx_cons,List.foldl_cons]
   simp at h
   rw [f (k+1) (cs.setIfInBounds (o+k) v) zl]
   apply List.ext_getElem?
   intro i
   simp only [Array.toList_setIfInBounds,List.append_assoc]
   rw [List.getElem?_append (l₁:=List.take (o+(k+1)) _),List.getElem?_append (l₁:=List.take (o+k) _)]
   simp only [List.length_take,List.length_set,Array.length_toList]
   have m:min (o+(k+1)) cs.size=o+k+1:=by omega
   have e:min (o+k) cs.size=o+k:=by omega
   rw [m,e]
   by_cases d:i<o+k
   ·rw [if_pos zd,if_pos d]
    simp only [List.getElem?_take,List.getElem?_set]
    rw [if_pos zd,if_pos d,if_neg zd]
   ·by_cases j:i=o+k
    ·subst j
     rw [if_pos zd,if_neg zd]
     simp only [List.getElem?_take,List.getElem?_set]
     have b:o+k<cs.size:=by omega
     rw [if_pos zd]
     simp [b]
    ·rw [if_neg zd,if_neg d]
     simp only [List.cons_append]
     have g:i-(o+k)=(i-(o+k+1))+1:=by omega
     rw [g,List.getElem?_cons_succ,List.getElem?_append,List.getElem?_append]
     split
     ·rfl
     ·simp only [List.getElem?_drop,List.getElem?_set,List.length_cons]
      rw [if_neg zd]
      congr 1;omega
 have:=c a.toList 0 cs zx
 rw [←Array.foldl_toList,Array.toList_zipIdx]
 simpa using this
theorem C6w(v:Array Value)(cs:Array Value)(o:Nat)(h:o+v.size≤cs.size):
  (v.zipIdx.foldl (fun cs (x:Value×Nat)=>match x with|(c,j)=>cs.setIfInBounds (o+j) c) cs).toList=cs.toList.take o++v.toList++cs.toList.drop (o+v.size):=C8z v cs o h
theorem RL.put{E:Env}{z cs:List V}{e d a:Array Value}{o:Nat}(j:RL E z e)(k:RL E cs d)(f:o+cs.length≤z.length)(l:a.toList=e.toList.take o++d.toList++e.toList.drop (o+d.size)):
  RL E (L3 z o cs) a:=by
 have q:=j.1
 have r:=k.1
 have m:a.size=e.size:=by
  rw [←Array.length_toList,l];simp;omega
 refine⟨by rw [A4n f,m,q],fun i c v b h=> ?_⟩
 rw [B2U f]at b
 rw [←Array.getElem?_toList,l,List.append_assoc,List.getElem?_append,List.getElem?_append]at h
 simp only [List.length_take,Array.length_toList]at h
 have p:min o e.size=o:=by omega
 rw [p]at h
 split at b
 ·rename_i n
  rw [if_neg zd,if_pos zd]at h
  exact k.2 (i-o) c v b zx
 ·rename_i n
  by_cases g:i<o
  ·rw [if_pos g,List.getElem?_take,if_pos g]at h
   exact j.2 i c v b zx
  ·rw [if_neg g,if_neg zd,List.getElem?_drop]at h
   rw [show o+d.size+(i-o-d.size)=i from by omega]at h
   exact j.2 i c v b zx
theorem D1f{d c z:Array Value}{o:Nat}(f: ∀(i:Nat) v,d[i]? =some v→v.oneCell'=true)(k: ∀(i:Nat) v,c[i]? =some v→v.oneCell'=true)
  (g:z.toList=d.toList.take o++c.toList++d.toList.drop (o+c.size)): ∀(i:Nat) v,z[i]? =some v→v.oneCell'=true:=by
 intro i v e
 rw [←Array.getElem?_toList,g]at e
 have a:=List.mem_of_getElem? e
 simp only [List.append_assoc,List.mem_append]at a
 rcases a with h|h|h
 ·obtain⟨j,b⟩:=List.getElem?_of_mem (List.mem_of_mem_take h);exact f j v zz
 ·obtain⟨j,b⟩:=List.getElem?_of_mem h;exact k j v zz
 ·obtain⟨j,b⟩:=List.getElem?_of_mem (List.mem_of_mem_drop h);exact f j v zz
def A6s(place:Nat→Option (Nat×Nat)):List (Nat×Operand)→Option (List (Nat×Nat×Opd))
 | []=>some []
 |p::r=>match place p.1,D0 p.2,A6s place r with
  |some q,some y,some qs=>some ((q.1,q.2,y)::qs)
  |_,_,_=>none
theorem B9x{a:Nat→Option (Nat×Nat)}: ∀(t:List (Nat×Operand)) (e:List (Nat×Nat×Opd)) (z d:List V) (c:Array Value),A6s a t=some e→EvR (A8 w O ρ s.n s.h) s η→
  RL (A8 w O ρ s.n s.h) z c→(∀(i:Nat) v,c[i]? =some v→v.oneCell'=true)→A4u s z e=some d→
  ∃b,Instr.fill a c (t.map fun p=>(p.1,η p.2))=some b∧RL (A8 w O ρ s.n s.h) d b∧ ∀(i:Nat) v,b[i]? =some v→v.oneCell'=true
 | [],e,z,d,c,hp,_,hz,h1,hf=>by
  simp [A6s]at hp;subst hp
  simp [A4u]at hf;subst hf
  exact⟨c,rfl,hz,h1⟩
 | p ::r,e,z,d,c,hp,he,hz,h1,hf=>by
  simp only [A6s]at hp
  split at hp
  ·rename_i q y j A x g
   injection hp with hp
   subst hp
   simp only [A4u]at hf
   split at hf
   ·rename_i o n
    cases hb:(Nat.beq o.length q.2&&Nat.ble (q.1+o.length) z.length)with
    |false=>rw [hb]at hf;cases hf
    | true=>
     rw [hb,cond_true]at hf
     rw [Bool.and_eq_true]at hb
     have E:=Nat.eq_of_beq_eq_true hb.1
     have u:=Nat.le_of_ble_eq_true hb.2
     obtain⟨m,f⟩:=(he.ev x).cells n
     have l:q.1+(η p.2).cells.size≤c.size:=by rw [←m.1,←hz.1];exact u
     have h:=C6w (η p.2).cells c q.1 l
     obtain⟨b,D,C,B⟩:=B9x r j _ d _ g he (hz.put m u h) (D1f h1 f h) hf
     refine⟨b,?_,C,B⟩
     simp only [List.map_cons,Instr.fill,A]
     have k:(η p.2).cells.size=q.2:=by rw [←m.1];exact E
     rw [if_neg]
     ·exact D
     ·rw [k]
      simp
      omega
   ·cases hf
  ·cases hp
theorem C4l(w:World)(a:List Field)(g:Field→Option (Nat×Nat))(p:List (Nat×Nat))(e: ∀f q,g f=some q→ ∃i,P.info? f.type=some i∧q=(f.offset,i.size))(h:a.mapM g=some p):
  (a.mapM (m:=Sem) fun f=>do pure (f.offset,←sizeOf f.type)).run P w= .ok p w:=by
 induction a generalizing p with
 |nil=>simp at h;subst h;rfl
 | cons f r d=>
  rw [List.mapM_cons]at h⊢
  cases h1:g f with
  |none=>simp [h1]at h
  | some q=>
   cases h2:r.mapM g with
   |none=>simp [h1,h2]at h
   |some b=>
    simp [h1,h2]at h
    subst h
    obtain⟨i,c,rfl⟩:=e f q h1
    rw [Sem.run_bind,show (do let s←sizeOf f.type;pure (f.offset,s):Sem (Nat×Nat)).run P w= .ok (f.offset,i.size) w from by simp [sizeOf,typeInfo,c]]
    simp only [Result.andThen_ok,Sem.run_bind,d b h2,Sem.run_pure]
def B5x(P:Program)(f:Field):Option (Nat×Nat):=(P.info? f.type).map fun i=>(f.offset,i.size)
theorem C7v{t:TypeId}{parts:Array (Nat×Operand)}{d:Array Field}{a:List (Nat×Nat)}{y:List (Nat×Nat×Opd)}{z:List V}{B:TypeInfo}{g:Value}(H:o.op= .build t parts)
  (G:P.underlying t=some (.struct d)) (u:d.toList.mapM (B5x P)=some a) (l:P.info? t=some B) (K:B.zero=some g)
  (j: ∀E:Env,RL E z g.cells) (R: ∀(i:Nat) v,g.cells[i]? =some v→v.oneCell'=true) (D:A6s (a[·]?) parts.toList=some y)
  (S:HeapR w O ρ s.n s.h) (Q:EvR (A8 w O ρ s.n s.h) s η) (L:C3 P (.build z y) s k):D8 P k w O ρ s.h s.n ((execOp η o).run P w):=by
 obtain⟨r,c,F⟩:=L6 L
 rw [Option.map_eq_some_iff]at c
 obtain⟨I,c,rfl⟩:=c
 obtain⟨n,N,C,J⟩:=B9x parts.toList y z I g.cells D Q (j _) R c
 have h:=C4l (P:=P) w d.toList (B5x P) a (fun f q A=>by
  simp only [B5x,Option.map_eq_some_iff]at A
  obtain⟨i,l,rfl⟩:=A
  exact⟨i,l,rfl⟩) u
 have b:(d.mapM (m:=Sem) fun f=>do pure (f.offset,←sizeOf f.type)).run P w= .ok a.toArray w:=by
  rw [Array.mapM_eq_mapM_toList]
  simp only [Sem.run_map,h,Result.andThen_ok]
 have:(execOp η o).run P w= .ok (.value (.agg n)) w:=by
  have e:(parts.map fun(x:Nat×Operand)=>match x with|(i,x)=>(i,η x)).toList=parts.toList.map fun p=>(p.1,η p.2):=by
   rw [Array.toList_map]
  simp only [execOp,H,Instr.build,Sem.run_bind,zeroValue,typeInfo,run_program,Result.andThen_ok,l,Sem.run_pure,K,run_underlying G,b,e]
  have M:(fun x=>a.toArray[x]?)=(a[·]? :Nat→Option (Nat×Nat)):=by funext x;simp
  rw [M,N]
  rfl
 rw [this]
 exact D8.val S F (.agg _ _ C.1 J C.2)
theorem C4r{t e:TypeId}{len:Nat}{parts:Array (Nat×Operand)}{q:List (Nat×Nat×Opd)}{z:List V}{g d:TypeInfo}{a:Value}(y:o.op= .build t parts)
  (u:P.underlying t=some (.array len e)) (f:P.info? e=some d) (n:P.info? t=some g) (C:g.zero=some a)
  (b: ∀E:Env,RL E z a.cells) (I: ∀(i:Nat) v,a.cells[i]? =some v→v.oneCell'=true) (l:A6s (fun i=>some (i*d.size,d.size)) parts.toList=some q)
  (J:HeapR w O ρ s.n s.h) (H:EvR (A8 w O ρ s.n s.h) s η) (D:C3 P (.build z q) s k):D8 P k w O ρ s.h s.n ((execOp η o).run P w):=by
 obtain⟨r,h,m⟩:=L6 D
 rw [Option.map_eq_some_iff]at h
 obtain⟨A,h,rfl⟩:=h
 obtain⟨c,F,j,B⟩:=B9x parts.toList q z A a.cells l H (b _) I h
 have:(execOp η o).run P w= .ok (.value (.agg c)) w:=by
  have G:(parts.map fun(x:Nat×Operand)=>match x with|(i,x)=>(i,η x)).toList=parts.toList.map fun p=>(p.1,η p.2):=by
   rw [Array.toList_map]
  simp only [execOp,y,Instr.build,Sem.run_bind,zeroValue,typeInfo,run_program,Result.andThen_ok,n,Sem.run_pure,C,run_underlying u,sizeOf,f,G,F]
 rw [this]
 exact D8.val J m (.agg _ _ j.1 B j.2)
end
end Go.Abs
namespace Go.Abs
section
variable {P:Program} {k:Res} {w:World} {O:Nat→Prop} {ρ:Nat→Loc} {s:St} {η:Operand→Value} {o:Oper}
theorem B1S{r:List V}{rs:List (List V)}{sz:Nat}(h:C4 (r::rs) sz):r.length=sz∧C4 rs sz:=⟨h r zf,fun x a=>h x zH⟩
theorem M6{rs:List (List V)}{sz:Nat}(h:C4 rs sz):rs.flatten.length=rs.length*sz:=by
 induction rs with
 |nil=>simp
 |cons r rs i=>simp [i (B1S h).2,(B1S h).1,Nat.add_mul];omega
theorem A9Z{rs:List (List V)}{sz:Nat}(h:C4 rs sz): ∀(i j:Nat),j<sz→rs.flatten[i*sz+j]? =(rs[i]?).bind (·[j]?):=by
 induction rs with
 |nil=>intro i j _;simp
 | cons r rs b=>
  intro i j c
  obtain⟨a,d⟩:=B1S h
  rw [List.flatten_cons,List.getElem?_append]
  cases i with
  |zero=>rw [if_pos zd];simp
  |succ i=>
   have e:(i+1)*sz+j-r.length=i*sz+j:=by rw [Nat.add_mul,a];omega
   rw [if_neg (by rw [Nat.add_mul,a];omega),e,b d i j c]
   simp
theorem B3{rs:List (List V)}{sz:Nat}(h: ∀(i:Nat) r,rs[i]? =some r→r.length=sz):C4 rs sz:=fun r b=>by
 obtain⟨i,a⟩:=List.getElem?_of_mem b
 exact h i r a
theorem A1O{rs:List (List V)}{sz:Nat}(h:C4 rs sz)(i:Nat)(r:List V)(a:rs[i]? =some r):r.length=sz:=h r (List.mem_of_getElem? a)
theorem B3X {E : Env} {b off sz:Nat}{rs:List (List V)}(h:C4 rs sz)(hr: ∀(i:Nat) row,rs[i]? =some row→A4S E b (off+i*sz) row):A4S E b off rs.flatten:=by
 intro q c hq
 have hlt:=(List.getElem?_eq_some_iff.1 hq).1
 rw [M6 h]at hlt
 have hsz : 0 < sz := by rcases Nat.eq_zero_or_pos sz with h0|h0;· subst h0;omega
                         ·exact h0
 have hj:=Nat.mod_lt q hsz
 have e:=Nat.div_add_mod q sz
 rw [Nat.mul_comm]at e
 rw [←e,A9Z h _ _ hj,Option.bind_eq_some_iff]at hq
 obtain⟨row,hrow,hc⟩:=hq
 obtain⟨x,h1,h2⟩:=hr _ row hrow _ c hc
 exact⟨x,by rw [←h1];congr 2;omega,h2⟩
theorem B8o{E:Env}{b o sz:Nat}{rs:List (List V)}(h:C4 rs sz)(k:A4S E b o rs.flatten)(i:Nat)(r:List V)(e:rs[i]? =some r):A4S E b (o+i*sz) r:=by
 intro j c d
 have a:=(List.getElem?_eq_some_iff.1 d).1
 rw [A1O h i r e]at a
 obtain⟨x,g,f⟩:=k (i*sz+j) c (by rw [A9Z h i j a,e];exact d)
 exact⟨x,by rw [←g];congr 2;omega,f⟩
theorem D0D{E:Env}{b o:Nat}{cs:List V}(h:A4S E b o cs): ∃l:List Value,l.length=cs.length∧(∀(q:Nat) v,l[q]? =some v→E.w.cell? ⟨b,o+q,none⟩=some v)∧
  RL E cs l.toArray∧ ∀(q:Nat) v,l[q]? =some v→v.oneCell'=true:=by
 have e: ∀i,∃x,i<cs.length→E.w.cell? ⟨b,o+i,none⟩=some x∧x.oneCell'=true∧ ∀c,cs[i]? =some c→R E c x:=by
  intro i
  by_cases m:i<cs.length
  ·obtain⟨x,d,s,r⟩:=h i cs[i] (by simp [m])
   exact⟨x,fun _=>⟨d,s,fun c k=>by simp [m]at k;subst k;exact r⟩⟩
  ·exact⟨Go.undef,fun h=>(m h).elim⟩
 let f:=fun i=>(e i).choose
 have p:=fun i=>(e i).choose_spec
 have g: ∀(q:Nat) v,((List.range cs.length).map f)[q]? =some v→q<cs.length∧v=f q:=by
  intro q v a
  rw [List.getElem?_map,Option.map_eq_some_iff]at a
  obtain⟨t,j,rfl⟩:=a
  have n:q<cs.length:=by have:=(List.getElem?_eq_some_iff.1 j).1;simpa using this
  have:t=q:=by have:=(List.getElem?_eq_some_iff.1 j).2;simpa using this.symm
  exact⟨n,by rw [this]⟩
 refine⟨(List.range cs.length).map f,by simp,fun q v a=> ?_,⟨by simp,fun q c v k a=> ?_⟩,fun q v a=> ?_⟩
 ·obtain⟨d,rfl⟩:=g q v a;exact(p q d).1
 ·obtain⟨d,rfl⟩:=g q v zA;exact(p q d).2.2 c k
 ·obtain⟨d,rfl⟩:=g q v a;exact(p q d).2.1
theorem A4F(b o m:Nat):(⟨b,o,none⟩:Addr).add m=⟨b,o+m,none⟩:=by
 unfold Addr.add
 split
 ·rename_i h;subst h;rfl
 ·rfl
theorem B7s{h:A2}{n:Nat}(hr:HeapR w O ρ n h){x:V}{v:Value}{rs:List (List V)}{sz:Nat}(K:R (A8 w O ρ n h) x v)(d:A4e h x=some rs)(l:C4 rs sz):
  ∃(p:Option Addr) (cap:Nat) (g:List Value),v= .slice p rs.length cap∧g.length=rs.length*sz∧RL (A8 w O ρ n h) rs.flatten g.toArray∧(∀(q:Nat) u,g[q]? =some u→u.oneCell'=true)∧
   ∀(P:Program) (w':World),(∀a,w'.cell? a=w.cell? a)→(Builtin.firstCells sz rs.length v).run P w'= .ok g.toArray w':=by
 have e: ∀(p:Option Addr) (cap:Nat),v= .slice p 0 cap→rs= []→ ∃(p:Option Addr) (cap:Nat) (g:List Value),v= .slice p rs.length cap∧g.length=rs.length*sz∧RL (A8 w O ρ n h) rs.flatten g.toArray∧(∀(q:Nat) u,g[q]? =some u→u.oneCell'=true)∧
   ∀(P:Program) (w':World),(∀a,w'.cell? a=w.cell? a)→(Builtin.firstCells sz rs.length v).run P w'= .ok g.toArray w':=by
  intro p cap N T
  subst T;subst N
  refine⟨p,cap,[],rfl,by simp,⟨rfl,by simp⟩,by simp,fun P w' _=> ?_⟩
  cases p with
  |none=>simp [Builtin.firstCells]
  |some a=>
   have:=run_loadCells_list (P:=P) w' a [] zf
   simpa [Builtin.firstCells]using this
 have B: ∀(b z cap:Nat),v= .slice (some ⟨b,z,none⟩) rs.length cap→A4S (A8 w O ρ n h) b z rs.flatten→ ∃(p:Option Addr) (cap:Nat) (g:List Value),v= .slice p rs.length cap∧g.length=rs.length*sz∧RL (A8 w O ρ n h) rs.flatten g.toArray∧(∀(q:Nat) u,g[q]? =some u→u.oneCell'=true)∧
   ∀(P:Program) (w':World),(∀a,w'.cell? a=w.cell? a)→(Builtin.firstCells sz rs.length v).run P w'= .ok g.toArray w':=by
  intro b z cap d S
  obtain⟨g,C,M,h3,h4⟩:=D0D S
  rw [M6 l]at C
  refine⟨_,cap,g,d,C,h3,h4,fun P w' hw=> ?_⟩
  subst d
  have:=run_loadCells_list (P:=P) w' ⟨b,z,none⟩ g (fun j u F=>by rw [A4F,hw];exact M j u F)
  simpa [Builtin.firstCells,C]using this
 unfold A4e at d
 split at d
 ·injection d with d
  exact e none 0 K.nils_inv d.symm
 ·rename_i Z
  injection d with d
  subst d
  cases K with
  | isl _ p cap y f I U H k S=>
   by_cases L:Z= []
   ·subst L;exact e (some p) cap rfl rfl
   ·have hs:y=sz:=by
     obtain⟨r,Y,rfl⟩:=List.exists_cons_of_ne_nil L
     rw [←H 0 r rfl,←l r zf]
    subst hs
    obtain⟨X,po,ps⟩:=p
    simp only at I
    subst I
    exact B X po cap rfl (B3X l fun i o t j c F=>⟨f i j,(k i o j c t F).1,(k i o j c t F).2.1,S i o j c t F⟩)
  |isl0 a cap=>exact e a cap rfl rfl
 ·rename_i b J i m
  split at d
  ·rename_i y A hg
   cases hb:Nat.ble (i+m) A.length with
   |false=>rw [hb]at d;cases d
   | true=>
    rw [hb,cond_true]at d
    injection d with d
    have hle:=Nat.le_of_ble_eq_true hb
    obtain⟨G,W,k,s⟩:=hr.blk _ (A2.mem_of_get hg)
    have Q:rs.length=m:=by rw [←d];simp;omega
    cases K with
    | sl _ _ _ _ cap hst hn hc=>
     by_cases L:m=0
     ·subst L;exact e _ cap rfl (List.eq_nil_of_length_eq_zero Q)
     ·have D:y=sz:=by
       have C:i<A.length:=by omega
       have M:rs[0]? =some A[i]:=by rw [←d,List.getElem?_take,if_pos zd,List.getElem?_drop];simp [C]
       rw [←(s i A[i] (by simp [C])).1,A1O l 0 _ M]
      subst D
      have E:(ρ J).sz=y:=G
      refine B (ρ J).blk ((ρ J).off+i*(ρ J).sz) cap (by rw [Q]) (B3X l fun i' o t=> ?_)
      rw [←d,List.getElem?_take]at t
      split at t
      ·rw [List.getElem?_drop]at t
       have:=(s (i+i') o t).2
       rw [Nat.add_mul,←Nat.add_assoc]at this
       rw [E]
       exact this
      ·cases t
    |sl0 _ _ _ a=>exact e a 0 rfl (List.eq_nil_of_length_eq_zero Q)
  ·cases hb:Nat.beq m 0 with
   |false=>rw [hb]at d;cases d
   |true=>
    rw [hb,cond_true]at d
    injection d with d
    have:=Nat.eq_of_beq_eq_true hb
    subst this
    obtain⟨p,c,I⟩:=K.sl_inv
    exact e p c I d.symm
 ·cases d
theorem C0s(b:List UInt8):(A1w b).flatten=b.map fun c=>V.int .u8 c.toNat:=by
 unfold A1w
 induction b with
 |nil=>rfl
 |cons c r i=>simpa using i
theorem B4b{h:A2}{n:Nat}(C:HeapR w O ρ n h){x:V}{v:Value}{rs:List (List V)}{sz:Nat}(s:R (A8 w O ρ n h) x v)(d:A5P h x=some rs)(j:C4 rs sz):
  ∃(g:List Value),g.length=rs.length*sz∧RL (A8 w O ρ n h) rs.flatten g.toArray∧(∀(q:Nat) u,g[q]? =some u→u.oneCell'=true)∧
   (∀(P:Program) (w':World),(Builtin.lenOf v).run P w'= .ok rs.length w')∧
   ∀(P:Program) (w':World),(∀a,w'.cell? a=w.cell? a)→(Builtin.firstCells sz rs.length v).run P w'= .ok g.toArray w':=by
 unfold A5P at d
 split at d
 ·rename_i b
  injection d with d
  rw [s.str_inv]
  have m:rs.length=b.length:=by rw [←d];simp [A1w]
  have f:rs.flatten=b.map fun c=>V.int .u8 c.toNat:=by
   rw [←d];exact C0s b
  have i:rs≠ []→sz=1:=by
   intro l
   obtain⟨r,E,rfl⟩:=List.exists_cons_of_ne_nil l
   rw [←j r zf]
   cases b with
   |nil=>simp [A1w]at d
   |cons c H=>simp [A1w]at d;rw [←d.1];rfl
  refine⟨b.map fun c=>Value.int .u8 c.toNat,?_,?_,?_,fun P w'=>by simp [Builtin.lenOf,m];rfl,fun P w' _=> ?_⟩
  ·rw [List.length_map,←m]
   by_cases l:rs= []
   ·subst l;simp
   ·rw [i l,Nat.mul_one]
  ·rw [f]
   refine⟨by simp,fun q c u o k=> ?_⟩
   simp only [List.getElem?_map,Option.map_eq_some_iff,List.getElem?_toArray]at o k
   obtain⟨a,A,rfl⟩:=o
   obtain⟨G,e,rfl⟩:=k
   rw [A]at e
   injection e with e
   subst e
   exact .int _ _
  ·intro q u k
   rw [List.getElem?_map,Option.map_eq_some_iff]at k
   obtain⟨a,_,rfl⟩:=k
   rfl
  ·simp only [Builtin.firstCells,Sem.run_pure,m]
   congr 1
   apply Array.ext'
   simp
 ·obtain⟨p,y,g,F,t,D,z,B⟩:=B7s C s d j
  exact⟨g,t,D,z,fun P w'=>by rw [F];simp [Builtin.lenOf],B⟩
end
end Go.Abs
namespace Go.Abs
section
variable {P:Program} {k:Res} {w:World} {O:Nat→Prop} {ρ:Nat→Loc} {s:St} {η:Operand→Value} {o:Oper}
theorem A4S.append{E:Env}{b o:Nat}{e y:List V}(f:A4S E b o e)(h2:A4S E b (o+e.length) y):A4S E b o (e++y):=by
 intro q c d
 rw [List.getElem?_append]at d
 split at d
 ·exact f q c d
 ·rename_i h
  obtain⟨x,a,b⟩:=h2 _ c d
  exact⟨x,by rw [←a];congr 2;omega,b⟩
theorem A4S.mono{E E':Env}(g:Ext E E'){b o:Nat}{cs:List V}(h:A4S E b o cs)(e: ∀q,q<cs.length→E'.w.cell? ⟨b,o+q,none⟩=E.w.cell? ⟨b,o+q,none⟩):A4S E' b o cs:=by
 intro q c a
 obtain⟨x,i,f,d⟩:=h q c a
 exact⟨x,by rw [e q (List.getElem?_eq_some_iff.1 a).1];exact i,f,d.mono g⟩
theorem B3b{x y:List (List V)}{sz:Nat}(b:C4 x sz)(h2:C4 y sz):C4 (x++y) sz:=fun r a=>by
 rcases List.mem_append.1 a with h|h
 ·exact b r h
 ·exact h2 r h
theorem B0M{x:List (List V)}{sz:Nat}(h:C4 x sz)(i m:Nat):C4 ((x.drop i).take m) sz:=fun r a=>h r (List.mem_of_mem_drop (List.mem_of_mem_take a))
theorem HeapR.allocFlat{h:A2}{n:Nat}(m:HeapR w O ρ n h)(nm sz cap:Nat)(rs:List (List V))(cs:Array Value)(e:TypeId)(g:cs.size=cap*sz)(l:rs.length≤cap)(a:C4 rs sz)
  (d: ∀(q:Nat) c,rs.flatten[q]? =some c→ ∃x,cs[q]? =some x∧x.oneCell'=true∧R (A8 w O ρ n h) c x):
  ∃ρ':Nat→Loc,ρ' n=⟨w.heap.size,0,sz,cap⟩∧HeapR (w.alloc (.cells cs e)) O ρ' (n+1) (A2.put h nm n (.rows sz rs))∧
   Ext (A8 w O ρ n h) (A8 (w.alloc (.cells cs e)) O ρ' (n+1) (A2.put h nm n (.rows sz rs))):=
 m.alloc nm sz cap rs cs e g l fun i r f=>⟨A1O a i r f,fun j c k=>by
  have b:=(List.getElem?_eq_some_iff.1 k).1
  rw [A1O a i r f]at b
  exact d (i*sz+j) c (by rw [A9Z a i j b,f];exact k)⟩
theorem B7f{E:Env}{nm st m cap b sz:Nat}(h:st<E.n)(a:E.ρ st=⟨b,0,sz,cap⟩)(c:m≤cap):R E (.sl nm st 0 m) (.slice (some ⟨b,0,none⟩) m cap):=by
 have:=R.sl (E:=E) nm st 0 m cap h c (by rw [a];simp)
 simpa [a]using this
theorem HeapR.drew{h:A2}{n:Nat}(a:HeapR w O ρ n h):HeapR w.drew O ρ n h∧Ext (A8 w O ρ n h) (A8 w.drew O ρ n h):=a.world (Wd.drew _) fun _ _=>rfl
section
variable {t u ty e:TypeId} {i:TypeInfo} {z:Value}
theorem B4a{k:TypeDesc}(r:P.underlying t=some (.slice e))(A:P.underlying u=some k)(F:(∃C,k= .slice C)∨k= .string)(q:P.info? e=some i)(y:i.zero=some z)
  (base:Option Addr) (s b m:Nat) (x:Value) (o n:List Value) (j: ∀c,(Builtin.lenOf x).run P c= .ok m c)
  (g: ∀c,(∀a,c.cell? a=w.cell? a)→(Builtin.firstCells i.size s (.slice base s b)).run P c= .ok o.toArray c) (f: ∀c,(∀a,c.cell? a=w.cell? a)→(Builtin.firstCells i.size m x).run P c= .ok n.toArray c)
  {L:Nat} (H:L≤140737488355328) (E:b<s+m) (l:s+m≤L) (G:L*i.bytes≤140737488355328):
  (Builtin.append_ #[t,u] ty #[.slice base s b,x]).run P w=
   .ok (.slice (some ⟨w.heap.size,0,none⟩) (s+m) (grownCap w (s+m) b e))
    (w.drew.alloc (.cells (o.toArray++n.toArray++Builtin.zeroCells z.cells (grownCap w (s+m) b e-(s+m))) e)):=by
 have v: ¬(s+m≤b):=by omega
 have d: ¬(9223372036854775807<((s:Int)+(m:Int))):=by omega
 have h: ¬(281474976710656<Builtin.nextslicecap (s+m) b*i.bytes):=by
  have:=growslice_fits (need:=s+m) (old:=b) (bytes:=i.bytes) E (Nat.le_trans (Nat.mul_le_mul_right _ l) G)
  omega
 have D:=g w.drew fun _=>rfl
 have p:=f w.drew fun _=>rfl
 have B:=j w
 rcases F with⟨C,rfl⟩|rfl
 ·simp [Builtin.append_,run_underlying r,run_underlying A,sizeOf,typeInfo,zeroValue,q,y,B,v,d,h,Question.forced,D,p,newRow,grownCap]
  congr 2;apply Array.ext';simp
 ·simp [Builtin.append_,run_underlying r,run_underlying A,sizeOf,typeInfo,zeroValue,q,y,B,v,d,h,Question.forced,D,p,newRow,grownCap]
  congr 2;apply Array.ext';simp
theorem B6W{k:TypeDesc}(r:P.underlying t=some (.slice e))(z:P.underlying u=some k)(F:(∃B,k= .slice B)∨k= .string)(p:P.info? e=some i)
  (b o s c m:Nat) (x:Value) (n:List Value) (g: ∀d,(Builtin.lenOf x).run P d= .ok m d)
  (h: ∀d,(∀a,d.cell? a=w.cell? a)→(Builtin.firstCells i.size m x).run P d= .ok n.toArray d) (y:s+m≤c)
  (E: ∀j,j<n.length→(w.cell? ⟨b,o+s*i.size+j,none⟩).isSome=true) (D: ∀j,j<n.length→w.frozen? ⟨b,o+s*i.size+j,none⟩=false) (H: ∀(q:Nat) u,n[q]? =some u→u.oneCell'=true):
  (Builtin.append_ #[t,u] ty #[.slice (some ⟨b,o,none⟩) s c,x]).run P w= .ok (.slice (some ⟨b,o,none⟩) (s+m) c) (w.setCells b (o+s*i.size) n):=by
 have l:=h w fun _=>rfl
 have A:=g w
 have f:=run_storeCells_cells (P:=P) b (o+s*i.size) n 0 w (by simpa using E) (by simpa using D) (fun v G=>by
  obtain⟨q,C⟩:=List.getElem?_of_mem G;exact H q v C)
 rcases F with⟨B,rfl⟩|rfl
 ·simp [Builtin.append_,run_underlying r,run_underlying z,sizeOf,typeInfo,p,A,y,l,A4F,f]
 ·simp [Builtin.append_,run_underlying r,run_underlying z,sizeOf,typeInfo,p,A,y,l,A4F,f]
theorem B5h{d:TypeDesc}(l:P.underlying t=some (.slice e))(g:P.underlying u=some d)(m:(∃f,d= .slice f)∨d= .string)(j:P.info? e=some i)
  (base:Option Addr) (x:Value) (h: ∀b,(Builtin.lenOf x).run P b= .ok 0 b)
  (c: ∀b,(∀a,b.cell? a=w.cell? a)→(Builtin.firstCells i.size 0 x).run P b= .ok #[] b):
  (Builtin.append_ #[t,u] ty #[.slice base 0 0,x]).run P w= .ok (.slice base 0 0) w:=by
 have n:=c w fun _=>rfl
 have k:=h w
 cases base<;>rcases m with⟨f,rfl⟩|rfl<;>simp [Builtin.append_,run_underlying l,run_underlying g,sizeOf,typeInfo,j,k,n,storeCells]
end
theorem RL.get_one{E:Env}{cs:List V}{v:List Value}(h:RL E cs v.toArray)(d: ∀(q:Nat) u,v[q]? =some u→u.oneCell'=true)(q:Nat)(c:V)(b:cs[q]? =some c): ∃x,v[q]? =some x∧x.oneCell'=true∧R E c x:=by
 have a:q<v.length:=by have:=(List.getElem?_eq_some_iff.1 b).1;have:=h.1;simp at this;omega
 exact⟨v[q],by simp [a],d q _ zH,h.2 q c _ b zH⟩
theorem B9j{nm n:Nat}{h:A2}(I:HeapR w O ρ n h){o a:List Value}{os b:List (List V)}{sz cap:Nat}{z:Value}{e:TypeId}
  (f:C4 os sz) (k:C4 b sz) (A:RL (A8 w O ρ n h) os.flatten o.toArray) (r: ∀(q:Nat) u,o[q]? =some u→u.oneCell'=true)
  (y:RL (A8 w O ρ n h) b.flatten a.toArray) (v: ∀(q:Nat) u,a[q]? =some u→u.oneCell'=true) (F:z.cells.size=sz) (j:os.length+b.length≤cap):
  ∃ρ':Nat→Loc,ρ' n=⟨w.heap.size,0,sz,cap⟩∧
   HeapR (w.drew.alloc (.cells (o.toArray++a.toArray++Builtin.zeroCells z.cells (cap-(os.length+b.length))) e)) O ρ' (n+1) (A2.put h nm n (.rows sz (os++b)))∧
   Ext (A8 w O ρ n h) (A8 (w.drew.alloc (.cells (o.toArray++a.toArray++Builtin.zeroCells z.cells (cap-(os.length+b.length))) e)) O ρ' (n+1) (A2.put h nm n (.rows sz (os++b)))):=by
 obtain⟨m,g⟩:=I.drew
 have B:o.length=os.length*sz:=by rw [←M6 f];simpa using A.1.symm
 have C:a.length=b.length*sz:=by rw [←M6 k];simpa using y.1.symm
 obtain⟨ρ',H,D,G⟩:=m.allocFlat nm sz cap (os++b) (o.toArray++a.toArray++Builtin.zeroCells z.cells (cap-(os.length+b.length))) e
  (by
    simp only [Array.size_append,List.size_toArray,size_zeroCells,F,B,C]
    rw [←Nat.add_mul,←Nat.add_mul]
    congr 1;omega)
  (by simpa using j) (B3b f k) (fun q c i=>by
    rw [List.flatten_append,List.getElem?_append]at i
    split at i
    ·rename_i E
     obtain⟨x,l,t,s⟩:=A.get_one r q c i
     refine⟨x,?_,t,s.mono g⟩
     have d:q<o.length:=(List.getElem?_eq_some_iff.1 l).1
     rw [Array.getElem?_append_left zl,Array.getElem?_append_left zO]
     simpa using l
    ·rename_i p
     rw [M6 f]at i p
     obtain⟨x,l,t,s⟩:=y.get_one v _ c i
     refine⟨x,?_,t,s.mono g⟩
     have d:q-os.length*sz<a.length:=(List.getElem?_eq_some_iff.1 l).1
     rw [Array.getElem?_append_left zl,Array.getElem?_append_right zl]
     simpa [B]using l)
 exact⟨ρ',H,D,g.trans G⟩
theorem C2X{n:Nat}{h:A2}(X:HeapR w O ρ n h){b st i m cap sz:Nat}{rs p:List (List V)}{a:List Value}(Z:A2.get h b st=some (.rows sz rs))
  (hle:i+m≤rs.length) (Y:i+cap≤(ρ st).cap) (G:C4 p sz) (U:RL (A8 w O ρ n h) p.flatten a.toArray) (S: ∀(q:Nat) u,a[q]? =some u→u.oneCell'=true) (z:m+p.length≤cap) (T:0<cap):
  (∀j,j<a.length→(w.cell? ⟨(ρ st).blk,(ρ st).off+i*sz+m*sz+j,none⟩).isSome=true)∧(∀j,j<a.length→w.frozen? ⟨(ρ st).blk,(ρ st).off+i*sz+m*sz+j,none⟩=false)∧
  ∃ρ':Nat→Loc,ρ' n=⟨(ρ st).blk,(ρ st).off+i*sz,sz,cap⟩∧
   HeapR (w.setCells (ρ st).blk ((ρ st).off+i*sz+m*sz) a) O ρ' (n+1) (A2.put h b n (.rows sz ((rs.drop i).take m++p)))∧
   Ext (A8 w O ρ n h) (A8 (w.setCells (ρ st).blk ((ρ st).off+i*sz+m*sz) a) O ρ' (n+1) (A2.put h b n (.rows sz ((rs.drop i).take m++p)))):=by
 have W:=A2.mem_of_get Z
 obtain⟨R,J,d,g⟩:=X.blk _ W
 simp only at R J d g
 have H:(ρ st).cap≠0:=by omega
 obtain⟨d,E⟩:=d H
 have l2:a.length=p.length*sz:=by rw [←M6 G];simpa using U.1.symm
 have D: ∀q,q<cap*sz→i*sz+q<(ρ st).cap*sz:=by
  intro q M
  have Q:(i+cap)*sz≤(ρ st).cap*sz:=Nat.mul_le_mul_right _ Y
  rw [Nat.add_mul]at Q
  omega
 have t: ∀j,j<a.length→m*sz+j<cap*sz:=by
  intro j B
  have Q:(m+p.length)*sz≤cap*sz:=Nat.mul_le_mul_right _ z
  rw [Nat.add_mul]at Q
  omega
 have l: ∀j,j<a.length→(w.cell? ⟨(ρ st).blk,(ρ st).off+i*sz+m*sz+j,none⟩).isSome=true:=fun j B=>by
  have:=(d _ (D _ (t j B))).1
  rwa [show (ρ st).off+(i*sz+(m*sz+j))=(ρ st).off+i*sz+m*sz+j from by omega]at this
 refine⟨l,fun j B=> ?_,?_⟩
 ·have:=(d _ (D _ (t j B))).2
  rwa [show (ρ st).off+(i*sz+(m*sz+j))=(ρ st).off+i*sz+m*sz+j from by omega]at this
 ·let ρ':Nat→Loc:=fun x=>if x=n then⟨(ρ st).blk,(ρ st).off+i*sz,sz,cap⟩else ρ x
  have f:ρ' n=⟨(ρ st).blk,(ρ st).off+i*sz,sz,cap⟩:=by simp [ρ']
  refine⟨ρ',f,?_⟩
  have F:C4 rs sz:=B3 fun i r o=>(g i r o).1
  refine HeapR.step X (Nat.le_succ _) (fun x P=>by simp [ρ',Nat.ne_of_lt P]) (Nat.lt_succ_self _) (Wd.setCells _ _ _ _)
   (fun y _ K=>W7 _ _ _ _ _ fun e=>by rw [f]at K;have:=K e;simp at this;omega)
   (.inr (.inr ⟨_,W,rfl,H,by rw [f]⟩)) ?_
  intro P
  have k:C4 ((rs.drop i).take m) sz:=B0M F i m
  have A:((rs.drop i).take m).length=m:=by simp;omega
  have s:=B3b k G
  have C:A4S (A8 (w.setCells (ρ st).blk ((ρ st).off+i*sz+m*sz) a) O ρ' (n+1) (A2.put h b n (.rows sz ((rs.drop i).take m++p)))) (ρ st).blk ((ρ st).off+i*sz) ((rs.drop i).take m++p).flatten:=by
   rw [List.flatten_append]
   refine A4S.append ?_ ?_
   ·have h0:A4S (A8 w O ρ n h) (ρ st).blk ((ρ st).off+i*sz) ((rs.drop i).take m).flatten:=B3X k fun N r o=>by
     rw [List.getElem?_take]at o
     split at o
     ·rw [List.getElem?_drop]at o
      have:=(g (i+N) r o).2
      rw [Nat.add_mul,←Nat.add_assoc]at this
      exact this
     ·cases o
    refine h0.mono P fun q M=> ?_
    rw [M6 k,A]at M
    exact World.cell?_setCells_out _ _ _ _ _ fun _ _=> .inl zg
   ·rw [M6 k,A]
    intro q c M
    obtain⟨x,I,a2,a3⟩:=U.get_one S q c M
    have v:q<a.length:=(List.getElem?_eq_some_iff.1 I).1
    refine⟨x,?_,a2,a3.mono P⟩
    have L:=World.cell?_setCells_in (ρ st).blk a ((ρ st).off+i*sz+m*sz) w l q v
    rw [List.getElem?_eq_getElem v]at I
    injection I with I
    rw [←I]
    exact L
  refine⟨by simp [f],by simp only [f];rw [List.length_append,A];exact z,fun _=>⟨fun j B=> ?_,by simp only [f];rw [A3N];exact E⟩,fun N r o=>⟨A1O s N r o,?_⟩⟩
  ·simp only [f]at B⊢
   rw [A1v,World.frozen?_setCells]
   have:=d _ (D j B)
   rwa [show (ρ st).off+(i*sz+j)=(ρ st).off+i*sz+j from by omega]at this
  ·simp only [f]
   exact B8o s C N r o
theorem B5A{x y:Operand}{x' y':Opd}{t u e:TypeId}{nm L:Nat}{A:TypeInfo}{z:Value}{du:TypeDesc}(ho:o.op= .call {callee:= .builtin .append,args:= #[x,y],argTypes:= #[t,u]})
  (ht:P.underlying t=some (.slice e)) (hu:P.underlying u=some du) (hd:(∃e',du= .slice e')∨du= .string) (hi:P.info? e=some A) (hz:A.zero=some z) (hzs:z.cells.size=A.size) (hL:L≤140737488355328) (hb:L*A.bytes≤140737488355328)
  (X:D0 x=some x') (hy:D0 y=some y')
  (M:HeapR w O ρ s.n s.h) (he:EvR (A8 w O ρ s.n s.h) s η) (g:A9P L nm A.size (s.ev x') (A5P s.h (s.ev y')) k s.h s.n):D8 P k w O ρ s.h s.n ((execOp η o).run P w):=by
 have X:=he.ev X
 have hy:=he.ev hy
 generalize s.ev x'=vx at*
 generalize s.ev y'=vy at*
 have U: ∀v w',(Builtin.append_ #[t,u] o.type #[η x,η y]).run P w= .ok v w'→(execOp η o).run P w= .ok (.value v) w':=by
  exact YC
 unfold A9P at g
 split at g
 ·exact g.elim
 ·rename_i D hsrc
  obtain⟨T,g⟩:=g
  obtain⟨G,n1,n2,n3,n4,n5⟩:=B4b M hy hsrc T
  have l: ∀(d:Option Addr) (m F:Nat) (os:List (List V)) (c:List Value) (j:Nat),η x= .slice d m F→os.length=m→C4 os A.size→RL (A8 w O ρ s.n s.h) os.flatten c.toArray→(∀(q:Nat) u,c[q]? =some u→u.oneCell'=true)→
    (∀w',(∀a,w'.cell? a=w.cell? a)→(Builtin.firstCells A.size m (.slice d m F)).run P w'= .ok c.toArray w')→F<m+D.length→m+D.length≤L→
    k (.sl j s.n 0 (m+D.length)) (A2.put s.h j s.n (.rows A.size (os++D))) (s.n+1)→D8 P k w O ρ s.h s.n ((execOp η o).run P w):=by
   intro d m F os c j hv hl hos S ho1 K hlt f g
   have C:=B4a (w:=w) (ty:=o.type) ht hu hd hi hz d m F D.length (η y) c G (n4 P) K (n5 P) hL hlt f hb
   rw [U _ _ (by rw [hv];exact C)]
   have hge:=grownCap_ge w (m+D.length) F e
   subst hl
   obtain⟨ρ',a1,a2,Y⟩:=B9j (nm:=j) (e:=e) M hos T S ho1 n2 n3 hzs hge
   exact⟨_,_,_,ρ',g,a2,B7f (Nat.lt_succ_self _) a1 hge,Y⟩
  have n: ∀(d:Option Addr) (j:Nat),η x= .slice d 0 0→D= []→k (.sl j s.n 0 0) (A2.put s.h j s.n (.rows A.size [])) (s.n+1)→D8 P k w O ρ s.h s.n ((execOp η o).run P w):=by
   intro d j hv Q hk2
   clear g
   subst Q
   have hn0:G= []:=List.eq_nil_of_length_eq_zero (by simpa using n1)
   subst hn0
   have C:=B5h (w:=w) (ty:=o.type) ht hu hd hi d (η y) (n4 P) (n5 P)
   rw [U _ _ (by rw [hv];exact C)]
   let ρ':Nat→Loc:=fun st=>if st=s.n then⟨0,0,A.size,0⟩else ρ st
   have hn:ρ' s.n=⟨0,0,A.size,0⟩:=by simp [ρ']
   obtain⟨a2,Y⟩:=HeapR.step (w':=w) (ρ':=ρ') (n':=s.n+1) (b:=j) (st:=s.n) (x:= .rows A.size []) M (Nat.le_succ _) (fun st hst=>by simp [ρ',Nat.ne_of_lt hst]) (Nat.lt_succ_self _) (Wd.refl _)
    (fun _ _ _=>rfl) (.inl (by rw [hn])) (fun _=>⟨by simp [hn],by simp,fun h=>by simp [hn]at h,by simp⟩)
   exact⟨_,_,_,ρ',hk2,a2,.sl0 _ _ _ _,Y⟩
  split at g
  ·obtain⟨hb2,g⟩:=g
   have hv:=X.nils_inv
   by_cases h0:D= []
   ·subst h0;exact n none nm hv rfl g
   ·have hpos:0<D.length:=List.length_pos_iff.2 h0
    refine l none 0 0 [] [] nm hv rfl (by intro r M;simp at M) ⟨rfl,by simp⟩ zf (fun w' _=>by simp [Builtin.firstCells]) zd zd ?_
    simpa using g
  ·rename_i b st i m
   split at g
   ·rename_i sz' rs hg
    obtain⟨rfl,hle,f,g⟩:=g
    have N:((rs.drop i).take m).length=m:=by simp;omega
    have I:C4 rs A.size:=B3 fun i row hi=>((M.blk _ (A2.mem_of_get hg)).2.2.2 i row hi).1
    have W:A4e s.h (.sl b st i m)=some ((rs.drop i).take m):=by
     simp [A4e,hg,Nat.ble_eq_true_of_le hle]
    obtain⟨p,F,c,Z,o2,o3,o4,o5⟩:=B7s M X W (B0M I i m)
    rw [N]at Z o5
    generalize H:η x=vv at X
    have hsz:(ρ st).sz=A.size:=(M.blk _ (A2.mem_of_get hg)).1
    rw [H]at Z o5
    cases X with
    | sl _ _ _ _ B hst hn hc=>
     by_cases J:m+D.length≤B
     ·by_cases hc0:B=0
      ·subst hc0
       have hm0:m=0:=by omega
       have Q:D= []:=List.eq_nil_of_length_eq_zero zd
       subst hm0;subst Q
       exact n _ b H rfl Qe
      ·obtain⟨a1,a2,ρ',Y,a4,a5⟩:=C2X M hg hle hc T n2 n3 J (Nat.pos_of_ne_zero hc0)
       have C:=B6W (w:=w) (ty:=o.type) ht hu hd hi (ρ st).blk ((ρ st).off+i*A.size) m B D.length (η y) G (n4 P) (n5 P) J a1 a2 n3
       rw [U _ _ (by rw [H,hsz];exact C)]
       refine⟨_,_,_,ρ',g,a4,?_,a5⟩
       have:=R.sl (E:=A8 (w.setCells (ρ st).blk ((ρ st).off+i*A.size+m*A.size) G) O ρ' (s.n+1) (A2.put s.h b s.n (.rows A.size ((rs.drop i).take m++D)))) b s.n 0 (m+D.length) B (Nat.lt_succ_self _) J (by simp [Y])
       simpa [Y]using this
     ·injection Z with Z o1' o1''
      subst o1''
      exact l _ m B _ c b H N (B0M I i m) o3 o4 (fun w' hw=>o5 P w' hw) zd f g
    | sl0 _ _ _ a=>
     by_cases h0:D= []
     ·subst h0;exact n a b H rfl Qe
     ·have hpos:0<D.length:=List.length_pos_iff.2 h0
      injection Z with Z o1' o1''
      subst o1''
      exact l _ 0 0 _ c b H N (B0M I i 0) o3 o4 (fun w' hw=>o5 P w' hw) zd f g
   ·exact g.elim
  ·exact g.elim
end
end Go.Abs
namespace Go.Abs
section
variable {P:Program} {k:Res} {w:World} {O:Nat→Prop} {ρ:Nat→Loc} {s:St} {η:Operand→Value} {o:Oper}
def B3S(sz:Nat):Nat→List Opd→List (Nat×Nat×Opd)
 |_,[]=> []
 |k,y::r=>(k*sz,sz,y)::B3S sz (k+1) r
theorem B2m(sz:Nat): ∀(a:List (Nat×Operand)) (k:Nat) (b:List Opd),a.map (·.1)=List.range' k a.length→u4 (a.map (·.2))=some b→
  A6s (fun i=>some (i*sz,sz)) a=some (B3S sz k b)
 | [],k,b,_,h=>by simp [u4]at h;subst h;rfl
 | p::r,k,b,h1,h=>by
  simp only [List.map_cons,u4]at h
  split at h
  ·rename_i y c e d
   injection h with h
   subst h
   simp only [List.map_cons,List.length_cons,List.range'_succ,List.cons.injEq]at h1
   simp only [A6s,e,B2m sz r (k+1) c h1.2 d,h1.1,B3S]
  ·cases h
theorem B8P{sz:Nat}: ∀{c:List Opd} {rs:List (List V)},O8 sz s c=some rs→C4 rs sz∧rs.length=c.length
 | [],rs,h=>by simp [O8]at h;subst h;exact⟨by intro r b;simp at b,rfl⟩
 | y::r,rs,h=>by
  simp only [O8]at h
  split at h
  ·rename_i g e i b
   cases hb:Nat.beq g.length sz with
   |false=>rw [hb]at h;cases h
   |true=>
    rw [hb,cond_true]at h
    injection h with h
    subst h
    obtain⟨d,f⟩:=B8P b
    refine⟨fun x a=> ?_,by simp [f]⟩
    rcases List.mem_cons.1 a with rfl|a
    ·exact Nat.eq_of_beq_eq_true hb
    ·exact d x a
  ·cases h
theorem B8j{sz:Nat}: ∀(b:List Opd) (k:Nat) (z:List V) (rs:List (List V)),O8 sz s b=some rs→z.length=(k+b.length)*sz→A4u s z (B3S sz k b)=some (z.take (k*sz)++rs.flatten)
 | [],k,z,rs,h,hz=>by
  simp [O8]at h;subst h
  simp only [B3S,A4u,List.flatten_nil,List.append_nil]
  rw [List.take_of_length_le (by rw [hz];simp)]
 | y::r,k,z,rs,h,hz=>by
  simp only [O8]at h
  split at h
  ·rename_i d c f g
   cases hb:Nat.beq d.length sz with
   |false=>rw [hb]at h;cases h
   |true=>
    rw [hb,cond_true]at h
    injection h with h
    subst h
    have e:=Nat.eq_of_beq_eq_true hb
    have j:k*sz+sz=(k+1)*sz:=by rw [Nat.add_mul,Nat.one_mul]
    have i:(k+1)*sz≤z.length:=by rw [hz];exact Nat.mul_le_mul_right _ (by simp only [List.length_cons];omega)
    have a:k*sz+d.length≤z.length:=by rw [e];omega
    simp only [B3S,A4u,f,hb,Bool.true_and,Nat.ble_eq_true_of_le a,cond_true]
    rw [B8j r (k+1) _ c g (by rw [A4n a,hz];congr 1;simp;omega)]
    congr 1
    rw [List.flatten_cons,←List.append_assoc]
    congr 1
    unfold L3
    rw [List.take_append_of_le_length zl,List.take_of_length_le zl]
  ·cases h
theorem B1h{t e:TypeId}{len:Nat}{parts:Array (Nat×Operand)}{d:List Opd}{a:TypeInfo}{z:Value}{rs:List (List V)}(T:o.op= .buildSlice t len parts)(S:P.underlying t=some (.slice e))(K:P.info? e=some a)(hz:a.zero=some z)
  (I:z.cells.size=a.size) (M: ∀(i:Nat) v,z.cells[i]? =some v→v.oneCell'=true) (h24:len*a.size≤16777216) (W:parts.toList.map (·.1)=List.range' 0 parts.toList.length) (hl:parts.toList.length=len) (R:u4 (parts.toList.map (·.2))=some d)
  (he:EvR (A8 w O ρ s.n s.h) s η) (E:O8 a.size s d=some rs): ∃n:Array Value,RL (A8 w O ρ s.n s.h) rs.flatten n∧(∀(i:Nat) v,n[i]? =some v→v.oneCell'=true)∧rs.length=len∧C4 rs a.size∧
   (execOp η o).run P w= .ok (.value (.slice (some ⟨w.heap.size,0,none⟩) len len)) (w.alloc (.cells n e)):=by
 have B:d.length=len:=by
  have: ∀(l:List Operand) (d:List Opd),u4 l=some d→d.length=l.length:=by
   intro l
   induction l with
   |nil=>intro d h;simp [u4]at h;subst h;rfl
   |cons x r Y=>
    intro d h
    simp only [u4]at h
    split at h
    ·rename_i y ys' _ X;injection h with h;subst h;simp [Y _ X]
    ·cases h
  rw [this _ _ R];simpa using hl
 have J:=B2m a.size parts.toList 0 d W R
 generalize k:(if len*a.size=0 then(#[]:Array Value)else z.cells)=Z
 generalize f:((Array.range (len*a.size)).map fun i=>Z[i%Z.size]!)=b
 have F:b.size=len*a.size:=by rw [←f];simp
 have A: ∀(i:Nat) v,b[i]? =some v→v.oneCell'=true:=by
  intro i v H
  by_cases g:len*a.size=0
  ·have:i<b.size:=(Array.getElem?_eq_some_iff.1 H).1
   omega
  ·rw [←f]at H
   rw [if_neg g]at k
   subst k
   simp only [Array.getElem?_map,Option.map_eq_some_iff]at H
   obtain⟨j,_,rfl⟩:=H
   have D:0<z.cells.size:=by rw [I];exact Nat.pos_of_ne_zero fun h=>g (by rw [h];rfl)
   have u:=Nat.mod_lt j D
   rw [getElem!_pos z.cells _ u]
   exact M (j%z.cells.size) z.cells[j%z.cells.size] (by simp [u])
 have q:=B8j (s:=s) d 0 (List.replicate (len*a.size) V.undef) rs E (by simp [B])
 simp only [Nat.zero_mul,List.take_zero,List.nil_append]at q
 obtain⟨n,Q,a2,a3⟩:=B9x parts.toList _ _ _ b J he ⟨by simp [F],fun i c v m _=>by
  rw [List.getElem?_replicate]at m
  split at m
  ·injection m with m;subst m;exact .undef _
  ·cases m⟩ A q
 obtain⟨N,L⟩:=B8P E
 refine⟨n,a2,a3,by rw [L,B],N,?_⟩
 have U:(parts.map fun(x:Nat×Operand)=>match x with|(i,x)=>(i,η x)).toList=parts.toList.map fun p=>(p.1,η p.2):=by rw [Array.toList_map]
 have C: ¬(len*a.size>2^24):=by omega
 by_cases g:len*a.size=0
 ·rw [if_pos g]at k
  subst k
  have G:b= #[]:=by rw [←f,g];simp
  rw [G]at Q
  simp only [execOp,T,Instr.buildSlice,Sem.run_bind,run_underlying S,Result.andThen_ok,sizeOf,typeInfo,run_program,K,Sem.run_pure,U]
  have r0:Array.range 0= #[]:=rfl
  simp only [g,gt_iff_lt,Nat.not_lt_zero,if_false,if_true,r0,List.map_toArray,List.map_nil,Q]
  simp [newRow]
 ·rw [if_neg g]at k
  subst k
  simp only [execOp,T,Instr.buildSlice,Sem.run_bind,run_underlying S,Result.andThen_ok,sizeOf,typeInfo,run_program,K,Sem.run_pure,U]
  simp only [if_neg C,if_neg g,Sem.run_pure,Sem.run_bind,zeroValue,typeInfo,run_program,K,hz,Result.andThen_ok,f,Q]
  simp [newRow]
theorem C7z{t e:TypeId}{len nm:Nat}{parts:Array (Nat×Operand)}{y:List Opd}{a:TypeInfo}{z:Value}(D:o.op= .buildSlice t len parts)(C:P.underlying t=some (.slice e))(A:P.info? e=some a)(F:a.zero=some z)
  (d:z.cells.size=a.size) (l: ∀(i:Nat) v,z.cells[i]? =some v→v.oneCell'=true) (g:len*a.size≤16777216) (u:parts.toList.map (·.1)=List.range' 0 parts.toList.length) (G:parts.toList.length=len) (r:u4 (parts.toList.map (·.2))=some y)
  (L:HeapR w O ρ s.n s.h) (K:EvR (A8 w O ρ s.n s.h) s η) (b:C3 P (.mkrow nm a.size y) s k):D8 P k w O ρ s.h s.n ((execOp η o).run P w):=by
 simp only [C3]at b
 cases hrs:O8 a.size s y with
 |none=>rw [hrs]at b;exact b.elim
 | some J=>
  rw [hrs]at b
  obtain⟨f,j,H,n,p,B⟩:=B1h D C A F d l g u G r K hrs
  rw [B]
  obtain⟨ρ',I,x,E⟩:=L.allocFlat nm a.size len J f e (by rw [←j.1,M6 p,n]) zd p (fun q c m=>by
   have h:q<f.size:=by have:=(List.getElem?_eq_some_iff.1 m).1;rw [←j.1];exact this
   exact⟨f[q],by simp [h],H q _ (by simp [h]),j.2 q c _ m (by simp [h])⟩)
  refine⟨_,_,_,ρ',b,x,?_,E⟩
  rw [n]
  exact B7f (Nat.lt_succ_self _) I (Nat.le_refl _)
theorem C7y{t e:TypeId}{len:Nat}{parts:Array (Nat×Operand)}{A:List Opd}{a:TypeInfo}{z:Value}(M:o.op= .buildSlice t len parts)(X:P.underlying t=some (.slice e))(b:P.info? e=some a)(Q:a.zero=some z)
  (y:z.cells.size=a.size) (C: ∀(i:Nat) v,z.cells[i]? =some v→v.oneCell'=true) (B:len*a.size≤16777216) (J:parts.toList.map (·.1)=List.range' 0 parts.toList.length) (T:parts.toList.length=len) (I:u4 (parts.toList.map (·.2))=some A)
  (F:HeapR w O ρ s.n s.h) (L:EvR (A8 w O ρ s.n s.h) s η) (p:C3 P (.mkisl a.size A) s k):D8 P k w O ρ s.h s.n ((execOp η o).run P w):=by
 simp only [C3]at p
 cases hrs:O8 a.size s A with
 |none=>rw [hrs]at p;exact p.elim
 | some u=>
  rw [hrs]at p
  obtain⟨f,H,U,N,D,K⟩:=B1h M X b Q y C B J T I L hrs
  rw [K]
  obtain⟨W,G⟩:=F.world (w':=w.alloc (.cells f e)) (Wd.alloc _ _) fun x Y=>A6u _ _ _ Y
  refine⟨_,_,_,ρ,p,W,?_,G⟩
  have n: ∀{i j:Nat} {r:List V} {c:V},u[i]? =some r→r[j]? =some c→i*a.size+j<f.size∧u.flatten[i*a.size+j]? =some c:=by
   intro i j r c b l
   have d:=(List.getElem?_eq_some_iff.1 l).1
   rw [A1O D i r b]at d
   have m:u.flatten[i*a.size+j]? =some c:=by rw [A9Z D i j d,b];exact l
   exact⟨by have:=(List.getElem?_eq_some_iff.1 m).1;rw [←H.1];exact this,m⟩
  have h:=R.isl (E:=A8 (w.alloc (.cells f e)) O ρ s.n s.h) u ⟨w.heap.size,0,none⟩ len a.size (fun i j=>f.getD (i*a.size+j) Go.undef) rfl zd (fun i r b=>A1O D i r b)
   (fun i r j c b l=>by
     obtain⟨d,m⟩:=n b l
     have g:f.getD (i*a.size+j) Go.undef=f[i*a.size+j]:=by simp [Array.getD,d]
     refine⟨by simp [d],?_,?_,?_⟩
     ·rw [g]
      exact U (i*a.size+j) _ (by simp [d])
     ·intro q;exact absurd (F.real q) (Nat.lt_irrefl _)
     ·intro S;exact absurd (F.out _ S) (Nat.lt_irrefl _))
   (fun i r j c b l=>by
     obtain⟨d,m⟩:=n b l
     have g:f.getD (i*a.size+j) Go.undef=f[i*a.size+j]:=by simp [Array.getD,d]
     rw [g]
     exact(H.2 (i*a.size+j) c _ m (by simp [d])).mono G)
  rw [N]at h
  exact h
theorem C2E{x R:Operand}{K:Opd}{t e:TypeId}{nm:Nat}{a:TypeInfo}{f:Value}{z:List V}(Z:o.op= .makeSlice t x R)(F:η R=η x)(ht:P.underlying t=some (.slice e))(b:P.info? e=some a)(hz:a.zero=some f)(hb:a.bytes≤1024)
  (u: ∀E:Env,RL E z f.cells) (Q: ∀(i:Nat) v,f.cells[i]? =some v→v.oneCell'=true) (d:z.length=a.size) (N:D0 x=some K)
  (H:HeapR w O ρ s.n s.h) (Y:EvR (A8 w O ρ s.n s.h) s η) (l:C3 P (.mksl nm z K) s k):D8 P k w O ρ s.h s.n ((execOp η o).run P w):=by
 have N:=Y.ev N
 simp only [C3]at l
 generalize s.ev K=vx at*
 unfold B4B at l
 split at l
 ·rename_i m
  obtain⟨U,h1,l⟩:=l
  have hv:=N.int_inv
  obtain⟨n,rfl⟩:=Int.eq_ofNat_of_zero_le U
  have A:f.cells.size=a.size:=by rw [←(u (A8 w O ρ s.n s.h)).1,d]
  generalize p:madeCells f.cells (n*a.size)=D
  have y:(execOp η o).run P w= .ok (.value (.slice (some ⟨w.heap.size,0,none⟩) n n)) (w.alloc (.cells D e)):=by
   have G:(a.bytes:Int)*n≤281474976710656:=by
    have:a.bytes*n≤1024*137438953472:=Nat.mul_le_mul hb zd
    have h3:((a.bytes*n:Nat):Int)≤140737488355328:=by omega
    rw [Int.natCast_mul]at h3
    omega
   have h:=run_make (P:=P) w t e a f ht b hz .i64 .i64 n n U (Int.le_refl _) G zd
   simp only [Int.toNat_natCast,p]at h
   simp [execOp,Z,F,hv,h]
  rw [y]
  have B:D.size=n*a.size:=by rw [←p,size_madeCells]
  have T:C4 (List.replicate n z) a.size:=fun r H=>by rw [(List.mem_replicate.1 H).2,d]
  obtain⟨ρ',b1,X,b3⟩:=H.alloc nm a.size n (List.replicate n z) D e B zf (fun i L b=>by
   have C:L=z:=by
    rw [List.getElem?_replicate]at b
    split at b
    ·injection b with b;exact b.symm
    ·cases b
   have M:i<n:=by have:=(List.getElem?_eq_some_iff.1 b).1;simpa using this
   subst C
   refine⟨d,fun j c S=> ?_⟩
   have I:j<a.size:=by have:=(List.getElem?_eq_some_iff.1 S).1;omega
   have W:i*a.size+j<n*a.size:=by
    have:(i+1)*a.size≤n*a.size:=Nat.mul_le_mul_right _ M
    exact YU
   have g:j<f.cells.size:=by omega
   refine⟨f.cells[j],?_,Q j _ (by simp [g]),(u _).2 j c _ S (by simp [g])⟩
   have q:(i*a.size+j)%f.cells.size=j:=by rw [A,Nat.mul_comm,Nat.mul_add_mod,Nat.mod_eq_of_lt I]
   rw [←p,madeCells,Array.getElem?_map]
   simp [W,q,g])
  have J:k (.sl nm s.n 0 n) (A2.put s.h nm s.n (.rows a.size (List.replicate n z))) (s.n+1):=by simpa [d]using l
  exact⟨_,_,_,ρ',J,X,B7f (Nat.lt_succ_self _) b1 (Nat.le_refl _),b3⟩
 ·exact l.elim
end
end Go.Abs
namespace Go.Abs
section
variable {P:Program} {k:Res} {w:World} {O:Nat→Prop} {ρ:Nat→Loc} {s:St} {η:Operand→Value} {o:Oper}
def A8e:Option Operand→Option (Option Opd)
 |none=>some none
 |some x=>(D0 x).map some
theorem A1I{E:Env}(g:EvR E s η){x:Option Operand}{c:Option Opd}(b:A8e x=some c){d z:Int}(a:K5 d (c.map s.ev)=some z):(x=none∧z=d)∨ ∃y j,x=some y∧η y= .int j z:=by
 cases x with
 |none=>
  simp [A8e]at b;subst b
  simp [K5]at a
  exact .inl ⟨rfl,a.symm⟩
 | some y=>
  simp only [A8e,Option.map_eq_some_iff]at b
  obtain⟨i,f,rfl⟩:=b
  have e:=g.ev f
  simp only [Option.map_some]at a
  generalize s.ev i=v at*
  unfold K5 at a
  split at a
  ·rename_i h;cases h
  ·rename_i j k h
   injection a with a
   injection h with h
   subst h;subst a
   exact .inr ⟨y,j,rfl,e.int_inv⟩
  ·cases a
theorem A9z{c d:Option Operand}{isSl:Bool}{len cap:Nat}{l u:Int}(i:(c=none∧l=0)∨ ∃y j,c=some y∧η y= .int j l)(k:(d=none∧u=len)∨ ∃y j,d=some y∧η y= .int j u)
  (e:0≤l) (g:l≤u) (h2:u≤cap) (w:World):(Instr.sliceBounds isSl len cap (c.map η) (d.map η) none).run P w= .ok (l.toNat,u.toNat,cap) w:=by
 have b:0≤u:=Int.le_trans e g
 have m:l≤(u.toNat:Int):=by omega
 have h:l≤max u 0:=by omega
 rcases i with⟨rfl,rfl⟩|⟨y,j,rfl,f⟩<;>rcases k with⟨rfl,rfl⟩|⟨o,n,rfl,a⟩
 ·simp [Instr.sliceBounds]
 ·simp [Instr.sliceBounds,Instr.sliceBound,asIntOf,a,b,h2]
 ·simp [Instr.sliceBounds,Instr.sliceBound,asIntOf,f,e,g]
 ·simp [Instr.sliceBounds,Instr.sliceBound,asIntOf,f,a,e,b,h2,h]
theorem D1y{x:Operand}{lo v:Option Operand}{x':Opd}{Y X:Option Opd}{t e:TypeId}{F:TypeInfo}(ho:o.op= .slice t x lo v none)(ht:P.underlying t=some (.slice e))(hi0:P.info? e=some F)
  (U:D0 x=some x') (K:A8e lo=some Y) (T:A8e v=some X)
  (W:HeapR w O ρ s.n s.h) (J:EvR (A8 w O ρ s.n s.h) s η) (g:C3 P (.slc F.size x' Y X) s k):D8 P k w O ρ s.h s.n ((execOp η o).run P w):=by
 have U:=J.ev U
 simp only [C3]at g
 generalize s.ev x'=vx at*
 have C: ∀(a:Option Addr) (len d:Nat) (l u:Int),η x= .slice a len d→((lo=none∧l=0)∨ ∃y j,lo=some y∧η y= .int j l)→((v=none∧u=len)∨ ∃y j,v=some y∧η y= .int j u)→0≤l→l≤u→u≤d→
   (execOp η o).run P w= .ok (.value (.slice (if d=l.toNat then a else a.map (·.add (l.toNat*F.size))) (u.toNat-l.toNat) (d-l.toNat))) w:=by
  intro a len d l u hv S Q h0 h1 h2
  have hb:=A9z (P:=P) (isSl:=true) (len:=len) S Q h0 h1 h2 w
  simp [execOp,ho,Instr.sliceAt,run_underlying ht,Instr.slice,hv,hb,sizeOf,typeInfo,hi0]
 unfold B3i at g
 split at g
 ·rename_i b H i m
  split at g
  ·rename_i l u S Q
   obtain⟨h,h0,h1,h2,g⟩:=g
   have q:=A1I J K S
   have z:=A1I J T Q
   generalize D:η x=vv at U
   have h:(ρ H).sz=F.size:=by
    unfold B2i at h
    split at h
    ·rename_i sz rs hg
     injection h with h
     subst h
     exact(W.blk _ (A2.mem_of_get hg)).1
    ·cases h
   cases U with
   | sl _ _ _ _ d hst hn hc=>
    rw [C _ _ _ l u D q z h0 h1 zd]
    refine D8.val W g ?_
    have e1:u.toNat-l.toNat=(u-l).toNat:=by omega
    rw [e1]
    by_cases A:d=l.toNat
    ·rw [if_pos A]
     have:(u-l).toNat=0:=by omega
     rw [this,A,Nat.sub_self]
     exact .sl0 _ _ _ _
    ·rw [if_neg A]
     have:=R.sl (E:=A8 w O ρ s.n s.h) b H (i+l.toNat) (u-l).toNat (d-l.toNat) hst zd (by show _≤(ρ H).cap;have hc':i+d≤(ρ H).cap:=hc;omega)
     simp only [Option.map_some,A4F]
     have e2:(ρ H).off+i*(ρ H).sz+l.toNat*F.size=(ρ H).off+(i+l.toNat)*(ρ H).sz:=by rw [h,Nat.add_mul];omega
     rw [e2]
     exact this
   |sl0 _ _ _ a=>
    have N:l=0:=by omega
    have M:u=0:=by omega
    subst N;subst M
    rw [C _ _ _ 0 0 D q z zd zd zd]
    refine D8.val W g ?_
    exact .sl0 _ _ _ _
  ·exact g.elim
 ·rename_i Z
  split at g
  ·rename_i l u S Q
   obtain⟨h,h0,h1,h2,g⟩:=g
   have q:=A1I J K S
   have z:=A1I J T Q
   generalize D:η x=vv at U
   have B:((Z.drop l.toNat).take (u-l).toNat).length=u.toNat-l.toNat:=by simp;omega
   cases U with
   | isl _ p d sz f hp hcap G I hR=>
    rw [C _ _ _ l u D q z h0 h1 zd]
    refine D8.val W g ?_
    rw [←B]
    by_cases A:d=l.toNat
    ·rw [if_pos A]
     have:(Z.drop l.toNat).take (u-l).toNat= []:=List.eq_nil_of_length_eq_zero (by rw [B];omega)
     rw [this]
     exact .isl0 _ _
    ·rw [if_neg A]
     simp only [Option.map_some]
     obtain⟨pb,po,ps⟩:=p
     simp only at hp
     subst hp
     rw [A4F]
     by_cases he0:Z= []
     ·subst he0;simp;exact .isl0 _ _
     ·have hs:sz=F.size:=by
       obtain⟨r,es',rfl⟩:=List.exists_cons_of_ne_nil he0
       rw [←G 0 r rfl,←h r zf]
      subst hs
      have L: ∀{i:Nat} {n:List V},((Z.drop l.toNat).take (u-l).toNat)[i]? =some n→Z[l.toNat+i]? =some n:=by
       intro i n v
       rw [List.getElem?_take]at v
       split at v
       ·rwa [List.getElem?_drop]at v
       ·cases v
      refine .isl _ ⟨pb,po+l.toNat*F.size,none⟩ (d-l.toNat) F.size (fun i j=>f (l.toNat+i) j) rfl (by rw [B];omega) (fun i n v=>G _ n (L v)) (fun i n j c v hj=> ?_) (fun i n j c v hj=>hR _ n j c (L v) hj)
      have:=I _ n j c (L v) hj
      rw [Nat.add_mul,←Nat.add_assoc]at this
      exact this
   |isl0 a d=>
    simp at h2
    have N:l=0:=by omega
    have M:u=0:=by omega
    subst N;subst M
    rw [C _ _ _ 0 0 D q z zd zd zd]
    refine D8.val W g ?_
    simp
    exact .isl0 _ _
  ·exact g.elim
 ·split at g
  ·rename_i l u S Q
   obtain⟨rfl,rfl,g⟩:=g
   have q:=A1I J K S
   have z:=A1I J T Q
   rw [C _ _ _ 0 0 U.nils_inv q z zd zd zd]
   refine D8.val W g ?_
   exact .nils
  ·exact g.elim
 ·exact g.elim
theorem D1z{x:Operand}{r v:Option Operand}{n:Opd}{d a:Option Opd}{t:TypeId}(z:o.op= .slice t x r v none)(E:P.underlying t=some .string)
  (q:D0 x=some n) (i:A8e r=some d) (p:A8e v=some a)
  (A:HeapR w O ρ s.n s.h) (g:EvR (A8 w O ρ s.n s.h) s η) (h:C3 P (.sls n d a) s k):D8 P k w O ρ s.h s.n ((execOp η o).run P w):=by
 have q:=g.ev q
 simp only [C3]at h
 generalize s.ev n=H at*
 unfold B5i at h
 split at h
 ·rename_i b
  split at h
  ·rename_i l u B C
   obtain⟨G,F,y,h⟩:=h
   have f:=A1I g i B
   have j:=A1I g p C
   have D:=A9z (P:=P) (isSl:=false) (len:=b.length) (cap:=b.length) f j G F y w
   have m:(⟨⟨b⟩⟩:ByteArray).size=b.length:=rfl
   have c:(execOp η o).run P w= .ok (.value (.string ((⟨⟨b⟩⟩:ByteArray).extract l.toNat u.toNat))) w:=by
    simp [execOp,z,Instr.sliceAt,run_underlying E,Instr.slice,q.str_inv,m,D]
   rw [c]
   have e:(⟨⟨b⟩⟩:ByteArray).extract l.toNat u.toNat=⟨⟨(b.drop l.toNat).take (u-l).toNat⟩⟩:=by
    apply ByteArray.ext
    apply Array.ext'
    rw [Lib.extract_data]
    have:u.toNat-l.toNat=(u-l).toNat:=by omega
    rw [this]
   rw [e]
   exact D8.val A h (.str _)
  ·exact h.elim
 ·exact h.elim
end
end Go.Abs
namespace Go.Abs
section
variable {P:Program} {k:Res} {w:World} {O:Nat→Prop} {ρ:Nat→Loc} {s:St} {η:Operand→Value} {o:Oper}
def A2z(key:V):List (V×V)→Option Nat
 | []=>none
 |e::r=>bif (A5W key e.1).getD false then some 0 else(A2z key r).map (· +1)
theorem B3N(k:V): ∀a:List (V×V),u7 k a=(A2z k a).bind fun i=>(a[i]?).map (·.2)
 | []=>rfl
 | e::r=>by
  simp only [u7,A2z]
  cases(A5W k e.1).getD false with
  |true=>simp
  |false=>
   simp only [cond_false,B3N k r]
   cases A2z k r<;>simp
theorem C1D(k v:V): ∀a:List (V×V),A7b k v a=match A2z k a with|some i=>a.set i (k,v)|none=>a++ [(k,v)]
 | []=>rfl
 | e::r=>by
  simp only [A7b,A2z]
  cases(A5W k e.1).getD false with
  |true=>simp
  |false=>
   simp only [cond_false,C1D k v r]
   cases A2z k r<;>simp
theorem B9Q(k:V): ∀(es:List (V×V)) (i:Nat),A2z k es=some i→i<es.length
 | [],i,h=>by simp [A2z]at h
 | e::r,i,h=>by
  simp only [A2z]at h
  cases hb:(A5W k e.1).getD false with
  |true=>rw [hb]at h;simp at h;subst h;simp
  |false=>
   rw [hb]at h
   simp only [cond_false,Option.map_eq_some_iff]at h
   obtain⟨j,a,rfl⟩:=h
   have:=B9Q k r j a
   simp;omega
def C0z(P:Program)(kt:TypeId)(kd:Nat):Prop:=(kd=0∧ ∃j,P.underlying kt=some (.int j))∨(kd=1∧P.underlying kt=some .string)∨(kd=2∧P.underlying kt=some .bool)
def C3k(kd:Nat)(d:TypeDesc):Prop:=(kd=0∧ ∃j,d= .int j)∨(kd=1∧d= .string)∨(kd=2∧d= .bool)
theorem C0z.desc{b:TypeId}{k:Nat}(h:C0z P b k): ∃d,P.underlying b=some d∧C3k k d:=by
 rcases h with⟨rfl,j,a⟩|⟨rfl,a⟩|⟨rfl,a⟩
 ·exact⟨_,a,.inl ⟨rfl,j,rfl⟩⟩
 ·exact⟨_,a,.inr (.inl ⟨rfl,rfl⟩)⟩
 ·exact⟨_,a,.inr (.inr ⟨rfl,rfl⟩)⟩
theorem B7R(a b:List UInt8):((⟨⟨a⟩⟩:ByteArray)==⟨⟨b⟩⟩)=decide (a=b):=by
 rw [beq_toListBytes];exact A8Y a b
theorem B7b{E:Env}{n:Nat}{d:TypeDesc}{e k:V}{v g:Value}{b:Bool}(m:C3k n d)(f:A8k n e=true)(h:A5W e k=some b)(l:R E e v)(c:R E k g):
  Instr.sameNow d v g=some b∧(b=true→Instr.sameBits 10000 g v=true):=by
 unfold A5W at h
 split at h
 ·rename_i j a p q
  by_cases o:j=p
  ·subst o
   simp at h
   rw [l.int_inv,c.int_inv]
   rcases m with⟨rfl,i,rfl⟩|⟨rfl,rfl⟩|⟨rfl,rfl⟩
   ·subst h
    refine⟨by simp [Instr.sameNow,C3h],fun h=> ?_⟩
    simp at h
    simp [Instr.sameBits,h]
   ·simp [A8k]at f
   ·simp [A8k]at f
  ·simp [o]at h
 ·injection h with h
  rw [l.str_inv,c.str_inv]
  rcases m with⟨rfl,i,rfl⟩|⟨rfl,rfl⟩|⟨rfl,rfl⟩
  ·simp [A8k]at f
  ·subst h
   refine⟨by simp only [Instr.sameNow,B7R],fun h=> ?_⟩
   simp at h
   subst h
   simp only [Instr.sameBits,B7R]
   simp
  ·simp [A8k]at f
 ·injection h with h
  rw [l.bool_inv,c.bool_inv]
  rcases m with⟨rfl,i,rfl⟩|⟨rfl,rfl⟩|⟨rfl,rfl⟩
  ·simp [A8k]at f
  ·simp [A8k]at f
  ·subst h
   refine⟨by simp only [Instr.sameNow,B4j],fun h=> ?_⟩
   simp at h
   subst h
   simp [Instr.sameBits]
 ·cases h
theorem B6b{E:Env}{a:Nat}{d:TypeDesc}{k:V}{v:Value}(l:C3k a d)(c:A8k a k=true)(g:R E k v): ∀(es:List (V×V)) (ms:List MapEntry) (i:Nat),ms.length=es.length→A5X k es→
  (∀(i:Nat) p m,es[i]? =some p→ms[i]? =some m→R E p.1 m.key)→
  Instr.findNow d v ms i=some ((A2z k es).bind fun j=>(ms[j]?).map fun m=>(i+j,m.val))
 | [],[],i,_,_,_=>rfl
 | [],_::_,_,h,_,_=>by simp at h
 |_::_,[],_,h,_,_=>by simp at h
 | e::r,m::ms,i,hl,hok,hRk=>by
  obtain⟨u,s⟩:=hok
  obtain⟨b,f⟩:=Option.isSome_iff_exists.1 u
  have n:=(B7b l c f g (hRk 0 e m rfl rfl)).1
  simp only [Instr.findNow,n,A2z,f,Option.getD_some]
  cases b with
  |true=>simp
  |false=>
   simp only [cond_false]
   rw [B6b l c g r ms (i+1) Qa s (fun j p t o q=>hRk (j+1) p t (by simpa using o) (by simpa using q))]
   cases A2z k r<;>simp [Nat.add_assoc,Nat.add_comm 1]
theorem A4L{k:TypeId}{a:Nat}(h:C0z P k a)(e:Bool)(v:Value)(w:World):(Instr.checkKey e 10000 k v).run P w= .ok () w:=by
 obtain⟨d,b,h⟩:=h.desc
 have: ∀n,(Instr.checkKey e (n+1) k v).run P w= .ok () w:=by
  intro n
  rcases h with⟨_,j,rfl⟩|⟨_,rfl⟩|⟨_,rfl⟩<;>simp [Instr.checkKey,run_underlying b]
 exact this 9999
theorem B0r{E:Env}{f:TypeId}{e:Nat}{k:V}{v:Value}(b:C0z P f e)(g:A8k e k=true)(o:R E k v){es:List (V×V)}{ms:Array MapEntry}(l:ms.size=es.length)(c:A5X k es)
  (a: ∀(i:Nat) p m,es[i]? =some p→ms[i]? =some m→R E p.1 m.key) (w:World):(Instr.findKey f v ms.toList).run P w= .ok ((A2z k es).bind fun j=>(ms[j]?).map fun m=>(j,m.val)) w:=by
 obtain⟨d,n,b⟩:=b.desc
 have h:=B6b b g o es ms.toList 0 (by simpa using l) c (fun i p m q r=>a i p m q (by simpa using r))
 simp only [Instr.findKey,Sem.run_bind,run_underlying n,Result.andThen_ok,h]
 simp
theorem B1z{r:Nat}{es:Array MapEntry}{c:Nat}(h:w.heap[r]? =some (.map es c)):(getObj r).run P w= .ok (.map es c) w:=by
 simp [getObj,Sem.run,h]
theorem B7e{r:Nat}{es:Array MapEntry}{c:Nat}(o:Obj)(h:w.heap[r]? =some (.map es c)):(setObj r o).run P w= .ok () {w with heap:=w.heap.setIfInBounds r o}:=by
 simp [setObj,Sem.run,h]
theorem B8U{t:TypeId}{nm:Nat}{x:Option Operand}(e:o.op= .makeMap t x)(p:x=none∨(∃j z,x=some (.const (.int j z)))∧ ∃a b,P.underlying t=some (.map a b))
  (q:HeapR w O ρ s.n s.h) (n:EvR (A8 w O ρ s.n s.h) s η) (f:C3 P (.mkmap nm) s k):D8 P k w O ρ s.h s.n ((execOp η o).run P w):=by
 have h:(execOp η o).run P w= .ok (.value (.map (some w.heap.size))) (w.alloc (.map #[] 0)):=by
  rcases p with rfl|⟨⟨j,z,rfl⟩,a,b,g⟩
  ·simp [execOp,e,Instr.makeMap]
  ·simp [execOp,e,Instr.makeMap,run_underlying g,n.2.1,asInt,asIntOf]
 rw [h]
 let ρ':Nat→Loc:=fun st=>if st=s.n then⟨w.heap.size,0,0,1⟩else ρ st
 have c:ρ' s.n=⟨w.heap.size,0,0,1⟩:=by simp [ρ']
 obtain⟨m,l⟩:=HeapR.step (w':=w.alloc (.map #[] 0)) (ρ':=ρ') (n':=s.n+1) (b:=nm) (st:=s.n) (x:= .map []) q (Nat.le_succ _) (fun st d=>by simp [ρ',Nat.ne_of_lt d]) (Nat.lt_succ_self _) (Wd.alloc _ _)
  (fun y i _=>A6u _ _ _ i) (by rw [c];exact .inr (.inl (Nat.le_refl _)))
  (fun _=>⟨by simp [c], #[],0,by simp only [c];exact heap_alloc_new w _,rfl,by simp,by simp⟩)
 refine⟨_,_,_,ρ',f,m,?_,l⟩
 have:=R.mp (E:=A8 (w.alloc (.map #[] 0)) O ρ' (s.n+1) (A2.put s.h nm s.n (.map []))) nm s.n (Nat.lt_succ_self _)
 simpa [c]using this
theorem C9R{m x:Operand}{U X:Opd}{t kt et:TypeId}{kd:Nat}{F:Bool}{z:V}{ti:TypeInfo}{G:Value}(ho:o.op= .lookup t m x F)(ht:P.underlying t=some (.map kt et))(B:C0z P kt kd)
  (hi:P.info? et=some ti) (hz:ti.zero=some G) (M: ∀E:Env,R E z G) (I:D0 m=some U) (Q:D0 x=some X)
  (Z:HeapR w O ρ s.n s.h) (he:EvR (A8 w O ρ s.n s.h) s η) (l:C3 P (.look kd z F U X) s k):D8 P k w O ρ s.h s.n ((execOp η o).run P w):=by
 have I:=he.ev I
 have Q:=he.ev Q
 simp only [C3]at l
 generalize s.ev U=vm at*
 generalize s.ev X=A at*
 have K: ∀(r:Option V) (J:Option Value),(∀v,r=some v→ ∃u,J=some u∧R (A8 w O ρ s.n s.h) v u)→(r=none→J=none)→
   R (A8 w O ρ s.n s.h) (B2B z F r) (if F then .tuple #[J.getD G,.bool J.isSome]else J.getD G):=by
  intro r J h1 h2
  have D: ∀(a:V) (u:Value) (b:Bool),R (A8 w O ρ s.n s.h) a u→R (A8 w O ρ s.n s.h) (.tup [a,.bool b]) (.tuple #[u,.bool b]):=by
   intro a u b h
   refine .tup _ _ rfl fun i c v L f=> ?_
   match i with
   |0=>simp at L f;subst L;subst f;exact h
   |1=>simp at L f;subst L;subst f;exact .bool _
   |i+2=>simp at L
  cases r with
  |none=>
   rw [h2 rfl]
   cases F
   ·exact M _
   ·exact D _ _ _ (M _)
  |some v=>
   obtain⟨u,rfl,hu⟩:=h1 v rfl
   cases F
   ·exact hu
   ·exact D _ _ _ hu
 unfold A9l at l
 split at l
 ·obtain⟨y,l⟩:=l
  have e:=B0r (E:=A8 w O ρ s.n s.h) B y Q (es:= []) (ms:= #[]) rfl trivial zf w
  simp [A2z]at e
  have n:(execOp η o).run P w= .ok (.value (if F then .tuple #[G,.bool false]else G)) w:=by
   simp [execOp,ho,Instr.lookup,run_underlying ht,I.nilm_inv,A4L B,e,zeroValue,typeInfo,hi,hz]
  rw [n]
  exact D8.val Z l (K none none zf zf)
 ·rename_i b st
  split at l
  ·rename_i es hg
   obtain⟨y,T,l⟩:=l
   obtain⟨d,W,N,hl,hR,_⟩:=C3O Z hg
   have e:=B0r B y Q hl T (fun i p m g I=>(hR i p m g I).1) w
   have S:η m= .map (some (ρ st).blk):=I.mp_inv.2
   have n:(execOp η o).run P w= .ok (.value (if F then .tuple #[(((A2z A es).bind fun j=>(d[j]?).map fun m=>m.val)).getD G,.bool (((A2z A es).bind fun j=>(d[j]?).map fun m=>m.val)).isSome]else(((A2z A es).bind fun j=>(d[j]?).map fun m=>m.val)).getD G)) w:=by
    simp only [execOp,ho,Instr.lookup,Sem.run_bind,run_underlying ht,Result.andThen_ok,S,B1z N,A4L B,Sem.run_pure,e]
    cases g:(A2z A es).bind fun j=>(d[j]?).map fun m=>(j,m.val)with
    | none=>
     have H:(A2z A es).bind (fun j=>(d[j]?).map fun m=>m.val)=none:=by
      cases hq:A2z A es with
      |none=>rfl
      |some j=>rw [hq]at g;simp at g⊢;exact g
     simp [H,zeroValue,typeInfo,hi,hz]
    | some q=>
     have H:(A2z A es).bind (fun j=>(d[j]?).map fun m=>m.val)=some q.2:=by
      cases hq:A2z A es with
      |none=>rw [hq]at g;cases g
      |some j=>
       rw [hq]at g
       simp only [Option.bind_some,Option.map_eq_some_iff]at g⊢
       obtain⟨m0,Y,rfl⟩:=g
       exact⟨m0,Y,rfl⟩
     simp [H]
   rw [n]
   refine D8.val Z l (K _ _ (fun v f=> ?_) fun f=> ?_)
   ·rw [B3N]at f
    cases hq:A2z A es with
    |none=>rw [hq]at f;cases f
    |some j=>
     rw [hq]at f
     simp only [Option.bind_some,Option.map_eq_some_iff]at f
     obtain⟨p,g,rfl⟩:=f
     have C:j<d.size:=by have:=(List.getElem?_eq_some_iff.1 g).1;omega
     exact⟨d[j].val,by simp [C],(hR j p d[j] g (by simp [C])).2.1⟩
   ·rw [B3N]at f
    cases hq:A2z A es with
    |none=>rfl
    |some j=>
     rw [hq]at f
     have C:=B9Q _ _ _ hq
     simp [C]at f
  ·exact l.elim
 ·exact l.elim
theorem HeapR.mapSet{h:A2}{n:Nat}(o:HeapR w O ρ n h){b st:Nat}{es es':List (V×V)}{k mes':Array MapEntry}{c c':Nat}(v:A2.get h b st=some (.map es))(d:w.heap[(ρ st).blk]? =some (.map k c))
  (u:mes'.size=es'.length) (g: ∀(i:Nat) p m,es'[i]? =some p→mes'[i]? =some m→R (A8 w O ρ n h) p.1 m.key∧R (A8 w O ρ n h) p.2 m.val∧m.born<c')
  (f: ∀(i j:Nat) m m',mes'[i]? =some m→mes'[j]? =some m'→m.born=m'.born→i=j):
  HeapR {w with heap:=w.heap.setIfInBounds (ρ st).blk (.map mes' c')} O ρ n (A2.put h b st (.map es'))∧
   Ext (A8 w O ρ n h) (A8 {w with heap:=w.heap.setIfInBounds (ρ st).blk (.map mes' c')} O ρ n (A2.put h b st (.map es'))):=by
 have a:=A2.mem_of_get v
 have s:=(o.blk _ a).1
 have l:=(Array.getElem?_eq_some_iff.1 d).1
 refine HeapR.step o (Nat.le_refl _) (fun _ _=>rfl) (o.lt _ a) (Wd.setObj _ _ _) (fun y x r=> ?_) (.inr (.inr ⟨_,a,rfl,s,rfl⟩)) ?_
 ·simp only [Array.getElem?_setIfInBounds]
  rw [if_neg fun e=>s (r e.symm)]
 ·intro t
  exact⟨s,mes',c',by simp [l],u,fun i p m q d=>⟨(g i p m q d).1.mono t,(g i p m q d).2.1.mono t,(g i p m q d).2.2⟩,f⟩
theorem C2G{m x v:Operand}{m' x' v':Opd}{t kt et:TypeId}{kd:Nat}(ho:o.op= .mapUpdate t m x v∨o.op= .insert t m x v)(ht:P.underlying t=some (.map kt et))(F:C0z P kt kd)
  (Z:D0 m=some m') (U:D0 x=some x') (hv:D0 v=some v')
  (hr:HeapR w O ρ s.n s.h) (he:EvR (A8 w O ρ s.n s.h) s η) (y:C3 P (.mput kd m' x' v') s k):D8 P k w O ρ s.h s.n ((execOp η o).run P w):=by
 have Z:=he.ev Z
 have U:=he.ev U
 have hv:=he.ev hv
 simp only [C3]at y
 generalize s.ev m'=vm at*
 generalize s.ev x'=T at*
 generalize s.ev v'=vv at*
 unfold B2E at y
 split at y
 ·rename_i b st
  split at y
  ·rename_i z hg
   obtain⟨L,B,y⟩:=y
   obtain⟨f,c,l,hl,S,J⟩:=C3O hr hg
   have g:=B0r F L U hl B (fun i p m u Z=>(S i p m u Z).1) w
   have W:η m= .map (some (ρ st).blk):=Z.mp_inv.2
   have C: ∀w',(Instr.mapUpdate t (η m) (η x) (η v)).run P w= .ok () w'→(execOp η o).run P w= .ok .skip w':=by
    intro w' h
    rcases ho with ho|ho<;>simp [execOp,ho,h]
   rw [C1D]at y
   cases hq:A2z T z with
   | none=>
    rw [hq]at y g
    have A:(Instr.mapUpdate t (η m) (η x) (η v)).run P w= .ok () {w with heap:=w.heap.setIfInBounds (ρ st).blk (.map (f.push {key:=η x,val:=η v,born:=c}) (c+1))}:=by
     simp only [Option.bind_none]at g
     simp only [Instr.mapUpdate,Sem.run_bind,run_underlying ht,Result.andThen_ok,W,B1z l,A4L F,g,B7e _ l]
    rw [C _ A]
    obtain⟨a1,a2⟩:=hr.mapSet (es':=z++ [(T,vv)]) (mes':=f.push {key:=η x,val:=η v,born:=c}) (c':=c+1) hg l (by simp [hl])
     (fun i p I u a=>by
       rw [Array.getElem?_push]at a
       split at a
       ·rename_i hi
        injection a with a
        subst a
        rw [hi,hl]at u
        simp at u
        subst u
        exact⟨U,hv,Nat.lt_succ_self _⟩
       ·have Y:=(Array.getElem?_eq_some_iff.1 a).1
        rw [List.getElem?_append_left zd]at u
        obtain⟨E,X,h3⟩:=S i p I u a
        exact⟨E,X,by omega⟩)
     (fun i j I m1 H E K=>by
       have born: ∀(q:Nat) G,f[q]? =some G→G.born<c:=fun q G n=>by
        have Y:=(Array.getElem?_eq_some_iff.1 n).1
        exact(S q z[q] G (by simp [←hl,Y]) n).2.2
       rw [Array.getElem?_push]at H E
       split at H<;>split at E
       ·omega
       ·injection H with H;subst H
        have:=born j m1 E
        simp at K;omega
       ·injection E with E;subst E
        have:=born i I H
        simp at K;omega
       ·exact J i j I m1 H E K)
    exact⟨_,_,_,ρ,y,a1,.undef _,a2⟩
   | some i=>
    rw [hq]at y g
    have hi:=B9Q _ _ _ hq
    have him:i<f.size:=by omega
    have D:f[i]? =some f[i]:=by simp [him]
    have M:Instr.sameBits 10000 f[i].key (η x)=true:=by
     have: ∀(z:List (V×V)) (i:Nat),A2z T z=some i→A5X T z→ ∃p,z[i]? =some p∧A5W T p.1=some true:=by
      intro z
      induction z with
      |nil=>intro i h;simp [A2z]at h
      | cons e r ih=>
       intro i h B
       simp only [A2z]at h
       obtain⟨b,K⟩:=Option.isSome_iff_exists.1 B.1
       rw [K]at h
       cases b with
       |true=>simp at h;subst h;exact⟨e,rfl,K⟩
       |false=>
        simp only [Option.getD_some,cond_false,Option.map_eq_some_iff]at h
        obtain⟨j,hj,rfl⟩:=h
        obtain⟨p,u,N⟩:=ih j hj B.2
        exact⟨p,by simpa using u,N⟩
     obtain⟨p,u,N⟩:=this z i hq B
     obtain⟨d,_,hd⟩:=F.desc
     exact(B7b hd L N U (S i p f[i] u D).1).2 rfl
    have A:(Instr.mapUpdate t (η m) (η x) (η v)).run P w= .ok () {w with heap:=w.heap.setIfInBounds (ρ st).blk (.map (f.modify i fun e=>{e with key:=η x,val:=η v}) c)}:=by
     simp only [Option.bind_some,D,Option.map_some]at g
     simp only [Instr.mapUpdate,Sem.run_bind,run_underlying ht,Result.andThen_ok,W,B1z l,A4L F,g,D,Option.map_some,Option.getD_some,Instr.keyThatStays,M,if_true,Sem.run_pure,B7e _ l]
    rw [C _ A]
    obtain⟨a1,a2⟩:=hr.mapSet (es':=z.set i (T,vv)) (mes':=f.modify i fun e=>{e with key:=η x,val:=η v}) (c':=c) hg l (by simp [hl])
     (fun i' p I u a=>by
       rw [Array.getElem?_modify]at a
       by_cases Q:i=i'
       ·subst Q
        rw [if_pos rfl,D]at a
        simp at a
        subst a
        simp [hi]at u
        subst u
        exact⟨U,hv,(S i z[i] f[i] (by simp [hi]) D).2.2⟩
       ·rw [if_neg Q]at a
        rw [List.getElem?_set_ne Q]at u
        exact S i' p I u a)
     (fun i' j I m1 H E K=>by
       have old: ∀(q:Nat) G,(f.modify i fun e=>{e with key:=η x,val:=η v})[q]? =some G→ ∃R,f[q]? =some R∧R.born=G.born:=by
        intro q G n
        rw [Array.getElem?_modify]at n
        split at n
        ·simp only [Option.map_eq_some_iff]at n
         obtain⟨R,X,rfl⟩:=n
         exact⟨R,X,rfl⟩
        ·exact⟨G,n,rfl⟩
       obtain⟨R,X,e2⟩:=old i' I H
       obtain⟨m3,h3,e3⟩:=old j m1 E
       exact J i' j R m3 X h3 (by rw [e2,e3,K]))
    exact⟨_,_,_,ρ,y,a1,.undef _,a2⟩
  ·exact y.elim
 ·exact y.elim
end
end Go.Abs
namespace Go.Abs
section
variable {P:Program} {k:Res} {w:World} {O:Nat→Prop} {ρ:Nat→Loc} {s:St} {η:Operand→Value} {o:Oper}
theorem C9W{h:A2}{n:Nat}{x:V}{v:Value}{rs:List (List V)}(y:R (A8 w O ρ n h) x v)(d:A5P h x=some rs)(k:Nat)(E:k≤rs.length):
  ∃D B,R (A8 w O ρ n h) D B∧A5P h D=some (rs.take k)∧ ∀(P:Program) (w':World) (sz:Nat),(Builtin.firstCells sz k B).run P w'=(Builtin.firstCells sz k v).run P w':=by
 unfold A5P at d
 split at d
 ·rename_i b
  injection d with d
  subst d
  rw [y.str_inv]
  refine⟨.str (b.take k),_,.str _,by simp [A5P,A1w,List.map_take],fun P w' sz=> ?_⟩
  simp only [Builtin.firstCells,Sem.run_pure]
  congr 1
  apply Array.ext'
  simp [List.take_take]
 ·rename_i o
  clear o
  unfold A4e at d
  split at d
  ·injection d with d
   subst d
   exact⟨.nils,_,y,by simp [A5P,A4e],fun _ _ _=>rfl⟩
  ·injection d with d
   subst d
   rename_i rs
   cases y with
   | isl _ p g sz f F C s q J=>
    refine⟨.isl (rs.take k),.slice (some p) (rs.take k).length g,.isl (rs.take k) p g sz f F zl (fun i r e=> ?_) (fun i r j c e=> ?_) (fun i r j c e=> ?_),rfl,fun _ _ _=>rfl⟩
    ·rw [List.getElem?_take]at e;split at e
     ·exact s i r e
     ·cases e
    ·rw [List.getElem?_take]at e;split at e
     ·exact q i r j c e
     ·cases e
    ·rw [List.getElem?_take]at e;split at e
     ·exact J i r j c e
     ·cases e
   |isl0 a g=>exact⟨.isl [],_,.isl0 a g,by simp [A5P,A4e],fun _ _ _=>rfl⟩
  ·rename_i b t i m
   split at d
   ·rename_i sz u L
    cases hb:Nat.ble (i+m) u.length with
    |false=>rw [hb]at d;cases d
    | true=>
     rw [hb,cond_true]at d
     injection d with d
     subst d
     have I:=Nat.le_of_ble_eq_true hb
     have A:k≤m:=by simp at E;omega
     have l:A5P h (.sl b t i k)=some (((u.drop i).take m).take k):=by
      simp only [A5P,A4e,L]
      rw [Nat.ble_eq_true_of_le zd,cond_true,List.take_take,Nat.min_eq_left A]
     cases y with
     |sl _ _ _ _ g z M H=>exact⟨.sl b t i k,_,.sl b t i k g z zd H,l,fun _ _ _=>rfl⟩
     |sl0 _ _ _ a=>
      have:k=0:=by omega
      subst this
      exact⟨.sl b t i 0,_,.sl0 b t i a,l,fun _ _ _=>rfl⟩
   ·rename_i K
    cases hb:Nat.beq m 0 with
    |false=>rw [hb]at d;cases d
    |true=>
     rw [hb,cond_true]at d
     injection d with d
     subst d
     have:k=0:=by simpa using E
     subst this
     have G:=Nat.eq_of_beq_eq_true hb
     subst G
     refine⟨_,_,y,?_,fun _ _ _=>rfl⟩
     simp only [A5P,A4e]
     rfl
  ·cases d
theorem C4X{n:Nat}{h:A2}(C:HeapR w O ρ n h){b st i sz:Nat}{rs f:List (List V)}{a:List Value}(hg:A2.get h b st=some (.rows sz rs))
  (hle:i+f.length≤rs.length) (A:C4 f sz) (hn:RL (A8 w O ρ n h) f.flatten a.toArray) (W: ∀(q:Nat) u,a[q]? =some u→u.oneCell'=true) (hpos:0<f.length):
  (∀j,j<a.length→(w.cell? ⟨(ρ st).blk,(ρ st).off+i*sz+j,none⟩).isSome=true)∧(∀j,j<a.length→w.frozen? ⟨(ρ st).blk,(ρ st).off+i*sz+j,none⟩=false)∧
   HeapR (w.setCells (ρ st).blk ((ρ st).off+i*sz) a) O ρ n (A2.put h b st (.rows sz (rs.take i++f++rs.drop (i+f.length))))∧
   Ext (A8 w O ρ n h) (A8 (w.setCells (ρ st).blk ((ρ st).off+i*sz) a) O ρ n (A2.put h b st (.rows sz (rs.take i++f++rs.drop (i+f.length))))):=by
 have S:=A2.mem_of_get hg
 obtain⟨I,L,d,k⟩:=C.blk _ S
 simp only at I L d k
 have B:(ρ st).cap≠0:=by omega
 obtain⟨d,F⟩:=d B
 have l2:a.length=f.length*sz:=by rw [←M6 A];simpa using hn.1.symm
 have J: ∀q,q<a.length→i*sz+q<(ρ st).cap*sz:=by
  intro q Z
  have E:(i+f.length)*sz≤(ρ st).cap*sz:=Nat.mul_le_mul_right _ zd
  rw [Nat.add_mul]at E
  omega
 have o: ∀j,j<a.length→(w.cell? ⟨(ρ st).blk,(ρ st).off+i*sz+j,none⟩).isSome=true:=fun j t=>by
  have:=(d _ (J j t)).1
  rwa [show (ρ st).off+(i*sz+j)=(ρ st).off+i*sz+j from by omega]at this
 refine⟨o,fun j t=> ?_,?_⟩
 ·have:=(d _ (J j t)).2
  rwa [show (ρ st).off+(i*sz+j)=(ρ st).off+i*sz+j from by omega]at this
 ·have p:C4 rs sz:=B3 fun i g l=>(k i g l).1
  refine HeapR.step C (Nat.le_refl _) (fun _ _=>rfl) (C.lt _ S) (Wd.setCells _ _ _ _)
   (fun y hy X=>W7 _ _ _ _ _ fun e=>B (X e)) (.inr (.inr ⟨_,S,rfl,B,rfl⟩)) ?_
  intro hx
  have D:C4 (rs.take i++f++rs.drop (i+f.length)) sz:=fun r C=>by
   simp only [List.mem_append]at C
   rcases C with(h|h)|h
   ·exact p r (List.mem_of_mem_take h)
   ·exact A r h
   ·exact p r (List.mem_of_mem_drop h)
  have H:(rs.take i).length=i:=by simp;omega
  have z:A4S (A8 (w.setCells (ρ st).blk ((ρ st).off+i*sz) a) O ρ n (A2.put h b st (.rows sz (rs.take i++f++rs.drop (i+f.length))))) (ρ st).blk ((ρ st).off+i*sz) f.flatten:=by
   intro q c Z
   obtain⟨x,K,a2,a3⟩:=hn.get_one W q c Z
   have s:q<a.length:=(List.getElem?_eq_some_iff.1 K).1
   refine⟨x,?_,a2,a3.mono hx⟩
   have M:=World.cell?_setCells_in (ρ st).blk a ((ρ st).off+i*sz) w o q s
   rw [List.getElem?_eq_getElem s]at K
   injection K with K
   rw [←K]
   exact M
  refine⟨I,by simp;omega,fun _=>⟨fun j t=> ?_,by rw [A3N];exact F⟩,fun m g l=>⟨A1O D m g l,?_⟩⟩
  ·rw [A1v,World.frozen?_setCells]
   exact d j t
  ·have G:rs[m]? =some g→(m<i∨i+f.length≤m)→A4S (A8 (w.setCells (ρ st).blk ((ρ st).off+i*sz) a) O ρ n (A2.put h b st (.rows sz (rs.take i++f++rs.drop (i+f.length))))) (ρ st).blk ((ρ st).off+m*sz) g:=by
    intro N T
    obtain⟨hl',U⟩:=k m g N
    intro j' c t
    obtain⟨x,Y,R,P⟩:=U j' c t
    refine⟨x,?_,R,P.mono hx⟩
    simp only
    rw [World.cell?_setCells_out]
    ·exact Y
    ·intro _ _
     have hj':j'<sz:=by have:=(List.getElem?_eq_some_iff.1 t).1;omega
     rcases T with E|E
     ·left
      have:(m+1)*sz≤i*sz:=Nat.mul_le_mul_right _ E
      rw [Nat.add_mul,Nat.one_mul]at this
      simp only;omega
     ·right
      have:(i+f.length)*sz≤m*sz:=Nat.mul_le_mul_right _ E
      rw [Nat.add_mul]at this
      simp only;omega
   rw [List.append_assoc,List.getElem?_append]at l
   split at l
   ·rename_i v
    rw [H]at v
    rw [List.getElem?_take,if_pos v]at l
    exact G l (.inl v)
   ·rename_i Q
    rw [H]at Q l
    rw [List.getElem?_append]at l
    split at l
    ·have:=B8o A z (m-i) g l
     rw [Nat.add_assoc,←Nat.add_mul,show i+(m-i)=m from by omega]at this
     exact this
    ·rename_i hge2
     rw [List.getElem?_drop,show i+f.length+(m-i-f.length)=m from by omega]at l
     exact G l (.inr zd)
theorem B6X{t u e:TypeId}{ty:TypeId}{i:TypeInfo}(o:P.underlying t=some (.slice e))(j:P.info? e=some i)
  (base:Option Addr) (d b m:Nat) (x:Value) (n:List Value) (h: ∀w',(Builtin.lenOf x).run P w'= .ok m w')
  (c: ∀w',(∀a,w'.cell? a=w.cell? a)→(Builtin.firstCells i.size (Nat.min m d) x).run P w'= .ok n.toArray w') {w':World}
  (f: ∀a,base=some a→(storeCells a n).run P w= .ok () w') (g:base=none→w'=w):
  (Builtin.copy_ #[t,u] ty #[.slice base d b,x]).run P w= .ok (goInt (Nat.min m d:Nat)) w':=by
 have l:=c w fun _=>rfl
 have k:=h w
 cases base with
 |none=>have:=g rfl;subst this;simp [Builtin.copy_,run_underlying o,sizeOf,typeInfo,j,k,l]
 |some a=>have:=f a rfl;simp [Builtin.copy_,run_underlying o,sizeOf,typeInfo,j,k,l,this]
theorem C9M {x y : Operand} {x' y':Opd}{t u e:TypeId}{ti:TypeInfo}(ho:o.op= .call {callee:= .builtin .copy,args:= #[x,y],argTypes:= #[t,u]})
  (ht:P.underlying t=some (.slice e)) (hi:P.info? e=some ti)
  (hx:D0 x=some x') (hy:D0 y=some y')
  (hr:HeapR w O ρ s.n s.h) (he:EvR (A8 w O ρ s.n s.h) s η) (hk:C3 P (.copy ti.size x' y') s k):D8 P k w O ρ s.h s.n ((execOp η o).run P w):=by
 have hx:=he.ev hx
 have hy:=he.ev hy
 simp only [C3]at hk
 generalize s.ev x'=vx at*
 generalize s.ev y'=vy at*
 have run: ∀v w',(Builtin.copy_ #[t,u] o.type #[η x,η y]).run P w= .ok v w'→(execOp η o).run P w= .ok (.value v) w':=by
  exact YC
 unfold A9g at hk
 split at hk
 ·exact hk.elim
 ·rename_i xs hsrc
  obtain⟨hxs,hk⟩:=hk
  have len: ∀(w':World),(Builtin.lenOf (η y)).run P w'= .ok xs.length w':=by
   obtain⟨_,_,_,_,n4,_⟩:=B4b hr hy hsrc hxs
   exact n4 P
  have part: ∀kk,kk≤xs.length→ ∃news:List Value,RL (A8 w O ρ s.n s.h) (xs.take kk).flatten news.toArray∧(∀(q:Nat) u,news[q]? =some u→u.oneCell'=true)∧
    ∀(w':World),(∀a,w'.cell? a=w.cell? a)→(Builtin.firstCells ti.size kk (η y)).run P w'= .ok news.toArray w':=by
   intro kk hkk
   obtain⟨y1,v1,b1,b2,b3⟩:=C9W hy hsrc kk hkk
   have hxs':C4 (xs.take kk) ti.size:=fun r hr=>hxs r (List.mem_of_mem_take hr)
   obtain⟨news,n1,n2,n3,n4,n5⟩:=B4b hr b1 b2 hxs'
   refine⟨news,n2,n3,fun w' hw=> ?_⟩
   have:=n5 P w' hw
   rw [List.length_take,Nat.min_eq_left hkk]at this
   rw [←b3];exact this
  split at hk
  ·have hv:=hx.nils_inv
   obtain⟨news,n2,n3,n5⟩:=part 0 (Nat.zero_le _)
   have hrun:=B6X (w:=w) (w':=w) (u:=u) (ty:=o.type) ht hi none 0 0 xs.length (η y) news len (by simpa using n5) (fun a h=>by cases h) (fun _=>rfl)
   rw [run _ _ (by rw [hv];exact hrun)]
   exact⟨_,_,_,ρ,hk,hr,by rw [show xs.length.min 0=0 from Nat.min_zero _];exact R.int _ _,Ext.refl _⟩
  ·rename_i b st i m
   split at hk
   ·rename_i sz' rs hg
    obtain⟨rfl,hle,hk⟩:=hk
    obtain⟨news,n2,n3,n5⟩:=part (min xs.length m) (Nat.min_le_left _ _)
    have hns:C4 (xs.take (min xs.length m)) ti.size:=fun r hr=>hxs r (List.mem_of_mem_take hr)
    have hnl:(xs.take (min xs.length m)).length=min xs.length m:=by simp
    have hres:R (A8 w O ρ s.n s.h) (.int .i64 (min xs.length m:Nat)) (goInt (Nat.min xs.length m:Nat)):=R.int _ _
    have hsz:(ρ st).sz=ti.size:=(hr.blk _ (A2.mem_of_get hg)).1
    by_cases hz:min xs.length m=0
    ·rw [hz]at n2 n5 hk
     have hn0:news= []:=by
      have:=n2.1
      simp at this
      exact List.eq_nil_of_length_eq_zero this.symm
     subst hn0
     have hvv: ∃a cap,η x= .slice a m cap:=by
      generalize η x=vv at hx
      cases hx with
      |sl _ _ _ _ cap hst hn hc=>exact⟨_,_,rfl⟩
      |sl0 _ _ _ a=>exact⟨_,_,rfl⟩
     obtain⟨a,cap,hv⟩:=hvv
     have hmn:Nat.min xs.length m=0:=hz
     have hrun:=B6X (w:=w) (w':=w) (u:=u) (ty:=o.type) ht hi a m cap xs.length (η y) [] len (by rw [hmn];exact n5) (by intro a _;rfl) (fun _=>rfl)
     rw [run _ _ (by rw [hv];exact hrun)]
     rw [hmn]
     have hrs:rs.take i++xs.take 0++rs.drop (i+0)=rs:=by simp
     rw [hrs]at hk
     have hst:st<s.n:=hr.lt _ (A2.mem_of_get hg)
     obtain⟨a2,a3⟩:=HeapR.step (w':=w) (ρ':=ρ) (n':=s.n) (b:=b) (st:=st) (x:= .rows ti.size rs) hr (Nat.le_refl _) (fun st hst=>rfl) hst (Wd.refl _)
      (fun _ _ _ => rfl) (by by_cases hc:(ρ st).cap=0
                             ·exact .inl hc
                             ·exact .inr (.inr ⟨_,A2.mem_of_get hg,rfl,hc,rfl⟩)) (fun hx=>A6R.mono hx hst (fun _=>rfl) (hr.blk _ (A2.mem_of_get hg)))
     exact⟨_,_,_,ρ,hk,a2,R.int _ _,a3⟩
    ·have hm0:0<min xs.length m:=Nat.pos_of_ne_zero hz
     obtain⟨a1,a2,a4,a5⟩:=C4X (i:=i) hr hg (by rw [hnl];omega) hns n2 n3 zd
     rw [hnl]at a4 a5
     generalize hvx:η x=vv at hx
     cases hx with
     | sl _ _ _ _ cap hst hn hc=>
      have hstore:=run_storeCells_cells (P:=P) (ρ st).blk ((ρ st).off+i*ti.size) news 0 w (by simpa using a1) (by simpa using a2) (fun u hu=>by
       obtain⟨i,hi,rfl⟩:=List.getElem_of_mem hu
       exact n3 i _ (by simp [hi]))
      have hrun:=B6X (w:=w) (w':=w.setCells (ρ st).blk ((ρ st).off+i*ti.size) news) (u:=u) (ty:=o.type) ht hi (some ⟨(ρ st).blk,(ρ st).off+i*ti.size,none⟩) m cap xs.length (η y) news len n5
       (by intro a ha;injection ha with ha;subst ha;simpa using hstore) (by intro h;cases h)
      rw [run _ _ (by rw [hvx,hsz];exact hrun)]
      exact⟨_,_,_,ρ,hk,a4,R.int _ _,a5⟩
     |sl0 _ _ _ a=>omega
   ·exact hk.elim
  ·exact hk.elim
theorem B1j(z:Array Value)(m:Nat)(q:Nat):(Builtin.zeroCells z m).toList[q]? =if q<m*z.size then some (z[q%z.size]!)else none:=by
 unfold Builtin.zeroCells
 rw [Array.getElem?_toList,Array.getElem?_map]
 by_cases h:q<m*z.size
 ·rw [if_pos h,Array.getElem?_range,if_pos h];rfl
 ·rw [if_neg h,Array.getElem?_range,if_neg h];rfl
theorem D1u{x:Operand}{x':Opd}{t e:TypeId}{ti:TypeInfo}{zv:Value}{zs:List V}(ho:o.op= .call {callee:= .builtin .clear,args:= #[x],argTypes:= #[t]})
  (ht:P.underlying t=some (.slice e)) (hi:P.info? e=some ti) (hz:ti.zero=some zv) (hzs: ∀E:Env,RL E zs zv.cells) (h1: ∀(i:Nat) v,zv.cells[i]? =some v→v.oneCell'=true) (hx:D0 x=some x')
  (hr:HeapR w O ρ s.n s.h) (he:EvR (A8 w O ρ s.n s.h) s η) (hk:C3 P (.clr zs x') s k):D8 P k w O ρ s.h s.n ((execOp η o).run P w):=by
 have hx:=he.ev hx
 simp only [C3]at hk
 generalize s.ev x'=vx at*
 have run: ∀v w',(Builtin.clear_ #[t] o.type #[η x]).run P w= .ok v w'→(execOp η o).run P w= .ok (.value v) w':=by
  exact YC
 have nothing: ∀a cap,η x= .slice a 0 cap→(execOp η o).run P w= .ok (.value (.tuple #[])) w:=by
  intro a cap hv
  refine run _ _ ?_
  rw [hv]
  cases a<;>simp [Builtin.clear_,run_underlying ht]
 unfold B4U at hk
 split at hk
 ·rw [nothing none 0 hx.nils_inv]
  exact D8.val hr hk (.tup _ _ rfl zf)
 ·rename_i b st i m
  split at hk
  ·rename_i sz rs hg
   obtain⟨hsz0,hle,hk⟩:=hk
   have hsz:(ρ st).sz=sz:=(hr.blk _ (A2.mem_of_get hg)).1
   generalize hvx:η x=vv at hx
   by_cases hm:m=0
   ·subst hm
    have hvv: ∃a cap,η x= .slice a 0 cap:=by
     rw [hvx]
     cases hx with
     |sl _ _ _ _ cap hst hn hc=>exact⟨_,_,rfl⟩
     |sl0 _ _ _ a=>exact⟨_,_,rfl⟩
    obtain⟨a,cap,hv⟩:=hvv
    rw [nothing a cap hv]
    have hrs:rs.take i++List.replicate 0 zs++rs.drop (i+0)=rs:=by simp
    rw [hrs]at hk
    have hst:st<s.n:=hr.lt _ (A2.mem_of_get hg)
    obtain⟨a2,a3⟩:=HeapR.step (w':=w) (ρ':=ρ) (n':=s.n) (b:=b) (st:=st) (x:= .rows sz rs) hr (Nat.le_refl _) (fun st hst=>rfl) hst (Wd.refl _)
     (fun _ _ _ => rfl) (by by_cases hc:(ρ st).cap=0
                            ·exact .inl hc
                            ·exact .inr (.inr ⟨_,A2.mem_of_get hg,rfl,hc,rfl⟩)) (fun hx=>A6R.mono hx hst (fun _=>rfl) (hr.blk _ (A2.mem_of_get hg)))
    exact⟨_,_,_,ρ,hk,a2,.tup _ _ rfl zf,a3⟩
   ·have hzl:zs.length=zv.cells.size:=(hzs (A6t w O)).1
    have hns:C4 (List.replicate m zs) sz:=fun r hr=>by rw [(List.mem_replicate.1 hr).2,hsz0]
    have hget: ∀q,q<m*sz→ ∃j,j<sz∧q%zv.cells.size=j∧(List.replicate m zs).flatten[q]? =zs[j]? :=by
     intro q hq
     have hpos:0<sz:=Nat.pos_of_ne_zero fun h=>by rw [h]at hq;omega
     refine⟨q%sz,Nat.mod_lt _ hpos,by rw [←hzl,hsz0],?_⟩
     have e:=Nat.div_add_mod q sz
     rw [Nat.mul_comm]at e
     conv=>lhs;rw [←e]
     rw [A9Z hns _ _ (Nat.mod_lt _ hpos)]
     have:q/sz<m:=by rw [Nat.div_lt_iff_lt_mul hpos];exact hq
     simp [this]
    have hn:RL (A8 w O ρ s.n s.h) (List.replicate m zs).flatten (Builtin.zeroCells zv.cells m).toList.toArray:=by
     have hl:(List.replicate m zs).flatten.length=m*sz:=by rw [M6 hns];simp
     refine⟨by rw [hl];simp [Builtin.zeroCells,←hzl,hsz0],fun q c v hc hv=> ?_⟩
     have hq:q<m*sz:=by rw [←hl];exact(List.getElem?_eq_some_iff.1 hc).1
     obtain⟨j,hj,hqj,hfl⟩:=hget q hq
     rw [hfl]at hc
     have hv':(Builtin.zeroCells zv.cells m).toList[q]? =some v:=by simpa using hv
     rw [B1j,if_pos (by rw [←hzl,←hsz0];exact hq),hqj]at hv'
     injection hv' with hv'
     have hjl:j<zv.cells.size:=by rw [←hzl,←hsz0];exact hj
     have hzj:zv.cells[j]? =some v:=by rw [←hv'];simp [hjl]
     exact(hzs _).2 j c v hc hzj
    have hn1: ∀(q:Nat) u,(Builtin.zeroCells zv.cells m).toList[q]? =some u→u.oneCell'=true:=by
     intro q u hu
     rw [B1j]at hu
     split at hu
     ·rename_i hq
      injection hu with hu
      have hpos:0<zv.cells.size:=Nat.pos_of_ne_zero fun h=>by rw [h]at hq;omega
      have hjl:=Nat.mod_lt q hpos
      exact h1 (q%zv.cells.size) u (by rw [←hu];simp [hjl])
     ·cases hu
    have hrl:(List.replicate m zs).length=m:=by simp
    obtain⟨a1,a2,a4,a5⟩:=C4X (i:=i) hr hg (by rw [hrl];exact hle) hns hn hn1 (by rw [hrl];omega)
    rw [hrl]at a4 a5
    cases hx with
    | sl _ _ _ _ cap hst hn' hc=>
     have hstore:=run_storeCells_cells (P:=P) (ρ st).blk ((ρ st).off+i*sz) (Builtin.zeroCells zv.cells m).toList 0 w (by simpa using a1) (by simpa using a2) (fun u hu=>by
      obtain⟨q,hq,rfl⟩:=List.getElem_of_mem hu
      exact hn1 q _ (List.getElem?_eq_getElem hq))
     have hrun:(Builtin.clear_ #[t] o.type #[η x]).run P w= .ok (.tuple #[]) (w.setCells (ρ st).blk ((ρ st).off+i*sz) (Builtin.zeroCells zv.cells m).toList):=by
      rw [hvx,hsz]
      cases m with
      |zero=>exact(hm rfl).elim
      |succ m=>simp [Builtin.clear_,run_underlying ht,zeroValue,typeInfo,hi,hz,hstore]
     rw [run _ _ hrun]
     exact⟨_,_,_,ρ,hk,a4,.tup _ _ rfl zf,a5⟩
    |sl0 _ _ _ a=>omega
  ·exact hk.elim
 ·exact hk.elim
end
end Go.Abs
