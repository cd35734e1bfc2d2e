/-
 Functions are equal where all within them are, one by one (no program in sight). No condition.
-/
import Derived.Test.YtcjgeliglgcflaaGreatDoorFnQ2
set_option linter.unusedVariables false
set_option linter.unusedSimpArgs false
namespace Go.Proofs.YtcjgeliglgcflaaGreatDoor
open Go.Abs
structure OneP(a b:Fn):Prop where
 name:a.name=b.name
 line:a.line=b.line
 params:a.params=b.params
 vararg:a.vararg=b.vararg
 regs:a.regs=b.regs
 code:a.code=b.code
 lines:a.lines=b.lines
 consts:a.consts=b.consts
 protos:a.protos.length=b.protos.length
 ups:a.ups=b.ups
 vars:a.vars=b.vars
noncomputable def C1Q (a b:Fn):Bool:=by
 classical exact decide (OneP a b)
theorem B6d{p q:Fn}(h:OneP p q):C1Q p q=true:=by simp [C1Q,h]
theorem K6{p q:Fn}(h: ¬OneP p q):C1Q p q=false:=by simp [C1Q,h]
theorem OneP.refl(p:Fn):OneP p p:=⟨rfl,rfl,rfl,rfl,rfl,rfl,rfl,rfl,rfl,rfl,rfl⟩
theorem B3q: ∀(n:Nat) (L M:List Fn),(Fn.eachs L).length≤n→L.length=M.length→(Fn.eachs L).length=(Fn.eachs M).length→
  (∀(i:Nat) a b,(Fn.eachs L)[i]? =some a→(Fn.eachs M)[i]? =some b→OneP a b)→L=M
 |_,[],M,_,hl,_,_=>by
  have:M= []:=List.eq_nil_of_length_eq_zero hl.symm
  rw [this]
 |0,p::r,_,hn,_,_,_=>by
  have:=Fn.each_pos p
  rw [Fn.eachs,List.length_append]at hn
  omega
 |n+1,p::r,[],_,hl,_,_=>by simp at hl
 |n+1,p::r,q::s,hn,hl,hlen,hone=>by
  have e1:Fn.eachs (p::r)=p::Fn.eachs (p.protos++r):=by rw [Fn.eachs,Fn.each_eq,Fn.eachs_append];rfl
  have e2:Fn.eachs (q::s)=q::Fn.eachs (q.protos++s):=by rw [Fn.eachs,Fn.each_eq,Fn.eachs_append];rfl
  rw [e1]at hn hlen hone
  rw [e2]at hlen hone
  have h0:=hone 0 p q rfl rfl
  have key:=B3q n (p.protos++r) (q.protos++s) (by simpa using hn) (by simp at hl;simp [h0.protos,hl]) (by simpa using hlen) fun i a b ha hb=>hone (i+1) a b (by simpa using ha) (by simpa using hb)
  have h1:=List.append_inj key h0.protos
  rw [Fn.ext' h0.name h0.line h0.params h0.vararg h0.regs h0.code h0.lines h0.consts h1.1 h0.ups h0.vars,h1.2]
theorem B6v(p q:Fn):p=q↔p.each.length=q.each.length∧ ∀(i:Nat) a b,p.each[i]? =some a→q.each[i]? =some b→OneP a b:=by
 constructor
 ·rintro rfl
  exact⟨rfl,fun i a b ha hb=>by rw [ha]at hb;cases hb;exact .refl a⟩
 ·rintro⟨h1,h2⟩
  have:=B3q _ [p] [q] (Nat.le_refl _) rfl (by rw [Fn.eachs_one,Fn.eachs_one];exact h1) (by rw [Fn.eachs_one,Fn.eachs_one];exact h2)
  exact List.head_eq_of_cons_eq this
end Go.Proofs.YtcjgeliglgcflaaGreatDoor
