/-
 The reference's Valid. No condition.
-/
import Derived.Test.YtcaaenddpjepiaaGreatDoorFnQ2
import Derived.Test.YtcaaenddpjepiaaGreatDoorFlowR
set_option linter.unusedVariables false
set_option linter.unusedSimpArgs false
set_option maxRecDepth 100000
set_option maxHeartbeats 0
namespace Go.Proofs.YtcaaenddpjepiaaGreatDoor
section
open Go.Abs
structure OneP(a b:Fn):Prop where
 name:a.name=b.name
 line:a.line=b.line
 params:a.params=b.params
 vararg:a.vararg=b.vararg
 regs:a.regs=b.regs
 code:a.code=b.code
 lines:a.lines=b.lines
 consts:a.consts=b.consts
 protos:a.protos.length=b.protos.length
 ups:a.ups=b.ups
 vars:a.vars=b.vars
noncomputable def C9l (a b:Fn):Bool:=by
 classical exact decide (OneP a b)
theorem C1M{p q:Fn}(h:OneP p q):C9l p q=true:=by simp [C9l,h]
theorem U7{p q:Fn}(h: ¬OneP p q):C9l p q=false:=by simp [C9l,h]
theorem OneP.refl(p:Fn):OneP p p:=⟨rfl,rfl,rfl,rfl,rfl,rfl,rfl,rfl,rfl,rfl,rfl⟩
theorem B8d: ∀(n:Nat) (L M:List Fn),(Fn.eachs L).length≤n→L.length=M.length→(Fn.eachs L).length=(Fn.eachs M).length→
  (∀(i:Nat) a b,(Fn.eachs L)[i]? =some a→(Fn.eachs M)[i]? =some b→OneP a b)→L=M
 |_,[],M,_,hl,_,_=>by
  have:M= []:=List.eq_nil_of_length_eq_zero hl.symm
  rw [this]
 |0,p::r,_,hn,_,_,_=>by
  have:=Fn.each_pos p
  rw [Fn.eachs,List.length_append]at hn
  omega
 |n+1,p::r,[],_,hl,_,_=>by simp at hl
 |n+1,p::r,q::s,hn,hl,hlen,hone=>by
  have d:Fn.eachs (p::r)=p::Fn.eachs (p.protos++r):=by rw [Fn.eachs,Fn.each_eq,Fn.eachs_append];rfl
  have e:Fn.eachs (q::s)=q::Fn.eachs (q.protos++s):=by rw [Fn.eachs,Fn.each_eq,Fn.eachs_append];rfl
  rw [d]at hn hlen hone
  rw [e]at hlen hone
  have h:=hone 0 p q rfl rfl
  have k:=B8d n (p.protos++r) (q.protos++s) (by simpa using hn) (by simp at hl;simp [h.protos,hl]) (by simpa using hlen) fun i a b f g=>hone (i+1) a b (by simpa using f) Qe
  have c:=List.append_inj k h.protos
  rw [Fn.ext' h.name h.line h.params h.vararg h.regs h.code h.lines h.consts c.1 h.ups h.vars,c.2]
theorem C2y(p q:Fn):p=q↔p.each.length=q.each.length∧ ∀(i:Nat) a b,p.each[i]? =some a→q.each[i]? =some b→OneP a b:=by
 constructor
 ·rintro rfl
  exact⟨rfl,fun i a b c h=>by rw [c]at h;cases h;exact .refl a⟩
 ·rintro⟨d,e⟩
  have:=B8d _ [p] [q] (Nat.le_refl _) rfl (by rw [Fn.eachs_one,Fn.eachs_one];exact d) (by rw [Fn.eachs_one,Fn.eachs_one];exact e)
  exact List.head_eq_of_cons_eq this
end
section
open Go.Abs
attribute [local irreducible] A0 Run
abbrev kpN(k:Nat):Nat:=49*10000+k
-- EV: kpN, Upv.row, Vr.row, Ins.row
attribute [local go_sem] kpN Upv.row Vr.row Ins.row
def C5q(r:Int)(i:Ins):Bool:=decide (i.op=26∧i.a≤r∧r≤i.a+2)
def B6P(p:Fn)(r:Int):Bool:=p.vars.any (fun v=>decide (v.reg=r))||p.code.any (C5q r)
theorem C4c(p:Fn)(Z:p.vars.length≤4398046510976)(hc:p.code.length≤4398046510976)(r:Int)(K:r≤1000000)(W: ∀i∈p.code,i.op=26→0≤i.a):Pure Tryz.prog 49 [.agg p.row,.int .i64 r] (.bool (B6P p r)):=by
 have m:(p.vars.map Vr.row).length=p.vars.length:=List.length_map ..
 have H:C4 (p.vars.map Vr.row) 5=True:=eq_true fun r K=>by obtain⟨y,_,rfl⟩:=List.mem_map.1 K;rfl
 have P: ∀(k:Nat) x,p.vars[k]? =some x→(p.vars.map Vr.row)[k]? =some x.row:=fun k x h=>by rw [List.getElem?_map,h];rfl
 have b:(p.code.map Ins.row).length=p.code.length:=List.length_map ..
 have l:C4 (p.code.map Ins.row) 5=True:=eq_true fun r K=>by obtain⟨y,_,rfl⟩:=List.mem_map.1 K;rfl
 have M: ∀(k:Nat) x,p.code[k]? =some x→(p.code.map Ins.row)[k]? =some x.row:=fun k x h=>by rw [List.getElem?_map,h];rfl
 rw [Fn.row_eq]
 unfold B6P
 generalize w:(p.vars.any (fun v=>decide (v.reg=r))||p.code.any (C5q r))=v
 generalize p.vars.map Vr.row=T at*
 generalize p.code.map Ins.row=S at*
 refine Pure.of 0 (A0.enter A3a Jk (Run.go 100 ?_))
 simp -implicitDefEqProofs only [go_sem,A4,m]
 generalize n: [V.str p.name,_,_,_,_,.isl S,_,_,_,_,.isl T]=g
 have z:g[10]? =some (.isl T):=by rw [←n];rfl
 have D:g[5]? =some (.isl S):=by rw [←n];rfl
 have a:g.length=11:=by rw [←n];rfl
 clear n
 refine Run.rounds (fun(x:Nat)=>⟨[(5,.int .i64 x),(2,.ptr (kpN 2) 0 0 0),(1,.int .i64 r)],[(kpN 2,0,.rows 11 [g])],1⟩) (fun x=>x≤p.vars.length∧((p.vars.take x).any fun v=>decide (v.reg=r))=false) (fun x=>p.vars.length-x) 0 ze ⟨Nat.zero_le _,rfl⟩ ?_
 rintro k ⟨hk,G⟩ Y
 refine Run.unf A0L (Run.go 100 ?_)
 by_cases c:(k:Int)<p.vars.length
 ·obtain⟨q,N⟩: ∃q,p.vars[k]? =some q:=⟨p.vars[k]' zd,by simp⟩
  have F:=P k q N
  have R:((0:Int)≤(k:Int))=True:=Ji
  have U:(k<p.vars.length)=True:=Ji
  have O:((k+1:Nat):Int)=(k:Int)+1:=by omega
  by_cases e:q.reg=r
  ·have X:=B2g (f:=fun v=>decide (v.reg=r)) N (decide_eq_true e)
   rw [X,Bool.true_or]at w
   subst w
   simp -implicitDefEqProofs only [go_sem,c,R,U,z,a,m,H,F,e,Option.some.injEq,forall_eq']
  ·simp -implicitDefEqProofs only [go_sem,c,R,U,z,a,m,H,F,e,Option.some.injEq,forall_eq']
   refine⟨by omega,?_⟩
   exact Y _ (k+1) ⟨by omega,A6U G N (decide_eq_false e)⟩ zd zM
 obtain rfl:k=p.vars.length:=by omega
 rw [A9O G,Bool.false_or]at w
 simp -implicitDefEqProofs only [go_sem,c,z,m,a]
 refine Run.rounds (fun(y:Nat)=>⟨[(6,.int .i64 y),(2,.ptr (kpN 2) 0 0 0),(1,.int .i64 r)],[(kpN 2,0,.rows 11 [g])],1+y⟩) (fun y=>y≤p.code.length∧((p.code.take y).any (C5q r))=false) (fun y=>p.code.length-y) 0 ze ⟨Nat.zero_le _,rfl⟩ ?_
 rintro j ⟨hj,C⟩ A
 refine Run.unf T9 (Run.go 100 ?_)
 by_cases d:(j:Int)<p.code.length
 ·obtain⟨i,L⟩: ∃i,p.code[j]? =some i:=⟨p.code[j]' zd,by simp⟩
  have o:=M j i L
  have E:=W i (List.mem_of_getElem? L)
  have J:((0:Int)≤(j:Int))=True:=Ji
  have I:(j<p.code.length)=True:=Ji
  have t:((j+1:Nat):Int)=(j:Int)+1:=by omega
  by_cases e:C5q r i=true
  ·rw [B2g L e]at w
   subst w
   obtain⟨s,B,Q⟩:=of_decide_eq_true e
   have:=E s
   simp -implicitDefEqProofs only [go_sem,d,J,I,D,a,b,l,o,s,B,Q,Option.some.injEq,forall_eq']
   exact⟨by omega,by omega⟩
  ·have u:=A6U C L (Bool.not_eq_true _ ▸ e)
   by_cases s:i.op=26
   ·have:=E s
    by_cases B:i.a≤r
    ·have Q: ¬r≤i.a+2:=fun h=>e (decide_eq_true ⟨s,B,h⟩)
     simp -implicitDefEqProofs only [go_sem,d,J,I,D,a,b,l,o,s,B,Q,Option.some.injEq,forall_eq']
     refine⟨⟨by omega,by omega⟩,⟨by omega,by omega⟩,?_⟩
     exact A _ (j+1) ⟨by omega,u⟩ zd QF
    ·simp -implicitDefEqProofs only [go_sem,d,J,I,D,a,b,l,o,s,B,Option.some.injEq,forall_eq']
     refine⟨by omega,?_⟩
     exact A _ (j+1) ⟨by omega,u⟩ zd QF
   ·simp -implicitDefEqProofs only [go_sem,d,J,I,D,a,b,l,o,s,Option.some.injEq,forall_eq']
    refine⟨by omega,?_⟩
    exact A _ (j+1) ⟨by omega,u⟩ zd QF
 ·obtain rfl:j=p.code.length:=by omega
  rw [A9O C]at w
  subst w
  simp -implicitDefEqProofs only [go_sem,d,D,a,b]
end
end Go.Proofs.YtcaaenddpjepiaaGreatDoor
