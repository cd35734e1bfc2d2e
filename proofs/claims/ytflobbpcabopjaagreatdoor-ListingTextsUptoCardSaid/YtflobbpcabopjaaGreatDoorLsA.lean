/-
 What an accepted function is, as far as its listing needs it. No condition.
-/
import Derived.Test.YtflobbpcabopjaaGreatDoorLsN
import Derived.Test.YtflobbpcabopjaaGreatDoorTxo
import Derived.Test.YtflobbpcabopjaaGreatDoorFnMa
set_option linter.unusedVariables false
set_option linter.unusedSimpArgs false
set_option maxRecDepth 100000
namespace Go.Proofs.YtflobbpcabopjaaGreatDoor
open Go Go.Abs
mutual
def n64:V→Prop
 | .int .i64 z=>inB z
 | .isl es=>n64LL es
 | .agg cs=>n64L cs
 |_=>True
def n64L:List V→Prop
 | []=>True
 |c::r=>n64 c∧n64L r
def n64LL:List (List V)→Prop
 | []=>True
 |c::r=>n64L c∧n64LL r
end
theorem B9q: ∀{a b:List V},n64L a→n64L b→n64L (a++b)
 | [],_,_,h=>h
 |c::r,b,h1,h2=>by
  rw [n64L]at h1
  rw [List.cons_append,n64L]
  exact⟨h1.1,B9q h1.2 h2⟩
theorem B3r: ∀{l:List (List V)},(∀c∈l,n64L c)→n64L l.flatten
 | [],_=>by rw [List.flatten_nil,n64L];trivial
 |c::r,h=>by
  rw [List.flatten_cons]
  exact B9q (h c List.mem_cons_self) (B3r fun x hx=>h x (List.mem_cons_of_mem _ hx))
theorem A9X: ∀{l:List (List V)},n64LL l↔ ∀c∈l,n64L c
 | []=>by simp [n64LL]
 |c::r=>by rw [n64LL,A9X,List.forall_mem_cons]
theorem B0g{P:Program}{t:TypeId}{row:List V}(h:A4J P t row):n64L row:=by
 induction h with
 |bool h b=>rw [n64L,n64L];exact⟨by unfold n64;trivial,trivial⟩
 | @int t k h n hn=>
  rw [n64L,n64L]
  refine⟨?_,trivial⟩
  have h:k= .i64→inB n:=fun e=>by
   subst e
   have h:IntKind.i64.min≤n∧n≤IntKind.i64.max:=by simpa [Lit.wf]using hn
   rw [show IntKind.i64.min= -9223372036854775808 from rfl,show IntKind.i64.max=9223372036854775807 from rfl]at h
   exact h
  unfold n64
  cases k<;>first|trivial|exact h rfl
 |str h s hs=>rw [n64L,n64L];exact⟨by unfold n64;trivial,trivial⟩
 |slice h es hl hb he ih=>rw [n64L,n64L,n64];exact⟨A9X.2 ih,trivial⟩
 |struct h cs hl hf ih=>
  refine B3r fun c hc=> ?_
  obtain⟨i,hi,rfl⟩:=List.getElem_of_mem hc
  exact ih i _ _ (List.getElem?_eq_getElem (by omega)) (List.getElem?_eq_getElem hi)
 |array h cs hl hf ih=>exact B3r ih
theorem B2Y{i:Ins}(h:chk i=0):(1≤i.op∧i.op≤29)∧(0≤i.a∧i.a≤4095)∧(-1≤i.b∧i.b≤16383)∧(-1≤i.c∧i.c≤32767)∧(0≤i.d∧i.d≤19):=by
 obtain⟨h1,h2,h3,h4,h5,h6,h7,h8,h9,h10⟩:=B0U h
 have:=of_decide_eq_true (show decide (1≤i.op∧i.op≤29)=true from h1)
 omega
theorem B7D{i:Ins}(h:chk i=0):inB i.a∧inB i.b∧inB i.c∧inB i.d:=by
 obtain⟨_,⟨b1,b2⟩,⟨c1,c2⟩,⟨d1,d2⟩,⟨e1,e2⟩⟩:=B2Y h
 exact⟨⟨by omega,by omega⟩,⟨by omega,by omega⟩,⟨by omega,by omega⟩,⟨by omega,by omega⟩⟩
structure Fn.Okl(p:Fn):Prop where
 nums:inB p.line∧inB p.params∧inB p.regs
 name:p.name.length≤4096
 consts:p.consts.length≤4096∧ ∀v∈p.consts,D1 v=true∧v.kind≤3
 ups:p.ups.length≤60∧ ∀u∈p.ups,u.name.length≤40∧inB u.idx
 vars:p.vars.length≤16384∧ ∀v∈p.vars,v.name.length≤40∧inB v.reg∧inB v.lo∧inB v.hi∧0≤v.attr∧v.attr≤2
 code:p.code.length≤16384∧ ∀i∈p.code,chk i=0
 lines:(p.lines.length=0∨p.lines.length=p.code.length)∧ ∀z∈p.lines,inB z
 protos:p.protos.length≤1024
end Go.Proofs.YtflobbpcabopjaaGreatDoor
