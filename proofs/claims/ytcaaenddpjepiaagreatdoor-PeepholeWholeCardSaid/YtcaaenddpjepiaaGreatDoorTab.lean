/-
 A listed table is a block of known data. No condition.
-/
import Derived.Test.YtcaaenddpjepiaaGreatDoorTsub
import Derived.Test.YtcaaenddpjepiaaGreatDoorChecked
import Derived.Lib.LaidTab
import Derived.LaidHandle
set_option linter.unusedVariables false
set_option linter.unusedSimpArgs false
set_option maxRecDepth 100000
namespace Go.Abs
theorem B4P{P:Program}{W:World}{a:String}{k:IntKind}{z:List Int}{g:Nat}{t e:TypeId}{n:Nat}
  (i:P.globalNamed a=some g) (d:(P.globals[g]?).map (·.type)=some t) (f:P.underlying t=some (.array n e)) (m:P.underlying e=some (.int k)) (b:P.cellsOf e=1) (c:P.cellsOf t=n):
  ∀(l:List (String×DataW Unit)) (j:List MemPlace),DataW.LaidVars P W l j→(a,Lib.tabData k z)∈l→Lib.TabIs P W a k z
 | [],_,_,h=>by cases h
 | x::r,j,⟨g',t',cs,fuel,p,q,hg',ht',hvar,hd,hr,_⟩,h=>by
  rcases List.mem_cons.1 h with h|h
  ·subst h
   obtain rfl:=Option.some.inj (i.symm.trans hg')
   obtain rfl:=Option.some.inj (d.symm.trans ht')
   unfold Lib.TabIs
   rw [hvar,←Lib.cells_of_tab f m b c hd]
  ·exact B4P i d f m b c r q hr h
def D5Z(W:World)(e:Nat×List V):Prop:=(∃cs t z,W.heap[e.1]? =some (.cells cs t z)∧cs.size=e.2.length)∧ ∀(j:Nat) c,e.2[j]? =some c→ ∃x,W.cell? ⟨e.1,j,none⟩=some x∧x.oneCell'=true∧R (A6t W fun x=>False∨False) c x
theorem GlR.of_at{W:World}(h: ∀e∈B6e,D5Z W e):GlR (B3B W):=by
 intro e g
 obtain⟨⟨i,t,z,d,a⟩,b⟩:=h e g
 refine⟨⟨i,t,z,d,a,fun h=>h,fun h=>h⟩,fun j c l=> ?_⟩
 obtain⟨x,k,q,f⟩:=b j c l
 exact⟨x,k,q,fun h=>h,fun h=>h,f⟩
theorem C8D{P:Program}{W:World}{n:String}{k:IntKind}{d:List Int}{g:Nat}(f:P.globalNamed n=some g)(h:Lib.TabIs P W n k d):D5Z W (g,d.map (V.int k)):=by
 refine⟨?_,fun j c i=> ?_⟩
 ·have a:=h
  unfold Lib.TabIs World.var? at a
  rw [f]at a
  simp only [Option.bind_some]at a
  split at a
  ·rename_i m t z l
   injection a with a
   exact⟨m,t,z,l,by rw [a];simp⟩
  ·cases a
 ·simp only [List.getElem?_map,Option.map_eq_some_iff]at i
  obtain⟨z,e,rfl⟩:=i
  have b:=(List.getElem?_eq_some_iff.1 e).1
  have:=h.cell f j b
  rw [List.getD_eq_getElem?_getD,e]at this
  exact⟨_,this,rfl,.int k z⟩
end Go.Abs
namespace Go.Proofs.YtcaaenddpjepiaaGreatDoor
open Go Go.Abs
def B7h:List Int:=(List.range 256).map fun i=>if (9≤i∧i≤13)∨i=32 then 1 else 0
theorem C6y{l:List (String×DataW Unit)}{W:World}(h:laidMetH Tryz.prog l W)(d:(l.filter fun x=>x.2.handleName?.isSome)= []:=by rfl)(i:Nat:=1)
  (c:l[i]? =some ("strings.asciiSpace",Lib.tabData .u8 B7h):=by kernel_rfl):GlR (B3B W):=by
 have h:laidMet Tryz.prog l W:=by
  unfold laidMetH at h
  rw [d]at h
  exact h
 obtain⟨p,b,_⟩:=h
 refine GlR.of_at fun e a=> ?_
 have a:e=(0,B7h.map (V.int .u8)):=by
  have:B6e= [(0,B7h.map (V.int .u8))]:=by rfl
  rw [this]at a
  simpa using a
 subst a
 exact C8D zj (B4P (g:=0) (t:=200) (e:=5) (n:=256) zj zj zj zj zj zj l p b (List.mem_of_getElem? c))
end Go.Proofs.YtcaaenddpjepiaaGreatDoor
