/-
 A listed table is a block of known data. No condition.
-/
import Derived.Test.YtnihmhbcjpcobaaGreatDoorPost
import Derived.Test.YtnihmhbcjpcobaaGreatDoorChecked
import Derived.Lib.LaidTab
import Derived.LaidHandle
set_option linter.unusedVariables false
set_option linter.unusedSimpArgs false
set_option maxRecDepth 100000
namespace Go.Abs
theorem B1V{P:Program}{W:World}{name:String}{k:IntKind}{zs:List Int}{g:Nat}{t e:TypeId}{n:Nat}
  (hg:P.globalNamed name=some g) (hty:(P.globals[g]?).map (·.type)=some t) (ht:P.underlying t=some (.array n e)) (he:P.underlying e=some (.int k)) (hce:P.cellsOf e=1) (hct:P.cellsOf t=n):
  ∀(laid:List (String×DataW Unit)) (ps:List MemPlace),DataW.LaidVars P W laid ps→(name,Lib.tabData k zs)∈laid→Lib.TabIs P W name k zs
 | [],_,_,h=>by cases h
 | x::r,ps,⟨g',t',cs,fuel,p,q,hg',ht',hvar,hd,hr,_⟩,h=>by
  rcases List.mem_cons.1 h with h|h
  ·subst h
   obtain rfl:=Option.some.inj (hg.symm.trans hg')
   obtain rfl:=Option.some.inj (hty.symm.trans ht')
   unfold Lib.TabIs
   rw [hvar,←Lib.cells_of_tab ht he hce hct hd]
  ·exact B1V hg hty ht he hce hct r q hr h
def D0b(W:World)(e:Nat×List V):Prop:=(∃cs t z,W.heap[e.1]? =some (.cells cs t z)∧cs.size=e.2.length)∧ ∀(j:Nat) c,e.2[j]? =some c→ ∃x,W.cell? ⟨e.1,j,none⟩=some x∧x.oneCell'=true∧R (A4z W fun x=>False∨False) c x
theorem GlR.of_at{W:World}(h: ∀e∈B2S,D0b W e):GlR (B0V W):=by
 intro e he
 obtain⟨⟨cs,t,z,h1,h2⟩,h3⟩:=h e he
 refine⟨⟨cs,t,z,h1,h2,fun h=>h,fun h=>h⟩,fun j c hj=> ?_⟩
 obtain⟨x,q1,q2,q3⟩:=h3 j c hj
 exact⟨x,q1,q2,fun h=>h,fun h=>h,q3⟩
theorem C2z{P:Program}{W:World}{name:String}{k:IntKind}{zs:List Int}{g:Nat}(hg:P.globalNamed name=some g)(h:Lib.TabIs P W name k zs):D0b W (g,zs.map (V.int k)):=by
 refine⟨?_,fun j c hj=> ?_⟩
 ·have h2:=h
  unfold Lib.TabIs World.var? at h2
  rw [hg]at h2
  simp only [Option.bind_some]at h2
  split at h2
  ·rename_i cs t z hh
   injection h2 with h2
   exact⟨cs,t,z,hh,by rw [h2];simp⟩
  ·cases h2
 ·simp only [List.getElem?_map,Option.map_eq_some_iff]at hj
  obtain⟨z,hz,rfl⟩:=hj
  have hlt:=(List.getElem?_eq_some_iff.1 hz).1
  have:=h.cell hg j hlt
  rw [List.getD_eq_getElem?_getD,hz]at this
  exact⟨_,this,rfl,.int k z⟩
end Go.Abs
namespace Go.Proofs.YtnihmhbcjpcobaaGreatDoor
open Go Go.Abs
def B3E:List Int:=(List.range 256).map fun i=>if (9≤i∧i≤13)∨i=32 then 1 else 0
theorem C0J{laid:List (String×DataW Unit)}{W:World}(h:laidMetH Tryz.prog laid W)(hn:(laid.filter fun x=>x.2.handleName?.isSome)= []:=by rfl)(i:Nat:=1)
  (hm:laid[i]? =some ("strings.asciiSpace",Lib.tabData .u8 B3E):=by kernel_rfl):GlR (B0V W):=by
 have h:laidMet Tryz.prog laid W:=by
  unfold laidMetH at h
  rw [hn]at h
  exact h
 obtain⟨ps,hv,_⟩:=h
 refine GlR.of_at fun e he=> ?_
 have he:e=(0,B3E.map (V.int .u8)):=by
  have:B2S= [(0,B3E.map (V.int .u8))]:=by rfl
  rw [this]at he
  simpa using he
 subst he
 exact C2z (by kernel_rfl) (B1V (g:=0) (t:=151) (e:=5) (n:=256) (by kernel_rfl) (by kernel_rfl) (by kernel_rfl) (by kernel_rfl) (by kernel_rfl) (by kernel_rfl) laid ps hv (List.mem_of_getElem? hm))
end Go.Proofs.YtnihmhbcjpcobaaGreatDoor
