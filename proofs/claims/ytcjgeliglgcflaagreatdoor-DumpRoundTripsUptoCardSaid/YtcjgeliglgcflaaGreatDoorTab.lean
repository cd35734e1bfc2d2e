/-
 A listed table is a block of known data. No condition.
-/
import Derived.Test.YtcjgeliglgcflaaGreatDoorPost
import Derived.Test.YtcjgeliglgcflaaGreatDoorChecked
import Derived.Lib.LaidTab
import Derived.LaidHandle
import Derived.Shelf.Vars
import Derived.Handed
import Derived.Lib.ItoaNum
set_option linter.unusedVariables false
set_option linter.unusedSimpArgs false
set_option maxRecDepth 100000
namespace Go.Abs
theorem A6N{P:Program}{W:World}{name:String}{k:IntKind}{zs:List Int}{g:Nat}{t e:TypeId}{n:Nat}
  (hg:P.globalNamed name=some g) (hty:(P.globals[g]?).map (·.type)=some t) (ht:P.underlying t=some (.array n e)) (he:P.underlying e=some (.int k)) (hce:P.cellsOf e=1) (hct:P.cellsOf t=n):
  ∀(laid:List (String×DataW Unit)) (ps:List MemPlace),DataW.LaidVars P W laid ps→(name,Lib.tabData k zs)∈laid→Lib.TabIs P W name k zs
 | [],_,_,h=>by cases h
 | x::r,ps,⟨g',t',cs,fuel,p,q,hg',ht',hvar,hd,hr,_⟩,h=>by
  rcases List.mem_cons.1 h with h|h
  ·subst h
   obtain rfl:=Option.some.inj (hg.symm.trans hg')
   obtain rfl:=Option.some.inj (hty.symm.trans ht')
   unfold Lib.TabIs
   rw [hvar,←Lib.cells_of_tab ht he hce hct hd]
  ·exact A6N hg hty ht he hce hct r q hr h
def C5t(W:World)(e:Nat×List V):Prop:=(∃cs t z,W.heap[e.1]? =some (.cells cs t z)∧cs.size=e.2.length)∧ ∀(j:Nat) c,e.2[j]? =some c→ ∃x,W.cell? ⟨e.1,j,none⟩=some x∧x.oneCell'=true∧R (A3u W fun x=>False∨False) c x
theorem GlR.of_at{W:World}(h: ∀e∈B0q,C5t W e):GlR (A9M W):=by
 intro e he
 obtain⟨⟨cs,t,z,h1,h2⟩,h3⟩:=h e he
 refine⟨⟨cs,t,z,h1,h2,fun h=>h,fun h=>h⟩,fun j c hj=> ?_⟩
 obtain⟨x,q1,q2,q3⟩:=h3 j c hj
 exact⟨x,q1,q2,fun h=>h,fun h=>h,q3⟩
theorem B5E{P:Program}{W:World}{name:String}{k:IntKind}{zs:List Int}{g:Nat}(hg:P.globalNamed name=some g)(h:Lib.TabIs P W name k zs):C5t W (g,zs.map (V.int k)):=by
 refine⟨?_,fun j c hj=> ?_⟩
 ·have h2:=h
  unfold Lib.TabIs World.var? at h2
  rw [hg]at h2
  simp only [Option.bind_some]at h2
  split at h2
  ·rename_i cs t z hh
   injection h2 with h2
   exact⟨cs,t,z,hh,by rw [h2];simp⟩
  ·cases h2
 ·simp only [List.getElem?_map,Option.map_eq_some_iff]at hj
  obtain⟨z,hz,rfl⟩:=hj
  have hlt:=(List.getElem?_eq_some_iff.1 hz).1
  have:=h.cell hg j hlt
  rw [List.getD_eq_getElem?_getD,hz]at this
  exact⟨_,this,rfl,.int k z⟩
theorem C1r{P:Program}{w:World}{g:Nat}{t:TypeId}{zero:Array Value}{k:IntKind}(h:w.ShapedOpen P)(hg:g<P.globals.size)
  (h0:((begin P (fun _ _=>0) default).world.heap[g]?).bind Obj.row? =some (zero,t)) (hz:zero.size=1)
  (hb:P.buildable t=true) (hc:P.cellTypes P.depth t=some [t]) (hu:P.underlying t=some (.int k)):C5t w (g,[.anyi k]):=by
 obtain⟨m,hm⟩:=Go.Proofs.cell_of_shapedOpen_int h hg h0 hz hb hc hu
 obtain⟨cs,hh,hs,_⟩:=h.1 g zero t hg h0
 refine⟨?_,fun j c hj=> ?_⟩
 ·exact⟨cs,t,_,hh,by rw [hs,hz];rfl⟩
 ·cases j with
  |zero=>simp at hj;subst hj;exact⟨_,hm,rfl,.anyi k m⟩
  |succ j=>simp at hj
end Go.Abs
namespace Go.Proofs.YtcjgeliglgcflaaGreatDoor
open Go Go.Abs
def B2y:List Int:=(List.range 256).map fun i=>if (9≤i∧i≤13)∨i=32 then 1 else 0
theorem B9H{laid:List (String×DataW Unit)}{W:World}(h:laidMetH Tryz.prog laid W)(hS:W.ShapedOpen Tryz.prog)(hn:(laid.filter fun x=>x.2.handleName?.isSome)= []:=by rfl)(i j:Nat)
  (hm:laid[i]? =some ("strings.asciiSpace",Lib.tabData .u8 B2y):=by kernel_rfl) (hm2:laid[j]? =some ("internal/strconv.uint64pow10",Lib.tabData .u64 Lib.pow10Tab):=by kernel_rfl):GlR (A9M W):=by
 have h:laidMet Tryz.prog laid W:=by
  unfold laidMetH at h
  rw [hn]at h
  exact h
 obtain⟨ps,hv,_⟩:=h
 refine GlR.of_at fun e he=> ?_
 have he:e=(1,B2y.map (V.int .u8))∨e=(2,Lib.pow10Tab.map (V.int .u64))∨e=(0,[V.anyi .i64]):=by
  have:B0q= [(1,B2y.map (V.int .u8)),(2,Lib.pow10Tab.map (V.int .u64)),(0,[V.anyi .i64])]:=by rfl
  rw [this]at he
  simpa using he
 rcases he with rfl|rfl|rfl
 ·exact B5E (by kernel_rfl) (A6N (g:=1) (t:=171) (e:=5) (n:=256) (by kernel_rfl) (by kernel_rfl) (by kernel_rfl) (by kernel_rfl) (by kernel_rfl) (by kernel_rfl) laid ps hv (List.mem_of_getElem? hm))
 ·exact B5E (by kernel_rfl) (A6N (g:=2) (t:=178) (e:=110) (n:=20) (by kernel_rfl) (by kernel_rfl) (by kernel_rfl) (by kernel_rfl) (by kernel_rfl) (by kernel_rfl) laid ps hv (List.mem_of_getElem? hm2))
 ·exact C1r (t:=3) (zero:= #[.int .i64 0]) hS (of_decide_eq_true (by kernel_rfl)) (by kernel_rfl) rfl (by kernel_rfl) (by kernel_rfl) (by kernel_rfl)
end Go.Proofs.YtcjgeliglgcflaaGreatDoor
