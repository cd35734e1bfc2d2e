/-
 A listed table is a block of known data. No condition.
-/
import Derived.Test.YtflobbpcabopjaaGreatDoorPost
import Derived.Test.YtflobbpcabopjaaGreatDoorChecked
import Derived.Lib.LaidTab
import Derived.LaidHandle
import Derived.Shelf.Vars
import Derived.Handed
import Derived.Lib.ItoaNum
set_option linter.unusedVariables false set_option maxRecDepth 100000
namespace Go.Abs
theorem A9q{P:Program}{W:World}{name:String}{k:IntKind}{zs:List Int}{g:Nat}{t e:TypeId}{n:Nat}
  (hg:P.globalNamed name=some g) (hty:(P.globals[g]?).map (·.type)=some t) (ht:P.underlying t=some (.array n e)) (he:P.underlying e=some (.int k)) (hce:P.cellsOf e=1) (hct:P.cellsOf t=n):
  ∀(laid:List (String×DataW Unit)) (ps:List MemPlace),DataW.LaidVars P W laid ps→(name,Lib.tabData k zs)∈laid→Lib.TabIs P W name k zs
 | [],_,_,h=>by cases h
 | x::r,ps,⟨g',t',cs,fuel,p,q,hg',ht',hvar,hd,hr,_⟩,h=>by
  rcases List.mem_cons.1 h with h|h
  ·subst h
   obtain rfl:=Option.some.inj (hg.symm.trans hg')
   obtain rfl:=Option.some.inj (hty.symm.trans ht')
   unfold Lib.TabIs
   rw [hvar,←Lib.cells_of_tab ht he hce hct hd]
  ·exact A9q hg hty ht he hce hct r q hr h
def C8t(W:World)(e:Nat×List V):Prop:=(∃cs t z,W.heap[e.1]? =some (.cells cs t z)∧cs.size=e.2.length)∧ ∀(j:Nat) c,e.2[j]? =some c→ ∃x,W.cell? ⟨e.1,j,none⟩=some x∧x.oneCell'=true∧R (A2Y W fun x=>False∨False) c x
theorem GlR.of_at{W:World}(h: ∀e∈B1N,C8t W e):GlR (B3d W):=by
 intro e he
 obtain⟨⟨cs,t,z,h1,h2⟩,h3⟩:=h e he
 refine⟨⟨cs,t,z,h1,h2,fun h=>h,fun h=>h⟩,fun j c hj=> ?_⟩
 obtain⟨x,q1,q2,q3⟩:=h3 j c hj
 exact⟨x,q1,q2,fun h=>h,fun h=>h,q3⟩
theorem B9E{P:Program}{W:World}{name:String}{k:IntKind}{zs:List Int}{g:Nat}(hg:P.globalNamed name=some g)(h:Lib.TabIs P W name k zs):C8t W (g,zs.map (V.int k)):=by
 refine⟨?_,fun j c hj=> ?_⟩
 ·have h2:=h
  unfold Lib.TabIs World.var? at h2
  rw [hg]at h2
  simp only [Option.bind_some]at h2
  split at h2
  ·rename_i cs t z hh
   injection h2 with h2
   exact⟨cs,t,z,hh,by rw [h2];simp⟩
  ·cases h2
 ·simp only [List.getElem?_map,Option.map_eq_some_iff]at hj
  obtain⟨z,hz,rfl⟩:=hj
  have hlt:=(List.getElem?_eq_some_iff.1 hz).1
  have:=h.cell hg j hlt
  rw [List.getD_eq_getElem?_getD,hz]at this
  exact⟨_,this,rfl,.int k z⟩
theorem C6E{P:Program}{w:World}{g:Nat}{t:TypeId}{zero:Array Value}{k:IntKind}(h:w.ShapedOpen P)(hg:g<P.globals.size)
  (h0:((begin P (fun _ _=>0) default).world.heap[g]?).bind Obj.row? =some (zero,t)) (hz:zero.size=1)
  (hb:P.buildable t=true) (hc:P.cellTypes P.depth t=some [t]) (hu:P.underlying t=some (.int k)):C8t w (g,[.anyi k]):=by
 obtain⟨m,hm⟩:=Go.Proofs.cell_of_shapedOpen_int h hg h0 hz hb hc hu
 obtain⟨cs,hh,hs,_⟩:=h.1 g zero t hg h0
 refine⟨?_,fun j c hj=> ?_⟩
 ·exact⟨cs,t,_,hh,by rw [hs,hz];rfl⟩
 ·cases j with
  |zero=>simp at hj;subst hj;exact⟨_,hm,rfl,.anyi k m⟩
  |succ j=>simp at hj
theorem C2B{H:Type}{enc:TypeId×Value→H}{P:Program}{w:World}{base:Nat}{spare:Nat→Bool}{fuel:Nat}{t:TypeId}{ms:Array (String×TypeId)}{cs:List Value}{name:String}{d:DataW H}{p:List MemPlace}
  (ht:P.underlying t=some (.interface ms)) (h:DataW.trod enc P w base spare false fuel t cs=some (.iface name d,p)): ∃u v,cs= [.iface u v]:=by
 cases fuel with
 |zero=>simp [DataW.trod]at h
 |succ m=>
  unfold DataW.trod at h
  rw [ht]at h
  match cs,h with
  | [.iface u v],_=>exact⟨u,v,rfl⟩
  | [.nilIface],h=>simp at h
  | [],h=>simp at h
  |_::_::_,h=>simp at h
theorem A8f{P:Program}{W:World}{name:String}{g:Nat}{t:TypeId}{ms:Array (String×TypeId)}{tn:String}{d:DataW Unit}
  (hg:P.globalNamed name=some g) (hty:(P.globals[g]?).map (·.type)=some t) (ht:P.underlying t=some (.interface ms)):
  ∀(laid:List (String×DataW Unit)) (ps:List MemPlace),DataW.LaidVars P W laid ps→(name,.iface tn d)∈laid→ ∃u v,W.var? P name=some #[.iface u v]
 | [],_,_,h=>by cases h
 | x::r,ps,⟨g',t',cs,fuel,p,q,hg',ht',hvar,hd,hr,_⟩,h=>by
  rcases List.mem_cons.1 h with h|h
  ·subst h
   obtain rfl:=Option.some.inj (hg.symm.trans hg')
   obtain rfl:=Option.some.inj (hty.symm.trans ht')
   obtain⟨u,v,he⟩:=C2B ht hd
   refine⟨u,v,hvar.trans (congrArg some ?_)⟩
   exact Array.ext' he
  ·exact A8f hg hty ht r q hr h
theorem B9D{P:Program}{W:World}{name:String}{g:Nat}(hg:P.globalNamed name=some g)(h: ∃u v,W.var? P name=some #[.iface u v]):C8t W (g,[.err]):=by
 obtain⟨u,v,h⟩:=h
 unfold World.var? at h
 rw [hg]at h
 simp only [Option.bind_some]at h
 split at h
 ·rename_i cs t z hh
  injection h with h
  subst h
  refine⟨⟨_,t,z,hh,rfl⟩,fun j c hj=> ?_⟩
  cases j with
  |zero=>
   simp at hj;subst hj
   exact⟨.iface u v,by simp [World.cell?,hh],rfl,.err u v⟩
  |succ j=>simp at hj
 ·cases h
end Go.Abs
namespace Go.Proofs.YtflobbpcabopjaaGreatDoor
open Go Go.Abs
def B5V:List Int:=(List.range 256).map fun i=>if (9≤i∧i≤13)∨i=32 then 1 else 0
theorem B3g{laid:List (String×DataW Unit)}{W:World}(h:laidMetH Tryz.prog laid W)(hS:W.ShapedOpen Tryz.prog)(hn:(laid.filter fun x=>x.2.handleName?.isSome)= []:=by rfl)(i j:Nat)
  (hm:laid[i]? =some ("strings.asciiSpace",Lib.tabData .u8 B5V):=by kernel_rfl) (hm2:laid[j]? =some ("internal/strconv.uint64pow10",Lib.tabData .u64 Lib.pow10Tab):=by kernel_rfl)
  (hm3: ∃tn d,laid[5]? =some ("strconv.ErrSyntax",.iface tn d):=by exact⟨_,_,rfl⟩) (hm4: ∃tn d,laid[4]? =some ("strconv.ErrRange",.iface tn d):=by exact⟨_,_,rfl⟩):GlR (B3d W):=by
 obtain⟨_,_,hm3⟩:=hm3
 obtain⟨_,_,hm4⟩:=hm4
 have h:laidMet Tryz.prog laid W:=by
  unfold laidMetH at h
  rw [hn]at h
  exact h
 obtain⟨ps,hv,_⟩:=h
 refine GlR.of_at fun e he=> ?_
 have he:e=(2,B5V.map (V.int .u8))∨e=(1,Lib.pow10Tab.map (V.int .u64))∨e=(0,[V.anyi .i64])∨e=(6,[V.err])∨e=(7,[V.err]):=by
  have:B1N= [(2,B5V.map (V.int .u8)),(1,Lib.pow10Tab.map (V.int .u64)),(0,[V.anyi .i64]),(6,[V.err]),(7,[V.err])]:=by rfl
  rw [this]at he
  simpa using he
 rcases he with rfl|rfl|rfl|rfl|rfl
 ·exact B9E zh (A9q (g:=2) (t:=224) (e:=5) (n:=256) zh zh zh zh zh zh laid ps hv (List.mem_of_getElem? hm))
 ·exact B9E zh (A9q (g:=1) (t:=221) (e:=120) (n:=20) zh zh zh zh zh zh laid ps hv (List.mem_of_getElem? hm2))
 ·exact C6E (t:=3) (zero:= #[.int .i64 0]) hS (of_decide_eq_true zh) zh rfl zh zh zh
 ·exact B9D zh (A8f (g:=6) (t:=50) (ms:=_) zh zh Tryz.underlying50 laid ps hv (List.mem_of_getElem? hm3))
 ·exact B9D zh (A8f (g:=7) (t:=50) (ms:=_) zh zh Tryz.underlying50 laid ps hv (List.mem_of_getElem? hm4))
end Go.Proofs.YtflobbpcabopjaaGreatDoor
