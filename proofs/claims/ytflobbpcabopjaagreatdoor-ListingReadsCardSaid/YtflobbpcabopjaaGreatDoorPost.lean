/-
 From a pure contract to what a row says of a law. No condition.
-/
import Derived.Test.YtflobbpcabopjaaGreatDoorTyp
import Derived.ProofKit
import Derived.OpenShut
import Derived.ChangeAt
import Derived.RowKit
set_option linter.unusedVariables false namespace Go.Abs
open Go.ChangeShapes Go.WideShapes Go.ChangeAt Go.RowKit
section
variable {H:Type} {enc:TypeId×Value→H} {P:Program}
theorem C4W{f:Func}{s:ChangeSpec}{apart fresh handsOn again:Bool}{W W':World}{args:Array Value}{v:Value}{ds gs:List (DataW H)}{before pa pv:List MemPlace}
  (hW:DataW.Whole enc P f.params.toList s.vars apart W args.toList ds gs before)
  (hres: ∀(b:Nat) (sp:Nat→Bool) (hd:Bool),DataW.TrodAll enc P W' b sp hd f.resultTypes.toList (v.resultList f.resultTypes.size) (s.fn H (ds++gs)).results [])
  (hargs: ∀sp:Nat→Bool,(∀p∈before,sp p.block=true)→DataW.TrodAll enc P W' 0 sp true f.params.toList args.toList (s.fn H (ds++gs)).args pa)
  (hvars: ∀sp:Nat→Bool,(∀p∈before,sp p.block=true)→DataW.TrodVars enc P W' sp s.vars (s.fn H (ds++gs)).vars pv)
  (hps:before=pa++pv) (hk:W.keptBut W' (· ∈before)) (hfz: ∀b off,MemPlace.cell b off∈before→W'.frozen? ⟨b,off,none⟩=W.frozen? ⟨b,off,none⟩)
  (hok: ∀(j:Nat) (t:TypeId) (r:Value),f.resultTypes[j]? =some t→(v.resultList f.resultTypes.size)[j]? =some r→Value.okWide P W' .any 0 t r):
  s.post enc P f apart fresh handsOn again W args v W':=by
 have hold: ∀p∈before,(fun b=>decide (b<W.heap.size)) p.block=true:=fun p hp=>by simpa using hW.lt p hp
 refine⟨ds,gs,before,[],pa,pv,hW,hres _ _ _,hargs _ hold,hvars _ hold,World.keptBut_mono (fun p hp=>⟨hp,?_⟩) hk,fun _=> ?_⟩
 ·rw [hps,List.mem_append]at hp
  exact Or.inr hp
 ·obtain⟨_,_,_,_,_,hz,hn⟩:=hW
  refine⟨hok,_,_,([]++pa)++pv,⟨[]++pa,pv,trodAll_append (hargs _ (fun _ _=>rfl)) (hres _ _ _),hvars _ (fun _ _=>rfl),rfl,?_,?_⟩,?_⟩
  ·intro b off hp
   have hb:MemPlace.cell b off∈before:=by rw [hps];simpa using hp
   rw [hfz b off hb]
   exact hz b off hb
  ·intro ha
   have:=hn ha
   rw [hps]at this
   simpa using this
  ·intro p hp _
   rw [hps]
   simpa using hp
theorem A9r{w:World}{base:Nat}{spare:Nat→Bool}{held:Bool}: ∀{ts:List TypeId} {vs:List Value} {ds:List (DataW H)} {ps:List MemPlace},DataW.TrodAll enc P w base spare held ts vs ds ps→ds.length=ts.length
 | [],[],[],_,_=>rfl
 |_::_,_::_,_::_,_,⟨_,_,_,h,_⟩=>by simp [A9r h]
theorem A6n{P:Program}: ∀{ts us:List TypeId} {ds:List (DataW H)} {n:Nat},n∈DataW.weightsEach P ts ds→n∈DataW.weightsEach P (ts++us) ds
 | [],_,ds,n,h=>by cases ds<;>simp [DataW.weightsEach]at h
 |t::ts,us,[],n,h=>by simp [DataW.weightsEach]at h
 |t::ts,us,d::ds,n,h=>by
  simp only [DataW.weightsEach,List.cons_append,List.mem_append]at h⊢
  exact h.imp id A6n
theorem A4K{M:Nat}(BK:List (DataW H)→Prop){fid:FuncId}{f:Func}{s:ChangeSpec}{ts:List TypeId}{tb:TypeId}(hl:laidOutB P=true)(hm:mapsRowed P=true)
  (hz: ∀t e,t<P.types.size→P.underlying t=some (.slice e)→0<P.cellsOf e)
  (hts:C3q P ts=true) (hpar: ∀t∈f.params.toList,t∈ts) (hlt: ∀t∈f.params.toList,t<P.types.size) (hvars:s.vars= []) (hspec: ∀ds:List (DataW H),ds.length=f.params.toList.length→s.fn H ds={results:= [.lit (.bool true)],args:=ds})
  (hrt:f.resultTypes= #[tb]) (htb:P.underlying tb=some .bool) (hp: ∀as (ds:List (DataW H)),Y2 M P f.params.toList as→C2F ds as→BK ds→Pure P fid as (.bool true))
  {W:World} {base:Nat} {args:Array Value} {ds gs:List (DataW H)} {before:List MemPlace} (hgl:GlR (B3d W))
  (hval: ∀(j:Nat) t v,f.params[j]? =some t→args[j]? =some v→Value.okWide P W .any base t v)
  (hW:DataW.Whole enc P f.params.toList s.vars false W args.toList ds gs before) (hwt:(DataW.weightsEach P (f.params.toList++s.plain.varTypes P) (ds++gs)).all (· ≤M)=true) (hbk:BK ds):
  Calls P fid args W fun e W'=> ∃v,e= .returned v∧s.post enc P f false true false false W args v W':=by
 have hW':=hW
 obtain⟨p,q,hA,hV,rfl,hfz,hnd⟩:=hW
 rw [hvars]at hV
 obtain⟨rfl,rfl⟩:=trodVars_none hV
 obtain⟨as,has,hRs,hAs⟩:=B4y hts hpar (fun j t v h1 h2=>hval j t v (by simpa using h1) (by simpa using h2)) hA (fun n hn=>by
  have:=List.all_eq_true.1 hwt n (by rw [List.append_nil];exact A6n hn)
  simpa using this)
 refine(hp as ds has hAs hbk W (fun _=>False) args (fun x h=>h.elim) hgl ⟨by simpa using hRs.1,fun i c v hc hv=>hRs.2 i c v hc zt⟩).mono ?_
 rintro e W' ⟨v,rfl,hR,hwd,hold⟩
 have hv:=hR.bool_inv
 subst hv
 have hsp:s.fn H (ds++ [])={results:= [.lit (.bool true)],args:=ds}:=by rw [List.append_nil];exact hspec ds (A9r hA)
 refine⟨_,rfl,C4W (pa:=p) (pv:= []) hW' (fun b sp hd=> ?_) (fun sp hs=> ?_) (fun _ _=> ?_) zg (B5i hwd hold _) (fun b off hb=> ?_) ?_⟩
 ·rw [hsp,hrt]
  exact trodAll_cons_mk (shut_bool htb _) trodAll_mk0
 ·rw [hsp]
  refine B0s (DataW.TrodAll.respare (kids_rows hl hm) hz hlt hA fun x hx=>hs x (by simpa using hx)) fun x hx=>B6t hold ?_
  exact hW'.lt x (by simpa using hx)
 ·rw [hsp,hvars]
  exact rfl
 ·have hlt:=hW'.lt _ hb
  exact World.frozen?_of_block (a:=⟨b,off,none⟩) (hold b hlt)
 ·exact ok_one hrt rfl (okWide_bool_mk htb _)
end
end Go.Abs
