/-
 Data by type name no blocks. No condition.
-/
import Derived.Test.YtflobbpcabopjaaGreatDoorTyp
set_option linter.unusedVariables false namespace Go.Abs
section
theorem A7T.sub{P:Program}{t:TypeId}{row:List V}(h:A7T P t row)(φ:Nat→Nat→Nat→Nat→V):row.map (V.sub φ)=row:=by
 have flat: ∀{cs:List (List V)},(∀c∈cs,c.map (V.sub φ)=c)→cs.flatten.map (V.sub φ)=cs.flatten:=by
  intro cs h
  rw [List.map_flatten]
  congr 1
  exact(List.map_congr_left h).trans (List.map_id _)
 induction h with
 |bool h b=>simp [V.sub]
 |int h n hn=>simp [V.sub]
 |str h s hs=>simp [V.sub]
 |slice h es hl hb he ih=>
  simp only [List.map_cons,List.map_nil,V.sub,A0g,List.cons.injEq,and_true,V.isl.injEq]
  exact(List.map_congr_left fun r hr=>ih r hr).trans (List.map_id _)
 | struct h cs hl hf ih=>
  exact flat fun c hc=>by
   exact YA
 |array h cs hl hf ih=>exact flat ih
end
section
section
variable {P:Program} {M:Nat}
theorem Y2.cons{t:TypeId}{ts:List TypeId}{as:List V}(h:Y2 M P (t::ts) as): ∃v vs,as=v::vs∧ArgTB M P t v∧Y2 M P ts vs:=by
 cases as with
 |nil=>exact h.elim
 |cons v vs=>exact⟨v,vs,rfl,h.1,h.2⟩
theorem Y2.nil{as:List V}(h:Y2 M P [] as):as= []:=by
 cases as with
 |nil=>rfl
 |cons v vs=>exact h.elim
theorem TypedB.int_inv{t:TypeId}{k:IntKind}(hu:P.underlying t=some (.int k)){vs:List V}(h:TypedB M P t vs): ∃n,vs= [.int k n]∧(Lit.int k n).wf=true:=by
 cases h with
 |int h n hn=>rw [hu]at h;cases h;exact⟨n,rfl,hn⟩
 |bool h=>rw [hu]at h;cases h
 |str h=>rw [hu]at h;cases h
 |slice h=>rw [hu]at h;cases h
 |struct h=>rw [hu]at h;cases h
 |array h=>rw [hu]at h;cases h
theorem TypedB.bool_inv{t:TypeId}(hu:P.underlying t=some .bool){vs:List V}(h:TypedB M P t vs): ∃b,vs= [.bool b]:=by
 cases h with
 |int h n hn=>rw [hu]at h;cases h
 |bool h b=>exact⟨b,rfl⟩
 |str h=>rw [hu]at h;cases h
 |slice h=>rw [hu]at h;cases h
 |struct h=>rw [hu]at h;cases h
 |array h=>rw [hu]at h;cases h
theorem TypedB.str_inv{t:TypeId}(hu:P.underlying t=some .string){vs:List V}(h:TypedB M P t vs): ∃s,vs= [.str s]∧s.length≤M:=by
 cases h with
 |int h n hn=>rw [hu]at h;cases h
 |bool h=>rw [hu]at h;cases h
 |str h s hs=>exact⟨s,rfl,hs⟩
 |slice h=>rw [hu]at h;cases h
 |struct h=>rw [hu]at h;cases h
 |array h=>rw [hu]at h;cases h
theorem TypedB.slice_invB{t e:TypeId}(hu:P.underlying t=some (.slice e)){vs:List V}(h:TypedB M P t vs): ∃es,vs= [.isl es]∧es.length≤M∧es.length*P.bytesOf e≤M∧ ∀row∈es,TypedB M P e row:=by
 cases h with
 |int h n hn=>rw [hu]at h;cases h
 |bool h=>rw [hu]at h;cases h
 |str h=>rw [hu]at h;cases h
 |slice h es hl hb he=>rw [hu]at h;cases h;exact⟨es,rfl,hl,hb,he⟩
 |struct h=>rw [hu]at h;cases h
 |array h=>rw [hu]at h;cases h
theorem TypedB.slice_inv{t e:TypeId}(hu:P.underlying t=some (.slice e)){vs:List V}(h:TypedB M P t vs): ∃es,vs= [.isl es]∧es.length≤M∧ ∀row∈es,TypedB M P e row:=by
 cases h with
 |int h n hn=>rw [hu]at h;cases h
 |bool h=>rw [hu]at h;cases h
 |str h=>rw [hu]at h;cases h
 |slice h es hl hb he=>rw [hu]at h;cases h;exact⟨es,rfl,hl,he⟩
 |struct h=>rw [hu]at h;cases h
 |array h=>rw [hu]at h;cases h
theorem ArgTB.int{t:TypeId}{k:IntKind}(hu:P.underlying t=some (.int k)){v:V}(h:ArgTB M P t v): ∃n,v= .int k n∧(Lit.int k n).wf=true:=by
 cases h with
 |one v ha h=>obtain⟨n,h1,h2⟩:=h.int_inv hu;cases h1;exact⟨n,rfl,h2⟩
 |agg vs ha h=>simp [isAgg,hu]at ha
theorem ArgTB.bool{t:TypeId}(hu:P.underlying t=some .bool){v:V}(h:ArgTB M P t v): ∃b,v= .bool b:=by
 cases h with
 |one v ha h=>obtain⟨n,h1⟩:=h.bool_inv hu;cases h1;exact⟨n,rfl⟩
 |agg vs ha h=>simp [isAgg,hu]at ha
theorem ArgTB.str{t:TypeId}(hu:P.underlying t=some .string){v:V}(h:ArgTB M P t v): ∃s,v= .str s∧s.length≤M:=by
 cases h with
 |one v ha h=>obtain⟨n,h1,h2⟩:=h.str_inv hu;cases h1;exact⟨n,rfl,h2⟩
 |agg vs ha h=>simp [isAgg,hu]at ha
theorem ArgTB.slice{t e:TypeId}(hu:P.underlying t=some (.slice e)){v:V}(h:ArgTB M P t v): ∃es,v= .isl es∧es.length≤M∧ ∀row∈es,TypedB M P e row:=by
 cases h with
 |one v ha h=>obtain⟨n,h1,h2⟩:=h.slice_inv hu;cases h1;exact⟨n,rfl,h2⟩
 |agg vs ha h=>simp [isAgg,hu]at ha
theorem ArgTB.struct{t:TypeId}(ha':isAgg P t=true){v:V}(h:ArgTB M P t v): ∃vs,v= .agg vs∧TypedB M P t vs:=by
 cases h with
 |one v ha h=>rw [ha']at ha;cases ha
 |agg vs ha h=>exact⟨vs,rfl,h⟩
def B7P(M:Nat)(P:Program):List TypeId→List V→Prop
 | [],vs=>vs= []
 |t::ts,vs=> ∃a b,vs=a++b∧TypedB M P t a∧B7P M P ts b
theorem B5a: ∀(fs:List Field) (cs:List (List V)),cs.length=fs.length→(∀(i:Nat) f c,fs[i]? =some f→cs[i]? =some c→TypedB M P f.type c)→B7P M P (fs.map (·.type)) cs.flatten
 | [],[],_,_=>rfl
 |f::fs,c::cs,hl,h=>⟨c,cs.flatten,rfl,h 0 f c rfl rfl,B5a fs cs zy fun i f c h1 h2=>h (i+1) f c (by simpa using h1) (by simpa using h2)⟩
theorem TypedB.fields{t:TypeId}{fs:Array Field}(hu:P.underlying t=some (.struct fs)){vs:List V}(h:TypedB M P t vs):B7P M P (fs.toList.map (·.type)) vs:=by
 cases h with
 |int h n hn=>rw [hu]at h;cases h
 |bool h=>rw [hu]at h;cases h
 |str h=>rw [hu]at h;cases h
 |slice h=>rw [hu]at h;cases h
 |struct h cs hl hf=>rw [hu]at h;cases h;exact B5a _ _ hl hf
 |array h=>rw [hu]at h;cases h
theorem rows_map{β:Type}{p:β→Prop}{f:β→List V}: ∀{es:List (List V)},(∀row∈es,∃z,row=f z∧p z)→ ∃zs:List β,es=zs.map f∧ ∀z∈zs,p z
 | [],_=>⟨[],rfl,by simp⟩
 |r::es,h=>by
  obtain⟨z,rfl,hz⟩:=h r List.mem_cons_self
  obtain⟨zs,rfl,hzs⟩:=rows_map fun row hr=>h row (List.mem_cons_of_mem _ hr)
  exact⟨z::zs,rfl,by simpa [hz]using hzs⟩
end
end
end Go.Abs
