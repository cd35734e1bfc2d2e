/-
 Functions within functions, their parts, copies. No condition.
-/
import Derived.Test.YtcjgeliglgcflaaGreatDoorFn
import Derived.Test.YtcjgeliglgcflaaGreatDoorPan
import Derived.Test.YtcjgeliglgcflaaGreatDoorCode
set_option linter.unusedVariables false
set_option linter.unusedSimpArgs false
set_option maxRecDepth 100000
set_option maxHeartbeats 0
namespace Go.Proofs.YtcjgeliglgcflaaGreatDoor
open Go.Abs
attribute [local irreducible] A3 Run J0
theorem Q1{d:Nat}{h:A2}{es:List (List V)}(hs: ∀φ,es.map (fun r=>r.map (V.sub φ))=es):es.map (fun r=>r.map (frz d h))=es:=by
 obtain⟨φ,e⟩:=f8 (d:=d) (h:=h)
 rw [e];exact hs φ
theorem B9i(es:List (List V))(hz:C4 es 5)(hl:es.length≤3518437208883)(hs: ∀φ,es.map (fun r=>r.map (V.sub φ))=es):Pure Tryz.prog 60 [.isl es] (.isl es):=by
 have hz':C4 es 5=True:=eq_true hz
 have hl':=eq_true hl
 refine Pure.of 1 (A3.enter I0 (Nat.le_of_ble_eq_true rfl) (Run.go 100 ?_))
 simp -implicitDefEqProofs only [go_sem,A8,hz',hl']
 exact⟨Q1 hs,fun e=>e.symm⟩
theorem B9j(es:List (List V))(hz:C4 es 1)(hl:es.length≤17592186044416)(hs: ∀φ,es.map (fun r=>r.map (V.sub φ))=es):Pure Tryz.prog 61 [.isl es] (.isl es):=by
 have hz':C4 es 1=True:=eq_true hz
 have hl':=eq_true hl
 refine Pure.of 1 (A3.enter Z6 (Nat.le_of_ble_eq_true rfl) (Run.go 100 ?_))
 simp -implicitDefEqProofs only [go_sem,A8,hz',hl']
 exact⟨Q1 hs,fun e=>e.symm⟩
theorem B9k(es:List (List V))(hz:C4 es 5)(hl:es.length≤2932031007402)(hs: ∀φ,es.map (fun r=>r.map (V.sub φ))=es):Pure Tryz.prog 62 [.isl es] (.isl es):=by
 have hz':C4 es 5=True:=eq_true hz
 have hl':=eq_true hl
 refine Pure.of 1 (A3.enter I1 (Nat.le_of_ble_eq_true rfl) (Run.go 100 ?_))
 simp -implicitDefEqProofs only [go_sem,A8,hz',hl']
 exact⟨Q1 hs,fun e=>e.symm⟩
theorem C0V(es:List (List V))(hz:C4 es 3)(hl:es.length≤4398046511104)(hs: ∀φ,es.map (fun r=>r.map (V.sub φ))=es):Pure Tryz.prog 63 [.isl es] (.isl es):=by
 have hz':C4 es 3=True:=eq_true hz
 have hl':=eq_true hl
 refine Pure.of 1 (A3.enter O9 (Nat.le_of_ble_eq_true rfl) (Run.go 100 ?_))
 simp -implicitDefEqProofs only [go_sem,A8,hz',hl']
 exact⟨Q1 hs,fun e=>e.symm⟩
theorem C0W(es:List (List V))(hz:C4 es 5)(hl:es.length≤2932031007402)(hs: ∀φ,es.map (fun r=>r.map (V.sub φ))=es):Pure Tryz.prog 64 [.isl es] (.isl es):=by
 have hz':C4 es 5=True:=eq_true hz
 have hl':=eq_true hl
 refine Pure.of 1 (A3.enter M7 (Nat.le_of_ble_eq_true rfl) (Run.go 100 ?_))
 simp -implicitDefEqProofs only [go_sem,A8,hz',hl']
 exact⟨Q1 hs,fun e=>e.symm⟩
theorem B8{α:Type}(f:α→List V)(sz:Nat)(h: ∀x,(f x).length=sz)(l:List α):C4 (l.map f) sz:=fun r hr=>by
 obtain⟨y,_,rfl⟩:=List.mem_map.1 hr
 exact h y
theorem B5s(p:Fn)(hw:p.bd):Pure Tryz.prog 40 [.agg p.row] (.agg p.row):=by
 induction p using Fn.ind with
 | h p ih'=>
  have hl:=hw.self
  have c1:=B9i (p.code.map Ins.row) (B8 _ 5 (fun _=>rfl) _) (by rw [List.length_map];exact Nat.le_trans hl.code (by decide)) (fun φ=>C5 φ _ _ fun x _=>Ins.row_sub φ x)
  have c2:=B9j (p.lines.map D1) (B8 _ 1 (fun _=>rfl) _) (by rw [List.length_map];exact Nat.le_trans hl.lines (by decide)) (fun φ=>C5 φ _ _ fun x _=>A8P φ x)
  have c3:=B9k (p.consts.map Kst.row) (B8 _ 5 (fun _=>rfl) _) (by rw [List.length_map];exact Nat.le_trans hl.consts (by decide)) (fun φ=>C5 φ _ _ fun x _=>Kst.row_sub φ x)
  have c4:=C0V (p.ups.map Upv.row) (B8 _ 3 (fun _=>rfl) _) (by rw [List.length_map];exact Nat.le_trans hl.ups (by decide)) (fun φ=>C5 φ _ _ fun x _=>Upv.row_sub φ x)
  have c5:=C0W (p.vars.map Vr.row) (B8 _ 5 (fun _=>rfl) _) (by rw [List.length_map];exact Nat.le_trans hl.vars (by decide)) (fun φ=>C5 φ _ _ fun x _=>Vr.row_sub φ x)
  have g1:=fun φ=>C5 φ _ p.code fun x _=>Ins.row_sub φ x
  have s1:=g1 G6
  have f1:=fun d h=>Q1 (d:=d) (h:=h) g1
  have g2:=fun φ=>C5 φ _ p.lines fun x _=>A8P φ x
  have s2:=g2 G6
  have f2:=fun d h=>Q1 (d:=d) (h:=h) g2
  have g3:=fun φ=>C5 φ _ p.consts fun x _=>Kst.row_sub φ x
  have s3:=g3 G6
  have f3:=fun d h=>Q1 (d:=d) (h:=h) g3
  have g4:=fun φ=>C5 φ _ p.ups fun x _=>Upv.row_sub φ x
  have s4:=g4 G6
  have f4:=fun d h=>Q1 (d:=d) (h:=h) g4
  have g5:=fun φ=>C5 φ _ p.vars fun x _=>Vr.row_sub φ x
  have s5:=g5 G6
  have f5:=fun d h=>Q1 (d:=d) (h:=h) g5
  refine Pure.of 1 (A3.enter A5l (Nat.le_of_ble_eq_true rfl) ?_)
  rw [Fn.row_eq p]
  generalize p.code.map Ins.row=e1 at*
  generalize p.lines.map D1=e2 at*
  generalize p.consts.map Kst.row=e3 at*
  generalize p.ups.map Upv.row=e4 at*
  generalize p.vars.map Vr.row=e5 at*
  refine Run.go 100 ?_
  simp -implicitDefEqProofs only [go_sem,A8]
  refine A2s.pureF c1 (by simp -implicitDefEqProofs only [go_sem,s1]) ?_
  simp -implicitDefEqProofs only [go_sem]
  refine A2s.pureF c2 (by simp -implicitDefEqProofs only [go_sem,s2]) ?_
  simp -implicitDefEqProofs only [go_sem]
  refine A2s.pureF c3 (by simp -implicitDefEqProofs only [go_sem,s3]) ?_
  simp -implicitDefEqProofs only [go_sem]
  refine A2s.pureF c4 (by simp -implicitDefEqProofs only [go_sem,s4]) ?_
  simp -implicitDefEqProofs only [go_sem]
  refine A2s.pureF c5 (by simp -implicitDefEqProofs only [go_sem,s5]) ?_
  simp -implicitDefEqProofs only [go_sem]
  have hlen:(p.protos.map Fn.row).length=p.protos.length:=List.length_map ..
  have hpl:=hl.protos
  have hrz:=eq_true (B8 Fn.row 11 Fn.row_len p.protos)
  have hrow: ∀(k:Nat) q,p.protos[k]? =some q→(p.protos.map Fn.row)[k]? =some q.row:=fun k q hk=>by rw [List.getElem?_map,hk];rfl
  have hsub:=fun φ=>Fn.rows_sub φ p.protos
  have htk: ∀(k:Nat) q,p.protos[k]? =some q→(p.protos.take (k+1)).map Fn.row=(p.protos.take k).map Fn.row++ [q.row]:=fun k q hk=>by
   rw [List.take_add_one,hk];simp
  have htl: ∀k,((p.protos.take k).map Fn.row).length=min k p.protos.length:=fun k=>by simp
  have hta:(p.protos.take p.protos.length).map Fn.row=p.protos.map Fn.row:=by rw [List.take_length]
  have ht0:(p.protos.take 0).map Fn.row= []:=rfl
  generalize hP:p.protos.map Fn.row=es at*
  generalize hT:(fun k=>(p.protos.take k).map Fn.row)=T
  have hT': ∀k,(p.protos.take k).map Fn.row=T k:=fun k=>by rw [←hT]
  simp only [hT']at htk htl hta ht0
  refine Run.roundsK (fun(x:Nat×Nat×Nat)=>⟨[(29,.int .i64 x.1),(28,.int .i64 p.protos.length),(27,.isl es),(3,.sl (40*10000+37) x.2.1 0 x.1),(2,.ptr (40*10000+2) 1 0 0),(1,.ptr (40*10000+1) 0 0 0)],
    [((40*10000+37),x.2.1,.rows 11 (T x.1)),((40*10000+1),0,.rows 11 [[.str p.name,.int .i64 p.line,.int .i64 p.params,.bool p.vararg,.int .i64 p.regs,.isl e1,.isl e2,.isl e3,.isl es,.isl e4,.isl e5]]),((40*10000+2),1,.rows 11 [[.str [],.int .i64 0,.int .i64 0,.bool false,.int .i64 0,.nils,.nils,.nils,.nils,.nils,.nils]])],x.2.2⟩)
   (fun x=>x.1≤p.protos.length) (fun x=>p.protos.length-x.1) (0,2,3) ?_ (Nat.zero_le _) ?_
  ·refine .trans (.fresh (40*10000+37) 11 _ _ _) (.turn id ⟨.refl _,.refl _,.refl _,.nils,.refl _,.refl _,trivial⟩ (.at 0 rfl rfl (.of_eq (by simp only [ht0])) (.at 1 rfl rfl (.refl _) (.at 2 rfl rfl (.refl _) trivial))))
  rintro⟨k,st,m⟩ hk ih
  simp only at hk ih⊢
  refine Run.unf A8c (Run.go 100 ?_)
  by_cases hlt:k<p.protos.length
  ·have q0:((k:Int)<(p.protos.length:Int))=True:=eq_true (by omega)
   have q1:((0:Int)≤(k:Int))=True:=eq_true (by omega)
   obtain⟨q,hq⟩: ∃q,p.protos[k]? =some q:=⟨p.protos[k],by simp [hlt]⟩
   have hqm:q∈p.protos:=List.mem_of_getElem? hq
   have hqr:=hrow k q hq
   have hql:=q.row_len
   have hqs:=Fn.row_sub G6 q
   have hih:=ih' q hqm (hw.child hqm)
   have hTl:(T k).length=k:=by rw [htl];omega
   have hTk:=htk k q hq
   have hzk:((k:Int)+1)=((k+1:Nat):Int):=by omega
   have hap:(k+1≤733007751850)=True:=eq_true (by omega)
   have hTt:(T k).take k=T k:=List.take_of_length_le (by omega)
   have htq:q.row.take 11=q.row:=List.take_of_length_le (by omega)
   generalize q.row=qr at*
   simp -implicitDefEqProofs only [go_sem,q0,q1,hlen,hrz,hqr,Option.some.injEq,forall_eq',hql,htq,List.append_nil]
   refine⟨hlt,?_⟩
   refine A3.pureF hih (by simp -implicitDefEqProofs only [go_sem,hqs]) ?_
   simp -implicitDefEqProofs only [go_sem,hql,hTl,hap,hTt,htq]
   refine⟨by omega,?_⟩
   refine ih _ (k+1,m+1,m+2) (by simp only;omega) (by simp only;omega) (O8.wk ?_)
   simp only [←hzk,hTk]
   simp -implicitDefEqProofs only [go_sem]
  ·have e:k=p.protos.length:=by omega
   subst e
   simp -implicitDefEqProofs only [go_sem,Int.lt_irrefl]
   have hTl:(T p.protos.length).length=p.protos.length:=by rw [htl];omega
   have e2:Nat.ble p.protos.length (T p.protos.length).length=true:=Nat.ble_eq_true_of_le (by omega)
   have e3:(T p.protos.length).take p.protos.length=es:=by rw [List.take_of_length_le (by omega),hta]
   have e4:=fun d h=>Q1 (d:=d) (h:=h) hsub
   simp only [f1,f2,f3,f4,f5,e3,if_pos (Nat.le_of_ble_eq_true e2),e4,and_self]
theorem C7(p:Fn):p.row.length=11∧p.row.take 11=p.row:=⟨p.row_len,List.take_of_length_le (by rw [p.row_len];exact Nat.le_refl _)⟩
theorem B9t(p:Fn)(n:Nat):A3 Tryz.prog 18 [.agg p.row] [] n fun r h' n'=>r= .fn 38 [.ptr (18*10000+1) n 0 0]∧h'= [((18*10000+1),n,.rows 11 [p.row])]∧n'=n+1:=by
 obtain⟨h1,h2⟩:=C7 p
 generalize p.row=pr at*
 refine A3.enterK A7B (Nat.le_of_ble_eq_true rfl) fun Q hQ=>Run.go 100 ?_
 simp -implicitDefEqProofs only [go_sem,A8,h1,h2]
 subst hQ
 exact .is ⟨rfl,rfl,rfl⟩
structure Rnds(nm st:Nat)(whole:List Fn)(J X:List Fn→A2→Nat→Prop):Prop where
 round: ∀pre q rest h n,whole=pre++q::rest→J pre h n→J0 Tryz.prog nm st [.agg q.row] h n fun r h' n'=>(r= .bool true∧J (pre++ [q]) h' n')∨(r= .bool false∧X (pre++ [q]) h' n')
 up: ∀pre h n n',n≤n'→J pre h n→J pre h n'
 apJ: ∀pre h n,J pre h n→G7 h (39*10000+2)∧G7 h (39*10000+6)
 apX: ∀pre h n,X pre h n→G7 h (39*10000+2)∧G7 h (39*10000+6)
theorem C2N{nm st:Nat}{whole:List Fn}{J X:List Fn→A2→Nat→Prop}(hR:Rnds nm st whole J X)(p:Fn)(hp:p.bd): ∀pre post h n,whole=pre++p.each++post→J pre h n→
  A3 Tryz.prog 39 [.agg p.row,.yld nm st] h n fun r h' n'=>(r= .bool true∧J (pre++p.each) h' n')∨(r= .bool false∧ ∃pre' q rest,whole=pre'++q::rest∧X (pre'++ [q]) h' n'):=by
 induction p using Fn.ind with
 | h p ih'=>
  intro pre post h n hw hJ
  have hp8:=hp.self.protos
  obtain⟨a1,a2⟩:=hR.apJ _ _ _ hJ
  have d1:=a1.del
  have d2:=a2.del
  have hround:=hR.round pre p (Fn.eachs p.protos++post) h (n+1) (by rw [hw,Fn.each_eq];simp) (hR.up _ _ _ _ (Nat.le_succ n) hJ)
  refine A3.enterK A7I (Nat.le_of_ble_eq_true rfl) fun Q hQ=>Run.go 100 ?_
  obtain⟨h1,h2⟩:=C7 p
  have heq:=p.row_eq
  have h8:p.row[8]? =some (.isl (p.protos.map Fn.row)):=by rw [heq];rfl
  have hpl:(p.protos.map Fn.row).length=p.protos.length:=List.length_map ..
  have hrz:=eq_true (B8 Fn.row 11 Fn.row_len p.protos)
  have hrow: ∀(k:Nat) q,p.protos[k]? =some q→(p.protos.map Fn.row)[k]? =some q.row:=fun k q hk=>by rw [List.getElem?_map,hk];rfl
  clear heq
  generalize p.row=pr at*
  generalize p.protos.map Fn.row=es at*
  simp -implicitDefEqProofs only [go_sem,A8,h1,h2,d1]
  refine J0.use (rest:= [_]) hround rfl (fun e he e' he'=>by rw [List.mem_singleton.1 he];exact a1 e' he') ?_
  rintro r h' n' hn (⟨rfl,hJ'⟩|⟨rfl,hX⟩)
  ·simp -implicitDefEqProofs only [go_sem,h8]
   refine Run.roundsK (fun(x:Nat×A2×Nat)=>⟨[(14,.int .i64 x.1),(13,.int .i64 p.protos.length),(12,.isl es),(2,.ptr (39*10000+2) n 0 0),(1,.yld nm st)],((39*10000+2),n,.rows 11 [pr])::x.2.1,x.2.2⟩)
    (fun x=>x.1≤p.protos.length∧J (pre++ [p]++Fn.eachs (p.protos.take x.1)) x.2.1 x.2.2) (fun x=>p.protos.length-x.1) (0,h',n') ?_ ⟨Nat.zero_le _,by simpa [Fn.eachs]using hJ'⟩ ?_
   ·refine O8.wk ⟨D3.1 (by simp -implicitDefEqProofs only [go_sem,hpl]),fun e he=> ?_,Nat.le_refl _⟩
    simpa using he
   rintro⟨k,h3,n3⟩ ⟨hk,hJ3⟩ ih
   simp only at hk hJ3 ih⊢
   obtain⟨b1,b2⟩:=hR.apJ _ _ _ hJ3
   have c1:=b1.del
   have c2:=b2.del
   refine Run.unf A9U (Run.go 100 ?_)
   by_cases hlt:k<p.protos.length
   ·have q0:((k:Int)<(p.protos.length:Int))=True:=eq_true (by omega)
    have q1:((0:Int)≤(k:Int))=True:=eq_true (by omega)
    obtain⟨q,hq⟩: ∃q,p.protos[k]? =some q:=⟨p.protos[k],by simp [hlt]⟩
    have hqm:q∈p.protos:=List.mem_of_getElem? hq
    have hqr:=hrow k q hq
    have hql:=q.row_len
    have htq:q.row.take 11=q.row:=List.take_of_length_le (by omega)
    have hzk:((k:Int)+1)=((k+1:Nat):Int):=by omega
    have hspl:p.protos=p.protos.take k++q::p.protos.drop (k+1):=by
     have:=List.getElem_of_getElem? hq
     obtain⟨hk',e⟩:=this
     rw [←e,List.getElem_cons_drop];simp
    have hw3:whole=(pre++ [p]++Fn.eachs (p.protos.take k))++q.each++(Fn.eachs (p.protos.drop (k+1))++post):=by
     have e1:Fn.eachs p.protos=Fn.eachs (p.protos.take k)++(q.each++Fn.eachs (p.protos.drop (k+1))):=by
      conv=>lhs;rw [hspl]
      rw [Fn.eachs_append,Fn.eachs]
     rw [hw,Fn.each_eq p,e1];simp
    have hcall:=ih' q hqm (hp.child hqm) _ _ h3 (n3+1) hw3 (hR.up _ _ _ _ (Nat.le_succ n3) hJ3)
    have htk:Fn.eachs (p.protos.take (k+1))=Fn.eachs (p.protos.take k)++q.each:=by
     rw [List.take_add_one,hq];simp [Fn.eachs_append,Fn.eachs]
    generalize q.row=qr at*
    simp -implicitDefEqProofs only [go_sem,q0,q1,hpl,hrz,hqr,Option.some.injEq,forall_eq',hql,htq,List.append_nil,c2]
    refine⟨hlt,?_⟩
    refine A3.use (rest:= [_,_]) hcall rfl (fun e he e' he'=> ?_) ?_
    ·simp only [List.mem_cons,List.not_mem_nil,or_false]at he
     rcases he with rfl|rfl
     ·exact b2 e' he'
     ·exact b1 e' he'
    rintro r h4 n4 hn4 (⟨rfl,hJ4⟩|⟨rfl,pre',q',rest,hwx,hX⟩)
    ·simp -implicitDefEqProofs only [go_sem]
     refine⟨by omega,?_⟩
     refine ih _ (k+1,h4,n4) ⟨by simp only;omega,by simp only [htk];rw [←List.append_assoc];exact hJ4⟩ (by simp only;omega) (O8.wk ⟨D3.1 (by simp -implicitDefEqProofs only [go_sem,hzk]),fun e he=>List.mem_cons_of_mem _ he,Nat.le_refl _⟩)
    ·simp -implicitDefEqProofs only [go_sem]
     subst hQ
     refine .to (Or.inr ⟨rfl,pre',q',rest,hwx,hX⟩) (O8.wk ⟨fun p hp=> ?_,fun e he=>List.mem_cons_of_mem _ (List.mem_cons_of_mem _ he),Nat.le_refl _⟩)
     rw [List.mem_singleton.1 hp];rfl
   ·have e:k=p.protos.length:=by omega
    subst e
    simp -implicitDefEqProofs only [go_sem,Int.lt_irrefl]
    subst hQ
    rw [List.take_length]at hJ3
    refine .to (Or.inl ⟨rfl,by rw [Fn.each_eq];simpa using hJ3⟩) (O8.wk ⟨fun p hp=> ?_,fun e he=>List.mem_cons_of_mem _ he,Nat.le_refl _⟩)
    rw [List.mem_singleton.1 hp];rfl
  ·simp -implicitDefEqProofs only [go_sem]
   subst hQ
   refine .to (Or.inr ⟨rfl,pre,p,Fn.eachs p.protos++post,by rw [hw,Fn.each_eq];simp,hX⟩) (O8.wk ⟨fun p hp=> ?_,fun e he=>List.mem_cons_of_mem _ he,Nat.le_refl _⟩)
   rw [List.mem_singleton.1 hp];rfl
theorem B7g{nm st b sb:Nat}{J X:List Fn→A2→Nat→Prop}(p:Fn)(hp:p.bd)(hR:Rnds nm st p.each J X)(h:A2)(n:Nat)(hg:A2.get h b sb=some (.rows 11 [p.row]))(hJ:J [] h n):
  A3 Tryz.prog 38 [.yld nm st,.ptr b sb 0 0] h n fun r h' n'=>J p.each h' n'∨ ∃pre' q rest,p.each=pre'++q::rest∧X (pre'++ [q]) h' n':=by
 obtain⟨h1,h2⟩:=C7 p
 have hc:=B5s p hp
 have hs:=Fn.row_sub G6 p
 have hw:=C2N hR p hp [] [] h n (by simp) hJ
 generalize p.row=pr at*
 refine A3.enterK A5j (Nat.le_of_ble_eq_true rfl) fun Q hQ=>Run.go 100 ?_
 simp -implicitDefEqProofs only [go_sem,A8,hg,h1,h2]
 refine A3.pureF hc (by simp -implicitDefEqProofs only [go_sem,hs]) ?_
 simp -implicitDefEqProofs only [go_sem]
 refine hw.mono ?_
 rintro r h' n' (⟨rfl,hJ'⟩|⟨rfl,pre',q',rest,hwx,hX⟩)
 ·simp -implicitDefEqProofs only [go_sem]
  subst hQ
  exact .is (.inl (by simpa using hJ'))
 ·simp -implicitDefEqProofs only [go_sem]
  subst hQ
  exact .is (.inr ⟨pre',q',rest,hwx,hX⟩)
def A3o(l:List Fn):Nat:=(l.map fun q=>q.code.length).sum
theorem B7P(l:List Fn)(q:Fn):A3o (l++ [q])=A3o l+q.code.length:=by simp [A3o]
theorem B6x: ∀{l:List Fn},(∀q∈l,q.Le)→A3o l≤l.length*3518437208780
 | [],_=>by simp [A3o]
 |q::r,h=>by
  have h1:=(h q List.mem_cons_self).code
  have h2:=B6x fun x hx=>h x (List.mem_cons_of_mem _ hx)
  simp only [A3o,List.map_cons,List.sum_cons,List.length_cons]at h2⊢
  omega
theorem B5Z{α:Type}(l:List α):l= []∨ ∃r x,l=r++ [x]:=by
 rcases List.eq_nil_or_concat l with h|⟨r,x,h⟩
 ·exact .inl h
 ·exact .inr ⟨r,x,by simpa using h⟩
theorem C2y{R:List (List V)}{l:List Fn}{m k:Nat}{q:Fn}(h:R.take m=l.map Fn.row)(hk:l[k]? =some q)(hm:l.length=m):R[k]? =some q.row:=by
 have hlt:=(List.getElem?_eq_some_iff.1 hk).1
 have:(R.take m)[k]? =some q.row:=by rw [h,List.getElem?_map,hk];rfl
 rwa [List.getElem?_take_of_lt (by omega)]at this
theorem C0w{R:List (List V)}{l:List Fn}{q:Fn}{m:Nat}(h:R.take (m+1)=(l++ [q]).map Fn.row)(hl:l.length=m):R.take m=l.map Fn.row:=by
 have:=congrArg (List.take m) h
 rw [List.take_take,Nat.min_eq_left (by omega)]at this
 rw [this]
 simp [←hl]
theorem A4M(p:Fn)(hp:p.bd)(hc:p.each.length≤1000000):Pure Tryz.prog 32 [.agg p.row] (.isl (p.each.map Fn.row)):=by
 obtain⟨h1,h2⟩:=C7 p
 have hfin:=fun d h=>Q1 (d:=d) (h:=h) fun φ=>Fn.rows_sub φ p.each
 refine Pure.of 1 (A3.enter j9 (Nat.le_of_ble_eq_true rfl) (Run.go 100 ?_))
 have hpr: [p.row]= [p].map Fn.row:=rfl
 generalize hpr':p.row=pr at*
 simp -implicitDefEqProofs only [go_sem,A8,h1,h2]
 refine Run.roundsK (fun(x:List Fn×List (List V)×List Fn×Nat×Nat×Nat)=>⟨[(4,.sl (32*10000+42) x.2.2.2.1 0 x.1.length),(3,.sl (32*10000+26) x.2.2.2.2.1 0 x.2.2.1.length)],
   [((32*10000+42),x.2.2.2.1,.rows 11 x.2.1),((32*10000+26),x.2.2.2.2.1,.rows 11 (x.2.2.1.map Fn.row))],x.2.2.2.2.2⟩)
  (fun x=>x.2.1.take x.1.length=x.1.map Fn.row∧x.1.length≤x.2.1.length∧x.2.2.1++Fn.eachs x.1.reverse=p.each) (fun x=>(Fn.eachs x.1.reverse).length) ([p],[pr],[],1,2,3) ?_ ⟨hpr,Nat.le_refl _,by simp [Fn.eachs]⟩ ?_
 ·refine .trans (.fresh (32*10000+26) 11 _ _ _) (.turn (fun b=>if b=(32*10000+9)then(32*10000+42)else b) ⟨.sl,.nils,trivial⟩ (.at 1 rfl rfl (.refl _) (.at 0 rfl rfl (.refl _) trivial)))
 rintro⟨td,R,out,st,so,n⟩ ⟨hR,hRl,hO⟩ ih
 simp only at hR hRl hO ih⊢
 have hol:(out.map Fn.row).length=out.length:=List.length_map ..
 have hsum:out.length+(Fn.eachs td.reverse).length=p.each.length:=by rw [←hO];simp
 have hse:=Fn.eachs_len td.reverse
 rw [List.length_reverse]at hse
 refine Run.unf A2J (Run.go 100 ?_)
 rcases B5Z td with rfl|⟨td,q,rfl⟩
 ·have hO':out=p.each:=by rw [←hO];simp [Fn.eachs]
  subst hO'
  have e1:(p.each.map Fn.row).take p.each.length=p.each.map Fn.row:=List.take_of_length_le (by omega)
  generalize p.each.map Fn.row=es at*
  simp -implicitDefEqProofs only [go_sem,List.length_nil,hol,e1]
  exact hfin _ _
 ·have hln:(td++ [q]).length=td.length+1:=by simp
  rw [hln]at hR hRl hse⊢
  have q0:((0:Int)<((td.length+1:Nat):Int))=True:=eq_true (by omega)
  have q1:((td.length+1:Nat):Int)-1=(td.length:Int):=by omega
  have q2:((0:Int)≤(td.length:Int))=True:=eq_true (by omega)
  have q3:((td.length:Int)<((td.length+1:Nat):Int))=True:=eq_true (by omega)
  have q4:((td.length:Int)≤((td.length+1:Nat):Int))=True:=eq_true (by omega)
  have hq:=C2y (k:=td.length) (q:=q) hR (by simp) hln
  have hR0:=C0w hR rfl
  have hqm:q∈p.each:=by rw [←hO];exact List.mem_append.2 (.inr (by rw [List.reverse_append];simp only [List.reverse_cons,List.reverse_nil,List.nil_append,List.cons_append];rw [Fn.eachs];exact List.mem_append.2 (.inl q.self_mem)))
  have hqp:=(hp q hqm).protos
  obtain⟨g1,g2⟩:=C7 q
  have g8:q.row[8]? =some (.isl (q.protos.map Fn.row)):=by rw [q.row_eq];rfl
  have hpl:(q.protos.map Fn.row).length=q.protos.length:=List.length_map ..
  have hrz:=eq_true (B8 Fn.row 11 Fn.row_len q.protos)
  have hap:(out.length+1≤137438953472)=True:=eq_true (by omega)
  have hotk:(out.map Fn.row).take out.length=out.map Fn.row:=List.take_of_length_le (by omega)
  have q5:td.length<R.length:=by omega
  generalize hqr:q.row=qr at*
  generalize hes:q.protos.map Fn.row=es at*
  generalize hOR:out.map Fn.row=OR at*
  simp -implicitDefEqProofs only [go_sem,q0,q1,q2,q3,q4,q5,hq,g1,g2,g8,hol,hpl,hap,hotk,Option.some.injEq,forall_eq',List.append_nil]
  refine⟨by omega,by omega,?_⟩
  have hz0:((td.length:Int)-0).toNat=td.length:=by omega
  rw [hz0]
  have hpl2:q.protos.length≤(Fn.eachs q.protos).length:=Fn.eachs_len _
  have hqe:Fn.eachs (td++ [q]).reverse=q::(Fn.eachs q.protos++Fn.eachs td.reverse):=by rw [List.reverse_append];simp only [List.reverse_cons,List.reverse_nil,List.nil_append,List.cons_append];rw [Fn.eachs,Fn.each_eq];rfl
  rw [hqe]at hO hsum ih
  have htl:=Fn.eachs_len td.reverse
  rw [List.length_reverse]at htl
  simp only [List.length_cons,List.length_append]at hsum
  refine Run.roundsK (fun(x:Nat×List (List V)×Nat×Nat)=>⟨[(7,.int .i64 ((q.protos.length:Int)-1-x.1)),(6,.ptr (32*10000+6) n 0 0),(4,.sl (32*10000+42) x.2.2.1 0 (td.length+x.1)),(3,.sl (32*10000+26) (n+1) 0 (out.length+1))],
    [((32*10000+42),x.2.2.1,.rows 11 x.2.1),((32*10000+26),n+1,.rows 11 (OR++ [qr])),((32*10000+6),n,.rows 11 [qr])],x.2.2.2⟩)
   (fun x=>x.1≤q.protos.length∧x.2.1.take (td.length+x.1)=(td++q.protos.reverse.take x.1).map Fn.row∧td.length+x.1≤x.2.1.length) (fun x=>q.protos.length-x.1) (0,R,st,n+1+1) ?_ ⟨Nat.zero_le _,by simpa using hR0,by simp only;omega⟩ ?_
  ·exact O8.wk (by simp -implicitDefEqProofs only [go_sem,Int.sub_zero])
  rintro⟨k,R',st',m⟩ ⟨hk,hR',hRl'⟩ ih2
  simp only at hk hR' hRl' ih2⊢
  refine Run.unf A2K (Run.go 100 ?_)
  by_cases hlt:k<q.protos.length
  ·have z0:((0:Int)≤(q.protos.length:Int)-1-(k:Int))=True:=eq_true (by omega)
   have z1:((q.protos.length:Int)-1-(k:Int)<(q.protos.length:Int))=True:=eq_true (by omega)
   have z2:((q.protos.length:Int)-1-(k:Int)).toNat=q.protos.length-1-k:=by omega
   obtain⟨r,hr⟩: ∃r,q.protos[q.protos.length-1-k]? =some r:=⟨q.protos[q.protos.length-1-k]'(by omega),by simp⟩
   have hrr:q.protos.reverse[k]? =some r:=by rw [List.getElem?_reverse hlt];exact hr
   have hre:es[q.protos.length-1-k]? =some r.row:=by rw [←hes,List.getElem?_map,hr];rfl
   obtain⟨f1,f2⟩:=C7 r
   have hap2:(td.length+k+1≤137438953472)=True:=eq_true (by omega)
   have z3:td.length+k≤R'.length:=hRl'
   have hnew:(td++q.protos.reverse.take (k+1)).map Fn.row=R'.take (td.length+k)++ [r.row]:=by
    rw [hR',List.take_add_one,hrr];simp
   have hmin:(R'.take (td.length+k)).length=td.length+k:=by rw [List.length_take];omega
   generalize r.row=rr at*
   simp -implicitDefEqProofs only [go_sem,z0,z1,z2,hpl,hrz,hre,g8,f1,f2,hap2,z3,Option.some.injEq,forall_eq']
   refine⟨by omega,by omega,?_⟩
   have z4:(q.protos.length:Int)-1-((k+1:Nat):Int)=(q.protos.length:Int)-1-k-1:=by omega
   refine ih2 _ (k+1,R'.take (td.length+k)++ [rr],m,m+1) ⟨by simp only;omega,?_,?_⟩ (by simp only;omega) (O8.wk (by simp -implicitDefEqProofs only [go_sem,z4,Nat.add_assoc]))
   ·simp only [hnew]
    exact List.take_of_length_le (by simp only [List.length_append,hmin,List.length_singleton];omega)
   ·simp only [List.length_append,hmin,List.length_singleton];omega
  ·have e:k=q.protos.length:=by omega
   subst e
   have z0:((0:Int)≤(q.protos.length:Int)-1-(q.protos.length:Int))=False:=eq_false (by omega)
   simp -implicitDefEqProofs only [go_sem,z0]
   have hl2:(td++q.protos.reverse).length=td.length+q.protos.length:=by simp
   have hl3:(out++ [q]).length=out.length+1:=by simp
   have ho3:(out++ [q]).map Fn.row=OR++ [qr]:=by rw [List.map_append,hOR,←hqr];rfl
   have hre:(td++q.protos.reverse).reverse=q.protos++td.reverse:=by simp
   rw [show q.protos.reverse.take q.protos.length=q.protos.reverse from List.take_of_length_le (by simp)]at hR'
   refine ih _ (td++q.protos.reverse,R',out++ [q],st',n+1,m) ⟨by simp only [hl2];exact hR',by simp only [hl2];exact hRl',?_⟩ ?_ (O8.wk ?_)
   ·simp only [hre,Fn.eachs_append]
    rw [←hO];simp
   ·simp only [hre,Fn.eachs_append,List.length_append,List.length_cons];omega
   ·simp only [hl2,hl3,ho3]
    simp -implicitDefEqProofs only [go_sem]
theorem B7N(p:Fn)(hp:p.bd)(hc:p.each.length≤1000000):Pure Tryz.prog 13 [.agg p.row] (.int .i64 (A3o p.each)):=by
 obtain⟨h1,h2⟩:=C7 p
 have hre:=A4M p hp hc
 have hs:=Fn.row_sub G6 p
 refine Pure.of 0 (A3.enter o7 (Nat.le_of_ble_eq_true rfl) (Run.go 100 ?_))
 have hpm:(p.each.map Fn.row).length=p.each.length:=List.length_map ..
 have hrz:=eq_true (B8 Fn.row 11 Fn.row_len p.each)
 have hrow: ∀(k:Nat) q,p.each[k]? =some q→(p.each.map Fn.row)[k]? =some q.row:=fun k q hk=>by rw [List.getElem?_map,hk];rfl
 generalize p.row=pr at*
 generalize p.each.map Fn.row=es at*
 simp -implicitDefEqProofs only [go_sem,A8,h1,h2]
 refine A3.pureF hre (by simp -implicitDefEqProofs only [go_sem,hs]) ?_
 simp -implicitDefEqProofs only [go_sem]
 refine Run.rounds (fun(x:Nat)=>⟨[(5,.int .i64 x),(4,.isl es),(3,.int .i64 (A3o (p.each.take x)))],[],1⟩) (fun x=>x≤p.each.length) (fun x=>p.each.length-x) 0 (by simp -implicitDefEqProofs only [go_sem,List.take_zero,A3o,List.map_nil,List.sum_nil]) (Nat.zero_le _) ?_
 rintro k hk ih
 refine Run.unf A2M (Run.go 100 ?_)
 by_cases hlt:k<p.each.length
 ·have q0:((k:Int)<(p.each.length:Int))=True:=eq_true (by omega)
  have q1:((0:Int)≤(k:Int))=True:=eq_true (by omega)
  obtain⟨q,hq⟩: ∃q,p.each[k]? =some q:=⟨p.each[k],by simp [hlt]⟩
  have hqr:=hrow k q hq
  have hqm:q∈p.each:=List.mem_of_getElem? hq
  have g5:q.row[5]? =some (.isl (q.code.map Ins.row)):=by rw [q.row_eq];rfl
  have hcl:(q.code.map Ins.row).length=q.code.length:=List.length_map ..
  have htk:A3o (p.each.take (k+1))=A3o (p.each.take k)+q.code.length:=by rw [List.take_add_one,hq];exact B7P _ _
  have hb:=B6x (l:=p.each.take (k+1)) fun x hx=>hp x (List.mem_of_mem_take hx)
  have hbl:(p.each.take (k+1)).length≤1000000:=Nat.le_trans (by rw [List.length_take];omega) hc
  generalize q.row=qr at*
  generalize q.code.map Ins.row=cs at*
  simp -implicitDefEqProofs only [go_sem,q0,q1,hpm,hrz,hqr,g5,hcl,Option.some.injEq,forall_eq']
  refine⟨hlt,by omega,by omega,?_⟩
  exact ih _ (k+1) (by omega) (by omega) (by simp -implicitDefEqProofs only [go_sem,htk];exact⟨by omega,by omega⟩)
 ·have e:k=p.each.length:=by omega
  subst e
  rw [List.take_length]
  simp -implicitDefEqProofs only [go_sem,hpm,Int.lt_irrefl]
def parts(q:Fn):Nat:=q.code.length+q.lines.length+q.consts.length+q.ups.length+q.vars.length
structure SmallP(p:Fn):Prop where
 count:p.each.length≤40
 parts: ∀q∈p.each,parts q≤400∧q.protos.length≤40
theorem SmallP.bd{p:Fn}(h:SmallP p):p.bd:=fun q hq=>by
 have h1:=(h.parts q hq).1
 have h2:=(h.parts q hq).2
 unfold Go.Proofs.YtcjgeliglgcflaaGreatDoor.parts at h1
 exact⟨by omega,by omega,by omega,by omega,by omega,by omega⟩
def N7:List Int→Int
 | []=>0
 |x::r=>if x=0 then N7 r else x
theorem A4C: ∀{l:List Int},(∀x∈l,x=0)→N7 l=0
 | [],_=>rfl
 |x::r,h=>by rw [N7,if_pos (h x List.mem_cons_self)];exact A4C fun y hy=>h y (List.mem_cons_of_mem _ hy)
theorem A7V: ∀{l:List Int} {x:Int} {r:List Int},(∀y∈l,y=0)→x≠0→N7 (l++x::r)=x
 | [],x,r,_,hx=>by simp [N7,hx]
 |y::l,x,r,h,hx=>by rw [List.cons_append,N7,if_pos (h y List.mem_cons_self)];exact A7V (fun z hz=>h z (List.mem_cons_of_mem _ hz)) hx
def A9J(d:Nat)(l:List Int):Int:=if 64<d then 3 else N7 l
theorem C0T(p:Fn)(hp:p.bd)(d:Nat)(hd:Pure Tryz.prog 17 [.agg p.row] (.int .i64 d))(e:Fn→Int)
  (hs: ∀q∈p.each,Pure Tryz.prog 19 [.agg q.row] (.int .i64 (e q))):Pure Tryz.prog 7 [.agg p.row] (.int .i64 (A9J d (p.each.map e))):=by
 obtain⟨h1,h2⟩:=C7 p
 have hps:=Fn.row_sub G6 p
 have hec:=fun n=>B9t p n
 have he1:=fun nm st b sb J X hR h n hg hJ=>B7g (nm:=nm) (st:=st) (b:=b) (sb:=sb) (J:=J) (X:=X) p hp hR h n hg hJ
 generalize hpr:p.row=pr at*
 refine Pure.of 0 (A3.enter A6t (Nat.le_of_ble_eq_true rfl) (Run.go 100 ?_))
 simp -implicitDefEqProofs only [go_sem,A8,h1,h2]
 refine A3.pureF hd (by simp -implicitDefEqProofs only [go_sem,hps]) ?_
 by_cases hb:64<d
 ·have z0:((64:Int)<(d:Int))=True:=eq_true (by omega)
  have z1:A9J d (p.each.map e)=3:=if_pos hb
  simp -implicitDefEqProofs only [go_sem,z0,z1]
 have z0:((64:Int)<(d:Int))=False:=eq_false (by omega)
 have z1:A9J d (p.each.map e)=N7 (p.each.map e):=if_neg hb
 rw [z1]
 simp -implicitDefEqProofs only [go_sem,z0,h1,h2]
 refine A3.at [] [0,1] (hec 2) rfl rfl ?_
 rintro r h' n' hn ⟨rfl,rfl,rfl⟩
 simp -implicitDefEqProofs only [go_sem]
 refine⟨by kernel_rfl,?_⟩
 generalize hSL: [(9,V.fn 38 [V.ptr (18*10000+1) 2 0 0]),(8,.agg pr),(7,.bool false),(6,.int .i64 d),(5,.agg pr),(2,.ptr (7*10000+2) 1 0 0),(1,.ptr (7*10000+1) 0 0 0),(0,.agg pr)]=SL
 refine A3.pre (xs':= [.yld (7*10000+9010) 3,.ptr (18*10000+1) 2 0 0]) (h':= [((7*10000+9010),3,.loop 16 SL [10] (d9 Tryz.prog 16 Q6 Q7) .ready none),((7*10000+2),1,.rows 1 [[.int .i64 0]]),((18*10000+1),2,.rows 11 [pr]),((7*10000+1),0,.rows 11 [pr])]) (n':=4)
  (.turn id ⟨.refl _,.refl _,trivial⟩ (.at 0 rfl rfl (.refl _) (.at 2 rfl rfl (.refl _) (.at 1 rfl rfl (.refl _) (.at 3 rfl rfl (.refl _) trivial))))) rfl ?_
 refine(he1 (7*10000+9010) 3 (18*10000+1) 2 (fun pre h n=>(∀x∈pre.map e,x=0)∧h= [((7*10000+9010),3,.loop 16 SL [10] (d9 Tryz.prog 16 Q6 Q7) .ready none),((7*10000+2),1,.rows 1 [[.int .i64 0]]),((18*10000+1),2,.rows 11 [pr]),((7*10000+1),0,.rows 11 [pr])])
  (fun pre h n=> ∃pre' q,pre=pre'++ [q]∧(∀x∈pre'.map e,x=0)∧e q≠0∧h= [((7*10000+9010),3,.loop 16 SL [10] (d9 Tryz.prog 16 Q6 Q7) .done (some .ret)),((7*10000+2),1,.rows 1 [[.int .i64 (e q)]]),((18*10000+1),2,.rows 11 [pr]),((7*10000+1),0,.rows 11 [pr])]) ⟨?_,fun _ _ _ _ _ h=>h,?_,?_⟩ _ 4 (by simp -implicitDefEqProofs only [go_sem]) ⟨by simp,rfl⟩).mono ?_
 ·rintro pre q rest h n hw ⟨hz,rfl⟩
  have hqm:q∈p.each:=by rw [hw];simp
  have hq:=hs q hqm
  obtain⟨g1,g2⟩:=C7 q
  have hqs:=Fn.row_sub G6 q
  generalize q.row=qr at*
  refine J0.enterU A8a A8b rfl rfl fun Q hQ=>Run.go 100 ?_
  subst hSL
  simp -implicitDefEqProofs only [go_sem,g1,g2]
  refine A3.pureF hq (by simp -implicitDefEqProofs only [go_sem,hqs]) ?_
  by_cases hq0:e q=0
  ·simp -implicitDefEqProofs only [go_sem,hq0]
   subst hQ
   refine .to (n2:=n+1) (.inl ⟨rfl,?_,rfl⟩) (.turn id ⟨.refl _,trivial⟩ (.at 0 rfl rfl (.refl _) (.at 2 rfl rfl (.refl _) (.at 3 rfl rfl (.refl _) (.at 4 rfl rfl (.refl _) trivial)))))
   intro x hx
   simp only [List.map_append,List.mem_append,List.map_cons,List.map_nil,List.mem_singleton]at hx
   rcases hx with hx|rfl
   ·exact hz x hx
   ·exact hq0
  ·simp -implicitDefEqProofs only [go_sem,hq0]
   subst hQ
   refine .to (n2:=n+1) (.inr ⟨rfl,pre,q,rfl,hz,hq0,rfl⟩) (.turn id ⟨.refl _,trivial⟩ (.at 0 rfl rfl (.refl _) (.at 1 rfl rfl (.refl _) (.at 3 rfl rfl (.refl _) (.at 4 rfl rfl (.refl _) trivial)))))
 ·rintro pre h n ⟨_,rfl⟩
  exact⟨.of rfl,.of rfl⟩
 ·rintro pre h n ⟨_,_,_,_,_,rfl⟩
  exact⟨.of rfl,.of rfl⟩
 ·rintro r h' n' (⟨hz,rfl⟩|⟨pre,q,rest,hw,pre',q',hpq,hz,hq0,rfl⟩)
  ·subst hSL
   have:=A4C hz
   simp -implicitDefEqProofs only [go_sem,this]
  ·subst hSL
   obtain⟨rfl,hqq⟩:=List.append_inj' hpq rfl
   obtain rfl:q=q':=by simpa using hqq
   have:N7 (p.each.map e)=e q:=by rw [hw,List.map_append,List.map_cons];exact A7V hz hq0
   simp -implicitDefEqProofs only [go_sem,this]
end Go.Proofs.YtcjgeliglgcflaaGreatDoor
