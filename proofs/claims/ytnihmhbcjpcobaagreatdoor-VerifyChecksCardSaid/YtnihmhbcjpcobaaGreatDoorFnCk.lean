/-
 Functions within functions, their parts, copies. No condition.
-/
import Derived.Test.YtnihmhbcjpcobaaGreatDoorFn
import Derived.Test.YtnihmhbcjpcobaaGreatDoorRnd
import Derived.Test.YtnihmhbcjpcobaaGreatDoorCode
set_option linter.unusedVariables false
set_option linter.unusedSimpArgs false
set_option maxRecDepth 100000
set_option maxHeartbeats 0
namespace Go.Proofs.YtnihmhbcjpcobaaGreatDoor
open Go.Abs
attribute [local irreducible] A2 Run P7
theorem P9{d:Nat}{h:A0}{es:List (List V)}(hs: ∀φ,es.map (fun r=>r.map (V.sub φ))=es):es.map (fun r=>r.map (frz d h))=es:=by
 obtain⟨φ,e⟩:=D8 (d:=d) (h:=h)
 rw [e];exact hs φ
theorem C0o(es:List (List V))(hz:C4 es 5)(hl:es.length≤3518437208883)(hs: ∀φ,es.map (fun r=>r.map (V.sub φ))=es):Pure Tryz.prog 42 [.isl es] (.isl es):=by
 have hz':C4 es 5=True:=eq_true hz
 have hl':=eq_true hl
 refine Pure.of 1 (A2.enter I6 (Nat.le_of_ble_eq_true rfl) (Run.go 100 ?_))
 simp -implicitDefEqProofs only [go_sem,A4,hz',hl']
 exact⟨P9 hs,fun e=>e.symm⟩
theorem C0p(es:List (List V))(hz:C4 es 1)(hl:es.length≤17592186044416)(hs: ∀φ,es.map (fun r=>r.map (V.sub φ))=es):Pure Tryz.prog 18 [.isl es] (.isl es):=by
 have hz':C4 es 1=True:=eq_true hz
 have hl':=eq_true hl
 refine Pure.of 1 (A2.enter N4 (Nat.le_of_ble_eq_true rfl) (Run.go 100 ?_))
 simp -implicitDefEqProofs only [go_sem,A4,hz',hl']
 exact⟨P9 hs,fun e=>e.symm⟩
theorem C0q(es:List (List V))(hz:C4 es 5)(hl:es.length≤2932031007402)(hs: ∀φ,es.map (fun r=>r.map (V.sub φ))=es):Pure Tryz.prog 43 [.isl es] (.isl es):=by
 have hz':C4 es 5=True:=eq_true hz
 have hl':=eq_true hl
 refine Pure.of 1 (A2.enter I7 (Nat.le_of_ble_eq_true rfl) (Run.go 100 ?_))
 simp -implicitDefEqProofs only [go_sem,A4,hz',hl']
 exact⟨P9 hs,fun e=>e.symm⟩
theorem C2g(es:List (List V))(hz:C4 es 3)(hl:es.length≤4398046511104)(hs: ∀φ,es.map (fun r=>r.map (V.sub φ))=es):Pure Tryz.prog 44 [.isl es] (.isl es):=by
 have hz':C4 es 3=True:=eq_true hz
 have hl':=eq_true hl
 refine Pure.of 1 (A2.enter O0 (Nat.le_of_ble_eq_true rfl) (Run.go 100 ?_))
 simp -implicitDefEqProofs only [go_sem,A4,hz',hl']
 exact⟨P9 hs,fun e=>e.symm⟩
theorem C2h(es:List (List V))(hz:C4 es 5)(hl:es.length≤2932031007402)(hs: ∀φ,es.map (fun r=>r.map (V.sub φ))=es):Pure Tryz.prog 45 [.isl es] (.isl es):=by
 have hz':C4 es 5=True:=eq_true hz
 have hl':=eq_true hl
 refine Pure.of 1 (A2.enter L7 (Nat.le_of_ble_eq_true rfl) (Run.go 100 ?_))
 simp -implicitDefEqProofs only [go_sem,A4,hz',hl']
 exact⟨P9 hs,fun e=>e.symm⟩
theorem A9{α:Type}(f:α→List V)(sz:Nat)(h: ∀x,(f x).length=sz)(l:List α):C4 (l.map f) sz:=fun r hr=>by
 obtain⟨y,_,rfl⟩:=List.mem_map.1 hr
 exact h y
theorem B6A(p:Fn)(hw:p.bd):Pure Tryz.prog 26 [.agg p.row] (.agg p.row):=by
 induction p using Fn.ind with
 | h p ih'=>
  have hl:=hw.self
  have c1:=C0o (p.code.map Ins.row) (A9 _ 5 (fun _=>rfl) _) (by rw [List.length_map];exact Nat.le_trans hl.code (by decide)) (fun φ=>C9 φ _ _ fun x _=>Ins.row_sub φ x)
  have c2:=C0p (p.lines.map E2) (A9 _ 1 (fun _=>rfl) _) (by rw [List.length_map];exact Nat.le_trans hl.lines (by decide)) (fun φ=>C9 φ _ _ fun x _=>B3e φ x)
  have c3:=C0q (p.consts.map Kst.row) (A9 _ 5 (fun _=>rfl) _) (by rw [List.length_map];exact Nat.le_trans hl.consts (by decide)) (fun φ=>C9 φ _ _ fun x _=>Kst.row_sub φ x)
  have c4:=C2g (p.ups.map Upv.row) (A9 _ 3 (fun _=>rfl) _) (by rw [List.length_map];exact Nat.le_trans hl.ups (by decide)) (fun φ=>C9 φ _ _ fun x _=>Upv.row_sub φ x)
  have c5:=C2h (p.vars.map Vr.row) (A9 _ 5 (fun _=>rfl) _) (by rw [List.length_map];exact Nat.le_trans hl.vars (by decide)) (fun φ=>C9 φ _ _ fun x _=>Vr.row_sub φ x)
  have g1:=fun φ=>C9 φ _ p.code fun x _=>Ins.row_sub φ x
  have s1:=g1 H0
  have f1:=fun d h=>P9 (d:=d) (h:=h) g1
  have g2:=fun φ=>C9 φ _ p.lines fun x _=>B3e φ x
  have s2:=g2 H0
  have f2:=fun d h=>P9 (d:=d) (h:=h) g2
  have g3:=fun φ=>C9 φ _ p.consts fun x _=>Kst.row_sub φ x
  have s3:=g3 H0
  have f3:=fun d h=>P9 (d:=d) (h:=h) g3
  have g4:=fun φ=>C9 φ _ p.ups fun x _=>Upv.row_sub φ x
  have s4:=g4 H0
  have f4:=fun d h=>P9 (d:=d) (h:=h) g4
  have g5:=fun φ=>C9 φ _ p.vars fun x _=>Vr.row_sub φ x
  have s5:=g5 H0
  have f5:=fun d h=>P9 (d:=d) (h:=h) g5
  refine Pure.of 1 (A2.enter A6s (Nat.le_of_ble_eq_true rfl) ?_)
  rw [Fn.row_eq p]
  generalize p.code.map Ins.row=e1 at*
  generalize p.lines.map E2=e2 at*
  generalize p.consts.map Kst.row=e3 at*
  generalize p.ups.map Upv.row=e4 at*
  generalize p.vars.map Vr.row=e5 at*
  refine Run.go 100 ?_
  simp -implicitDefEqProofs only [go_sem,A4]
  refine A3e.pureF c1 (by simp -implicitDefEqProofs only [go_sem,s1]) ?_
  simp -implicitDefEqProofs only [go_sem]
  refine A3e.pureF c2 (by simp -implicitDefEqProofs only [go_sem,s2]) ?_
  simp -implicitDefEqProofs only [go_sem]
  refine A3e.pureF c3 (by simp -implicitDefEqProofs only [go_sem,s3]) ?_
  simp -implicitDefEqProofs only [go_sem]
  refine A3e.pureF c4 (by simp -implicitDefEqProofs only [go_sem,s4]) ?_
  simp -implicitDefEqProofs only [go_sem]
  refine A3e.pureF c5 (by simp -implicitDefEqProofs only [go_sem,s5]) ?_
  simp -implicitDefEqProofs only [go_sem]
  have hlen:(p.protos.map Fn.row).length=p.protos.length:=List.length_map ..
  have hpl:=hl.protos
  have hrz:=eq_true (A9 Fn.row 11 Fn.row_len p.protos)
  have hrow: ∀(k:Nat) q,p.protos[k]? =some q→(p.protos.map Fn.row)[k]? =some q.row:=fun k q hk=>by rw [List.getElem?_map,hk];rfl
  have hsub:=fun φ=>Fn.rows_sub φ p.protos
  have htk: ∀(k:Nat) q,p.protos[k]? =some q→(p.protos.take (k+1)).map Fn.row=(p.protos.take k).map Fn.row++ [q.row]:=fun k q hk=>by
   rw [List.take_add_one,hk];simp
  have htl: ∀k,((p.protos.take k).map Fn.row).length=min k p.protos.length:=fun k=>by simp
  have hta:(p.protos.take p.protos.length).map Fn.row=p.protos.map Fn.row:=by rw [List.take_length]
  have ht0:(p.protos.take 0).map Fn.row= []:=rfl
  generalize hP:p.protos.map Fn.row=es at*
  generalize hT:(fun k=>(p.protos.take k).map Fn.row)=T
  have hT': ∀k,(p.protos.take k).map Fn.row=T k:=fun k=>by rw [←hT]
  simp only [hT']at htk htl hta ht0
  refine Run.roundsK (fun(x:Nat×Nat×Nat)=>⟨[(29,.int .i64 x.1),(28,.int .i64 p.protos.length),(27,.isl es),(3,.sl (26*10000+37) x.2.1 0 x.1),(2,.ptr (26*10000+2) 1 0 0),(1,.ptr (26*10000+1) 0 0 0)],
    [((26*10000+37),x.2.1,.rows 11 (T x.1)),((26*10000+1),0,.rows 11 [[.str p.name,.int .i64 p.line,.int .i64 p.params,.bool p.vararg,.int .i64 p.regs,.isl e1,.isl e2,.isl e3,.isl es,.isl e4,.isl e5]]),((26*10000+2),1,.rows 11 [[.str [],.int .i64 0,.int .i64 0,.bool false,.int .i64 0,.nils,.nils,.nils,.nils,.nils,.nils]])],x.2.2⟩)
   (fun x=>x.1≤p.protos.length) (fun x=>p.protos.length-x.1) (0,2,3) ?_ (Nat.zero_le _) ?_
  ·refine .trans (.fresh (26*10000+37) 11 _ _ _) (.turn id ⟨.refl _,.refl _,.refl _,.nils,.refl _,.refl _,trivial⟩ (.at 0 rfl rfl (.of_eq (by simp only [ht0])) (.at 1 rfl rfl (.refl _) (.at 2 rfl rfl (.refl _) trivial))))
  rintro⟨k,st,m⟩ hk ih
  simp only at hk ih⊢
  refine Run.unf A9n (Run.go 100 ?_)
  by_cases hlt:k<p.protos.length
  ·have q0:((k:Int)<(p.protos.length:Int))=True:=eq_true (by omega)
   have q1:((0:Int)≤(k:Int))=True:=eq_true (by omega)
   obtain⟨q,hq⟩: ∃q,p.protos[k]? =some q:=⟨p.protos[k],by simp [hlt]⟩
   have hqm:q∈p.protos:=List.mem_of_getElem? hq
   have hqr:=hrow k q hq
   have hql:=q.row_len
   have hqs:=Fn.row_sub H0 q
   have hih:=ih' q hqm (hw.child hqm)
   have hTl:(T k).length=k:=by rw [htl];omega
   have hTk:=htk k q hq
   have hzk:((k:Int)+1)=((k+1:Nat):Int):=by omega
   have hap:(k+1≤733007751850)=True:=eq_true (by omega)
   have hTt:(T k).take k=T k:=List.take_of_length_le (by omega)
   have htq:q.row.take 11=q.row:=List.take_of_length_le (by omega)
   generalize q.row=qr at*
   simp -implicitDefEqProofs only [go_sem,q0,q1,hlen,hrz,hqr,Option.some.injEq,forall_eq',hql,htq,List.append_nil]
   refine⟨hlt,?_⟩
   refine A2.pureF hih (by simp -implicitDefEqProofs only [go_sem,hqs]) ?_
   simp -implicitDefEqProofs only [go_sem,hql,hTl,hap,hTt,htq]
   refine⟨by omega,?_⟩
   refine ih _ (k+1,m+1,m+2) (by simp only;omega) (by simp only;omega) (B6.wk ?_)
   simp only [←hzk,hTk]
   simp -implicitDefEqProofs only [go_sem]
  ·have e:k=p.protos.length:=by omega
   subst e
   simp -implicitDefEqProofs only [go_sem,Int.lt_irrefl]
   have hTl:(T p.protos.length).length=p.protos.length:=by rw [htl];omega
   have e2:Nat.ble p.protos.length (T p.protos.length).length=true:=Nat.ble_eq_true_of_le (by omega)
   have e3:(T p.protos.length).take p.protos.length=es:=by rw [List.take_of_length_le (by omega),hta]
   have e4:=fun d h=>P9 (d:=d) (h:=h) hsub
   simp only [f1,f2,f3,f4,f5,e3,if_pos (Nat.le_of_ble_eq_true e2),e4,and_self]
theorem B5(p:Fn):p.row.length=11∧p.row.take 11=p.row:=⟨p.row_len,List.take_of_length_le (by rw [p.row_len];exact Nat.le_refl _)⟩
theorem C0w(p:Fn)(n:Nat):A2 Tryz.prog 15 [.agg p.row] [] n fun r h' n'=>r= .fn 24 [.ptr (15*10000+1) n 0 0]∧h'= [((15*10000+1),n,.rows 11 [p.row])]∧n'=n+1:=by
 obtain⟨h1,h2⟩:=B5 p
 generalize p.row=pr at*
 refine A2.enterK A8H (Nat.le_of_ble_eq_true rfl) fun Q hQ=>Run.go 100 ?_
 simp -implicitDefEqProofs only [go_sem,A4,h1,h2]
 subst hQ
 exact .is ⟨rfl,rfl,rfl⟩
structure Rnds(nm st:Nat)(whole:List Fn)(J X:List Fn→A0→Nat→Prop):Prop where
 round: ∀pre q rest h n,whole=pre++q::rest→J pre h n→P7 Tryz.prog nm st [.agg q.row] h n fun r h' n'=>(r= .bool true∧J (pre++ [q]) h' n')∨(r= .bool false∧X (pre++ [q]) h' n')
 up: ∀pre h n n',n≤n'→J pre h n→J pre h n'
 apJ: ∀pre h n,J pre h n→A1P h (25*10000+2)∧A1P h (25*10000+6)
 apX: ∀pre h n,X pre h n→A1P h (25*10000+2)∧A1P h (25*10000+6)
theorem C1S{nm st:Nat}{whole:List Fn}{J X:List Fn→A0→Nat→Prop}(hR:Rnds nm st whole J X)(p:Fn)(hp:p.bd): ∀pre post h n,whole=pre++p.each++post→J pre h n→
  A2 Tryz.prog 25 [.agg p.row,.yld nm st] h n fun r h' n'=>(r= .bool true∧J (pre++p.each) h' n')∨(r= .bool false∧ ∃pre' q rest,whole=pre'++q::rest∧X (pre'++ [q]) h' n'):=by
 induction p using Fn.ind with
 | h p ih'=>
  intro pre post h n hw hJ
  have hp8:=hp.self.protos
  obtain⟨a1,a2⟩:=hR.apJ _ _ _ hJ
  have d1:=a1.del
  have d2:=a2.del
  have hround:=hR.round pre p (Fn.eachs p.protos++post) h (n+1) (by rw [hw,Fn.each_eq];simp) (hR.up _ _ _ _ (Nat.le_succ n) hJ)
  refine A2.enterK A8N (Nat.le_of_ble_eq_true rfl) fun Q hQ=>Run.go 100 ?_
  obtain⟨h1,h2⟩:=B5 p
  have heq:=p.row_eq
  have h8:p.row[8]? =some (.isl (p.protos.map Fn.row)):=by rw [heq];rfl
  have hpl:(p.protos.map Fn.row).length=p.protos.length:=List.length_map ..
  have hrz:=eq_true (A9 Fn.row 11 Fn.row_len p.protos)
  have hrow: ∀(k:Nat) q,p.protos[k]? =some q→(p.protos.map Fn.row)[k]? =some q.row:=fun k q hk=>by rw [List.getElem?_map,hk];rfl
  clear heq
  generalize p.row=pr at*
  generalize p.protos.map Fn.row=es at*
  simp -implicitDefEqProofs only [go_sem,A4,h1,h2,d1]
  refine P7.use (rest:= [_]) hround rfl (fun e he e' he'=>by rw [List.mem_singleton.1 he];exact a1 e' he') ?_
  rintro r h' n' hn (⟨rfl,hJ'⟩|⟨rfl,hX⟩)
  ·simp -implicitDefEqProofs only [go_sem,h8]
   refine Run.roundsK (fun(x:Nat×A0×Nat)=>⟨[(14,.int .i64 x.1),(13,.int .i64 p.protos.length),(12,.isl es),(2,.ptr (25*10000+2) n 0 0),(1,.yld nm st)],((25*10000+2),n,.rows 11 [pr])::x.2.1,x.2.2⟩)
    (fun x=>x.1≤p.protos.length∧J (pre++ [p]++Fn.eachs (p.protos.take x.1)) x.2.1 x.2.2) (fun x=>p.protos.length-x.1) (0,h',n') ?_ ⟨Nat.zero_le _,by simpa [Fn.eachs]using hJ'⟩ ?_
   ·refine B6.wk ⟨F9.1 (by simp -implicitDefEqProofs only [go_sem,hpl]),fun e he=> ?_,Nat.le_refl _⟩
    simpa using he
   rintro⟨k,h3,n3⟩ ⟨hk,hJ3⟩ ih
   simp only at hk hJ3 ih⊢
   obtain⟨b1,b2⟩:=hR.apJ _ _ _ hJ3
   have c1:=b1.del
   have c2:=b2.del
   refine Run.unf B1k (Run.go 100 ?_)
   by_cases hlt:k<p.protos.length
   ·have q0:((k:Int)<(p.protos.length:Int))=True:=eq_true (by omega)
    have q1:((0:Int)≤(k:Int))=True:=eq_true (by omega)
    obtain⟨q,hq⟩: ∃q,p.protos[k]? =some q:=⟨p.protos[k],by simp [hlt]⟩
    have hqm:q∈p.protos:=List.mem_of_getElem? hq
    have hqr:=hrow k q hq
    have hql:=q.row_len
    have htq:q.row.take 11=q.row:=List.take_of_length_le (by omega)
    have hzk:((k:Int)+1)=((k+1:Nat):Int):=by omega
    have hspl:p.protos=p.protos.take k++q::p.protos.drop (k+1):=by
     have:=List.getElem_of_getElem? hq
     obtain⟨hk',e⟩:=this
     rw [←e,List.getElem_cons_drop];simp
    have hw3:whole=(pre++ [p]++Fn.eachs (p.protos.take k))++q.each++(Fn.eachs (p.protos.drop (k+1))++post):=by
     have e1:Fn.eachs p.protos=Fn.eachs (p.protos.take k)++(q.each++Fn.eachs (p.protos.drop (k+1))):=by
      conv=>lhs;rw [hspl]
      rw [Fn.eachs_append,Fn.eachs]
     rw [hw,Fn.each_eq p,e1];simp
    have hcall:=ih' q hqm (hp.child hqm) _ _ h3 (n3+1) hw3 (hR.up _ _ _ _ (Nat.le_succ n3) hJ3)
    have htk:Fn.eachs (p.protos.take (k+1))=Fn.eachs (p.protos.take k)++q.each:=by
     rw [List.take_add_one,hq];simp [Fn.eachs_append,Fn.eachs]
    generalize q.row=qr at*
    simp -implicitDefEqProofs only [go_sem,q0,q1,hpl,hrz,hqr,Option.some.injEq,forall_eq',hql,htq,List.append_nil,c2]
    refine⟨hlt,?_⟩
    refine A2.use (rest:= [_,_]) hcall rfl (fun e he e' he'=> ?_) ?_
    ·simp only [List.mem_cons,List.not_mem_nil,or_false]at he
     rcases he with rfl|rfl
     ·exact b2 e' he'
     ·exact b1 e' he'
    rintro r h4 n4 hn4 (⟨rfl,hJ4⟩|⟨rfl,pre',q',rest,hwx,hX⟩)
    ·simp -implicitDefEqProofs only [go_sem]
     refine⟨by omega,?_⟩
     refine ih _ (k+1,h4,n4) ⟨by simp only;omega,by simp only [htk];rw [←List.append_assoc];exact hJ4⟩ (by simp only;omega) (B6.wk ⟨F9.1 (by simp -implicitDefEqProofs only [go_sem,hzk]),fun e he=>List.mem_cons_of_mem _ he,Nat.le_refl _⟩)
    ·simp -implicitDefEqProofs only [go_sem]
     subst hQ
     refine .to (Or.inr ⟨rfl,pre',q',rest,hwx,hX⟩) (B6.wk ⟨fun p hp=> ?_,fun e he=>List.mem_cons_of_mem _ (List.mem_cons_of_mem _ he),Nat.le_refl _⟩)
     rw [List.mem_singleton.1 hp];rfl
   ·have e:k=p.protos.length:=by omega
    subst e
    simp -implicitDefEqProofs only [go_sem,Int.lt_irrefl]
    subst hQ
    rw [List.take_length]at hJ3
    refine .to (Or.inl ⟨rfl,by rw [Fn.each_eq];simpa using hJ3⟩) (B6.wk ⟨fun p hp=> ?_,fun e he=>List.mem_cons_of_mem _ he,Nat.le_refl _⟩)
    rw [List.mem_singleton.1 hp];rfl
  ·simp -implicitDefEqProofs only [go_sem]
   subst hQ
   refine .to (Or.inr ⟨rfl,pre,p,Fn.eachs p.protos++post,by rw [hw,Fn.each_eq];simp,hX⟩) (B6.wk ⟨fun p hp=> ?_,fun e he=>List.mem_cons_of_mem _ he,Nat.le_refl _⟩)
   rw [List.mem_singleton.1 hp];rfl
theorem B8l{nm st b sb:Nat}{J X:List Fn→A0→Nat→Prop}(p:Fn)(hp:p.bd)(hR:Rnds nm st p.each J X)(h:A0)(n:Nat)(hg:A0.get h b sb=some (.rows 11 [p.row]))(hJ:J [] h n):
  A2 Tryz.prog 24 [.yld nm st,.ptr b sb 0 0] h n fun r h' n'=>J p.each h' n'∨ ∃pre' q rest,p.each=pre'++q::rest∧X (pre'++ [q]) h' n':=by
 obtain⟨h1,h2⟩:=B5 p
 have hc:=B6A p hp
 have hs:=Fn.row_sub H0 p
 have hw:=C1S hR p hp [] [] h n (by simp) hJ
 generalize p.row=pr at*
 refine A2.enterK A6q (Nat.le_of_ble_eq_true rfl) fun Q hQ=>Run.go 100 ?_
 simp -implicitDefEqProofs only [go_sem,A4,hg,h1,h2]
 refine A2.pureF hc (by simp -implicitDefEqProofs only [go_sem,hs]) ?_
 simp -implicitDefEqProofs only [go_sem]
 refine hw.mono ?_
 rintro r h' n' (⟨rfl,hJ'⟩|⟨rfl,pre',q',rest,hwx,hX⟩)
 ·simp -implicitDefEqProofs only [go_sem]
  subst hQ
  exact .is (.inl (by simpa using hJ'))
 ·simp -implicitDefEqProofs only [go_sem]
  subst hQ
  exact .is (.inr ⟨pre',q',rest,hwx,hX⟩)
theorem B1L{α:Type}(l:List α):l= []∨ ∃r x,l=r++ [x]:=by
 rcases List.eq_nil_or_concat l with h|⟨r,x,h⟩
 ·exact .inl h
 ·exact .inr ⟨r,x,by simpa using h⟩
theorem C3H{R:List (List V)}{l:List Fn}{m k:Nat}{q:Fn}(h:R.take m=l.map Fn.row)(hk:l[k]? =some q)(hm:l.length=m):R[k]? =some q.row:=by
 have hlt:=(List.getElem?_eq_some_iff.1 hk).1
 have:(R.take m)[k]? =some q.row:=by rw [h,List.getElem?_map,hk];rfl
 rwa [List.getElem?_take_of_lt (by omega)]at this
theorem C1N{R:List (List V)}{l:List Fn}{q:Fn}{m:Nat}(h:R.take (m+1)=(l++ [q]).map Fn.row)(hl:l.length=m):R.take m=l.map Fn.row:=by
 have:=congrArg (List.take m) h
 rw [List.take_take,Nat.min_eq_left (by omega)]at this
 rw [this]
 simp [←hl]
theorem B8R(p:Fn)(hp:p.bd)(hc:p.each.length≤1000000):Pure Tryz.prog 20 [.agg p.row] (.isl (p.each.map Fn.row)):=by
 obtain⟨h1,h2⟩:=B5 p
 have hfin:=fun d h=>P9 (d:=d) (h:=h) fun φ=>Fn.rows_sub φ p.each
 refine Pure.of 1 (A2.enter A0P (Nat.le_of_ble_eq_true rfl) (Run.go 100 ?_))
 have hpr: [p.row]= [p].map Fn.row:=rfl
 generalize hpr':p.row=pr at*
 simp -implicitDefEqProofs only [go_sem,A4,h1,h2]
 refine Run.roundsK (fun(x:List Fn×List (List V)×List Fn×Nat×Nat×Nat)=>⟨[(4,.sl (20*10000+42) x.2.2.2.1 0 x.1.length),(3,.sl (20*10000+26) x.2.2.2.2.1 0 x.2.2.1.length)],
   [((20*10000+42),x.2.2.2.1,.rows 11 x.2.1),((20*10000+26),x.2.2.2.2.1,.rows 11 (x.2.2.1.map Fn.row))],x.2.2.2.2.2⟩)
  (fun x=>x.2.1.take x.1.length=x.1.map Fn.row∧x.1.length≤x.2.1.length∧x.2.2.1++Fn.eachs x.1.reverse=p.each) (fun x=>(Fn.eachs x.1.reverse).length) ([p],[pr],[],1,2,3) ?_ ⟨hpr,Nat.le_refl _,by simp [Fn.eachs]⟩ ?_
 ·refine .trans (.fresh (20*10000+26) 11 _ _ _) (.turn (fun b=>if b=(20*10000+9)then(20*10000+42)else b) ⟨.sl,.nils,trivial⟩ (.at 1 rfl rfl (.refl _) (.at 0 rfl rfl (.refl _) trivial)))
 rintro⟨td,R,out,st,so,n⟩ ⟨hR,hRl,hO⟩ ih
 simp only at hR hRl hO ih⊢
 have hol:(out.map Fn.row).length=out.length:=List.length_map ..
 have hsum:out.length+(Fn.eachs td.reverse).length=p.each.length:=by rw [←hO];simp
 have hse:=Fn.eachs_len td.reverse
 rw [List.length_reverse]at hse
 refine Run.unf A3G (Run.go 100 ?_)
 rcases B1L td with rfl|⟨td,q,rfl⟩
 ·have hO':out=p.each:=by rw [←hO];simp [Fn.eachs]
  subst hO'
  have e1:(p.each.map Fn.row).take p.each.length=p.each.map Fn.row:=List.take_of_length_le (by omega)
  generalize p.each.map Fn.row=es at*
  simp -implicitDefEqProofs only [go_sem,List.length_nil,hol,e1]
  exact hfin _ _
 ·have hln:(td++ [q]).length=td.length+1:=by simp
  rw [hln]at hR hRl hse⊢
  have q0:((0:Int)<((td.length+1:Nat):Int))=True:=eq_true (by omega)
  have q1:((td.length+1:Nat):Int)-1=(td.length:Int):=by omega
  have q2:((0:Int)≤(td.length:Int))=True:=eq_true (by omega)
  have q3:((td.length:Int)<((td.length+1:Nat):Int))=True:=eq_true (by omega)
  have q4:((td.length:Int)≤((td.length+1:Nat):Int))=True:=eq_true (by omega)
  have hq:=C3H (k:=td.length) (q:=q) hR (by simp) hln
  have hR0:=C1N hR rfl
  have hqm:q∈p.each:=by rw [←hO];exact List.mem_append.2 (.inr (by rw [List.reverse_append];simp only [List.reverse_cons,List.reverse_nil,List.nil_append,List.cons_append];rw [Fn.eachs];exact List.mem_append.2 (.inl q.self_mem)))
  have hqp:=(hp q hqm).protos
  obtain⟨g1,g2⟩:=B5 q
  have g8:q.row[8]? =some (.isl (q.protos.map Fn.row)):=by rw [q.row_eq];rfl
  have hpl:(q.protos.map Fn.row).length=q.protos.length:=List.length_map ..
  have hrz:=eq_true (A9 Fn.row 11 Fn.row_len q.protos)
  have hap:(out.length+1≤137438953472)=True:=eq_true (by omega)
  have hotk:(out.map Fn.row).take out.length=out.map Fn.row:=List.take_of_length_le (by omega)
  have q5:td.length<R.length:=by omega
  generalize hqr:q.row=qr at*
  generalize hes:q.protos.map Fn.row=es at*
  generalize hOR:out.map Fn.row=OR at*
  simp -implicitDefEqProofs only [go_sem,q0,q1,q2,q3,q4,q5,hq,g1,g2,g8,hol,hpl,hap,hotk,Option.some.injEq,forall_eq',List.append_nil]
  refine⟨by omega,by omega,?_⟩
  have hz0:((td.length:Int)-0).toNat=td.length:=by omega
  rw [hz0]
  have hpl2:q.protos.length≤(Fn.eachs q.protos).length:=Fn.eachs_len _
  have hqe:Fn.eachs (td++ [q]).reverse=q::(Fn.eachs q.protos++Fn.eachs td.reverse):=by rw [List.reverse_append];simp only [List.reverse_cons,List.reverse_nil,List.nil_append,List.cons_append];rw [Fn.eachs,Fn.each_eq];rfl
  rw [hqe]at hO hsum ih
  have htl:=Fn.eachs_len td.reverse
  rw [List.length_reverse]at htl
  simp only [List.length_cons,List.length_append]at hsum
  refine Run.roundsK (fun(x:Nat×List (List V)×Nat×Nat)=>⟨[(7,.int .i64 ((q.protos.length:Int)-1-x.1)),(6,.ptr (20*10000+6) n 0 0),(4,.sl (20*10000+42) x.2.2.1 0 (td.length+x.1)),(3,.sl (20*10000+26) (n+1) 0 (out.length+1))],
    [((20*10000+42),x.2.2.1,.rows 11 x.2.1),((20*10000+26),n+1,.rows 11 (OR++ [qr])),((20*10000+6),n,.rows 11 [qr])],x.2.2.2⟩)
   (fun x=>x.1≤q.protos.length∧x.2.1.take (td.length+x.1)=(td++q.protos.reverse.take x.1).map Fn.row∧td.length+x.1≤x.2.1.length) (fun x=>q.protos.length-x.1) (0,R,st,n+1+1) ?_ ⟨Nat.zero_le _,by simpa using hR0,by simp only;omega⟩ ?_
  ·exact B6.wk (by simp -implicitDefEqProofs only [go_sem,Int.sub_zero])
  rintro⟨k,R',st',m⟩ ⟨hk,hR',hRl'⟩ ih2
  simp only at hk hR' hRl' ih2⊢
  refine Run.unf A3H (Run.go 100 ?_)
  by_cases hlt:k<q.protos.length
  ·have z0:((0:Int)≤(q.protos.length:Int)-1-(k:Int))=True:=eq_true (by omega)
   have z1:((q.protos.length:Int)-1-(k:Int)<(q.protos.length:Int))=True:=eq_true (by omega)
   have z2:((q.protos.length:Int)-1-(k:Int)).toNat=q.protos.length-1-k:=by omega
   obtain⟨r,hr⟩: ∃r,q.protos[q.protos.length-1-k]? =some r:=⟨q.protos[q.protos.length-1-k]'(by omega),by simp⟩
   have hrr:q.protos.reverse[k]? =some r:=by rw [List.getElem?_reverse hlt];exact hr
   have hre:es[q.protos.length-1-k]? =some r.row:=by rw [←hes,List.getElem?_map,hr];rfl
   obtain⟨f1,f2⟩:=B5 r
   have hap2:(td.length+k+1≤137438953472)=True:=eq_true (by omega)
   have z3:td.length+k≤R'.length:=hRl'
   have hnew:(td++q.protos.reverse.take (k+1)).map Fn.row=R'.take (td.length+k)++ [r.row]:=by
    rw [hR',List.take_add_one,hrr];simp
   have hmin:(R'.take (td.length+k)).length=td.length+k:=by rw [List.length_take];omega
   generalize r.row=rr at*
   simp -implicitDefEqProofs only [go_sem,z0,z1,z2,hpl,hrz,hre,g8,f1,f2,hap2,z3,Option.some.injEq,forall_eq']
   refine⟨by omega,by omega,?_⟩
   have z4:(q.protos.length:Int)-1-((k+1:Nat):Int)=(q.protos.length:Int)-1-k-1:=by omega
   refine ih2 _ (k+1,R'.take (td.length+k)++ [rr],m,m+1) ⟨by simp only;omega,?_,?_⟩ (by simp only;omega) (B6.wk (by simp -implicitDefEqProofs only [go_sem,z4,Nat.add_assoc]))
   ·simp only [hnew]
    exact List.take_of_length_le (by simp only [List.length_append,hmin,List.length_singleton];omega)
   ·simp only [List.length_append,hmin,List.length_singleton];omega
  ·have e:k=q.protos.length:=by omega
   subst e
   have z0:((0:Int)≤(q.protos.length:Int)-1-(q.protos.length:Int))=False:=eq_false (by omega)
   simp -implicitDefEqProofs only [go_sem,z0]
   have hl2:(td++q.protos.reverse).length=td.length+q.protos.length:=by simp
   have hl3:(out++ [q]).length=out.length+1:=by simp
   have ho3:(out++ [q]).map Fn.row=OR++ [qr]:=by rw [List.map_append,hOR,←hqr];rfl
   have hre:(td++q.protos.reverse).reverse=q.protos++td.reverse:=by simp
   rw [show q.protos.reverse.take q.protos.length=q.protos.reverse from List.take_of_length_le (by simp)]at hR'
   refine ih _ (td++q.protos.reverse,R',out++ [q],st',n+1,m) ⟨by simp only [hl2];exact hR',by simp only [hl2];exact hRl',?_⟩ ?_ (B6.wk ?_)
   ·simp only [hre,Fn.eachs_append]
    rw [←hO];simp
   ·simp only [hre,Fn.eachs_append,List.length_append,List.length_cons];omega
   ·simp only [hl2,hl3,ho3]
    simp -implicitDefEqProofs only [go_sem]
def parts(q:Fn):Nat:=q.code.length+q.lines.length+q.consts.length+q.ups.length+q.vars.length
structure SmallP(p:Fn):Prop where
 count:p.each.length≤40
 parts: ∀q∈p.each,parts q≤400∧q.protos.length≤40
theorem SmallP.bd{p:Fn}(h:SmallP p):p.bd:=fun q hq=>by
 have h1:=(h.parts q hq).1
 have h2:=(h.parts q hq).2
 unfold Go.Proofs.YtnihmhbcjpcobaaGreatDoor.parts at h1
 exact⟨by omega,by omega,by omega,by omega,by omega,by omega⟩
noncomputable def A5N (p:Fn):Bool:=by
 classical exact !decide (SmallP p)
theorem A9g{p:Fn}(h: ¬SmallP p):A5N p=true:=by simp [A5N,h]
theorem C0O{p:Fn}(h:SmallP p):A5N p=false:=by simp [A5N,h]
theorem C3k{p:Fn}(h:A5N p=false):SmallP p:=by simpa [A5N]using h
theorem B8G(p:Fn)(hw:p.wf):Pure Tryz.prog 9 [.agg p.row] (.bool (A5N p)):=by
 obtain⟨h1,h2⟩:=B5 p
 have hB:reachBytes=140737488351232:=rfl
 refine Pure.of 0 (A2.enter j8 (Nat.le_of_ble_eq_true rfl) (Run.go 100 ?_))
 have hpr: [p.row]= [p].map Fn.row:=rfl
 generalize hpr':p.row=pr at*
 simp -implicitDefEqProofs only [go_sem,A4,h1,h2]
 refine Run.roundsK (fun(x:Nat×List Fn×Nat×Nat)=>⟨[(4,.int .i64 x.1),(3,.sl (9*10000+47) x.2.2.1 0 x.2.1.length)],
   [((9*10000+47),x.2.2.1,.rows 11 (x.2.1.map Fn.row))],x.2.2.2⟩)
  (fun x=>x.1≤x.2.1.length∧x.2.1.length≤40∧x.1+(Fn.eachs (x.2.1.drop x.1)).length=p.each.length∧(∀q∈p.each,q∈x.2.1.take x.1∨q∈Fn.eachs (x.2.1.drop x.1))∧(∀q∈x.2.1,q∈p.each)∧ ∀q∈x.2.1.take x.1,parts q≤400∧q.protos.length≤40)
  (fun x=>41-x.1) (0,[p],1,2) ?_ ⟨Nat.zero_le _,by simp,by simp [Fn.eachs],by simp [Fn.eachs],by simp [Fn.self_mem],by simp⟩ ?_
 ·exact .turn (fun b=>if b=(9*10000+7)then(9*10000+47)else b) ⟨.refl _,.sl,trivial⟩ (.at 0 rfl rfl (.of_eq (by rw [hpr])) trivial)
 rintro⟨k,l,st,n⟩ ⟨hk,hl,hcnt,hcov,hin,hok⟩ ih
 simp only at hk hl hcnt hcov hin hok ih⊢
 have hll:(l.map Fn.row).length=l.length:=List.length_map ..
 refine Run.unf A3h (Run.go 100 ?_)
 by_cases hlt:k<l.length
 ·have q0:((k:Int)<(l.length:Int))=True:=eq_true (by omega)
  have q1:((0:Int)≤(k:Int))=True:=eq_true (by omega)
  obtain⟨q,hq⟩: ∃q,l[k]? =some q:=⟨l[k],by simp [hlt]⟩
  have hqm:q∈p.each:=hin q (List.mem_of_getElem? hq)
  have hqr:(l.map Fn.row)[k]? =some q.row:=by rw [List.getElem?_map,hq];rfl
  obtain⟨w1,w2,w3,w4,w5,w6,w7,w8⟩:=(Fn.wf_iff q).1 (Fn.wf_each p hw q hqm)
  rw [hB]at w1 w2 w3 w4 w5 w6 w7
  obtain⟨g1,g2⟩:=B5 q
  have g5:q.row[5]? =some (.isl (q.code.map Ins.row)):=by rw [q.row_eq];rfl
  have g6:q.row[6]? =some (.isl (q.lines.map E2)):=by rw [q.row_eq];rfl
  have g7:q.row[7]? =some (.isl (q.consts.map Kst.row)):=by rw [q.row_eq];rfl
  have g8:q.row[8]? =some (.isl (q.protos.map Fn.row)):=by rw [q.row_eq];rfl
  have g9:q.row[9]? =some (.isl (q.ups.map Upv.row)):=by rw [q.row_eq];rfl
  have g10:q.row[10]? =some (.isl (q.vars.map Vr.row)):=by rw [q.row_eq];rfl
  have e5:(q.code.map Ins.row).length=q.code.length:=List.length_map ..
  have e6:(q.lines.map E2).length=q.lines.length:=List.length_map ..
  have e7:(q.consts.map Kst.row).length=q.consts.length:=List.length_map ..
  have e8:(q.protos.map Fn.row).length=q.protos.length:=List.length_map ..
  have e9:(q.ups.map Upv.row).length=q.ups.length:=List.length_map ..
  have e10:(q.vars.map Vr.row).length=q.vars.length:=List.length_map ..
  have hrz:=eq_true (A9 Fn.row 11 Fn.row_len q.protos)
  have hltk:(l.map Fn.row).take l.length=l.map Fn.row:=List.take_of_length_le (by omega)
  have hnl:(l++q.protos).map Fn.row=l.map Fn.row++q.protos.map Fn.row:=List.map_append
  have hnn:(l++q.protos).length=l.length+q.protos.length:=List.length_append
  have hdrop:l.drop k=q::l.drop (k+1):=by
   obtain⟨hk',e⟩:=List.getElem_of_getElem? hq
   rw [←e,List.getElem_cons_drop]
  have htake:l.take (k+1)=l.take k++ [q]:=by rw [List.take_add_one,hq];rfl
  generalize q.row=qr at*
  generalize q.code.map Ins.row=c5 at*
  generalize q.lines.map E2=c6 at*
  generalize q.consts.map Kst.row=c7 at*
  generalize q.protos.map Fn.row=c8 at*
  generalize q.ups.map Upv.row=c9 at*
  generalize q.vars.map Vr.row=c10 at*
  generalize hLR:l.map Fn.row=LR at*
  by_cases b1:400<parts q
  ·have hbig: ¬SmallP p:=fun h=>absurd (h.parts q hqm).1 (by omega)
   have z1:((400:Int)<(q.code.length:Int)+q.lines.length+q.consts.length+q.ups.length+q.vars.length)=True:=eq_true (by unfold parts at b1;omega)
   simp -implicitDefEqProofs only [go_sem,q0,q1,hll,hqr,g1,g2,g5,g6,g7,g8,g9,g10,e5,e6,e7,e8,e9,e10,z1,A9g hbig,Option.some.injEq,forall_eq',List.append_nil]
   refine⟨hlt,?_,?_,?_,?_⟩<;>omega
  have z1:((400:Int)<(q.code.length:Int)+q.lines.length+q.consts.length+q.ups.length+q.vars.length)=False:=eq_false (by unfold parts at b1;omega)
  by_cases b2:40<q.protos.length
  ·have hbig: ¬SmallP p:=fun h=>absurd (h.parts q hqm).2 (by omega)
   have z2:((40:Int)<(q.protos.length:Int))=True:=eq_true (by omega)
   simp -implicitDefEqProofs only [go_sem,q0,q1,hll,hqr,g1,g2,g5,g6,g7,g8,g9,g10,e5,e6,e7,e8,e9,e10,z1,z2,A9g hbig,Option.some.injEq,forall_eq',List.append_nil]
   refine⟨hlt,?_,?_,?_,?_⟩<;>omega
  have z2:((40:Int)<(q.protos.length:Int))=False:=eq_false (by omega)
  have hap:(l.length+q.protos.length≤137438953472)=True:=eq_true (by omega)
  have hcnt':(k+1)+(Fn.eachs (l.drop (k+1)++q.protos)).length=p.each.length:=by
   rw [hdrop,Fn.eachs,Fn.each_eq]at hcnt
   simp only [List.cons_append,List.length_cons,List.length_append,Fn.eachs_append]at hcnt⊢
   omega
  by_cases b3:40<l.length+q.protos.length
  ·have hbig: ¬SmallP p:=fun h=>by
    have h3:=Fn.eachs_len (l.drop (k+1)++q.protos)
    have h4:=h.count
    simp only [List.length_append,List.length_drop]at h3
    omega
   have z3:((40:Int)<((l.length+q.protos.length:Nat):Int))=True:=eq_true (by omega)
   simp -implicitDefEqProofs only [go_sem,q0,q1,hll,hqr,g1,g2,g5,g6,g7,g8,g9,g10,e5,e6,e7,e8,e9,e10,hrz,hltk,hap,z1,z2,Option.some.injEq,forall_eq',List.append_nil,z3,A9g hbig]
   refine⟨hlt,?_,?_,?_,?_⟩<;>omega
  ·have z3:((40:Int)<((l.length+q.protos.length:Nat):Int))=False:=eq_false (by omega)
   simp -implicitDefEqProofs only [go_sem,q0,q1,hll,hqr,g1,g2,g5,g6,g7,g8,g9,g10,e5,e6,e7,e8,e9,e10,hrz,hltk,hap,z1,z2,Option.some.injEq,forall_eq',List.append_nil,z3]
   repeat refine And.intro (by omega) ?_
   have hd2:(l++q.protos).drop (k+1)=l.drop (k+1)++q.protos:=List.drop_append_of_le_length (by omega)
   have ht2:(l++q.protos).take (k+1)=l.take k++ [q]:=by rw [List.take_append_of_le_length (by omega),htake]
   have hzk:((k+1:Nat):Int)=(k:Int)+1:=by omega
   refine ih _ (k+1,l++q.protos,n+1,n+2) ⟨by simp only [hnn];omega,by simp only [hnn];omega,by simp only [hd2];exact hcnt',?_,?_,?_⟩ (by simp only;omega) (B6.wk (by simp only [hnn,hnl];simp -implicitDefEqProofs only [go_sem,hzk]))
   ·intro x hx
    simp only [hd2,ht2]
    rcases hcov x hx with h|h
    ·exact .inl (List.mem_append.2 (.inl h))
    ·rw [hdrop,Fn.eachs]at h
     rcases List.mem_append.1 h with h|h
     ·rw [Fn.each_eq]at h
      rcases List.mem_cons.1 h with rfl|h
      ·exact .inl (by simp)
      ·exact .inr (by rw [Fn.eachs_append];exact List.mem_append.2 (.inr h))
     ·exact .inr (by rw [Fn.eachs_append];exact List.mem_append.2 (.inl h))
   ·intro x hx
    rcases List.mem_append.1 hx with h|h
    ·exact hin x h
    ·exact Fn.child_mem hqm h
   ·intro x hx
    simp only [ht2]at hx
    rcases List.mem_append.1 hx with h|h
    ·exact hok x h
    ·rw [List.mem_singleton.1 h];exact⟨by omega,by omega⟩
 ·have e:k=l.length:=by omega
  subst e
  rw [List.drop_length,Fn.eachs]at hcnt
  have hsm:SmallP p:=⟨by simp at hcnt;omega,fun q hq=>by
   rcases hcov q hq with h|h
   ·exact hok q h
   ·rw [List.drop_length,Fn.eachs]at h;cases h⟩
  simp -implicitDefEqProofs only [go_sem,hll,Int.lt_irrefl,C0O hsm]
def J7:List Int→Int
 | []=>0
 |x::r=>if x=0 then J7 r else x
theorem A0o: ∀{l:List Int},(∀x∈l,x=0)→J7 l=0
 | [],_=>rfl
 |x::r,h=>by rw [J7,if_pos (h x List.mem_cons_self)];exact A0o fun y hy=>h y (List.mem_cons_of_mem _ hy)
theorem A9b: ∀{l:List Int} {x:Int} {r:List Int},(∀y∈l,y=0)→x≠0→J7 (l++x::r)=x
 | [],x,r,_,hx=>by simp [J7,hx]
 |y::l,x,r,h,hx=>by rw [List.cons_append,J7,if_pos (h y List.mem_cons_self)];exact A9b (fun z hz=>h z (List.mem_cons_of_mem _ hz)) hx
def A8X(d:Nat)(l:List Int):Int:=if 64<d then 3 else J7 l
theorem C2e(p:Fn)(hp:p.bd)(d:Nat)(hd:Pure Tryz.prog 14 [.agg p.row] (.int .i64 d))(e:Fn→Int)
  (hs: ∀q∈p.each,Pure Tryz.prog 16 [.agg q.row] (.int .i64 (e q))):Pure Tryz.prog 10 [.agg p.row] (.int .i64 (A8X d (p.each.map e))):=by
 obtain⟨h1,h2⟩:=B5 p
 have hps:=Fn.row_sub H0 p
 have hec:=fun n=>C0w p n
 have he1:=fun nm st b sb J X hR h n hg hJ=>B8l (nm:=nm) (st:=st) (b:=b) (sb:=sb) (J:=J) (X:=X) p hp hR h n hg hJ
 generalize hpr:p.row=pr at*
 refine Pure.of 0 (A2.enter A7A (Nat.le_of_ble_eq_true rfl) (Run.go 100 ?_))
 simp -implicitDefEqProofs only [go_sem,A4,h1,h2]
 refine A2.pureF hd (by simp -implicitDefEqProofs only [go_sem,hps]) ?_
 by_cases hb:64<d
 ·have z0:((64:Int)<(d:Int))=True:=eq_true (by omega)
  have z1:A8X d (p.each.map e)=3:=if_pos hb
  simp -implicitDefEqProofs only [go_sem,z0,z1]
 have z0:((64:Int)<(d:Int))=False:=eq_false (by omega)
 have z1:A8X d (p.each.map e)=J7 (p.each.map e):=if_neg hb
 rw [z1]
 simp -implicitDefEqProofs only [go_sem,z0,h1,h2]
 refine A2.at [] [0,1] (hec 2) rfl rfl ?_
 rintro r h' n' hn ⟨rfl,rfl,rfl⟩
 simp -implicitDefEqProofs only [go_sem]
 refine⟨by kernel_rfl,?_⟩
 generalize hSL: [(9,V.fn 24 [V.ptr (15*10000+1) 2 0 0]),(8,.agg pr),(7,.bool false),(6,.int .i64 d),(5,.agg pr),(2,.ptr (10*10000+2) 1 0 0),(1,.ptr (10*10000+1) 0 0 0),(0,.agg pr)]=SL
 refine A2.pre (xs':= [.yld (10*10000+9010) 3,.ptr (15*10000+1) 2 0 0]) (h':= [((10*10000+9010),3,.loop 16 SL [10] (A0l Tryz.prog 16 Q0 Q1) .ready none),((10*10000+2),1,.rows 1 [[.int .i64 0]]),((15*10000+1),2,.rows 11 [pr]),((10*10000+1),0,.rows 11 [pr])]) (n':=4)
  (.turn id ⟨.refl _,.refl _,trivial⟩ (.at 0 rfl rfl (.refl _) (.at 2 rfl rfl (.refl _) (.at 1 rfl rfl (.refl _) (.at 3 rfl rfl (.refl _) trivial))))) rfl ?_
 refine(he1 (10*10000+9010) 3 (15*10000+1) 2 (fun pre h n=>(∀x∈pre.map e,x=0)∧h= [((10*10000+9010),3,.loop 16 SL [10] (A0l Tryz.prog 16 Q0 Q1) .ready none),((10*10000+2),1,.rows 1 [[.int .i64 0]]),((15*10000+1),2,.rows 11 [pr]),((10*10000+1),0,.rows 11 [pr])])
  (fun pre h n=> ∃pre' q,pre=pre'++ [q]∧(∀x∈pre'.map e,x=0)∧e q≠0∧h= [((10*10000+9010),3,.loop 16 SL [10] (A0l Tryz.prog 16 Q0 Q1) .done (some .ret)),((10*10000+2),1,.rows 1 [[.int .i64 (e q)]]),((15*10000+1),2,.rows 11 [pr]),((10*10000+1),0,.rows 11 [pr])]) ⟨?_,fun _ _ _ _ _ h=>h,?_,?_⟩ _ 4 (by simp -implicitDefEqProofs only [go_sem]) ⟨by simp,rfl⟩).mono ?_
 ·rintro pre q rest h n hw ⟨hz,rfl⟩
  have hqm:q∈p.each:=by rw [hw];simp
  have hq:=hs q hqm
  obtain⟨g1,g2⟩:=B5 q
  have hqs:=Fn.row_sub H0 q
  generalize q.row=qr at*
  refine P7.enterU A9l A9m rfl rfl fun Q hQ=>Run.go 100 ?_
  subst hSL
  simp -implicitDefEqProofs only [go_sem,g1,g2]
  refine A2.pureF hq (by simp -implicitDefEqProofs only [go_sem,hqs]) ?_
  by_cases hq0:e q=0
  ·simp -implicitDefEqProofs only [go_sem,hq0]
   subst hQ
   refine .to (n2:=n+1) (.inl ⟨rfl,?_,rfl⟩) (.turn id ⟨.refl _,trivial⟩ (.at 0 rfl rfl (.refl _) (.at 2 rfl rfl (.refl _) (.at 3 rfl rfl (.refl _) (.at 4 rfl rfl (.refl _) trivial)))))
   intro x hx
   simp only [List.map_append,List.mem_append,List.map_cons,List.map_nil,List.mem_singleton]at hx
   rcases hx with hx|rfl
   ·exact hz x hx
   ·exact hq0
  ·simp -implicitDefEqProofs only [go_sem,hq0]
   subst hQ
   refine .to (n2:=n+1) (.inr ⟨rfl,pre,q,rfl,hz,hq0,rfl⟩) (.turn id ⟨.refl _,trivial⟩ (.at 0 rfl rfl (.refl _) (.at 1 rfl rfl (.refl _) (.at 3 rfl rfl (.refl _) (.at 4 rfl rfl (.refl _) trivial)))))
 ·rintro pre h n ⟨_,rfl⟩
  exact⟨.of rfl,.of rfl⟩
 ·rintro pre h n ⟨_,_,_,_,_,rfl⟩
  exact⟨.of rfl,.of rfl⟩
 ·rintro r h' n' (⟨hz,rfl⟩|⟨pre,q,rest,hw,pre',q',hpq,hz,hq0,rfl⟩)
  ·subst hSL
   have:=A0o hz
   simp -implicitDefEqProofs only [go_sem,this]
  ·subst hSL
   obtain⟨rfl,hqq⟩:=List.append_inj' hpq rfl
   obtain rfl:q=q':=by simpa using hqq
   have:J7 (p.each.map e)=e q:=by rw [hw,List.map_append,List.map_cons];exact A9b hz hq0
   simp -implicitDefEqProofs only [go_sem,this]
end Go.Proofs.YtnihmhbcjpcobaaGreatDoor
