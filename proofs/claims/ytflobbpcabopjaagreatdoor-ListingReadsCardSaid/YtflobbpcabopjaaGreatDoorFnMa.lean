/-
 Functions within functions, their parts, copies. No condition.
-/
import Derived.Test.YtflobbpcabopjaaGreatDoorFn
import Derived.Test.YtflobbpcabopjaaGreatDoorRnd
import Derived.Test.YtflobbpcabopjaaGreatDoorCode
set_option linter.unusedVariables false set_option linter.unusedSimpArgs false set_option maxRecDepth 100000
set_option maxHeartbeats 0
namespace Go.Proofs.YtflobbpcabopjaaGreatDoor
section
open Go.Abs
attribute [local irreducible] A0 Run J4
theorem S7{d:Nat}{h:A2}{es:List (List V)}(hs: ∀φ,es.map (fun r=>r.map (V.sub φ))=es):es.map (fun r=>r.map (frz d h))=es:=by
 obtain⟨φ,e⟩:=A1A (d:=d) (h:=h)
 rw [e];exact hs φ
theorem C3V(es:List (List V))(hz:D5 es 5)(hl:es.length≤3518437208883)(hs: ∀φ,es.map (fun r=>r.map (V.sub φ))=es):Pure Tryz.prog 107 [.isl es] (.isl es):=by
 have hz':D5 es 5=True:=eq_true hz
 have hl':=eq_true hl
 refine Pure.of 1 (A0.enter K3 Jo (Run.go 100 ?_))
 exact Yh
theorem C3W(es:List (List V))(hz:D5 es 1)(hl:es.length≤17592186044416)(hs: ∀φ,es.map (fun r=>r.map (V.sub φ))=es):Pure Tryz.prog 108 [.isl es] (.isl es):=by
 have hz':D5 es 1=True:=eq_true hz
 have hl':=eq_true hl
 refine Pure.of 1 (A0.enter w8 Jo (Run.go 100 ?_))
 exact Yh
theorem C3X(es:List (List V))(hz:D5 es 5)(hl:es.length≤2932031007402)(hs: ∀φ,es.map (fun r=>r.map (V.sub φ))=es):Pure Tryz.prog 109 [.isl es] (.isl es):=by
 have hz':D5 es 5=True:=eq_true hz
 have hl':=eq_true hl
 refine Pure.of 1 (A0.enter K4 Jo (Run.go 100 ?_))
 exact Yh
theorem C6f(es:List (List V))(hz:D5 es 3)(hl:es.length≤4398046511104)(hs: ∀φ,es.map (fun r=>r.map (V.sub φ))=es):Pure Tryz.prog 110 [.isl es] (.isl es):=by
 have hz':D5 es 3=True:=eq_true hz
 have hl':=eq_true hl
 refine Pure.of 1 (A0.enter R1 Jo (Run.go 100 ?_))
 exact Yh
theorem C6g(es:List (List V))(hz:D5 es 5)(hl:es.length≤2932031007402)(hs: ∀φ,es.map (fun r=>r.map (V.sub φ))=es):Pure Tryz.prog 111 [.isl es] (.isl es):=by
 have hz':D5 es 5=True:=eq_true hz
 have hl':=eq_true hl
 refine Pure.of 1 (A0.enter O5 Jo (Run.go 100 ?_))
 exact Yh
theorem C1{α:Type}(f:α→List V)(sz:Nat)(h: ∀x,(f x).length=sz)(l:List α):D5 (l.map f) sz:=fun r hr=>by
 obtain⟨y,_,rfl⟩:=List.mem_map.1 hr
 exact h y
theorem B9s(p:Fn)(hw:p.bd):Pure Tryz.prog 70 [.agg p.row] (.agg p.row):=by
 induction p using Fn.ind with
 | h p ih'=>
  have hl:=hw.self
  have c1:=C3V (p.code.map Ins.row) (C1 _ 5 (fun _=>rfl) _) (by rw [List.length_map];exact Nat.le_trans hl.code zf) (fun φ=>C8 φ _ _ fun x _=>Ins.row_sub φ x)
  have c2:=C3W (p.lines.map E9) (C1 _ 1 (fun _=>rfl) _) (by rw [List.length_map];exact Nat.le_trans hl.lines zf) (fun φ=>C8 φ _ _ fun x _=>B2b φ x)
  have c3:=C3X (p.consts.map Kst.row) (C1 _ 5 (fun _=>rfl) _) (by rw [List.length_map];exact Nat.le_trans hl.consts zf) (fun φ=>C8 φ _ _ fun x _=>Kst.row_sub φ x)
  have c4:=C6f (p.ups.map Upv.row) (C1 _ 3 (fun _=>rfl) _) (by rw [List.length_map];exact Nat.le_trans hl.ups zf) (fun φ=>C8 φ _ _ fun x _=>Upv.row_sub φ x)
  have c5:=C6g (p.vars.map Vr.row) (C1 _ 5 (fun _=>rfl) _) (by rw [List.length_map];exact Nat.le_trans hl.vars zf) (fun φ=>C8 φ _ _ fun x _=>Vr.row_sub φ x)
  have g1:=fun φ=>C8 φ _ p.code fun x _=>Ins.row_sub φ x
  have s1:=g1 I6
  have f1:=fun d h=>S7 (d:=d) (h:=h) g1
  have g2:=fun φ=>C8 φ _ p.lines fun x _=>B2b φ x
  have s2:=g2 I6
  have f2:=fun d h=>S7 (d:=d) (h:=h) g2
  have g3:=fun φ=>C8 φ _ p.consts fun x _=>Kst.row_sub φ x
  have s3:=g3 I6
  have f3:=fun d h=>S7 (d:=d) (h:=h) g3
  have g4:=fun φ=>C8 φ _ p.ups fun x _=>Upv.row_sub φ x
  have s4:=g4 I6
  have f4:=fun d h=>S7 (d:=d) (h:=h) g4
  have g5:=fun φ=>C8 φ _ p.vars fun x _=>Vr.row_sub φ x
  have s5:=g5 I6
  have f5:=fun d h=>S7 (d:=d) (h:=h) g5
  refine Pure.of 1 (A0.enter A7p Jo ?_)
  rw [Fn.row_eq p]
  generalize p.code.map Ins.row=e1 at*
  generalize p.lines.map E9=e2 at*
  generalize p.consts.map Kst.row=e3 at*
  generalize p.ups.map Upv.row=e4 at*
  generalize p.vars.map Vr.row=e5 at*
  refine Run.go 100 ?_
  refine Qz ?_
  refine A3y.pureF c1 (by simp -implicitDefEqProofs only [go_sem,s1]) ?_
  refine Qy ?_
  refine A3y.pureF c2 (by simp -implicitDefEqProofs only [go_sem,s2]) ?_
  refine Qy ?_
  refine A3y.pureF c3 (by simp -implicitDefEqProofs only [go_sem,s3]) ?_
  refine Qy ?_
  refine A3y.pureF c4 (by simp -implicitDefEqProofs only [go_sem,s4]) ?_
  refine Qy ?_
  refine A3y.pureF c5 (by simp -implicitDefEqProofs only [go_sem,s5]) ?_
  refine Qy ?_
  have hlen:(p.protos.map Fn.row).length=p.protos.length:=List.length_map ..
  have hpl:=hl.protos
  have hrz:=eq_true (C1 Fn.row 11 Fn.row_len p.protos)
  have hrow: ∀(k:Nat) q,p.protos[k]? =some q→(p.protos.map Fn.row)[k]? =some q.row:=fun k q hk=>by rw [List.getElem?_map,hk];rfl
  have hsub:=fun φ=>Fn.rows_sub φ p.protos
  have htk: ∀(k:Nat) q,p.protos[k]? =some q→(p.protos.take (k+1)).map Fn.row=(p.protos.take k).map Fn.row++ [q.row]:=fun k q hk=>by
   rw [List.take_add_one,hk];simp
  have htl: ∀k,((p.protos.take k).map Fn.row).length=min k p.protos.length:=fun k=>by simp
  have hta:(p.protos.take p.protos.length).map Fn.row=p.protos.map Fn.row:=by rw [List.take_length]
  have ht0:(p.protos.take 0).map Fn.row= []:=rfl
  generalize hP:p.protos.map Fn.row=es at*
  generalize hT:(fun k=>(p.protos.take k).map Fn.row)=T
  have hT': ∀k,(p.protos.take k).map Fn.row=T k:=fun k=>by rw [←hT]
  simp only [hT']at htk htl hta ht0
  refine Run.roundsK (fun(x:Nat×Nat×Nat)=>⟨[(29,.int .i64 x.1),(28,.int .i64 p.protos.length),(27,.isl es),(3,.sl (70*10000+37) x.2.1 0 x.1),(2,.ptr (70*10000+2) 1 0 0),(1,.ptr (70*10000+1) 0 0 0)],
    [((70*10000+37),x.2.1,.rows 11 (T x.1)),((70*10000+1),0,.rows 11 [[.str p.name,.int .i64 p.line,.int .i64 p.params,.bool p.vararg,.int .i64 p.regs,.isl e1,.isl e2,.isl e3,.isl es,.isl e4,.isl e5]]),((70*10000+2),1,.rows 11 [[.str [],.int .i64 0,.int .i64 0,.bool false,.int .i64 0,.nils,.nils,.nils,.nils,.nils,.nils]])],x.2.2⟩)
   (fun x=>x.1≤p.protos.length) (fun x=>p.protos.length-x.1) (0,2,3) ?_ (Nat.zero_le _) ?_
  ·refine .trans (.fresh (70*10000+37) 11 _ _ _) (.turn id ⟨.refl _,.refl _,.refl _,.nils,.refl _,.refl _,trivial⟩ (.at 0 rfl rfl (.of_eq (by simp only [ht0])) (.at 1 rfl rfl (.refl _) (.at 2 rfl rfl (.refl _) trivial))))
  rintro⟨k,st,m⟩ hk ih
  simp only at hk ih⊢
  refine Run.unf B0Y (Run.go 100 ?_)
  by_cases hlt:k<p.protos.length
  ·have q0:((k:Int)<(p.protos.length:Int))=True:=Jm
   have q1:((0:Int)≤(k:Int))=True:=Jm
   obtain⟨q,hq⟩: ∃q,p.protos[k]? =some q:=⟨p.protos[k],by simp [hlt]⟩
   have hqm:q∈p.protos:=List.mem_of_getElem? hq
   have hqr:=hrow k q hq
   have hql:=q.row_len
   have hqs:=Fn.row_sub I6 q
   have hih:=ih' q hqm (hw.child hqm)
   have hTl:(T k).length=k:=by rw [htl];omega
   have hTk:=htk k q hq
   have hzk:((k:Int)+1)=((k+1:Nat):Int):=by omega
   have hap:(k+1≤733007751850)=True:=Jm
   have hTt:(T k).take k=T k:=List.take_of_length_le zd
   have htq:q.row.take 11=q.row:=List.take_of_length_le zd
   generalize q.row=qr at*
   simp -implicitDefEqProofs only [go_sem,q0,q1,hlen,hrz,hqr,Option.some.injEq,forall_eq',hql,htq,List.append_nil]
   refine⟨hlt,?_⟩
   refine A0.pureF hih Qo ?_
   simp -implicitDefEqProofs only [go_sem,hql,hTl,hap,hTt,htq]
   refine⟨by omega,?_⟩
   refine ih _ (k+1,m+1,m+2) zj zj (E8.wk ?_)
   simp only [←hzk,hTk]
   exact ze
  ·have e:k=p.protos.length:=by omega
   subst e
   refine QK ?_
   have hTl:(T p.protos.length).length=p.protos.length:=by rw [htl];omega
   have e2:Nat.ble p.protos.length (T p.protos.length).length=true:=Nat.ble_eq_true_of_le zd
   have e3:(T p.protos.length).take p.protos.length=es:=by rw [List.take_of_length_le zd,hta]
   have e4:=fun d h=>S7 (d:=d) (h:=h) hsub
   simp only [f1,f2,f3,f4,f5,e3,if_pos (Nat.le_of_ble_eq_true e2),e4,and_self]
theorem C9(p:Fn):p.row.length=11∧p.row.take 11=p.row:=⟨p.row_len,List.take_of_length_le (by rw [p.row_len];exact Nat.le_refl _)⟩
theorem C4i(p:Fn)(n:Nat):A0 Tryz.prog 32 [.agg p.row] [] n fun r h' n'=>r= .fn 68 [.ptr (32*10000+1) n 0 0]∧h'= [((32*10000+1),n,.rows 11 [p.row])]∧n'=n+1:=by
 obtain⟨h1,h2⟩:=C9 p
 generalize p.row=pr at*
 refine A0.enterK B0h Jo fun Q hQ=>Run.go 100 ?_
 refine QF ?_
 subst hQ
 exact .is ⟨rfl,rfl,rfl⟩
structure Rnds(nm st:Nat)(whole:List Fn)(J X:List Fn→A2→Nat→Prop):Prop where
 round: ∀pre q rest h n,whole=pre++q::rest→J pre h n→J4 Tryz.prog nm st [.agg q.row] h n fun r h' n'=>(r= .bool true∧J (pre++ [q]) h' n')∨(r= .bool false∧X (pre++ [q]) h' n')
 up: ∀pre h n n',n≤n'→J pre h n→J pre h n'
 apJ: ∀pre h n,J pre h n→B4 h (69*10000+2)∧B4 h (69*10000+6)
 apX: ∀pre h n,X pre h n→B4 h (69*10000+2)∧B4 h (69*10000+6)
theorem C8n{nm st:Nat}{whole:List Fn}{J X:List Fn→A2→Nat→Prop}(hR:Rnds nm st whole J X)(p:Fn)(hp:p.bd): ∀pre post h n,whole=pre++p.each++post→J pre h n→
  A0 Tryz.prog 69 [.agg p.row,.yld nm st] h n fun r h' n'=>(r= .bool true∧J (pre++p.each) h' n')∨(r= .bool false∧ ∃pre' q rest,whole=pre'++q::rest∧X (pre'++ [q]) h' n'):=by
 induction p using Fn.ind with
 | h p ih'=>
  intro pre post h n hw hJ
  have hp8:=hp.self.protos
  obtain⟨a1,a2⟩:=hR.apJ _ _ _ hJ
  have d1:=a1.del
  have d2:=a2.del
  have hround:=hR.round pre p (Fn.eachs p.protos++post) h (n+1) (by rw [hw,Fn.each_eq];simp) (hR.up _ _ _ _ (Nat.le_succ n) hJ)
  refine A0.enterK B0o Jo fun Q hQ=>Run.go 100 ?_
  obtain⟨h1,h2⟩:=C9 p
  have heq:=p.row_eq
  have h8:p.row[8]? =some (.isl (p.protos.map Fn.row)):=by rw [heq];rfl
  have hpl:(p.protos.map Fn.row).length=p.protos.length:=List.length_map ..
  have hrz:=eq_true (C1 Fn.row 11 Fn.row_len p.protos)
  have hrow: ∀(k:Nat) q,p.protos[k]? =some q→(p.protos.map Fn.row)[k]? =some q.row:=fun k q hk=>by rw [List.getElem?_map,hk];rfl
  clear heq
  generalize p.row=pr at*
  generalize p.protos.map Fn.row=es at*
  simp -implicitDefEqProofs only [go_sem,A3,h1,h2,d1]
  refine J4.use (rest:= [_]) hround rfl (fun e he e' he'=>by rw [List.mem_singleton.1 he];exact a1 e' he') ?_
  rintro r h' n' hn (⟨rfl,hJ'⟩|⟨rfl,hX⟩)
  ·simp -implicitDefEqProofs only [go_sem,h8]
   refine Run.roundsK (fun(x:Nat×A2×Nat)=>⟨[(14,.int .i64 x.1),(13,.int .i64 p.protos.length),(12,.isl es),(2,.ptr (69*10000+2) n 0 0),(1,.yld nm st)],((69*10000+2),n,.rows 11 [pr])::x.2.1,x.2.2⟩)
    (fun x=>x.1≤p.protos.length∧J (pre++ [p]++Fn.eachs (p.protos.take x.1)) x.2.1 x.2.2) (fun x=>p.protos.length-x.1) (0,h',n') ?_ ⟨Nat.zero_le _,by simpa [Fn.eachs]using hJ'⟩ ?_
   ·refine E8.wk ⟨B0.1 (by simp -implicitDefEqProofs only [go_sem,hpl]),fun e he=> ?_,Nat.le_refl _⟩
    simpa using he
   rintro⟨k,h3,n3⟩ ⟨hk,hJ3⟩ ih
   simp only at hk hJ3 ih⊢
   obtain⟨b1,b2⟩:=hR.apJ _ _ _ hJ3
   have c1:=b1.del
   have c2:=b2.del
   refine Run.unf B3o (Run.go 100 ?_)
   by_cases hlt:k<p.protos.length
   ·have q0:((k:Int)<(p.protos.length:Int))=True:=Jm
    have q1:((0:Int)≤(k:Int))=True:=Jm
    obtain⟨q,hq⟩: ∃q,p.protos[k]? =some q:=⟨p.protos[k],by simp [hlt]⟩
    have hqm:q∈p.protos:=List.mem_of_getElem? hq
    have hqr:=hrow k q hq
    have hql:=q.row_len
    have htq:q.row.take 11=q.row:=List.take_of_length_le zd
    have hzk:((k:Int)+1)=((k+1:Nat):Int):=by omega
    have hspl:p.protos=p.protos.take k++q::p.protos.drop (k+1):=by
     have:=List.getElem_of_getElem? hq
     obtain⟨hk',e⟩:=this
     rw [←e,List.getElem_cons_drop];simp
    have hw3:whole=(pre++ [p]++Fn.eachs (p.protos.take k))++q.each++(Fn.eachs (p.protos.drop (k+1))++post):=by
     have e1:Fn.eachs p.protos=Fn.eachs (p.protos.take k)++(q.each++Fn.eachs (p.protos.drop (k+1))):=by
      conv=>lhs;rw [hspl]
      rw [Fn.eachs_append,Fn.eachs]
     rw [hw,Fn.each_eq p,e1];simp
    have hcall:=ih' q hqm (hp.child hqm) _ _ h3 (n3+1) hw3 (hR.up _ _ _ _ (Nat.le_succ n3) hJ3)
    have htk:Fn.eachs (p.protos.take (k+1))=Fn.eachs (p.protos.take k)++q.each:=by
     rw [List.take_add_one,hq];simp [Fn.eachs_append,Fn.eachs]
    generalize q.row=qr at*
    simp -implicitDefEqProofs only [go_sem,q0,q1,hpl,hrz,hqr,Option.some.injEq,forall_eq',hql,htq,List.append_nil,c2]
    refine⟨hlt,?_⟩
    refine A0.use (rest:= [_,_]) hcall rfl (fun e he e' he'=> ?_) ?_
    ·simp only [List.mem_cons,List.not_mem_nil,or_false]at he
     rcases he with rfl|rfl
     ·exact b2 e' he'
     ·exact b1 e' he'
    rintro r h4 n4 hn4 (⟨rfl,hJ4⟩|⟨rfl,pre',q',rest,hwx,hX⟩)
    ·refine Qy ?_
     refine⟨by omega,?_⟩
     refine ih _ (k+1,h4,n4) ⟨by simp only;omega,by simp only [htk];rw [←List.append_assoc];exact hJ4⟩ zj (E8.wk ⟨B0.1 zk,fun e he=>List.mem_cons_of_mem _ he,Nat.le_refl _⟩)
    ·refine Qy ?_
     subst hQ
     refine .to (Or.inr ⟨rfl,pre',q',rest,hwx,hX⟩) (E8.wk ⟨fun p hp=> ?_,fun e he=>List.mem_cons_of_mem _ (List.mem_cons_of_mem _ he),Nat.le_refl _⟩)
     rw [List.mem_singleton.1 hp];rfl
   ·have e:k=p.protos.length:=by omega
    subst e
    refine QK ?_
    subst hQ
    rw [List.take_length]at hJ3
    refine .to (Or.inl ⟨rfl,by rw [Fn.each_eq];simpa using hJ3⟩) (E8.wk ⟨fun p hp=> ?_,fun e he=>List.mem_cons_of_mem _ he,Nat.le_refl _⟩)
    rw [List.mem_singleton.1 hp];rfl
  ·refine Qy ?_
   subst hQ
   refine .to (Or.inr ⟨rfl,pre,p,Fn.eachs p.protos++post,by rw [hw,Fn.each_eq];simp,hX⟩) (E8.wk ⟨fun p hp=> ?_,fun e he=>List.mem_cons_of_mem _ he,Nat.le_refl _⟩)
   rw [List.mem_singleton.1 hp];rfl
theorem C1u{nm st b sb:Nat}{J X:List Fn→A2→Nat→Prop}(p:Fn)(hp:p.bd)(hR:Rnds nm st p.each J X)(h:A2)(n:Nat)(hg:A2.get h b sb=some (.rows 11 [p.row]))(hJ:J [] h n):
  A0 Tryz.prog 68 [.yld nm st,.ptr b sb 0 0] h n fun r h' n'=>J p.each h' n'∨ ∃pre' q rest,p.each=pre'++q::rest∧X (pre'++ [q]) h' n':=by
 obtain⟨h1,h2⟩:=C9 p
 have hc:=B9s p hp
 have hs:=Fn.row_sub I6 p
 have hw:=C8n hR p hp [] [] h n zg hJ
 generalize p.row=pr at*
 refine A0.enterK A7n Jo fun Q hQ=>Run.go 100 ?_
 simp -implicitDefEqProofs only [go_sem,A3,hg,h1,h2]
 refine A0.pureF hc Qp ?_
 refine Qy ?_
 refine hw.mono ?_
 rintro r h' n' (⟨rfl,hJ'⟩|⟨rfl,pre',q',rest,hwx,hX⟩)
 ·refine Qy ?_
  subst hQ
  exact .is (.inl (by simpa using hJ'))
 ·refine Qy ?_
  subst hQ
  exact .is (.inr ⟨pre',q',rest,hwx,hX⟩)
def A3D(l:List Fn):Nat:=(l.map fun q=>q.code.length).sum
theorem C2r(l:List Fn)(q:Fn):A3D (l++ [q])=A3D l+q.code.length:=by simp [A3D]
theorem C0H: ∀{l:List Fn},(∀q∈l,q.Le)→A3D l≤l.length*3518437208780
 | [],_=>by simp [A3D]
 |q::r,h=>by
  have h1:=(h q List.mem_cons_self).code
  have h2:=C0H fun x hx=>h x (List.mem_cons_of_mem _ hx)
  simp only [A3D,List.map_cons,List.sum_cons,List.length_cons]at h2⊢
  omega
theorem C0a{α:Type}(l:List α):l= []∨ ∃r x,l=r++ [x]:=by
 rcases List.eq_nil_or_concat l with h|⟨r,x,h⟩
 ·exact .inl h
 ·exact .inr ⟨r,x,by simpa using h⟩
theorem C7Y{R:List (List V)}{l:List Fn}{m k:Nat}{q:Fn}(h:R.take m=l.map Fn.row)(hk:l[k]? =some q)(hm:l.length=m):R[k]? =some q.row:=by
 have hlt:=(List.getElem?_eq_some_iff.1 hk).1
 have:(R.take m)[k]? =some q.row:=by rw [h,List.getElem?_map,hk];rfl
 rwa [List.getElem?_take_of_lt zd]at this
theorem C5D{R:List (List V)}{l:List Fn}{q:Fn}{m:Nat}(h:R.take (m+1)=(l++ [q]).map Fn.row)(hl:l.length=m):R.take m=l.map Fn.row:=by
 have:=congrArg (List.take m) h
 rw [List.take_take,Nat.min_eq_left zd]at this
 rw [this]
 simp [←hl]
theorem A6G(p:Fn)(hp:p.bd)(hc:p.each.length≤1000000):Pure Tryz.prog 34 [.agg p.row] (.isl (p.each.map Fn.row)):=by
 obtain⟨h1,h2⟩:=C9 p
 have hfin:=fun d h=>S7 (d:=d) (h:=h) fun φ=>Fn.rows_sub φ p.each
 refine Pure.of 1 (A0.enter A0L Jo (Run.go 100 ?_))
 have hpr: [p.row]= [p].map Fn.row:=rfl
 generalize hpr':p.row=pr at*
 refine QF ?_
 refine Run.roundsK (fun(x:List Fn×List (List V)×List Fn×Nat×Nat×Nat)=>⟨[(4,.sl (34*10000+42) x.2.2.2.1 0 x.1.length),(3,.sl (34*10000+26) x.2.2.2.2.1 0 x.2.2.1.length)],
   [((34*10000+42),x.2.2.2.1,.rows 11 x.2.1),((34*10000+26),x.2.2.2.2.1,.rows 11 (x.2.2.1.map Fn.row))],x.2.2.2.2.2⟩)
  (fun x=>x.2.1.take x.1.length=x.1.map Fn.row∧x.1.length≤x.2.1.length∧x.2.2.1++Fn.eachs x.1.reverse=p.each) (fun x=>(Fn.eachs x.1.reverse).length) ([p],[pr],[],1,2,3) ?_ ⟨hpr,Nat.le_refl _,by simp [Fn.eachs]⟩ ?_
 ·refine .trans (.fresh (34*10000+26) 11 _ _ _) (.turn (fun b=>if b=(34*10000+9)then(34*10000+42)else b) ⟨.sl,.nils,trivial⟩ (.at 1 rfl rfl (.refl _) (.at 0 rfl rfl (.refl _) trivial)))
 rintro⟨td,R,out,st,so,n⟩ ⟨hR,hRl,hO⟩ ih
 simp only at hR hRl hO ih⊢
 have hol:(out.map Fn.row).length=out.length:=List.length_map ..
 have hsum:out.length+(Fn.eachs td.reverse).length=p.each.length:=by rw [←hO];simp
 have hse:=Fn.eachs_len td.reverse
 rw [List.length_reverse]at hse
 refine Run.unf A3R (Run.go 100 ?_)
 rcases C0a td with rfl|⟨td,q,rfl⟩
 ·have hO':out=p.each:=by rw [←hO];simp [Fn.eachs]
  subst hO'
  have e1:(p.each.map Fn.row).take p.each.length=p.each.map Fn.row:=List.take_of_length_le zd
  generalize p.each.map Fn.row=es at*
  simp -implicitDefEqProofs only [go_sem,List.length_nil,hol,e1]
  exact hfin _ _
 ·have hln:(td++ [q]).length=td.length+1:=by simp
  rw [hln]at hR hRl hse⊢
  have q0:((0:Int)<((td.length+1:Nat):Int))=True:=Jm
  have q1:((td.length+1:Nat):Int)-1=(td.length:Int):=by omega
  have q2:((0:Int)≤(td.length:Int))=True:=Jm
  have q3:((td.length:Int)<((td.length+1:Nat):Int))=True:=Jm
  have q4:((td.length:Int)≤((td.length+1:Nat):Int))=True:=Jm
  have hq:=C7Y (k:=td.length) (q:=q) hR zg hln
  have hR0:=C5D hR rfl
  have hqm:q∈p.each:=by rw [←hO];exact List.mem_append.2 (.inr (by rw [List.reverse_append];simp only [List.reverse_cons,List.reverse_nil,List.nil_append,List.cons_append];rw [Fn.eachs];exact List.mem_append.2 (.inl q.self_mem)))
  have hqp:=(hp q hqm).protos
  obtain⟨g1,g2⟩:=C9 q
  have g8:q.row[8]? =some (.isl (q.protos.map Fn.row)):=by rw [q.row_eq];rfl
  have hpl:(q.protos.map Fn.row).length=q.protos.length:=List.length_map ..
  have hrz:=eq_true (C1 Fn.row 11 Fn.row_len q.protos)
  have hap:(out.length+1≤137438953472)=True:=Jm
  have hotk:(out.map Fn.row).take out.length=out.map Fn.row:=List.take_of_length_le zd
  have q5:td.length<R.length:=by omega
  generalize hqr:q.row=qr at*
  generalize hes:q.protos.map Fn.row=es at*
  generalize hOR:out.map Fn.row=OR at*
  simp -implicitDefEqProofs only [go_sem,q0,q1,q2,q3,q4,q5,hq,g1,g2,g8,hol,hpl,hap,hotk,Option.some.injEq,forall_eq',List.append_nil]
  refine⟨by omega,by omega,?_⟩
  have hz0:((td.length:Int)-0).toNat=td.length:=by omega
  rw [hz0]
  have hpl2:q.protos.length≤(Fn.eachs q.protos).length:=Fn.eachs_len _
  have hqe:Fn.eachs (td++ [q]).reverse=q::(Fn.eachs q.protos++Fn.eachs td.reverse):=by rw [List.reverse_append];simp only [List.reverse_cons,List.reverse_nil,List.nil_append,List.cons_append];rw [Fn.eachs,Fn.each_eq];rfl
  rw [hqe]at hO hsum ih
  have htl:=Fn.eachs_len td.reverse
  rw [List.length_reverse]at htl
  simp only [List.length_cons,List.length_append]at hsum
  refine Run.roundsK (fun(x:Nat×List (List V)×Nat×Nat)=>⟨[(7,.int .i64 ((q.protos.length:Int)-1-x.1)),(6,.ptr (34*10000+6) n 0 0),(4,.sl (34*10000+42) x.2.2.1 0 (td.length+x.1)),(3,.sl (34*10000+26) (n+1) 0 (out.length+1))],
    [((34*10000+42),x.2.2.1,.rows 11 x.2.1),((34*10000+26),n+1,.rows 11 (OR++ [qr])),((34*10000+6),n,.rows 11 [qr])],x.2.2.2⟩)
   (fun x=>x.1≤q.protos.length∧x.2.1.take (td.length+x.1)=(td++q.protos.reverse.take x.1).map Fn.row∧td.length+x.1≤x.2.1.length) (fun x=>q.protos.length-x.1) (0,R,st,n+1+1) ?_ ⟨Nat.zero_le _,by simpa using hR0,by simp only;omega⟩ ?_
  ·exact E8.wk (by simp -implicitDefEqProofs only [go_sem,Int.sub_zero])
  rintro⟨k,R',st',m⟩ ⟨hk,hR',hRl'⟩ ih2
  simp only at hk hR' hRl' ih2⊢
  refine Run.unf A3S (Run.go 100 ?_)
  by_cases hlt:k<q.protos.length
  ·have z0:((0:Int)≤(q.protos.length:Int)-1-(k:Int))=True:=Jm
   have z1:((q.protos.length:Int)-1-(k:Int)<(q.protos.length:Int))=True:=Jm
   have z2:((q.protos.length:Int)-1-(k:Int)).toNat=q.protos.length-1-k:=by omega
   obtain⟨r,hr⟩: ∃r,q.protos[q.protos.length-1-k]? =some r:=⟨q.protos[q.protos.length-1-k]' zd,by simp⟩
   have hrr:q.protos.reverse[k]? =some r:=by rw [List.getElem?_reverse hlt];exact hr
   have hre:es[q.protos.length-1-k]? =some r.row:=by rw [←hes,List.getElem?_map,hr];rfl
   obtain⟨f1,f2⟩:=C9 r
   have hap2:(td.length+k+1≤137438953472)=True:=Jm
   have z3:td.length+k≤R'.length:=hRl'
   have hnew:(td++q.protos.reverse.take (k+1)).map Fn.row=R'.take (td.length+k)++ [r.row]:=by
    rw [hR',List.take_add_one,hrr];simp
   have hmin:(R'.take (td.length+k)).length=td.length+k:=by rw [List.length_take];omega
   generalize r.row=rr at*
   simp -implicitDefEqProofs only [go_sem,z0,z1,z2,hpl,hrz,hre,g8,f1,f2,hap2,z3,Option.some.injEq,forall_eq']
   refine⟨by omega,by omega,?_⟩
   have z4:(q.protos.length:Int)-1-((k+1:Nat):Int)=(q.protos.length:Int)-1-k-1:=by omega
   refine ih2 _ (k+1,R'.take (td.length+k)++ [rr],m,m+1) ⟨by simp only;omega,?_,?_⟩ zj (E8.wk (by simp -implicitDefEqProofs only [go_sem,z4,Nat.add_assoc]))
   ·simp only [hnew]
    exact List.take_of_length_le (by simp only [List.length_append,hmin,List.length_singleton];omega)
   ·simp only [List.length_append,hmin,List.length_singleton];omega
  ·have e:k=q.protos.length:=by omega
   subst e
   have z0:((0:Int)≤(q.protos.length:Int)-1-(q.protos.length:Int))=False:=Jn
   simp -implicitDefEqProofs only [go_sem,z0]
   have hl2:(td++q.protos.reverse).length=td.length+q.protos.length:=by simp
   have hl3:(out++ [q]).length=out.length+1:=by simp
   have ho3:(out++ [q]).map Fn.row=OR++ [qr]:=by rw [List.map_append,hOR,←hqr];rfl
   have hre:(td++q.protos.reverse).reverse=q.protos++td.reverse:=by simp
   rw [show q.protos.reverse.take q.protos.length=q.protos.reverse from List.take_of_length_le zg]at hR'
   refine ih _ (td++q.protos.reverse,R',out++ [q],st',n+1,m) ⟨by simp only [hl2];exact hR',by simp only [hl2];exact hRl',?_⟩ ?_ (E8.wk ?_)
   ·simp only [hre,Fn.eachs_append]
    rw [←hO];simp
   ·simp only [hre,Fn.eachs_append,List.length_append,List.length_cons];omega
   ·simp only [hl2,hl3,ho3]
    exact ze
theorem C2o(p:Fn)(hp:p.bd)(hc:p.each.length≤1000000):Pure Tryz.prog 19 [.agg p.row] (.int .i64 (A3D p.each)):=by
 obtain⟨h1,h2⟩:=C9 p
 have hre:=A6G p hp hc
 have hs:=Fn.row_sub I6 p
 refine Pure.of 0 (A0.enter A0P Jo (Run.go 100 ?_))
 have hpm:(p.each.map Fn.row).length=p.each.length:=List.length_map ..
 have hrz:=eq_true (C1 Fn.row 11 Fn.row_len p.each)
 have hrow: ∀(k:Nat) q,p.each[k]? =some q→(p.each.map Fn.row)[k]? =some q.row:=fun k q hk=>by rw [List.getElem?_map,hk];rfl
 generalize p.row=pr at*
 generalize p.each.map Fn.row=es at*
 refine QF ?_
 refine A0.pureF hre Qp ?_
 refine Qy ?_
 refine Run.rounds (fun(x:Nat)=>⟨[(5,.int .i64 x),(4,.isl es),(3,.int .i64 (A3D (p.each.take x)))],[],1⟩) (fun x=>x≤p.each.length) (fun x=>p.each.length-x) 0 (by simp -implicitDefEqProofs only [go_sem,List.take_zero,A3D,List.map_nil,List.sum_nil]) (Nat.zero_le _) ?_
 rintro k hk ih
 refine Run.unf A3U (Run.go 100 ?_)
 by_cases hlt:k<p.each.length
 ·have q0:((k:Int)<(p.each.length:Int))=True:=Jm
  have q1:((0:Int)≤(k:Int))=True:=Jm
  obtain⟨q,hq⟩: ∃q,p.each[k]? =some q:=⟨p.each[k],by simp [hlt]⟩
  have hqr:=hrow k q hq
  have hqm:q∈p.each:=List.mem_of_getElem? hq
  have g5:q.row[5]? =some (.isl (q.code.map Ins.row)):=by rw [q.row_eq];rfl
  have hcl:(q.code.map Ins.row).length=q.code.length:=List.length_map ..
  have htk:A3D (p.each.take (k+1))=A3D (p.each.take k)+q.code.length:=by rw [List.take_add_one,hq];exact C2r _ _
  have hb:=C0H (l:=p.each.take (k+1)) fun x hx=>hp x (List.mem_of_mem_take hx)
  have hbl:(p.each.take (k+1)).length≤1000000:=Nat.le_trans (by rw [List.length_take];omega) hc
  generalize q.row=qr at*
  generalize q.code.map Ins.row=cs at*
  simp -implicitDefEqProofs only [go_sem,q0,q1,hpm,hrz,hqr,g5,hcl,Option.some.injEq,forall_eq']
  refine⟨hlt,by omega,by omega,?_⟩
  exact ih _ (k+1) zd zd (by simp -implicitDefEqProofs only [go_sem,htk];exact⟨by omega,by omega⟩)
 ·have e:k=p.each.length:=by omega
  subst e
  rw [List.take_length]
  simp -implicitDefEqProofs only [go_sem,hpm,Int.lt_irrefl]
def parts(q:Fn):Nat:=q.code.length+q.lines.length+q.consts.length+q.ups.length+q.vars.length
structure SmallP(p:Fn):Prop where
 count:p.each.length≤40
 parts: ∀q∈p.each,parts q≤400∧q.protos.length≤40
theorem SmallP.bd{p:Fn}(h:SmallP p):p.bd:=fun q hq=>by
 have h1:=(h.parts q hq).1
 have h2:=(h.parts q hq).2
 unfold Go.Proofs.YtflobbpcabopjaaGreatDoor.parts at h1
 exact XV
def U5:List Int→Int
 | []=>0
 |x::r=>if x=0 then U5 r else x
theorem A6w: ∀{l:List Int},(∀x∈l,x=0)→U5 l=0
 | [],_=>rfl
 |x::r,h=>by rw [U5,if_pos (h x List.mem_cons_self)];exact A6w fun y hy=>h y (List.mem_cons_of_mem _ hy)
theorem B0L: ∀{l:List Int} {x:Int} {r:List Int},(∀y∈l,y=0)→x≠0→U5 (l++x::r)=x
 | [],x,r,_,hx=>by simp [U5,hx]
 |y::l,x,r,h,hx=>by rw [List.cons_append,U5,if_pos (h y List.mem_cons_self)];exact B0L (fun z hz=>h z (List.mem_cons_of_mem _ hz)) hx
def B4H(d:Nat)(l:List Int):Int:=if 64<d then 3 else U5 l
theorem C6d(p:Fn)(hp:p.bd)(d:Nat)(hd:Pure Tryz.prog 31 [.agg p.row] (.int .i64 d))(e:Fn→Int)
  (hs: ∀q∈p.each,Pure Tryz.prog 33 [.agg q.row] (.int .i64 (e q))):Pure Tryz.prog 14 [.agg p.row] (.int .i64 (B4H d (p.each.map e))):=by
 obtain⟨h1,h2⟩:=C9 p
 have hps:=Fn.row_sub I6 p
 have hec:=fun n=>C4i p n
 have he1:=fun nm st b sb J X hR h n hg hJ=>C1u (nm:=nm) (st:=st) (b:=b) (sb:=sb) (J:=J) (X:=X) p hp hR h n hg hJ
 generalize hpr:p.row=pr at*
 refine Pure.of 0 (A0.enter A8U Jo (Run.go 100 ?_))
 refine QF ?_
 refine A0.pureF hd zl ?_
 by_cases hb:64<d
 ·have z0:((64:Int)<(d:Int))=True:=Jm
  have z1:B4H d (p.each.map e)=3:=if_pos hb
  simp -implicitDefEqProofs only [go_sem,z0,z1]
 have z0:((64:Int)<(d:Int))=False:=Jn
 have z1:B4H d (p.each.map e)=U5 (p.each.map e):=if_neg hb
 rw [z1]
 simp -implicitDefEqProofs only [go_sem,z0,h1,h2]
 refine A0.at [] [0,1] (hec 2) rfl rfl ?_
 rintro r h' n' hn ⟨rfl,rfl,rfl⟩
 refine Qy ?_
 refine⟨by kernel_rfl,?_⟩
 generalize hSL: [(9,V.fn 68 [V.ptr (32*10000+1) 2 0 0]),(8,.agg pr),(7,.bool false),(6,.int .i64 d),(5,.agg pr),(2,.ptr (14*10000+2) 1 0 0),(1,.ptr (14*10000+1) 0 0 0),(0,.agg pr)]=SL
 refine A0.pre (xs':= [.yld (14*10000+9010) 3,.ptr (32*10000+1) 2 0 0]) (h':= [((14*10000+9010),3,.loop 16 SL [10] (A0l Tryz.prog 16 T3 T4) .ready none),((14*10000+2),1,.rows 1 [[.int .i64 0]]),((32*10000+1),2,.rows 11 [pr]),((14*10000+1),0,.rows 11 [pr])]) (n':=4)
  (.turn id ⟨.refl _,.refl _,trivial⟩ (.at 0 rfl rfl (.refl _) (.at 2 rfl rfl (.refl _) (.at 1 rfl rfl (.refl _) (.at 3 rfl rfl (.refl _) trivial))))) rfl ?_
 refine(he1 (14*10000+9010) 3 (32*10000+1) 2 (fun pre h n=>(∀x∈pre.map e,x=0)∧h= [((14*10000+9010),3,.loop 16 SL [10] (A0l Tryz.prog 16 T3 T4) .ready none),((14*10000+2),1,.rows 1 [[.int .i64 0]]),((32*10000+1),2,.rows 11 [pr]),((14*10000+1),0,.rows 11 [pr])])
  (fun pre h n=> ∃pre' q,pre=pre'++ [q]∧(∀x∈pre'.map e,x=0)∧e q≠0∧h= [((14*10000+9010),3,.loop 16 SL [10] (A0l Tryz.prog 16 T3 T4) .done (some .ret)),((14*10000+2),1,.rows 1 [[.int .i64 (e q)]]),((32*10000+1),2,.rows 11 [pr]),((14*10000+1),0,.rows 11 [pr])]) ⟨?_,fun _ _ _ _ _ h=>h,?_,?_⟩ _ 4 ze ⟨by simp,rfl⟩).mono ?_
 ·rintro pre q rest h n hw ⟨hz,rfl⟩
  have hqm:q∈p.each:=by rw [hw];simp
  have hq:=hs q hqm
  obtain⟨g1,g2⟩:=C9 q
  have hqs:=Fn.row_sub I6 q
  generalize q.row=qr at*
  refine J4.enterU B0W B0X rfl rfl fun Q hQ=>Run.go 100 ?_
  subst hSL
  refine QC ?_
  refine A0.pureF hq Qo ?_
  by_cases hq0:e q=0
  ·simp -implicitDefEqProofs only [go_sem,hq0]
   subst hQ
   refine .to (n2:=n+1) (.inl ⟨rfl,?_,rfl⟩) (.turn id ⟨.refl _,trivial⟩ (.at 0 rfl rfl (.refl _) (.at 2 rfl rfl (.refl _) (.at 3 rfl rfl (.refl _) (.at 4 rfl rfl (.refl _) trivial)))))
   intro x hx
   simp only [List.map_append,List.mem_append,List.map_cons,List.map_nil,List.mem_singleton]at hx
   rcases hx with hx|rfl
   ·exact hz x hx
   ·exact hq0
  ·simp -implicitDefEqProofs only [go_sem,hq0]
   subst hQ
   refine .to (n2:=n+1) (.inr ⟨rfl,pre,q,rfl,hz,hq0,rfl⟩) (.turn id ⟨.refl _,trivial⟩ (.at 0 rfl rfl (.refl _) (.at 1 rfl rfl (.refl _) (.at 3 rfl rfl (.refl _) (.at 4 rfl rfl (.refl _) trivial)))))
 ·rintro pre h n ⟨_,rfl⟩
  exact⟨.of rfl,.of rfl⟩
 ·rintro pre h n ⟨_,_,_,_,_,rfl⟩
  exact⟨.of rfl,.of rfl⟩
 ·rintro r h' n' (⟨hz,rfl⟩|⟨pre,q,rest,hw,pre',q',hpq,hz,hq0,rfl⟩)
  ·subst hSL
   have:=A6w hz
   simp -implicitDefEqProofs only [go_sem,this]
  ·subst hSL
   obtain⟨rfl,hqq⟩:=List.append_inj' hpq rfl
   obtain rfl:q=q':=by simpa using hqq
   have:U5 (p.each.map e)=e q:=by rw [hw,List.map_append,List.map_cons];exact B0L hz hq0
   simp -implicitDefEqProofs only [go_sem,this]
end
section
open Go.Abs
attribute [local irreducible] A0 Run J4
theorem Y7{α:Type}{l:List α}{k:Nat}{x:α}{f:α→Bool}(h:(l.take k).any f=false)(hx:l[k]? =some x)(hf:f x=false):(l.take (k+1)).any f=false:=by
 rw [List.take_add_one,hx];simp [h,hf]
theorem A6p{α:Type}{l:List α}{k:Nat}{x:α}{f:α→Bool}(hx:l[k]? =some x)(hf:f x=true):l.any f=true:=List.any_eq_true.2 ⟨x,List.mem_of_getElem? hx,hf⟩
theorem A2F{α:Type}{l:List α}{f:α→Bool}(h:(l.take l.length).any f=false):l.any f=false:=by rwa [List.take_length]at h
theorem B3C(l:List Upv)(hl:l.length≤17592186043904)(f:Upv→Bool)(g:FuncId)(cs:List V)(h:A2)(hg:M4 Tryz.prog g=true)(hf: ∀x∈l,∀n,A0 Tryz.prog g (.agg (Upv.row x)::cs) h n fun r h' n'=>r= .bool (f x)∧h'=h)(n:Nat):
  A0 Tryz.prog 113 [.isl (l.map Upv.row),.fn g cs] h n fun r h' n'=>r= .bool (l.any f)∧h'=h:=by
 have key: ∀n,A0 Tryz.prog 157 [.isl (l.map Upv.row),.fn g cs] h n fun r h' n'=>(∃z:Int,r= .int .i64 z∧decide (0≤z)=l.any f)∧h'=h:=by
  intro n
  have la:(l.map Upv.row).length=l.length:=List.length_map ..
  have za:=eq_true (C1 Upv.row 3 (fun _=>rfl) l)
  have ra: ∀(k:Nat) x,l[k]? =some x→(l.map Upv.row)[k]? =some (Upv.row x):=fun k x hk=>by rw [List.getElem?_map,hk];rfl
  generalize l.map Upv.row=A at*
  refine A0.enterK M9 Jo fun Q hQ=>Run.go 100 ?_
  simp -implicitDefEqProofs only [go_sem,A3,la]
  refine Run.roundsK (fun(x:Nat×Nat)=>⟨[(8,.int .i64 x.1),(7,.int .i64 l.length),(1,.fn g cs),(0,.isl A)],h,x.2⟩) (fun x=>x.1≤l.length∧(l.take x.1).any f=false) (fun x=>l.length-x.1) (0,n) (E8.wk ⟨B0.1 ze,fun _ h=>h,Nat.le_refl _⟩) ⟨Nat.zero_le _,rfl⟩ ?_
  rintro⟨k,m⟩ ⟨hk,hno⟩ ih
  simp only at hk hno ih⊢
  refine Run.unf Y6 (Run.go 100 ?_)
  by_cases hlt:k<l.length
  ·have q0:((k:Int)<(l.length:Int))=True:=Jm
   have q1:((0:Int)≤(k:Int))=True:=Jm
   obtain⟨x,hx⟩: ∃x,l[k]? =some x:=⟨l[k],by simp [hlt]⟩
   have hxr:=ra k x hx
   have hc:=hf x (List.mem_of_getElem? hx)
   have hzk:((k+1:Nat):Int)=(k:Int)+1:=by omega
   simp -implicitDefEqProofs only [go_sem,q0,q1,la,za,hxr,Upv.row,hg,Option.some.injEq,forall_eq']
   exact Js
  ·exact Xw
 generalize l.map Upv.row=A at*
 refine A0.enterK J5 Jo fun Q hQ=>Run.go 100 ?_
 exact Xx
theorem B9q(l:List Vr)(hl:l.length≤17592186043904)(f:Vr→Bool)(g:FuncId)(cs:List V)(h:A2)(hg:M4 Tryz.prog g=true)(hf: ∀x∈l,∀n,A0 Tryz.prog g (.agg (Vr.row x)::cs) h n fun r h' n'=>r= .bool (f x)∧h'=h)(n:Nat):
  A0 Tryz.prog 115 [.isl (l.map Vr.row),.fn g cs] h n fun r h' n'=>r= .bool (l.any f)∧h'=h:=by
 have key: ∀n,A0 Tryz.prog 158 [.isl (l.map Vr.row),.fn g cs] h n fun r h' n'=>(∃z:Int,r= .int .i64 z∧decide (0≤z)=l.any f)∧h'=h:=by
  intro n
  have la:(l.map Vr.row).length=l.length:=List.length_map ..
  have za:=eq_true (C1 Vr.row 5 (fun _=>rfl) l)
  have ra: ∀(k:Nat) x,l[k]? =some x→(l.map Vr.row)[k]? =some (Vr.row x):=fun k x hk=>by rw [List.getElem?_map,hk];rfl
  generalize l.map Vr.row=A at*
  refine A0.enterK L1 Jo fun Q hQ=>Run.go 100 ?_
  simp -implicitDefEqProofs only [go_sem,A3,la]
  refine Run.roundsK (fun(x:Nat×Nat)=>⟨[(8,.int .i64 x.1),(7,.int .i64 l.length),(1,.fn g cs),(0,.isl A)],h,x.2⟩) (fun x=>x.1≤l.length∧(l.take x.1).any f=false) (fun x=>l.length-x.1) (0,n) (E8.wk ⟨B0.1 ze,fun _ h=>h,Nat.le_refl _⟩) ⟨Nat.zero_le _,rfl⟩ ?_
  rintro⟨k,m⟩ ⟨hk,hno⟩ ih
  simp only at hk hno ih⊢
  refine Run.unf W5 (Run.go 100 ?_)
  by_cases hlt:k<l.length
  ·have q0:((k:Int)<(l.length:Int))=True:=Jm
   have q1:((0:Int)≤(k:Int))=True:=Jm
   obtain⟨x,hx⟩: ∃x,l[k]? =some x:=⟨l[k],by simp [hlt]⟩
   have hxr:=ra k x hx
   have hc:=hf x (List.mem_of_getElem? hx)
   have hzk:((k+1:Nat):Int)=(k:Int)+1:=by omega
   simp -implicitDefEqProofs only [go_sem,q0,q1,la,za,hxr,Vr.row,hg,Option.some.injEq,forall_eq']
   exact Js
  ·exact Xw
 generalize l.map Vr.row=A at*
 refine A0.enterK J0 Jo fun Q hQ=>Run.go 100 ?_
 exact Xx
theorem B1G(l:List Int)(hl:l.length≤17592186043904)(f:Int→Bool)(g:FuncId)(cs:List V)(h:A2)(hg:M4 Tryz.prog g=true)(hf: ∀x∈l,∀n,A0 Tryz.prog g (.int .i64 x::cs) h n fun r h' n'=>r= .bool (f x)∧h'=h)(n:Nat):
  A0 Tryz.prog 117 [.isl (l.map E9),.fn g cs] h n fun r h' n'=>r= .bool (l.any f)∧h'=h:=by
 have key: ∀n,A0 Tryz.prog 159 [.isl (l.map E9),.fn g cs] h n fun r h' n'=>(∃z:Int,r= .int .i64 z∧decide (0≤z)=l.any f)∧h'=h:=by
  intro n
  have la:(l.map E9).length=l.length:=List.length_map ..
  have za:=eq_true (C1 E9 1 (fun _=>rfl) l)
  have ra: ∀(k:Nat) x,l[k]? =some x→(l.map E9)[k]? =some (E9 x):=fun k x hk=>by rw [List.getElem?_map,hk];rfl
  generalize l.map E9=A at*
  refine A0.enterK U8 Jo fun Q hQ=>Run.go 100 ?_
  simp -implicitDefEqProofs only [go_sem,A3,la]
  refine Run.roundsK (fun(x:Nat×Nat)=>⟨[(8,.int .i64 x.1),(7,.int .i64 l.length),(1,.fn g cs),(0,.isl A)],h,x.2⟩) (fun x=>x.1≤l.length∧(l.take x.1).any f=false) (fun x=>l.length-x.1) (0,n) (E8.wk ⟨B0.1 ze,fun _ h=>h,Nat.le_refl _⟩) ⟨Nat.zero_le _,rfl⟩ ?_
  rintro⟨k,m⟩ ⟨hk,hno⟩ ih
  simp only at hk hno ih⊢
  refine Run.unf A1H (Run.go 100 ?_)
  by_cases hlt:k<l.length
  ·have q0:((k:Int)<(l.length:Int))=True:=Jm
   have q1:((0:Int)≤(k:Int))=True:=Jm
   obtain⟨x,hx⟩: ∃x,l[k]? =some x:=⟨l[k],by simp [hlt]⟩
   have hxr:=ra k x hx
   have hc:=hf x (List.mem_of_getElem? hx)
   have hzk:((k+1:Nat):Int)=(k:Int)+1:=by omega
   simp -implicitDefEqProofs only [go_sem,q0,q1,la,za,hxr,E9,hg,Option.some.injEq,forall_eq']
   exact Js
  ·exact Xw
 generalize l.map E9=A at*
 refine A0.enterK Q0 Jo fun Q hQ=>Run.go 100 ?_
 exact Xx
theorem B9B(a b:Nat):Pure Tryz.prog 170 [.int .i64 a,.int .i64 b] (.int .i64 (Nat.gcd a b)):=by
 refine Pure.of 0 (A0.enter A7C Jo (Run.go 100 ?_))
 refine Qz ?_
 refine Run.rounds (fun(x:Nat×Nat)=>⟨[(1,.int .i64 x.2),(0,.int .i64 x.1)],[],0⟩) (fun x=>Nat.gcd x.1 x.2=Nat.gcd a b) (fun x=>x.2) (a,b) ze rfl ?_
 rintro⟨x,y⟩ hg ih
 simp only at hg ih⊢
 refine Run.unf B1c (Run.go 100 ?_)
 by_cases h0:y=0
 ·subst h0
  rw [Nat.gcd_zero_right]at hg
  simp -implicitDefEqProofs only [go_sem,hg]
 ·have q0:((y:Int)=0)=False:=Jn
  have q1:(x:Int).tmod (y:Int)=((x%y:Nat):Int):=(Int.ofNat_tmod x y).symm
  simp -implicitDefEqProofs only [go_sem,q0,q1]
  refine ih _ (y,x%y) ?_ (Nat.mod_lt _ zd) ze
  simp only
  rw [←hg,Nat.gcd_comm x y,Nat.gcd_rec y x,Nat.gcd_comm]
def H1(p q:Int):Bool:=decide (1≤q)&&(decide (q≤2147483647)&&(decide (-2147483647≤p)&&(decide (p≤2147483647)&&decide (Int.gcd p q=1))))
theorem B7L(p q:Int):Pure Tryz.prog 129 [.agg [.int .i64 p,.int .i64 q]] (.bool (H1 p q)):=by
 refine Pure.of 0 (A0.enter A4B Jo (Run.go 100 ?_))
 by_cases h1:1≤q
 case neg=>
  have:H1 p q=false:=by simp [H1,h1]
  simp -implicitDefEqProofs only [go_sem,A3,h1,this]
 by_cases h2:q≤2147483647
 case neg=>
  have:H1 p q=false:=by simp [H1,h2]
  simp -implicitDefEqProofs only [go_sem,A3,h1,h2,this]
 by_cases h3: -2147483647≤p
 case neg=>
  have:H1 p q=false:=by simp [H1,h3]
  simp -implicitDefEqProofs only [go_sem,A3,h1,h2,h3,this]
 by_cases h4:p≤2147483647
 case neg=>
  have:H1 p q=false:=by simp [H1,h4]
  simp -implicitDefEqProofs only [go_sem,A3,h1,h2,h3,h4,this]
 have hnum:H1 p q=decide (Int.gcd p q=1):=by simp [H1,h1,h2,h3,h4]
 have hg:=B9B p.natAbs q.natAbs
 have e1:((q.natAbs:Nat):Int)=q:=by omega
 have e3:Nat.gcd p.natAbs q.natAbs=Int.gcd p q:=rfl
 rw [e1,e3]at hg
 have e4:(((p.gcd q:Nat):Int)=1)=(p.gcd q=1):=propext zd
 by_cases h5:p<0-p
 ·have e2:((p.natAbs:Nat):Int)=0-p:=by omega
  exact XM
 ·have e2:((p.natAbs:Nat):Int)=p:=by omega
  exact XM
def I0(v:Kst):Bool:=
 if v.kind=0 then decide (v.p=0)&&(decide (v.q=0)&&(decide (v.str= [])&&decide (v.ref=0)))
 else if v.kind=1 then(decide (v.ref=0)||decide (v.ref=1))&&(decide (v.p=0)&&(decide (v.q=0)&&decide (v.str= [])))
 else if v.kind=2 then H1 v.p v.q&&(decide (v.str= [])&&decide (v.ref=0))
 else decide (v.kind=3)&&(decide (v.str.length≤4096)&&(decide (v.p=0)&&(decide (v.q=0)&&decide (v.ref=0))))
theorem B6g(v:Kst)(hk:v.kind≤3):Pure Tryz.prog 120 [.agg v.row] (.bool (I0 v)):=by
 obtain⟨kind,p,q,str,ref⟩:=v
 simp only at hk
 have hn:=B7L p q
 refine Pure.of 0 (A0.enter A9s Jo (Run.go 100 ?_))
 by_cases k0:kind=0
 ·subst k0
  refine Jc ?_
  simp only [Bool.and_assoc]
 by_cases k1:kind=1
 ·subst k1
  refine Jc ?_
  by_cases r0:ref=0<;>by_cases r1:ref=1<;>simp [r0,r1,Bool.and_assoc]
 by_cases k2:kind=2
 ·subst k2
  refine Jc ?_
  refine A0.pureF hn ze ?_
  refine Qy ?_
  cases H1 p q<;>simp [Bool.and_assoc]
 by_cases k3:kind=3
 ·subst k3
  refine Jc ?_
  by_cases r0:(str.length:Int)≤4096
  ·have r1:str.length≤4096:=by omega
   simp [r0,r1,Bool.and_assoc]
  ·have r1: ¬str.length≤4096:=by omega
   simp [r0,r1]
 have e4:(kind=4)=False:=Jn
 have e5:(kind=5)=False:=Jn
 have e6:(kind=6)=False:=Jn
 have e7:(kind=7)=False:=Jn
 have e8:(kind=8)=False:=Jn
 simp -implicitDefEqProofs only [go_sem,A3,Kst.row,I0,k0,k1,k2,k3,e4,e5,e6,e7,e8]
theorem B7m(s:List UInt8)(h:A2)(n:Nat):A0 Tryz.prog 112 [.str s] h n fun r h' n'=>r= .bool (decide (40<s.length))∧h'=h:=by
 refine A0.enterK A4v Jo fun Q hQ=>Run.go 100 ?_
 have e:((40:Int)<(s.length:Int))=(40<s.length):=propext zd
 simp -implicitDefEqProofs only [go_sem,A3,e]
 exact KA
theorem C9j(u:Upv)(B:Blk)(n:Nat):A0 Tryz.prog 114 [.agg (Upv.row u),.ptr (71*10000+3) 1 0 0] [((71*10000+3),1,.rows 1 [[.fn 112 []]]),((71*10000+1),0,B)] n fun r h' n'=>r= .bool (decide (40<u.name.length))∧h'= [((71*10000+3),1,.rows 1 [[.fn 112 []]]),((71*10000+1),0,B)]:=by
 refine A0.enterK A4w Jo fun Q hQ=>Run.go 100 ?_
 refine Jb ?_
 exact Xu
theorem C9k(v:Vr)(B:Blk)(n:Nat):A0 Tryz.prog 116 [.agg (Vr.row v),.ptr (71*10000+3) 1 0 0] [((71*10000+3),1,.rows 1 [[.fn 112 []]]),((71*10000+1),0,B)] n fun r h' n'=>r= .bool (decide (40<v.name.length))∧h'= [((71*10000+3),1,.rows 1 [[.fn 112 []]]),((71*10000+1),0,B)]:=by
 refine A0.enterK A4x Jo fun Q hQ=>Run.go 100 ?_
 simp -implicitDefEqProofs only [go_sem,A3,Vr.row]
 exact Xu
def C1O(p:Fn):Int:=
 if p.code.length≤16384∧p.consts.length≤4096∧p.protos.length≤1024∧p.ups.length≤60∧p.vars.length≤16384∧p.regs≤4096∧p.name.length≤4096∧p.ups.any (fun u=>decide (40<u.name.length))=false∧p.vars.any (fun v=>decide (40<v.name.length))=false then 0 else 3
theorem B9P(p:Fn)(hp:p.bd):Pure Tryz.prog 71 [.agg p.row] (.int .i64 (C1O p)):=by
 obtain⟨h1,h2⟩:=C9 p
 have hb:=hp.self
 rw [Fn.row_eq]at h1 h2⊢
 obtain⟨name,line,params,vararg,regs,code,lines,consts,protos,ups,vars⟩:=p
 have k1:(code.map Ins.row).length=code.length:=List.length_map ..
 have k2:(consts.map Kst.row).length=consts.length:=List.length_map ..
 have k3:(protos.map Fn.row).length=protos.length:=List.length_map ..
 have k4:(ups.map Upv.row).length=ups.length:=List.length_map ..
 have k5:(vars.map Vr.row).length=vars.length:=List.length_map ..
 have hu:ups.length≤17592186043904:=by have:=hb.ups;simp only at this;omega
 have hv:vars.length≤17592186043904:=by have:=hb.vars;simp only at this;omega
 have cu:=B3C ups hu (fun u=>decide (40<u.name.length)) 114 [.ptr (71*10000+3) 1 0 0]
 have cv:=B9q vars hv (fun u=>decide (40<u.name.length)) 116 [.ptr (71*10000+3) 1 0 0]
 generalize hl:C1O _=z
 simp only [C1O]at hl
 simp only at*
 generalize code.map Ins.row=rcode at*
 generalize consts.map Kst.row=rconsts at*
 generalize protos.map Fn.row=rprotos at*
 generalize ups.map Upv.row=rups at*
 generalize vars.map Vr.row=rvars at*
 refine Pure.of 0 (A0.enter A7t Jo (Run.go 100 ?_))
 by_cases l1:code.length≤16384
 case neg=>
  obtain rfl:z=3:=hl ▸ if_neg (fun h=>l1 h.1)
  have z1:((16384:Int)<(code.length:Int))=True:=Jm
  simp -implicitDefEqProofs only [go_sem,A3,h1,h2,k1,k2,k3,k4,k5,z1]
 have z1:((16384:Int)<(code.length:Int))=False:=Jn
 by_cases l2:consts.length≤4096
 case neg=>
  obtain rfl:z=3:=hl ▸ if_neg (fun h=>l2 h.2.1)
  have z2:((4096:Int)<(consts.length:Int))=True:=Jm
  simp -implicitDefEqProofs only [go_sem,A3,h1,h2,k1,k2,k3,k4,k5,z1,z2]
 have z2:((4096:Int)<(consts.length:Int))=False:=Jn
 by_cases l3:protos.length≤1024
 case neg=>
  obtain rfl:z=3:=hl ▸ if_neg (fun h=>l3 h.2.2.1)
  have z3:((1024:Int)<(protos.length:Int))=True:=Jm
  simp -implicitDefEqProofs only [go_sem,A3,h1,h2,k1,k2,k3,k4,k5,z1,z2,z3]
 have z3:((1024:Int)<(protos.length:Int))=False:=Jn
 by_cases l4:ups.length≤60
 case neg=>
  obtain rfl:z=3:=hl ▸ if_neg (fun h=>l4 h.2.2.2.1)
  have z4:((60:Int)<(ups.length:Int))=True:=Jm
  simp -implicitDefEqProofs only [go_sem,A3,h1,h2,k1,k2,k3,k4,k5,z1,z2,z3,z4]
 have z4:((60:Int)<(ups.length:Int))=False:=Jn
 by_cases l5:vars.length≤16384
 case neg=>
  obtain rfl:z=3:=hl ▸ if_neg (fun h=>l5 h.2.2.2.2.1)
  have z5:((16384:Int)<(vars.length:Int))=True:=Jm
  simp -implicitDefEqProofs only [go_sem,A3,h1,h2,k1,k2,k3,k4,k5,z1,z2,z3,z4,z5]
 have z5:((16384:Int)<(vars.length:Int))=False:=Jn
 by_cases l6:regs≤4096
 case neg=>
  obtain rfl:z=3:=hl ▸ if_neg (fun h=>l6 h.2.2.2.2.2.1)
  have z6:((4096:Int)<regs)=True:=Jm
  simp -implicitDefEqProofs only [go_sem,A3,h1,h2,k1,k2,k3,k4,k5,z1,z2,z3,z4,z5,z6]
 have z6:((4096:Int)<regs)=False:=Jn
 by_cases l7:name.length≤4096
 case neg=>
  obtain rfl:z=3:=hl ▸ if_neg (fun h=>l7 h.2.2.2.2.2.2.1)
  have z7:((4096:Int)<(name.length:Int))=True:=Jm
  simp -implicitDefEqProofs only [go_sem,A3,h1,h2,k1,k2,k3,k4,k5,z1,z2,z3,z4,z5,z6,z7]
 have z7:((4096:Int)<(name.length:Int))=False:=Jn
 simp -implicitDefEqProofs only [go_sem,A3,h1,h2,z1,z2,z3,z4,z5,z6,z7,k1,k2,k3,k4,k5]
 refine(cu _ zh (fun u _ m=>C9j u _ m) _).mono ?_
 rintro r h' n' ⟨rfl,rfl⟩
 by_cases l8:ups.any (fun u=>decide (40<u.name.length))=true
 ·obtain rfl:z=3:=hl ▸ if_neg (fun h=>by simp [l8]at h)
  exact Qm
 have l8:ups.any (fun u=>decide (40<u.name.length))=false:=by simpa only [Bool.not_eq_true]using l8
 simp -implicitDefEqProofs only [go_sem,l8]
 refine(cv _ zh (fun u _ m=>C9k u _ m) _).mono ?_
 rintro r h' n' ⟨rfl,rfl⟩
 by_cases l9:vars.any (fun u=>decide (40<u.name.length))=true
 ·obtain rfl:z=3:=hl ▸ if_neg (fun h=>by simp [l9]at h)
  exact zY
 have l9:vars.any (fun u=>decide (40<u.name.length))=false:=by simpa only [Bool.not_eq_true]using l9
 obtain rfl:z=0:=hl ▸ if_pos ⟨l1,l2,l3,l4,l5,l6,l7,l8,l9⟩
 exact zY
end
end Go.Proofs.YtflobbpcabopjaaGreatDoor
