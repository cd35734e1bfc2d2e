/-
 The reference's verifier: the first error of a function and those within it. No condition.
-/
import Derived.Test.YtcaaenddpjepiaaGreatDoorRvL
import Derived.Test.YtcaaenddpjepiaaGreatDoorFnCk
import Derived.Test.YtcaaenddpjepiaaGreatDoorWh8
import Derived.Test.YtcaaenddpjepiaaGreatDoorFnQ3
import Derived.Test.YtcaaenddpjepiaaGreatDoorWhC
set_option linter.unusedVariables false
set_option linter.unusedSimpArgs false
set_option maxRecDepth 100000
set_option maxHeartbeats 0
namespace Go.Proofs.YtcaaenddpjepiaaGreatDoor
section
open Go.Abs
attribute [local irreducible] A0 Run
-- EV: Ins.v, Ins.row
attribute [local go_sem] Ins.v Ins.row
def B1a(x:Fn×List Int):List V:=x.1.row++ [.isl (x.2.map zrw)]
def A0B:List Fn→Nat→List Int→List (Fn×List Int)
 | [],_,_=> []
 |q::r,n,w=>(q,w++ [(n:Int)])::A0B r (n+1) w
theorem B8v: ∀(l:List Fn) (n:Nat) (w:List Int),(A0B l n w).length=l.length
 | [],_,_=>rfl
 |q::r,n,w=>by rw [A0B,List.length_cons,B8v r,List.length_cons]
theorem C1q: ∀{l:List Fn} {n:Nat} {w:List Int} {k:Nat} {q:Fn},l[k]? =some q→(A0B l n w)[k]? =some (q,w++ [((n+k:Nat):Int)])
 | [],_,_,_,_,h=>by simp at h
 |a::r,n,w,0,q,h=>by
  simp only [List.getElem?_cons_zero,Option.some.injEq]at h
  subst h;rfl
 |a::r,n,w,k+1,q,h=>by
  rw [List.getElem?_cons_succ]at h
  rw [A0B,List.getElem?_cons_succ,C1q h,Nat.add_assoc,Nat.add_comm 1 k]
theorem B8w: ∀(l:List Fn) (n:Nat) (w:List Int),(A0B l n w).map Prod.fst=l
 | [],_,_=>rfl
 |q::r,n,w=>by rw [A0B,List.map_cons,B8w r]
theorem B3G: ∀{l:List Fn} {n:Nat} {w:List Int} {y:Fn×List Int},y∈A0B l n w→y.1∈l∧y.2.length=w.length+1
 | [],_,_,_,h=>by cases h
 |a::r,n,w,y,h=>by
  rw [A0B]at h
  rcases List.mem_cons.1 h with rfl|h
  ·exact⟨List.mem_cons_self,by simp⟩
  ·exact⟨List.mem_cons_of_mem _ (B3G h).1,(B3G h).2⟩
noncomputable def srL:List (Fn×List Int)→Option (List Int×Int)
 | []=>none
 |x::r=>match x.1.srch x.2 with
  |some y=>some y
  |none=>srL r
theorem C2J: ∀(l:List Fn) (n:Nat) (w:List Int) (r:List (Fn×List Int)),srL (A0B l n w++r)=match Fn.srchs l n w with|some y=>some y|none=>srL r
 | [],_,_,_=>by simp only [A0B,List.nil_append,Fn.srchs]
 |q::s,n,w,r=>by
  rw [A0B,List.cons_append,srL,Fn.srchs]
  simp only
  cases q.srch (w++ [(n:Int)])with
  |some y=>rfl
  |none=>exact C2J s (n+1) w r
theorem D1A(q:Fn)(w:List Int)(r:List (Fn×List Int)):srL ((q,w)::r)=if 0≤M5 q then some (w,M5 q)else srL (A0B q.protos 0 w++r):=by
 rw [srL,C2J]
 simp only
 rw [Fn.srch_eq]
 by_cases h:0≤M5 q
 ·rw [if_pos h,if_pos h]
 ·rw [if_neg h,if_neg h]
theorem D6J{R:List (List V)}{l:List (Fn×List Int)}{x:Fn×List Int}{m:Nat}(h:R.take (m+1)=(l++ [x]).map B1a)(a:l.length=m):R[m]? =some (B1a x)∧R.take m=l.map B1a:=by
 subst a
 constructor
 ·have:(R.take (l.length+1))[l.length]? =some (B1a x):=by rw [h,List.map_append,List.getElem?_append_right zf];simp
  rwa [List.getElem?_take_of_lt zd]at this
 ·have:=congrArg (List.take l.length) h
  rw [List.take_take,Nat.min_eq_left zd]at this
  rw [this,List.map_append]
  exact List.take_left' zf
noncomputable def exV:Option (List Int×Int)→V
 |none=> .tup [.isl [],.int .i64 0,.int .i64 0]
 |some x=> .tup [.isl (x.1.map zrw),.int .i64 x.2,.int .i64 21]
theorem B8S: ∀l:List V,A3O (l++ [.nils]) (l++ [.isl []])
 | []=>⟨.nilI,trivial⟩
 |a::l=>⟨.refl a,B8S l⟩
theorem C1i{st b m:Nat}{rs:List (List V)}(h:m=rs.length): ∀l:List V,B1m st rs (l++ [.sl b st 0 m]) (l++ [.isl rs])
 | []=>⟨.all h,trivial⟩
 |a::l=>⟨.of (.refl a),C1i h l⟩
theorem B7G(p:Fn)(hp:p.bd)(hd:p.depth≤900)(hc:p.each.length≤1000000):Pure Tryz.prog 43 [.agg p.row]
  (if L5 p≠0 then .tup [.isl [],.int .i64 0,.int .i64 (L5 p)]else exV (p.srch [])):=by
 obtain⟨h1,h2⟩:=B4 p
 have I:=Fn.row_sub C7 p
 have u:=B1g p hp hc
 have B:=fun q (E:q∈p.each) hk=>C2f q (.of (B4k (p:=p) hk E))
 by_cases N:L5 p=0
 case neg=>
  rw [if_pos N]
  generalize L5 p=z at*
  generalize p.row=L at*
  refine Pure.of 0 (A0.enter T7 Jk (Run.go 100 ?_))
  refine QV ?_
  refine A0.pureF u zR ?_
  exact Qw
 rw [if_neg (fun h=>h N)]
 have B:=fun q E=>B q E N
 rw [N]at u
 have hroot: [p.row++ [V.isl []]]= [((p,[]):Fn×List Int)].map B1a:=rfl
 have hst:srL [((p,[]):Fn×List Int)]=p.srch []:=by
  unfold srL
  simp only
  cases p.srch []<;>rfl
 generalize hpr:p.row=L at*
 refine Pure.of 1 (A0.enterK T7 Jk fun Q X=>Run.go 100 ?_)
 refine QV ?_
 refine A0.pureF u zR ?_
 have hpt: ∀x:V,(L++List.drop 11 [x,x,x,x,x,x,x,x,x,x,x,x])=L++ [x]:=fun x=>rfl
 simp -implicitDefEqProofs only [go_sem,h1,h2]
 refine Run.roundsK (fun(x:List (Fn×List Int)×List (List V)×Nat×Nat)=>⟨[(6,.sl (43*10000+17) x.2.2.1 0 x.1.length)],[((43*10000+17),x.2.2.1,.rows 12 x.2.1)],x.2.2.2⟩)
  (fun x=>x.2.1.take x.1.length=x.1.map B1a∧x.1.length≤x.2.1.length∧srL x.1.reverse=p.srch []∧(∀y∈x.1,y.1∈p.each∧y.2.length+y.1.depth≤1000)∧(Fn.eachs (x.1.reverse.map Prod.fst)).length≤p.each.length)
  (fun x=>(Fn.eachs (x.1.reverse.map Prod.fst)).length) ([(p,[])],[L++ [.isl []]],1,2) ?_ ⟨by rw [←hpr];rfl,Nat.le_refl _,hst,fun y F=>by rw [List.mem_singleton.1 F];exact⟨p.self_mem,by simp only [List.length_nil];omega⟩,by simp [Fn.eachs]⟩ ?_
 ·exact .turn id ⟨.refl _,trivial⟩ (.at 0 rfl rfl (L1.row (B8S L)) trivial)
 rintro⟨t,R,st,n⟩ ⟨hR,J,f,hM,hE⟩ ih
 simp only at hR J f hM hE ih⊢
 refine Run.unf i4 (Run.go 100 ?_)
 rcases B4C t with rfl|⟨t,⟨q,w⟩,rfl⟩
 ·have f:none=p.srch []:=f
  refine Jg ?_
  rw [←f]at X
  subst X
  refine .is ?_
  show _=V.tup [.isl [],.int .i64 0,.int .i64 0]
  exact ze
 have hln:(t++ [(q,w)]).length=t.length+1:=by simp
 rw [hln]at hR J⊢
 have M:(t++ [(q,w)]).reverse=(q,w)::t.reverse:=by simp
 rw [M]at f hE ih
 rw [D1A]at f
 have q0:((0:Int)<((t.length+1:Nat):Int))=True:=Ji
 have q1:((t.length+1:Nat):Int)-1=(t.length:Int):=by omega
 have q2:((0:Int)≤(t.length:Int))=True:=Ji
 have q3:((t.length:Int)<((t.length+1:Nat):Int))=True:=Ji
 have q4:((t.length:Int)≤((t.length+1:Nat):Int))=True:=Ji
 obtain⟨E,hR0⟩:=D6J hR rfl
 have htl:t.length+1≤p.each.length:=by
  have:=Fn.eachs_len (((q,w)::t.reverse).map Prod.fst)
  rw [List.length_map,List.length_cons,List.length_reverse]at this
  omega
 have hE2:1+(Fn.eachs q.protos).length+(Fn.eachs (t.reverse.map Prod.fst)).length=(Fn.eachs (((q,w)::t.reverse).map Prod.fst)).length:=by
  rw [List.map_cons,Fn.eachs,Fn.each_eq]
  simp only [List.length_append,List.length_cons]
  omega
 have hE3:t.length≤(Fn.eachs (t.reverse.map Prod.fst)).length:=by
  have:=Fn.eachs_len (t.reverse.map Prod.fst)
  rw [List.length_map,List.length_reverse]at this
  exact this
 have hE4:=Fn.eachs_len q.protos
 obtain⟨i,Z⟩:=hM (q,w) zf
 simp only at i Z
 have hqp:=(hp q i).protos
 have hfp:=B q i
 have hqs:=Fn.row_sub C7 q
 have g8:q.row[8]? =some (.isl (q.protos.map Fn.row)):=by rw [q.row_eq];rfl
 have T:(q.protos.map Fn.row).length=q.protos.length:=List.length_map ..
 have hrz:=A8v Fn.row 11 Fn.row_len q.protos
 have g1:=q.row_len
 have q5:t.length<R.length:=by omega
 have S:(w.map zrw).length=w.length:=List.length_map ..
 have hwz:=H1 w
 have hws:=fun d h=>(G8 (d:=d) (h:=h)).elim fun φ e=>show (w.map zrw).map (fun r=>r.map (frz d h))=w.map zrw by rw [e];exact W9 φ _
 unfold B1a at E
 simp only at E
 generalize hqr:q.row=s at*
 generalize hes:q.protos.map Fn.row=es at*
 generalize hW:w.map zrw=W at*
 have Y:(s++ [V.isl W]).length=12:=by rw [List.length_append,g1];rfl
 have gT:(s++ [V.isl W]).take 11=s:=by rw [←g1];exact List.take_left' rfl
 have gT2:(s++ [V.isl W]).take 12=s++ [V.isl W]:=List.take_of_length_le zd
 have D:(s++ [V.isl W])[11]? =some (.isl W):=by rw [List.getElem?_append_right zd,g1];rfl
 have G:(s++ [V.isl W])[8]? =some (.isl es):=by rw [List.getElem?_append_left zd];exact g8
 generalize hIT:s++ [V.isl W]=IT at*
 simp -implicitDefEqProofs only [go_sem,q0,q1,q2,q3,q4,q5,E,Y,gT,gT2,D,G,Option.some.injEq,forall_eq']
 refine⟨⟨by omega,by omega⟩,⟨by omega,by omega⟩,?_⟩
 refine A0.pureF hfp Qv ?_
 generalize M5 q=fF at*
 by_cases g:0≤fF
 ·rw [if_pos g]at f
  rw [←f]at X
  simp -implicitDefEqProofs only [go_sem,g,Y,D,ge_iff_le]
  subst X
  refine .is ?_
  show _=V.tup [.isl (w.map zrw),.int .i64 fF,.int .i64 21]
  rw [hW]
  simp -implicitDefEqProofs only [go_sem,hws]
 rw [if_neg g]at f
 simp -implicitDefEqProofs only [go_sem,g,Y,G,T,ge_iff_le]
 have hz0:((t.length:Int)-0).toNat=t.length:=by omega
 rw [hz0]
 refine⟨⟨by omega,by omega⟩,?_⟩
 refine Run.keep [9,7,6] ?_
 have K:=B8v q.protos 0 w
 refine Run.roundsK (fun(x:Nat×List (List V)×Nat×Nat)=>⟨[(9,.int .i64 ((q.protos.length:Int)-1-x.1)),(7,.ptr (43*10000+7) n 0 0),(6,.sl (43*10000+17) x.2.2.1 0 (t.length+x.1))],
   [((43*10000+17),x.2.2.1,.rows 12 x.2.1),((43*10000+7),n,.rows 12 [IT])],x.2.2.2⟩)
  (fun x=>x.1≤q.protos.length∧x.2.1.take (t.length+x.1)=(t++(A0B q.protos 0 w).reverse.take x.1).map B1a∧t.length+x.1≤x.2.1.length) (fun x=>q.protos.length-x.1) (0,R,st,n+1) ?_ ⟨Nat.zero_le _,by simpa using hR0,by simp only;omega⟩ ?_
 ·exact C1.wk (C1.of Qi (fun e U=>by simp only [List.mem_cons]at U⊢;rcases U with h|h|h<;>simp only [h,eq_self,true_or,or_true]) (Nat.le_refl _))
 rintro⟨k,R',st',m⟩ ⟨hk,l,a⟩ O
 simp only at hk l a O⊢
 refine Run.unf N8 (Run.go 100 ?_)
 by_cases hlt:k<q.protos.length
 case neg=>
  have e:k=q.protos.length:=by omega
  subst e
  have z0:((0:Int)≤(q.protos.length:Int)-1-(q.protos.length:Int))=False:=Jj
  simp -implicitDefEqProofs only [go_sem,z0,ge_iff_le]
  have hkr:(A0B q.protos 0 w).reverse.take q.protos.length=(A0B q.protos 0 w).reverse:=List.take_of_length_le (by rw [List.length_reverse];omega)
  rw [hkr]at l
  have C:(t++(A0B q.protos 0 w).reverse).length=t.length+q.protos.length:=by rw [List.length_append,List.length_reverse,K]
  have A:(t++(A0B q.protos 0 w).reverse).reverse=A0B q.protos 0 w++t.reverse:=by simp
  have hE5:(Fn.eachs ((A0B q.protos 0 w++t.reverse).map Prod.fst)).length=(Fn.eachs q.protos).length+(Fn.eachs (t.reverse.map Prod.fst)).length:=by
   rw [List.map_append,B8w,Fn.eachs_append,List.length_append]
  refine ih _ (t++(A0B q.protos 0 w).reverse,R',st',m) ⟨by simp only [C];exact l,by simp only [C];exact a,by simp only [A];exact f,fun y F=> ?_,by simp only [A];omega⟩ (by simp only [A];omega) (C1.wk ?_)
  ·rcases List.mem_append.1 F with F|F
   ·exact hM y (List.mem_append_left _ F)
   ·obtain⟨y1,y2⟩:=B3G (List.mem_reverse.1 F)
    have:=Fn.depths_mem y1
    have:=Fn.depth_eq q
    exact⟨Fn.child_mem i y1,by omega⟩
  ·simp only [C]
   exact C1.of ze (fun e U=>by rw [List.mem_singleton.1 U];exact List.mem_cons_self) (Nat.le_refl _)
 have z0:((0:Int)≤(q.protos.length:Int)-1-(k:Int))=True:=Ji
 have z1:((q.protos.length:Int)-1-(k:Int)<(q.protos.length:Int))=True:=Ji
 have z2:((q.protos.length:Int)-1-(k:Int)).toNat=q.protos.length-1-k:=by omega
 obtain⟨r,hr⟩: ∃r,q.protos[q.protos.length-1-k]? =some r:=⟨q.protos[q.protos.length-1-k]' zd,by simp⟩
 have z5:q.protos.length-1-k<q.protos.length:=by omega
 have hre:es[q.protos.length-1-k]? =some r.row:=by rw [←hes,List.getElem?_map,hr];rfl
 obtain⟨f1,f2⟩:=B4 r
 generalize hrw:r.row=H at*
 have t11: ∀x:V,(H++ [x]).take 11=H:=fun x=>by rw [←f1];exact List.take_left' rfl
 have d12: ∀x:V,(H++ [x]).drop 12= []:=fun x=>List.drop_eq_nil_of_le (by simp only [List.length_append,List.length_singleton];omega)
 have v:(R'.take (t.length+k)).length=t.length+k:=by rw [List.length_take];omega
 have zap:(t.length+k+1≤137438953472)=True:=Ji
 have hWt:W.take w.length=W:=List.take_of_length_le zd
 simp -implicitDefEqProofs only [go_sem,z0,z1,z2,z5,Y,G,D,T,hrz,hre,f1,f2,S,hwz,t11,d12,a,zap,hWt,ge_iff_le,List.length_nil,List.append_nil,Nat.add_zero,Option.some.injEq,forall_eq']
 have hz4:(q.protos.length:Int)-1-((k+1:Nat):Int)=(q.protos.length:Int)-1-k-1:=by omega
 have hkk:(A0B q.protos 0 w).reverse[k]? =some (r,w++ [(q.protos.length:Int)-1-k]):=by
  rw [List.getElem?_reverse zd,K,C1q hr,Nat.zero_add]
  have:((q.protos.length-1-k:Nat):Int)=(q.protos.length:Int)-1-k:=by omega
  rw [this]
 have hir:B1a (r,w++ [(q.protos.length:Int)-1-k])=H++ [.isl (W++ [[.int .i64 ((q.protos.length:Int)-1-k)]])]:=by
  unfold B1a
  simp only [hrw,List.map_append,hW]
  rfl
 have P:w.length+1=(W++ [[V.int .i64 ((q.protos.length:Int)-1-k)]]).length:=by rw [List.length_append,S];rfl
 refine⟨by omega,by omega,⟨by omega,by omega⟩,O _ (k+1,R'.take (t.length+k)++ [H++ [.isl (W++ [[.int .i64 ((q.protos.length:Int)-1-k)]])]],m+1+1+1,m+1+1+1+1) ⟨by simp only;omega,?_,?_⟩ zg ?_⟩
 ·simp only
  rw [List.take_of_length_le (by simp only [List.length_append,v,List.length_singleton];omega),l,List.take_add_one,hkk,←hir]
  simp
 ·simp only [List.length_append,v,List.length_singleton];omega
 ·simp only [hz4]
  refine Wk.freeze (b:=(43*10000+56)) (st:=m+1+1) (sz:=1) (rs:=W++ [[.int .i64 ((q.protos.length:Int)-1-k)]]) zf ⟨.of (.refl _),.of (.refl _),.of (.refl _),trivial⟩ (.at 0 rfl zh (.rows zf fun j r2 o=> ?_) (.at 2 rfl zh (.of (.refl _)) trivial))
  by_cases c:j<t.length+k
  ·rw [List.getElem?_append_left zd]at o⊢
   exact⟨r2,o,.same r2⟩
  ·rw [List.getElem?_append_right zd,v]at o⊢
   have hj0:j-(t.length+k)=0:=by
    cases h:j-(t.length+k)with
    |zero=>rfl
    |succ n=>rw [h]at o;simp at o
   rw [hj0]at o⊢
   simp only [List.getElem?_cons_zero,Option.some.injEq]at o
   subst o
   exact⟨_,rfl,C1i P H⟩
end
section
open Go.Abs
attribute [local irreducible] A0 Run
abbrev rpN(k:Nat):Nat:=7*10000+k
abbrev pN(k:Nat):Nat:=6*10000+k
-- EV: pN, rpN
attribute [local go_sem] pN rpN
inductive Fx:Fn→Fn→Prop
 |stop {p:Fn}:p=N6 p→Fx p p
 |go {p x:Fn}: ¬p=N6 p→Fx (N6 p) x→Fx p x
theorem D1W(p:Fn): ∃x,Fx p x:=by
 by_cases h:p=N6 p
 ·exact⟨p,.stop h⟩
 ·obtain⟨x,a⟩:=D1W (N6 p)
  exact⟨x,.go h a⟩
termination_by muF p
decreasing_by exact B4c h
theorem B6l(p:Fn):Sh (C0 C8 p) p:=
 B9t (g:=C8) (fun p=>⟨rfl,rfl,rfl,by show (p.code.map _).length≤_;rw [List.length_map];exact Nat.le_refl _,Nat.le_refl _,Nat.le_refl _,rfl,rfl⟩) p
theorem B9s(p:Fn):Sh (C0 G2 p) p:=
 B9t (g:=G2) (fun p=>⟨rfl,rfl,rfl,(A4P _ p).1,(A4P _ p).2.1,(A4P _ p).2.2,rfl,rfl⟩) p
theorem B6z(p:Fn):Sh (C0 E4 p) p:=
 B9t (g:=E4) (fun p=>⟨rfl,rfl,rfl,(A4P _ p).1,(A4P _ p).2.1,(A4P _ p).2.2,rfl,rfl⟩) p
theorem D1C(p:Fn):Sh (N6 p) p:=(B6z _).trans ((B9s _).trans (B6l p))
theorem Fx.sh{p x:Fn}(h:Fx p x):Sh x p:=by
 induction h with
 |stop _=>exact .refl _
 |go _ _ i=>exact i.trans (D1C _)
theorem FewF.sh{a b:Fn}(h:FewF b)(c:Sh a b):FewF a:=⟨c.bd h.bd,Nat.le_trans c.tot h.tot⟩
theorem C6D(p q:Fn)(h:Abs.Pure Tryz.prog 22 [.agg p.row,.fn 23 []] (.agg q.row)):Abs.Pure Tryz.prog 10 [.agg p.row] (.agg q.row):=by
 have c:=Fn.row_sub C7 p
 have a:=Fn.row_sub C7 q
 obtain⟨b,o⟩:=B4 p
 obtain⟨e,d⟩:=B4 q
 refine Pure.of 0 (A0.enter A2C Jk (Run.go 100 ?_))
 exact JN
theorem C3G(p:Fn)(h:FewF p):Abs.Pure Tryz.prog 10 [.agg p.row] (.agg (C0 C8 p).row):=C6D p _ (C3E p h)
theorem C3g(p:Fn)(h:FewF p):Abs.Pure Tryz.prog 13 [.agg p.row] (.agg (C0 G2 p).row):=B9r p _ (C6a p h)
theorem C1C(p:Fn)(h:FewF p):Abs.Pure Tryz.prog 12 [.agg p.row] (.agg (C0 E4 p).row):=B6y p _ (C3N p h)
theorem C0V(p:Fn):p.depth≤p.tot:=by
 have:=Fn.depth_each p
 have:=(B7m p).1
 omega
theorem C3T(p x:Fn)(s:FewF p)(r:A5Q p=0→Fx p x)(S: ¬A5Q p=0→x=B1k):Pure Tryz.prog 6 [.agg p.row] (.tup [.agg x.row,.int .i64 (A5Q p)]):=by
 have a:=C2R p s.bd (by have:=C0V p;have:=s.tot;omega)
 have F:=Fn.row_sub C7 p
 obtain⟨k,h2⟩:=B4 p
 by_cases j:A5Q p=0
 ·rw [j]at a⊢
  have r:=r j
  clear S
  refine Pure.of 0 (A0.enterK A2D Jk fun Q M=>Run.go 100 ?_)
  generalize d:p.row=W at*
  simp -implicitDefEqProofs only [go_sem,A4,k,h2]
  refine A0.pureF a QD ?_
  refine QL ?_
  refine Run.roundsK (fun(y:Fn×Nat)=>⟨[(2,.ptr (pN 2) 1 0 0),(1,.ptr (pN 1) 0 0 0)],[(pN 2,1,.rows 11 [[.str [],.int .i64 0,.int .i64 0,.bool false,.int .i64 0,.nils,.nils,.nils,.nils,.nils,.nils]]),(pN 1,0,.rows 11 [y.1.row])],y.2⟩)
   (fun y=>FewF y.1∧Fx y.1 x) (fun y=>muF y.1) (p,2) ?_ ⟨s,r⟩ ?_
  ·rw [d]
   exact .turn id ⟨.refl _,.refl _,trivial⟩ (.at 0 rfl rfl (.refl _) (.at 1 rfl rfl (.refl _) (.of fun e g=>by cases g)))
  clear F k h2 a d r s j
  rintro⟨y,m⟩ ⟨l,D⟩ u
  dsimp only at l D u⊢
  refine Run.unf A3T (Run.go 100 ?_)
  have K:=l.sh (B6l y)
  have R:=K.sh (B9s _)
  have J:=R.sh (B6z _)
  have N:=C3G y l
  have L:=C3g _ K
  have z:=C1C _ R
  have w:=C7m y l.bd (N6 y)
  have b:=B4c (p:=y)
  have fin:=fun G H k h2=>u G (N6 y,H) k h2
  have B:C0 E4 (C0 G2 (C0 C8 y))=N6 y:=rfl
  rw [B]at z J
  dsimp only at fin
  have t:=Fn.row_sub C7 y
  have T:=Fn.row_sub C7 (C0 C8 y)
  have O:=Fn.row_sub C7 (C0 G2 (C0 C8 y))
  have U:=Fn.row_sub C7 (N6 y)
  obtain⟨o,v⟩:=B4 y
  obtain⟨o3,o4⟩:=B4 (C0 C8 y)
  obtain⟨o5,o6⟩:=B4 (C0 G2 (C0 C8 y))
  obtain⟨n,q⟩:=B4 (N6 y)
  have Z:y.row.drop 11= []:=List.drop_of_length_le zd
  by_cases c:y=N6 y
  ·have C:x=y:=by
    cases D with
    |stop _=>rfl
    |go h _=>exact(h c).elim
   have i:x.row=(N6 y).row:=by rw [C,←c]
   have P:=Fn.row_sub C7 x
   rw [A4Q c]at w
   rw [i]at M P
   clear fin u b i
   generalize y.row=Y at*
   generalize (C0 C8 y).row=X at*
   generalize (C0 G2 (C0 C8 y)).row=V at*
   generalize (N6 y).row=I at*
   simp -implicitDefEqProofs only [go_sem,o,v]
   refine A0.pureF N zX ?_
   refine QL ?_
   refine A0.pureF L zW ?_
   refine QL ?_
   refine A0.pureF z zM ?_
   simp -implicitDefEqProofs only [go_sem,o,v,n,q,Nat.reduceDiv]
   refine A0.pureF w (by simp -implicitDefEqProofs only [go_sem,t,U]) ?_
   simp -implicitDefEqProofs only [go_sem,n,q,Nat.reduceDiv]
   subst M
   refine Z2.to (r2:= .tup [.agg I,.int .i64 0]) (h2:= []) (n2:=m+1) ?_ ?_
   ·refine QL ?_
    exact P
   ·exact .turn id ⟨.refl _,trivial⟩ (.of fun e g=>by cases g)
  ·have E:Fx (N6 y) x:=by
    cases D with
    |stop h=>exact(c h).elim
    |go _ h=>exact h
   rw [O1 c]at w
   have f:=fun G H=>fin G H ⟨J,E⟩ (b c)
   clear fin u b
   generalize y.row=Y at*
   generalize (C0 C8 y).row=X at*
   generalize (C0 G2 (C0 C8 y)).row=V at*
   generalize (N6 y).row=I at*
   simp -implicitDefEqProofs only [go_sem,o,v]
   refine A0.pureF N zX ?_
   refine QL ?_
   refine A0.pureF L zW ?_
   refine QL ?_
   refine A0.pureF z zM ?_
   simp -implicitDefEqProofs only [go_sem,o,v,n,q,Nat.reduceDiv]
   refine A0.pureF w (by simp -implicitDefEqProofs only [go_sem,t,U]) ?_
   simp -implicitDefEqProofs only [go_sem,o,n,q,Z,Nat.reduceDiv,List.append_nil]
   exact f _ (m+1) (.turn id ⟨.refl _,.refl _,trivial⟩ (.at 2 rfl rfl (.refl _) (.at 0 rfl rfl (.refl _) (.of fun e g=>by cases g))))
 ·rw [S j]
  have A:=eq_false j
  rw [B7w]
  refine Pure.of 0 (A0.enter A2D Jk (Run.go 100 ?_))
  generalize p.row=W at*
  generalize A5Q p=ce at*
  simp -implicitDefEqProofs only [go_sem,A4,k,h2]
  refine A0.pureF a QD ?_
  simp -implicitDefEqProofs only [go_sem,A,B4T]
theorem B2o{p:Fn}(h:FewF p):p.each.length≤1000000:=by have:=(B7m p).1;have:=h.tot;omega
theorem GoF.smal(p:Fn)(h:GoF p):D0n p:=by
 obtain⟨c,a,d,b,e⟩:=h.ups p p.self_mem
 have:=h.few.code
 have:=h.few.protos
 exact⟨by omega,by omega,by omega,by omega,by omega,by omega⟩
theorem GoF.up5(p:Fn)(h:GoF p): ∀q∈p.protos,q.ups.length≤100000:=fun q a=>Nat.le_trans (h.up q a).1 zh
theorem D1o(p:Fn)(h:GoF p):Abs.Pure Tryz.prog 19 [.agg p.row] (.agg (C0 C8 p).row):=
 C2g GoF (fun p h q b=>h.child b) (fun p h=>h.sound) GoF.smal (fun p h a=>⟨by have:=h.few.code;omega,D3x a⟩) p h
theorem D3T(p:Fn)(h:GoF p):Abs.Pure Tryz.prog 18 [.agg p.row] (.agg (C0 G2 p).row):=
 C3V GoF (fun p h q b=>h.child b) (fun p h=>h.sound) GoF.smal (fun p h a=>⟨B6N a,by have:=h.few.code;omega⟩) p h
theorem D1p(p:Fn)(h:GoF p):Abs.Pure Tryz.prog 17 [.agg p.row] (.agg (C0 E4 p).row):=
 C2i GoF (fun p h q e=>h.child e) (fun p h=>h.sound) GoF.smal GoF.up5 (fun p h c=>by
  obtain⟨f,g,d⟩:=A7M (A7Z c)
  exact⟨B6N c,by have:=h.few.code;omega,(B3H f).2.2.2,fun i a b=>(B5u (A3E (d i a)).1 (.inl b)).1,fun i a b=>by have:=(B5u (A3E (d i a)).1 (.inr b)).2;omega⟩) p h
theorem B7E(p:Fn)(c:p.bd)(g:p.depth≤900)(b:p.each.length≤1000000):Abs.Pure Tryz.prog 16 [.agg p.row] (.int .i64 (A5Q p)):=by
 have h:=B7G p c g b
 have e:=Fn.row_sub C7 p
 obtain⟨f,d⟩:=B4 p
 obtain⟨V,v,h⟩: ∃V v,Abs.Pure Tryz.prog 43 [.agg p.row] (.tup [V,v,.int .i64 (A5Q p)]):=by
  unfold A5Q
  by_cases a:L5 p=0
  ·rw [if_neg (fun h=>h a)]at h⊢
   cases hq:p.srch []with
   |none=>rw [hq]at h;exact⟨_,_,h⟩
   |some x=>rw [hq]at h;exact⟨_,_,h⟩
  ·rw [if_pos a]at h⊢
   exact⟨_,_,h⟩
 refine Pure.of 0 (A0.enter A2d Jk (Run.go 100 ?_))
 generalize p.row=i at*
 generalize A5Q p=z at*
 simp -implicitDefEqProofs only [go_sem,A4,f,d]
 refine A0.pureF h QG ?_
 exact ze
theorem C2n(p x:Fn)(c:FewF p)(t:A5Q p=0→Fx p x)(S: ¬A5Q p=0→x=B1k):Pure Tryz.prog 7 [.agg p.row] (.tup [.agg x.row,.int .i64 (A5Q p)]):=by
 have a:=B7E p c.bd (by have:=C0V p;have:=c.tot;omega) (B2o c)
 have G:=Fn.row_sub C7 p
 obtain⟨n,h2⟩:=B4 p
 by_cases d:A5Q p=0
 ·rw [d]at a⊢
  have t:=t d
  clear S
  have c:GoF p:=⟨c,D4F ((D0g p).1 d).1⟩
  refine Pure.of 0 (A0.enterK X9 Jk fun Q M=>Run.go 100 ?_)
  generalize i:p.row=W at*
  simp -implicitDefEqProofs only [go_sem,A4,n,h2]
  refine A0.pureF a QE ?_
  refine QL ?_
  refine Run.roundsK (fun(y:Fn×Nat)=>⟨[(2,.ptr (rpN 2) 1 0 0),(1,.ptr (rpN 1) 0 0 0)],[(rpN 2,1,.rows 11 [[.str [],.int .i64 0,.int .i64 0,.bool false,.int .i64 0,.nils,.nils,.nils,.nils,.nils,.nils]]),(rpN 1,0,.rows 11 [y.1.row])],y.2⟩)
   (fun y=>GoF y.1∧Fx y.1 x) (fun y=>muF y.1) (p,2) ?_ ⟨c,t⟩ ?_
  ·rw [i]
   exact .turn id ⟨.refl _,.refl _,trivial⟩ (.at 0 rfl rfl (.refl _) (.at 1 rfl rfl (.refl _) (.of fun e j=>by cases j)))
  clear G n h2 a i t c d
  rintro⟨y,m⟩ ⟨l,E⟩ v
  dsimp only at l E v⊢
  refine Run.unf A0k (Run.go 100 ?_)
  have K:=l.sh (B6l y)
  have R:=K.sh (B9s _)
  have q:=R.sh (B6z _)
  have N:=D1o y l
  have L:=D3T _ K
  have A:=D1p _ R
  have z:=B6V y (N6 y) l.few.bd q.few.bd (B2o l.few) (B2o q.few)
  have b:=B4c (p:=y)
  have fin:=fun H I n h2=>v H (N6 y,I) n h2
  have C:C0 E4 (C0 G2 (C0 C8 y))=N6 y:=rfl
  rw [C]at A q
  dsimp only at fin
  have u:=Fn.row_sub C7 y
  have T:=Fn.row_sub C7 (C0 C8 y)
  have O:=Fn.row_sub C7 (C0 G2 (C0 C8 y))
  have U:=Fn.row_sub C7 (N6 y)
  obtain⟨o,w⟩:=B4 y
  obtain⟨o3,o4⟩:=B4 (C0 C8 y)
  obtain⟨o5,o6⟩:=B4 (C0 G2 (C0 C8 y))
  obtain⟨r,s⟩:=B4 (N6 y)
  have Z:y.row.drop 11= []:=List.drop_of_length_le zd
  by_cases f:y=N6 y
  ·have D:x=y:=by
    cases E with
    |stop _=>rfl
    |go h _=>exact(h f).elim
   have k:x.row=(N6 y).row:=by rw [D,←f]
   have P:=Fn.row_sub C7 x
   rw [A4Q f]at z
   rw [k]at M P
   clear fin v b k
   generalize y.row=Y at*
   generalize (C0 C8 y).row=X at*
   generalize (C0 G2 (C0 C8 y)).row=V at*
   generalize (N6 y).row=J at*
   simp -implicitDefEqProofs only [go_sem,o,w]
   refine A0.pureF N Qj ?_
   refine QL ?_
   refine A0.pureF L zW ?_
   refine QL ?_
   refine A0.pureF A zM ?_
   simp -implicitDefEqProofs only [go_sem,o,w,r,s,Nat.reduceDiv]
   refine A0.pureF z (by simp -implicitDefEqProofs only [go_sem,u,U]) ?_
   simp -implicitDefEqProofs only [go_sem,r,s,Nat.reduceDiv]
   subst M
   refine Z2.to (r2:= .tup [.agg J,.int .i64 0]) (h2:= []) (n2:=m+1) ?_ ?_
   ·refine QL ?_
    exact P
   ·exact .turn id ⟨.refl _,trivial⟩ (.of fun e j=>by cases j)
  ·have F:Fx (N6 y) x:=by
    cases E with
    |stop h=>exact(f h).elim
    |go _ h=>exact h
   rw [O1 f]at z
   have g:=fun H I=>fin H I ⟨q,F⟩ (b f)
   clear fin v b
   generalize y.row=Y at*
   generalize (C0 C8 y).row=X at*
   generalize (C0 G2 (C0 C8 y)).row=V at*
   generalize (N6 y).row=J at*
   simp -implicitDefEqProofs only [go_sem,o,w]
   refine A0.pureF N Qj ?_
   refine QL ?_
   refine A0.pureF L zW ?_
   refine QL ?_
   refine A0.pureF A zM ?_
   simp -implicitDefEqProofs only [go_sem,o,w,r,s,Nat.reduceDiv]
   refine A0.pureF z (by simp -implicitDefEqProofs only [go_sem,u,U]) ?_
   simp -implicitDefEqProofs only [go_sem,o,r,s,Z,Nat.reduceDiv,List.append_nil]
   exact g _ (m+1) (.turn id ⟨.refl _,.refl _,trivial⟩ (.at 2 rfl rfl (.refl _) (.at 0 rfl rfl (.refl _) (.of fun e j=>by cases j))))
 ·rw [S d]
  have B:=eq_false d
  rw [B7w]
  refine Pure.of 0 (A0.enter X9 Jk (Run.go 100 ?_))
  generalize p.row=W at*
  generalize A5Q p=ce at*
  simp -implicitDefEqProofs only [go_sem,A4,n,h2]
  refine A0.pureF a QE ?_
  simp -implicitDefEqProofs only [go_sem,B,B4T]
end
section
open Go.Abs
attribute [local irreducible] A0 Run
theorem C7M(p:Fn)(n:p.bd):Pure Tryz.prog 3 [.agg p.row] (.bool true):=by
 have f:=C1r p n
 have j:=C2Y
 obtain⟨d,c⟩:=B4 p
 have g:=Fn.row_sub C7 p
 refine Pure.of 0 (A0.enter W0 Jk (Run.go 100 ?_))
 cases hb:p.lgB with
 |true=>
  rw [hb]at f
  generalize p.row=t at*
  refine QW ?_
  refine A0.pureF f zn ?_
  refine QL ?_
  refine A0.pureF j rfl ?_
  exact Xx
 |false=>
 rw [hb]at f
 have i:FewF p:=⟨n,D3H hb⟩
 obtain⟨x,b,m,e,a⟩: ∃x,(A5Q p=0→Fx p x)∧(¬A5Q p=0→x=B1k)∧x.bd∧x.each.length≤1000000:=by
  by_cases k:A5Q p=0
  ·obtain⟨x,b⟩:=D1W p
   have q:=i.sh b.sh
   exact⟨x,fun _=>b,fun h=>(h k).elim,q.bd,B2o q⟩
  ·exact⟨B1k,fun h=>(k h).elim,fun _=>rfl,C5H,by decide⟩
 have r:=C3T p x i b m
 have u:=C2n p x i b m
 have s:=B6V x x e e a a
 rw [A4Q rfl]at s
 have v:=Fn.row_sub C7 x
 obtain⟨o,l⟩:=B4 x
 generalize A5Q p=z at*
 generalize x.row=w at*
 generalize p.row=t at*
 refine QW ?_
 refine A0.pureF f zn ?_
 simp -implicitDefEqProofs only [go_sem,d,c]
 refine A0.pureF r zn ?_
 simp -implicitDefEqProofs only [go_sem,d,c,o,l,Nat.reduceDiv]
 refine A0.pureF u zn ?_
 simp -implicitDefEqProofs only [go_sem,d,c,o,l,Nat.reduceDiv]
 refine A0.pureF s zN ?_
 refine QL ?_
 refine A0.pureF j rfl ?_
 exact ze
theorem B1I(cs:List V)(w:Typed Tryz.prog 29 cs):Pure Tryz.prog 3 [.agg cs] (.bool true):=by
 obtain⟨p,rfl,_,h⟩:=C8y w
 exact C7M p h
end
end Go.Proofs.YtcaaenddpjepiaaGreatDoor
