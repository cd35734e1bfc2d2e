/-
 The reference's verifier: the first error of a function and those within it. No condition.
-/
import Derived.Test.YtnihmhbcjpcobaaGreatDoorRvL
import Derived.Test.YtnihmhbcjpcobaaGreatDoorFnCk
import Derived.Test.YtnihmhbcjpcobaaGreatDoorVerL
set_option linter.unusedVariables false
set_option linter.unusedSimpArgs false
set_option maxRecDepth 100000
set_option maxHeartbeats 0
namespace Go.Proofs.YtnihmhbcjpcobaaGreatDoor
open Go.Abs
attribute [local irreducible] A2 Run
-- EV: Ins.v, Ins.row
attribute [local go_sem] Ins.v Ins.row
def A8B(x:Fn×List Int):List V:=x.1.row++ [.isl (x.2.map zrw)]
def U5:List Fn→Nat→List Int→List (Fn×List Int)
 | [],_,_=> []
 |q::r,n,w=>(q,w++ [(n:Int)])::U5 r (n+1) w
theorem B4A: ∀(l:List Fn) (n:Nat) (w:List Int),(U5 l n w).length=l.length
 | [],_,_=>rfl
 |q::r,n,w=>by rw [U5,List.length_cons,B4A r,List.length_cons]
theorem B6U: ∀{l:List Fn} {n:Nat} {w:List Int} {k:Nat} {q:Fn},l[k]? =some q→(U5 l n w)[k]? =some (q,w++ [((n+k:Nat):Int)])
 | [],_,_,_,_,h=>by simp at h
 |a::r,n,w,0,q,h=>by
  simp only [List.getElem?_cons_zero,Option.some.injEq]at h
  subst h;rfl
 |a::r,n,w,k+1,q,h=>by
  rw [List.getElem?_cons_succ]at h
  rw [U5,List.getElem?_cons_succ,B6U h,Nat.add_assoc,Nat.add_comm 1 k]
theorem B4B: ∀(l:List Fn) (n:Nat) (w:List Int),(U5 l n w).map Prod.fst=l
 | [],_,_=>rfl
 |q::r,n,w=>by rw [U5,List.map_cons,B4B r]
theorem B1a: ∀{l:List Fn} {n:Nat} {w:List Int} {y:Fn×List Int},y∈U5 l n w→y.1∈l∧y.2.length=w.length+1
 | [],_,_,_,h=>by cases h
 |a::r,n,w,y,h=>by
  rw [U5]at h
  rcases List.mem_cons.1 h with rfl|h
  ·exact⟨List.mem_cons_self,by simp⟩
  ·exact⟨List.mem_cons_of_mem _ (B1a h).1,(B1a h).2⟩
noncomputable def srL:List (Fn×List Int)→Option (List Int×Int)
 | []=>none
 |x::r=>match x.1.srch x.2 with
  |some y=>some y
  |none=>srL r
theorem B7O: ∀(l:List Fn) (n:Nat) (w:List Int) (r:List (Fn×List Int)),srL (U5 l n w++r)=match Fn.srchs l n w with|some y=>some y|none=>srL r
 | [],_,_,_=>by simp only [U5,List.nil_append,Fn.srchs]
 |q::s,n,w,r=>by
  rw [U5,List.cons_append,srL,Fn.srchs]
  simp only
  cases q.srch (w++ [(n:Int)])with
  |some y=>rfl
  |none=>exact B7O s (n+1) w r
theorem C5b(q:Fn)(w:List Int)(r:List (Fn×List Int)):srL ((q,w)::r)=if 0≤G9 q then some (w,G9 q)else srL (U5 q.protos 0 w++r):=by
 rw [srL,B7O]
 simp only
 rw [Fn.srch_eq]
 by_cases h:0≤G9 q
 ·rw [if_pos h,if_pos h]
 ·rw [if_neg h,if_neg h]
theorem D0K{R:List (List V)}{l:List (Fn×List Int)}{x:Fn×List Int}{m:Nat}(h:R.take (m+1)=(l++ [x]).map A8B)(hl:l.length=m):R[m]? =some (A8B x)∧R.take m=l.map A8B:=by
 subst hl
 constructor
 ·have:(R.take (l.length+1))[l.length]? =some (A8B x):=by rw [h,List.map_append,List.getElem?_append_right (by simp)];simp
  rwa [List.getElem?_take_of_lt (by omega)]at this
 ·have:=congrArg (List.take l.length) h
  rw [List.take_take,Nat.min_eq_left (by omega)]at this
  rw [this,List.map_append]
  exact List.take_left' (by simp)
noncomputable def exV:Option (List Int×Int)→V
 |none=> .tup [.isl [],.int .i64 0,.int .i64 0]
 |some x=> .tup [.isl (x.1.map zrw),.int .i64 x.2,.int .i64 21]
theorem B4S: ∀l:List V,A3Q (l++ [.nils]) (l++ [.isl []])
 | []=>⟨.nilI,trivial⟩
 |a::l=>⟨.refl a,B4S l⟩
theorem B6L{st b m:Nat}{rs:List (List V)}(h:m=rs.length): ∀l:List V,B2c st rs (l++ [.sl b st 0 m]) (l++ [.isl rs])
 | []=>⟨.all h,trivial⟩
 |a::l=>⟨.of (.refl a),B6L h l⟩
theorem B3V(p:Fn)(hp:p.bd)(hd:p.depth≤900)(hc:p.each.length≤1000000):Pure Tryz.prog 8 [.agg p.row]
  (if A2e p≠0 then .tup [.isl [],.int .i64 0,.int .i64 (A2e p)]else exV (p.srch [])):=by
 obtain⟨h1,h2⟩:=B5 p
 have hps:=Fn.row_sub H0 p
 have hck:=B3T p hp hc
 have hfq:=fun q (hq:q∈p.each) hk=>B7w q (.of (B1w (p:=p) hk hq))
 by_cases hz:A2e p=0
 case neg=>
  rw [if_pos hz]
  generalize A2e p=z at*
  generalize p.row=pr at*
  refine Pure.of 0 (A2.enter K5 (Nat.le_of_ble_eq_true rfl) (Run.go 100 ?_))
  simp -implicitDefEqProofs only [go_sem,A4,h1,h2]
  refine A2.pureF hck (by simp -implicitDefEqProofs only [go_sem,hps]) ?_
  simp -implicitDefEqProofs only [go_sem,hz]
 rw [if_neg (fun h=>h hz)]
 have hfq:=fun q hq=>hfq q hq hz
 rw [hz]at hck
 have hroot: [p.row++ [V.isl []]]= [((p,[]):Fn×List Int)].map A8B:=rfl
 have hst:srL [((p,[]):Fn×List Int)]=p.srch []:=by
  unfold srL
  simp only
  cases p.srch []<;>rfl
 generalize hpr:p.row=pr at*
 refine Pure.of 1 (A2.enterK K5 (Nat.le_of_ble_eq_true rfl) fun Q hQ=>Run.go 100 ?_)
 simp -implicitDefEqProofs only [go_sem,A4,h1,h2]
 refine A2.pureF hck (by simp -implicitDefEqProofs only [go_sem,hps]) ?_
 have hpt: ∀x:V,(pr++List.drop 11 [x,x,x,x,x,x,x,x,x,x,x,x])=pr++ [x]:=fun x=>rfl
 simp -implicitDefEqProofs only [go_sem,h1,h2]
 refine Run.roundsK (fun(x:List (Fn×List Int)×List (List V)×Nat×Nat)=>⟨[(6,.sl (8*10000+17) x.2.2.1 0 x.1.length)],[((8*10000+17),x.2.2.1,.rows 12 x.2.1)],x.2.2.2⟩)
  (fun x=>x.2.1.take x.1.length=x.1.map A8B∧x.1.length≤x.2.1.length∧srL x.1.reverse=p.srch []∧(∀y∈x.1,y.1∈p.each∧y.2.length+y.1.depth≤1000)∧(Fn.eachs (x.1.reverse.map Prod.fst)).length≤p.each.length)
  (fun x=>(Fn.eachs (x.1.reverse.map Prod.fst)).length) ([(p,[])],[pr++ [.isl []]],1,2) ?_ ⟨by rw [←hpr];rfl,Nat.le_refl _,hst,fun y hy=>by rw [List.mem_singleton.1 hy];exact⟨p.self_mem,by simp only [List.length_nil];omega⟩,by simp [Fn.eachs]⟩ ?_
 ·exact .turn id ⟨.refl _,trivial⟩ (.at 0 rfl rfl (Q9.row (B4S pr)) trivial)
 rintro⟨td,R,st,n⟩ ⟨hR,hRl,hS,hM,hE⟩ ih
 simp only at hR hRl hS hM hE ih⊢
 refine Run.unf A2l (Run.go 100 ?_)
 rcases B1L td with rfl|⟨td,⟨q,w⟩,rfl⟩
 ·have hS:none=p.srch []:=hS
  simp -implicitDefEqProofs only [go_sem,List.length_nil]
  rw [←hS]at hQ
  subst hQ
  refine .is ?_
  show _=V.tup [.isl [],.int .i64 0,.int .i64 0]
  simp -implicitDefEqProofs only [go_sem]
 have hln:(td++ [(q,w)]).length=td.length+1:=by simp
 rw [hln]at hR hRl⊢
 have hrev:(td++ [(q,w)]).reverse=(q,w)::td.reverse:=by simp
 rw [hrev]at hS hE ih
 rw [C5b]at hS
 have q0:((0:Int)<((td.length+1:Nat):Int))=True:=eq_true (by omega)
 have q1:((td.length+1:Nat):Int)-1=(td.length:Int):=by omega
 have q2:((0:Int)≤(td.length:Int))=True:=eq_true (by omega)
 have q3:((td.length:Int)<((td.length+1:Nat):Int))=True:=eq_true (by omega)
 have q4:((td.length:Int)≤((td.length+1:Nat):Int))=True:=eq_true (by omega)
 obtain⟨hq,hR0⟩:=D0K hR rfl
 have htl:td.length+1≤p.each.length:=by
  have:=Fn.eachs_len (((q,w)::td.reverse).map Prod.fst)
  rw [List.length_map,List.length_cons,List.length_reverse]at this
  omega
 have hE2:1+(Fn.eachs q.protos).length+(Fn.eachs (td.reverse.map Prod.fst)).length=(Fn.eachs (((q,w)::td.reverse).map Prod.fst)).length:=by
  rw [List.map_cons,Fn.eachs,Fn.each_eq]
  simp only [List.length_append,List.length_cons]
  omega
 have hE3:td.length≤(Fn.eachs (td.reverse.map Prod.fst)).length:=by
  have:=Fn.eachs_len (td.reverse.map Prod.fst)
  rw [List.length_map,List.length_reverse]at this
  exact this
 have hE4:=Fn.eachs_len q.protos
 obtain⟨hqm,hqd⟩:=hM (q,w) (by simp)
 simp only at hqm hqd
 have hqp:=(hp q hqm).protos
 have hfp:=hfq q hqm
 have hqs:=Fn.row_sub H0 q
 have g8:q.row[8]? =some (.isl (q.protos.map Fn.row)):=by rw [q.row_eq];rfl
 have hpl:(q.protos.map Fn.row).length=q.protos.length:=List.length_map ..
 have hrz:=A5U Fn.row 11 Fn.row_len q.protos
 have g1:=q.row_len
 have q5:td.length<R.length:=by omega
 have hwl:(w.map zrw).length=w.length:=List.length_map ..
 have hwz:=F7 w
 have hws:=fun d h=>(D8 (d:=d) (h:=h)).elim fun φ e=>show (w.map zrw).map (fun r=>r.map (frz d h))=w.map zrw by rw [e];exact M5 φ _
 unfold A8B at hq
 simp only at hq
 generalize hqr:q.row=qr at*
 generalize hes:q.protos.map Fn.row=es at*
 generalize hW:w.map zrw=W at*
 have gl:(qr++ [V.isl W]).length=12:=by rw [List.length_append,g1];rfl
 have gT:(qr++ [V.isl W]).take 11=qr:=by rw [←g1];exact List.take_left' rfl
 have gT2:(qr++ [V.isl W]).take 12=qr++ [V.isl W]:=List.take_of_length_le (by omega)
 have g11:(qr++ [V.isl W])[11]? =some (.isl W):=by rw [List.getElem?_append_right (by omega),g1];rfl
 have g8':(qr++ [V.isl W])[8]? =some (.isl es):=by rw [List.getElem?_append_left (by omega)];exact g8
 generalize hIT:qr++ [V.isl W]=IT at*
 simp -implicitDefEqProofs only [go_sem,q0,q1,q2,q3,q4,q5,hq,gl,gT,gT2,g11,g8',Option.some.injEq,forall_eq']
 refine⟨⟨by omega,by omega⟩,⟨by omega,by omega⟩,?_⟩
 refine A2.pureF hfp (by simp -implicitDefEqProofs only [go_sem,hqs]) ?_
 generalize G9 q=fF at*
 by_cases hf0:0≤fF
 ·rw [if_pos hf0]at hS
  rw [←hS]at hQ
  simp -implicitDefEqProofs only [go_sem,hf0,gl,g11,ge_iff_le]
  subst hQ
  refine .is ?_
  show _=V.tup [.isl (w.map zrw),.int .i64 fF,.int .i64 21]
  rw [hW]
  simp -implicitDefEqProofs only [go_sem,hws]
 rw [if_neg hf0]at hS
 simp -implicitDefEqProofs only [go_sem,hf0,gl,g8',hpl,ge_iff_le]
 have hz0:((td.length:Int)-0).toNat=td.length:=by omega
 rw [hz0]
 refine⟨⟨by omega,by omega⟩,?_⟩
 refine Run.keep [9,7,6] ?_
 have hkl:=B4A q.protos 0 w
 refine Run.roundsK (fun(x:Nat×List (List V)×Nat×Nat)=>⟨[(9,.int .i64 ((q.protos.length:Int)-1-x.1)),(7,.ptr (8*10000+7) n 0 0),(6,.sl (8*10000+17) x.2.2.1 0 (td.length+x.1))],
   [((8*10000+17),x.2.2.1,.rows 12 x.2.1),((8*10000+7),n,.rows 12 [IT])],x.2.2.2⟩)
  (fun x=>x.1≤q.protos.length∧x.2.1.take (td.length+x.1)=(td++(U5 q.protos 0 w).reverse.take x.1).map A8B∧td.length+x.1≤x.2.1.length) (fun x=>q.protos.length-x.1) (0,R,st,n+1) ?_ ⟨Nat.zero_le _,by simpa using hR0,by simp only;omega⟩ ?_
 ·exact B6.wk (B6.of (by simp -implicitDefEqProofs only [go_sem,Int.sub_zero]) (fun e he=>by simp only [List.mem_cons]at he⊢;rcases he with h|h|h<;>simp only [h,eq_self,true_or,or_true]) (Nat.le_refl _))
 rintro⟨k,R',st',m⟩ ⟨hk,hR',hRl'⟩ ih2
 simp only at hk hR' hRl' ih2⊢
 refine Run.unf A2m (Run.go 100 ?_)
 by_cases hlt:k<q.protos.length
 case neg=>
  have e:k=q.protos.length:=by omega
  subst e
  have z0:((0:Int)≤(q.protos.length:Int)-1-(q.protos.length:Int))=False:=eq_false (by omega)
  simp -implicitDefEqProofs only [go_sem,z0,ge_iff_le]
  have hkr:(U5 q.protos 0 w).reverse.take q.protos.length=(U5 q.protos 0 w).reverse:=List.take_of_length_le (by rw [List.length_reverse];omega)
  rw [hkr]at hR'
  have hl2:(td++(U5 q.protos 0 w).reverse).length=td.length+q.protos.length:=by rw [List.length_append,List.length_reverse,hkl]
  have hr2:(td++(U5 q.protos 0 w).reverse).reverse=U5 q.protos 0 w++td.reverse:=by simp
  have hE5:(Fn.eachs ((U5 q.protos 0 w++td.reverse).map Prod.fst)).length=(Fn.eachs q.protos).length+(Fn.eachs (td.reverse.map Prod.fst)).length:=by
   rw [List.map_append,B4B,Fn.eachs_append,List.length_append]
  refine ih _ (td++(U5 q.protos 0 w).reverse,R',st',m) ⟨by simp only [hl2];exact hR',by simp only [hl2];exact hRl',by simp only [hr2];exact hS,fun y hy=> ?_,by simp only [hr2];omega⟩ (by simp only [hr2];omega) (B6.wk ?_)
  ·rcases List.mem_append.1 hy with hy|hy
   ·exact hM y (List.mem_append_left _ hy)
   ·obtain⟨y1,y2⟩:=B1a (List.mem_reverse.1 hy)
    have:=Fn.depths_mem y1
    have:=Fn.depth_eq q
    exact⟨Fn.child_mem hqm y1,by omega⟩
  ·simp only [hl2]
   exact B6.of (by simp -implicitDefEqProofs only [go_sem]) (fun e he=>by rw [List.mem_singleton.1 he];exact List.mem_cons_self) (Nat.le_refl _)
 have z0:((0:Int)≤(q.protos.length:Int)-1-(k:Int))=True:=eq_true (by omega)
 have z1:((q.protos.length:Int)-1-(k:Int)<(q.protos.length:Int))=True:=eq_true (by omega)
 have z2:((q.protos.length:Int)-1-(k:Int)).toNat=q.protos.length-1-k:=by omega
 obtain⟨r,hr⟩: ∃r,q.protos[q.protos.length-1-k]? =some r:=⟨q.protos[q.protos.length-1-k]'(by omega),by simp⟩
 have z5:q.protos.length-1-k<q.protos.length:=by omega
 have hre:es[q.protos.length-1-k]? =some r.row:=by rw [←hes,List.getElem?_map,hr];rfl
 obtain⟨f1,f2⟩:=B5 r
 generalize hrw:r.row=rr at*
 have t11: ∀x:V,(rr++ [x]).take 11=rr:=fun x=>by rw [←f1];exact List.take_left' rfl
 have d12: ∀x:V,(rr++ [x]).drop 12= []:=fun x=>List.drop_eq_nil_of_le (by simp only [List.length_append,List.length_singleton];omega)
 have htk:(R'.take (td.length+k)).length=td.length+k:=by rw [List.length_take];omega
 have zap:(td.length+k+1≤137438953472)=True:=eq_true (by omega)
 have hWt:W.take w.length=W:=List.take_of_length_le (by omega)
 simp -implicitDefEqProofs only [go_sem,z0,z1,z2,z5,gl,g8',g11,hpl,hrz,hre,f1,f2,hwl,hwz,t11,d12,hRl',zap,hWt,ge_iff_le,List.length_nil,List.append_nil,Nat.add_zero,Option.some.injEq,forall_eq']
 have hz4:(q.protos.length:Int)-1-((k+1:Nat):Int)=(q.protos.length:Int)-1-k-1:=by omega
 have hkk:(U5 q.protos 0 w).reverse[k]? =some (r,w++ [(q.protos.length:Int)-1-k]):=by
  rw [List.getElem?_reverse (by omega),hkl,B6U hr,Nat.zero_add]
  have:((q.protos.length-1-k:Nat):Int)=(q.protos.length:Int)-1-k:=by omega
  rw [this]
 have hir:A8B (r,w++ [(q.protos.length:Int)-1-k])=rr++ [.isl (W++ [[.int .i64 ((q.protos.length:Int)-1-k)]])]:=by
  unfold A8B
  simp only [hrw,List.map_append,hW]
  rfl
 have hwl2:w.length+1=(W++ [[V.int .i64 ((q.protos.length:Int)-1-k)]]).length:=by rw [List.length_append,hwl];rfl
 refine⟨by omega,by omega,⟨by omega,by omega⟩,ih2 _ (k+1,R'.take (td.length+k)++ [rr++ [.isl (W++ [[.int .i64 ((q.protos.length:Int)-1-k)]])]],m+1+1+1,m+1+1+1+1) ⟨by simp only;omega,?_,?_⟩ (by simp only;omega) ?_⟩
 ·simp only
  rw [List.take_of_length_le (by simp only [List.length_append,htk,List.length_singleton];omega),hR',List.take_add_one,hkk,←hir]
  simp
 ·simp only [List.length_append,htk,List.length_singleton];omega
 ·simp only [hz4]
  refine Wk.freeze (b:=(8*10000+56)) (st:=m+1+1) (sz:=1) (rs:=W++ [[.int .i64 ((q.protos.length:Int)-1-k)]]) (by simp) ⟨.of (.refl _),.of (.refl _),.of (.refl _),trivial⟩ (.at 0 rfl (by decide) (.rows (by simp) fun j r2 hj=> ?_) (.at 2 rfl (by decide) (.of (.refl _)) trivial))
  by_cases c:j<td.length+k
  ·rw [List.getElem?_append_left (by omega)]at hj⊢
   exact⟨r2,hj,.same r2⟩
  ·rw [List.getElem?_append_right (by omega),htk]at hj⊢
   have hj0:j-(td.length+k)=0:=by
    cases h:j-(td.length+k)with
    |zero=>rfl
    |succ n=>rw [h]at hj;simp at hj
   rw [hj0]at hj⊢
   simp only [List.getElem?_cons_zero,Option.some.injEq]at hj
   subst hj
   exact⟨_,rfl,B6L hwl2 rr⟩
-- EV: Ins.v, Ins.row
attribute [local go_sem] Ins.v Ins.row
theorem B3F: ∀(l:List Fn) (n:Nat) (w:List Int) {x:List Int×Int},Fn.srchs l n w=some x→ ∃q,q∈l∧ ∃k:Int,q.srch (w++ [k])=some x
 | [],_,_,_,h=>by rw [Fn.srchs]at h;cases h
 | q::r,n,w,x,h=>by
  rw [Fn.srchs]at h
  cases hq:q.srch (w++ [(n:Int)])with
  |some y=>
   rw [hq]at h
   exact⟨q,List.mem_cons_self,n,by rw [hq];exact h⟩
  |none=>
   rw [hq]at h
   obtain⟨y,hy,k,hk⟩:=B3F r (n+1) w h
   exact⟨y,List.mem_cons_of_mem _ hy,k,hk⟩
theorem C1L(p:Fn): ∀(w:List Int) (x:List Int×Int),p.srch w=some x→x.1.length≤w.length+p.depth:=by
 induction p using Fn.ind with
 | h p ih=>
  intro w x h
  rw [Fn.srch_eq]at h
  split at h
  ·injection h with h
   subst h
   exact Nat.le_add_right _ _
  ·obtain⟨q,hq,k,hk⟩:=B3F _ _ _ h
   have h1:=ih q hq _ _ hk
   have h2:=Fn.depths_mem hq
   have h3:=Fn.depth_eq p
   simp only [List.length_append,List.length_singleton]at h1
   omega
theorem B0M(n0:List V)(w0:Typed Tryz.prog 29 n0):Pure Tryz.prog 3 [.agg n0] (.bool true):=by
 obtain⟨p,rfl,hp⟩:=C4h w0
 have lp:=B7T p hp
 obtain⟨f1,f2⟩:=B5 p
 have sp:=Fn.row_sub H0 p
 refine Pure.of 0 (A2.enter N0 (Nat.le_of_ble_eq_true rfl) (Run.go 100 ?_))
 cases hL:B6b p with
 |true=>
  rw [hL]at lp
  generalize p.row=pr at*
  simp -implicitDefEqProofs only [go_sem,A4,f1,f2]
  refine A2.pureF lp (by simp -implicitDefEqProofs only [go_sem,sp]) ?_
  simp -implicitDefEqProofs only [go_sem]
  refine A2.pureF B1X (by simp -implicitDefEqProofs only [go_sem]) ?_
  simp -implicitDefEqProofs only [go_sem]
 |false=>
 rw [hL]at lp
 have hS:=C3k (Bool.or_eq_false_iff.1 hL).1
 have hb:=hS.bd
 have hd:p.depth≤900:=Nat.le_trans (Fn.depth_each p) (Nat.le_trans hS.count (by decide))
 have cc:=A7V p hb hd
 have ce:=A9X p hb hd
 have cr:=B3V p hb hd (Nat.le_trans hS.count (by decide))
 obtain⟨wl,at_,e,hw,cc,ce,cr⟩: ∃(wl:List Int) (at_ e:Int),wl.length≤900∧Pure Tryz.prog 6 [.agg p.row] (.int .i64 e)∧Pure Tryz.prog 7 [.agg p.row] (.tup [.isl (wl.map zrw),.int .i64 at_,.int .i64 e])∧
   Pure Tryz.prog 8 [.agg p.row] (.tup [.isl (wl.map zrw),.int .i64 at_,.int .i64 e]):=by
  unfold B7S at cc
  by_cases hz:A2e p=0
  ·rw [if_neg (fun h=>h hz)]at cc ce cr
   cases hs:p.srch []with
   |none=>
    rw [hs]at cc ce cr
    rw [if_pos rfl]at cc
    exact⟨[],0,0,Nat.zero_le _,cc,ce,cr⟩
   |some x=>
    have hx:=C1L p [] x hs
    rw [List.length_nil]at hx
    rw [hs]at cc ce cr
    rw [if_neg (fun h=>by cases h)]at cc
    exact⟨x.1,x.2,21,by omega,cc,ce,cr⟩
  ·rw [if_pos hz]at cc ce cr
   exact⟨[],0,A2e p,Nat.zero_le _,cc,ce,cr⟩
 have lw:(wl.map zrw).length=wl.length:=List.length_map ..
 have zw:=F7 wl
 have rw': ∀(k:Nat) x,wl[k]? =some x→(wl.map zrw)[k]? =some [.int .i64 x]:=fun k x hk=>W8 hk
 generalize wl.map zrw=WL at*
 generalize p.row=pr at*
 simp -implicitDefEqProofs only [go_sem,A4,f1,f2]
 refine A2.pureF lp (by simp -implicitDefEqProofs only [go_sem,sp]) ?_
 simp -implicitDefEqProofs only [go_sem,f1,f2]
 refine A2.pureF cc (by simp -implicitDefEqProofs only [go_sem,sp]) ?_
 simp -implicitDefEqProofs only [go_sem,f1,f2]
 refine A2.pureF ce (by simp -implicitDefEqProofs only [go_sem,sp]) ?_
 simp -implicitDefEqProofs only [go_sem,f1,f2]
 refine A2.pureF cr (by simp -implicitDefEqProofs only [go_sem,sp]) ?_
 simp -implicitDefEqProofs only [go_sem]
 refine Run.keep [10,7,4] ?_
 refine Run.rounds (fun(k:Nat)=>⟨[(10,.int .i64 k),(7,.isl WL),(4,.isl WL)],[((3*10000+1),0,.rows 11 [pr])],1⟩) (fun k=>k≤wl.length) (fun k=>wl.length-k) 0 (by simp -implicitDefEqProofs only [go_sem]) (Nat.zero_le _) ?_
 intro k hk ih
 refine Run.unf A0k (Run.go 100 ?_)
 by_cases hlt:k<wl.length
 ·have q0:((k:Int)<(wl.length:Int))=True:=eq_true (by omega)
  have q1:((0:Int)≤(k:Int))=True:=eq_true (by omega)
  obtain⟨x,hx⟩: ∃x,wl[k]? =some x:=⟨wl[k],by simp [hlt]⟩
  have hxr:=rw' k x hx
  have hzk:((k+1:Nat):Int)=(k:Int)+1:=by omega
  simp -implicitDefEqProofs only [go_sem,q0,q1,lw,zw,hxr,hlt,Option.some.injEq,forall_eq']
  exact⟨⟨by omega,by omega⟩,ih _ (k+1) (by omega) (by omega) (by simp -implicitDefEqProofs only [go_sem,hzk])⟩
 ·have ek:k=wl.length:=by omega
  subst ek
  simp -implicitDefEqProofs only [go_sem,lw,Int.lt_irrefl]
  refine A2.pureF B1X (by simp -implicitDefEqProofs only [go_sem]) ?_
  simp -implicitDefEqProofs only [go_sem]
end Go.Proofs.YtnihmhbcjpcobaaGreatDoor
