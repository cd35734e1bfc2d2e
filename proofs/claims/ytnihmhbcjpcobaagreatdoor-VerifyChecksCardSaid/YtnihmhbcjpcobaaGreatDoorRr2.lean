/-
 What the reference's 'put', 'set', 'span' and 'open' answer. No condition.
-/
import Derived.Test.YtnihmhbcjpcobaaGreatDoorPutT
import Derived.Test.YtnihmhbcjpcobaaGreatDoorRwM
import Derived.Test.YtnihmhbcjpcobaaGreatDoorOpc5
set_option linter.unusedVariables false
set_option linter.unusedSimpArgs false
set_option maxRecDepth 100000
set_option maxHeartbeats 0
namespace Go.Proofs.YtnihmhbcjpcobaaGreatDoor
open Go.Abs
attribute [local irreducible] A2 Run
-- EV: Ins.v, Ins.row
attribute [local go_sem] Ins.v Ins.row
theorem C1n(l:List Int)(hl:Asc l)(hB:l.length≤100000)(r:Int):Pure Tryz.prog 118 [.isl (l.map zrw),.int .i64 r] (.isl ((B2T l r).map zrw)):=by
 refine Pure.of 1 (A2.enter A1t (Nat.le_of_ble_eq_true rfl) ?_)
 have hrow: ∀(k:Nat) (x:Int),l[k]? =some x→(l.map zrw)[k]? =some [.int .i64 x]:=fun k x h=>W8 h
 have hlen:(l.map zrw).length=l.length:=List.length_map ..
 have hsz:=B5N l
 generalize l.map zrw=es at*
 refine Run.go 100 ?_
 simp -implicitDefEqProofs only [go_sem,A4]
 refine Run.rounds (fun(x:Nat×Nat×Nat)=>⟨[(7,.int .i64 x.1),(6,.bool (H2 l r x.1)),(5,.sl (118*10000+8) x.2.1 0 (A6Z l r x.1).length),(1,.int .i64 r),(0,.isl es)],[((118*10000+8),x.2.1,.rows 1 ((A6Z l r x.1).map zrw))],x.2.2⟩)
  (fun x=>x.1≤l.length) (fun x=>l.length-x.1) (0,0,1) (by simp -implicitDefEqProofs only [go_sem,B4O,H2,List.take_zero,List.any_nil,List.length_nil,List.map_nil]) (by simp only;omega) ?_
 rintro⟨k,st,m⟩ hk ih
 simp only at hk⊢
 have hz:((k+1:Nat):Int)=(k:Int)+1:=by omega
 refine Run.unf A4o (Run.go 100 ?_)
 have hol:=B7i l r k
 by_cases c:(k:Int)<l.length
 ·obtain⟨x,hx⟩: ∃x,l[k]? =some x:=⟨l[k]'(by omega),by simp⟩
  have hr:=hrow k x hx
  have k0:((0:Int)≤(k:Int))=True:=eq_true (by omega)
  have k1:((k:Int)<(l.length:Int))=True:=eq_true c
  have k2:(k<l.length)=True:=eq_true (by omega)
  have e1:=B4N hl (r:=r) hx
  have e2:=A8Z (r:=r) hx
  by_cases hd:H2 l r k=false∧r≤x
  ·rw [if_pos hd]at e1
   obtain⟨hd1,hd2⟩:=hd
   have d2:decide (r≤x)=true:=by simp [hd2]
   rw [hd1,d2]at e2
   have g1:=eq_true hd2
   by_cases e:x=r
   ·rw [if_pos e,List.append_nil]at e1
    have g2:=eq_false (fun h: ¬x=r=>h e)
    subst e
    simp -implicitDefEqProofs only [go_sem,hlen,hr,hsz,k0,k1,k2,hd1,Option.some.injEq,forall_eq',Int.le_refl]
    refine⟨by omega,by omega,?_⟩
    refine ih _ (k+1,m,m+1) (by simp only;omega) (by simp only;omega) ?_
    simp only [hz,e1,e2,List.map_append,List.length_append,List.map_cons,List.map_nil,List.length_cons,List.length_nil,zrw,Bool.false_or]
    simp -implicitDefEqProofs only [go_sem]
   ·rw [if_neg e]at e1
    have g2:=eq_false e
    simp -implicitDefEqProofs only [go_sem,hlen,hr,hsz,k0,k1,k2,hd1,g1,g2,Option.some.injEq,forall_eq']
    refine⟨by omega,by omega,by omega,?_⟩
    refine ih _ (k+1,m+1,m+1+1) (by simp only;omega) (by simp only;omega) ?_
    simp only [hz,e1,e2,List.map_append,List.length_append,List.map_cons,List.map_nil,List.length_cons,List.length_nil,zrw,Bool.false_or]
    simp -implicitDefEqProofs only [go_sem]
    rw [List.take_of_length_le (by simp)]
  ·rw [if_neg hd,List.append_nil]at e1
   have hor:H2 l r k=true∨ ¬r≤x:=by
    cases h:H2 l r k with
    |true=>exact .inl rfl
    |false=>exact .inr fun h2=>hd ⟨h,h2⟩
   have fin: ∀s,H2 l r (k+1)=H2 l r k→_:=fun s h=>ih s (k+1,m,m+1) (by simp only;omega) (by simp only;omega)
   by_cases e:x=r
   ·rw [if_pos e,List.append_nil]at e1
    have e3:H2 l r (k+1)=H2 l r k:=by
     rw [e2];rcases hor with h|h
     ·rw [h];rfl
     ·omega
    rcases hor with h|h
    ·subst e
     simp -implicitDefEqProofs only [go_sem,hlen,hr,hsz,k0,k1,k2,h,Option.some.injEq,forall_eq']
     refine⟨by omega,?_⟩
     refine ih _ (k+1,st,m) (by simp only;omega) (by simp only;omega) ?_
     simp only [hz,e1,e3,h]
     simp -implicitDefEqProofs only [go_sem]
    ·omega
   ·rw [if_neg e]at e1
    have g2:=eq_false e
    cases h:H2 l r k with
    |true=>
     rw [h,Bool.true_or]at e2
     simp -implicitDefEqProofs only [go_sem,hlen,hr,hsz,k0,k1,k2,h,g2,Option.some.injEq,forall_eq']
     refine⟨by omega,by omega,?_⟩
     refine ih _ (k+1,m,m+1) (by simp only;omega) (by simp only;omega) ?_
     simp only [hz,e1,e2,List.map_append,List.length_append,List.map_cons,List.map_nil,List.length_cons,List.length_nil,zrw]
     simp -implicitDefEqProofs only [go_sem]
    |false=>
     have h1: ¬r≤x:=by rcases hor with h2|h2;rw [h]at h2;cases h2;exact h2
     have g1:=eq_false h1
     have d2:decide (r≤x)=false:=by simp;omega
     rw [h,d2,Bool.or_false]at e2
     simp -implicitDefEqProofs only [go_sem,hlen,hr,hsz,k0,k1,k2,h,g1,g2,Option.some.injEq,forall_eq']
     refine⟨by omega,by omega,?_⟩
     refine ih _ (k+1,m,m+1) (by simp only;omega) (by simp only;omega) ?_
     simp only [hz,e1,e2,List.map_append,List.length_append,List.map_cons,List.map_nil,List.length_cons,List.length_nil,zrw]
     simp -implicitDefEqProofs only [go_sem]
 ·have e:k=l.length:=by omega
  subst e
  have k1:((l.length:Int)<(l.length:Int))=False:=eq_false (by omega)
  have ha:=B7h l r
  cases h:H2 l r l.length with
  |true=>
   rw [h,if_pos rfl]at ha
   rw [ha]
   simp -implicitDefEqProofs only [go_sem,hlen,k1,h,A0i,List.drop_zero,Nat.zero_add,List.length_map,List.take_length,K4,Nat.le_refl]
  |false=>
   rw [h,if_neg (by simp)]at ha
   rw [ha]
   simp -implicitDefEqProofs only [go_sem,hlen,k1,h]
   refine⟨by omega,?_⟩
   rw [List.take_of_length_le (by simp),show List.map zrw (A6Z l r l.length)++ [[V.int .i64 r]]=(A6Z l r l.length++ [r]).map zrw from by simp [zrw]]
   exact K4 _ _ _
theorem C2T(l:List Int):(D2 l).length≤l.length:=Nat.le_trans (Lib.compact_length_le _) (by simp [L8])
theorem C1o(l:List Int)(hB:l.length≤1000):Pure Tryz.prog 98 [.isl (l.map zrw)] (.isl ((D2 l).map zrw)):=by
 refine Pure.of 1 (A2.enter A1v (Nat.le_of_ble_eq_true rfl) ?_)
 have hrow: ∀(k:Nat) (x:Int),l[k]? =some x→(l.map zrw)[k]? =some [.int .i64 x]:=fun k x h=>W8 h
 have hlen:(l.map zrw).length=l.length:=List.length_map ..
 have hsz:=B5N l
 generalize l.map zrw=es at*
 refine Run.go 100 ?_
 simp -implicitDefEqProofs only [go_sem,A4]
 refine Run.keep [4,3,0] ?_
 refine Run.roundsK (fun(x:Nat)=>⟨[(4,.int .i64 x),(3,.isl ((D2 (l.take x)).map zrw)),(0,.isl es)],[],1⟩) (fun x=>x≤l.length) (fun x=>l.length-x) 0 ?_ (Nat.zero_le _) ?_
 ·refine .turn id ⟨.refl _,?_,.refl _,trivial⟩ trivial
  rw [List.take_zero,G0]
  exact F4.slI
 rintro k hk ih
 refine Run.unf A4p (Run.go 100 ?_)
 by_cases hlt:k<l.length
 ·have q0:((k:Int)<(l.length:Int))=True:=eq_true (by omega)
  have q1:((0:Int)≤(k:Int))=True:=eq_true (by omega)
  obtain⟨x,hx⟩: ∃x,l[k]? =some x:=⟨l[k],by simp [hlt]⟩
  have hxr:=hrow k x hx
  have hzk:((k+1:Nat):Int)=(k:Int)+1:=by omega
  have hnl:(D2 (l.take k)).length≤100000:=by
   have:=Nat.le_trans (C2T (l.take k)) (List.length_take_le k l);omega
  have hp:=C1n (D2 (l.take k)) (A4w _) hnl x
  have he:B2T (D2 (l.take k)) x=D2 (l.take (k+1)):=by rw [B2U,List.take_add_one,hx];rfl
  rw [he]at hp
  have f1:((D2 (l.take k)).map zrw).map (fun r=>r.map (V.sub H0))=(D2 (l.take k)).map zrw:=B3J _
  have f2:=fun d h=>K4 d h (D2 (l.take (k+1)))
  generalize (D2 (l.take k)).map zrw=rs at*
  simp -implicitDefEqProofs only [go_sem,q0,q1,hlen,hsz,hxr,hlt,Option.some.injEq,forall_eq']
  refine A2.pureF hp (by simp -implicitDefEqProofs only [go_sem,f1]) ?_
  simp -implicitDefEqProofs only [go_sem]
  refine⟨by omega,?_⟩
  exact ih _ (k+1) (by omega) (by omega) (B6.wk (by simp -implicitDefEqProofs only [go_sem,hzk]))
 have e:k=l.length:=by omega
 subst e
 rw [List.take_length]
 simp -implicitDefEqProofs only [go_sem,Int.lt_irrefl,hlen]
 exact K4 _ _ _
theorem B9c(l:List Int)(a n:Int)(hB:l.length≤1000)(ha: -100000≤a∧a≤100000)(hn:n≤100000)(b st n0:Nat):A2 Tryz.prog 100 [.sl b st 0 l.length,.int .i64 a,.int .i64 n] [(b,st,.rows 1 (l.map zrw))] n0 fun r h' _=> ∃s',r= .sl b s' 0 (l++D4 a n.toNat).length∧h'= [(b,s',.rows 1 ((l++D4 a n.toNat).map zrw))]:=by
 refine A2.enterK O9 (Nat.le_of_ble_eq_true rfl) fun Q hQ=>Run.go 100 ?_
 simp -implicitDefEqProofs only [go_sem,A4]
 refine Run.keep [7,2,1,0] ?_
 refine Run.rounds (fun(x:Nat×Nat×Nat)=>⟨[(7,.int .i64 x.1),(2,.int .i64 n),(1,.int .i64 a),(0,.sl b x.2.1 0 (l++D4 a x.1).length)],[(b,x.2.1,.rows 1 ((l++D4 a x.1).map zrw))],x.2.2⟩)
   (fun x=>x.1≤n.toNat) (fun x=>n.toNat-x.1) (0,st,n0) (by simp -implicitDefEqProofs only [go_sem,B9l,List.append_nil]) (by simp only;omega) ?_
 rintro⟨k,st,m⟩ hk ih
 simp only at hk ih⊢
 have hz:((k+1:Nat):Int)=(k:Int)+1:=by omega
 have hl:=A8q a k
 have hll:(l++D4 a k).length=l.length+k:=by simp [hl]
 have hns:(l++D4 a (k+1)).map zrw=(l++D4 a k).map zrw++ [[.int .i64 (a+k)]]:=by rw [A1J];simp [zrw]
 have hnl:(l++D4 a (k+1)).length=(l++D4 a k).length+1:=by rw [A1J];simp;try omega
 have hml:((l++D4 a k).map zrw).length=(l++D4 a k).length:=List.length_map ..
 refine Run.unf U6 (Run.go 100 ?_)
 by_cases c:(k:Int)<n
 ·have fin:=fun s=>ih s (k+1,m,m+1) (by simp only;omega) (by simp only;omega)
  clear ih
  simp only [hz,hns,hnl]at fin
  generalize (l++D4 a k).map zrw=es at*
  generalize (l++D4 a k).length=el at*
  simp -implicitDefEqProofs only [go_sem,c]
  have hte:es.take el=es:=List.take_of_length_le (by omega)
  rw [hte]
  exact⟨by omega,by omega,by omega,by omega,fin _ (by simp -implicitDefEqProofs only [go_sem])⟩
 ·have e:k=n.toNat:=by omega
  subst e
  have hte:((l++D4 a n.toNat).map zrw).take (l++D4 a n.toNat).length=(l++D4 a n.toNat).map zrw:=List.take_of_length_le (by rw [hml];exact Nat.le_refl _)
  generalize (l++D4 a n.toNat).map zrw=es at*
  simp -implicitDefEqProofs only [go_sem,c]
  subst hQ
  exact .is ⟨st,by rw [List.length_append],rfl⟩
theorem B1q(a n:Int)(ha: -100000≤a∧a≤100000)(hn:n≤100000)(n0:Nat):A2 Tryz.prog 100 [.nils,.int .i64 a,.int .i64 n] [] n0 fun r h' _=>r= .isl ((D4 a n.toNat).map zrw)∧h'= []:=by
 refine A2.enterK O9 (Nat.le_of_ble_eq_true rfl) fun Q hQ=>Run.go 100 ?_
 simp -implicitDefEqProofs only [go_sem,A4]
 refine Run.roundsK (fun(x:Nat×Nat×Nat)=>⟨[(7,.int .i64 x.1),(2,.int .i64 n),(1,.int .i64 a),(0,.sl (100*10000+18) x.2.1 0 (D4 a x.1).length)],[((100*10000+18),x.2.1,.rows 1 ((D4 a x.1).map zrw))],x.2.2⟩)
   (fun x=>x.1≤n.toNat) (fun x=>n.toNat-x.1) (0,n0,n0+1) ?_ (by simp only;omega) ?_
 ·refine .trans (.fresh (100*10000+18) 1 _ _ _) (.turn id ?_ (.at 0 rfl rfl (.refl _) trivial))
  exact⟨.refl _,.refl _,.refl _,.nils,trivial⟩
 rintro⟨k,st,m⟩ hk ih
 simp only at hk ih⊢
 have hz:((k+1:Nat):Int)=(k:Int)+1:=by omega
 have hl:=A8q a k
 have hll:(D4 a k).length=k:=by simp [hl]
 have hns:(D4 a (k+1)).map zrw=(D4 a k).map zrw++ [[.int .i64 (a+k)]]:=by rw [A1J];simp [zrw]
 have hnl:(D4 a (k+1)).length=(D4 a k).length+1:=by rw [A1J];simp;try omega
 have hml:((D4 a k).map zrw).length=(D4 a k).length:=List.length_map ..
 refine Run.unf U6 (Run.go 100 ?_)
 by_cases c:(k:Int)<n
 ·have fin:=fun s=>ih s (k+1,m,m+1) (by simp only;omega) (by simp only;omega)
  clear ih
  simp only [hz,hns,hnl]at fin
  generalize (D4 a k).map zrw=es at*
  generalize (D4 a k).length=el at*
  simp -implicitDefEqProofs only [go_sem,c]
  have hte:es.take el=es:=List.take_of_length_le (by omega)
  rw [hte]
  exact⟨by omega,by omega,by omega,by omega,fin _ (B6.wk (by simp -implicitDefEqProofs only [go_sem]))⟩
 ·have e:k=n.toNat:=by omega
  subst e
  have hte:((D4 a n.toNat).map zrw).take (D4 a n.toNat).length=(D4 a n.toNat).map zrw:=List.take_of_length_le (by rw [hml];exact Nat.le_refl _)
  simp -implicitDefEqProofs only [go_sem,c]
  subst hQ
  exact .to (r2:= .isl _) (n2:=m) ⟨rfl,rfl⟩ (.freeze (b:=(100*10000+18)) (st:=st) (sz:=1) (rs:=(D4 a n.toNat).map zrw) List.mem_cons_self ⟨Frz.all (by simp [hl]),trivial⟩ trivial)
theorem B8Z(a0 a n:Int)(ha: -100000≤a∧a≤100000)(hn:n≤100000)(b st n0:Nat):A2 Tryz.prog 99 [.sl b st 0 1,.int .i64 a,.int .i64 n] [(b,st,.rows 1 ([a0].map zrw))] n0 fun r h' _=> ∃s',r= .tup [.sl b s' 0 (a0::(E7 a n).1).length,.int .i64 (E7 a n).2]∧h'= [(b,s',.rows 1 ((a0::(E7 a n).1).map zrw))]:=by
 have hs:=B9c [a0] a n (by simp) ha hn b st
 refine A2.enterK O8 (Nat.le_of_ble_eq_true rfl) fun Q hQ=>Run.go 100 ?_
 by_cases h:n<0
 ·rw [A5g h]at hQ
  simp -implicitDefEqProofs only [go_sem,A4,h]
  subst hQ
  exact .is ⟨st,rfl,rfl⟩
 ·rw [A5h h]at hQ
  simp -implicitDefEqProofs only [go_sem,A4,h]
  refine A2.at [0] [] (hs _) rfl rfl ?_
  rintro r h' n' hn ⟨s',rfl,rfl⟩
  simp -implicitDefEqProofs only [go_sem]
  subst hQ
  exact .is ⟨s',rfl,rfl⟩
theorem F4.tupN{x:V}:F4 (.tup [.nils,x]) (.tup [.isl [],x]):=fun E y h=>by
 cases h with
 | tup _ vs hl hR=>
  refine .tup _ vs hl fun i c v hc hv=> ?_
  match i with
  |0=>
   cases hc
   have:=hR 0 .nils v rfl hv
   cases this
   exact .isl0 _ _
  |i+1=>exact hR (i+1) c v hc hv
theorem B1n(a n:Int)(ha: -100000≤a∧a≤100000)(hn:n≤100000)(n0:Nat):A2 Tryz.prog 99 [.nils,.int .i64 a,.int .i64 n] [] n0 fun r h' _=>r= .tup [.isl ((E7 a n).1.map zrw),.int .i64 (E7 a n).2]∧h'= []:=by
 have hs:=B1q a n ha hn
 refine A2.enterK O8 (Nat.le_of_ble_eq_true rfl) fun Q hQ=>Run.go 100 ?_
 by_cases h:n<0
 ·rw [A5g h]at hQ
  simp -implicitDefEqProofs only [go_sem,A4,h]
  subst hQ
  exact .to (r2:= .tup [.isl [],.int .i64 a]) (n2:=n0) ⟨rfl,rfl⟩ (.turn id ⟨F4.tupN,trivial⟩ trivial)
 ·rw [A5h h]at hQ
  simp -implicitDefEqProofs only [go_sem,A4,h]
  refine A2.at [] [] (hs _) rfl rfl ?_
  rintro r h' n' hn ⟨rfl,rfl⟩
  simp -implicitDefEqProofs only [go_sem]
  subst hQ
  exact .is ⟨rfl,rfl⟩
-- EV: Ins.v, Ins.row
attribute [local go_sem] Ins.v Ins.row
theorem M8(zs:List Int)(hB:zs.length≤1000)(b st n:Nat):A2 Tryz.prog 98 [.sl b st 0 zs.length] [(b,st,.rows 1 (zs.map zrw))] n fun r h' _=>r= .isl ((D2 zs).map zrw)∧h'= []:=
 A2.pre (xs':= [.isl (zs.map zrw)]) (h':= []) (n':=n) (.freeze (b:=b) (st:=st) (sz:=1) (rs:=zs.map zrw) List.mem_cons_self ⟨Frz.all (List.length_map ..).symm,trivial⟩ trivial) rfl
  (A2.pureF (C1o zs hB) (by simp only [List.map_cons,List.map_nil,V.sub,N7,B3J]) ⟨rfl,rfl⟩)
theorem B7g(a:Int):D2 [a,a+1,a+2]=D4 a 3:=by
 have e:D4 a 3= [a,a+1,a+2]:=by simp [D4,List.range_succ]
 rw [←e];exact B4K (B0P a 3)
theorem B3n(a b:Int)(h:a<b):D2 [a,b]= [a,b]:=by rw [B4L,if_neg (by omega),if_pos h]
theorem B1S(i:Ins):Pure Tryz.prog 71 [i.v] (.tup [.isl ((reads i).1.map zrw),.int .i64 (reads i).2]):=by
 refine Pure.of 1 (A2.enter o7 (Nat.le_of_ble_eq_true rfl) ?_)
 refine Run.go 100 ?_
 simp -implicitDefEqProofs only [go_sem,A4]
 refine A2.pureF (A7P i) (by simp -implicitDefEqProofs only [go_sem]) ?_
 by_cases hc:chk i=0
 rotate_left
 ·rw [show reads i=([], -1) from if_neg hc]
  simp -implicitDefEqProofs only [go_sem,hc,List.map_nil]
 ·rw [show reads i=rds i from if_pos hc,hc]
  have h0:=A2f hc
  simp -implicitDefEqProofs only [go_sem]
  repeat' (first|refine And.intro ?_ ?_|refine fun h=> ?_)
  all_goals first
   |omega
   |(simp [rds,zrw, *];done)
   | (rw [show rds i=(D2 [i.b], -1) by simp [rds,H9, *]]
      refine A2.at [0] [] (M8 [i.b] (by simp) _ _ _) rfl rfl ?_
      rintro r h' n' hn ⟨rfl,rfl⟩
      simp -implicitDefEqProofs only [go_sem,K4]
      done)
   | (rw [show rds i=(D2 [i.a], -1) by simp [rds,H9, *]]
      refine A2.at [0] [] (M8 [i.a] (by simp) _ _ _) rfl rfl ?_
      rintro r h' n' hn ⟨rfl,rfl⟩
      simp -implicitDefEqProofs only [go_sem,K4]
      done)
   | (rw [show rds i=(D2 [i.a+3], -1) by simp [rds,H9, *]]
      refine A2.at [0] [] (M8 [i.a+3] (by simp) _ _ _) rfl rfl ?_
      rintro r h' n' hn ⟨rfl,rfl⟩
      simp -implicitDefEqProofs only [go_sem,K4]
      done)
   | (rw [show rds i=(D2 [i.b,i.c], -1) by simp [rds, *]]
      refine A2.at [0] [] (M8 [i.b,i.c] (by simp) _ _ _) rfl rfl ?_
      rintro r h' n' hn ⟨rfl,rfl⟩
      simp -implicitDefEqProofs only [go_sem,K4]
      done)
   | (rw [show rds i=(D2 [i.a,i.b,i.c], -1) by simp [rds, *]]
      refine A2.at [0] [] (M8 [i.a,i.b,i.c] (by simp) _ _ _) rfl rfl ?_
      rintro r h' n' hn ⟨rfl,rfl⟩
      simp -implicitDefEqProofs only [go_sem,K4]
      done)
   | (rw [show rds i=(D2 [i.a,i.a+1,i.a+2], -1) by(rw [B7g];simp [rds,E7, *])]
      refine A2.at [0] [] (M8 [i.a,i.a+1,i.a+2] (by simp) _ _ _) rfl rfl ?_
      rintro r h' n' hn ⟨rfl,rfl⟩
      simp -implicitDefEqProofs only [go_sem,K4]
      done)
   | (rw [show rds i=(i.a::(E7 (i.a+1) i.b).1,(E7 (i.a+1) i.b).2) by simp [rds, *]]
      refine A2.at [0] [] (B8Z i.a (i.a+1) i.b ⟨by omega,by omega⟩ (by omega) _ _ _) rfl rfl ?_
      rintro r h' n' hn ⟨s',rfl,rfl⟩
      simp -implicitDefEqProofs only [go_sem]
      exact⟨rfl,K4 _ _ _⟩)
   | (rw [show rds i=E7 (i.a) i.b by simp [rds, *]]
      refine A2.at [] [] (B1n (i.a) i.b ⟨by omega,by omega⟩ (by omega) _) rfl rfl ?_
      rintro r h' n' hn ⟨rfl,rfl⟩
      simp -implicitDefEqProofs only [go_sem,K4]
      done)
theorem B0D(i:Ins):Pure Tryz.prog 72 [i.v] (.tup [.isl ((B7 i).1.map zrw),.int .i64 (B7 i).2]):=by
 refine Pure.of 1 (A2.enter X9 (Nat.le_of_ble_eq_true rfl) ?_)
 refine Run.go 100 ?_
 simp -implicitDefEqProofs only [go_sem,A4]
 refine A2.pureF (A7P i) (by simp -implicitDefEqProofs only [go_sem]) ?_
 by_cases hc:chk i=0
 rotate_left
 ·rw [show B7 i=([], -1) from if_neg hc]
  simp -implicitDefEqProofs only [go_sem,hc,List.map_nil]
 ·rw [show B7 i=wrs i from if_pos hc,hc]
  have h0:=A2f hc
  have h1:=B6n hc
  simp -implicitDefEqProofs only [go_sem]
  repeat' (first|refine And.intro ?_ ?_|refine fun h=> ?_)
  all_goals first
   |omega
   |(simp [wrs,zrw, *];done)
   | (rw [show wrs i=(D2 [i.a], -1) by simp [wrs,H9, *]]
      refine A2.at [0] [] (M8 [i.a] (by simp) _ _ _) rfl rfl ?_
      rintro r h' n' hn ⟨rfl,rfl⟩
      simp -implicitDefEqProofs only [go_sem,K4]
      done)
   | (rw [show wrs i=(D2 [i.a+3], -1) by simp [wrs,H9, *]]
      refine A2.at [0] [] (M8 [i.a+3] (by simp) _ _ _) rfl rfl ?_
      rintro r h' n' hn ⟨rfl,rfl⟩
      simp -implicitDefEqProofs only [go_sem,K4]
      done)
   | (rw [show wrs i=(D2 [i.a+2], -1) by simp [wrs,H9, *]]
      refine A2.at [0] [] (M8 [i.a+2] (by simp) _ _ _) rfl rfl ?_
      rintro r h' n' hn ⟨rfl,rfl⟩
      simp -implicitDefEqProofs only [go_sem,K4]
      done)
   | (rw [show wrs i=(D2 [i.a,i.a+1], -1) by(rw [B3n _ _ (by omega)];simp [wrs, *])]
      refine A2.at [0] [] (M8 [i.a,i.a+1] (by simp) _ _ _) rfl rfl ?_
      rintro r h' n' hn ⟨rfl,rfl⟩
      simp -implicitDefEqProofs only [go_sem,K4]
      done)
   | (rw [show wrs i=(D2 [i.a,i.a+3], -1) by(rw [B3n _ _ (by omega)];simp [wrs, *])]
      refine A2.at [0] [] (M8 [i.a,i.a+3] (by simp) _ _ _) rfl rfl ?_
      rintro r h' n' hn ⟨rfl,rfl⟩
      simp -implicitDefEqProofs only [go_sem,K4]
      done)
   | (rw [show wrs i=(D4 (i.a) (i.b-i.a+1).toNat, -1) by simp [wrs, *];exact A5h (by omega)]
      refine A2.at [] [] (B1q (i.a) (i.b-i.a+1) ⟨by omega,by omega⟩ (by omega) _) rfl rfl ?_
      rintro r h' n' hn ⟨rfl,rfl⟩
      simp -implicitDefEqProofs only [go_sem,K4]
      done)
   | (rw [show wrs i=(D4 (i.a+3) (i.c).toNat, -1) by simp [wrs, *];exact A5h (by omega)]
      refine A2.at [] [] (B1q (i.a+3) (i.c) ⟨by omega,by omega⟩ (by omega) _) rfl rfl ?_
      rintro r h' n' hn ⟨rfl,rfl⟩
      simp -implicitDefEqProofs only [go_sem,K4]
      done)
   | (rw [show wrs i=E7 (i.a) (i.c) by simp [wrs, *]]
      refine A2.at [] [] (B1n (i.a) (i.c) ⟨by omega,by omega⟩ (by omega) _) rfl rfl ?_
      rintro r h' n' hn ⟨rfl,rfl⟩
      simp -implicitDefEqProofs only [go_sem,K4]
      done)
   | (rw [show wrs i=E7 (i.a) (i.b) by simp [wrs, *]]
      refine A2.at [] [] (B1n (i.a) (i.b) ⟨by omega,by omega⟩ (by omega) _) rfl rfl ?_
      rintro r h' n' hn ⟨rfl,rfl⟩
      simp -implicitDefEqProofs only [go_sem,K4]
      done)
end Go.Proofs.YtnihmhbcjpcobaaGreatDoor
