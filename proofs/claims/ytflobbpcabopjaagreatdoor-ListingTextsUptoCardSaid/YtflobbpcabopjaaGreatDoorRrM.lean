/-
 A number put into an ascending list, step by step. No condition.
-/
import Derived.Test.YtflobbpcabopjaaGreatDoorSetM
import Derived.Test.YtflobbpcabopjaaGreatDoorWk
import Derived.Test.YtflobbpcabopjaaGreatDoorCodeR
import Derived.Test.YtflobbpcabopjaaGreatDoorRwM
import Derived.Test.YtflobbpcabopjaaGreatDoorOpcN
set_option linter.unusedVariables false
set_option linter.unusedSimpArgs false
set_option maxRecDepth 100000
set_option maxHeartbeats 0
namespace Go.Proofs.YtflobbpcabopjaaGreatDoor
open Go.Abs
attribute [local irreducible] A0 Run
theorem H7.slI{b st i:Nat}:H7 (.sl b st i 0) (.isl []):=fun E x h=>by
 cases h with
 |sl _ _ _ _ cap h1 h2 h3=>exact .isl0 _ _
 |sl0 _ _ _ a=>exact .isl0 _ _
def P2(l:List Int)(r:Int)(k:Nat):Bool:=(l.take k).any fun x=>decide (r≤x)
def B2j(l:List Int)(r:Int)(k:Nat):List Int:=(l.take k).filter (fun x=>decide (x<r))++(if P2 l r k then r::(l.take k).filter (fun x=>decide (r<x))else [])
theorem B5i{l:List Int}{r x:Int}{k:Nat}(h:l[k]? =some x):P2 l r (k+1)=(P2 l r k||decide (r≤x)):=by
 unfold P2
 rw [List.take_add_one,h,Option.toList_some,List.any_append];simp
theorem C3w{l:List Int}(hl:Asc l){r x:Int}{k:Nat}(h:l[k]? =some x):
  B2j l r (k+1)=B2j l r k++(if P2 l r k=false∧r≤x then [r]else [])++(if x=r then []else [x]):=by
 have hgt:P2 l r k=true→r<x:=by
  intro hd
  unfold P2 at hd
  obtain⟨y,hy,hr⟩:=List.any_eq_true.1 hd
  obtain⟨j,hj,hjy⟩:=List.getElem_of_mem hy
  rw [List.length_take]at hj
  rw [List.getElem_take]at hjy
  have hk:=(List.getElem?_eq_some_iff.1 h)
  obtain⟨hk1,hk2⟩:=hk
  have:=List.pairwise_iff_getElem.1 hl j k (by omega) hk1 (by omega)
  rw [hjy,hk2]at this
  have:=of_decide_eq_true hr
  omega
 have hno:P2 l r k=false→(l.take k).filter (fun x=>decide (r<x))= []:=by
  intro hd
  rw [List.filter_eq_nil_iff]
  intro y hy hr
  have h1:=of_decide_eq_true hr
  have:P2 l r k=true:=List.any_eq_true.2 ⟨y,hy,by simp;omega⟩
  rw [hd]at this;cases this
 have e:=B5i (r:=r) h
 unfold B2j
 rw [List.take_add_one,h,Option.toList_some,List.filter_append,List.filter_append,e]
 cases hd:P2 l r k with
 |true=>
  have:=hgt hd
  simp [List.filter,show¬x<r by omega,this,show¬x=r by omega]
 | false=>
  rw [hno hd]
  by_cases c:r≤x
  ·by_cases e:x=r
   ·subst e;simp [List.filter]
   ·simp [List.filter,show¬x<r by omega,c,e,show r<x by omega]
  ·simp [List.filter,show x<r by omega,c,show¬x=r by omega]
theorem C3x(l:List Int)(r:Int):B2j l r 0= []:=by simp [B2j,P2]
theorem C5A(l:List Int)(r:Int)(k:Nat):(B2j l r k).length≤2*l.length+1:=by
 unfold B2j
 have h1:=List.length_filter_le (fun x=>decide (x<r)) (l.take k)
 have h2:=List.length_filter_le (fun x=>decide (r<x)) (l.take k)
 have h3:(l.take k).length≤l.length:=by simp;omega
 split<;>simp<;>omega
theorem C5z(l:List Int)(r:Int):B7Q l r=(if P2 l r l.length then B2j l r l.length else B2j l r l.length++ [r]):=by
 unfold B2j B7Q
 rw [List.take_length]
 cases hd:P2 l r l.length with
 |true=>simp
 | false=>
  have:l.filter (fun x=>decide (r<x))= []:=by
   rw [List.filter_eq_nil_iff]
   intro y hy hr
   have h1:=of_decide_eq_true hr
   have:P2 l r l.length=true:=List.any_eq_true.2 ⟨y,by rw [List.take_length];exact hy,by simp;omega⟩
   rw [hd]at this;cases this
  rw [this];simp
-- EV: Ins.v, Ins.row
attribute [local go_sem] Ins.v Ins.row
-- EV: Ins.v, Ins.row
theorem C3K(l:List Int)(hl:Asc l)(hB:l.length≤100000)(r:Int):Pure Tryz.prog 206 [.isl (l.map zrw),.int .i64 r] (.isl ((B7Q l r).map zrw)):=by
 refine Pure.of 1 (A0.enter A0D (Nat.le_of_ble_eq_true rfl) ?_)
 have hrow: ∀(k:Nat) (x:Int),l[k]? =some x→(l.map zrw)[k]? =some [.int .i64 x]:=fun k x h=>C1A h
 have hlen:(l.map zrw).length=l.length:=List.length_map ..
 have hsz:=C1j l
 generalize l.map zrw=es at*
 refine Run.go 100 ?_
 simp -implicitDefEqProofs only [go_sem,A3]
 refine Run.rounds (fun(x:Nat×Nat×Nat)=>⟨[(7,.int .i64 x.1),(6,.bool (P2 l r x.1)),(5,.sl (206*10000+8) x.2.1 0 (B2j l r x.1).length),(1,.int .i64 r),(0,.isl es)],[((206*10000+8),x.2.1,.rows 1 ((B2j l r x.1).map zrw))],x.2.2⟩)
  (fun x=>x.1≤l.length) (fun x=>l.length-x.1) (0,0,1) (by simp -implicitDefEqProofs only [go_sem,C3x,P2,List.take_zero,List.any_nil,List.length_nil,List.map_nil]) (by simp only;omega) ?_
 rintro⟨k,st,m⟩ hk ih
 simp only at hk⊢
 have hz:((k+1:Nat):Int)=(k:Int)+1:=by omega
 refine Run.unf A4t (Run.go 100 ?_)
 have hol:=C5A l r k
 by_cases c:(k:Int)<l.length
 ·obtain⟨x,hx⟩: ∃x,l[k]? =some x:=⟨l[k]'(by omega),by simp⟩
  have hr:=hrow k x hx
  have k0:((0:Int)≤(k:Int))=True:=eq_true (by omega)
  have k1:((k:Int)<(l.length:Int))=True:=eq_true c
  have k2:(k<l.length)=True:=eq_true (by omega)
  have e1:=C3w hl (r:=r) hx
  have e2:=B5i (r:=r) hx
  by_cases hd:P2 l r k=false∧r≤x
  ·rw [if_pos hd]at e1
   obtain⟨hd1,hd2⟩:=hd
   have d2:decide (r≤x)=true:=by simp [hd2]
   rw [hd1,d2]at e2
   have g1:=eq_true hd2
   by_cases e:x=r
   ·rw [if_pos e,List.append_nil]at e1
    have g2:=eq_false (fun h: ¬x=r=>h e)
    subst e
    simp -implicitDefEqProofs only [go_sem,hlen,hr,hsz,k0,k1,k2,hd1,Option.some.injEq,forall_eq',Int.le_refl]
    refine⟨by omega,by omega,?_⟩
    refine ih _ (k+1,m,m+1) (by simp only;omega) (by simp only;omega) ?_
    simp only [hz,e1,e2,List.map_append,List.length_append,List.map_cons,List.map_nil,List.length_cons,List.length_nil,zrw,Bool.false_or]
    simp -implicitDefEqProofs only [go_sem]
   ·rw [if_neg e]at e1
    have g2:=eq_false e
    simp -implicitDefEqProofs only [go_sem,hlen,hr,hsz,k0,k1,k2,hd1,g1,g2,Option.some.injEq,forall_eq']
    refine⟨by omega,by omega,by omega,?_⟩
    refine ih _ (k+1,m+1,m+1+1) (by simp only;omega) (by simp only;omega) ?_
    simp only [hz,e1,e2,List.map_append,List.length_append,List.map_cons,List.map_nil,List.length_cons,List.length_nil,zrw,Bool.false_or]
    simp -implicitDefEqProofs only [go_sem]
    rw [List.take_of_length_le (by simp)]
  ·rw [if_neg hd,List.append_nil]at e1
   have hor:P2 l r k=true∨ ¬r≤x:=by
    cases h:P2 l r k with
    |true=>exact .inl rfl
    |false=>exact .inr fun h2=>hd ⟨h,h2⟩
   have fin: ∀s,P2 l r (k+1)=P2 l r k→_:=fun s h=>ih s (k+1,m,m+1) (by simp only;omega) (by simp only;omega)
   by_cases e:x=r
   ·rw [if_pos e,List.append_nil]at e1
    have e3:P2 l r (k+1)=P2 l r k:=by
     rw [e2];rcases hor with h|h
     ·rw [h];rfl
     ·omega
    rcases hor with h|h
    ·subst e
     simp -implicitDefEqProofs only [go_sem,hlen,hr,hsz,k0,k1,k2,h,Option.some.injEq,forall_eq']
     refine⟨by omega,?_⟩
     refine ih _ (k+1,st,m) (by simp only;omega) (by simp only;omega) ?_
     simp only [hz,e1,e3,h]
     simp -implicitDefEqProofs only [go_sem]
    ·omega
   ·rw [if_neg e]at e1
    have g2:=eq_false e
    cases h:P2 l r k with
    |true=>
     rw [h,Bool.true_or]at e2
     simp -implicitDefEqProofs only [go_sem,hlen,hr,hsz,k0,k1,k2,h,g2,Option.some.injEq,forall_eq']
     refine⟨by omega,by omega,?_⟩
     refine ih _ (k+1,m,m+1) (by simp only;omega) (by simp only;omega) ?_
     simp only [hz,e1,e2,List.map_append,List.length_append,List.map_cons,List.map_nil,List.length_cons,List.length_nil,zrw]
     simp -implicitDefEqProofs only [go_sem]
    |false=>
     have h1: ¬r≤x:=by rcases hor with h2|h2;rw [h]at h2;cases h2;exact h2
     have g1:=eq_false h1
     have d2:decide (r≤x)=false:=by simp;omega
     rw [h,d2,Bool.or_false]at e2
     simp -implicitDefEqProofs only [go_sem,hlen,hr,hsz,k0,k1,k2,h,g1,g2,Option.some.injEq,forall_eq']
     refine⟨by omega,by omega,?_⟩
     refine ih _ (k+1,m,m+1) (by simp only;omega) (by simp only;omega) ?_
     simp only [hz,e1,e2,List.map_append,List.length_append,List.map_cons,List.map_nil,List.length_cons,List.length_nil,zrw]
     simp -implicitDefEqProofs only [go_sem]
 ·have e:k=l.length:=by omega
  subst e
  have k1:((l.length:Int)<(l.length:Int))=False:=eq_false (by omega)
  have ha:=C5z l r
  cases h:P2 l r l.length with
  |true=>
   rw [h,if_pos rfl]at ha
   rw [ha]
   simp -implicitDefEqProofs only [go_sem,hlen,k1,h,A3h,List.drop_zero,Nat.zero_add,List.length_map,List.take_length,V4,Nat.le_refl]
  |false=>
   rw [h,if_neg (by simp)]at ha
   rw [ha]
   simp -implicitDefEqProofs only [go_sem,hlen,k1,h]
   refine⟨by omega,?_⟩
   rw [List.take_of_length_le (by simp),show List.map zrw (B2j l r l.length)++ [[V.int .i64 r]]=(B2j l r l.length++ [r]).map zrw from by simp [zrw]]
   exact V4 _ _ _
theorem C5s(l:List Int):(D5 l).length≤l.length:=Nat.le_trans (Lib.compact_length_le _) (by simp [A3b])
theorem C3L(l:List Int)(hB:l.length≤1000):Pure Tryz.prog 175 [.isl (l.map zrw)] (.isl ((D5 l).map zrw)):=by
 refine Pure.of 1 (A0.enter A8g (Nat.le_of_ble_eq_true rfl) ?_)
 have hrow: ∀(k:Nat) (x:Int),l[k]? =some x→(l.map zrw)[k]? =some [.int .i64 x]:=fun k x h=>C1A h
 have hlen:(l.map zrw).length=l.length:=List.length_map ..
 have hsz:=C1j l
 generalize l.map zrw=es at*
 refine Run.go 100 ?_
 simp -implicitDefEqProofs only [go_sem,A3]
 refine Run.keep [4,3,0] ?_
 refine Run.roundsK (fun(x:Nat)=>⟨[(4,.int .i64 x),(3,.isl ((D5 (l.take x)).map zrw)),(0,.isl es)],[],1⟩) (fun x=>x≤l.length) (fun x=>l.length-x) 0 ?_ (Nat.zero_le _) ?_
 ·refine .turn id ⟨.refl _,?_,.refl _,trivial⟩ trivial
  rw [List.take_zero,C3q]
  exact H7.slI
 rintro k hk ih
 refine Run.unf A4u (Run.go 100 ?_)
 by_cases hlt:k<l.length
 ·have q0:((k:Int)<(l.length:Int))=True:=eq_true (by omega)
  have q1:((0:Int)≤(k:Int))=True:=eq_true (by omega)
  obtain⟨x,hx⟩: ∃x,l[k]? =some x:=⟨l[k],by simp [hlt]⟩
  have hxr:=hrow k x hx
  have hzk:((k+1:Nat):Int)=(k:Int)+1:=by omega
  have hnl:(D5 (l.take k)).length≤100000:=by
   have:=Nat.le_trans (C5s (l.take k)) (List.length_take_le k l);omega
  have hp:=C3K (D5 (l.take k)) (A4K _) hnl x
  have he:B7Q (D5 (l.take k)) x=D5 (l.take (k+1)):=by rw [C0E,List.take_add_one,hx];rfl
  rw [he]at hp
  have f1:((D5 (l.take k)).map zrw).map (fun r=>r.map (V.sub E8))=(D5 (l.take k)).map zrw:=B6b _
  have f2:=fun d h=>V4 d h (D5 (l.take (k+1)))
  generalize (D5 (l.take k)).map zrw=rs at*
  simp -implicitDefEqProofs only [go_sem,q0,q1,hlen,hsz,hxr,hlt,Option.some.injEq,forall_eq']
  refine A0.pureF hp (by simp -implicitDefEqProofs only [go_sem,f1]) ?_
  simp -implicitDefEqProofs only [go_sem]
  refine⟨by omega,?_⟩
  exact ih _ (k+1) (by omega) (by omega) (F7.wk (by simp -implicitDefEqProofs only [go_sem,hzk]))
 have e:k=l.length:=by omega
 subst e
 rw [List.take_length]
 simp -implicitDefEqProofs only [go_sem,Int.lt_irrefl,hlen]
 exact V4 _ _ _
theorem C1m(l:List Int)(a n:Int)(hB:l.length≤1000)(ha: -100000≤a∧a≤100000)(hn:n≤100000)(b st n0:Nat):A0 Tryz.prog 177 [.sl b st 0 l.length,.int .i64 a,.int .i64 n] [(b,st,.rows 1 (l.map zrw))] n0 fun r h' _=> ∃s',r= .sl b s' 0 (l++D2 a n.toNat).length∧h'= [(b,s',.rows 1 ((l++D2 a n.toNat).map zrw))]:=by
 refine A0.enterK y6 (Nat.le_of_ble_eq_true rfl) fun Q hQ=>Run.go 100 ?_
 simp -implicitDefEqProofs only [go_sem,A3]
 refine Run.keep [7,2,1,0] ?_
 refine Run.rounds (fun(x:Nat×Nat×Nat)=>⟨[(7,.int .i64 x.1),(2,.int .i64 n),(1,.int .i64 a),(0,.sl b x.2.1 0 (l++D2 a x.1).length)],[(b,x.2.1,.rows 1 ((l++D2 a x.1).map zrw))],x.2.2⟩)
   (fun x=>x.1≤n.toNat) (fun x=>n.toNat-x.1) (0,st,n0) (by simp -implicitDefEqProofs only [go_sem,C1u,List.append_nil]) (by simp only;omega) ?_
 rintro⟨k,st,m⟩ hk ih
 simp only at hk ih⊢
 have hz:((k+1:Nat):Int)=(k:Int)+1:=by omega
 have hl:=B0f a k
 have hll:(l++D2 a k).length=l.length+k:=by simp [hl]
 have hns:(l++D2 a (k+1)).map zrw=(l++D2 a k).map zrw++ [[.int .i64 (a+k)]]:=by rw [A0P];simp [zrw]
 have hnl:(l++D2 a (k+1)).length=(l++D2 a k).length+1:=by rw [A0P];simp;try omega
 have hml:((l++D2 a k).map zrw).length=(l++D2 a k).length:=List.length_map ..
 refine Run.unf U4 (Run.go 100 ?_)
 by_cases c:(k:Int)<n
 ·have fin:=fun s=>ih s (k+1,m,m+1) (by simp only;omega) (by simp only;omega)
  clear ih
  simp only [hz,hns,hnl]at fin
  generalize (l++D2 a k).map zrw=es at*
  generalize (l++D2 a k).length=el at*
  simp -implicitDefEqProofs only [go_sem,c]
  have hte:es.take el=es:=List.take_of_length_le (by omega)
  rw [hte]
  exact⟨by omega,by omega,by omega,by omega,fin _ (by simp -implicitDefEqProofs only [go_sem])⟩
 ·have e:k=n.toNat:=by omega
  subst e
  have hte:((l++D2 a n.toNat).map zrw).take (l++D2 a n.toNat).length=(l++D2 a n.toNat).map zrw:=List.take_of_length_le (by rw [hml];exact Nat.le_refl _)
  generalize (l++D2 a n.toNat).map zrw=es at*
  simp -implicitDefEqProofs only [go_sem,c]
  subst hQ
  exact .is ⟨st,by rw [List.length_append],rfl⟩
theorem B3F(a n:Int)(ha: -100000≤a∧a≤100000)(hn:n≤100000)(n0:Nat):A0 Tryz.prog 177 [.nils,.int .i64 a,.int .i64 n] [] n0 fun r h' _=>r= .isl ((D2 a n.toNat).map zrw)∧h'= []:=by
 refine A0.enterK y6 (Nat.le_of_ble_eq_true rfl) fun Q hQ=>Run.go 100 ?_
 simp -implicitDefEqProofs only [go_sem,A3]
 refine Run.roundsK (fun(x:Nat×Nat×Nat)=>⟨[(7,.int .i64 x.1),(2,.int .i64 n),(1,.int .i64 a),(0,.sl (177*10000+18) x.2.1 0 (D2 a x.1).length)],[((177*10000+18),x.2.1,.rows 1 ((D2 a x.1).map zrw))],x.2.2⟩)
   (fun x=>x.1≤n.toNat) (fun x=>n.toNat-x.1) (0,n0,n0+1) ?_ (by simp only;omega) ?_
 ·refine .trans (.fresh (177*10000+18) 1 _ _ _) (.turn id ?_ (.at 0 rfl rfl (.refl _) trivial))
  exact⟨.refl _,.refl _,.refl _,.nils,trivial⟩
 rintro⟨k,st,m⟩ hk ih
 simp only at hk ih⊢
 have hz:((k+1:Nat):Int)=(k:Int)+1:=by omega
 have hl:=B0f a k
 have hll:(D2 a k).length=k:=by simp [hl]
 have hns:(D2 a (k+1)).map zrw=(D2 a k).map zrw++ [[.int .i64 (a+k)]]:=by rw [A0P];simp [zrw]
 have hnl:(D2 a (k+1)).length=(D2 a k).length+1:=by rw [A0P];simp;try omega
 have hml:((D2 a k).map zrw).length=(D2 a k).length:=List.length_map ..
 refine Run.unf U4 (Run.go 100 ?_)
 by_cases c:(k:Int)<n
 ·have fin:=fun s=>ih s (k+1,m,m+1) (by simp only;omega) (by simp only;omega)
  clear ih
  simp only [hz,hns,hnl]at fin
  generalize (D2 a k).map zrw=es at*
  generalize (D2 a k).length=el at*
  simp -implicitDefEqProofs only [go_sem,c]
  have hte:es.take el=es:=List.take_of_length_le (by omega)
  rw [hte]
  exact⟨by omega,by omega,by omega,by omega,fin _ (F7.wk (by simp -implicitDefEqProofs only [go_sem]))⟩
 ·have e:k=n.toNat:=by omega
  subst e
  have hte:((D2 a n.toNat).map zrw).take (D2 a n.toNat).length=(D2 a n.toNat).map zrw:=List.take_of_length_le (by rw [hml];exact Nat.le_refl _)
  simp -implicitDefEqProofs only [go_sem,c]
  subst hQ
  exact .to (r2:= .isl _) (n2:=m) ⟨rfl,rfl⟩ (.freeze (b:=(177*10000+18)) (st:=st) (sz:=1) (rs:=(D2 a n.toNat).map zrw) List.mem_cons_self ⟨Frz.all (by simp [hl]),trivial⟩ trivial)
theorem C1g(a0 a n:Int)(ha: -100000≤a∧a≤100000)(hn:n≤100000)(b st n0:Nat):A0 Tryz.prog 176 [.sl b st 0 1,.int .i64 a,.int .i64 n] [(b,st,.rows 1 ([a0].map zrw))] n0 fun r h' _=> ∃s',r= .tup [.sl b s' 0 (a0::(F0 a n).1).length,.int .i64 (F0 a n).2]∧h'= [(b,s',.rows 1 ((a0::(F0 a n).1).map zrw))]:=by
 have hs:=C1m [a0] a n (by simp) ha hn b st
 refine A0.enterK w9 (Nat.le_of_ble_eq_true rfl) fun Q hQ=>Run.go 100 ?_
 by_cases h:n<0
 ·rw [B3H h]at hQ
  simp -implicitDefEqProofs only [go_sem,A3,h]
  subst hQ
  exact .is ⟨st,rfl,rfl⟩
 ·rw [A5T h]at hQ
  simp -implicitDefEqProofs only [go_sem,A3,h]
  refine A0.at [0] [] (hs _) rfl rfl ?_
  rintro r h' n' hn ⟨s',rfl,rfl⟩
  simp -implicitDefEqProofs only [go_sem]
  subst hQ
  exact .is ⟨s',rfl,rfl⟩
theorem H7.tupN{x:V}:H7 (.tup [.nils,x]) (.tup [.isl [],x]):=fun E y h=>by
 cases h with
 | tup _ vs hl hR=>
  refine .tup _ vs hl fun i c v hc hv=> ?_
  match i with
  |0=>
   cases hc
   have:=hR 0 .nils v rfl hv
   cases this
   exact .isl0 _ _
  |i+1=>exact hR (i+1) c v hc hv
theorem B3C(a n:Int)(ha: -100000≤a∧a≤100000)(hn:n≤100000)(n0:Nat):A0 Tryz.prog 176 [.nils,.int .i64 a,.int .i64 n] [] n0 fun r h' _=>r= .tup [.isl ((F0 a n).1.map zrw),.int .i64 (F0 a n).2]∧h'= []:=by
 have hs:=B3F a n ha hn
 refine A0.enterK w9 (Nat.le_of_ble_eq_true rfl) fun Q hQ=>Run.go 100 ?_
 by_cases h:n<0
 ·rw [B3H h]at hQ
  simp -implicitDefEqProofs only [go_sem,A3,h]
  subst hQ
  exact .to (r2:= .tup [.isl [],.int .i64 a]) (n2:=n0) ⟨rfl,rfl⟩ (.turn id ⟨H7.tupN,trivial⟩ trivial)
 ·rw [A5T h]at hQ
  simp -implicitDefEqProofs only [go_sem,A3,h]
  refine A0.at [] [] (hs _) rfl rfl ?_
  rintro r h' n' hn ⟨rfl,rfl⟩
  simp -implicitDefEqProofs only [go_sem]
  subst hQ
  exact .is ⟨rfl,rfl⟩
-- EV: Ins.v, Ins.row
theorem M8(zs:List Int)(hB:zs.length≤1000)(b st n:Nat):A0 Tryz.prog 175 [.sl b st 0 zs.length] [(b,st,.rows 1 (zs.map zrw))] n fun r h' _=>r= .isl ((D5 zs).map zrw)∧h'= []:=
 A0.pre (xs':= [.isl (zs.map zrw)]) (h':= []) (n':=n) (.freeze (b:=b) (st:=st) (sz:=1) (rs:=zs.map zrw) List.mem_cons_self ⟨Frz.all (List.length_map ..).symm,trivial⟩ trivial) rfl
  (A0.pureF (C3L zs hB) (by simp only [List.map_cons,List.map_nil,V.sub,U3,B6b]) ⟨rfl,rfl⟩)
theorem B9v(a:Int):D5 [a,a+1,a+2]=D2 a 3:=by
 have e:D2 a 3= [a,a+1,a+2]:=by simp [D2,List.range_succ]
 rw [←e];exact C3p (B2R a 3)
theorem B5F(a b:Int)(h:a<b):D5 [a,b]= [a,b]:=by rw [C3r,if_neg (by omega),if_pos h]
theorem B9L(i:Ins):Pure Tryz.prog 135 [i.v] (.tup [.isl ((G0 i).1.map zrw),.int .i64 (G0 i).2]):=by
 refine Pure.of 1 (A0.enter A5D (Nat.le_of_ble_eq_true rfl) ?_)
 refine Run.go 100 ?_
 simp -implicitDefEqProofs only [go_sem,A3]
 refine A0.pureF (A9C i) (by simp -implicitDefEqProofs only [go_sem]) ?_
 by_cases hc:chk i=0
 rotate_left
 ·rw [show G0 i=([], -1) from if_neg hc]
  simp -implicitDefEqProofs only [go_sem,hc,List.map_nil]
 ·rw [show G0 i=rds i from if_pos hc,hc]
  have h0:=B0U hc
  simp -implicitDefEqProofs only [go_sem]
  repeat' (first|refine And.intro ?_ ?_|refine fun h=> ?_)
  all_goals first
   |omega
   |(simp [rds,zrw, *];done)
   | (rw [show rds i=(D5 [i.b], -1) by simp [rds,A2g, *]]
      refine A0.at [0] [] (M8 [i.b] (by simp) _ _ _) rfl rfl ?_
      rintro r h' n' hn ⟨rfl,rfl⟩
      simp -implicitDefEqProofs only [go_sem,V4]
      done)
   | (rw [show rds i=(D5 [i.a], -1) by simp [rds,A2g, *]]
      refine A0.at [0] [] (M8 [i.a] (by simp) _ _ _) rfl rfl ?_
      rintro r h' n' hn ⟨rfl,rfl⟩
      simp -implicitDefEqProofs only [go_sem,V4]
      done)
   | (rw [show rds i=(D5 [i.a+3], -1) by simp [rds,A2g, *]]
      refine A0.at [0] [] (M8 [i.a+3] (by simp) _ _ _) rfl rfl ?_
      rintro r h' n' hn ⟨rfl,rfl⟩
      simp -implicitDefEqProofs only [go_sem,V4]
      done)
   | (rw [show rds i=(D5 [i.b,i.c], -1) by simp [rds, *]]
      refine A0.at [0] [] (M8 [i.b,i.c] (by simp) _ _ _) rfl rfl ?_
      rintro r h' n' hn ⟨rfl,rfl⟩
      simp -implicitDefEqProofs only [go_sem,V4]
      done)
   | (rw [show rds i=(D5 [i.a,i.b,i.c], -1) by simp [rds, *]]
      refine A0.at [0] [] (M8 [i.a,i.b,i.c] (by simp) _ _ _) rfl rfl ?_
      rintro r h' n' hn ⟨rfl,rfl⟩
      simp -implicitDefEqProofs only [go_sem,V4]
      done)
   | (rw [show rds i=(D5 [i.a,i.a+1,i.a+2], -1) by(rw [B9v];simp [rds,F0, *])]
      refine A0.at [0] [] (M8 [i.a,i.a+1,i.a+2] (by simp) _ _ _) rfl rfl ?_
      rintro r h' n' hn ⟨rfl,rfl⟩
      simp -implicitDefEqProofs only [go_sem,V4]
      done)
   | (rw [show rds i=(i.a::(F0 (i.a+1) i.b).1,(F0 (i.a+1) i.b).2) by simp [rds, *]]
      refine A0.at [0] [] (C1g i.a (i.a+1) i.b ⟨by omega,by omega⟩ (by omega) _ _ _) rfl rfl ?_
      rintro r h' n' hn ⟨s',rfl,rfl⟩
      simp -implicitDefEqProofs only [go_sem]
      exact⟨rfl,V4 _ _ _⟩)
   | (rw [show rds i=F0 (i.a) i.b by simp [rds, *]]
      refine A0.at [] [] (B3C (i.a) i.b ⟨by omega,by omega⟩ (by omega) _) rfl rfl ?_
      rintro r h' n' hn ⟨rfl,rfl⟩
      simp -implicitDefEqProofs only [go_sem,V4]
      done)
theorem B8l(i:Ins):Pure Tryz.prog 136 [i.v] (.tup [.isl ((E5 i).1.map zrw),.int .i64 (E5 i).2]):=by
 refine Pure.of 1 (A0.enter A4r (Nat.le_of_ble_eq_true rfl) ?_)
 refine Run.go 100 ?_
 simp -implicitDefEqProofs only [go_sem,A3]
 refine A0.pureF (A9C i) (by simp -implicitDefEqProofs only [go_sem]) ?_
 by_cases hc:chk i=0
 rotate_left
 ·rw [show E5 i=([], -1) from if_neg hc]
  simp -implicitDefEqProofs only [go_sem,hc,List.map_nil]
 ·rw [show E5 i=wrs i from if_pos hc,hc]
  have h0:=B0U hc
  have h1:=B8E hc
  simp -implicitDefEqProofs only [go_sem]
  repeat' (first|refine And.intro ?_ ?_|refine fun h=> ?_)
  all_goals first
   |omega
   |(simp [wrs,zrw, *];done)
   | (rw [show wrs i=(D5 [i.a], -1) by simp [wrs,A2g, *]]
      refine A0.at [0] [] (M8 [i.a] (by simp) _ _ _) rfl rfl ?_
      rintro r h' n' hn ⟨rfl,rfl⟩
      simp -implicitDefEqProofs only [go_sem,V4]
      done)
   | (rw [show wrs i=(D5 [i.a+3], -1) by simp [wrs,A2g, *]]
      refine A0.at [0] [] (M8 [i.a+3] (by simp) _ _ _) rfl rfl ?_
      rintro r h' n' hn ⟨rfl,rfl⟩
      simp -implicitDefEqProofs only [go_sem,V4]
      done)
   | (rw [show wrs i=(D5 [i.a+2], -1) by simp [wrs,A2g, *]]
      refine A0.at [0] [] (M8 [i.a+2] (by simp) _ _ _) rfl rfl ?_
      rintro r h' n' hn ⟨rfl,rfl⟩
      simp -implicitDefEqProofs only [go_sem,V4]
      done)
   | (rw [show wrs i=(D5 [i.a,i.a+1], -1) by(rw [B5F _ _ (by omega)];simp [wrs, *])]
      refine A0.at [0] [] (M8 [i.a,i.a+1] (by simp) _ _ _) rfl rfl ?_
      rintro r h' n' hn ⟨rfl,rfl⟩
      simp -implicitDefEqProofs only [go_sem,V4]
      done)
   | (rw [show wrs i=(D5 [i.a,i.a+3], -1) by(rw [B5F _ _ (by omega)];simp [wrs, *])]
      refine A0.at [0] [] (M8 [i.a,i.a+3] (by simp) _ _ _) rfl rfl ?_
      rintro r h' n' hn ⟨rfl,rfl⟩
      simp -implicitDefEqProofs only [go_sem,V4]
      done)
   | (rw [show wrs i=(D2 (i.a) (i.b-i.a+1).toNat, -1) by simp [wrs, *];exact A5T (by omega)]
      refine A0.at [] [] (B3F (i.a) (i.b-i.a+1) ⟨by omega,by omega⟩ (by omega) _) rfl rfl ?_
      rintro r h' n' hn ⟨rfl,rfl⟩
      simp -implicitDefEqProofs only [go_sem,V4]
      done)
   | (rw [show wrs i=(D2 (i.a+3) (i.c).toNat, -1) by simp [wrs, *];exact A5T (by omega)]
      refine A0.at [] [] (B3F (i.a+3) (i.c) ⟨by omega,by omega⟩ (by omega) _) rfl rfl ?_
      rintro r h' n' hn ⟨rfl,rfl⟩
      simp -implicitDefEqProofs only [go_sem,V4]
      done)
   | (rw [show wrs i=F0 (i.a) (i.c) by simp [wrs, *]]
      refine A0.at [] [] (B3C (i.a) (i.c) ⟨by omega,by omega⟩ (by omega) _) rfl rfl ?_
      rintro r h' n' hn ⟨rfl,rfl⟩
      simp -implicitDefEqProofs only [go_sem,V4]
      done)
   | (rw [show wrs i=F0 (i.a) (i.b) by simp [wrs, *]]
      refine A0.at [] [] (B3C (i.a) (i.b) ⟨by omega,by omega⟩ (by omega) _) rfl rfl ?_
      rintro r h' n' hn ⟨rfl,rfl⟩
      simp -implicitDefEqProofs only [go_sem,V4]
      done)
end Go.Proofs.YtflobbpcabopjaaGreatDoor
