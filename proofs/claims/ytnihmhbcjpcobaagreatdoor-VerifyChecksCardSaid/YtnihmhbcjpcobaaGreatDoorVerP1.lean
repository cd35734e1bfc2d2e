/-
 Steps of the verifier. No condition.
-/
import Derived.Test.YtnihmhbcjpcobaaGreatDoorVerT
import Derived.Test.YtnihmhbcjpcobaaGreatDoorFnMa
import Derived.Test.YtnihmhbcjpcobaaGreatDoorRwM
import Derived.Test.YtnihmhbcjpcobaaGreatDoorFnMb
set_option linter.unusedVariables false
set_option linter.unusedSimpArgs false
set_option maxRecDepth 100000
set_option maxHeartbeats 0
namespace Go.Proofs.YtnihmhbcjpcobaaGreatDoor
open Go.Abs
attribute [local irreducible] A2 Run
-- EV: Ins.v, Ins.row
attribute [local go_sem] Ins.v Ins.row
-- EV: Ins.v, Ins.row
theorem C2S(b n:Nat):Wk ⟨[(0,.nils)],[],n⟩ ⟨[(0,.sl b n 0 0)],[(b,n,.rows 1 [])],n+1⟩:=
 (Wk.fresh b 1 _ _ _).trans (.turn id ⟨.nils,trivial⟩ (.at 0 rfl rfl (.refl _) trivial))
theorem C2f(l:List Int)(hl:l.length≤100000000)(n:Nat):A2 Tryz.prog 18 [.isl (l.map zrw)] [] n fun r h' n'=> ∃st,r= .sl (18*10000+5) st 0 l.length∧h'= [((18*10000+5),st,.rows 1 (l.map zrw))]:=by
 have hz':=F7 l
 have hlen:(l.map zrw).length=l.length:=List.length_map ..
 generalize l.map zrw=es at*
 refine A2.enterK N4 (Nat.le_of_ble_eq_true rfl) fun Q hQ=>Run.go 100 ?_
 simp -implicitDefEqProofs only [go_sem,A4,hz',hlen]
 refine⟨⟨by omega,?_⟩,fun h0=> ?_⟩
 ·subst hQ;exact .is ⟨_,rfl,rfl⟩
 ·subst h0;rw [←hlen]at hQ;subst hQ
  exact .to ⟨n,rfl,rfl⟩ (C2S _ n)
theorem C6A(N:Nat)(f:Nat→Bool)(hl:N≤100000000)(n:Nat):A2 Tryz.prog 107 [.isl (A6 N f)] [] n fun r h' n'=> ∃st,r= .sl (107*10000+5) st 0 N∧h'= [((107*10000+5),st,.rows 1 (A6 N f))]:=by
 have hz':=E6 N f
 have hlen:=C2 N f
 generalize A6 N f=es at*
 refine A2.enterK W3 (Nat.le_of_ble_eq_true rfl) fun Q hQ=>Run.go 100 ?_
 simp -implicitDefEqProofs only [go_sem,A4,hz',hlen]
 refine⟨⟨by omega,?_⟩,fun h0=> ?_⟩
 ·subst hQ;exact .is ⟨_,rfl,rfl⟩
 ·subst h0;rw [←hlen]at hQ;subst hQ
  exact .to ⟨n,rfl,rfl⟩ (C2S _ n)
theorem A9E(N:Nat)(f:Nat→Bool)(a:Int)(ha:0≤a)(hl:N≤100000000)(ha2:a≤100000000)(st n:Nat):
  A2 Tryz.prog 108 [.sl (107*10000+5) st 0 N,.int .i64 a] [((107*10000+5),st,.rows 1 (A6 N f))] n fun r h' n'=>h'= [((107*10000+5),st,.rows 1 (A6 N fun r=>f r&&decide ((r:Int)<a)))]:=by
 obtain⟨A,rfl⟩: ∃A:Nat,a=A:=⟨a.toNat,by omega⟩
 refine A2.enterK A6W (Nat.le_of_ble_eq_true rfl) fun Q hQ=>Run.go 100 ?_
 simp -implicitDefEqProofs only [go_sem,A4]
 refine Run.rounds (fun(k:Nat)=>⟨[(4,.int .i64 ((A+k:Nat):Int)),(0,.sl (107*10000+5) st 0 N)],[((107*10000+5),st,.rows 1 (A6 N fun r=>f r&&(decide (r<A)||decide (A+k≤r))))],n⟩)
  (fun k=>k≤N-A) (fun k=>N-A-k) 0 ?_ (Nat.zero_le _) ?_
 ·have:(A6 N fun r=>f r&&(decide (r<A)||decide (A≤r)))=A6 N f:=C6 fun r hr=>by
   have:(decide (r<A)||decide (A≤r))=true:=by simp;omega
   rw [this,Bool.and_true]
  simp -implicitDefEqProofs only [go_sem,Nat.add_zero]
  exact this.symm
 intro k hk ih
 refine Run.unf A9J (Run.go 100 ?_)
 have hlen:=C2 N fun r=>f r&&(decide (r<A)||decide (A+k≤r))
 have hz':=E6 N fun r=>f r&&(decide (r<A)||decide (A+k≤r))
 by_cases hlt:A+k<N
 ·have q0:(((A+k:Nat):Int)<(N:Int))=True:=eq_true (by omega)
  have q1:((0:Int)≤((A+k:Nat):Int))=True:=eq_true (by omega)
  have hat:=E5 (f:=fun r=>f r&&(decide (r<A)||decide (A+k≤r))) hlt
  have hset:=K6 (N:=N) (r:=A+k) (b:=false) (f:=fun r=>f r&&(decide (r<A)||decide (A+k≤r))) (fun r=>f r&&(decide (r<A)||decide (A+(k+1)≤r))) (fun x hx=>by
   by_cases c:x=A+k
   ·subst c
    have:(decide (A+k<A)||decide (A+(k+1)≤A+k))=false:=by simp
    rw [if_pos rfl,this,Bool.and_false]
   ·rw [if_neg c]
    congr 1
    have:decide (A+(k+1)≤x)=decide (A+k≤x):=decide_eq_decide.2 (by omega)
    rw [this])
  have hzk:((A+(k+1):Nat):Int)=((A+k:Nat):Int)+1:=by omega
  generalize (A6 N fun r=>f r&&(decide (r<A)||decide (A+k≤r)))=es at*
  simp -implicitDefEqProofs only [go_sem,q0,q1,hlen,hz',hat,hlt,Option.some.injEq,forall_eq']
  refine⟨by omega,ih _ (k+1) (by omega) (by omega) (by simp -implicitDefEqProofs only [go_sem,hzk,hset])⟩
 ·have q0:(((A+k:Nat):Int)<(N:Int))=False:=eq_false (by omega)
  have hfin:(A6 N fun r=>f r&&(decide (r<A)||decide (A+k≤r)))=A6 N fun r=>f r&&decide ((r:Int)<A):=C6 fun r hr=>by
   have e1:decide (A+k≤r)=false:=decide_eq_false (by omega)
   have e2:decide ((r:Int)<(A:Int))=decide (r<A):=decide_eq_decide.2 (by omega)
   rw [e1,e2,Bool.or_false]
  simp -implicitDefEqProofs only [go_sem,q0,hfin]
  subst hQ;exact .is rfl
-- EV: Ins.v, Ins.row
theorem B2x(i:Ins)(x:Int)(X:Blk)(st sti:Nat)(n:Nat):
  A2 Tryz.prog 110 [.int .i64 x,.ptr (90*10000+2) sti 0 0] [((18*10000+5),st,X),((90*10000+2),sti,.rows 5 [i.row])] n fun r h' n'=>r= .bool (decide (i.a≤x))∧h'= [((18*10000+5),st,X),((90*10000+2),sti,.rows 5 [i.row])]:=by
 refine A2.enterK A3z (Nat.le_of_ble_eq_true rfl) fun Q hQ=>Run.go 100 ?_
 simp -implicitDefEqProofs only [go_sem,A4]
 subst hQ
 exact .is ⟨rfl,rfl⟩
theorem C2D(i:Ins)(m:List Int)(hl:m.length≤1000000)(st sti n:Nat):
  A2 Tryz.prog 80 [.sl (18*10000+5) st 0 m.length,.fn 110 [.ptr (90*10000+2) sti 0 0]] [((18*10000+5),st,.rows 1 (m.map zrw)),((90*10000+2),sti,.rows 5 [i.row])] n
   fun r h' n'=>(∃z:Int,r= .int .i64 z∧(z= -1∧(m.any fun x=>decide (i.a≤x))=false∨ ∃k:Nat,z=k∧k<m.length∧((m.take k).any fun x=>decide (i.a≤x))=false∧ ∀x,m[k]? =some x→i.a≤x))∧h'= [((18*10000+5),st,.rows 1 (m.map zrw)),((90*10000+2),sti,.rows 5 [i.row])]:=by
 have la:(m.map zrw).length=m.length:=List.length_map ..
 have za:=F7 m
 have ra: ∀(k:Nat) x,m[k]? =some x→(m.map zrw)[k]? =some [.int .i64 x]:=fun k x hk=>by rw [List.getElem?_map,hk];rfl
 have hg:J8 Tryz.prog 110=true:=by kernel_rfl
 generalize m.map zrw=A at*
 refine A2.enterK I5 (Nat.le_of_ble_eq_true rfl) fun Q hQ=>Run.go 100 ?_
 simp -implicitDefEqProofs only [go_sem,A4,la]
 refine Run.roundsK (fun(x:Nat×Nat)=>⟨[(8,.int .i64 x.1),(7,.int .i64 m.length),(1,.fn 110 [.ptr (90*10000+2) sti 0 0]),(0,.sl (18*10000+5) st 0 m.length)],[((18*10000+5),st,.rows 1 A),((90*10000+2),sti,.rows 5 [i.row])],x.2⟩) (fun x=>x.1≤m.length∧((m.take x.1).any fun x=>decide (i.a≤x))=false) (fun x=>m.length-x.1) (0,n) (B6.wk ⟨F9.1 (by simp -implicitDefEqProofs only [go_sem]),fun _ h=>h,Nat.le_refl _⟩) ⟨Nat.zero_le _,rfl⟩ ?_
 rintro⟨k,n1⟩ ⟨hk,hno⟩ ih
 simp only at hk hno ih⊢
 refine Run.unf N6 (Run.go 100 ?_)
 by_cases hlt:k<m.length
 ·have q0:((k:Int)<(m.length:Int))=True:=eq_true (by omega)
  have q1:((0:Int)≤(k:Int))=True:=eq_true (by omega)
  obtain⟨x,hx⟩: ∃x,m[k]? =some x:=⟨m[k],by simp [hlt]⟩
  have hxr:=ra k x hx
  have hc:=B2x i x (.rows 1 A) st sti
  have hzk:((k+1:Nat):Int)=(k:Int)+1:=by omega
  simp only [Ins.row]at hc
  simp -implicitDefEqProofs only [go_sem,q0,q1,la,za,hxr,hg,hlt,Option.some.injEq,forall_eq']
  refine⟨hg,?_⟩
  refine(hc n1).mono ?_
  rintro r h' n' ⟨rfl,rfl⟩
  by_cases hfx:i.a≤x
  ·simp -implicitDefEqProofs only [go_sem,hfx]
   subst hQ
   exact .is ⟨⟨k,rfl,.inr ⟨k,rfl,hlt,hno,fun y hy=>by rw [hx]at hy;injection hy with hy;subst hy;exact hfx⟩⟩,rfl⟩
  ·simp -implicitDefEqProofs only [go_sem,hfx]
   refine⟨by omega,?_⟩
   exact ih _ (k+1,n') ⟨by simp only;omega,D0 hno hx (by simpa using hfx)⟩ (by simp only;omega) (B6.wk ⟨F9.1 (by simp -implicitDefEqProofs only [go_sem,hzk]),fun _ h=>h,Nat.le_refl _⟩)
 ·have e:k=m.length:=by omega
  subst e
  simp -implicitDefEqProofs only [go_sem,Int.lt_irrefl]
  subst hQ
  exact .is ⟨⟨-1,rfl,.inl ⟨rfl,F6 hno⟩⟩,rfl⟩
theorem B4r{m:List Int}{a:Int}(h:(m.any fun x=>decide (a≤x))=false):(m.filter fun r=>decide (r<a))=m:=by
 refine List.filter_eq_self.2 fun x hx=> ?_
 have:=List.any_eq_false.1 h x hx
 simp only [decide_eq_true_eq]at this⊢
 omega
theorem C3O(T:List Int)(k:Nat)(v:Int):(T.map zrw).set k [.int .i64 v]=(T.set k v).map zrw:=by rw [List.map_set];rfl
theorem C1O{T:List Int}{k:Nat}{v:Int}(h:k<T.length):(T.set k v).take (k+1)=T.take k++ [v]:=by
 rw [List.take_add_one,List.take_set_of_le (Nat.le_refl _),List.getElem?_set]
 simp [h]
theorem B6B(i:Ins)(m:List Int)(hl:m.length≤1000000)(st sti n:Nat):
  A2 Tryz.prog 109 [.sl (18*10000+5) st 0 m.length,.fn 110 [.ptr (90*10000+2) sti 0 0]] [((18*10000+5),st,.rows 1 (m.map zrw)),((90*10000+2),sti,.rows 5 [i.row])] n
   fun r h' n'=>r= .sl (18*10000+5) st 0 (m.filter fun r=>decide (r<i.a)).length∧h'= [((18*10000+5),st,.rows 1 ((m.filter fun r=>decide (r<i.a)).map zrw)),((90*10000+2),sti,.rows 5 [i.row])]:=by
 refine A2.enterK Q4 (Nat.le_of_ble_eq_true rfl) fun Q hQ=>Run.go 100 ?_
 simp -implicitDefEqProofs only [go_sem,A4]
 have hix:=C2D i m hl st sti n
 simp only [Ins.row]at hix
 refine hix.mono ?_
 rintro r h' n1 ⟨⟨z,rfl,hz⟩,rfl⟩
 rcases hz with⟨rfl,hz⟩|⟨k,rfl,hk,hno,hx⟩
 ·simp -implicitDefEqProofs only [go_sem]
  rw [B4r hz]at hQ
  subst hQ
  exact .is ⟨rfl,rfl⟩
 have hk1:((k:Int)= -1)=False:=eq_false (by omega)
 simp -implicitDefEqProofs only [go_sem,hk1]
 refine⟨by omega,?_⟩
 have hp: ∀x,(fun r=>decide (r<i.a)) x= !decide (i.a≤x):=fun x=>by
  by_cases c:i.a≤x
  ·have: ¬x<i.a:=by omega
   simp [c,this]
  ·have:x<i.a:=by omega
   simp [c,this]
 have hfk:(m.take (k+1)).filter (fun r=>decide (r<i.a))=m.take k:=by
  obtain⟨x,hxk⟩: ∃x,m[k]? =some x:=⟨m[k],by simp [hk]⟩
  have: ¬x<i.a:=by have:=hx x hxk;omega
  rw [List.take_add_one,hxk,List.filter_append,B4r hno]
  simp [this]
 have hlk:(m.take k).length=k:=by rw [List.length_take];omega
 refine Run.rounds (fun(x:Nat×List Int×Nat)=>⟨[(6,.int .i64 x.1),(5,.int .i64 ((m.take x.1).filter (fun r=>decide (r<i.a))).length),(1,.fn 110 [.ptr (90*10000+2) sti 0 0]),(0,.sl (18*10000+5) st 0 m.length)],[((18*10000+5),st,.rows 1 (x.2.1.map zrw)),((90*10000+2),sti,.rows 5 [i.row])],x.2.2⟩)
  (fun x=>x.1≤m.length∧x.2.1.length=m.length∧x.2.1.take ((m.take x.1).filter (fun r=>decide (r<i.a))).length=(m.take x.1).filter (fun r=>decide (r<i.a))∧x.2.1.drop x.1=m.drop x.1∧((m.take x.1).filter (fun r=>decide (r<i.a))).length<x.1) (fun x=>m.length-x.1) (k+1,m,n1) ?_ ⟨by simp only;omega,rfl,by simp only;rw [hfk,hlk],rfl,by simp only;rw [hfk,hlk];omega⟩ ?_
 ·have hz1:((k+1:Nat):Int)=(k:Int)+1:=by omega
  simp -implicitDefEqProofs only [go_sem,hz1,hfk,hlk]
 rintro⟨j,T,n2⟩ ⟨hj,hT,ht,hd,hlt0⟩ ih
 simp only at hj hT ht hd hlt0 ih⊢
 refine Run.unf A1i (Run.go 100 ?_)
 have la:(T.map zrw).length=m.length:=by rw [List.length_map,hT]
 have za:=F7 T
 have hg:J8 Tryz.prog 110=true:=by kernel_rfl
 by_cases hlt:j<m.length
 ·have q0:((j:Int)<(m.length:Int))=True:=eq_true (by omega)
  have q1:((0:Int)≤(j:Int))=True:=eq_true (by omega)
  obtain⟨x,hxm⟩: ∃x,m[j]? =some x:=⟨m[j],by simp [hlt]⟩
  have hxT:T[j]? =some x:=by
   have:=congrArg (fun l=>l[0]?) hd
   simp only [List.getElem?_drop,Nat.add_zero]at this
   rw [this,hxm]
  have hxr:(T.map zrw)[j]? =some [.int .i64 x]:=by rw [List.getElem?_map,hxT];rfl
  have hc:=B2x i x (.rows 1 (T.map zrw)) st sti
  have hzj:((j+1:Nat):Int)=(j:Int)+1:=by omega
  have hset:=fun k v=>C3O T k v
  have hst:T.drop (j+1)=m.drop (j+1):=by have:=congrArg (List.drop 1) hd;simpa [List.drop_drop]using this
  have hat: ∀q,q<m.length→ ∃y,T[q]? =some y:=fun q hq=>⟨T[q],by simp [hT,hq]⟩
  have hfs:(m.take (j+1)).filter (fun r=>decide (r<i.a))=if x<i.a then(m.take j).filter (fun r=>decide (r<i.a))++ [x]else(m.take j).filter (fun r=>decide (r<i.a)):=by
   rw [List.take_add_one,hxm,List.filter_append]
   by_cases c:x<i.a<;>simp [c]
  simp only [Ins.row]at hc
  have hgen: ∀q y,T[q]? =some y→(T.map zrw)[q]? =some [V.int .i64 y]:=fun q y hq=>by rw [List.getElem?_map,hq];rfl
  generalize hTA:T.map zrw=TA at*
  generalize hF:(m.take j).filter (fun r=>decide (r<i.a))=F at*
  simp -implicitDefEqProofs only [go_sem,q0,q1,la,za,hxr,hg,hlt,Option.some.injEq,forall_eq']
  refine⟨hg,(hc n2).mono ?_⟩
  rintro r h' n' ⟨rfl,rfl⟩
  by_cases hfx:i.a≤x
  ·have hfs':(m.take (j+1)).filter (fun r=>decide (r<i.a))=F:=by rw [hfs,if_neg (by omega)]
   simp -implicitDefEqProofs only [go_sem,hfx]
   refine⟨by omega,ih _ (j+1,T,n') ⟨by simp only;omega,hT,?_,hst,?_⟩ (by simp only;omega) ?_⟩
   ·simp only;rw [hfs',ht]
   ·simp only;rw [hfs'];omega
   ·simp -implicitDefEqProofs only [go_sem,hfs',hzj,hTA]
  ·have hfs':(m.take (j+1)).filter (fun r=>decide (r<i.a))=F++ [x]:=by rw [hfs,if_pos (by omega)]
   have p0:((0:Int)≤(F.length:Int))=True:=eq_true (by omega)
   have p1:((F.length:Int)<(m.length:Int))=True:=eq_true (by omega)
   have p2:(F.length<m.length)=True:=eq_true (by omega)
   obtain⟨y,hy⟩:=hat F.length (by omega)
   have hyr:=hgen _ _ hy
   have hzl:((F++ [x]).length:Int)=(F.length:Int)+1:=by simp
   simp -implicitDefEqProofs only [go_sem,hfx,p0,p1,p2,la,za,hyr,hset,Option.some.injEq,forall_eq']
   refine⟨by omega,by omega,ih _ (j+1,T.set F.length x,n') ⟨by simp only;omega,by simp only;rw [List.length_set,hT],?_,?_,?_⟩ (by simp only;omega) ?_⟩
   ·simp only;rw [hfs',List.length_append,List.length_singleton,C1O (by omega),ht]
   ·simp only;rw [List.drop_set_of_lt (by omega)];exact hst
   ·simp only;rw [hfs',List.length_append,List.length_singleton];omega
   ·simp -implicitDefEqProofs only [go_sem,hfs',hzj,hzl]
    omega
 ·have e:j=m.length:=by omega
  subst e
  rw [List.take_length]at*
  generalize hF:m.filter (fun r=>decide (r<i.a))=F at*
  have p0:((0:Int)≤(F.length:Int))=True:=eq_true (by omega)
  have e1:((m.length:Int)-(F.length:Int)).toNat=m.length-F.length:=by omega
  have e2:((F.length:Int)-0).toNat=F.length:=by omega
  have e3:(T.map zrw).take F.length=F.map zrw:=by rw [←List.map_take,ht]
  simp -implicitDefEqProofs only [go_sem,Int.lt_irrefl,la,p0]
  rw [e1,e2,e3]
  refine⟨by omega,by omega,by omega,by omega,?_⟩
  subst hQ
  refine .to ⟨rfl,rfl⟩ (.turn id ⟨.refl _,trivial⟩ (.at 0 rfl rfl ?_ (.at 1 rfl rfl (.refl _) trivial)))
  have:F.map zrw=(F.map zrw++List.replicate (m.length-F.length) [V.int .i64 0]++List.drop (F.length+(m.length-F.length)) (T.map zrw)).take F.length:=by
   rw [List.append_assoc,List.take_append_of_le_length (by simp),List.take_of_length_le (by simp)]
  have h2:=Q9.take (sz:=1) (rs:=F.map zrw++List.replicate (m.length-F.length) [V.int .i64 0]++List.drop (F.length+(m.length-F.length)) (T.map zrw)) F.length
  rw [←this]at h2
  exact h2
theorem B7N(a n:Int)(hn:n<0)(h:A0)(m:Nat):A2 Tryz.prog 87 [.int .i64 a,.int .i64 n] h m fun r h' n'=>r= .tup [.nils,.int .i64 a]∧h'=h:=by
 refine A2.enterK A3d (Nat.le_of_ble_eq_true rfl) fun Q hQ=>Run.go 100 ?_
 simp -implicitDefEqProofs only [go_sem,A4,hn]
 subst hQ
 exact .is ⟨rfl,rfl⟩
theorem B5y(b n:Nat)(z:V)(h:A0):Wk ⟨[(0,.tup [.nils,z])],h,n⟩ ⟨[(0,.tup [.sl b n 0 0,z])],[(b,n,.rows 1 [])],n+1⟩:=by
 have w1:Wk ⟨[(0,.tup [.nils,z])],h,n⟩ ⟨[(0,.tup [.nils,z])],[],n⟩:=B6.wk ⟨fun p hp=>by rw [List.mem_singleton.1 hp];rfl,fun e he=>(List.not_mem_nil he).elim,Nat.le_refl _⟩
 have w2:Wk ⟨[(0,.tup [.nils,z])],[],n⟩ ⟨[(0,.tup [.sl b n 0 0,z])],[(b,n,.rows 1 [])],n+1⟩:=
  (Wk.fresh b 1 _ _ _).trans (.turn id ⟨.tup ⟨.nils,.refl _,trivial⟩,trivial⟩ (.at 0 rfl rfl (.refl _) trivial))
 exact w1.trans w2
theorem C3c{i:Ins}(h:0≤(rds i).2∨i.op=22):(i.op=22∧rds i=([], -1))∨((i.op=16∨i.op=17∨i.op=21)∧i.b<0∧rds i=([i.a],i.a+1))∨(i.op=18∧i.b<0∧rds i=([],i.a)):=by
 by_cases c1:i.op=22
 ·left;exact⟨c1,by simp [rds,c1]⟩
 have h:=h.resolve_right c1
 by_cases c2:i.op=16∨i.op=17∨i.op=21
 ·have e:rds i=(i.a::(E7 (i.a+1) i.b).1,(E7 (i.a+1) i.b).2):=by rcases c2 with c|c|c<;>simp [rds,c]
  rw [e]at h⊢
  simp only [A5i]at h
  by_cases c3:i.b<0
  ·right;left;exact⟨c2,c3,by rw [A5g c3]⟩
  ·rw [if_neg c3]at h;omega
 by_cases c3:i.op=18
 ·have e:rds i=E7 i.a i.b:=by simp [rds,c3]
  rw [e,A5i]at h
  by_cases c4:i.b<0
  ·right;right;exact⟨c3,c4,by rw [e,A5g c4]⟩
  ·rw [if_neg c4]at h;omega
 exfalso
 revert h
 unfold rds
 repeat' split
 all_goals first
  |(simp only [A5i];split<;>omega)
  |(intro h;simp at h;done)
  |contradiction
theorem C1d(i:Ins)(h:0≤(reads i).2∨i.op=22)(n:Nat):A2 Tryz.prog 56 [i.v] [] n fun r h' n'=> ∃st,r= .tup [.sl (56*10000+60) st 0 (reads i).1.length,.int .i64 (reads i).2]∧h'= [((56*10000+60),st,.rows 1 ((reads i).1.map zrw))]:=by
 refine A2.enterK A2j (Nat.le_of_ble_eq_true rfl) fun Q hQ=>Run.go 100 ?_
 simp -implicitDefEqProofs only [go_sem,A4]
 refine A2.pureF (A5D i) (by simp -implicitDefEqProofs only [go_sem]) ?_
 by_cases hc:chk i=0
 rotate_left
 ·have e:reads i=([], -1):=if_neg hc
  rw [e]at hQ
  simp -implicitDefEqProofs only [go_sem,hc]
  subst hQ
  exact .to ⟨_,rfl,rfl⟩ (B5y _ _ _ _)
 have e:reads i=rds i:=if_pos hc
 rw [e]at h hQ
 have h0:=A2f hc
 rw [hc]
 rcases C3c h with⟨h1,h2⟩|⟨h1,h3,h2⟩|⟨h1,h3,h2⟩
 ·rw [h2]at hQ
  simp -implicitDefEqProofs only [go_sem,h1]
  subst hQ
  exact .to ⟨_,rfl,rfl⟩ (B5y _ _ _ _)
 ·rw [h2]at hQ
  rcases h1 with h1|h1|h1<;>
  ·simp -implicitDefEqProofs only [go_sem,h1]
   refine⟨by omega,(B7N _ _ h3 _ _).mono ?_⟩
   rintro r h' n' ⟨rfl,rfl⟩
   simp -implicitDefEqProofs only [go_sem]
   subst hQ
   refine .to ⟨_,rfl,rfl⟩ (.turn (fun _=>(56*10000+60)) ⟨.refl _,trivial⟩ (.at 0 rfl rfl (.refl _) trivial))
 ·rw [h2]at hQ
  simp -implicitDefEqProofs only [go_sem,h1]
  refine(B7N _ _ h3 _ _).mono ?_
  rintro r h' n' ⟨rfl,rfl⟩
  simp -implicitDefEqProofs only [go_sem]
  subst hQ
  exact .to ⟨_,rfl,rfl⟩ (B5y _ _ _ _)
-- EV: Ins.v, Ins.row
structure Fit(N:Nat)(i:Ins):Prop where
 ok:chk i=0
 ws: ∀r∈(B7 i).1,0≤r∧r<N
 wo:(B7 i).2≤N
def A4r:AC→AC
 | .seq a _=>a
 |c=>c
def C5:AC→AC
 | .seq _ b=>b
 |c=>c
@[reducible] noncomputable def C2q (Q:Res):Cf:=⟨Tryz.prog,75,[.c 4 3 true],A3E Q,none⟩
def A9W(i:Ins)(N:Nat)(f:Nat→Bool)(m:List Int)(a2 a4 a5 st st2 n:Nat):St:=
 ⟨[(5,.ptr (90*10000+5) a5 0 0),(4,.ptr (90*10000+4) a4 0 0),(2,.ptr (90*10000+2) a2 0 0)],
  [((90*10000+5),a5,.rows 3 [[.sl (107*10000+5) st 0 N,.int .i64 (-1),.sl (18*10000+5) st2 0 m.length]]),((18*10000+5),st2,.rows 1 (m.map zrw)),((107*10000+5),st,.rows 1 (A6 N f)),((90*10000+4),a4,.rows 3 [[.nils,.int .i64 0,.nils]]),((90*10000+2),a2,.rows 5 [i.row])],n⟩
theorem B6E(N:Nat)(i:Ins)(f:Nat→Bool)(o:Int)(m:List Int)(hN:N≤100000)(hm:m.length≤1000000)(n:Nat)(REST:AC)(Q:Res)
  (key: ∀a2 a4 a5 st st2 n,Run (C2q Q) [.code REST] (A9W i N f m a2 a4 a5 st st2 n)):
  Run (C2q Q) [.code (.seq (A4r K9) (.seq (A4r (C5 K9)) REST))] ⟨A4 0 [i.v,.agg [.isl (A6 N f),.int .i64 o,.isl (m.map zrw)]],[],n⟩:=by
 have hsb:=K7 H0 N f
 have hsz:=M5 H0 m
 have cB:=fun n=>C6A N f (by omega) n
 have cI:=fun n=>C2f m (by omega) n
 refine Run.go 4 ?_
 simp -implicitDefEqProofs only [go_sem,A4,A4r,C5]
 repeat' refine And.intro ?_ ?_
 all_goals
  refine A2.at [] [0,1,2,3] (cB _) rfl rfl ?_
  rintro r h' n1 hn1 ⟨st,rfl,rfl⟩
  simp -implicitDefEqProofs only [go_sem]
  refine A2.at [] [0,1,2,3,4] (cI _) rfl rfl ?_
  rintro r h' n2 hn2 ⟨st2,rfl,rfl⟩
  simp -implicitDefEqProofs only [go_sem]
 all_goals first
  |(refine Run.wk (B6.wk ?_) (key n (n+1+1) n2 st st2 (n2+1));simp -implicitDefEqProofs only [go_sem,A9W];done)
  |(refine Run.wk (B6.wk ?_) (key n (n+1+1) n1 st st2 n2);simp -implicitDefEqProofs only [go_sem,A9W];done)
  |(refine Run.wk (B6.wk ?_) (key n (n+1+1) (n+1+1+1) st st2 n2);simp -implicitDefEqProofs only [go_sem,A9W];done)
theorem B8n(N:Nat)(i:Ins)(f:Nat→Bool)(m:List Int)(hi:Fit N i)(hN:N≤100000)(hm:m.length≤1000000)(REST:AC)(Q:Res)
  (key: ∀a2 a4 a5 st st2 n,Run (C2q Q) [.code REST] (A9W i N (A8s i f) (F1 i m) a2 a4 a5 st st2 n)) (a2 a4 a5 st st2 n:Nat):
  Run (C2q Q) [.code (.seq (A4r (C5 (C5 K9))) REST)] (A9W i N f m a2 a4 a5 st st2 n):=by
 obtain⟨b1,b2,b3,b4,b5,b6,b7,b8,b9,ba⟩:=A2f hi.ok
 unfold A9W
 have hI:i.row= [.int .i64 i.op,.int .i64 i.a,.int .i64 i.b,.int .i64 i.c,.int .i64 i.d]:=rfl
 have la:(m.map zrw).length=m.length:=List.length_map ..
 have za:=F7 m
 generalize hM:m.map zrw=M at*
 by_cases c1:i.op=16
 ·have e1:A8s i f=fun r=>f r&&decide ((r:Int)<i.a):=if_pos c1
  have e2:F1 i m=m:=by simp [F1,c1]
  rw [e1,e2]at key
  refine Run.go 9 ?_
  simp -implicitDefEqProofs only [go_sem,A4r,C5,c1]
  refine A2.at [2] [0,1,3,4] (A9E N f i.a (by omega) (by omega) (by omega) st n) rfl rfl ?_
  rintro r h' n' hn rfl
  simp -implicitDefEqProofs only [go_sem]
  refine Run.wk (B6.wk ?_) (key a2 a4 a5 st st2 n')
  simp -implicitDefEqProofs only [go_sem,A9W,hM,c1]
 by_cases c2:i.op=25
 ·have e1:A8s i f=fun r=>f r&&decide ((r:Int)<i.a+3):=by rw [A8s,if_neg c1,if_pos c2]
  have e2:F1 i m=m:=by simp [F1,c2]
  rw [e1,e2]at key
  refine Run.go 12 ?_
  simp -implicitDefEqProofs only [go_sem,A4r,C5,c2]
  refine⟨by omega,?_⟩
  refine A2.at [2] [0,1,3,4] (A9E N f (i.a+3) (by omega) (by omega) (by omega) st n) rfl rfl ?_
  rintro r h' n' hn rfl
  simp -implicitDefEqProofs only [go_sem]
  refine Run.wk (B6.wk ?_) (key a2 a4 a5 st st2 n')
  simp -implicitDefEqProofs only [go_sem,A9W,hM,c2]
 have e1:A8s i f=f:=by rw [A8s,if_neg c1,if_neg c2]
 rw [e1]at key
 by_cases c3:i.op=28
 ·have e2:F1 i m=m++ [i.a]:=if_pos c3
  rw [e2]at key
  refine Run.go 15 ?_
  simp -implicitDefEqProofs only [go_sem,A4r,C5,c3,la,za]
  have g1:(m++ [i.a]).map zrw=M++ [[.int .i64 i.a]]:=by rw [List.map_append,hM];rfl
  have g2:(m++ [i.a]).length=m.length+1:=by simp
  have g3:M.take m.length=M:=List.take_of_length_le (by omega)
  refine⟨by omega,Run.wk (B6.wk ?_) (key a2 a4 a5 st n (n+1))⟩
  simp -implicitDefEqProofs only [go_sem,A9W,g1,g2,g3,c3]
 by_cases c4:i.op=27
 ·have e2:F1 i m=m.filter fun r=>decide (r<i.a):=by rw [F1,if_neg c3,if_pos c4]
  rw [e2]at key
  refine Run.go 18 ?_
  simp -implicitDefEqProofs only [go_sem,A4r,C5,c4,la,za]
  have hd:=B6B i m hm st2 a2 n
  rw [hM]at hd
  simp only [hI,c4]at hd
  refine A2.at [1,4] [0,2,3] hd rfl rfl ?_
  rintro r h' n' hn ⟨rfl,rfl⟩
  simp -implicitDefEqProofs only [go_sem]
  refine Run.wk (B6.wk ?_) (key a2 a4 a5 st st2 n')
  simp -implicitDefEqProofs only [go_sem,A9W,c4]
 have e2:F1 i m=m:=by rw [F1,if_neg c3,if_neg c4]
 rw [e2]at key
 refine Run.go 18 ?_
 simp -implicitDefEqProofs only [go_sem,A4r,C5,c1,c2,c3,c4]
 refine Run.wk (B6.wk ?_) (key a2 a4 a5 st st2 n)
 simp -implicitDefEqProofs only [go_sem,A9W,hM]
theorem B6F(N:Nat)(i:Ins)(f:Nat→Bool)(m:List Int)(hi:Fit N i)(hN:N≤100000)(Q:Res)
  (hQ:Q=fun r h' n'=> ∃st st2,
    r= .agg [.sl (107*10000+5) st 0 N,.int .i64 (B7 i).2,.sl (18*10000+5) st2 0 m.length]∧
    h'= [((107*10000+5),st,.rows 1 (A6 N (A9a N (B7 i) f))),((18*10000+5),st2,.rows 1 (m.map zrw))]) (a2 a4 a5 st st2 n:Nat):
  Run (C2q Q) [.code (C5 (C5 (C5 K9)))] (A9W i N f m a2 a4 a5 st st2 n):=by
 have hw:=B2b i
 obtain⟨hok,hws,hwo⟩:=hi
 have hwi:=A2R i
 have hal:(B7 i).1.length≤1000000:=A6b i
 unfold A9W
 generalize m.map zrw=M at*
 generalize B7 i=w at*
 obtain⟨ws,wo⟩:=w
 simp only at hws hwo hwi hal hQ
 have lw:(ws.map zrw).length=ws.length:=List.length_map ..
 have zw:=F7 ws
 have aw: ∀(k:Nat) x,ws[k]? =some x→(ws.map zrw)[k]? =some [.int .i64 x]:=fun k x hk=>W8 hk
 generalize ws.map zrw=WS at*
 simp only [Ins.v,Ins.row]at hw
 refine Run.go 100 ?_
 simp -implicitDefEqProofs only [go_sem,C5]
 refine A2.pureF hw (by simp -implicitDefEqProofs only [go_sem]) ?_
 simp -implicitDefEqProofs only [go_sem,lw]
 refine Run.keep [57,56,55,7,5,4,2] ?_
 refine Run.rounds (fun(k:Nat)=>⟨[(57,.int .i64 k),(56,.int .i64 ws.length),(55,.isl WS),(7,.int .i64 wo),(5,.ptr (90*10000+5) a5 0 0),(4,.ptr (90*10000+4) a4 0 0),(2,.ptr (90*10000+2) a2 0 0)],
   [((90*10000+5),a5,.rows 3 [[.sl (107*10000+5) st 0 N,.int .i64 (-1),.sl (18*10000+5) st2 0 m.length]]),((18*10000+5),st2,.rows 1 M),((107*10000+5),st,.rows 1 (A6 N fun r=>f r||(ws.take k).contains (r:Int))),((90*10000+4),a4,.rows 3 [[.nils,.int .i64 0,.nils]]),((90*10000+2),a2,.rows 5 [i.row])],n⟩)
  (fun k=>k≤ws.length) (fun k=>ws.length-k) 0 ?_ (Nat.zero_le _) ?_
 ·simp -implicitDefEqProofs only [go_sem]
  exact C6 fun r hr=>by simp
 intro k hk ih
 refine Run.unf A8u (Run.go 100 ?_)
 have hlen:=C2 N fun r=>f r||(ws.take k).contains (r:Int)
 have hz':=E6 N fun r=>f r||(ws.take k).contains (r:Int)
 by_cases hlt:k<ws.length
 ·have q0:((k:Int)<(ws.length:Int))=True:=eq_true (by omega)
  have q1:((0:Int)≤(k:Int))=True:=eq_true (by omega)
  obtain⟨x,hx⟩: ∃x,ws[k]? =some x:=⟨ws[k],by simp [hlt]⟩
  have hxr:=aw k x hx
  have hxb:=hws x (List.mem_of_getElem? hx)
  obtain⟨X,rfl⟩: ∃X:Nat,x=X:=⟨x.toNat,by omega⟩
  have hXN:X<N:=by omega
  have q2:((0:Int)≤(X:Int))=True:=eq_true (by omega)
  have q3:((X:Int)<(N:Int))=True:=eq_true (by omega)
  have hat:=E5 (f:=fun r=>f r||(ws.take k).contains (r:Int)) hXN
  have hset:=K6 (N:=N) (r:=X) (b:=true) (f:=fun r=>f r||(ws.take k).contains (r:Int)) (fun r=>f r||(ws.take (k+1)).contains (r:Int)) (fun y hy=>by
   rw [List.take_add_one,hx]
   by_cases c:y=X
   ·subst c;simp
   ·have: ¬(y:Int)=(X:Int):=by omega
    rw [if_neg c];simp [this])
  have hzk:((k+1:Nat):Int)=(k:Int)+1:=by omega
  generalize (A6 N fun r=>f r||(ws.take k).contains (r:Int))=es at*
  simp -implicitDefEqProofs only [go_sem,q0,q1,q2,q3,lw,zw,hxr,hlen,hz',hat,hlt,hXN,Option.some.injEq,forall_eq']
  exact⟨by omega,ih _ (k+1) (by omega) (by omega) (by simp -implicitDefEqProofs only [go_sem,hzk,hset])⟩
 ·have e:k=ws.length:=by omega
  subst e
  rw [List.take_length]at*
  by_cases c:0≤wo
  ·have hfin:(A6 N fun r=>(f r||ws.contains (r:Int))&&decide ((r:Int)<wo))=A6 N (A9a N (ws,wo) f):=C6 fun r hr=>by
    have e1:decide (wo<0)=false:=decide_eq_false (by omega)
    simp [A9a,hr,e1]
   have hu:=A9E N (fun r=>f r||ws.contains (r:Int)) wo c (by omega) (by omega) st n
   rw [hfin]at hu
   generalize (A6 N fun r=>f r||ws.contains (r:Int))=es at*
   simp -implicitDefEqProofs only [go_sem,Int.lt_irrefl,c,ge_iff_le]
   refine A2.at [2] [0,1,3,4] hu rfl rfl ?_
   rintro r h' n' hn rfl
   simp -implicitDefEqProofs only [go_sem]
   subst hQ
   exact .to ⟨st,st2,rfl,rfl⟩ (.turn id ⟨.refl _,trivial⟩ (.at 2 rfl rfl (.refl _) (.at 3 rfl rfl (.refl _) trivial)))
  ·have hfin:(A6 N fun r=>f r||ws.contains (r:Int))=A6 N (A9a N (ws,wo) f):=C6 fun r hr=>by
    have e1:decide (wo<0)=true:=decide_eq_true (by omega)
    simp [A9a,hr,e1]
   rw [hfin]
   have e:wo= -1:=by omega
   generalize A6 N (A9a N (ws,wo) f)=es at*
   subst e
   simp -implicitDefEqProofs only [go_sem,Int.lt_irrefl,c,ge_iff_le]
   subst hQ
   exact .to ⟨st,st2,rfl,rfl⟩ (.turn id ⟨.refl _,trivial⟩ (.at 3 rfl rfl (.refl _) (.at 2 rfl rfl (.refl _) trivial)))
theorem B6D(N:Nat)(i:Ins)(s:Stt)(hN:N≤100000)(hi:Fit N i)(hm:s.marks.length≤1000000)(n:Nat):
  A2 Tryz.prog 90 [i.v,.agg [.isl (A6 N s.set),.int .i64 s.opn,.isl (s.marks.map zrw)]] [] n fun r h' n'=> ∃st st2,
   r= .agg [.sl (107*10000+5) st 0 N,.int .i64 (B7 i).2,.sl (18*10000+5) st2 0 (F1 i s.marks).length]∧
   h'= [((107*10000+5),st,.rows 1 (A6 N (A5H N i s).set)),((18*10000+5),st2,.rows 1 ((F1 i s.marks).map zrw))]:=by
 refine A2.enterK A5o (Nat.le_of_ble_eq_true rfl) fun Q hQ=> ?_
 refine B6E N i s.set s.opn s.marks hN hm n _ Q fun a2 a4 a5 st st2 n=> ?_
 exact B8n N i s.set s.marks hi hN hm _ Q (B6F N i (A8s i s.set) (F1 i s.marks) hi hN Q hQ) a2 a4 a5 st st2 n
end Go.Proofs.YtnihmhbcjpcobaaGreatDoor
