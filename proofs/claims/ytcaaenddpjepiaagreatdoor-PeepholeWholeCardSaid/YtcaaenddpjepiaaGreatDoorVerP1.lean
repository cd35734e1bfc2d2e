/-
 Steps of the verifier. No condition.
-/
import Derived.Test.YtcaaenddpjepiaaGreatDoorRvA
import Derived.Test.YtcaaenddpjepiaaGreatDoorFnMa
import Derived.Test.YtcaaenddpjepiaaGreatDoorRwM
import Derived.Test.YtcaaenddpjepiaaGreatDoorFnMb
set_option linter.unusedVariables false
set_option linter.unusedSimpArgs false
set_option maxRecDepth 100000
set_option maxHeartbeats 0
namespace Go.Proofs.YtcaaenddpjepiaaGreatDoor
open Go.Abs
attribute [local irreducible] A0 Run
-- EV: Ins.v, Ins.row
attribute [local go_sem] Ins.v Ins.row
-- EV: Ins.v, Ins.row
theorem C9g(b n:Nat):Wk ⟨[(0,.nils)],[],n⟩ ⟨[(0,.sl b n 0 0)],[(b,n,.rows 1 [])],n+1⟩:=
 (Wk.fresh b 1 _ _ _).trans (.turn id ⟨.nils,trivial⟩ (.at 0 rfl rfl (.refl _) trivial))
theorem C8a(l:List Int)(f:l.length≤100000000)(n:Nat):A0 Tryz.prog 89 [.isl (l.map zrw)] [] n fun r c g=> ∃s,r= .sl (89*10000+5) s 0 l.length∧c= [((89*10000+5),s,.rows 1 (l.map zrw))]:=by
 have a:=H1 l
 have h:(l.map zrw).length=l.length:=List.length_map ..
 generalize l.map zrw=e at*
 refine A0.enterK Y0 Jk fun Q b=>Run.go 100 ?_
 exact XG
theorem D2Z(N:Nat)(f:Nat→Bool)(g:N≤100000000)(n:Nat):A0 Tryz.prog 190 [.isl (B0 N f)] [] n fun r c i=> ∃s,r= .sl (190*10000+5) s 0 N∧c= [((190*10000+5),s,.rows 1 (B0 N f))]:=by
 have a:=H8 N f
 have h:=D6 N f
 generalize B0 N f=e at*
 refine A0.enterK A0M Jk fun Q b=>Run.go 100 ?_
 exact XG
theorem B2c(N:Nat)(f:Nat→Bool)(a:Int)(E:0≤a)(y:N≤100000000)(s:a≤100000000)(st n:Nat):
  A0 Tryz.prog 191 [.sl (190*10000+5) st 0 N,.int .i64 a] [((190*10000+5),st,.rows 1 (B0 N f))] n fun r u z=>u= [((190*10000+5),st,.rows 1 (B0 N fun r=>f r&&decide ((r:Int)<a)))]:=by
 obtain⟨A,rfl⟩: ∃A:Nat,a=A:=⟨a.toNat,by omega⟩
 refine A0.enterK A9E Jk fun Q t=>Run.go 100 ?_
 refine QM ?_
 refine Run.rounds (fun(k:Nat)=>⟨[(4,.int .i64 ((A+k:Nat):Int)),(0,.sl (190*10000+5) st 0 N)],[((190*10000+5),st,.rows 1 (B0 N fun r=>f r&&(decide (r<A)||decide (A+k≤r))))],n⟩)
  (fun k=>k≤N-A) (fun k=>N-A-k) 0 ?_ (Nat.zero_le _) ?_
 ·have:(B0 N fun r=>f r&&(decide (r<A)||decide (A≤r)))=B0 N f:=E3 fun r p=>by
   exact Kb
  simp -implicitDefEqProofs only [go_sem,Nat.add_zero]
  exact this.symm
 intro k B w
 refine Run.unf A5H (Run.go 100 ?_)
 have g:=D6 N fun r=>f r&&(decide (r<A)||decide (A+k≤r))
 have i:=H8 N fun r=>f r&&(decide (r<A)||decide (A+k≤r))
 by_cases e:A+k<N
 ·have q:(((A+k:Nat):Int)<(N:Int))=True:=Ji
  have o:((0:Int)≤((A+k:Nat):Int))=True:=Ji
  have j:=H7 (f:=fun r=>f r&&(decide (r<A)||decide (A+k≤r))) e
  have h:=U0 (N:=N) (r:=A+k) (b:=false) (f:=fun r=>f r&&(decide (r<A)||decide (A+k≤r))) (fun r=>f r&&(decide (r<A)||decide (A+(k+1)≤r))) (fun x C=>by
   by_cases c:x=A+k
   ·exact Yp
   ·rw [if_neg c]
    congr 1
    have:decide (A+(k+1)≤x)=decide (A+k≤x):=decide_eq_decide.2 zd
    rw [this])
  have l:((A+(k+1):Nat):Int)=((A+k:Nat):Int)+1:=by omega
  generalize (B0 N fun r=>f r&&(decide (r<A)||decide (A+k≤r)))=D at*
  simp -implicitDefEqProofs only [go_sem,q,o,g,i,j,e,Option.some.injEq,forall_eq']
  refine⟨by omega,w _ (k+1) zd zd (by simp -implicitDefEqProofs only [go_sem,l,h])⟩
 ·have q:(((A+k:Nat):Int)<(N:Int))=False:=Jj
  have d:(B0 N fun r=>f r&&(decide (r<A)||decide (A+k≤r)))=B0 N fun r=>f r&&decide ((r:Int)<A):=E3 fun r p=>by
   have v:decide (A+k≤r)=false:=decide_eq_false zd
   have m:decide ((r:Int)<(A:Int))=decide (r<A):=decide_eq_decide.2 zd
   rw [v,m,Bool.or_false]
  simp -implicitDefEqProofs only [go_sem,q,d]
  subst t;exact .is rfl
-- EV: Ins.v, Ins.row
theorem B5G(i:Ins)(x:Int)(X:Blk)(st s:Nat)(n:Nat):
  A0 Tryz.prog 193 [.int .i64 x,.ptr (177*10000+2) s 0 0] [((89*10000+5),st,X),((177*10000+2),s,.rows 5 [i.row])] n fun r h b=>r= .bool (decide (i.a≤x))∧h= [((89*10000+5),st,X),((177*10000+2),s,.rows 5 [i.row])]:=by
 refine A0.enterK A5E Jk fun Q a=>Run.go 100 ?_
 refine QM ?_
 subst a
 exact XR
theorem C8L(i:Ins)(m:List Int)(G:m.length≤1000000)(st s n:Nat):
  A0 Tryz.prog 165 [.sl (89*10000+5) st 0 m.length,.fn 193 [.ptr (177*10000+2) s 0 0]] [((89*10000+5),st,.rows 1 (m.map zrw)),((177*10000+2),s,.rows 5 [i.row])] n
   fun r v o=>(∃z:Int,r= .int .i64 z∧(z= -1∧(m.any fun x=>decide (i.a≤x))=false∨ ∃k:Nat,z=k∧k<m.length∧((m.take k).any fun x=>decide (i.a≤x))=false∧ ∀x,m[k]? =some x→i.a≤x))∧v= [((89*10000+5),st,.rows 1 (m.map zrw)),((177*10000+2),s,.rows 5 [i.row])]:=by
 have t:(m.map zrw).length=m.length:=List.length_map ..
 have D:=H1 m
 have C: ∀(k:Nat) x,m[k]? =some x→(m.map zrw)[k]? =some [.int .i64 x]:=fun k x f=>by rw [List.getElem?_map,f];rfl
 have u:K8 Tryz.prog 193=true:=by kernel_rfl
 generalize m.map zrw=A at*
 refine A0.enterK P7 Jk fun Q p=>Run.go 100 ?_
 simp -implicitDefEqProofs only [go_sem,A4,t]
 refine Run.roundsK (fun(x:Nat×Nat)=>⟨[(8,.int .i64 x.1),(7,.int .i64 m.length),(1,.fn 193 [.ptr (177*10000+2) s 0 0]),(0,.sl (89*10000+5) st 0 m.length)],[((89*10000+5),st,.rows 1 A),((177*10000+2),s,.rows 5 [i.row])],x.2⟩) (fun x=>x.1≤m.length∧((m.take x.1).any fun x=>decide (i.a≤x))=false) (fun x=>m.length-x.1) (0,n) (C1.wk ⟨F3.1 ze,fun _ h=>h,Nat.le_refl _⟩) ⟨Nat.zero_le _,rfl⟩ ?_
 rintro⟨k,F⟩ ⟨f,b⟩ w
 simp only at f b w⊢
 refine Run.unf L9 (Run.go 100 ?_)
 by_cases c:k<m.length
 ·have E:((k:Int)<(m.length:Int))=True:=Ji
  have B:((0:Int)≤(k:Int))=True:=Ji
  obtain⟨x,j⟩: ∃x,m[k]? =some x:=⟨m[k],by simp [c]⟩
  have l:=C k x j
  have q:=B5G i x (.rows 1 A) st s
  have g:((k+1:Nat):Int)=(k:Int)+1:=by omega
  simp only [Ins.row]at q
  simp -implicitDefEqProofs only [go_sem,E,B,t,D,l,u,c,Option.some.injEq,forall_eq']
  refine⟨u,?_⟩
  refine(q F).mono ?_
  rintro r v o ⟨rfl,rfl⟩
  by_cases a:i.a≤x
  ·refine QP ?_
   subst p
   exact .is ⟨⟨k,rfl,.inr ⟨k,rfl,c,b,fun y d=>by rw [j]at d;injection d with d;subst d;exact a⟩⟩,rfl⟩
  ·refine QP ?_
   refine⟨by omega,?_⟩
   exact w _ (k+1,o) ⟨by simp only;omega,E8 b j zA⟩ zg (C1.wk ⟨F3.1 zn,fun _ h=>h,Nat.le_refl _⟩)
 ·have e:k=m.length:=by omega
  subst e
  refine QN ?_
  subst p
  exact .is ⟨⟨-1,rfl,.inl ⟨rfl,I4 b⟩⟩,rfl⟩
theorem B8k{m:List Int}{a:Int}(h:(m.any fun x=>decide (a≤x))=false):(m.filter fun r=>decide (r<a))=m:=by
 refine List.filter_eq_self.2 fun x b=> ?_
 have:=List.any_eq_false.1 h x b
 simp only [decide_eq_true_eq]at this⊢
 omega
theorem D0k(T:List Int)(k:Nat)(v:Int):(T.map zrw).set k [.int .i64 v]=(T.set k v).map zrw:=by rw [List.map_set];rfl
theorem C7G{T:List Int}{k:Nat}{v:Int}(h:k<T.length):(T.set k v).take (k+1)=T.take k++ [v]:=by
 rw [List.take_add_one,List.take_set_of_le (Nat.le_refl _),List.getElem?_set]
 simp [h]
theorem C0U(i:Ins)(m:List Int)(hl:m.length≤1000000)(st s n:Nat):
  A0 Tryz.prog 192 [.sl (89*10000+5) st 0 m.length,.fn 193 [.ptr (177*10000+2) s 0 0]] [((89*10000+5),st,.rows 1 (m.map zrw)),((177*10000+2),s,.rows 5 [i.row])] n
   fun r Z K=>r= .sl (89*10000+5) st 0 (m.filter fun r=>decide (r<i.a)).length∧Z= [((89*10000+5),st,.rows 1 ((m.filter fun r=>decide (r<i.a)).map zrw)),((177*10000+2),s,.rows 5 [i.row])]:=by
 refine A0.enterK i7 Jk fun Q P=>Run.go 100 ?_
 refine QM ?_
 have g:=C8L i m hl st s n
 simp only [Ins.row]at g
 refine g.mono ?_
 rintro r Z n1 ⟨⟨z,rfl,U⟩,rfl⟩
 rcases U with⟨rfl,U⟩|⟨k,rfl,hk,S,hx⟩
 ·refine QL ?_
  rw [B8k U]at P
  subst P
  exact XR
 have G:((k:Int)= -1)=False:=Jj
 refine QT ?_
 refine⟨by omega,?_⟩
 have hp: ∀x,(fun r=>decide (r<i.a)) x= !decide (i.a≤x):=fun x=>by
  by_cases c:i.a≤x
  ·have: ¬x<i.a:=by omega
   simp [c,this]
  ·have:x<i.a:=by omega
   simp [c,this]
 have a:(m.take (k+1)).filter (fun r=>decide (r<i.a))=m.take k:=by
  obtain⟨x,A⟩: ∃x,m[k]? =some x:=⟨m[k],by simp [hk]⟩
  have: ¬x<i.a:=by have:=hx x A;omega
  rw [List.take_add_one,A,List.filter_append,B8k S]
  simp [this]
 have b:(m.take k).length=k:=by rw [List.length_take];omega
 refine Run.rounds (fun(x:Nat×List Int×Nat)=>⟨[(6,.int .i64 x.1),(5,.int .i64 ((m.take x.1).filter (fun r=>decide (r<i.a))).length),(1,.fn 193 [.ptr (177*10000+2) s 0 0]),(0,.sl (89*10000+5) st 0 m.length)],[((89*10000+5),st,.rows 1 (x.2.1.map zrw)),((177*10000+2),s,.rows 5 [i.row])],x.2.2⟩)
  (fun x=>x.1≤m.length∧x.2.1.length=m.length∧x.2.1.take ((m.take x.1).filter (fun r=>decide (r<i.a))).length=(m.take x.1).filter (fun r=>decide (r<i.a))∧x.2.1.drop x.1=m.drop x.1∧((m.take x.1).filter (fun r=>decide (r<i.a))).length<x.1) (fun x=>m.length-x.1) (k+1,m,n1) ?_ ⟨by simp only;omega,rfl,by simp only;rw [a,b],rfl,by simp only;rw [a,b];omega⟩ ?_
 ·have H:((k+1:Nat):Int)=(k:Int)+1:=by omega
  simp -implicitDefEqProofs only [go_sem,H,a,b]
 rintro⟨j,T,n2⟩ ⟨hj,D,E,L,u⟩ ih
 simp only at hj D E L u ih⊢
 refine Run.unf W2 (Run.go 100 ?_)
 have W:(T.map zrw).length=m.length:=by rw [List.length_map,D]
 have za:=H1 T
 have hg:K8 Tryz.prog 193=true:=by kernel_rfl
 by_cases C:j<m.length
 ·have q0:((j:Int)<(m.length:Int))=True:=Ji
  have q1:((0:Int)≤(j:Int))=True:=Ji
  obtain⟨x,t⟩: ∃x,m[j]? =some x:=⟨m[j],by simp [C]⟩
  have X:T[j]? =some x:=by
   have:=congrArg (fun l=>l[0]?) L
   simp only [List.getElem?_drop,Nat.add_zero]at this
   rw [this,t]
  have Y:(T.map zrw)[j]? =some [.int .i64 x]:=by rw [List.getElem?_map,X];rfl
  have hc:=B5G i x (.rows 1 (T.map zrw)) st s
  have f:((j+1:Nat):Int)=(j:Int)+1:=by omega
  have o:=fun k v=>D0k T k v
  have p:T.drop (j+1)=m.drop (j+1):=by have:=congrArg (List.drop 1) L;simpa [List.drop_drop]using this
  have M: ∀q,q<m.length→ ∃y,T[q]? =some y:=fun q O=>⟨T[q],by simp [D,O]⟩
  have w:(m.take (j+1)).filter (fun r=>decide (r<i.a))=if x<i.a then(m.take j).filter (fun r=>decide (r<i.a))++ [x]else(m.take j).filter (fun r=>decide (r<i.a)):=by
   rw [List.take_add_one,t,List.filter_append]
   by_cases c:x<i.a<;>simp [c]
  simp only [Ins.row]at hc
  have d: ∀q y,T[q]? =some y→(T.map zrw)[q]? =some [V.int .i64 y]:=fun q y O=>by rw [List.getElem?_map,O];rfl
  generalize J:T.map zrw=TA at*
  generalize hF:(m.take j).filter (fun r=>decide (r<i.a))=F at*
  simp -implicitDefEqProofs only [go_sem,q0,q1,W,za,Y,hg,C,Option.some.injEq,forall_eq']
  refine⟨hg,(hc n2).mono ?_⟩
  rintro r Z K ⟨rfl,rfl⟩
  by_cases B:i.a≤x
  ·have h:(m.take (j+1)).filter (fun r=>decide (r<i.a))=F:=by rw [w,if_neg zd]
   simp -implicitDefEqProofs only [go_sem,B]
   refine⟨by omega,ih _ (j+1,T,K) ⟨by simp only;omega,D,?_,p,?_⟩ zg ?_⟩
   ·simp only;rw [h,E]
   ·simp only;rw [h];omega
   ·simp -implicitDefEqProofs only [go_sem,h,f,J]
  ·have h:(m.take (j+1)).filter (fun r=>decide (r<i.a))=F++ [x]:=by rw [w,if_pos zd]
   have I:((0:Int)≤(F.length:Int))=True:=Ji
   have p1:((F.length:Int)<(m.length:Int))=True:=Ji
   have p2:(F.length<m.length)=True:=Ji
   obtain⟨y,hy⟩:=M F.length zd
   have R:=d _ _ hy
   have N:((F++ [x]).length:Int)=(F.length:Int)+1:=by simp
   simp -implicitDefEqProofs only [go_sem,B,I,p1,p2,W,za,R,o,Option.some.injEq,forall_eq']
   refine⟨by omega,by omega,ih _ (j+1,T.set F.length x,K) ⟨by simp only;omega,by simp only;rw [List.length_set,D],?_,?_,?_⟩ zg ?_⟩
   ·simp only;rw [h,List.length_append,List.length_singleton,C7G zd,E]
   ·simp only;rw [List.drop_set_of_lt zd];exact p
   ·simp only;rw [h,List.length_append,List.length_singleton];omega
   ·simp -implicitDefEqProofs only [go_sem,h,f,N]
    omega
 ·have e:j=m.length:=by omega
  subst e
  rw [List.take_length]at*
  generalize hF:m.filter (fun r=>decide (r<i.a))=F at*
  have I:((0:Int)≤(F.length:Int))=True:=Ji
  have e1:((m.length:Int)-(F.length:Int)).toNat=m.length-F.length:=by omega
  have e2:((F.length:Int)-0).toNat=F.length:=by omega
  have e3:(T.map zrw).take F.length=F.map zrw:=by rw [←List.map_take,E]
  simp -implicitDefEqProofs only [go_sem,Int.lt_irrefl,W,I]
  rw [e1,e2,e3]
  refine⟨by omega,by omega,by omega,by omega,?_⟩
  subst P
  refine .to ⟨rfl,rfl⟩ (.turn id ⟨.refl _,trivial⟩ (.at 0 rfl rfl ?_ (.at 1 rfl rfl (.refl _) trivial)))
  have:F.map zrw=(F.map zrw++List.replicate (m.length-F.length) [V.int .i64 0]++List.drop (F.length+(m.length-F.length)) (T.map zrw)).take F.length:=by
   rw [List.append_assoc,List.take_append_of_le_length zf,List.take_of_length_le zf]
  have h2:=L1.take (sz:=1) (rs:=F.map zrw++List.replicate (m.length-F.length) [V.int .i64 0]++List.drop (F.length+(m.length-F.length)) (T.map zrw)) F.length
  rw [←this]at h2
  exact h2
theorem C2I(a n:Int)(d:n<0)(h:A2)(m:Nat):A0 Tryz.prog 107 [.int .i64 a,.int .i64 n] h m fun r b e=>r= .tup [.nils,.int .i64 a]∧b=h:=by
 refine A0.enterK A5e Jk fun Q c=>Run.go 100 ?_
 simp -implicitDefEqProofs only [go_sem,A4,d]
 subst c
 exact XR
theorem B9T(b n:Nat)(z:V)(h:A2):Wk ⟨[(0,.tup [.nils,z])],h,n⟩ ⟨[(0,.tup [.sl b n 0 0,z])],[(b,n,.rows 1 [])],n+1⟩:=by
 have w:Wk ⟨[(0,.tup [.nils,z])],h,n⟩ ⟨[(0,.tup [.nils,z])],[],n⟩:=C1.wk ⟨fun p d=>by rw [List.mem_singleton.1 d];rfl,fun e a=>(List.not_mem_nil a).elim,Nat.le_refl _⟩
 have c:Wk ⟨[(0,.tup [.nils,z])],[],n⟩ ⟨[(0,.tup [.sl b n 0 0,z])],[(b,n,.rows 1 [])],n+1⟩:=
  (Wk.fresh b 1 _ _ _).trans (.turn id ⟨.tup ⟨.nils,.refl _,trivial⟩,trivial⟩ (.at 0 rfl rfl (.refl _) trivial))
 exact w.trans c
theorem C9y{i:Ins}(h:0≤(rds i).2∨i.op=22):(i.op=22∧rds i=([], -1))∨((i.op=16∨i.op=17∨i.op=21)∧i.b<0∧rds i=([i.a],i.a+1))∨(i.op=18∧i.b<0∧rds i=([],i.a)):=by
 by_cases b:i.op=22
 ·left;exact⟨b,by simp [rds,b]⟩
 have h:=h.resolve_right b
 by_cases f:i.op=16∨i.op=17∨i.op=21
 ·have e:rds i=(i.a::(I1 (i.a+1) i.b).1,(I1 (i.a+1) i.b).2):=by rcases f with c|c|c<;>simp [rds,c]
  rw [e]at h⊢
  simp only [A7S]at h
  by_cases a:i.b<0
  ·right;left;exact⟨f,a,by rw [A7Q a]⟩
  ·rw [if_neg a]at h;omega
 by_cases a:i.op=18
 ·have e:rds i=I1 i.a i.b:=by simp [rds,a]
  rw [e,A7S]at h
  by_cases d:i.b<0
  ·right;right;exact⟨a,d,by rw [e,A7Q d]⟩
  ·rw [if_neg d]at h;omega
 exfalso
 revert h
 unfold rds
 repeat' split
 all_goals first
  |(simp only [A7S];split<;>omega)
  |(intro h;simp at h;done)
  |contradiction
theorem C6W(i:Ins)(h:0≤(reads i).2∨i.op=22)(n:Nat):A0 Tryz.prog 79 [i.v] [] n fun r f j=> ∃s,r= .tup [.sl (79*10000+60) s 0 (reads i).1.length,.int .i64 (reads i).2]∧f= [((79*10000+60),s,.rows 1 ((reads i).1.map zrw))]:=by
 refine A0.enterK A4l Jk fun Q b=>Run.go 100 ?_
 refine QM ?_
 refine A0.pureF (A8c i) ze ?_
 by_cases c:chk i=0
 rotate_left
 ·have e:reads i=([], -1):=if_neg c
  rw [e]at b
  refine QO ?_
  exact YR
 have e:reads i=rds i:=if_pos c
 rw [e]at h b
 have k:=A4g c
 rw [c]
 rcases C9y h with⟨a,d⟩|⟨a,g,d⟩|⟨a,g,d⟩
 ·rw [d]at b
  refine QP ?_
  exact YR
 ·rw [d]at b
  rcases a with a|a|a<;>
  ·refine QP ?_
   refine⟨by omega,(C2I _ _ g _ _).mono ?_⟩
   rintro r f j ⟨rfl,rfl⟩
   refine QL ?_
   subst b
   refine .to ⟨_,rfl,rfl⟩ (.turn (fun _=>(79*10000+60)) ⟨.refl _,trivial⟩ (.at 0 rfl rfl (.refl _) trivial))
 ·rw [d]at b
  refine QP ?_
  refine(C2I _ _ g _ _).mono ?_
  rintro r f j ⟨rfl,rfl⟩
  refine QL ?_
  exact YR
-- EV: Ins.v, Ins.row
structure Fit(N:Nat)(i:Ins):Prop where
 ok:chk i=0
 ws: ∀r∈(C6 i).1,0≤r∧r<N
 wo:(C6 i).2≤N
def A6Q:AC→AC
 | .seq a _=>a
 |c=>c
def E0:AC→AC
 | .seq _ b=>b
 |c=>c
@[reducible] noncomputable def C8r (Q:Res):Cf:=⟨Tryz.prog,75,[.c 4 3 true],Z2 Q,none⟩
def B2p(i:Ins)(N:Nat)(f:Nat→Bool)(m:List Int)(a2 a4 a5 st st2 n:Nat):St:=
 ⟨[(5,.ptr (177*10000+5) a5 0 0),(4,.ptr (177*10000+4) a4 0 0),(2,.ptr (177*10000+2) a2 0 0)],
  [((177*10000+5),a5,.rows 3 [[.sl (190*10000+5) st 0 N,.int .i64 (-1),.sl (89*10000+5) st2 0 m.length]]),((89*10000+5),st2,.rows 1 (m.map zrw)),((190*10000+5),st,.rows 1 (B0 N f)),((177*10000+4),a4,.rows 3 [[.nils,.int .i64 0,.nils]]),((177*10000+2),a2,.rows 5 [i.row])],n⟩
theorem C0Z(N:Nat)(i:Ins)(f:Nat→Bool)(o:Int)(m:List Int)(v:N≤100000)(w:m.length≤1000000)(n:Nat)(R:AC)(Q:Res)
  (k: ∀j t c a s n,Run (C8r Q) [.code R] (B2p i N f m j t c a s n)):
  Run (C8r Q) [.code (.seq (A6Q j4) (.seq (A6Q (E0 j4)) R))] ⟨A4 0 [i.v,.agg [.isl (B0 N f),.int .i64 o,.isl (m.map zrw)]],[],n⟩:=by
 have q:=U1 C7 N f
 have g:=W9 C7 m
 have p:=fun n=>D2Z N f zd n
 have d:=fun n=>C8a m zd n
 refine Run.go 4 ?_
 simp -implicitDefEqProofs only [go_sem,A4,A6Q,E0]
 repeat' refine And.intro ?_ ?_
 all_goals
  refine A0.at [] [0,1,2,3] (p _) rfl rfl ?_
  rintro r e l u ⟨a,rfl,rfl⟩
  refine QL ?_
  refine A0.at [] [0,1,2,3,4] (d _) rfl rfl ?_
  rintro r e b h ⟨s,rfl,rfl⟩
  simp -implicitDefEqProofs only [go_sem]
 all_goals first
  |(refine Run.wk (C1.wk ?_) (k n (n+1+1) b a s (b+1));simp -implicitDefEqProofs only [go_sem,B2p];done)
  |(refine Run.wk (C1.wk ?_) (k n (n+1+1) l a s b);simp -implicitDefEqProofs only [go_sem,B2p];done)
  |(refine Run.wk (C1.wk ?_) (k n (n+1+1) (n+1+1+1) a s b);simp -implicitDefEqProofs only [go_sem,B2p];done)
theorem C3o(N:Nat)(i:Ins)(f:Nat→Bool)(m:List Int)(y:Fit N i)(C:N≤100000)(B:m.length≤1000000)(R:AC)(Q:Res)
  (k: ∀a c b st st2 n,Run (C8r Q) [.code R] (B2p i N (B0U i f) (I7 i m) a c b st st2 n)) (a c b st st2 n:Nat):
  Run (C8r Q) [.code (.seq (A6Q (E0 (E0 j4))) R)] (B2p i N f m a c b st st2 n):=by
 obtain⟨L,F,G,D,E,H,I,K,J,O⟩:=A4g y.ok
 unfold B2p
 have x:i.row= [.int .i64 i.op,.int .i64 i.a,.int .i64 i.b,.int .i64 i.c,.int .i64 i.d]:=rfl
 have t:(m.map zrw).length=m.length:=List.length_map ..
 have z:=H1 m
 generalize o:m.map zrw=M at*
 by_cases d:i.op=16
 ·have p:B0U i f=fun r=>f r&&decide ((r:Int)<i.a):=if_pos d
  have e:I7 i m=m:=by simp [I7,d]
  rw [p,e]at k
  refine Run.go 9 ?_
  simp -implicitDefEqProofs only [go_sem,A6Q,E0,d]
  refine A0.at [2] [0,1,3,4] (B2c N f i.a zd zd zd st n) rfl rfl ?_
  rintro r u l s rfl
  refine QL ?_
  refine Run.wk (C1.wk ?_) (k a c b st st2 l)
  simp -implicitDefEqProofs only [go_sem,B2p,o,d]
 by_cases h:i.op=25
 ·have p:B0U i f=fun r=>f r&&decide ((r:Int)<i.a+3):=by rw [B0U,if_neg d,if_pos h]
  have e:I7 i m=m:=by simp [I7,h]
  rw [p,e]at k
  refine Run.go 12 ?_
  simp -implicitDefEqProofs only [go_sem,A6Q,E0,h]
  refine⟨by omega,?_⟩
  refine A0.at [2] [0,1,3,4] (B2c N f (i.a+3) zd zd zd st n) rfl rfl ?_
  rintro r u l s rfl
  refine QL ?_
  refine Run.wk (C1.wk ?_) (k a c b st st2 l)
  simp -implicitDefEqProofs only [go_sem,B2p,o,h]
 have p:B0U i f=f:=by rw [B0U,if_neg d,if_neg h]
 rw [p]at k
 by_cases g:i.op=28
 ·have e:I7 i m=m++ [i.a]:=if_pos g
  rw [e]at k
  refine Run.go 15 ?_
  simp -implicitDefEqProofs only [go_sem,A6Q,E0,g,t,z]
  have w:(m++ [i.a]).map zrw=M++ [[.int .i64 i.a]]:=by rw [List.map_append,o];rfl
  have A:(m++ [i.a]).length=m.length+1:=by simp
  have v:M.take m.length=M:=List.take_of_length_le zd
  refine⟨by omega,Run.wk (C1.wk ?_) (k a c b st n (n+1))⟩
  simp -implicitDefEqProofs only [go_sem,B2p,w,A,v,g]
 by_cases j:i.op=27
 ·have e:I7 i m=m.filter fun r=>decide (r<i.a):=by rw [I7,if_neg g,if_pos j]
  rw [e]at k
  refine Run.go 18 ?_
  simp -implicitDefEqProofs only [go_sem,A6Q,E0,j,t,z]
  have q:=C0U i m B st2 a n
  rw [o]at q
  simp only [x,j]at q
  refine A0.at [1,4] [0,2,3] q rfl rfl ?_
  rintro r u l s ⟨rfl,rfl⟩
  refine QL ?_
  refine Run.wk (C1.wk ?_) (k a c b st st2 l)
  simp -implicitDefEqProofs only [go_sem,B2p,j]
 have e:I7 i m=m:=by rw [I7,if_neg g,if_neg j]
 rw [e]at k
 refine Run.go 18 ?_
 simp -implicitDefEqProofs only [go_sem,A6Q,E0,d,h,g,j]
 refine Run.wk (C1.wk ?_) (k a c b st st2 n)
 simp -implicitDefEqProofs only [go_sem,B2p,o]
theorem C1a(N:Nat)(i:Ins)(f:Nat→Bool)(m:List Int)(V:Fit N i)(hN:N≤100000)(Q:Res)
  (A:Q=fun r P R=> ∃st st2,
    r= .agg [.sl (190*10000+5) st 0 N,.int .i64 (C6 i).2,.sl (89*10000+5) st2 0 m.length]∧
    P= [((190*10000+5),st,.rows 1 (B0 N (B1v N (C6 i) f))),((89*10000+5),st2,.rows 1 (m.map zrw))]) (D F u st st2 n:Nat):
  Run (C8r Q) [.code (E0 (E0 (E0 j4)))] (B2p i N f m D F u st st2 n):=by
 have I:=B0A i
 obtain⟨U,g,E⟩:=V
 have z:=A2r i
 have v:(C6 i).1.length≤1000000:=A9c i
 unfold B2p
 generalize m.map zrw=M at*
 generalize C6 i=w at*
 obtain⟨a,d⟩:=w
 simp only at g E z v A
 have L:(a.map zrw).length=a.length:=List.length_map ..
 have Y:=H1 a
 have S: ∀(k:Nat) x,a[k]? =some x→(a.map zrw)[k]? =some [.int .i64 x]:=fun k x J=>P9 J
 generalize a.map zrw=W at*
 simp only [Ins.v,Ins.row]at I
 refine Run.go 100 ?_
 simp -implicitDefEqProofs only [go_sem,E0]
 refine A0.pureF I ze ?_
 simp -implicitDefEqProofs only [go_sem,L]
 refine Run.keep [57,56,55,7,5,4,2] ?_
 refine Run.rounds (fun(k:Nat)=>⟨[(57,.int .i64 k),(56,.int .i64 a.length),(55,.isl W),(7,.int .i64 d),(5,.ptr (177*10000+5) u 0 0),(4,.ptr (177*10000+4) F 0 0),(2,.ptr (177*10000+2) D 0 0)],
   [((177*10000+5),u,.rows 3 [[.sl (190*10000+5) st 0 N,.int .i64 (-1),.sl (89*10000+5) st2 0 m.length]]),((89*10000+5),st2,.rows 1 M),((190*10000+5),st,.rows 1 (B0 N fun r=>f r||(a.take k).contains (r:Int))),((177*10000+4),F,.rows 3 [[.nils,.int .i64 0,.nils]]),((177*10000+2),D,.rows 5 [i.row])],n⟩)
  (fun k=>k≤a.length) (fun k=>a.length-k) 0 ?_ (Nat.zero_le _) ?_
 ·refine QL ?_
  exact E3 fun r q=>by simp
 intro k J ih
 refine Run.unf A0R (Run.go 100 ?_)
 have p:=D6 N fun r=>f r||(a.take k).contains (r:Int)
 have s:=H8 N fun r=>f r||(a.take k).contains (r:Int)
 by_cases l:k<a.length
 ·have Z:((k:Int)<(a.length:Int))=True:=Ji
  have T:((0:Int)≤(k:Int))=True:=Ji
  obtain⟨x,C⟩: ∃x,a[k]? =some x:=⟨a[k],by simp [l]⟩
  have G:=S k x C
  have hxb:=g x (List.mem_of_getElem? C)
  obtain⟨X,rfl⟩: ∃X:Nat,x=X:=⟨x.toNat,by omega⟩
  have o:X<N:=by omega
  have q2:((0:Int)≤(X:Int))=True:=Ji
  have q3:((X:Int)<(N:Int))=True:=Ji
  have t:=H7 (f:=fun r=>f r||(a.take k).contains (r:Int)) o
  have j:=U0 (N:=N) (r:=X) (b:=true) (f:=fun r=>f r||(a.take k).contains (r:Int)) (fun r=>f r||(a.take (k+1)).contains (r:Int)) (fun y hy=>by
   rw [List.take_add_one,C]
   by_cases c:y=X
   ·subst c;simp
   ·have: ¬(y:Int)=(X:Int):=by omega
    rw [if_neg c];simp [this])
  have B:((k+1:Nat):Int)=(k:Int)+1:=by omega
  generalize (B0 N fun r=>f r||(a.take k).contains (r:Int))=K at*
  simp -implicitDefEqProofs only [go_sem,Z,T,q2,q3,L,Y,G,p,s,t,l,o,Option.some.injEq,forall_eq']
  exact⟨by omega,ih _ (k+1) zd zd (by simp -implicitDefEqProofs only [go_sem,B,j])⟩
 ·have e:k=a.length:=by omega
  subst e
  rw [List.take_length]at*
  by_cases c:0≤d
  ·have h:(B0 N fun r=>(f r||a.contains (r:Int))&&decide ((r:Int)<d))=B0 N (B1v N (a,d) f):=E3 fun r q=>by
    have H:decide (d<0)=false:=decide_eq_false zd
    simp [B1v,q,H]
   have O:=B2c N (fun r=>f r||a.contains (r:Int)) d c zd zd st n
   rw [h]at O
   generalize (B0 N fun r=>f r||a.contains (r:Int))=K at*
   simp -implicitDefEqProofs only [go_sem,Int.lt_irrefl,c,ge_iff_le]
   refine A0.at [2] [0,1,3,4] O rfl rfl ?_
   rintro r P R hn rfl
   refine QL ?_
   subst A
   exact Yk
  ·have h:(B0 N fun r=>f r||a.contains (r:Int))=B0 N (B1v N (a,d) f):=E3 fun r q=>by
    have H:decide (d<0)=true:=decide_eq_true zd
    simp [B1v,q,H]
   rw [h]
   have e:d= -1:=by omega
   generalize B0 N (B1v N (a,d) f)=K at*
   subst e
   simp -implicitDefEqProofs only [go_sem,Int.lt_irrefl,c,ge_iff_le]
   subst A
   exact .to ⟨st,st2,rfl,rfl⟩ (.turn id ⟨.refl _,trivial⟩ (.at 3 rfl rfl (.refl _) (.at 2 rfl rfl (.refl _) trivial)))
theorem C0Y(N:Nat)(i:Ins)(s:Stt)(h:N≤100000)(c:Fit N i)(d:s.marks.length≤1000000)(n:Nat):
  A0 Tryz.prog 177 [i.v,.agg [.isl (B0 N s.set),.int .i64 s.opn,.isl (s.marks.map zrw)]] [] n fun r f l=> ∃b a,
   r= .agg [.sl (190*10000+5) b 0 N,.int .i64 (C6 i).2,.sl (89*10000+5) a 0 (I7 i s.marks).length]∧
   f= [((190*10000+5),b,.rows 1 (B0 N (A8g N i s).set)),((89*10000+5),a,.rows 1 ((I7 i s.marks).map zrw))]:=by
 refine A0.enterK A7U Jk fun Q j=> ?_
 refine C0Z N i s.set s.opn s.marks h d n _ Q fun g k e b a n=> ?_
 exact C3o N i s.set s.marks c h d _ Q (C1a N i (B0U i s.set) (I7 i s.marks) c h Q j) g k e b a n
end Go.Proofs.YtcaaenddpjepiaaGreatDoor
