/-
 More steps of the verifier. No condition.
-/
import Derived.Test.YtcaaenddpjepiaaGreatDoorVerP1
import Derived.Test.YtcaaenddpjepiaaGreatDoorRvA
import Derived.Test.YtcaaenddpjepiaaGreatDoorFnMb
set_option linter.unusedVariables false
set_option linter.unusedSimpArgs false
set_option maxRecDepth 100000
set_option maxHeartbeats 0
namespace Go.Proofs.YtcaaenddpjepiaaGreatDoor
open Go.Abs
attribute [local irreducible] A0 Run
-- EV: Ins.v, Ins.row
attribute [local go_sem] Ins.v Ins.row
-- EV: Ins.v, Ins.row
theorem Fit.ends{N:Nat}{i:Ins}(h:Fit N i)(a:i.op=23∨i.op=24):0≤i.a+3∧i.a+3<N:=by
 have b:(C6 i).1=if i.op=23 then [i.a+3]else [i.a,i.a+3]:=by
  rw [show C6 i=wrs i from if_pos h.ok]
  rcases a with c|c<;>simp [wrs,c]
 have:=h.ws (i.a+3) (by rw [b];split<;>simp)
 omega
theorem C1P(N:Nat)(code:List Ins)(S:List V)(J:S.length=11)(z:S.take 11=S)(h5:S[5]? =some (.isl (code.map Ins.row)))(a:Nat)(i:Ins)(ha:code[a]? =some i)(b:Int)(hc:code.length≤1000000)(s:Stt)(hN:N≤100000)(X:Fit N i)(hm:s.marks.length≤1000000)(n:Nat):
  A0 Tryz.prog 153 [.agg S,.agg [.int .i64 a,.int .i64 b],.agg [.isl (B0 N s.set),.int .i64 s.opn,.isl (s.marks.map zrw)]] [] n fun r h' n'=> ∃E l,
   r= .agg [.sl (190*10000+5) E 0 N,.int .i64 (C6 i).2,.sl (89*10000+5) l 0 (I7 i s.marks).length]∧
   h'= [((190*10000+5),E,.rows 1 (B0 N (C9 N i a b s).set)),((89*10000+5),l,.rows 1 ((I7 i s.marks).map zrw))]:=by
 have W:a<code.length:=(List.getElem?_eq_some_iff.1 ha).1
 have k5:(code.map Ins.row).length=code.length:=List.length_map ..
 have z5:=A8v Ins.row 5 (fun _=>rfl) code
 have r5:(code.map Ins.row)[a]? =some (Ins.row i):=by rw [List.getElem?_map,ha];rfl
 generalize code.map Ins.row=Y at*
 have q0:((a:Int)<(code.length:Int))=True:=Ji
 have q1:((0:Int)≤(a:Int))=True:=Ji
 have F:=C0Y N i s hN X hm
 simp only [Ins.v,Ins.row]at F r5
 have y:=X.ends
 have R:=A4g X.ok
 obtain⟨f,o,m⟩:=s
 simp only at F hm⊢
 have u:=D6 N f
 have C:=H8 N f
 refine A0.enterK A7V Jk fun Q I=>Run.go 6 ?_
 simp -implicitDefEqProofs only [go_sem,A4,J,z,h5,k5,z5,r5,q0,q1,W,Option.some.injEq,forall_eq']
 refine A0.at [] [0,1,2,3,4] (F _) rfl rfl ?_
 rintro r h' n1 hn1 ⟨E,l,rfl,rfl⟩
 refine QL ?_
 refine Run.keep [8,7,6,5,4,3] ?_
 have hpo:(⟨f,o,m⟩:Stt).set=f:=rfl
 -- the three ways
 have g:(f6 i a b=true∧f (i.a+3).toNat=false→False)→B0 N (C9 N i a b ⟨f,o,m⟩).set=B0 N (A8g N i ⟨f,o,m⟩).set:=fun h=>by
  unfold C9;rw [if_neg h]
 have d:f6 i a b=true∧f (i.a+3).toNat=false→B0 N (C9 N i a b ⟨f,o,m⟩).set=(B0 N (A8g N i ⟨f,o,m⟩).set).set (i.a+3).toNat [.bool false]:=fun h=>by
  refine(U0 _ fun x hx=> ?_).symm
  unfold C9;rw [if_pos h]
  have:=R.2.1
  have h0:=R
  exact XS
 generalize B0 N (C9 N i a b ⟨f,o,m⟩).set=PS at*
 have D:=D6 N (A8g N i ⟨f,o,m⟩).set
 have B:=H8 N (A8g N i ⟨f,o,m⟩).set
 have H: ∀r,r<N→ ∃v,(B0 N (A8g N i ⟨f,o,m⟩).set)[r]? =some [.bool v]:=fun r U=>⟨_,H7 U⟩
 generalize B0 N (A8g N i ⟨f,o,m⟩).set=ES at*
 have G: ∀r,r<N→(B0 N f)[r]? =some [.bool (f r)]:=fun r U=>H7 U
 generalize B0 N f=FSs at*
 have Z:(i.op=23∧b=i.b)∨(i.op=24∧b≠i.b)∨(i.op=24∧b=i.b∧i.b=(a:Int)+1)∨f6 i a b=false:=by
  unfold f6
  by_cases t:i.op=23<;>by_cases q:i.op=24<;>by_cases K:b=i.b<;>by_cases c4:i.b=(a:Int)+1<;>simp [t,q,K,c4]<;>omega
 rcases Z with⟨t,q⟩|⟨t,q⟩|⟨t,q,K⟩|T
 ·have O:f6 i a b=true:=by simp [f6,t,q]
  have P:=y (.inl t)
  exact Xp
 ·have O:f6 i a b=true:=by simp [f6,t,q]
  have P:=y (.inr t)
  exact Xp
 ·have O:f6 i a b=true:=by simp [f6,t,q,K]
  have P:=y (.inr t)
  obtain⟨A,p⟩: ∃A:Nat,i.a+3=A:=⟨(i.a+3).toNat,by omega⟩
  rw [p]at P g d
  have k:A<N:=by omega
  rw [Int.toNat_natCast]at g d
  have L:((0:Int)≤(A:Int))=True:=Ji
  have M:((A:Int)<(N:Int))=True:=Ji
  have j:=G A k
  obtain⟨v,w⟩:=H A k
  cases hf:f A with
  |false=>
   rw [hf]at j g d
   have:=d ⟨O,rfl⟩
   subst this
   refine Run.go 100 ?_
   simp -implicitDefEqProofs only [go_sem,t,q,K,p,L,M,j,w,k,D,B,u,C,Option.some.injEq,forall_eq']
   exact JW
  |true=>
   rw [hf]at j g
   have:=g (fun h=>by simp at h)
   subst this
   refine Run.go 100 ?_
   simp -implicitDefEqProofs only [go_sem,t,q,K,p,L,M,j,w,k,D,B,u,C,Option.some.injEq,forall_eq']
   exact Ju
 have:=g (fun h=>by rw [T]at h;simp at h)
 subst this
 by_cases t:i.op=23
 ·have q: ¬b=i.b:=fun e=>by simp [f6,t,e]at T
  exact Kd
 by_cases q:i.op=24
 ·have K:b=i.b:=by
   refine Decidable.byContradiction fun e=> ?_
   simp [f6,q,e]at T
  have c4: ¬i.b=(a:Int)+1:=fun e=>by simp [f6,q,K,e]at T
  refine Run.go 100 ?_
  simp -implicitDefEqProofs only [go_sem,q,K,c4,J,z]
  exact Ju
 ·exact Kd
-- EV: Ins.v, Ins.row
theorem C6B(N:Nat)(f g:Nat→Bool)(P:N≤100000)(b o st2:Nat)(E I C D:V)(n:Nat):
  A0 Tryz.prog 154 [.agg [.sl (1000000000000+b) o 0 N,E,C],.agg [.sl (190*10000+5) st2 0 N,I,D]]
   [(1000000000000+b,o,.rows 1 (B0 N f)),((190*10000+5),st2,.rows 1 (B0 N g))] n fun r O R=>
   r= .bool ((List.range N).any fun r=>f r&& !g r)∧O= [(1000000000000+b,o,.rows 1 (B0 N fun r=>f r&&g r)),((190*10000+5),st2,.rows 1 (B0 N g))]:=by
 obtain⟨B,K⟩: ∃B,B=1000000000000+b:=⟨_,rfl⟩
 have j: ∀k:Nat,k<1000000000000→(k=B)=False:=fun k h=>eq_false zd
 have d: ∀k:Nat,k<1000000000000→(B=k)=False:=fun k h=>eq_false zd
 rw [←K]
 have H:=D6 N g
 have F:=H8 N g
 have M: ∀r,r<N→(B0 N g)[r]? =some [.bool (g r)]:=fun r w=>H7 w
 generalize B0 N g=G at*
 refine A0.enterK B0z Jk fun Q L=>Run.go 100 ?_
 simp -implicitDefEqProofs only [go_sem,A4,j,d]
 refine Run.rounds (fun(k:Nat)=>⟨[(10,.int .i64 k),(9,.int .i64 N),(5,.bool ((List.range k).any fun r=>f r&& !g r)),(3,.ptr (154*10000+3) (n+1) 0 0),(2,.ptr (154*10000+2) n 0 0)],
  [((154*10000+3),n+1,.rows 3 [[.sl (190*10000+5) st2 0 N,I,D]]),((154*10000+2),n,.rows 3 [[.sl B o 0 N,E,C]]),(B,o,.rows 1 (B0 N fun r=>f r&&(g r||decide (k≤r)))),((190*10000+5),st2,.rows 1 G)],n+1+1⟩)
  (fun k=>k≤N) (fun k=>N-k) 0 ?_ (Nat.zero_le _) ?_
 ·have:(B0 N fun r=>f r&&(g r||decide (0≤r)))=B0 N f:=E3 fun r w=>by simp
  simp -implicitDefEqProofs only [go_sem,this,j,d]
  rfl
 intro k S J
 refine Run.unf A6n (Run.go 100 ?_)
 have p:=D6 N fun r=>f r&&(g r||decide (k≤r))
 have t:=H8 N fun r=>f r&&(g r||decide (k≤r))
 by_cases m:k<N
 ·have A:((k:Int)<(N:Int))=True:=Ji
  have y:((0:Int)≤(k:Int))=True:=Ji
  have l:=H7 (f:=fun r=>f r&&(g r||decide (k≤r))) m
  have q:=M k m
  have z:decide (k≤k)=true:=by simp
  rw [z,Bool.or_true,Bool.and_true]at l
  have v:((List.range (k+1)).any fun r=>f r&& !g r)=(((List.range k).any fun r=>f r&& !g r)||(f k&& !g k)):=by simp [List.range_succ]
  have i:=U0 (N:=N) (r:=k) (b:=false) (f:=fun r=>f r&&(g r||decide (k≤r))) (fun r=>f r&&(g r||decide (k+1≤r)))
  have a:(f k&& !g k)=false→(B0 N fun r=>f r&&(g r||decide (k+1≤r)))=B0 N fun r=>f r&&(g r||decide (k≤r)):=fun h=>E3 fun r w=>by
   by_cases c:r=k
   ·subst c
    cases hf:f r<;>cases hg:g r<;>simp [hf,hg]at h⊢
   ·have:decide (k+1≤r)=decide (k≤r):=decide_eq_decide.2 zd
    rw [this]
  have i:=fun h:(f k&& !g k)=true=>i fun x T=>by
   by_cases c:x=k
   ·subst c
    cases hf:f x<;>cases hg:g x<;>simp [hf,hg]at h⊢
   ·have:decide (k+1≤x)=decide (k≤x):=decide_eq_decide.2 zd
    rw [if_neg c,this]
  have u:((k+1:Nat):Int)=(k:Int)+1:=by omega
  have fin:=fun s=>J s (k+1) zd zd
  clear J
  simp only [v]at fin
  generalize (B0 N fun r=>f r&&(g r||decide (k≤r)))=U at*
  generalize ((List.range k).any fun r=>f r&& !g r)=W at*
  cases hf:f k with
  |false=>
   rw [hf]at l a fin
   have a:=a rfl
   simp -implicitDefEqProofs only [go_sem,A,y,p,t,l,m,j,d,Option.some.injEq,forall_eq']
   exact⟨by omega,fin _ (by simp -implicitDefEqProofs only [go_sem,u,a,j,d,Bool.false_and,Bool.or_false])⟩
  | true=>
   cases hg:g k with
   |true=>
    rw [hf]at l a fin
    rw [hg]at q a fin
    have a:=a rfl
    simp -implicitDefEqProofs only [go_sem,A,y,p,t,l,m,q,H,F,j,d,Option.some.injEq,forall_eq']
    exact⟨by omega,fin _ (by simp -implicitDefEqProofs only [go_sem,u,a,j,d,Bool.not_true,Bool.and_false,Bool.or_false])⟩
   |false=>
    rw [hf]at l i fin
    rw [hg]at q i fin
    have i:=i rfl
    simp -implicitDefEqProofs only [go_sem,A,y,p,t,l,m,q,H,F,j,d,Option.some.injEq,forall_eq']
    exact⟨by omega,fin _ (by simp -implicitDefEqProofs only [go_sem,u,i,j,d,Bool.not_false,Bool.and_true,Bool.or_true])⟩
 ·have e:k=N:=by omega
  subst e
  have:(B0 k fun r=>f r&&(g r||decide (k≤r)))=B0 k fun r=>f r&&g r:=E3 fun r w=>by
   have:decide (k≤r)=false:=decide_eq_false zd
   rw [this,Bool.or_false]
  rw [this]
  refine QN ?_
  subst L
  exact .to ⟨rfl,rfl⟩ (.turn id ⟨.refl _,trivial⟩ (.at 2 rfl rfl (.refl _) (.at 3 rfl rfl (.refl _) trivial)))
theorem C3p(p:List V)(q:p.length=11)(i:p.take 11=p)(a params:Int)(F:p[4]? =some (.int .i64 a))(h2:p[2]? =some (.int .i64 params))(N:Nat)(v:a=N)(D:N≤100000)(u:0≤params)(A:params≤N)(n:Nat):
  A0 Tryz.prog 152 [.agg p] [] n fun r E H=> ∃s,r= .agg [.sl (152*10000+7) s 0 N,.int .i64 (-1),.isl []]∧E= [((152*10000+7),s,.rows 1 (B0 N (A9F N params).set))]:=by
 obtain⟨K,rfl⟩: ∃K:Nat,params=K:=⟨params.toNat,by omega⟩
 subst v
 have o:=B1q N
 refine A0.enterK A9C Jk fun Q z=>Run.go 100 ?_
 simp -implicitDefEqProofs only [go_sem,A4,q,i,F,h2]
 refine⟨by omega,by omega,?_⟩
 refine Run.keep [11,10,3,2] ?_
 refine Run.rounds (fun(k:Nat)=>⟨[(11,.int .i64 k),(10,.int .i64 K),(3,.ptr (152*10000+3) (n+1+1+1) 0 0),(2,.ptr (152*10000+2) (n+1) 0 0)],
   [((152*10000+3),n+1+1+1,.rows 3 [[.sl (152*10000+7) (n+1+1) 0 N,.int .i64 (-1),.nils]]),((152*10000+7),n+1+1,.rows 1 (B0 N fun r=>decide (r<k))),((152*10000+2),n+1,.rows 3 [[.nils,.int .i64 0,.nils]])],n+1+1+1+1⟩)
  (fun k=>k≤K) (fun k=>K-k) 0 ?_ (Nat.zero_le _) ?_
 ·have:(B0 N fun r=>decide (r<0))=List.replicate N [.bool false]:=by rw [←o];exact E3 fun r t=>by simp
  exact zQ
 intro k I G
 refine Run.unf A5F (Run.go 100 ?_)
 have g:=D6 N fun r=>decide (r<k)
 have j:=H8 N fun r=>decide (r<k)
 by_cases y:k<K
 ·have B:((k:Int)<(K:Int))=True:=Ji
  have w:((0:Int)≤(k:Int))=True:=Ji
  have d:k<N:=by omega
  have C:((k:Int)<(N:Int))=True:=Ji
  have l:=H7 (f:=fun r=>decide (r<k)) d
  have h:=U0 (N:=N) (r:=k) (b:=true) (f:=fun r=>decide (r<k)) (fun r=>decide (r<k+1)) (fun x J=>by
   by_cases c:x=k
   ·subst c;simp
   ·rw [if_neg c];exact decide_eq_decide.2 zd)
  have m:((k+1:Nat):Int)=(k:Int)+1:=by omega
  generalize (B0 N fun r=>decide (r<k))=L at*
  simp -implicitDefEqProofs only [go_sem,B,w,C,g,j,l,d,Option.some.injEq,forall_eq']
  exact⟨by omega,G _ (k+1) zd zd (by simp -implicitDefEqProofs only [go_sem,m,h])⟩
 ·have e:k=K:=by omega
  subst e
  have:(B0 N fun r=>decide (r<k))=B0 N (A9F N k).set:=E3 fun r t=>by
   have:decide ((r:Int)<(k:Int))=decide (r<k):=decide_eq_decide.2 zd
   simp [A9F,t,this]
  rw [this]
  refine QN ?_
  subst z
  exact Yj
def Z4(code:List Ins)(a:Nat):List (Nat×Int):=(List.range a).flatMap fun(a:Nat)=>(C5 code a).map fun(b:Int)=>(a,b)
def K6(code:List Ins)(a k:Nat):List (Nat×Int):=Z4 code a++((C5 code a).take k).map fun(b:Int)=>(a,b)
theorem B4r(code:List Ins)(a:Nat):K6 code a 0=Z4 code a:=by simp [K6]
theorem A8f(code:List Ins)(a:Nat):K6 code a (C5 code a).length=Z4 code (a+1):=by
 rw [K6,List.take_length,Z4,Z4,List.range_succ,List.flatMap_append];simp
theorem B4q{code:List Ins}{a k:Nat}{x:Int}(h:(C5 code a)[k]? =some x):K6 code a (k+1)=K6 code a k++ [(a,x)]:=by
 rw [K6,K6,List.take_add_one,h,List.map_append,List.append_assoc];rfl
theorem B5V(code:List Ins)(a:Nat):(Z4 code a).length≤2*a:=by
 induction a with
 |zero=>simp [Z4]
 |succ a i=>
  rw [←A8f,K6,List.take_length,List.length_append,List.length_map]
  have:=R5 code a
  omega
theorem C3n(code:List Ins)(p:List V)(z:p.length=11)(g:p.take 11=p)(h5:p[5]? =some (.isl (code.map Ins.row)))(q:p.map (V.sub C7)=p)(hc:code.length≤100000)
  (F: ∀a:Int,Pure Tryz.prog 59 [.agg p,.int .i64 a] (.isl ((C5 code a).map zrw))):Pure Tryz.prog 111 [.agg p] (.isl ((F8 code).map A4i)):=by
 have Z:(code.map Ins.row).length=code.length:=List.length_map ..
 generalize code.map Ins.row=P at*
 refine Pure.of 1 (A0.enter A9B Jk (Run.go 100 ?_))
 simp -implicitDefEqProofs only [go_sem,A4,z,g,h5,Z]
 refine Run.keep [10,9,3,1] ?_
 have f: ∀d h,((F8 code).map A4i).map (fun r=>r.map (frz d h))=(F8 code).map A4i:=fun d h=>by
  obtain⟨φ,e⟩:=G8 (d:=d) (h:=h)
  rw [e,List.map_map]
  exact List.map_congr_left fun y _=>by simp [A4i,V.sub]
 have u:F8 code=Z4 code code.length:=rfl
 generalize hnn:code.length=i at*
 refine Run.roundsK (fun(x:Nat×Nat×Nat)=>⟨[(10,.int .i64 x.1),(9,.int .i64 i),(3,.sl (111*10000+26) x.2.1 0 (Z4 code x.1).length),(1,.ptr (111*10000+1) 0 0 0)],
   [((111*10000+26),x.2.1,.rows 2 ((Z4 code x.1).map A4i)),((111*10000+1),0,.rows 11 [p])],x.2.2⟩)
  (fun x=>x.1≤i) (fun x=>i-x.1) (0,1,2) ?_ (Nat.zero_le _) ?_
 ·exact .trans (.fresh (111*10000+26) 2 _ _ _) (.turn id ⟨.refl _,.refl _,.nils,.refl _,trivial⟩ (.at 0 rfl rfl (.refl _) (.at 1 rfl rfl (.refl _) trivial)))
 rintro⟨a,Y,m⟩ ha W
 simp only at ha W⊢
 refine Run.unf A5D (Run.go 100 ?_)
 by_cases hlt:a<i
 ·have q0:((a:Int)<(i:Int))=True:=Ji
  have q1:((0:Int)≤(a:Int))=True:=Ji
  simp -implicitDefEqProofs only [go_sem,q0,z,g]
  refine A0.pureF (F a) (by simp -implicitDefEqProofs only [go_sem,q]) ?_
  have hin:=fun x (C:x∈C5 code a)=>i2 C
  have U:=R5 code a
  have H:=B4r code a
  have A:=A8f code a
  have D:=fun k x=>B4q (code:=code) (a:=a) (k:=k) (x:=x)
  have hpl:=B5V code (a+1)
  have j: ∀k,k≤(C5 code a).length→(K6 code a k).length=(Z4 code a).length+k:=fun k J=>by
   rw [K6,List.length_append,List.length_map,List.length_take];omega
  generalize C5 code a=n at*
  have t: ∀(k:Nat) (x:Int),n[k]? =some x→(n.map zrw)[k]? =some [.int .i64 x]:=fun k x h=>P9 h
  have c:(n.map zrw).length=n.length:=List.length_map ..
  have v:=H1 n
  generalize n.map zrw=O at*
  refine QO ?_
  refine Run.keep [17,16,15,10,9,4,3,1] ?_
  refine Run.rounds (fun(y:Nat×Nat×Nat)=>⟨[(17,.int .i64 y.1),(16,.int .i64 n.length),(15,.isl O),(10,.int .i64 a),(9,.int .i64 i),(4,.int .i64 a),(3,.sl (111*10000+26) y.2.1 0 (K6 code a y.1).length),(1,.ptr (111*10000+1) 0 0 0)],
    [((111*10000+26),y.2.1,.rows 2 ((K6 code a y.1).map A4i)),((111*10000+1),0,.rows 11 [p])],y.2.2⟩)
   (fun y=>y.1≤n.length) (fun y=>n.length-y.1) (0,Y,m) zY (Nat.zero_le _) ?_
  rintro⟨k,G,M⟩ J o
  simp only at J o⊢
  refine Run.unf A1F (Run.go 100 ?_)
  by_cases l:k<n.length
  ·have w0:((k:Int)<(n.length:Int))=True:=Ji
   have w1:((0:Int)≤(k:Int))=True:=Ji
   obtain⟨x,C⟩: ∃x,n[k]? =some x:=⟨n[k],by simp [l]⟩
   have Q:=t k x C
   have K:((k+1:Nat):Int)=(k:Int)+1:=by omega
   have B:((K6 code a k).map A4i).length=(K6 code a k).length:=List.length_map ..
   have E:((K6 code a k).map A4i).take (K6 code a k).length=(K6 code a k).map A4i:=List.take_of_length_le (by rw [B];exact Nat.le_refl _)
   have N:C4 ((K6 code a k).map A4i) 2=True:=A8v A4i 2 (fun _=>rfl) _
   have b:=D k x C
   have I:(K6 code a (k+1)).map A4i=(K6 code a k).map A4i++ [[.int .i64 a,.int .i64 x]]:=by rw [b,List.map_append];rfl
   have S:(K6 code a (k+1)).length=(K6 code a k).length+1:=by rw [b];simp
   have hkk:=j k J
   have X:=j (k+1) l
   have R:=j n.length (Nat.le_refl _)
   rw [A]at R
   have fin:=fun s=>o s (k+1,M,M+1) zg zg
   clear o
   simp only [I,S]at fin
   generalize (K6 code a k).map A4i=EK at*
   generalize (K6 code a k).length=L at*
   simp -implicitDefEqProofs only [go_sem,w0,w1,c,v,Q,l,B,E,N,Option.some.injEq,forall_eq']
   exact⟨by omega,by omega,fin _ QC⟩
  ·have e:k=n.length:=by omega
   subst e
   have w:((a+1:Nat):Int)=(a:Int)+1:=by omega
   refine QN ?_
   refine⟨by omega,W _ (a+1,G,M) zg zg (C1.wk (by simp -implicitDefEqProofs only [go_sem,A,w]))⟩
 ·have e:a=i:=by omega
  subst e
  have T:((Z4 code a).map A4i).length=(Z4 code a).length:=List.length_map ..
  have ht:((Z4 code a).map A4i).take (Z4 code a).length=(Z4 code a).map A4i:=List.take_of_length_le (by rw [T];exact Nat.le_refl _)
  rw [u]
  simp -implicitDefEqProofs only [go_sem,Int.lt_irrefl,T]
  rw [u]at f
  exact f _ _
-- EV: Ins.v, Ins.row
def A4s(w:V)(s:Stt):V:= .agg [w,.int .i64 s.opn,.isl (s.marks.map zrw)]
def n7(N:Nat)(M:Nat→Option Stt)(k:Nat):V:=match M k with|some s=>A4s (.isl (B0 N s.set)) s|none=> .nils
def V8(N:Nat)(S:Nat→Nat)(M:Nat→Option Stt)(k:Nat):V:=match M k with|some s=>A4s (.sl (1000000000000+k) (S k) 0 N) s|none=> .nils
def K7(N:Nat)(M:Nat→Option Stt)(k:Nat):List (List V):=match M k with|some s=>B0 N s.set|none=> []
theorem B4F(N:Nat)(code:List Ins)(p:List V)(q:p.length=11)(j:p.take 11=p)(A:p[5]? =some (.isl (code.map Ins.row)))(a:Nat)(i:Ins)(G:code[a]? =some i)(b:Int)(D:code.length≤1000000)(s:Stt)(u:N≤100000)(C:Fit N i)(F:s.marks.length≤1000000)
  (t:List V) (h:A2) (n d:Nat) (Q:Res) (m:t.map (frz d h)= [.agg p,.agg [.int .i64 a,.int .i64 b],A4s (.isl (B0 N s.set)) s]) (nm:Nat) (y: ∀e∈h,e.1≠nm) (v: ∀e∈h,e.1≠(89*10000+5)) (w: ∀e∈h,e.1≠(190*10000+5))
  (B: ∀st g,n≤g→Q (A4s (.sl nm st 0 N) (C9 N i a b s)) ((nm,st,.rows 1 (B0 N (C9 N i a b s).set))::h) g):A0 Tryz.prog 153 t h n Q:=by
 refine(A0.lend (k:=fun r o g=>n≤g∧ ∃st c,r= .agg [.sl (190*10000+5) st 0 N,.int .i64 (C6 i).2,.sl (89*10000+5) c 0 (I7 i s.marks).length]∧
   o= [((190*10000+5),st,.rows 1 (B0 N (C9 N i a b s).set)),((89*10000+5),c,.rows 1 ((I7 i s.marks).map zrw))]++h)
  (C1P N code p q j A a i G b D s u C F n) d m ?_).wk ?_
 ·rintro r o g l ⟨st,c,rfl,rfl⟩
  refine⟨rfl,fun e f=> ?_,l,st,c,rfl,rfl⟩
  exact Yr
 ·rintro r o g ⟨l,st,c,rfl,rfl⟩
  have z:Wk ⟨[(0,.agg [.sl (190*10000+5) st 0 N,.int .i64 (C6 i).2,.sl (89*10000+5) c 0 (I7 i s.marks).length])],
    [((190*10000+5),st,.rows 1 (B0 N (C9 N i a b s).set)),((89*10000+5),c,.rows 1 ((I7 i s.marks).map zrw))]++h,g⟩
    ⟨[(0,.agg [.sl (190*10000+5) st 0 N,.int .i64 (C6 i).2,.isl ((I7 i s.marks).map zrw)])],
    ((190*10000+5),st,.rows 1 (B0 N (C9 N i a b s).set))::h,g⟩:=by
   refine Wk.freeze (b:=(89*10000+5)) (st:=c) (sz:=1) (rs:=(I7 i s.marks).map zrw) zf ⟨.agg ⟨.of (.refl _),.of (.refl _),.all zf,trivial⟩,trivial⟩ (A4E.of fun e f=> ?_)
   rcases List.mem_cons.1 f with rfl|f
   ·exact⟨by simp,by simp only;decide⟩
   ·exact⟨by simp [f],v e f⟩
  have E:Wk ⟨[(0,.agg [.sl (190*10000+5) st 0 N,.int .i64 (C6 i).2,.isl ((I7 i s.marks).map zrw)])],
    ((190*10000+5),st,.rows 1 (B0 N (C9 N i a b s).set))::h,g⟩
    ⟨[(0,A4s (.sl nm st 0 N) (C9 N i a b s))],(nm,st,.rows 1 (B0 N (C9 N i a b s).set))::h,g⟩:=by
   rw [A4s,A7h,A1M]
   refine Wk.turn (fun x=>if x=(190*10000+5)then nm else x) ⟨.agg ⟨.sl,.refl _,.refl _,trivial⟩,trivial⟩ (A0z.of fun e f=> ?_)
   rcases List.mem_cons.1 f with rfl|f
   ·exact⟨_,List.mem_cons_self,by simp,rfl,.refl _⟩
   ·exact⟨e,List.mem_cons_of_mem _ f,by rw [if_neg (w e f)],rfl,.refl _⟩
  exact⟨_,_,_,z.trans E,B st g l⟩
theorem B6d(N nm st n:Nat)(g:nm<1000000000000)(S:Nat→Nat)(M:Nat→Option Stt)(L:List Nat)(p: ∀k∈L,(M k).isSome): ∀l:List Nat,l.Nodup→(∀k∈l,k∈L)→
  Wk ⟨[(0,.mp nm st)],(nm,st,.map (Q7 L fun k=>if k∈l then V8 N S M k else n7 N M k))::O6 (K7 N M) S l,n⟩ ⟨[(0,.mp nm st)],[(nm,st,.map (Q7 L (n7 N M)))],n⟩
 | [],_,_=>by
  have e:(Q7 L fun k=>if k∈([]:List Nat)then V8 N S M k else n7 N M k)=Q7 L (n7 N M):=B1C fun x v=>by simp
  rw [e];exact .refl _
 | a::l,hn,hl=>by
  obtain⟨q,t⟩:=List.nodup_cons.1 hn
  refine Wk.trans ?_ (B6d N nm st n g S M L p l t fun k d=>hl k (List.mem_cons_of_mem _ d))
  refine Wk.freeze (b:=1000000000000+a) (st:=S a) (sz:=1) (rs:=K7 N M a) (by simp [O6,t6]) ⟨.of (.refl _),trivial⟩ ⟨⟨_,List.mem_cons_self,by simp only;omega,?_⟩,A4E.of fun e u=> ?_⟩
  ·refine A4D.map (by simp [Q7]) fun i w o=> ?_
   simp only [Q7,List.getElem?_map,Option.map_eq_some_iff]at o⊢
   obtain⟨k,d,rfl⟩:=o
   refine⟨_,⟨k,d,rfl⟩,.of (.refl _),?_⟩
   simp only
   by_cases c:k=a
   ·subst c
    rw [if_pos List.mem_cons_self,if_neg q]
    have m:=p k (List.mem_of_getElem? d)
    obtain⟨s,m⟩:=Option.isSome_iff_exists.1 m
    simp only [V8,n7,K7,m,A4s]
    exact .agg ⟨.all (D6 _ _).symm,.of (.refl _),.of (.refl _),trivial⟩
   ·have:(k∈a::l)↔(k∈l):=by simp [c]
    by_cases f:k∈l
    ·rw [if_pos (this.2 f),if_pos f];exact .of (.refl _)
    ·rw [if_neg (fun h=>f (this.1 h)),if_neg f];exact .of (.refl _)
  ·obtain⟨j,r,rfl⟩:=u5.1 u
   refine⟨List.mem_cons_of_mem _ (u5.2 ⟨j,List.mem_cons_of_mem _ r,rfl⟩),?_⟩
   simp only [t6]
   intro e
   exact q (by rw [show a=j by omega];exact r)
theorem C1d{F G:Nat→List (List V)}{S:Nat→Nat}{l:List Nat}{b:Nat}{e:Nat×Nat×Blk}(d: ∀k∈l,k≠b→G k=F k)(h:e∈O6 G S l):e=(1000000000000+b,S b,.rows 1 (G b))∨e∈A2.del (O6 F S l) (1000000000000+b):=by
 obtain⟨j,a,rfl⟩:=u5.1 h
 by_cases c:j=b
 ·subst c;left;rfl
 ·right
  refine A2.mem_del.2 ⟨u5.2 ⟨j,a,by simp [t6,d j a c]⟩,by simp only [t6];omega⟩
theorem B8i{F G:Nat→List (List V)}{S T:Nat→Nat}{l:List Nat}{b:Nat}(a: ∀k∈l,G k=F k∧T k=S k):O6 G T (l++ [b])=O6 F S l++ [(1000000000000+b,T b,.rows 1 (G b))]:=by
 simp only [O6,List.map_append,List.map_cons,List.map_nil,t6]
 congr 1
 refine List.map_congr_left fun k h=> ?_
 simp only [t6]
 rw [(a k h).1,(a k h).2]
end Go.Proofs.YtcaaenddpjepiaaGreatDoor
