/-
 The reference's verifier: the first state, copies, what is made not set. No condition.
-/
import Derived.Test.YtnihmhbcjpcobaaGreatDoorVerT
import Derived.Test.YtnihmhbcjpcobaaGreatDoorCode
import Derived.Test.YtnihmhbcjpcobaaGreatDoorVerP1
import Derived.Test.YtnihmhbcjpcobaaGreatDoorRr2
set_option linter.unusedVariables false
set_option linter.unusedSimpArgs false
set_option maxRecDepth 100000
set_option maxHeartbeats 0
namespace Go.Proofs.YtnihmhbcjpcobaaGreatDoor
open Go.Abs
attribute [local irreducible] A2 Run
-- EV: Ins.v, Ins.row
attribute [local go_sem] Ins.v Ins.row
theorem B7u(pr:List V)(h11:pr.length=11)(ht11:pr.take 11=pr)(params:Int)(N:Nat)(h4:pr[4]? =some (.int .i64 N))(h2:pr[2]? =some (.int .i64 params))(hNl:N≤100000)(hp0:0≤params)(hp1:params≤N)(n:Nat):
  A2 Tryz.prog 36 [.agg pr] [] n fun r h' n'=> ∃st,r= .agg [.sl (36*10000+7) st 0 N,.int .i64 (-1),.isl []]∧h'= [((36*10000+7),st,.rows 1 (A6 N (A1G N params).set))]:=by
 obtain⟨K,rfl⟩: ∃K:Nat,params=K:=⟨params.toNat,by omega⟩
 have hn0:=A8W N
 refine A2.enterK y8 (Nat.le_of_ble_eq_true rfl) fun Q hQ=>Run.go 100 ?_
 simp -implicitDefEqProofs only [go_sem,A4,h11,ht11,h4,h2]
 refine⟨by omega,by omega,?_⟩
 refine Run.keep [4,3,2,1] ?_
 refine Run.rounds (fun(k:Nat)=>⟨[(4,.int .i64 k),(3,.ptr (36*10000+3) (n+1+1+1) 0 0),(2,.ptr (36*10000+2) (n+1) 0 0),(1,.ptr (36*10000+1) n 0 0)],
   [((36*10000+3),n+1+1+1,.rows 3 [[.sl (36*10000+7) (n+1+1) 0 N,.int .i64 (-1),.nils]]),((36*10000+7),n+1+1,.rows 1 (A6 N fun r=>decide (r<k))),((36*10000+2),n+1,.rows 3 [[.nils,.int .i64 0,.nils]]),((36*10000+1),n,.rows 11 [pr])],n+1+1+1+1⟩)
  (fun k=>k≤K) (fun k=>K-k) 0 ?_ (Nat.zero_le _) ?_
 ·have:(A6 N fun r=>decide (r<0))=List.replicate N [.bool false]:=by rw [←hn0];exact C6 fun r hr=>by simp
  simp -implicitDefEqProofs only [go_sem,this]
 intro k hk ih
 refine Run.unf A3p (Run.go 100 ?_)
 have hlen:=C2 N fun r=>decide (r<k)
 have hz':=E6 N fun r=>decide (r<k)
 by_cases hlt:k<K
 ·have q0:((k:Int)<(K:Int))=True:=eq_true (by omega)
  have q1:((0:Int)≤(k:Int))=True:=eq_true (by omega)
  have hkN:k<N:=by omega
  have q2:((k:Int)<(N:Int))=True:=eq_true (by omega)
  have hat:=E5 (f:=fun r=>decide (r<k)) hkN
  have hset:=K6 (N:=N) (r:=k) (b:=true) (f:=fun r=>decide (r<k)) (fun r=>decide (r<k+1)) (fun x hx=>by
   by_cases c:x=k
   ·subst c;simp
   ·rw [if_neg c];exact decide_eq_decide.2 (by omega))
  have hzk:((k+1:Nat):Int)=(k:Int)+1:=by omega
  generalize (A6 N fun r=>decide (r<k))=es at*
  simp -implicitDefEqProofs only [go_sem,h11,h2,q0,q1,q2,hlen,hz',hat,hkN,Option.some.injEq,forall_eq']
  exact⟨by omega,ih _ (k+1) (by omega) (by omega) (by simp -implicitDefEqProofs only [go_sem,hzk,hset])⟩
 ·have e:k=K:=by omega
  subst e
  have:(A6 N fun r=>decide (r<k))=A6 N (A1G N k).set:=C6 fun r hr=>by
   have:decide ((r:Int)<(k:Int))=decide (r<k):=decide_eq_decide.2 (by omega)
   simp [A1G,hr,this]
  rw [this]
  simp -implicitDefEqProofs only [go_sem,h11,h2,Int.lt_irrefl]
  subst hQ
  exact .to ⟨_,rfl,rfl⟩ (.turn id ⟨.agg ⟨.refl _,.refl _,.nilI,trivial⟩,trivial⟩ (.at 2 rfl rfl (.refl _) trivial))
theorem A7Q(N:Nat)(f:Nat→Bool)(o m:V)(a:Int)(ha:0≤a)(hl:N≤100000000)(ha2:a≤100000000)(st n:Nat):
  A2 Tryz.prog 103 [.agg [.sl (102*10000+3) st 0 N,o,m],.int .i64 a] [((102*10000+3),st,.rows 1 (A6 N f))] n fun r h' n'=>h'= [((102*10000+3),st,.rows 1 (A6 N fun r=>f r&&decide ((r:Int)<a)))]:=by
 obtain⟨A,rfl⟩: ∃A:Nat,a=A:=⟨a.toNat,by omega⟩
 have hmx:((0:Int)<((A:Nat):Int))=(0<A):=by simp
 have hmn:(((A:Nat):Int)<0)=False:=eq_false (by omega)
 refine A2.enterK y5 (Nat.le_of_ble_eq_true rfl) fun Q hQ=>Run.go 100 ?_
 simp -implicitDefEqProofs only [go_sem,A4,hmn]
 refine Run.keep [4,2] ?_
 refine Run.rounds (fun(k:Nat)=>⟨[(4,.int .i64 ((A+k:Nat):Int)),(2,.ptr (103*10000+2) n 0 0)],[((103*10000+2),n,.rows 3 [[.sl (102*10000+3) st 0 N,o,m]]),((102*10000+3),st,.rows 1 (A6 N fun r=>f r&&(decide (r<A)||decide (A+k≤r))))],n+1⟩)
  (fun k=>k≤N-A) (fun k=>N-A-k) 0 ?_ (Nat.zero_le _) ?_
 ·have:(A6 N fun r=>f r&&(decide (r<A)||decide (A≤r)))=A6 N f:=C6 fun r hr=>by
   have:(decide (r<A)||decide (A≤r))=true:=by simp;omega
   rw [this,Bool.and_true]
  simp -implicitDefEqProofs only [go_sem,Nat.add_zero,this]
 intro k hk ih
 refine Run.unf A3o (Run.go 100 ?_)
 have hlen:=C2 N fun r=>f r&&(decide (r<A)||decide (A+k≤r))
 have hz':=E6 N fun r=>f r&&(decide (r<A)||decide (A+k≤r))
 by_cases hlt:A+k<N
 ·have q0:(((A+k:Nat):Int)<(N:Int))=True:=eq_true (by omega)
  have q1:((0:Int)≤((A+k:Nat):Int))=True:=eq_true (by omega)
  have hat:=E5 (f:=fun r=>f r&&(decide (r<A)||decide (A+k≤r))) hlt
  have hset:=K6 (N:=N) (r:=A+k) (b:=false) (f:=fun r=>f r&&(decide (r<A)||decide (A+k≤r))) (fun r=>f r&&(decide (r<A)||decide (A+(k+1)≤r))) (fun x hx=>by
   by_cases c:x=A+k
   ·subst c
    have:(decide (A+k<A)||decide (A+(k+1)≤A+k))=false:=by simp
    rw [if_pos rfl,this,Bool.and_false]
   ·rw [if_neg c]
    congr 1
    have:decide (A+(k+1)≤x)=decide (A+k≤x):=decide_eq_decide.2 (by omega)
    rw [this])
  have hzk:((A+(k+1):Nat):Int)=((A+k:Nat):Int)+1:=by omega
  generalize (A6 N fun r=>f r&&(decide (r<A)||decide (A+k≤r)))=es at*
  simp -implicitDefEqProofs only [go_sem,q0,q1,hlen,hz',hat,hlt,Option.some.injEq,forall_eq']
  refine⟨by omega,ih _ (k+1) (by omega) (by omega) (by simp -implicitDefEqProofs only [go_sem,hzk,hset])⟩
 ·have q0:(((A+k:Nat):Int)<(N:Int))=False:=eq_false (by omega)
  have hfin:(A6 N fun r=>f r&&(decide (r<A)||decide (A+k≤r)))=A6 N fun r=>f r&&decide ((r:Int)<A):=C6 fun r hr=>by
   have e1:decide (A+k≤r)=false:=decide_eq_false (by omega)
   have e2:decide ((r:Int)<(A:Int))=decide (r<A):=decide_eq_decide.2 (by omega)
   rw [e1,e2,Bool.or_false]
  simp -implicitDefEqProofs only [go_sem,q0,hfin]
  subst hQ;exact .to rfl (.sub (by simp -implicitDefEqProofs only [go_sem]))
theorem B5D(N:Nat)(f:Nat→Bool)(o:Int)(m:List Int)(hN:N≤100000)(hm:m.length≤1000000)(n:Nat):
  A2 Tryz.prog 102 [.agg [.isl (A6 N f),.int .i64 o,.isl (m.map zrw)]] [] n fun r h' n'=> ∃st st2,
   r= .agg [.sl (102*10000+3) st 0 N,.int .i64 o,.sl (102*10000+9) st2 0 m.length]∧
   h'= [((102*10000+3),st,.rows 1 (A6 N f)),((102*10000+9),st2,.rows 1 (m.map zrw))]:=by
 have hb:=C2 N f
 have hbz:=E6 N f
 have hl:(m.map zrw).length=m.length:=List.length_map ..
 have hz:=F7 m
 generalize A6 N f=FR at*
 generalize m.map zrw=MR at*
 refine A2.enterK Z6 (Nat.le_of_ble_eq_true rfl) fun Q hQ=>Run.go 100 ?_
 simp -implicitDefEqProofs only [go_sem,A4,hb,hbz,hl,hz]
 repeat' refine And.intro ?_ ?_
 all_goals first
  |omega
  |(subst hQ;exact .to ⟨_,_,rfl,rfl⟩ (.turn id ⟨.refl _,trivial⟩ (.at 2 rfl rfl (.refl _) (.at 1 rfl rfl (.refl _) trivial))))
  |(subst hQ;exact .to ⟨_,_,rfl,rfl⟩ (.turn id ⟨.refl _,trivial⟩ (.at 1 rfl rfl (.refl _) (.at 2 rfl rfl (.refl _) trivial))))
-- EV: Ins.v, Ins.row
attribute [local go_sem] Ins.v Ins.row
@[reducible] noncomputable def B7s (Q:Res):Cf:=⟨Tryz.prog,93,[.c 4 3 true],A3E Q,none⟩
def B0v(i:Ins)(N:Nat)(f:Nat→Bool)(o:Int)(m:List Int)(a3 a4 a5 st st2 n:Nat):St:=
 ⟨[(5,.ptr (77*10000+5) a5 0 0),(4,.ptr (77*10000+4) a4 0 0),(3,.ptr (77*10000+3) a3 0 0)],
  [((77*10000+5),a5,.rows 3 [[.sl (102*10000+3) st 0 N,.int .i64 o,.sl (102*10000+9) st2 0 m.length]]),((102*10000+3),st,.rows 1 (A6 N f)),((102*10000+9),st2,.rows 1 (m.map zrw)),((77*10000+4),a4,.rows 3 [[.nils,.int .i64 0,.nils]]),((77*10000+3),a3,.rows 5 [i.row])],n⟩
theorem B5F(N:Nat)(i:Ins)(f:Nat→Bool)(o:Int)(m:List Int)(hi:Fit N i)(hN:N≤100000)(hm:m.length≤1000000)(n:Nat)(REST:AC)(Q:Res)
  (key: ∀a3 a4 a5 st st2 n,Run (B7s Q) [.code REST] (B0v i N (A8s i f) (-1) m a3 a4 a5 st st2 n)):
  Run (B7s Q) [.code (.seq (A4r C0) (.seq (A4r (C5 C0)) (.seq (A4r (C5 (C5 C0))) (.seq (A4r (C5 (C5 (C5 C0)))) (.seq (A4r (C5 (C5 (C5 (C5 C0))))) REST)))))]
   ⟨A4 0 [.agg [.isl (A6 N f),.int .i64 o,.isl (m.map zrw)],i.v],[],n⟩:=by
 obtain⟨b1,b2,b3,b4,b5,b6,b7,b8,b9,ba⟩:=A2f hi.ok
 have hcp:=fun n=>B5D N f o m hN hm n
 by_cases c1:i.op=16
 ·have e1:A8s i f=fun r=>f r&&decide ((r:Int)<i.a):=if_pos c1
  rw [e1]at key
  refine Run.go 16 ?_
  simp -implicitDefEqProofs only [go_sem,A4,A4r,C5,c1]
  refine A2.at [] [0,1,2] (hcp _) rfl rfl ?_
  rintro r h' n1 hn1 ⟨st,st2,rfl,rfl⟩
  simp -implicitDefEqProofs only [go_sem,c1]
  refine A2.at [1] [0,2,3,4] (A7Q N f _ _ i.a (by omega) (by omega) (by omega) st _) rfl rfl ?_
  rintro r h' n2 hn2 rfl
  simp -implicitDefEqProofs only [go_sem,c1]
  refine Run.wk (B6.wk ?_) (key (n+1) (n+1+1) n1 st st2 n2)
  simp -implicitDefEqProofs only [go_sem,B0v,c1]
 by_cases c2:i.op=25
 ·have e1:A8s i f=fun r=>f r&&decide ((r:Int)<i.a+3):=by rw [A8s,if_neg c1,if_pos c2]
  rw [e1]at key
  refine Run.go 16 ?_
  simp -implicitDefEqProofs only [go_sem,A4,A4r,C5,c2]
  refine A2.at [] [0,1,2] (hcp _) rfl rfl ?_
  rintro r h' n1 hn1 ⟨st,st2,rfl,rfl⟩
  simp -implicitDefEqProofs only [go_sem,c2]
  refine⟨by omega,?_⟩
  refine A2.at [1] [0,2,3,4] (A7Q N f _ _ (i.a+3) (by omega) (by omega) (by omega) st _) rfl rfl ?_
  rintro r h' n2 hn2 rfl
  simp -implicitDefEqProofs only [go_sem,c2]
  refine Run.wk (B6.wk ?_) (key (n+1) (n+1+1) n1 st st2 n2)
  simp -implicitDefEqProofs only [go_sem,B0v,c2]
 have e1:A8s i f=f:=by rw [A8s,if_neg c1,if_neg c2]
 rw [e1]at key
 refine Run.go 16 ?_
 simp -implicitDefEqProofs only [go_sem,A4,A4r,C5,c1,c2]
 refine A2.at [] [0,1,2] (hcp _) rfl rfl ?_
 rintro r h' n1 hn1 ⟨st,st2,rfl,rfl⟩
 simp -implicitDefEqProofs only [go_sem,c1,c2]
 refine Run.wk (B6.wk ?_) (key (n+1) (n+1+1) n1 st st2 (n1+1))
 simp -implicitDefEqProofs only [go_sem,B0v]
theorem B7t(N:Nat)(i:Ins)(f:Nat→Bool)(m:List Int)(hi:Fit N i)(hN:N≤100000)(REST:AC)(Q:Res)
  (key: ∀a3 a4 a5 st st2 n,Run (B7s Q) [.code REST] (B0v i N (A9a N (B7 i) f) (B7 i).2 m a3 a4 a5 st st2 n)) (a3 a4 a5 st st2 n:Nat):
  Run (B7s Q) [.code (.seq (A4r (C5 (C5 (C5 (C5 (C5 C0)))))) (.seq (A4r (C5 (C5 (C5 (C5 (C5 (C5 C0))))))) (.seq (A4r (C5 (C5 (C5 (C5 (C5 (C5 (C5 C0)))))))) REST)))]
   (B0v i N f (-1) m a3 a4 a5 st st2 n):=by
 have hw:=B0D i
 obtain⟨hok,hws,hwo⟩:=hi
 have hwi:=A2R i
 have hal:(B7 i).1.length≤1000000:=A6b i
 unfold B0v at key⊢
 generalize m.map zrw=M at*
 generalize B7 i=w at*
 obtain⟨ws,wo⟩:=w
 simp only at hws hwo hwi hal key
 have lw:(ws.map zrw).length=ws.length:=List.length_map ..
 have zw:=F7 ws
 have aw: ∀(k:Nat) x,ws[k]? =some x→(ws.map zrw)[k]? =some [.int .i64 x]:=fun k x hk=>W8 hk
 generalize ws.map zrw=WS at*
 simp only [Ins.v,Ins.row]at hw
 refine Run.go 14 ?_
 simp -implicitDefEqProofs only [go_sem,A4r,C5]
 refine A2.pureF hw (by simp -implicitDefEqProofs only [go_sem]) ?_
 simp -implicitDefEqProofs only [go_sem,lw]
 refine Run.keep [8,7,6,5,4,3] ?_
 refine Run.rounds (fun(k:Nat)=>⟨[(8,.int .i64 k),(7,.int .i64 wo),(6,.isl WS),(5,.ptr (77*10000+5) a5 0 0),(4,.ptr (77*10000+4) a4 0 0),(3,.ptr (77*10000+3) a3 0 0)],
   [((77*10000+5),a5,.rows 3 [[.sl (102*10000+3) st 0 N,.int .i64 (-1),.sl (102*10000+9) st2 0 m.length]]),((102*10000+3),st,.rows 1 (A6 N fun r=>f r||(ws.take k).contains (r:Int))),((102*10000+9),st2,.rows 1 M),((77*10000+4),a4,.rows 3 [[.nils,.int .i64 0,.nils]]),((77*10000+3),a3,.rows 5 [i.row])],n⟩)
  (fun k=>k≤ws.length) (fun k=>ws.length-k) 0 ?_ (Nat.zero_le _) ?_
 ·simp -implicitDefEqProofs only [go_sem]
  exact C6 fun r hr=>by simp
 intro k hk ih
 refine Run.unf A2I ?_
 have hlen:=C2 N fun r=>f r||(ws.take k).contains (r:Int)
 have hz':=E6 N fun r=>f r||(ws.take k).contains (r:Int)
 by_cases hlt:k<ws.length
 ·have q0:((k:Int)<(ws.length:Int))=True:=eq_true (by omega)
  have q1:((0:Int)≤(k:Int))=True:=eq_true (by omega)
  obtain⟨x,hx⟩: ∃x,ws[k]? =some x:=⟨ws[k],by simp [hlt]⟩
  have hxr:=aw k x hx
  have hxb:=hws x (List.mem_of_getElem? hx)
  obtain⟨X,rfl⟩: ∃X:Nat,x=X:=⟨x.toNat,by omega⟩
  have hXN:X<N:=by omega
  have q2:((0:Int)≤(X:Int))=True:=eq_true (by omega)
  have q3:((X:Int)<(N:Int))=True:=eq_true (by omega)
  have hat:=E5 (f:=fun r=>f r||(ws.take k).contains (r:Int)) hXN
  have hset:=K6 (N:=N) (r:=X) (b:=true) (f:=fun r=>f r||(ws.take k).contains (r:Int)) (fun r=>f r||(ws.take (k+1)).contains (r:Int)) (fun y hy=>by
   rw [List.take_add_one,hx]
   by_cases c:y=X
   ·subst c;simp
   ·have: ¬(y:Int)=(X:Int):=by omega
    rw [if_neg c];simp [this])
  have hzk:((k+1:Nat):Int)=(k:Int)+1:=by omega
  generalize (A6 N fun r=>f r||(ws.take k).contains (r:Int))=es at*
  refine Run.go 100 ?_
  simp -implicitDefEqProofs only [go_sem,q0,q1,q2,q3,lw,zw,hxr,hlen,hz',hat,hlt,hXN,Option.some.injEq,forall_eq']
  exact⟨by omega,ih _ (k+1) (by omega) (by omega) (by simp -implicitDefEqProofs only [go_sem,hzk,hset])⟩
 ·have e:k=ws.length:=by omega
  subst e
  rw [List.take_length]at*
  by_cases c:0≤wo
  ·have hfin:(A6 N fun r=>(f r||ws.contains (r:Int))&&decide ((r:Int)<wo))=A6 N (A9a N (ws,wo) f):=C6 fun r hr=>by
    have e1:decide (wo<0)=false:=decide_eq_false (by omega)
    simp [A9a,hr,e1]
   have hu:=fun o=>A7Q N (fun r=>f r||ws.contains (r:Int)) o (.sl (102*10000+9) st2 0 m.length) wo c (by omega) (by omega) st n
   simp only [hfin]at hu
   generalize (A6 N fun r=>f r||ws.contains (r:Int))=es at*
   refine Run.go 12 ?_
   simp -implicitDefEqProofs only [go_sem,lw,Int.lt_irrefl,c,ge_iff_le]
   refine A2.at [1] [0,2,3,4] (hu _) rfl rfl ?_
   rintro r h' n' hn rfl
   simp -implicitDefEqProofs only [go_sem]
   refine Run.wk (B6.wk ?_) (key a3 a4 a5 st st2 n')
   simp -implicitDefEqProofs only [go_sem]
  ·have hfin:(A6 N fun r=>f r||ws.contains (r:Int))=A6 N (A9a N (ws,wo) f):=C6 fun r hr=>by
    have e1:decide (wo<0)=true:=decide_eq_true (by omega)
    simp [A9a,hr,e1]
   rw [hfin]
   have e:wo= -1:=by omega
   generalize A6 N (A9a N (ws,wo) f)=es at*
   subst e
   refine Run.go 10 ?_
   simp -implicitDefEqProofs only [go_sem,lw,Int.lt_irrefl,c,ge_iff_le]
   refine Run.wk (B6.wk ?_) (key a3 a4 a5 st st2 n)
   simp -implicitDefEqProofs only [go_sem]
theorem B5G(N:Nat)(i:Ins)(f:Nat→Bool)(o:Int)(m:List Int)(hi:Fit N i)(hN:N≤100000)(hm:m.length≤1000000)(Q:Res)
  (hQ:Q=fun r h' n'=> ∃st st2,r= .agg [.sl (102*10000+3) st 0 N,.int .i64 o,.sl (102*10000+9) st2 0 (F1 i m).length]∧h'= [((102*10000+3),st,.rows 1 (A6 N f)),((102*10000+9),st2,.rows 1 ((F1 i m).map zrw))]) (a3 a4 a5 st st2 n:Nat):
  Run (B7s Q) [.code (C5 (C5 (C5 (C5 (C5 (C5 (C5 (C5 C0))))))))] (B0v i N f o m a3 a4 a5 st st2 n):=by
 obtain⟨b1,b2,b3,b4,b5,b6,b7,b8,b9,ba⟩:=A2f hi.ok
 unfold B0v
 have hI:i.row= [.int .i64 i.op,.int .i64 i.a,.int .i64 i.b,.int .i64 i.c,.int .i64 i.d]:=rfl
 have la:(m.map zrw).length=m.length:=List.length_map ..
 have za:=F7 m
 by_cases c3:i.op=28
 ·have e2:F1 i m=m++ [i.a]:=if_pos c3
  rw [e2]at hQ
  have g3:(m.map zrw).take m.length=m.map zrw:=List.take_of_length_le (by omega)
  have g1:(m++ [i.a]).map zrw=m.map zrw++ [[.int .i64 i.a]]:=by rw [List.map_append];rfl
  have g2:(m++ [i.a]).length=m.length+1:=by simp
  rw [g1,g2]at hQ
  generalize m.map zrw=M at*
  refine Run.go 100 ?_
  simp -implicitDefEqProofs only [go_sem,C5,c3,la,za,g3]
  refine⟨by omega,?_⟩
  subst hQ
  exact .to ⟨st,n,rfl,rfl⟩ (.turn id ⟨.refl _,trivial⟩ (.at 3 rfl rfl (.refl _) (.at 2 rfl rfl (.refl _) trivial)))
 by_cases c4:i.op=27
 ·have e2:F1 i m=m.filter fun r=>decide (r<i.a):=by rw [F1,if_neg c3,if_pos c4]
  rw [e2]at hQ
  refine Run.go 100 ?_
  have ra: ∀(k:Nat) x,m[k]? =some x→(m.map zrw)[k]? =some [.int .i64 x]:=fun k x hk=>W8 hk
  have hfl: ∀k,((m.take k).filter fun r=>decide (r<i.a)).length≤1000000:=fun k=>by
   have h1:=List.length_filter_le (fun r=>decide (r<i.a)) (m.take k)
   have h2:(m.take k).length≤m.length:=by rw [List.length_take];omega
   omega
  generalize m.map zrw=M at*
  simp -implicitDefEqProofs only [go_sem,C5,c4,la,za]
  refine Run.keep [10,9,5,4,3] ?_
  refine Run.roundsK (fun(x:Nat×Nat×Nat)=>⟨[(10,.int .i64 x.1),(9,.sl (77*10000+89) x.2.1 0 ((m.take x.1).filter fun r=>decide (r<i.a)).length),(5,.ptr (77*10000+5) a5 0 0),(4,.ptr (77*10000+4) a4 0 0),(3,.ptr (77*10000+3) a3 0 0)],
    [((77*10000+89),x.2.1,.rows 1 (((m.take x.1).filter fun r=>decide (r<i.a)).map zrw)),((77*10000+5),a5,.rows 3 [[.sl (102*10000+3) st 0 N,.int .i64 o,.sl (102*10000+9) st2 0 m.length]]),((102*10000+3),st,.rows 1 (A6 N f)),((102*10000+9),st2,.rows 1 M),((77*10000+4),a4,.rows 3 [[.nils,.int .i64 0,.nils]]),((77*10000+3),a3,.rows 5 [[.int .i64 27,.int .i64 i.a,.int .i64 i.b,.int .i64 i.c,.int .i64 i.d]])],x.2.2⟩)
   (fun x=>x.1≤m.length) (fun x=>m.length-x.1) (0,n,n+1) ?_ (Nat.zero_le _) ?_
  ·exact .trans (.fresh (77*10000+89) 1 _ _ _) (.turn id ⟨.refl _,.nils,.refl _,.refl _,.refl _,trivial⟩ (.at 0 rfl rfl (.refl _) (.at 1 rfl rfl (.refl _) (.at 2 rfl rfl (.refl _) (.at 3 rfl rfl (.refl _) (.at 4 rfl rfl (.refl _) (.at 5 rfl rfl (.refl _) trivial)))))))
  rintro⟨k,s9,n2⟩ hk ih
  simp only at hk ih⊢
  refine Run.unf A2J (Run.go 100 ?_)
  have hfk:=hfl k
  by_cases hlt:k<m.length
  ·have q0:((k:Int)<(m.length:Int))=True:=eq_true (by omega)
   have q1:((0:Int)≤(k:Int))=True:=eq_true (by omega)
   obtain⟨x,hx⟩: ∃x,m[k]? =some x:=⟨m[k],by simp [hlt]⟩
   have hxr:=ra k x hx
   have hzk:((k+1:Nat):Int)=(k:Int)+1:=by omega
   by_cases cx:x<i.a
   ·have hF:(m.take (k+1)).filter (fun r=>decide (r<i.a))=(m.take k).filter (fun r=>decide (r<i.a))++ [x]:=by rw [List.take_add_one,hx,List.filter_append];simp [cx]
    have fin:=fun s a=>ih s (k+1,a,a+1) (by simp only;omega) (by simp only;omega)
    simp only [hF,List.map_append,List.map_cons,List.map_nil,List.length_append,List.length_singleton]at fin
    have lf:(((m.take k).filter fun r=>decide (r<i.a)).map zrw).length=((m.take k).filter fun r=>decide (r<i.a)).length:=List.length_map ..
    generalize ((m.take k).filter fun r=>decide (r<i.a)).length=FL at*
    have zf:=F7 ((m.take k).filter fun r=>decide (r<i.a))
    generalize ((m.take k).filter fun r=>decide (r<i.a)).map zrw=FR at*
    have gt:FR.take FL=FR:=List.take_of_length_le (by omega)
    simp -implicitDefEqProofs only [go_sem,q0,q1,la,za,hxr,hlt,cx,lf,zf,gt,Option.some.injEq,forall_eq']
    exact⟨by omega,⟨by omega,by omega⟩,fin _ n2 (B6.wk (by simp -implicitDefEqProofs only [go_sem,hzk];rfl))⟩
   ·have hF:(m.take (k+1)).filter (fun r=>decide (r<i.a))=(m.take k).filter (fun r=>decide (r<i.a)):=by rw [List.take_add_one,hx,List.filter_append];simp [cx]
    have fin:=fun s a b=>ih s (k+1,a,b) (by simp only;omega) (by simp only;omega)
    simp only [hF]at fin
    generalize ((m.take k).filter fun r=>decide (r<i.a)).length=FL at*
    generalize ((m.take k).filter fun r=>decide (r<i.a)).map zrw=FR at*
    simp -implicitDefEqProofs only [go_sem,q0,q1,la,za,hxr,hlt,cx,Option.some.injEq,forall_eq']
    exact⟨⟨by omega,by omega⟩,fin _ s9 n2 (B6.wk (by simp -implicitDefEqProofs only [go_sem,hzk]))⟩
  ·have e:k=m.length:=by omega
   subst e
   rw [List.take_length]at*
   simp -implicitDefEqProofs only [go_sem,Int.lt_irrefl]
   subst hQ
   exact .to ⟨st,s9,rfl,rfl⟩ (.turn (fun x=>if x=(77*10000+89)then(102*10000+9)else x) ⟨.agg ⟨.refl _,.refl _,.sl,trivial⟩,trivial⟩ (.at 3 rfl rfl (.refl _) (.at 2 rfl rfl (.refl _) trivial)))
 have e2:F1 i m=m:=by rw [F1,if_neg c3,if_neg c4]
 rw [e2]at hQ
 generalize m.map zrw=M at*
 refine Run.go 100 ?_
 simp -implicitDefEqProofs only [go_sem,C5,c3,c4]
 subst hQ
 exact .to ⟨st,st2,rfl,rfl⟩ (.turn id ⟨.refl _,trivial⟩ (.at 2 rfl rfl (.refl _) (.at 3 rfl rfl (.refl _) trivial)))
theorem B5E(N:Nat)(i:Ins)(s:Stt)(hN:N≤100000)(hi:Fit N i)(hm:s.marks.length≤1000000)(n:Nat):
  A2 Tryz.prog 77 [.agg [.isl (A6 N s.set),.int .i64 s.opn,.isl (s.marks.map zrw)],i.v] [] n fun r h' n'=> ∃st st2,
   r= .agg [.sl (102*10000+3) st 0 N,.int .i64 (B7 i).2,.sl (102*10000+9) st2 0 (F1 i s.marks).length]∧h'= [((102*10000+3),st,.rows 1 (A6 N (A5H N i s).set)),((102*10000+9),st2,.rows 1 ((F1 i s.marks).map zrw))]:=by
 refine A2.enterK Z9 (Nat.le_of_ble_eq_true rfl) fun Q hQ=> ?_
 refine B5F N i s.set s.opn s.marks hi hN hm n _ Q fun a3 a4 a5 st st2 n=> ?_
 refine B7t N i (A8s i s.set) s.marks hi hN _ Q (fun a3 a4 a5 st st2 n=> ?_) a3 a4 a5 st st2 n
 exact B5G N i (A9a N (B7 i) (A8s i s.set)) (B7 i).2 s.marks hi hN hm Q hQ a3 a4 a5 st st2 n
end Go.Proofs.YtnihmhbcjpcobaaGreatDoor
