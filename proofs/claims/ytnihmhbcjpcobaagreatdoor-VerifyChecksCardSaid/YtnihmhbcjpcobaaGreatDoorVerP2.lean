/-
 More steps of the verifier. No condition.
-/
import Derived.Test.YtnihmhbcjpcobaaGreatDoorVerP1
import Derived.Test.YtnihmhbcjpcobaaGreatDoorVerT
import Derived.Test.YtnihmhbcjpcobaaGreatDoorFnMb
set_option linter.unusedVariables false
set_option linter.unusedSimpArgs false
set_option maxRecDepth 100000
set_option maxHeartbeats 0
namespace Go.Proofs.YtnihmhbcjpcobaaGreatDoor
open Go.Abs
attribute [local irreducible] A2 Run
-- EV: Ins.v, Ins.row
attribute [local go_sem] Ins.v Ins.row
-- EV: Ins.v, Ins.row
theorem Fit.ends{N:Nat}{i:Ins}(h:Fit N i)(hop:i.op=23∨i.op=24):0≤i.a+3∧i.a+3<N:=by
 have hw:(B7 i).1=if i.op=23 then [i.a+3]else [i.a,i.a+3]:=by
  rw [show B7 i=wrs i from if_pos h.ok]
  rcases hop with c|c<;>simp [wrs,c]
 have:=h.ws (i.a+3) (by rw [hw];split<;>simp)
 omega
theorem B7j(N:Nat)(code:List Ins)(pr:List V)(h11:pr.length=11)(ht11:pr.take 11=pr)(h5:pr[5]? =some (.isl (code.map Ins.row)))(a:Nat)(i:Ins)(ha:code[a]? =some i)(b:Int)(hc:code.length≤1000000)(s:Stt)(hN:N≤100000)(hi:Fit N i)(hm:s.marks.length≤1000000)(n:Nat):
  A2 Tryz.prog 62 [.agg pr,.agg [.int .i64 a,.int .i64 b],.agg [.isl (A6 N s.set),.int .i64 s.opn,.isl (s.marks.map zrw)]] [] n fun r h' n'=> ∃st st2,
   r= .agg [.sl (107*10000+5) st 0 N,.int .i64 (B7 i).2,.sl (18*10000+5) st2 0 (F1 i s.marks).length]∧
   h'= [((107*10000+5),st,.rows 1 (A6 N (B4 N i a b s).set)),((18*10000+5),st2,.rows 1 ((F1 i s.marks).map zrw))]:=by
 have hal:a<code.length:=(List.getElem?_eq_some_iff.1 ha).1
 have k5:(code.map Ins.row).length=code.length:=List.length_map ..
 have z5:=A5U Ins.row 5 (fun _=>rfl) code
 have r5:(code.map Ins.row)[a]? =some (Ins.row i):=by rw [List.getElem?_map,ha];rfl
 generalize code.map Ins.row=rcode at*
 have q0:((a:Int)<(code.length:Int))=True:=eq_true (by omega)
 have q1:((0:Int)≤(a:Int))=True:=eq_true (by omega)
 have hcal:=B6D N i s hN hi hm
 simp only [Ins.v,Ins.row]at hcal r5
 have hends:=hi.ends
 have hok:=A2f hi.ok
 obtain⟨f,o,m⟩:=s
 simp only at hcal hm⊢
 have hlen:=C2 N f
 have hbz:=E6 N f
 refine A2.enterK A5r (Nat.le_of_ble_eq_true rfl) fun Q hQ=>Run.go 6 ?_
 simp -implicitDefEqProofs only [go_sem,A4,h11,ht11,h5,k5,z5,r5,q0,q1,hal,Option.some.injEq,forall_eq']
 refine A2.at [] [0,1,2,3,4] (hcal _) rfl rfl ?_
 rintro r h' n1 hn1 ⟨st,st2,rfl,rfl⟩
 simp -implicitDefEqProofs only [go_sem]
 refine Run.keep [8,7,6,5,4,3] ?_
 have hpo:(⟨f,o,m⟩:Stt).set=f:=rfl
 -- the three ways
 have hno:(P8 i a b=true∧f (i.a+3).toNat=false→False)→A6 N (B4 N i a b ⟨f,o,m⟩).set=A6 N (A5H N i ⟨f,o,m⟩).set:=fun h=>by
  unfold B4;rw [if_neg h]
 have hyes:P8 i a b=true∧f (i.a+3).toNat=false→A6 N (B4 N i a b ⟨f,o,m⟩).set=(A6 N (A5H N i ⟨f,o,m⟩).set).set (i.a+3).toNat [.bool false]:=fun h=>by
  refine(K6 _ fun x hx=> ?_).symm
  unfold B4;rw [if_pos h]
  have:=hok.2.1
  have h0:=hok
  by_cases c:x=(i.a+3).toNat
  ·have e:(x:Int)=i.a+3:=by omega
   rw [if_pos c];simp [e]
  ·have e: ¬(x:Int)=i.a+3:=by omega
   rw [if_neg c];simp [e]
 generalize A6 N (B4 N i a b ⟨f,o,m⟩).set=PS at*
 have hel:=C2 N (A5H N i ⟨f,o,m⟩).set
 have hez:=E6 N (A5H N i ⟨f,o,m⟩).set
 have heat: ∀r,r<N→ ∃v,(A6 N (A5H N i ⟨f,o,m⟩).set)[r]? =some [.bool v]:=fun r hr=>⟨_,E5 hr⟩
 generalize A6 N (A5H N i ⟨f,o,m⟩).set=ES at*
 have hfat: ∀r,r<N→(A6 N f)[r]? =some [.bool (f r)]:=fun r hr=>E5 hr
 generalize A6 N f=FSs at*
 have hii:(i.op=23∧b=i.b)∨(i.op=24∧b≠i.b)∨(i.op=24∧b=i.b∧i.b=(a:Int)+1)∨P8 i a b=false:=by
  unfold P8
  by_cases c1:i.op=23<;>by_cases c2:i.op=24<;>by_cases c3:b=i.b<;>by_cases c4:i.b=(a:Int)+1<;>simp [c1,c2,c3,c4]<;>omega
 rcases hii with⟨c1,c2⟩|⟨c1,c2⟩|⟨c1,c2,c3⟩|c0
 ·have he:P8 i a b=true:=by simp [P8,c1,c2]
  have hb:=hends (.inl c1)
  obtain⟨A3,hA3⟩: ∃A3:Nat,i.a+3=A3:=⟨(i.a+3).toNat,by omega⟩
  rw [hA3]at hb hno hyes
  have hAN:A3<N:=by omega
  rw [Int.toNat_natCast]at hno hyes
  have p0:((0:Int)≤(A3:Int))=True:=eq_true (by omega)
  have p1:((A3:Int)<(N:Int))=True:=eq_true (by omega)
  have hfa:=hfat A3 hAN
  obtain⟨v,hva⟩:=heat A3 hAN
  cases hf:f A3 with
  |false=>
   rw [hf]at hfa hno hyes
   have:=hyes ⟨he,rfl⟩
   subst this
   refine Run.go 100 ?_
   simp -implicitDefEqProofs only [go_sem,c1,c2,hA3,p0,p1,hfa,hva,hAN,hel,hez,hlen,hbz,Option.some.injEq,forall_eq']
   repeat refine⟨by omega,?_⟩
   subst hQ
   exact .to ⟨st,st2,rfl,rfl⟩ (.turn id ⟨.refl _,trivial⟩ (.at 1 rfl rfl (.refl _) (.at 3 rfl rfl (.refl _) trivial)))
  |true=>
   rw [hf]at hfa hno
   have:=hno (fun h=>by simp at h)
   subst this
   refine Run.go 100 ?_
   simp -implicitDefEqProofs only [go_sem,c1,c2,hA3,p0,p1,hfa,hva,hAN,hel,hez,hlen,hbz,Option.some.injEq,forall_eq']
   repeat refine⟨by omega,?_⟩
   subst hQ
   exact .to ⟨st,st2,rfl,rfl⟩ (.turn id ⟨.refl _,trivial⟩ (.at 2 rfl rfl (.refl _) (.at 3 rfl rfl (.refl _) trivial)))
 ·have he:P8 i a b=true:=by simp [P8,c1,c2]
  have hb:=hends (.inr c1)
  obtain⟨A3,hA3⟩: ∃A3:Nat,i.a+3=A3:=⟨(i.a+3).toNat,by omega⟩
  rw [hA3]at hb hno hyes
  have hAN:A3<N:=by omega
  rw [Int.toNat_natCast]at hno hyes
  have p0:((0:Int)≤(A3:Int))=True:=eq_true (by omega)
  have p1:((A3:Int)<(N:Int))=True:=eq_true (by omega)
  have hfa:=hfat A3 hAN
  obtain⟨v,hva⟩:=heat A3 hAN
  cases hf:f A3 with
  |false=>
   rw [hf]at hfa hno hyes
   have:=hyes ⟨he,rfl⟩
   subst this
   refine Run.go 100 ?_
   simp -implicitDefEqProofs only [go_sem,c1,c2,hA3,p0,p1,hfa,hva,hAN,hel,hez,hlen,hbz,Option.some.injEq,forall_eq']
   repeat refine⟨by omega,?_⟩
   subst hQ
   exact .to ⟨st,st2,rfl,rfl⟩ (.turn id ⟨.refl _,trivial⟩ (.at 1 rfl rfl (.refl _) (.at 3 rfl rfl (.refl _) trivial)))
  |true=>
   rw [hf]at hfa hno
   have:=hno (fun h=>by simp at h)
   subst this
   refine Run.go 100 ?_
   simp -implicitDefEqProofs only [go_sem,c1,c2,hA3,p0,p1,hfa,hva,hAN,hel,hez,hlen,hbz,Option.some.injEq,forall_eq']
   repeat refine⟨by omega,?_⟩
   subst hQ
   exact .to ⟨st,st2,rfl,rfl⟩ (.turn id ⟨.refl _,trivial⟩ (.at 2 rfl rfl (.refl _) (.at 3 rfl rfl (.refl _) trivial)))
 ·have he:P8 i a b=true:=by simp [P8,c1,c2,c3]
  have hb:=hends (.inr c1)
  obtain⟨A3,hA3⟩: ∃A3:Nat,i.a+3=A3:=⟨(i.a+3).toNat,by omega⟩
  rw [hA3]at hb hno hyes
  have hAN:A3<N:=by omega
  rw [Int.toNat_natCast]at hno hyes
  have p0:((0:Int)≤(A3:Int))=True:=eq_true (by omega)
  have p1:((A3:Int)<(N:Int))=True:=eq_true (by omega)
  have hfa:=hfat A3 hAN
  obtain⟨v,hva⟩:=heat A3 hAN
  cases hf:f A3 with
  |false=>
   rw [hf]at hfa hno hyes
   have:=hyes ⟨he,rfl⟩
   subst this
   refine Run.go 100 ?_
   simp -implicitDefEqProofs only [go_sem,c1,c2,c3,hA3,p0,p1,hfa,hva,hAN,hel,hez,hlen,hbz,Option.some.injEq,forall_eq']
   repeat refine⟨by omega,?_⟩
   subst hQ
   exact .to ⟨st,st2,rfl,rfl⟩ (.turn id ⟨.refl _,trivial⟩ (.at 1 rfl rfl (.refl _) (.at 3 rfl rfl (.refl _) trivial)))
  |true=>
   rw [hf]at hfa hno
   have:=hno (fun h=>by simp at h)
   subst this
   refine Run.go 100 ?_
   simp -implicitDefEqProofs only [go_sem,c1,c2,c3,hA3,p0,p1,hfa,hva,hAN,hel,hez,hlen,hbz,Option.some.injEq,forall_eq']
   repeat refine⟨by omega,?_⟩
   subst hQ
   exact .to ⟨st,st2,rfl,rfl⟩ (.turn id ⟨.refl _,trivial⟩ (.at 2 rfl rfl (.refl _) (.at 3 rfl rfl (.refl _) trivial)))
 have:=hno (fun h=>by rw [c0]at h;simp at h)
 subst this
 by_cases c1:i.op=23
 ·have c2: ¬b=i.b:=fun e=>by simp [P8,c1,e]at c0
  refine Run.go 100 ?_
  simp -implicitDefEqProofs only [go_sem,c1,c2,h11,ht11]
  repeat refine⟨by omega,?_⟩
  subst hQ
  exact .to ⟨st,st2,rfl,rfl⟩ (.turn id ⟨.refl _,trivial⟩ (.at 2 rfl rfl (.refl _) (.at 3 rfl rfl (.refl _) trivial)))
 by_cases c2:i.op=24
 ·have c3:b=i.b:=by
   refine Decidable.byContradiction fun e=> ?_
   simp [P8,c2,e]at c0
  have c4: ¬i.b=(a:Int)+1:=fun e=>by simp [P8,c2,c3,e]at c0
  refine Run.go 100 ?_
  simp -implicitDefEqProofs only [go_sem,c2,c3,c4,h11,ht11]
  repeat refine⟨by omega,?_⟩
  subst hQ
  exact .to ⟨st,st2,rfl,rfl⟩ (.turn id ⟨.refl _,trivial⟩ (.at 2 rfl rfl (.refl _) (.at 3 rfl rfl (.refl _) trivial)))
 ·refine Run.go 100 ?_
  simp -implicitDefEqProofs only [go_sem,c1,c2,h11,ht11]
  repeat refine⟨by omega,?_⟩
  subst hQ
  exact .to ⟨st,st2,rfl,rfl⟩ (.turn id ⟨.refl _,trivial⟩ (.at 2 rfl rfl (.refl _) (.at 3 rfl rfl (.refl _) trivial)))
-- EV: Ins.v, Ins.row
theorem C0M(N:Nat)(f g:Nat→Bool)(hN:N≤100000)(b st1 st2:Nat)(o1 o2 m1 m2:V)(n:Nat):
  A2 Tryz.prog 63 [.agg [.sl (1000000000000+b) st1 0 N,o1,m1],.agg [.sl (107*10000+5) st2 0 N,o2,m2]]
   [(1000000000000+b,st1,.rows 1 (A6 N f)),((107*10000+5),st2,.rows 1 (A6 N g))] n fun r h' n'=>
   r= .bool ((List.range N).any fun r=>f r&& !g r)∧h'= [(1000000000000+b,st1,.rows 1 (A6 N fun r=>f r&&g r)),((107*10000+5),st2,.rows 1 (A6 N g))]:=by
 obtain⟨B,hB⟩: ∃B,B=1000000000000+b:=⟨_,rfl⟩
 have hbq: ∀k:Nat,k<1000000000000→(k=B)=False:=fun k h=>eq_false (by omega)
 have hbq2: ∀k:Nat,k<1000000000000→(B=k)=False:=fun k h=>eq_false (by omega)
 rw [←hB]
 have gl:=C2 N g
 have gz:=E6 N g
 have ga: ∀r,r<N→(A6 N g)[r]? =some [.bool (g r)]:=fun r hr=>E5 hr
 generalize A6 N g=G at*
 refine A2.enterK A8b (Nat.le_of_ble_eq_true rfl) fun Q hQ=>Run.go 100 ?_
 simp -implicitDefEqProofs only [go_sem,A4,hbq,hbq2]
 refine Run.rounds (fun(k:Nat)=>⟨[(10,.int .i64 k),(9,.int .i64 N),(5,.bool ((List.range k).any fun r=>f r&& !g r)),(3,.ptr (63*10000+3) (n+1) 0 0),(2,.ptr (63*10000+2) n 0 0)],
  [((63*10000+3),n+1,.rows 3 [[.sl (107*10000+5) st2 0 N,o2,m2]]),((63*10000+2),n,.rows 3 [[.sl B st1 0 N,o1,m1]]),(B,st1,.rows 1 (A6 N fun r=>f r&&(g r||decide (k≤r)))),((107*10000+5),st2,.rows 1 G)],n+1+1⟩)
  (fun k=>k≤N) (fun k=>N-k) 0 ?_ (Nat.zero_le _) ?_
 ·have:(A6 N fun r=>f r&&(g r||decide (0≤r)))=A6 N f:=C6 fun r hr=>by simp
  simp -implicitDefEqProofs only [go_sem,this,hbq,hbq2]
  rfl
 intro k hk ih
 refine Run.unf B0N (Run.go 100 ?_)
 have hlen:=C2 N fun r=>f r&&(g r||decide (k≤r))
 have hz':=E6 N fun r=>f r&&(g r||decide (k≤r))
 by_cases hlt:k<N
 ·have q0:((k:Int)<(N:Int))=True:=eq_true (by omega)
  have q1:((0:Int)≤(k:Int))=True:=eq_true (by omega)
  have hat:=E5 (f:=fun r=>f r&&(g r||decide (k≤r))) hlt
  have hgk:=ga k hlt
  have hkk:decide (k≤k)=true:=by simp
  rw [hkk,Bool.or_true,Bool.and_true]at hat
  have hany:((List.range (k+1)).any fun r=>f r&& !g r)=(((List.range k).any fun r=>f r&& !g r)||(f k&& !g k)):=by simp [List.range_succ]
  have hset:=K6 (N:=N) (r:=k) (b:=false) (f:=fun r=>f r&&(g r||decide (k≤r))) (fun r=>f r&&(g r||decide (k+1≤r)))
  have hsame:(f k&& !g k)=false→(A6 N fun r=>f r&&(g r||decide (k+1≤r)))=A6 N fun r=>f r&&(g r||decide (k≤r)):=fun h=>C6 fun r hr=>by
   by_cases c:r=k
   ·subst c
    cases hf:f r<;>cases hg:g r<;>simp [hf,hg]at h⊢
   ·have:decide (k+1≤r)=decide (k≤r):=decide_eq_decide.2 (by omega)
    rw [this]
  have hset:=fun h:(f k&& !g k)=true=>hset fun x hx=>by
   by_cases c:x=k
   ·subst c
    cases hf:f x<;>cases hg:g x<;>simp [hf,hg]at h⊢
   ·have:decide (k+1≤x)=decide (k≤x):=decide_eq_decide.2 (by omega)
    rw [if_neg c,this]
  have hzk:((k+1:Nat):Int)=(k:Int)+1:=by omega
  have fin:=fun s=>ih s (k+1) (by omega) (by omega)
  clear ih
  simp only [hany]at fin
  generalize (A6 N fun r=>f r&&(g r||decide (k≤r)))=es at*
  generalize ((List.range k).any fun r=>f r&& !g r)=ch at*
  cases hf:f k with
  |false=>
   rw [hf]at hat hsame fin
   have hsame:=hsame rfl
   simp -implicitDefEqProofs only [go_sem,q0,q1,hlen,hz',hat,hlt,hbq,hbq2,Option.some.injEq,forall_eq']
   exact⟨by omega,fin _ (by simp -implicitDefEqProofs only [go_sem,hzk,hsame,hbq,hbq2,Bool.false_and,Bool.or_false])⟩
  | true=>
   cases hg:g k with
   |true=>
    rw [hf]at hat hsame fin
    rw [hg]at hgk hsame fin
    have hsame:=hsame rfl
    simp -implicitDefEqProofs only [go_sem,q0,q1,hlen,hz',hat,hlt,hgk,gl,gz,hbq,hbq2,Option.some.injEq,forall_eq']
    exact⟨by omega,fin _ (by simp -implicitDefEqProofs only [go_sem,hzk,hsame,hbq,hbq2,Bool.not_true,Bool.and_false,Bool.or_false])⟩
   |false=>
    rw [hf]at hat hset fin
    rw [hg]at hgk hset fin
    have hset:=hset rfl
    simp -implicitDefEqProofs only [go_sem,q0,q1,hlen,hz',hat,hlt,hgk,gl,gz,hbq,hbq2,Option.some.injEq,forall_eq']
    exact⟨by omega,fin _ (by simp -implicitDefEqProofs only [go_sem,hzk,hset,hbq,hbq2,Bool.not_false,Bool.and_true,Bool.or_true])⟩
 ·have e:k=N:=by omega
  subst e
  have:(A6 k fun r=>f r&&(g r||decide (k≤r)))=A6 k fun r=>f r&&g r:=C6 fun r hr=>by
   have:decide (k≤r)=false:=decide_eq_false (by omega)
   rw [this,Bool.or_false]
  rw [this]
  simp -implicitDefEqProofs only [go_sem,Int.lt_irrefl]
  subst hQ
  exact .to ⟨rfl,rfl⟩ (.turn id ⟨.refl _,trivial⟩ (.at 2 rfl rfl (.refl _) (.at 3 rfl rfl (.refl _) trivial)))
theorem B8p(pr:List V)(h11:pr.length=11)(ht11:pr.take 11=pr)(regs params:Int)(h4:pr[4]? =some (.int .i64 regs))(h2:pr[2]? =some (.int .i64 params))(N:Nat)(hN:regs=N)(hNl:N≤100000)(hp0:0≤params)(hp1:params≤N)(n:Nat):
  A2 Tryz.prog 61 [.agg pr] [] n fun r h' n'=> ∃st,r= .agg [.sl (61*10000+7) st 0 N,.int .i64 (-1),.isl []]∧h'= [((61*10000+7),st,.rows 1 (A6 N (A1G N params).set))]:=by
 obtain⟨K,rfl⟩: ∃K:Nat,params=K:=⟨params.toNat,by omega⟩
 subst hN
 have hn0:=A8W N
 refine A2.enterK A6M (Nat.le_of_ble_eq_true rfl) fun Q hQ=>Run.go 100 ?_
 simp -implicitDefEqProofs only [go_sem,A4,h11,ht11,h4,h2]
 refine⟨by omega,by omega,?_⟩
 refine Run.keep [11,10,3,2] ?_
 refine Run.rounds (fun(k:Nat)=>⟨[(11,.int .i64 k),(10,.int .i64 K),(3,.ptr (61*10000+3) (n+1+1+1) 0 0),(2,.ptr (61*10000+2) (n+1) 0 0)],
   [((61*10000+3),n+1+1+1,.rows 3 [[.sl (61*10000+7) (n+1+1) 0 N,.int .i64 (-1),.nils]]),((61*10000+7),n+1+1,.rows 1 (A6 N fun r=>decide (r<k))),((61*10000+2),n+1,.rows 3 [[.nils,.int .i64 0,.nils]])],n+1+1+1+1⟩)
  (fun k=>k≤K) (fun k=>K-k) 0 ?_ (Nat.zero_le _) ?_
 ·have:(A6 N fun r=>decide (r<0))=List.replicate N [.bool false]:=by rw [←hn0];exact C6 fun r hr=>by simp
  simp -implicitDefEqProofs only [go_sem,this]
 intro k hk ih
 refine Run.unf A9H (Run.go 100 ?_)
 have hlen:=C2 N fun r=>decide (r<k)
 have hz':=E6 N fun r=>decide (r<k)
 by_cases hlt:k<K
 ·have q0:((k:Int)<(K:Int))=True:=eq_true (by omega)
  have q1:((0:Int)≤(k:Int))=True:=eq_true (by omega)
  have hkN:k<N:=by omega
  have q2:((k:Int)<(N:Int))=True:=eq_true (by omega)
  have hat:=E5 (f:=fun r=>decide (r<k)) hkN
  have hset:=K6 (N:=N) (r:=k) (b:=true) (f:=fun r=>decide (r<k)) (fun r=>decide (r<k+1)) (fun x hx=>by
   by_cases c:x=k
   ·subst c;simp
   ·rw [if_neg c];exact decide_eq_decide.2 (by omega))
  have hzk:((k+1:Nat):Int)=(k:Int)+1:=by omega
  generalize (A6 N fun r=>decide (r<k))=es at*
  simp -implicitDefEqProofs only [go_sem,q0,q1,q2,hlen,hz',hat,hkN,Option.some.injEq,forall_eq']
  exact⟨by omega,ih _ (k+1) (by omega) (by omega) (by simp -implicitDefEqProofs only [go_sem,hzk,hset])⟩
 ·have e:k=K:=by omega
  subst e
  have:(A6 N fun r=>decide (r<k))=A6 N (A1G N k).set:=C6 fun r hr=>by
   have:decide ((r:Int)<(k:Int))=decide (r<k):=decide_eq_decide.2 (by omega)
   simp [A1G,hr,this]
  rw [this]
  simp -implicitDefEqProofs only [go_sem,Int.lt_irrefl]
  subst hQ
  exact .to ⟨_,rfl,rfl⟩ (.turn id ⟨.agg ⟨.refl _,.refl _,.nilI,trivial⟩,trivial⟩ (.at 2 rfl rfl (.refl _) trivial))
def O5(code:List Ins)(a:Nat):List (Nat×Int):=(List.range a).flatMap fun(a:Nat)=>(C7 code a).map fun(b:Int)=>(a,b)
def G5(code:List Ins)(a k:Nat):List (Nat×Int):=O5 code a++((C7 code a).take k).map fun(b:Int)=>(a,b)
theorem B1C(code:List Ins)(a:Nat):G5 code a 0=O5 code a:=by simp [G5]
theorem A5G(code:List Ins)(a:Nat):G5 code a (C7 code a).length=O5 code (a+1):=by
 rw [G5,List.take_length,O5,O5,List.range_succ,List.flatMap_append];simp
theorem B1B{code:List Ins}{a k:Nat}{x:Int}(h:(C7 code a)[k]? =some x):G5 code a (k+1)=G5 code a k++ [(a,x)]:=by
 rw [G5,G5,List.take_add_one,h,List.map_append,List.append_assoc];rfl
theorem B2L(code:List Ins)(a:Nat):(O5 code a).length≤2*a:=by
 induction a with
 |zero=>simp [O5]
 |succ a ih=>
  rw [←A5G,G5,List.take_length,List.length_append,List.length_map]
  have:=A3a code a
  omega
theorem B8m(code:List Ins)(pr:List V)(h11:pr.length=11)(ht11:pr.take 11=pr)(h5:pr[5]? =some (.isl (code.map Ins.row)))(hsub:pr.map (V.sub H0)=pr)(hc:code.length≤100000)
  (hnx: ∀a:Int,Pure Tryz.prog 64 [.agg pr,.int .i64 a] (.isl ((C7 code a).map zrw))):Pure Tryz.prog 31 [.agg pr] (.isl ((D1 code).map A2h)):=by
 have k5:(code.map Ins.row).length=code.length:=List.length_map ..
 generalize code.map Ins.row=rcode at*
 refine Pure.of 1 (A2.enter A6K (Nat.le_of_ble_eq_true rfl) (Run.go 100 ?_))
 simp -implicitDefEqProofs only [go_sem,A4,h11,ht11,h5,k5]
 refine Run.keep [10,9,3,1] ?_
 have hfrz: ∀d h,((D1 code).map A2h).map (fun r=>r.map (frz d h))=(D1 code).map A2h:=fun d h=>by
  obtain⟨φ,e⟩:=D8 (d:=d) (h:=h)
  rw [e,List.map_map]
  exact List.map_congr_left fun y _=>by simp [A2h,V.sub]
 have hal:D1 code=O5 code code.length:=rfl
 generalize hnn:code.length=nn at*
 refine Run.roundsK (fun(x:Nat×Nat×Nat)=>⟨[(10,.int .i64 x.1),(9,.int .i64 nn),(3,.sl (31*10000+26) x.2.1 0 (O5 code x.1).length),(1,.ptr (31*10000+1) 0 0 0)],
   [((31*10000+26),x.2.1,.rows 2 ((O5 code x.1).map A2h)),((31*10000+1),0,.rows 11 [pr])],x.2.2⟩)
  (fun x=>x.1≤nn) (fun x=>nn-x.1) (0,1,2) ?_ (Nat.zero_le _) ?_
 ·exact .trans (.fresh (31*10000+26) 2 _ _ _) (.turn id ⟨.refl _,.refl _,.nils,.refl _,trivial⟩ (.at 0 rfl rfl (.refl _) (.at 1 rfl rfl (.refl _) trivial)))
 rintro⟨a,st,m⟩ ha ih
 simp only at ha ih⊢
 refine Run.unf A9F (Run.go 100 ?_)
 by_cases hlt:a<nn
 ·have q0:((a:Int)<(nn:Int))=True:=eq_true (by omega)
  have q1:((0:Int)≤(a:Int))=True:=eq_true (by omega)
  simp -implicitDefEqProofs only [go_sem,q0,h11,ht11]
  refine A2.pureF (hnx a) (by simp -implicitDefEqProofs only [go_sem,hsub]) ?_
  have hin:=fun x (hx:x∈C7 code a)=>A4C hx
  have hnl2:=A3a code a
  have hz0:=B1C code a
  have hza:=A5G code a
  have hzs:=fun k x=>B1B (code:=code) (a:=a) (k:=k) (x:=x)
  have hpl:=B2L code (a+1)
  have hkl: ∀k,k≤(C7 code a).length→(G5 code a k).length=(O5 code a).length+k:=fun k hk=>by
   rw [G5,List.length_append,List.length_map,List.length_take];omega
  generalize C7 code a=nl at*
  have hnls: ∀(k:Nat) (x:Int),nl[k]? =some x→(nl.map zrw)[k]? =some [.int .i64 x]:=fun k x h=>W8 h
  have hnll:(nl.map zrw).length=nl.length:=List.length_map ..
  have hnlz:=F7 nl
  generalize nl.map zrw=nls at*
  simp -implicitDefEqProofs only [go_sem,hnll]
  refine Run.keep [17,16,15,10,9,4,3,1] ?_
  refine Run.rounds (fun(y:Nat×Nat×Nat)=>⟨[(17,.int .i64 y.1),(16,.int .i64 nl.length),(15,.isl nls),(10,.int .i64 a),(9,.int .i64 nn),(4,.int .i64 a),(3,.sl (31*10000+26) y.2.1 0 (G5 code a y.1).length),(1,.ptr (31*10000+1) 0 0 0)],
    [((31*10000+26),y.2.1,.rows 2 ((G5 code a y.1).map A2h)),((31*10000+1),0,.rows 11 [pr])],y.2.2⟩)
   (fun y=>y.1≤nl.length) (fun y=>nl.length-y.1) (0,st,m) (by simp -implicitDefEqProofs only [go_sem,hz0]) (Nat.zero_le _) ?_
  rintro⟨k,st2,m2⟩ hk ih2
  simp only at hk ih2⊢
  refine Run.unf A9G (Run.go 100 ?_)
  by_cases hlk:k<nl.length
  ·have w0:((k:Int)<(nl.length:Int))=True:=eq_true (by omega)
   have w1:((0:Int)≤(k:Int))=True:=eq_true (by omega)
   obtain⟨x,hx⟩: ∃x,nl[k]? =some x:=⟨nl[k],by simp [hlk]⟩
   have hxr:=hnls k x hx
   have hzk:((k+1:Nat):Int)=(k:Int)+1:=by omega
   have hEl:((G5 code a k).map A2h).length=(G5 code a k).length:=List.length_map ..
   have hEt:((G5 code a k).map A2h).take (G5 code a k).length=(G5 code a k).map A2h:=List.take_of_length_le (by rw [hEl];exact Nat.le_refl _)
   have hEz:C4 ((G5 code a k).map A2h) 2=True:=A5U A2h 2 (fun _=>rfl) _
   have hsucc:=hzs k x hx
   have hs1:(G5 code a (k+1)).map A2h=(G5 code a k).map A2h++ [[.int .i64 a,.int .i64 x]]:=by rw [hsucc,List.map_append];rfl
   have hs2:(G5 code a (k+1)).length=(G5 code a k).length+1:=by rw [hsucc];simp
   have hkk:=hkl k hk
   have hk1:=hkl (k+1) hlk
   have hka:=hkl nl.length (Nat.le_refl _)
   rw [hza]at hka
   have fin:=fun s=>ih2 s (k+1,m2,m2+1) (by simp only;omega) (by simp only;omega)
   clear ih2
   simp only [hs1,hs2]at fin
   generalize (G5 code a k).map A2h=EK at*
   generalize (G5 code a k).length=L at*
   simp -implicitDefEqProofs only [go_sem,w0,w1,hnll,hnlz,hxr,hlk,hEl,hEt,hEz,Option.some.injEq,forall_eq']
   exact⟨by omega,by omega,fin _ (by simp -implicitDefEqProofs only [go_sem,hzk])⟩
  ·have e:k=nl.length:=by omega
   subst e
   have hza':((a+1:Nat):Int)=(a:Int)+1:=by omega
   simp -implicitDefEqProofs only [go_sem,Int.lt_irrefl]
   refine⟨by omega,ih _ (a+1,st2,m2) (by simp only;omega) (by simp only;omega) (B6.wk (by simp -implicitDefEqProofs only [go_sem,hza,hza']))⟩
 ·have e:a=nn:=by omega
  subst e
  have hl:((O5 code a).map A2h).length=(O5 code a).length:=List.length_map ..
  have ht:((O5 code a).map A2h).take (O5 code a).length=(O5 code a).map A2h:=List.take_of_length_le (by rw [hl];exact Nat.le_refl _)
  rw [hal]
  simp -implicitDefEqProofs only [go_sem,Int.lt_irrefl,hl]
  rw [hal]at hfrz
  exact hfrz _ _
-- EV: Ins.v, Ins.row
def A2n(w:V)(s:Stt):V:= .agg [w,.int .i64 s.opn,.isl (s.marks.map zrw)]
def R1(N:Nat)(M:Nat→Option Stt)(k:Nat):V:=match M k with|some s=>A2n (.isl (A6 N s.set)) s|none=> .nils
def L4(N:Nat)(S:Nat→Nat)(M:Nat→Option Stt)(k:Nat):V:=match M k with|some s=>A2n (.sl (1000000000000+k) (S k) 0 N) s|none=> .nils
def G6(N:Nat)(M:Nat→Option Stt)(k:Nat):List (List V):=match M k with|some s=>A6 N s.set|none=> []
theorem B1O(N:Nat)(code:List Ins)(pr:List V)(h11:pr.length=11)(ht11:pr.take 11=pr)(h5:pr[5]? =some (.isl (code.map Ins.row)))(a:Nat)(i:Ins)(ha:code[a]? =some i)(b:Int)(hc:code.length≤1000000)(s:Stt)(hN:N≤100000)(hi:Fit N i)(hm:s.marks.length≤1000000)
  (xs:List V) (h:A0) (n d:Nat) (Q:Res) (has:xs.map (frz d h)= [.agg pr,.agg [.int .i64 a,.int .i64 b],A2n (.isl (A6 N s.set)) s]) (nm:Nat) (hnm: ∀e∈h,e.1≠nm) (hM: ∀e∈h,e.1≠(18*10000+5)) (hB: ∀e∈h,e.1≠(107*10000+5))
  (hk: ∀st n',n≤n'→Q (A2n (.sl nm st 0 N) (B4 N i a b s)) ((nm,st,.rows 1 (A6 N (B4 N i a b s).set))::h) n'):A2 Tryz.prog 62 xs h n Q:=by
 refine(A2.lend (k:=fun r h' n'=>n≤n'∧ ∃st st2,r= .agg [.sl (107*10000+5) st 0 N,.int .i64 (B7 i).2,.sl (18*10000+5) st2 0 (F1 i s.marks).length]∧
   h'= [((107*10000+5),st,.rows 1 (A6 N (B4 N i a b s).set)),((18*10000+5),st2,.rows 1 ((F1 i s.marks).map zrw))]++h)
  (B7j N code pr h11 ht11 h5 a i ha b hc s hN hi hm n) d has ?_).wk ?_
 ·rintro r h' n' hn ⟨st,st2,rfl,rfl⟩
  refine⟨rfl,fun e he=> ?_,hn,st,st2,rfl,rfl⟩
  simp only [List.mem_cons,List.not_mem_nil,or_false]at he
  rcases he with rfl|rfl
  ·exact B2C _ _
  ·exact B7V _
 ·rintro r h' n' ⟨hn,st,st2,rfl,rfl⟩
  have w1:Wk ⟨[(0,.agg [.sl (107*10000+5) st 0 N,.int .i64 (B7 i).2,.sl (18*10000+5) st2 0 (F1 i s.marks).length])],
    [((107*10000+5),st,.rows 1 (A6 N (B4 N i a b s).set)),((18*10000+5),st2,.rows 1 ((F1 i s.marks).map zrw))]++h,n'⟩
    ⟨[(0,.agg [.sl (107*10000+5) st 0 N,.int .i64 (B7 i).2,.isl ((F1 i s.marks).map zrw)])],
    ((107*10000+5),st,.rows 1 (A6 N (B4 N i a b s).set))::h,n'⟩:=by
   refine Wk.freeze (b:=(18*10000+5)) (st:=st2) (sz:=1) (rs:=(F1 i s.marks).map zrw) (by simp) ⟨.agg ⟨.of (.refl _),.of (.refl _),.all (by simp),trivial⟩,trivial⟩ (A7c.of fun e he=> ?_)
   rcases List.mem_cons.1 he with rfl|he
   ·exact⟨by simp,by simp only;decide⟩
   ·exact⟨by simp [he],hM e he⟩
  have w2:Wk ⟨[(0,.agg [.sl (107*10000+5) st 0 N,.int .i64 (B7 i).2,.isl ((F1 i s.marks).map zrw)])],
    ((107*10000+5),st,.rows 1 (A6 N (B4 N i a b s).set))::h,n'⟩
    ⟨[(0,A2n (.sl nm st 0 N) (B4 N i a b s))],(nm,st,.rows 1 (A6 N (B4 N i a b s).set))::h,n'⟩:=by
   rw [A2n,A4M,j6]
   refine Wk.turn (fun x=>if x=(107*10000+5)then nm else x) ⟨.agg ⟨.sl,.refl _,.refl _,trivial⟩,trivial⟩ (A0m.of fun e he=> ?_)
   rcases List.mem_cons.1 he with rfl|he
   ·exact⟨_,List.mem_cons_self,by simp,rfl,.refl _⟩
   ·exact⟨e,List.mem_cons_of_mem _ he,by rw [if_neg (hB e he)],rfl,.refl _⟩
  exact⟨_,_,_,w1.trans w2,hk st n' hn⟩
theorem B2R(N nm st n:Nat)(hnm:nm<1000000000000)(S:Nat→Nat)(M:Nat→Option Stt)(L:List Nat)(hL: ∀k∈L,(M k).isSome): ∀l:List Nat,l.Nodup→(∀k∈l,k∈L)→
  Wk ⟨[(0,.mp nm st)],(nm,st,.map (J1 L fun k=>if k∈l then L4 N S M k else R1 N M k))::I4 (G6 N M) S l,n⟩ ⟨[(0,.mp nm st)],[(nm,st,.map (J1 L (R1 N M)))],n⟩
 | [],_,_=>by
  have e:(J1 L fun k=>if k∈([]:List Nat)then L4 N S M k else R1 N M k)=J1 L (R1 N M):=A9h fun x hx=>by simp
  rw [e];exact .refl _
 | a::l,hn,hl=>by
  obtain⟨h1,h2⟩:=List.nodup_cons.1 hn
  refine Wk.trans ?_ (B2R N nm st n hnm S M L hL l h2 fun k hk=>hl k (List.mem_cons_of_mem _ hk))
  refine Wk.freeze (b:=1000000000000+a) (st:=S a) (sz:=1) (rs:=G6 N M a) (by simp [I4,A7k]) ⟨.of (.refl _),trivial⟩ ⟨⟨_,List.mem_cons_self,by simp only;omega,?_⟩,A7c.of fun e he=> ?_⟩
  ·refine A8U.map (by simp [J1]) fun i p2 hi=> ?_
   simp only [J1,List.getElem?_map,Option.map_eq_some_iff]at hi⊢
   obtain⟨k,hk,rfl⟩:=hi
   refine⟨_,⟨k,hk,rfl⟩,.of (.refl _),?_⟩
   simp only
   by_cases c:k=a
   ·subst c
    rw [if_pos List.mem_cons_self,if_neg h1]
    have hs:=hL k (List.mem_of_getElem? hk)
    obtain⟨s,hs⟩:=Option.isSome_iff_exists.1 hs
    simp only [L4,R1,G6,hs,A2n]
    exact .agg ⟨.all (C2 _ _).symm,.of (.refl _),.of (.refl _),trivial⟩
   ·have:(k∈a::l)↔(k∈l):=by simp [c]
    by_cases c2:k∈l
    ·rw [if_pos (this.2 c2),if_pos c2];exact .of (.refl _)
    ·rw [if_neg (fun h=>c2 (this.1 h)),if_neg c2];exact .of (.refl _)
  ·obtain⟨j,hj,rfl⟩:=S5.1 he
   refine⟨List.mem_cons_of_mem _ (S5.2 ⟨j,List.mem_cons_of_mem _ hj,rfl⟩),?_⟩
   simp only [A7k]
   intro e
   exact h1 (by rw [show a=j by omega];exact hj)
theorem B6H{F G:Nat→List (List V)}{S:Nat→Nat}{l:List Nat}{b:Nat}{e:Nat×Nat×Blk}(hg: ∀k∈l,k≠b→G k=F k)(h:e∈I4 G S l):e=(1000000000000+b,S b,.rows 1 (G b))∨e∈A0.del (I4 F S l) (1000000000000+b):=by
 obtain⟨j,hj,rfl⟩:=S5.1 h
 by_cases c:j=b
 ·subst c;left;rfl
 ·right
  refine A0.mem_del.2 ⟨S5.2 ⟨j,hj,by simp [A7k,hg j hj c]⟩,by simp only [A7k];omega⟩
theorem B4p{F G:Nat→List (List V)}{S T:Nat→Nat}{l:List Nat}{b:Nat}(hg: ∀k∈l,G k=F k∧T k=S k):I4 G T (l++ [b])=I4 F S l++ [(1000000000000+b,T b,.rows 1 (G b))]:=by
 simp only [I4,List.map_append,List.map_cons,List.map_nil,A7k]
 congr 1
 refine List.map_congr_left fun k hk=> ?_
 simp only [A7k]
 rw [(hg k hk).1,(hg k hk).2]
end Go.Proofs.YtnihmhbcjpcobaaGreatDoor
