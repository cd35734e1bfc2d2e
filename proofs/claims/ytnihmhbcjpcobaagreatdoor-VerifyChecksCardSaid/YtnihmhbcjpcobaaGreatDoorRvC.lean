/-
 The reference's verifier: the state that is passed to a successor. No condition.
-/
import Derived.Test.YtnihmhbcjpcobaaGreatDoorRvB
import Derived.Test.YtnihmhbcjpcobaaGreatDoorVerP2
set_option linter.unusedVariables false
set_option linter.unusedSimpArgs false
set_option maxRecDepth 100000
set_option maxHeartbeats 0
namespace Go.Proofs.YtnihmhbcjpcobaaGreatDoor
open Go.Abs
attribute [local irreducible] A2 Run
-- EV: Ins.v, Ins.row
attribute [local go_sem] Ins.v Ins.row
theorem C2R{code:List Ins}{a:Nat}{i:Ins}(ha:code[a]? =some i)(h1:i.op=24)(h2:i.b=(a:Int)+1):(C7 code a).length<2:=by
 have hal:=(List.getElem?_eq_some_iff.1 ha).1
 unfold C7
 rw [if_neg (by omega),Int.toNat_natCast,ha]
 simp only [B0L,U4,h1,h2]
 by_cases c:(a:Int)+1<code.length
 ·have c0:(0:Int)≤(a:Int)+1:=by omega
  simp [W5,L5,c,c0,B4L]
 ·simp [c,G0]
theorem B0z(N:Nat)(code:List Ins)(pr:List V)(h11:pr.length=11)(ht11:pr.take 11=pr)(h5:pr[5]? =some (.isl (code.map Ins.row)))(hps:pr.map (V.sub H0)=pr)(a:Nat)(i:Ins)(ha:code[a]? =some i)
  (hnx:Pure Tryz.prog 37 [.agg pr,.int .i64 a] (.isl ((C7 code a).map zrw))) (b:Int) (hc:code.length≤1000000) (s:Stt) (hN:N≤100000) (hi:Fit N i) (hm:s.marks.length≤1000000) (n:Nat):
  A2 Tryz.prog 38 [.agg pr,.agg [.isl (A6 N s.set),.int .i64 s.opn,.isl (s.marks.map zrw)],.int .i64 a,.int .i64 b] [] n fun r h' n'=> ∃st st2,
   r= .agg [.sl (102*10000+3) st 0 N,.int .i64 (B7 i).2,.sl (102*10000+9) st2 0 (F1 i s.marks).length]∧h'= [((102*10000+3),st,.rows 1 (A6 N (B4 N i a b s).set)),((102*10000+9),st2,.rows 1 ((F1 i s.marks).map zrw))]:=by
 have hal:a<code.length:=(List.getElem?_eq_some_iff.1 ha).1
 have k5:(code.map Ins.row).length=code.length:=List.length_map ..
 have z5:=A5U Ins.row 5 (fun _=>rfl) code
 have r5:(code.map Ins.row)[a]? =some (Ins.row i):=by rw [List.getElem?_map,ha];rfl
 generalize code.map Ins.row=rcode at*
 have q0:((a:Int)<(code.length:Int))=True:=eq_true (by omega)
 have q1:((0:Int)≤(a:Int))=True:=eq_true (by omega)
 have hcal:=B5E N i s hN hi hm
 simp only [Ins.v,Ins.row]at hcal r5
 have hends:=hi.ends
 have hok:=A2f hi.ok
 have htwo:=C2R ha
 have lnx:((C7 code a).map zrw).length=(C7 code a).length:=List.length_map ..
 generalize (C7 code a).map zrw=NX at*
 generalize (C7 code a).length=nl at*
 obtain⟨f,o,m⟩:=s
 simp only at hcal hm⊢
 have hlen:=C2 N f
 have hbz:=E6 N f
 refine A2.enterK a8 (Nat.le_of_ble_eq_true rfl) fun Q hQ=>Run.go 6 ?_
 simp -implicitDefEqProofs only [go_sem,A4,h11,ht11,h5,k5,z5,r5,q0,q1,hal,Option.some.injEq,forall_eq']
 refine A2.at [] [0,1,2,3] (hcal _) rfl rfl ?_
 rintro r h' n1 hn1 ⟨st,st2,rfl,rfl⟩
 simp -implicitDefEqProofs only [go_sem]
 refine Run.keep [10,9,8,5,4,3,2] ?_
 have hno:(P8 i a b=true∧f (i.a+3).toNat=false→False)→A6 N (B4 N i a b ⟨f,o,m⟩).set=A6 N (A5H N i ⟨f,o,m⟩).set:=fun h=>by
  unfold B4;rw [if_neg h]
 have hyes:P8 i a b=true∧f (i.a+3).toNat=false→A6 N (B4 N i a b ⟨f,o,m⟩).set=(A6 N (A5H N i ⟨f,o,m⟩).set).set (i.a+3).toNat [.bool false]:=fun h=>by
  refine(K6 _ fun x hx=> ?_).symm
  unfold B4;rw [if_pos h]
  have:=hok.2.1
  have h0:=hok
  by_cases c:x=(i.a+3).toNat
  ·have e:(x:Int)=i.a+3:=by omega
   rw [if_pos c];simp [e]
  ·have e: ¬(x:Int)=i.a+3:=by omega
   rw [if_neg c];simp [e]
 generalize A6 N (B4 N i a b ⟨f,o,m⟩).set=PS at*
 have hel:=C2 N (A5H N i ⟨f,o,m⟩).set
 have hez:=E6 N (A5H N i ⟨f,o,m⟩).set
 have heat: ∀r,r<N→ ∃v,(A6 N (A5H N i ⟨f,o,m⟩).set)[r]? =some [.bool v]:=fun r hr=>⟨_,E5 hr⟩
 generalize A6 N (A5H N i ⟨f,o,m⟩).set=ES at*
 have hfat: ∀r,r<N→(A6 N f)[r]? =some [.bool (f r)]:=fun r hr=>E5 hr
 generalize A6 N f=FR at*
 generalize (F1 i m).map zrw=MR at*
 generalize (F1 i m).length=ml at*
 generalize (B7 i).2=wo at*
 -- where the register of a loop is dropped
 have drop: ∀c:(i.op=23∧b=i.b)∨(i.op=24∧b≠i.b)∨(i.op=24∧b=i.b∧i.b=(a:Int)+1),Run ⟨Tryz.prog,66,[.c 8 3 true],A3E Q,none⟩ [.code (C5 (C5 (C5 N1)))]
   ⟨[(10,.ptr (38*10000+10) n1 0 0),(9,.ptr (38*10000+9) (n+1+1+1) 0 0),(8,.ptr (38*10000+8) (n+1+1) 0 0),(5,.ptr (38*10000+5) (n+1) 0 0),(4,.ptr (38*10000+4) n 0 0),(3,.int .i64 b),(2,.int .i64 a)],
   [((38*10000+10),n1,.rows 3 [[.sl (102*10000+3) st 0 N,.int .i64 wo,.sl (102*10000+9) st2 0 ml]]),((102*10000+3),st,.rows 1 ES),((102*10000+9),st2,.rows 1 MR),((38*10000+9),n+1+1+1,.rows 5 [[.int .i64 i.op,.int .i64 i.a,.int .i64 i.b,.int .i64 i.c,.int .i64 i.d]]),((38*10000+8),n+1+1,.rows 3 [[.nils,.int .i64 0,.nils]]),((38*10000+5),n+1,.rows 3 [[.isl FR,.int .i64 o,.isl (m.map zrw)]]),((38*10000+4),n,.rows 11 [pr])],n1+1⟩:=by
  intro c
  have hb:=hends (by rcases c with c|c|c;exact .inl c.1;exact .inr c.1;exact .inr c.1)
  obtain⟨A3,hA3⟩: ∃A3:Nat,i.a+3=A3:=⟨(i.a+3).toNat,by omega⟩
  have he:P8 i a b=true:=by
   rcases c with⟨c1,c2⟩|⟨c1,c2⟩|⟨c1,c2,c3⟩
   ·simp [P8,c1,c2]
   ·simp [P8,c1,c2]
   ·simp [P8,c1,c2,c3]
  rw [hA3]at hb hno hyes
  have hAN:A3<N:=by omega
  rw [Int.toNat_natCast]at hno hyes
  have p0:((0:Int)≤(A3:Int))=True:=eq_true (by omega)
  have p1:((A3:Int)<(N:Int))=True:=eq_true (by omega)
  have hfa:=hfat A3 hAN
  obtain⟨v,hva⟩:=heat A3 hAN
  have hiA: -9223372036854775808≤i.a+3∧i.a+3≤9223372036854775807:=⟨by omega,by omega⟩
  have hnl:i.op=24→i.b=(a:Int)+1→((nl:Int)<2)=True:=fun h1 h2=>eq_true (by have:=htwo h1 h2;omega)
  cases hf:f A3 with
  | false=>
   rw [hf]at hfa hno hyes
   have:=hyes ⟨he,rfl⟩
   subst this
   rcases c with⟨c1,c2⟩|⟨c1,c2⟩|⟨c1,c2,c3⟩
   all_goals refine Run.go 100 ?_
   ·simp -implicitDefEqProofs only [go_sem,C5,c1,c2,hA3,p0,p1,hfa,hva,hAN,hel,hez,hlen,hbz,Option.some.injEq,forall_eq']
    refine⟨⟨by omega,by omega⟩,⟨by omega,by omega⟩,?_⟩
    subst hQ
    exact .to ⟨st,st2,rfl,rfl⟩ (.turn id ⟨.refl _,trivial⟩ (.at 1 rfl rfl (.refl _) (.at 3 rfl rfl (.refl _) trivial)))
   ·simp -implicitDefEqProofs only [go_sem,C5,c1,c2,hA3,p0,p1,hfa,hva,hAN,hel,hez,hlen,hbz,Option.some.injEq,forall_eq']
    refine⟨⟨by omega,by omega⟩,⟨by omega,by omega⟩,?_⟩
    subst hQ
    exact .to ⟨st,st2,rfl,rfl⟩ (.turn id ⟨.refl _,trivial⟩ (.at 1 rfl rfl (.refl _) (.at 3 rfl rfl (.refl _) trivial)))
   ·have hnl:=hnl c1 c3
    have c3':(a:Int)+1=i.b:=c3.symm
    simp -implicitDefEqProofs only [go_sem,C5,c1,c2,h11,ht11]
    refine A2.pureF hnx (by simp -implicitDefEqProofs only [go_sem,hps]) ?_
    simp -implicitDefEqProofs only [go_sem,lnx,hnl,c3',hA3,p0,p1,hfa,hva,hAN,hel,hez,hlen,hbz,Option.some.injEq,forall_eq']
    refine⟨⟨by omega,by omega⟩,⟨by omega,by omega⟩,⟨by omega,by omega⟩,?_⟩
    subst hQ
    exact .to ⟨st,st2,rfl,rfl⟩ (.turn id ⟨.refl _,trivial⟩ (.at 1 rfl rfl (.refl _) (.at 3 rfl rfl (.refl _) trivial)))
  | true=>
   rw [hf]at hfa hno
   have:=hno (fun h=>by simp at h)
   subst this
   rcases c with⟨c1,c2⟩|⟨c1,c2⟩|⟨c1,c2,c3⟩
   all_goals refine Run.go 100 ?_
   ·simp -implicitDefEqProofs only [go_sem,C5,c1,c2,hA3,p0,p1,hfa,hAN,hlen,hbz,Option.some.injEq,forall_eq']
    refine⟨⟨by omega,by omega⟩,?_⟩
    subst hQ
    exact .to ⟨st,st2,rfl,rfl⟩ (.turn id ⟨.refl _,trivial⟩ (.at 2 rfl rfl (.refl _) (.at 3 rfl rfl (.refl _) trivial)))
   ·simp -implicitDefEqProofs only [go_sem,C5,c1,c2,hA3,p0,p1,hfa,hAN,hlen,hbz,Option.some.injEq,forall_eq']
    refine⟨⟨by omega,by omega⟩,?_⟩
    subst hQ
    exact .to ⟨st,st2,rfl,rfl⟩ (.turn id ⟨.refl _,trivial⟩ (.at 2 rfl rfl (.refl _) (.at 3 rfl rfl (.refl _) trivial)))
   ·have hnl:=hnl c1 c3
    have c3':(a:Int)+1=i.b:=c3.symm
    simp -implicitDefEqProofs only [go_sem,C5,c1,c2,h11,ht11]
    refine A2.pureF hnx (by simp -implicitDefEqProofs only [go_sem,hps]) ?_
    simp -implicitDefEqProofs only [go_sem,lnx,hnl,c3',hA3,p0,p1,hfa,hAN,hlen,hbz,Option.some.injEq,forall_eq']
    refine⟨⟨by omega,by omega⟩,⟨by omega,by omega⟩,?_⟩
    subst hQ
    exact .to ⟨st,st2,rfl,rfl⟩ (.turn id ⟨.refl _,trivial⟩ (.at 2 rfl rfl (.refl _) (.at 3 rfl rfl (.refl _) trivial)))
 have hii:((i.op=23∧b=i.b)∨(i.op=24∧b≠i.b)∨(i.op=24∧b=i.b∧i.b=(a:Int)+1))∨P8 i a b=false:=by
  unfold P8
  by_cases c1:i.op=23<;>by_cases c2:i.op=24<;>by_cases c3:b=i.b<;>by_cases c4:i.b=(a:Int)+1<;>simp [c1,c2,c3,c4]<;>omega
 rcases hii with c|c0
 ·exact drop c
 have:=hno (fun h=>by rw [c0]at h;simp at h)
 subst this
 by_cases c1:i.op=23
 ·have c2: ¬b=i.b:=fun e=>by simp [P8,c1,e]at c0
  refine Run.go 100 ?_
  simp -implicitDefEqProofs only [go_sem,c1,c2,h11,ht11]
  subst hQ
  exact .to ⟨st,st2,rfl,rfl⟩ (.turn id ⟨.refl _,trivial⟩ (.at 2 rfl rfl (.refl _) (.at 3 rfl rfl (.refl _) trivial)))
 by_cases c2:i.op=24
 ·have c3:b=i.b:=by
   refine Decidable.byContradiction fun e=> ?_
   simp [P8,c2,e]at c0
  have c4: ¬i.b=(a:Int)+1:=fun e=>by simp [P8,c2,c3,e]at c0
  have c5: ¬(a:Int)+1=i.b:=fun e=>c4 e.symm
  refine Run.go 100 ?_
  simp -implicitDefEqProofs only [go_sem,c2,c3,h11,ht11]
  refine A2.pureF hnx (by simp -implicitDefEqProofs only [go_sem,hps]) ?_
  simp -implicitDefEqProofs only [go_sem,lnx,c5]
  subst hQ
  exact⟨fun _=>⟨⟨by omega,by omega⟩,.to ⟨st,st2,rfl,rfl⟩ (.turn id ⟨.refl _,trivial⟩ (.at 2 rfl rfl (.refl _) (.at 3 rfl rfl (.refl _) trivial)))⟩,fun _=> .to ⟨st,st2,rfl,rfl⟩ (.turn id ⟨.refl _,trivial⟩ (.at 2 rfl rfl (.refl _) (.at 3 rfl rfl (.refl _) trivial)))⟩
 ·refine Run.go 100 ?_
  simp -implicitDefEqProofs only [go_sem,c1,c2,h11,ht11]
  subst hQ
  exact .to ⟨st,st2,rfl,rfl⟩ (.turn id ⟨.refl _,trivial⟩ (.at 2 rfl rfl (.refl _) (.at 3 rfl rfl (.refl _) trivial)))
end Go.Proofs.YtnihmhbcjpcobaaGreatDoor
