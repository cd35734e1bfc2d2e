/-
 The reference's verifier: which instructions violate an invariant, the other parts. No condition.
-/
import Derived.Test.YtnihmhbcjpcobaaGreatDoorRvG
set_option linter.unusedVariables false
set_option linter.unusedSimpArgs false
set_option maxRecDepth 100000
set_option maxHeartbeats 0
namespace Go.Proofs.YtnihmhbcjpcobaaGreatDoor
open Go.Abs
attribute [local irreducible] A2 Run
-- EV: Ins.v, Ins.row
attribute [local go_sem] Ins.v Ins.row
theorem B7C{pr:List V}{RL FR:List (List V)}{i:Ins}{mk:List Int}{o:Int}{a s7 s8 m:Nat}(hmk:mk.length≤1000000){V4:Bool}{Q:Res}
  (hQ:Q=fun r h _=>frz 0 h r= .bool (mk.any (fun r=>decide (i.op=17)||(decide (i.op=28)&&decide (i.a≤r)))||V4))
  (key: ∀m,Q=(fun r h _=>frz 0 h r= .bool V4)→Run (A7R Q) [.code (C5 (C5 (C5 (C5 (C5 B9)))))] (A0u pr RL i FR (mk.map zrw) o a s7 s8 m)):
  Run (A7R Q) [.code (C5 (C5 (C5 (C5 B9))))] (A0u pr RL i FR (mk.map zrw) o a s7 s8 m):=by
 have la:(mk.map zrw).length=mk.length:=List.length_map ..
 have za:=F7 mk
 have ra: ∀(k:Nat) x,mk[k]? =some x→(mk.map zrw)[k]? =some [.int .i64 x]:=fun k x hk=>W8 hk
 generalize mk.map zrw=MR at*
 unfold A0u at*
 refine Run.go 5 ?_
 simp -implicitDefEqProofs only [go_sem,C5]
 refine Run.keep [11,8,7,3,2,1] ?_
 refine Run.rounds (fun(k:Nat)=>⟨[(11,.int .i64 k),(8,.ptr (23*10000+8) s8 0 0),(7,.ptr (23*10000+7) s7 0 0),(3,.ptr (23*10000+3) 0 0 0),(2,.int .i64 a),(1,.isl RL)],[((23*10000+8),s8,.rows 5 [[.int .i64 i.op,.int .i64 i.a,.int .i64 i.b,.int .i64 i.c,.int .i64 i.d]]),((23*10000+7),s7,.rows 3 [[.isl FR,.int .i64 o,.isl MR]]),((23*10000+3),0,.rows 11 [pr])],m⟩) (fun k=>k≤mk.length∧(mk.take k).any (fun r=>decide (i.op=17)||(decide (i.op=28)&&decide (i.a≤r)))=false) (fun k=>mk.length-k) 0 (by simp -implicitDefEqProofs only [go_sem]) ⟨Nat.zero_le _,rfl⟩ ?_
 rintro k ⟨hk,hno⟩ ih
 refine Run.unf A1Y ?_
 by_cases hlt:k<mk.length
 ·have q0:((k:Int)<(mk.length:Int))=True:=eq_true (by omega)
  have q1:((0:Int)≤(k:Int))=True:=eq_true (by omega)
  obtain⟨x,hx⟩: ∃x,mk[k]? =some x:=⟨mk[k],by simp [hlt]⟩
  have hxr:=ra k x hx
  have hzk:((k+1:Nat):Int)=(k:Int)+1:=by omega
  have yes:(decide (i.op=17)||(decide (i.op=28)&&decide (i.a≤x)))=true→Q=fun r h _=>frz 0 h r= .bool true:=fun h=>by
   rw [hQ,H6 hx h];rfl
  have no:=fun h=>D0 (f:=fun r=>decide (i.op=17)||(decide (i.op=28)&&decide (i.a≤r))) hno hx h
  by_cases c1:i.op=17
  ·have hQ1:=yes (by simp [c1])
   refine Run.go 100 ?_
   simp -implicitDefEqProofs only [go_sem,q0,q1,la,c1]
   subst hQ1
   exact .is rfl
  by_cases c2:i.op=28
  ·by_cases c3:i.a≤x
   ·have hQ1:=yes (by simp [c2,c3])
    refine Run.go 100 ?_
    simp -implicitDefEqProofs only [go_sem,q0,q1,la,za,hxr,hlt,c2,c3,ge_iff_le,Option.some.injEq,forall_eq']
    subst hQ1
    exact .is rfl
   ·have hno1:=no (by simp [c1,c2,c3])
    refine Run.go 100 ?_
    simp -implicitDefEqProofs only [go_sem,q0,q1,la,za,hxr,hlt,c2,c3,ge_iff_le,Option.some.injEq,forall_eq']
    exact⟨⟨by omega,by omega⟩,ih _ (k+1) ⟨by omega,hno1⟩ (by omega) (by simp -implicitDefEqProofs only [go_sem,hzk,c2])⟩
  ·have hno1:=no (by simp [c1,c2])
   refine Run.go 100 ?_
   simp -implicitDefEqProofs only [go_sem,q0,q1,la,c1,c2]
   exact⟨⟨by omega,by omega⟩,ih _ (k+1) ⟨by omega,hno1⟩ (by omega) (by simp -implicitDefEqProofs only [go_sem,hzk])⟩
 ·have ek:k=mk.length:=by omega
  subst ek
  have hno:=F6 hno
  rw [hno,Bool.false_or]at hQ
  refine Run.go 5 ?_
  simp -implicitDefEqProofs only [go_sem,la,Int.lt_irrefl]
  refine Run.wk (B6.wk ?_) (key m hQ)
  simp -implicitDefEqProofs only [go_sem]
theorem C3T(l:List Upv)(f:Int→Bool):((l.filter Upv.loc).map Upv.idx).any f=l.any fun u=>u.loc&&f u.idx:=by
 induction l with
 |nil=>rfl
 |cons u r ih=>
  rw [List.filter_cons,List.any_cons]
  cases hu:u.loc with
  |true=>simp only [if_true,List.map_cons,List.any_cons,ih,Bool.true_and]
  |false=>simp only [Bool.false_eq_true,if_false,Bool.false_and,Bool.false_or,ih]
theorem C1t{p:Fn}(hs:Sound p){RL MR:List (List V)}{i:Ins}(hi:i∈p.code){f:Nat→Bool}{o:Int}{a s7 s8 m:Nat}{V3:Bool}{Q:Res}
  (hQ:Q=fun r h _=>frz 0 h r= .bool ((B6a p i).any (fun r=> !f r.toNat)||V3))
  (key: ∀m,Q=(fun r h _=>frz 0 h r= .bool V3)→Run (A7R Q) [.code (C5 (C5 (C5 (C5 B9))))] (A0u p.row RL i (A6 p.regs.toNat f) MR o a s7 s8 m)):
  Run (A7R Q) [.code (C5 (C5 (C5 B9)))] (A0u p.row RL i (A6 p.regs.toNat f) MR o a s7 s8 m):=by
 obtain⟨h1,h2⟩:=B5 p
 by_cases c22:i.op=22
 case neg=>
  have e:B6a p i= []:=if_neg c22
  rw [e,List.any_nil,Bool.false_or]at hQ
  unfold A0u at*
  refine Run.go 5 ?_
  simp -implicitDefEqProofs only [go_sem,C5,c22]
  refine Run.wk (B6.wk ?_) (key m hQ)
  simp -implicitDefEqProofs only [go_sem]
 obtain⟨hb0,q,hq⟩:=hs.proto hi c22
 have e:B6a p i=(q.ups.filter Upv.loc).map Upv.idx:=by unfold B6a;rw [if_pos c22,hq];rfl
 rw [e,C3T]at hQ
 have hqm:=List.mem_of_getElem? hq
 have hup:=fun u (hu:u∈q.ups)=>hs.ups q hqm u hu
 have hul:=hs.upsl q hqm
 obtain⟨B,hB⟩: ∃B:Nat,i.b=B:=⟨i.b.toNat,by omega⟩
 rw [hB,Int.toNat_natCast]at hq
 have hBl:B<p.protos.length:=(List.getElem?_eq_some_iff.1 hq).1
 have h8:p.row[8]? =some (.isl (p.protos.map Fn.row)):=by rw [Fn.row_eq];rfl
 have l8:(p.protos.map Fn.row).length=p.protos.length:=List.length_map ..
 have z8:=A5U Fn.row 11 Fn.row_len p.protos
 have r8:(p.protos.map Fn.row)[B]? =some q.row:=by rw [List.getElem?_map,hq];rfl
 have g9:q.row[9]? =some (.isl (q.ups.map Upv.row)):=by rw [Fn.row_eq];rfl
 obtain⟨g1,g2⟩:=B5 q
 have lu:(q.ups.map Upv.row).length=q.ups.length:=List.length_map ..
 have zu:=A5U Upv.row 3 (fun _=>rfl) q.ups
 have ru: ∀(k:Nat) u,q.ups[k]? =some u→(q.ups.map Upv.row)[k]? =some [.str u.name,.bool u.loc,.int .i64 u.idx]:=fun k u hk=>by rw [List.getElem?_map,hk];rfl
 have hbl:=C2 p.regs.toNat f
 have hbz:=E6 p.regs.toNat f
 have hba: ∀r,r<p.regs.toNat→(A6 p.regs.toNat f)[r]? =some [.bool (f r)]:=fun r h=>E5 h
 have hreg:=hs.regs
 have b0:((0:Int)≤(B:Int))=True:=eq_true (by omega)
 have b1:((B:Int)<(p.protos.length:Int))=True:=eq_true (by omega)
 unfold A0u at*
 generalize A6 p.regs.toNat f=FR at*
 generalize q.ups.map Upv.row=UR at*
 generalize p.protos.map Fn.row=PR at*
 generalize p.row=pr at*
 generalize q.row=qr at*
 refine Run.go 9 ?_
 simp -implicitDefEqProofs only [go_sem,C5,c22,hB,b0,b1,h8,l8,z8,r8,hBl,g1,g2,g9,h1,h2,Option.some.injEq,forall_eq']
 refine Run.keep [10,9,8,7,3,2,1] ?_
 refine Run.rounds (fun(k:Nat)=>⟨[(10,.int .i64 k),(9,.isl UR),(8,.ptr (23*10000+8) s8 0 0),(7,.ptr (23*10000+7) s7 0 0),(3,.ptr (23*10000+3) 0 0 0),(2,.int .i64 a),(1,.isl RL)],[((23*10000+8),s8,.rows 5 [[.int .i64 22,.int .i64 i.a,.int .i64 B,.int .i64 i.c,.int .i64 i.d]]),((23*10000+7),s7,.rows 3 [[.isl FR,.int .i64 o,.isl MR]]),((23*10000+3),0,.rows 11 [pr])],m⟩) (fun k=>k≤q.ups.length∧(q.ups.take k).any (fun u=>u.loc&& !f u.idx.toNat)=false) (fun k=>q.ups.length-k) 0 (by simp -implicitDefEqProofs only [go_sem]) ⟨Nat.zero_le _,rfl⟩ ?_
 rintro k ⟨hk,hno⟩ ih
 refine Run.unf A1X ?_
 by_cases hlt:k<q.ups.length
 ·have q0:((k:Int)<(q.ups.length:Int))=True:=eq_true (by omega)
  have q1:((0:Int)≤(k:Int))=True:=eq_true (by omega)
  obtain⟨u,hx⟩: ∃x,q.ups[k]? =some x:=⟨q.ups[k],by simp [hlt]⟩
  have hxr:=ru k u hx
  have hu:=hup u (List.mem_of_getElem? hx)
  have hzk:((k+1:Nat):Int)=(k:Int)+1:=by omega
  have no:=fun h=>D0 (f:=fun(u:Upv)=>u.loc&& !f u.idx.toNat) hno hx h
  have yes:(u.loc&& !f u.idx.toNat)=true→Q=fun r h _=>frz 0 h r= .bool true:=fun h=>by
   rw [hQ,H6 hx h];rfl
  cases hloc:u.loc with
  |false=>
   rw [hloc]at hxr
   have hno1:=no (by rw [hloc];rfl)
   refine Run.go 100 ?_
   simp -implicitDefEqProofs only [go_sem,q0,q1,lu,zu,hxr,hlt,Option.some.injEq,forall_eq']
   exact⟨⟨by omega,by omega⟩,ih _ (k+1) ⟨by omega,hno1⟩ (by omega) (by simp -implicitDefEqProofs only [go_sem,hzk])⟩
  | true=>
   rw [hloc]at hxr no yes
   obtain⟨u0,u1⟩:=hu hloc
   obtain⟨X,hX⟩: ∃X:Nat,u.idx=X:=⟨u.idx.toNat,by omega⟩
   rw [hX]at hxr no yes
   rw [Int.toNat_natCast]at no yes
   have hXN:X<p.regs.toNat:=by omega
   have x0:((0:Int)≤(X:Int))=True:=eq_true (by omega)
   have x1:((X:Int)<(p.regs.toNat:Int))=True:=eq_true (by omega)
   have hat:=hba X hXN
   cases hfx:f X with
   |false=>
    rw [hfx]at hat
    have hQ1:=yes (by rw [hfx];rfl)
    refine Run.go 100 ?_
    simp -implicitDefEqProofs only [go_sem,q0,q1,lu,zu,hxr,hlt,x0,x1,hXN,hbl,hbz,hat,Option.some.injEq,forall_eq']
    subst hQ1
    exact .is rfl
   |true=>
    rw [hfx]at hat
    have hno1:=no (by rw [hfx];rfl)
    refine Run.go 100 ?_
    simp -implicitDefEqProofs only [go_sem,q0,q1,lu,zu,hxr,hlt,x0,x1,hXN,hbl,hbz,hat,Option.some.injEq,forall_eq']
    exact⟨⟨by omega,by omega⟩,ih _ (k+1) ⟨by omega,hno1⟩ (by omega) (by simp -implicitDefEqProofs only [go_sem,hzk])⟩
 ·have ek:k=q.ups.length:=by omega
  subst ek
  have hno:=F6 hno
  rw [hno,Bool.false_or]at hQ
  refine Run.go 5 ?_
  simp -implicitDefEqProofs only [go_sem,lu,Int.lt_irrefl]
  refine Run.wk (B6.wk ?_) (key m hQ)
  simp -implicitDefEqProofs only [go_sem,c22,hB]
-- EV: Ins.v, Ins.row
attribute [local go_sem] Ins.v Ins.row
theorem B7D{pr:List V}(h1:pr.length=11)(h2:pr.take 11=pr){CR:List (List V)}{len:Nat}(h5:pr[5]? =some (.isl CR))(l5:CR.length=len)(hlen:0<len∧len≤100000){RL FR MR:List (List V)}{i:Ins}{o:Int}{a s7 s8 m:Nat}{V2 V3:Bool}{Q:Res}
  (hrd:Pure Tryz.prog 40 [.agg [.isl FR,.int .i64 o,.isl MR],i.v] (.bool V2)) (hsf:FR.map (fun r=>r.map (V.sub H0))=FR) (hsm:MR.map (fun r=>r.map (V.sub H0))=MR)
  (hQ:Q=fun r h _=>frz 0 h r= .bool ((L5 i.op&&decide ((a:Int)=(len:Int)-1))||(V2||V3)))
  (key: ∀m,Q=(fun r h _=>frz 0 h r= .bool V3)→Run (A7R Q) [.code (C5 (C5 (C5 B9)))] (A0u pr RL i FR MR o a s7 s8 m)):
  Run (A7R Q) [.code (C5 (C5 B9))] (A0u pr RL i FR MR o a s7 s8 m):=by
 have hfl:=B1Q i
 simp only [Ins.v,Ins.row]at hfl hrd
 unfold A0u at*
 generalize hf1:L5 i.op=f1 at*
 refine Run.go 5 ?_
 simp -implicitDefEqProofs only [go_sem,C5]
 refine A2.pureF hfl (by simp -implicitDefEqProofs only [go_sem]) ?_
 cases f1 with
 | false=>
  rw [Bool.false_and,Bool.false_or]at hQ
  simp -implicitDefEqProofs only [go_sem]
  refine A2.pureF hrd (by simp -implicitDefEqProofs only [go_sem,hsf,hsm]) ?_
  cases V2 with
  |true=>
   rw [Bool.true_or]at hQ
   simp -implicitDefEqProofs only [go_sem]
   refine Run.go 100 ?_
   simp -implicitDefEqProofs only [go_sem]
   subst hQ
   exact .is rfl
  |false=>
   rw [Bool.false_or]at hQ
   simp -implicitDefEqProofs only [go_sem]
   refine Run.wk (B6.wk ?_) (key m hQ)
   simp -implicitDefEqProofs only [go_sem]
 | true=>
  rw [Bool.true_and]at hQ
  by_cases hd:(a:Int)=(len:Int)-1
  ·have e:decide ((a:Int)=(len:Int)-1)=true:=decide_eq_true hd
   rw [e,Bool.true_or]at hQ
   simp -implicitDefEqProofs only [go_sem,h5,l5,hd]
   refine⟨⟨by omega,by omega⟩,?_⟩
   refine Run.go 100 ?_
   simp -implicitDefEqProofs only [go_sem]
   subst hQ
   exact .is rfl
  ·have e:decide ((a:Int)=(len:Int)-1)=false:=decide_eq_false hd
   rw [e,Bool.false_or]at hQ
   simp -implicitDefEqProofs only [go_sem,h5,l5,hd]
   refine⟨⟨by omega,by omega⟩,?_⟩
   refine A2.pureF hrd (by simp -implicitDefEqProofs only [go_sem,hsf,hsm]) ?_
   cases V2 with
   |true=>
    rw [Bool.true_or]at hQ
    simp -implicitDefEqProofs only [go_sem]
    refine Run.go 100 ?_
    simp -implicitDefEqProofs only [go_sem]
    subst hQ
    exact .is rfl
   |false=>
    rw [Bool.false_or]at hQ
    simp -implicitDefEqProofs only [go_sem]
    refine Run.wk (B6.wk ?_) (key m hQ)
    simp -implicitDefEqProofs only [go_sem]
end Go.Proofs.YtnihmhbcjpcobaaGreatDoor
