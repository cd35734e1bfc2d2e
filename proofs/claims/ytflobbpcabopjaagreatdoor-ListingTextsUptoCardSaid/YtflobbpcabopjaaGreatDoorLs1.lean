/-
 The lines of a listing: what the program's functions write. No condition.
-/
import Derived.Test.YtflobbpcabopjaaGreatDoorLsQ
import Derived.Test.YtflobbpcabopjaaGreatDoorLsL
import Derived.Test.YtflobbpcabopjaaGreatDoorLsS
set_option linter.unusedVariables false
set_option linter.unusedSimpArgs false
set_option maxRecDepth 100000
set_option maxHeartbeats 0
namespace Go.Proofs.YtflobbpcabopjaaGreatDoor
open Go Go.Abs
attribute [local irreducible] A0 Run
theorem A2q(xs:List (List UInt8))(h0:xs≠ [])(hN:xs.length≤100000)(hlen:(F2 xs).length≤140737488355328):Abs.Pure Tryz.prog 44 [.isl (xs.map fun x=> [.str x])] (.str (F2 xs)):=by
 have hj:=C3j xs h0 hN hlen
 have hsub:(xs.map fun x=> [V.str x]).map (fun r=>r.map (V.sub E8))=xs.map fun x=> [V.str x]:=by simp [V.sub]
 generalize F2 xs=r at*
 generalize (xs.map fun x=> [V.str x])=es at*
 refine Pure.of 0 (A0.enter A7h (Nat.le_of_ble_eq_true rfl) (Run.go 100 ?_))
 simp -implicitDefEqProofs only [go_sem,A3]
 refine A0.pureF hj (by simp -implicitDefEqProofs only [go_sem,hsub]) ?_
 simp -implicitDefEqProofs only [go_sem]
theorem B7U(p q:Int)(h:K0 p q=true):Abs.Pure Tryz.prog 78 [.agg [.int .i64 p,.int .i64 q]] (.str (B2c p q)):=by
 have hv:=B7r p q
 rw [h]at hv
 obtain⟨hp,hq⟩:=A9Y h
 have ip:=D0 p hp.1 hp.2
 have iq:=D0 q hq.1 hq.2
 have lp:=D3 hp
 have lq:=D3 hq
 unfold B2c
 refine Pure.of 0 (A0.enter A7l (Nat.le_of_ble_eq_true rfl) (Run.go 100 ?_))
 simp -implicitDefEqProofs only [go_sem,A3]
 refine A0.pureF hv (by simp -implicitDefEqProofs only [go_sem]) ?_
 by_cases h1:q=1
 ·subst h1
  simp -implicitDefEqProofs only [go_sem]
  refine A0.pureF ip (by simp -implicitDefEqProofs only [go_sem]) ?_
  simp -implicitDefEqProofs only [go_sem]
 ·simp -implicitDefEqProofs only [go_sem,h1]
  refine A0.pureF ip (by simp -implicitDefEqProofs only [go_sem]) ?_
  simp -implicitDefEqProofs only [go_sem]
  refine⟨by omega,?_⟩
  refine A0.pureF iq (by simp -implicitDefEqProofs only [go_sem]) ?_
  simp -implicitDefEqProofs only [go_sem,List.length_append,List.length_cons,List.length_nil,List.append_assoc,List.cons_append,List.nil_append]
  omega
theorem C6o(v:Kst)(h:D1 v=true)(hk:v.kind≤3):Abs.Pure Tryz.prog 46 [.agg v.row] (.str (A0R v)):=by
 obtain⟨kind,p,q,str,ref⟩:=v
 simp only at hk
 refine Pure.of 0 (A0.enter A7j (Nat.le_of_ble_eq_true rfl) (Run.go 100 ?_))
 by_cases k1:kind=1
 ·subst k1
  have hb:=B4n (decide (ref=1))
  simp only [decide_eq_true_eq]at hb
  simp -implicitDefEqProofs only [go_sem,A3,Kst.row,A0R]
  refine A0.pureF hb (by simp -implicitDefEqProofs only [go_sem]) ?_
  simp -implicitDefEqProofs only [go_sem]
 by_cases k2:kind=2
 ·subst k2
  have hn:K0 p q=true:=by simp [D1]at h;exact h.1
  simp -implicitDefEqProofs only [go_sem,A3,Kst.row,A0R]
  refine A0.pureF (B7U p q hn) (by simp -implicitDefEqProofs only [go_sem]) ?_
  simp -implicitDefEqProofs only [go_sem]
 by_cases k3:kind=3
 ·subst k3
  have hl:str.length≤4096:=by simp [D1]at h;exact h.1
  simp -implicitDefEqProofs only [go_sem,A3,Kst.row,A0R]
  refine A0.pureF (A6B str (by omega)) (by simp -implicitDefEqProofs only [go_sem]) ?_
  simp -implicitDefEqProofs only [go_sem]
 simp -implicitDefEqProofs only [go_sem,A3,Kst.row,A0R,k1,k2,k3]
theorem C3g(p:Fn)(h:p.Okl)(path:List UInt8)(hpl:path.length≤1000000):Abs.Pure Tryz.prog 43 [.agg p.row,.str path] (.str (D4 p path)):=by
 have hq:=A6B p.name (by have:=h.name;omega)
 have i1:=D0 p.line h.nums.1.1 h.nums.1.2
 have i2:=D0 p.params h.nums.2.1.1 h.nums.2.1.2
 have i3:=D0 p.regs h.nums.2.2.1 h.nums.2.2.2
 have hl:=B3g h path
 unfold D4 at hl⊢
 rw [List.length_append]at hl
 have hj:=A2q [[102,117,110,99],path,F9 p.name,[108,105,110,101],Lib.itoa p.line,[112,97,114,97,109,115],Lib.itoa p.params,[114,101,103,115],Lib.itoa p.regs] (by simp) (by simp) (by omega)
 rw [Fn.row_eq]
 obtain⟨name,line,params,vararg,regs,code,lines,consts,protos,ups,vars⟩:=p
 simp only at*
 generalize F2 [[102,117,110,99],path,F9 name,[108,105,110,101],Lib.itoa line,[112,97,114,97,109,115],Lib.itoa params,[114,101,103,115],Lib.itoa regs]=J at*
 generalize code.map Ins.row=r1 at*
 generalize lines.map C7=r2 at*
 generalize consts.map Kst.row=r3 at*
 generalize protos.map Fn.row=r4 at*
 generalize ups.map Upv.row=r5 at*
 generalize vars.map Vr.row=r6 at*
 refine Pure.of 0 (A0.enter A1D (Nat.le_of_ble_eq_true rfl) (Run.go 100 ?_))
 simp -implicitDefEqProofs only [go_sem,A3]
 refine A0.pureF hq (by simp -implicitDefEqProofs only [go_sem]) ?_
 simp -implicitDefEqProofs only [go_sem]
 refine A0.pureF i1 (by simp -implicitDefEqProofs only [go_sem]) ?_
 simp -implicitDefEqProofs only [go_sem]
 refine A0.pureF i2 (by simp -implicitDefEqProofs only [go_sem]) ?_
 simp -implicitDefEqProofs only [go_sem]
 refine A0.pureF i3 (by simp -implicitDefEqProofs only [go_sem]) ?_
 simp -implicitDefEqProofs only [go_sem]
 refine A0.pureF hj (by simp -implicitDefEqProofs only [go_sem,List.map_cons,List.map_nil]) ?_
 cases vararg with
 |false=>simp -implicitDefEqProofs only [go_sem,List.append_nil]
 |true=>
  simp only [if_true,List.length_cons,List.length_nil]at hl
  simp -implicitDefEqProofs only [go_sem,List.length_cons,List.length_nil]
  omega
theorem C7P(u:Upv)(i:Nat)(hi:i≤1000000)(h:u.name.length≤40)(hu:inB u.idx):Abs.Pure Tryz.prog 47 [.int .i64 i,.agg u.row] (.str (upT i u)):=by
 have hq:=A6B u.name (by omega)
 have i1:=D0 i (by omega) (by omega)
 have i2:=D0 u.idx hu.1 hu.2
 have hl:=B8q h hu hi
 unfold upT at hl⊢
 have hj:=A2q [[117,112],Lib.itoa i,F9 u.name,if u.loc=true then [108,111,99,97,108]else [111,117,116,101,114],Lib.itoa u.idx] (by simp) (by simp) (by omega)
 obtain⟨name,loc,idx⟩:=u
 simp only at*
 clear hl
 refine Pure.of 0 (A0.enter A3W (Nat.le_of_ble_eq_true rfl) (Run.go 100 ?_))
 cases loc with
 |false=>
  simp only [Bool.false_eq_true,if_false]at hj⊢
  generalize F2 _=J at hj⊢
  simp -implicitDefEqProofs only [go_sem,A3,Upv.row]
  refine A0.pureF i1 (by simp -implicitDefEqProofs only [go_sem]) ?_
  simp -implicitDefEqProofs only [go_sem]
  refine A0.pureF hq (by simp -implicitDefEqProofs only [go_sem]) ?_
  simp -implicitDefEqProofs only [go_sem]
  refine A0.pureF i2 (by simp -implicitDefEqProofs only [go_sem]) ?_
  simp -implicitDefEqProofs only [go_sem]
  refine A0.pureF hj (by simp -implicitDefEqProofs only [go_sem,List.map_cons,List.map_nil]) ?_
  simp -implicitDefEqProofs only [go_sem]
 |true=>
  simp only [if_true]at hj⊢
  generalize F2 _=J at hj⊢
  simp -implicitDefEqProofs only [go_sem,A3,Upv.row]
  refine A0.pureF i1 (by simp -implicitDefEqProofs only [go_sem]) ?_
  simp -implicitDefEqProofs only [go_sem]
  refine A0.pureF hq (by simp -implicitDefEqProofs only [go_sem]) ?_
  simp -implicitDefEqProofs only [go_sem]
  refine A0.pureF i2 (by simp -implicitDefEqProofs only [go_sem]) ?_
  simp -implicitDefEqProofs only [go_sem]
  refine A0.pureF hj (by simp -implicitDefEqProofs only [go_sem,List.map_cons,List.map_nil]) ?_
  simp -implicitDefEqProofs only [go_sem]
theorem C6q(v:Vr)(i:Nat)(hi:i≤1000000)(h:v.name.length≤40)(h1:inB v.reg)(h2:inB v.lo)(h3:inB v.hi):Abs.Pure Tryz.prog 48 [.int .i64 i,.agg v.row] (.str (I4 i v)):=by
 have hq:=A6B v.name (by omega)
 have i0:=D0 i (by omega) (by omega)
 have i1:=D0 v.reg h1.1 h1.2
 have i2:=D0 v.lo h2.1 h2.2
 have i3:=D0 v.hi h3.1 h3.2
 have hl:=B6f h h1 h2 h3 hi
 unfold I4 at hl⊢
 rw [List.length_append]at hl
 have hj:=A2q [[118,97,114],Lib.itoa i,F9 v.name,[114,101,103],Lib.itoa v.reg,[102,114,111,109],Lib.itoa v.lo,[116,111],Lib.itoa v.hi] (by simp) (by simp) (by omega)
 obtain⟨name,reg,lo,hi',attr⟩:=v
 simp only at*
 generalize F2 _=J at hj hl⊢
 refine Pure.of 0 (A0.enter A2C (Nat.le_of_ble_eq_true rfl) (Run.go 100 ?_))
 simp -implicitDefEqProofs only [go_sem,A3,Vr.row]
 refine A0.pureF i0 (by simp -implicitDefEqProofs only [go_sem]) ?_
 simp -implicitDefEqProofs only [go_sem]
 refine A0.pureF hq (by simp -implicitDefEqProofs only [go_sem]) ?_
 simp -implicitDefEqProofs only [go_sem]
 refine A0.pureF i1 (by simp -implicitDefEqProofs only [go_sem]) ?_
 simp -implicitDefEqProofs only [go_sem]
 refine A0.pureF i2 (by simp -implicitDefEqProofs only [go_sem]) ?_
 simp -implicitDefEqProofs only [go_sem]
 refine A0.pureF i3 (by simp -implicitDefEqProofs only [go_sem]) ?_
 simp -implicitDefEqProofs only [go_sem]
 refine A0.pureF hj (by simp -implicitDefEqProofs only [go_sem,List.map_cons,List.map_nil]) ?_
 by_cases a1:attr=1
 ·subst a1
  simp -implicitDefEqProofs only [go_sem,List.length_cons,List.length_nil]
  omega
 by_cases a2:attr=2
 ·subst a2
  simp -implicitDefEqProofs only [go_sem,List.length_cons,List.length_nil]
  omega
 simp -implicitDefEqProofs only [go_sem,a1,a2,List.append_nil]
theorem C2I(p:Fn)(h:p.Okl)(i:Nat)(x:Ins)(hx:p.code[i]? =some x):Abs.Pure Tryz.prog 49 [.agg p.row,.int .i64 i] (.str (F8 p.lines i x)):=by
 have hi:=(List.getElem?_eq_some_iff.1 hx).1
 have hcl:=h.code.1
 have i1:=D0 i (by omega) (by omega)
 have hck:=h.code.2 x (List.mem_of_getElem? hx)
 have ht:Abs.Pure Tryz.prog 79 [.agg x.row] (.str (T9 x)):=C4k x (B7D hck)
 have g1:x.row.length=5:=rfl
 have g2:x.row.take 5=x.row:=rfl
 have g3:=Ins.row_sub E8 x
 have hl:=B2Z h.lines.2 hck (i:=i) (by omega) (by rcases h.lines.1 with h0|h0<;>omega)
 unfold F8 at hl⊢
 have hj:=A2q [Lib.itoa i,A1u p.lines i,T9 x] (by simp) (by simp) (by omega)
 have hll:=h.lines
 rw [Fn.row_eq]
 obtain⟨name,line,params,vararg,regs,code,lines,consts,protos,ups,vars⟩:=p
 simp only at*
 have c5:(code.map Ins.row)[i]? =some x.row:=by rw [List.getElem?_map,hx];rfl
 have c6:(code.map Ins.row).length=code.length:=List.length_map ..
 have c7:=eq_true (A7 Ins.row 5 (fun _=>rfl) code)
 have l6:(lines.map C7).length=lines.length:=List.length_map ..
 have l7:=eq_true (A7 C7 1 (fun _=>rfl) lines)
 have q0:((i:Int)<(code.length:Int))=True:=eq_true (by omega)
 have q1:((0:Int)≤(i:Int))=True:=eq_true (by omega)
 generalize F2 _=J at hj hl⊢
 refine Pure.of 0 (A0.enter A1C (Nat.le_of_ble_eq_true rfl) (Run.go 100 ?_))
 by_cases hz:lines.length=0
 ·have e0:A1u lines i= [45]:=if_pos hz
  rw [e0]at hj
  have z0:((0:Int)<(lines.length:Int))=False:=eq_false (by omega)
  generalize code.map Ins.row=r1 at*
  generalize lines.map C7=r2 at*
  generalize consts.map Kst.row=r3 at*
  generalize protos.map Fn.row=r4 at*
  generalize ups.map Upv.row=r5 at*
  generalize vars.map Vr.row=r6 at*
  simp -implicitDefEqProofs only [go_sem,A3,l6,z0,q0,q1,c5,c6,c7,Option.some.injEq,forall_eq',hi,g1,g2]
  repeat' refine And.intro ?_ ?_
  all_goals (
   refine A0.pureF i1 (by simp -implicitDefEqProofs only [go_sem]) ?_
   simp -implicitDefEqProofs only [go_sem,c5,c6,c7,hi,q0,q1,g1,g2,Option.some.injEq,forall_eq']
   refine A0.pureF ht (by simp -implicitDefEqProofs only [go_sem,g3]) ?_
   simp -implicitDefEqProofs only [go_sem]
   refine A0.pureF hj (by simp -implicitDefEqProofs only [go_sem,List.map_cons,List.map_nil]) ?_
   simp -implicitDefEqProofs only [go_sem])
 ·have hli:i<lines.length:=by rcases hll.1 with h0|h0<;>omega
  obtain⟨z,hzz⟩: ∃z,lines[i]? =some z:=⟨lines[i],by simp [hli]⟩
  have e0:A1u lines i=Lib.itoa z:=by unfold A1u;rw [if_neg hz,hzz];rfl
  rw [e0]at hj
  have z0:((0:Int)<(lines.length:Int))=True:=eq_true (by omega)
  have z1:((i:Int)<(lines.length:Int))=True:=eq_true (by omega)
  have l5:(lines.map C7)[i]? =some (C7 z):=by rw [List.getElem?_map,hzz];rfl
  have hzb:=hll.2 z (List.mem_of_getElem? hzz)
  have i2:=D0 z hzb.1 hzb.2
  generalize code.map Ins.row=r1 at*
  generalize lines.map C7=r2 at*
  generalize consts.map Kst.row=r3 at*
  generalize protos.map Fn.row=r4 at*
  generalize ups.map Upv.row=r5 at*
  generalize vars.map Vr.row=r6 at*
  simp -implicitDefEqProofs only [go_sem,A3,l5,l6,l7,z0,z1,q0,q1,hli,C7,Option.some.injEq,forall_eq']
  refine A0.pureF i2 (by simp -implicitDefEqProofs only [go_sem]) ?_
  simp -implicitDefEqProofs only [go_sem,c5,c6,c7,hi,q0,q1,g1,g2,Option.some.injEq,forall_eq']
  repeat' refine And.intro ?_ ?_
  all_goals (
   refine A0.pureF i1 (by simp -implicitDefEqProofs only [go_sem]) ?_
   simp -implicitDefEqProofs only [go_sem,c5,c6,c7,hi,q0,q1,g1,g2,Option.some.injEq,forall_eq']
   refine A0.pureF ht (by simp -implicitDefEqProofs only [go_sem,g3]) ?_
   simp -implicitDefEqProofs only [go_sem]
   refine A0.pureF hj (by simp -implicitDefEqProofs only [go_sem,List.map_cons,List.map_nil]) ?_
   simp -implicitDefEqProofs only [go_sem])
end Go.Proofs.YtflobbpcabopjaaGreatDoor
