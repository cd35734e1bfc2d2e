/-
 The lines of a listing: what the program's functions write. No condition.
-/
import Derived.Test.YtcjgeliglgcflaaGreatDoorLsQ
import Derived.Test.YtcjgeliglgcflaaGreatDoorLsL
import Derived.Test.YtcjgeliglgcflaaGreatDoorLsS
set_option linter.unusedVariables false
set_option linter.unusedSimpArgs false
set_option maxRecDepth 100000
set_option maxHeartbeats 0
namespace Go.Proofs.YtcjgeliglgcflaaGreatDoor
open Go Go.Abs
attribute [local irreducible] A3 Run
theorem A2b(xs:List (List UInt8))(h0:xs≠ [])(hN:xs.length≤100000)(hlen:(Q4 xs).length≤140737488355328):Abs.Pure Tryz.prog 49 [.isl (xs.map fun x=> [.str x])] (.str (Q4 xs)):=by
 have hj:=B9L xs h0 hN hlen
 have hsub:(xs.map fun x=> [V.str x]).map (fun r=>r.map (V.sub G6))=xs.map fun x=> [V.str x]:=by simp [V.sub]
 generalize Q4 xs=r at*
 generalize (xs.map fun x=> [V.str x])=es at*
 refine Pure.of 0 (A3.enter A4V (Nat.le_of_ble_eq_true rfl) (Run.go 100 ?_))
 simp -implicitDefEqProofs only [go_sem,A8]
 refine A3.pureF hj (by simp -implicitDefEqProofs only [go_sem,hsub]) ?_
 simp -implicitDefEqProofs only [go_sem]
theorem B4A(p q:Int)(h:A0c p q=true):Abs.Pure Tryz.prog 89 [.agg [.int .i64 p,.int .i64 q]] (.str (B7B p q)):=by
 have hv:=B3X p q
 rw [h]at hv
 obtain⟨hp,hq⟩:=A9R h
 have ip:=E0 p hp.1 hp.2
 have iq:=E0 q hq.1 hq.2
 have lp:=K3 hp
 have lq:=K3 hq
 unfold B7B
 refine Pure.of 0 (A3.enter A4Y (Nat.le_of_ble_eq_true rfl) (Run.go 100 ?_))
 simp -implicitDefEqProofs only [go_sem,A8]
 refine A3.pureF hv (by simp -implicitDefEqProofs only [go_sem]) ?_
 by_cases h1:q=1
 ·subst h1
  simp -implicitDefEqProofs only [go_sem]
  refine A3.pureF ip (by simp -implicitDefEqProofs only [go_sem]) ?_
  simp -implicitDefEqProofs only [go_sem]
 ·simp -implicitDefEqProofs only [go_sem,h1]
  refine A3.pureF ip (by simp -implicitDefEqProofs only [go_sem]) ?_
  simp -implicitDefEqProofs only [go_sem]
  refine⟨by omega,?_⟩
  refine A3.pureF iq (by simp -implicitDefEqProofs only [go_sem]) ?_
  simp -implicitDefEqProofs only [go_sem,List.length_append,List.length_cons,List.length_nil,List.append_assoc,List.cons_append,List.nil_append]
  omega
theorem C2K(v:Kst)(h:O7 v=true)(hk:v.kind≤3):Abs.Pure Tryz.prog 51 [.agg v.row] (.str (B0R v)):=by
 obtain⟨kind,p,q,str,ref⟩:=v
 simp only at hk
 refine Pure.of 0 (A3.enter A4X (Nat.le_of_ble_eq_true rfl) (Run.go 100 ?_))
 by_cases k1:kind=1
 ·subst k1
  have hb:=B0J (decide (ref=1))
  simp only [decide_eq_true_eq]at hb
  simp -implicitDefEqProofs only [go_sem,A8,Kst.row,B0R]
  refine A3.pureF hb (by simp -implicitDefEqProofs only [go_sem]) ?_
  simp -implicitDefEqProofs only [go_sem]
 by_cases k2:kind=2
 ·subst k2
  have hn:A0c p q=true:=by simp [O7]at h;exact h.1
  simp -implicitDefEqProofs only [go_sem,A8,Kst.row,B0R]
  refine A3.pureF (B4A p q hn) (by simp -implicitDefEqProofs only [go_sem]) ?_
  simp -implicitDefEqProofs only [go_sem]
 by_cases k3:kind=3
 ·subst k3
  have hl:str.length≤4096:=by simp [O7]at h;exact h.1
  simp -implicitDefEqProofs only [go_sem,A8,Kst.row,B0R]
  refine A3.pureF (A4L str (by omega)) (by simp -implicitDefEqProofs only [go_sem]) ?_
  simp -implicitDefEqProofs only [go_sem]
 simp -implicitDefEqProofs only [go_sem,A8,Kst.row,B0R,k1,k2,k3]
theorem B9J(p:Fn)(h:p.Okl)(path:List UInt8)(hpl:path.length≤1000000):Abs.Pure Tryz.prog 48 [.agg p.row,.str path] (.str (A0b p path)):=by
 have hq:=A4L p.name (by have:=h.name;omega)
 have i1:=E0 p.line h.nums.1.1 h.nums.1.2
 have i2:=E0 p.params h.nums.2.1.1 h.nums.2.1.2
 have i3:=E0 p.regs h.nums.2.2.1 h.nums.2.2.2
 have hl:=B3z h path
 unfold A0b at hl⊢
 rw [List.length_append]at hl
 have hj:=A2b [[102,117,110,99],path,R3 p.name,[108,105,110,101],Lib.itoa p.line,[112,97,114,97,109,115],Lib.itoa p.params,[114,101,103,115],Lib.itoa p.regs] (by simp) (by simp) (by omega)
 rw [Fn.row_eq]
 obtain⟨name,line,params,vararg,regs,code,lines,consts,protos,ups,vars⟩:=p
 simp only at*
 generalize Q4 [[102,117,110,99],path,R3 name,[108,105,110,101],Lib.itoa line,[112,97,114,97,109,115],Lib.itoa params,[114,101,103,115],Lib.itoa regs]=J at*
 generalize code.map Ins.row=r1 at*
 generalize lines.map D1=r2 at*
 generalize consts.map Kst.row=r3 at*
 generalize protos.map Fn.row=r4 at*
 generalize ups.map Upv.row=r5 at*
 generalize vars.map Vr.row=r6 at*
 refine Pure.of 0 (A3.enter A1g (Nat.le_of_ble_eq_true rfl) (Run.go 100 ?_))
 simp -implicitDefEqProofs only [go_sem,A8]
 refine A3.pureF hq (by simp -implicitDefEqProofs only [go_sem]) ?_
 simp -implicitDefEqProofs only [go_sem]
 refine A3.pureF i1 (by simp -implicitDefEqProofs only [go_sem]) ?_
 simp -implicitDefEqProofs only [go_sem]
 refine A3.pureF i2 (by simp -implicitDefEqProofs only [go_sem]) ?_
 simp -implicitDefEqProofs only [go_sem]
 refine A3.pureF i3 (by simp -implicitDefEqProofs only [go_sem]) ?_
 simp -implicitDefEqProofs only [go_sem]
 refine A3.pureF hj (by simp -implicitDefEqProofs only [go_sem,List.map_cons,List.map_nil]) ?_
 cases vararg with
 |false=>simp -implicitDefEqProofs only [go_sem,List.append_nil]
 |true=>
  simp only [if_true,List.length_cons,List.length_nil]at hl
  simp -implicitDefEqProofs only [go_sem,List.length_cons,List.length_nil]
  omega
theorem C4l(u:Upv)(i:Nat)(hi:i≤1000000)(h:u.name.length≤40)(hu:inB u.idx):Abs.Pure Tryz.prog 52 [.int .i64 i,.agg u.row] (.str (upT i u)):=by
 have hq:=A4L u.name (by omega)
 have i1:=E0 i (by omega) (by omega)
 have i2:=E0 u.idx hu.1 hu.2
 have hl:=B8U h hu hi
 unfold upT at hl⊢
 have hj:=A2b [[117,112],Lib.itoa i,R3 u.name,if u.loc=true then [108,111,99,97,108]else [111,117,116,101,114],Lib.itoa u.idx] (by simp) (by simp) (by omega)
 obtain⟨name,loc,idx⟩:=u
 simp only at*
 clear hl
 refine Pure.of 0 (A3.enter A3e (Nat.le_of_ble_eq_true rfl) (Run.go 100 ?_))
 cases loc with
 |false=>
  simp only [Bool.false_eq_true,if_false]at hj⊢
  generalize Q4 _=J at hj⊢
  simp -implicitDefEqProofs only [go_sem,A8,Upv.row]
  refine A3.pureF i1 (by simp -implicitDefEqProofs only [go_sem]) ?_
  simp -implicitDefEqProofs only [go_sem]
  refine A3.pureF hq (by simp -implicitDefEqProofs only [go_sem]) ?_
  simp -implicitDefEqProofs only [go_sem]
  refine A3.pureF i2 (by simp -implicitDefEqProofs only [go_sem]) ?_
  simp -implicitDefEqProofs only [go_sem]
  refine A3.pureF hj (by simp -implicitDefEqProofs only [go_sem,List.map_cons,List.map_nil]) ?_
  simp -implicitDefEqProofs only [go_sem]
 |true=>
  simp only [if_true]at hj⊢
  generalize Q4 _=J at hj⊢
  simp -implicitDefEqProofs only [go_sem,A8,Upv.row]
  refine A3.pureF i1 (by simp -implicitDefEqProofs only [go_sem]) ?_
  simp -implicitDefEqProofs only [go_sem]
  refine A3.pureF hq (by simp -implicitDefEqProofs only [go_sem]) ?_
  simp -implicitDefEqProofs only [go_sem]
  refine A3.pureF i2 (by simp -implicitDefEqProofs only [go_sem]) ?_
  simp -implicitDefEqProofs only [go_sem]
  refine A3.pureF hj (by simp -implicitDefEqProofs only [go_sem,List.map_cons,List.map_nil]) ?_
  simp -implicitDefEqProofs only [go_sem]
theorem C2M(v:Vr)(i:Nat)(hi:i≤1000000)(h:v.name.length≤40)(h1:inB v.reg)(h2:inB v.lo)(h3:inB v.hi):Abs.Pure Tryz.prog 53 [.int .i64 i,.agg v.row] (.str (A1y i v)):=by
 have hq:=A4L v.name (by omega)
 have i0:=E0 i (by omega) (by omega)
 have i1:=E0 v.reg h1.1 h1.2
 have i2:=E0 v.lo h2.1 h2.2
 have i3:=E0 v.hi h3.1 h3.2
 have hl:=B6Q h h1 h2 h3 hi
 unfold A1y at hl⊢
 rw [List.length_append]at hl
 have hj:=A2b [[118,97,114],Lib.itoa i,R3 v.name,[114,101,103],Lib.itoa v.reg,[102,114,111,109],Lib.itoa v.lo,[116,111],Lib.itoa v.hi] (by simp) (by simp) (by omega)
 obtain⟨name,reg,lo,hi',attr⟩:=v
 simp only at*
 generalize Q4 _=J at hj hl⊢
 refine Pure.of 0 (A3.enter A2l (Nat.le_of_ble_eq_true rfl) (Run.go 100 ?_))
 simp -implicitDefEqProofs only [go_sem,A8,Vr.row]
 refine A3.pureF i0 (by simp -implicitDefEqProofs only [go_sem]) ?_
 simp -implicitDefEqProofs only [go_sem]
 refine A3.pureF hq (by simp -implicitDefEqProofs only [go_sem]) ?_
 simp -implicitDefEqProofs only [go_sem]
 refine A3.pureF i1 (by simp -implicitDefEqProofs only [go_sem]) ?_
 simp -implicitDefEqProofs only [go_sem]
 refine A3.pureF i2 (by simp -implicitDefEqProofs only [go_sem]) ?_
 simp -implicitDefEqProofs only [go_sem]
 refine A3.pureF i3 (by simp -implicitDefEqProofs only [go_sem]) ?_
 simp -implicitDefEqProofs only [go_sem]
 refine A3.pureF hj (by simp -implicitDefEqProofs only [go_sem,List.map_cons,List.map_nil]) ?_
 by_cases a1:attr=1
 ·subst a1
  simp -implicitDefEqProofs only [go_sem,List.length_cons,List.length_nil]
  omega
 by_cases a2:attr=2
 ·subst a2
  simp -implicitDefEqProofs only [go_sem,List.length_cons,List.length_nil]
  omega
 simp -implicitDefEqProofs only [go_sem,a1,a2,List.append_nil]
theorem B9n(p:Fn)(h:p.Okl)(i:Nat)(x:Ins)(hx:p.code[i]? =some x):Abs.Pure Tryz.prog 54 [.agg p.row,.int .i64 i] (.str (T9 p.lines i x)):=by
 have hi:=(List.getElem?_eq_some_iff.1 hx).1
 have hcl:=h.code.1
 have i1:=E0 i (by omega) (by omega)
 have hck:=h.code.2 x (List.mem_of_getElem? hx)
 have ht:Abs.Pure Tryz.prog 90 [.agg x.row] (.str (A9z x)):=C0z x (B8m hck)
 have g1:x.row.length=5:=rfl
 have g2:x.row.take 5=x.row:=rfl
 have g3:=Ins.row_sub G6 x
 have hl:=B3f h.lines.2 hck (i:=i) (by omega) (by rcases h.lines.1 with h0|h0<;>omega)
 unfold T9 at hl⊢
 have hj:=A2b [Lib.itoa i,B5R p.lines i,A9z x] (by simp) (by simp) (by omega)
 have hll:=h.lines
 rw [Fn.row_eq]
 obtain⟨name,line,params,vararg,regs,code,lines,consts,protos,ups,vars⟩:=p
 simp only at*
 have c5:(code.map Ins.row)[i]? =some x.row:=by rw [List.getElem?_map,hx];rfl
 have c6:(code.map Ins.row).length=code.length:=List.length_map ..
 have c7:=eq_true (B8 Ins.row 5 (fun _=>rfl) code)
 have l6:(lines.map D1).length=lines.length:=List.length_map ..
 have l7:=eq_true (B8 D1 1 (fun _=>rfl) lines)
 have q0:((i:Int)<(code.length:Int))=True:=eq_true (by omega)
 have q1:((0:Int)≤(i:Int))=True:=eq_true (by omega)
 generalize Q4 _=J at hj hl⊢
 refine Pure.of 0 (A3.enter A1f (Nat.le_of_ble_eq_true rfl) (Run.go 100 ?_))
 by_cases hz:lines.length=0
 ·have e0:B5R lines i= [45]:=if_pos hz
  rw [e0]at hj
  have z0:((0:Int)<(lines.length:Int))=False:=eq_false (by omega)
  generalize code.map Ins.row=r1 at*
  generalize lines.map D1=r2 at*
  generalize consts.map Kst.row=r3 at*
  generalize protos.map Fn.row=r4 at*
  generalize ups.map Upv.row=r5 at*
  generalize vars.map Vr.row=r6 at*
  simp -implicitDefEqProofs only [go_sem,A8,l6,z0,q0,q1,c5,c6,c7,Option.some.injEq,forall_eq',hi,g1,g2]
  repeat' refine And.intro ?_ ?_
  all_goals (
   refine A3.pureF i1 (by simp -implicitDefEqProofs only [go_sem]) ?_
   simp -implicitDefEqProofs only [go_sem,c5,c6,c7,hi,q0,q1,g1,g2,Option.some.injEq,forall_eq']
   refine A3.pureF ht (by simp -implicitDefEqProofs only [go_sem,g3]) ?_
   simp -implicitDefEqProofs only [go_sem]
   refine A3.pureF hj (by simp -implicitDefEqProofs only [go_sem,List.map_cons,List.map_nil]) ?_
   simp -implicitDefEqProofs only [go_sem])
 ·have hli:i<lines.length:=by rcases hll.1 with h0|h0<;>omega
  obtain⟨z,hzz⟩: ∃z,lines[i]? =some z:=⟨lines[i],by simp [hli]⟩
  have e0:B5R lines i=Lib.itoa z:=by unfold B5R;rw [if_neg hz,hzz];rfl
  rw [e0]at hj
  have z0:((0:Int)<(lines.length:Int))=True:=eq_true (by omega)
  have z1:((i:Int)<(lines.length:Int))=True:=eq_true (by omega)
  have l5:(lines.map D1)[i]? =some (D1 z):=by rw [List.getElem?_map,hzz];rfl
  have hzb:=hll.2 z (List.mem_of_getElem? hzz)
  have i2:=E0 z hzb.1 hzb.2
  generalize code.map Ins.row=r1 at*
  generalize lines.map D1=r2 at*
  generalize consts.map Kst.row=r3 at*
  generalize protos.map Fn.row=r4 at*
  generalize ups.map Upv.row=r5 at*
  generalize vars.map Vr.row=r6 at*
  simp -implicitDefEqProofs only [go_sem,A8,l5,l6,l7,z0,z1,q0,q1,hli,D1,Option.some.injEq,forall_eq']
  refine A3.pureF i2 (by simp -implicitDefEqProofs only [go_sem]) ?_
  simp -implicitDefEqProofs only [go_sem,c5,c6,c7,hi,q0,q1,g1,g2,Option.some.injEq,forall_eq']
  repeat' refine And.intro ?_ ?_
  all_goals (
   refine A3.pureF i1 (by simp -implicitDefEqProofs only [go_sem]) ?_
   simp -implicitDefEqProofs only [go_sem,c5,c6,c7,hi,q0,q1,g1,g2,Option.some.injEq,forall_eq']
   refine A3.pureF ht (by simp -implicitDefEqProofs only [go_sem,g3]) ?_
   simp -implicitDefEqProofs only [go_sem]
   refine A3.pureF hj (by simp -implicitDefEqProofs only [go_sem,List.map_cons,List.map_nil]) ?_
   simp -implicitDefEqProofs only [go_sem])
end Go.Proofs.YtcjgeliglgcflaaGreatDoor
