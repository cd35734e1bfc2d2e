/-
 The reference's Check; ProtoCheck: the walk. No condition.
-/
import Derived.Test.YtnihmhbcjpcobaaGreatDoorFnR2
import Derived.Test.YtnihmhbcjpcobaaGreatDoorFnR3
import Derived.Test.YtnihmhbcjpcobaaGreatDoorRr2
set_option linter.unusedVariables false
set_option linter.unusedSimpArgs false
set_option maxRecDepth 100000
set_option maxHeartbeats 0
namespace Go.Proofs.YtnihmhbcjpcobaaGreatDoor
open Go.Abs
attribute [local irreducible] A2 Run P7
theorem B8W(p:Fn)(hp:p.bd)(i:Ins):Pure Tryz.prog 35 [.agg p.row,i.v] (.int .i64 (A0p p i)):=by
 obtain⟨h1,h2⟩:=B5 p
 have hps:=Fn.row_sub H0 p
 have hc:=A7P i
 have hr:=B1S i
 have hw:=B0D i
 have hwr:=B1P (reads i).1 (A8k i) (reads i).2 p.regs
 have hww:=B1P (B7 i).1 (A6b i) (B7 i).2 p.regs
 have ht:=B0A i
 have hf:=B5P p hp i
 have g4:p.row[4]? =some (.int .i64 p.regs):=by rw [Fn.row_eq];rfl
 have h5:p.row[5]? =some (.isl (p.code.map Ins.row)):=by rw [Fn.row_eq];rfl
 have k1:(p.code.map Ins.row).length=p.code.length:=List.length_map ..
 have f1:((reads i).1.map zrw).map (fun r=>r.map (V.sub H0))=(reads i).1.map zrw:=B3J _
 have f2:((B7 i).1.map zrw).map (fun r=>r.map (V.sub H0))=(B7 i).1.map zrw:=B3J _
 generalize hz:A0p p i=z
 unfold A0p at hz
 rw [show ((reads i).1,(reads i).2)=reads i from rfl]at hwr
 rw [show ((B7 i).1,(B7 i).2)=B7 i from rfl]at hww
 generalize (reads i).1.map zrw=rr at*
 generalize (B7 i).1.map zrw=rw at*
 generalize (reads i).2=r2 at*
 generalize (B7 i).2=w2 at*
 generalize P4 p.regs (reads i)=b1 at*
 generalize P4 p.regs (B7 i)=b2 at*
 generalize U1 p i=b3 at*
 generalize chk i=ck at*
 generalize W5 i.op=jj at*
 generalize p.code.map Ins.row=rcode at*
 generalize p.row=pr at*
 obtain⟨op,a,b,c,d⟩:=i
 simp only [Ins.v,Ins.row]at*
 refine Pure.of 0 (A2.enter u4 (Nat.le_of_ble_eq_true rfl) (Run.go 100 ?_))
 simp -implicitDefEqProofs only [go_sem,A4,h1,h2]
 refine A2.pureF hc (by simp -implicitDefEqProofs only [go_sem]) ?_
 by_cases c0:ck=0
 case neg=>
  rw [if_pos c0]at hz
  subst hz
  simp -implicitDefEqProofs only [go_sem,c0]
 rw [if_neg (by simpa using c0)]at hz
 have hf:=hf c0
 simp -implicitDefEqProofs only [go_sem,c0]
 refine A2.pureF hr (by simp -implicitDefEqProofs only [go_sem]) ?_
 simp -implicitDefEqProofs only [go_sem]
 refine A2.pureF hw (by simp -implicitDefEqProofs only [go_sem]) ?_
 simp -implicitDefEqProofs only [go_sem,h1,h2,g4]
 refine A2.pureF hwr (by simp -implicitDefEqProofs only [go_sem,f1]) ?_
 cases b1
 ·obtain rfl:z=4:=hz ▸ if_neg (fun h=>by simp at h)
  simp -implicitDefEqProofs only [go_sem]
 simp -implicitDefEqProofs only [go_sem,h1,h2,g4]
 refine A2.pureF hww (by simp -implicitDefEqProofs only [go_sem,f2]) ?_
 cases b2
 ·obtain rfl:z=4:=hz ▸ if_neg (fun h=>by simp at h)
  simp -implicitDefEqProofs only [go_sem]
 simp -implicitDefEqProofs only [go_sem]
 refine A2.pureF ht (by simp -implicitDefEqProofs only [go_sem]) ?_
 cases jj
 ·simp -implicitDefEqProofs only [go_sem,h1,h2]
  refine A2.pureF hf (by simp -implicitDefEqProofs only [go_sem,hps]) ?_
  cases b3
  ·obtain rfl:z=4:=hz ▸ if_neg (fun h=>by simp at h)
   simp -implicitDefEqProofs only [go_sem]
  ·obtain rfl:z=0:=hz ▸ if_pos (by simp)
   simp -implicitDefEqProofs only [go_sem]
 ·by_cases d1:b<0
  ·obtain rfl:z=4:=hz ▸ if_neg (fun h=>by have:=(h.2.2.1 rfl).1;omega)
   simp -implicitDefEqProofs only [go_sem,d1,h1,h2,h5,k1]
  by_cases d2:b<(p.code.length:Int)
  ·simp -implicitDefEqProofs only [go_sem,d1,d2,h1,h2,h5,k1,ge_iff_le,Int.not_le.2 d2]
   refine A2.pureF hf (by simp -implicitDefEqProofs only [go_sem,hps]) ?_
   cases b3
   ·obtain rfl:z=4:=hz ▸ if_neg (fun h=>by simp at h)
    simp -implicitDefEqProofs only [go_sem]
   ·obtain rfl:z=0:=hz ▸ if_pos ⟨rfl,rfl,fun _=>⟨by omega,d2⟩,rfl⟩
    simp -implicitDefEqProofs only [go_sem]
  ·obtain rfl:z=4:=hz ▸ if_neg (fun h=>d2 (h.2.2.1 rfl).2)
   have d3:((p.code.length:Int)≤b)=True:=eq_true (by omega)
   simp -implicitDefEqProofs only [go_sem,d1,d2,d3,h1,h2,h5,k1]
theorem C7i{p:Fn}(h:A6Y p≠0):A6Y p=3:=by unfold A6Y at*;split<;>simp_all
theorem C4i{p:Fn}(h:A1j p≠0):A1j p=4:=by unfold A1j at*;split<;>simp_all
theorem B5Q(p:Fn)(hp:p.bd):Pure Tryz.prog 21 [.agg p.row] (.int .i64 (A5W p)):=by
 have hps:=Fn.row_sub H0 p
 obtain⟨h1,h2⟩:=B5 p
 have hb:=hp.self
 have hiz:=hb.code
 have hlz:=hb.lines
 have hcz:=hb.consts
 have hpz:=hb.protos
 have huz:=hb.ups
 have hvz:=hb.vars
 have g0:p.row[0]? =some (.str p.name):=by rw [Fn.row_eq];rfl
 have g1:p.row[1]? =some (.int .i64 p.line):=by rw [Fn.row_eq];rfl
 have g2:p.row[2]? =some (.int .i64 p.params):=by rw [Fn.row_eq];rfl
 have g3:p.row[3]? =some (.bool p.vararg):=by rw [Fn.row_eq];rfl
 have g4:p.row[4]? =some (.int .i64 p.regs):=by rw [Fn.row_eq];rfl
 have g5:p.row[5]? =some (.isl (p.code.map Ins.row)):=by rw [Fn.row_eq];rfl
 have g6:p.row[6]? =some (.isl (p.lines.map E2)):=by rw [Fn.row_eq];rfl
 have g7:p.row[7]? =some (.isl (p.consts.map Kst.row)):=by rw [Fn.row_eq];rfl
 have g8:p.row[8]? =some (.isl (p.protos.map Fn.row)):=by rw [Fn.row_eq];rfl
 have g9:p.row[9]? =some (.isl (p.ups.map Upv.row)):=by rw [Fn.row_eq];rfl
 have g10:p.row[10]? =some (.isl (p.vars.map Vr.row)):=by rw [Fn.row_eq];rfl
 have k_code:(p.code.map Ins.row).length=p.code.length:=List.length_map ..
 have z_code:=eq_true (A9 Ins.row 5 (fun _=>rfl) p.code)
 have r_code: ∀(k:Nat) x,p.code[k]? =some x→(p.code.map Ins.row)[k]? =some (Ins.row x):=fun k x hk=>by rw [List.getElem?_map,hk];rfl
 have k_lines:(p.lines.map E2).length=p.lines.length:=List.length_map ..
 have z_lines:=eq_true (A9 E2 1 (fun _=>rfl) p.lines)
 have r_lines: ∀(k:Nat) x,p.lines[k]? =some x→(p.lines.map E2)[k]? =some (E2 x):=fun k x hk=>by rw [List.getElem?_map,hk];rfl
 have k_consts:(p.consts.map Kst.row).length=p.consts.length:=List.length_map ..
 have z_consts:=eq_true (A9 Kst.row 5 (fun _=>rfl) p.consts)
 have r_consts: ∀(k:Nat) x,p.consts[k]? =some x→(p.consts.map Kst.row)[k]? =some (Kst.row x):=fun k x hk=>by rw [List.getElem?_map,hk];rfl
 have k_protos:(p.protos.map Fn.row).length=p.protos.length:=List.length_map ..
 have z_protos:=eq_true (A9 Fn.row 11 Fn.row_len p.protos)
 have r_protos: ∀(k:Nat) x,p.protos[k]? =some x→(p.protos.map Fn.row)[k]? =some (Fn.row x):=fun k x hk=>by rw [List.getElem?_map,hk];rfl
 have k_ups:(p.ups.map Upv.row).length=p.ups.length:=List.length_map ..
 have z_ups:=eq_true (A9 Upv.row 3 (fun _=>rfl) p.ups)
 have r_ups: ∀(k:Nat) x,p.ups[k]? =some x→(p.ups.map Upv.row)[k]? =some (Upv.row x):=fun k x hk=>by rw [List.getElem?_map,hk];rfl
 have k_vars:(p.vars.map Vr.row).length=p.vars.length:=List.length_map ..
 have z_vars:=eq_true (A9 Vr.row 5 (fun _=>rfl) p.vars)
 have r_vars: ∀(k:Nat) x,p.vars[k]? =some x→(p.vars.map Vr.row)[k]? =some (Vr.row x):=fun k x hk=>by rw [List.getElem?_map,hk];rfl
 have hli:=B5M p hp
 have hfo:=B8U p hp
 have hin:=B8W p hp
 generalize hz:A5W p=z
 unfold A5W at hz
 generalize p.code.map Ins.row=rcode at*
 generalize p.lines.map E2=rlines at*
 generalize p.consts.map Kst.row=rconsts at*
 generalize p.protos.map Fn.row=rprotos at*
 generalize p.ups.map Upv.row=rups at*
 generalize p.vars.map Vr.row=rvars at*
 generalize p.row=pr at*
 refine Pure.of 0 (A2.enter Z2 (Nat.le_of_ble_eq_true rfl) (Run.go 100 ?_))
 simp -implicitDefEqProofs only [go_sem,A4,h1,h2]
 refine A2.pureF hli (by simp -implicitDefEqProofs only [go_sem,hps]) ?_
 by_cases c0:A6Y p=0
 case neg=>
  rw [if_pos c0,C7i c0]at hz
  subst hz
  have cd:decide (A6Y p≠0)=true:=decide_eq_true c0
  simp -implicitDefEqProofs only [go_sem,cd]
 have cd:decide (A6Y p≠0)=false:=decide_eq_false (fun h=>h c0)
 rw [if_neg (by simpa using c0)]at hz
 simp -implicitDefEqProofs only [go_sem,cd,h1,h2]
 refine A2.pureF hfo (by simp -implicitDefEqProofs only [go_sem,hps]) ?_
 by_cases c1:A1j p=0
 case neg=>
  rw [if_pos c1,C4i c1]at hz
  subst hz
  have ce:decide (A1j p=0)=false:=decide_eq_false c1
  simp -implicitDefEqProofs only [go_sem,ce]
 have ce:decide (A1j p=0)=true:=decide_eq_true c1
 rw [if_neg (by simpa using c1)]at hz
 simp -implicitDefEqProofs only [go_sem,ce,h1,h2,g5,k_code]
 refine Run.keep [3,1] ?_
 refine Run.rounds (fun(x:Nat)=>⟨[(3,.int .i64 x),(1,.ptr (21*10000+1) 0 0 0)],[((21*10000+1),0,.rows 11 [pr])],1⟩) (fun x=>x≤p.code.length∧ ∀y∈p.code.take x,A0p p y=0) (fun x=>p.code.length-x) 0 (by simp -implicitDefEqProofs only [go_sem]) ⟨Nat.zero_le _,by simp⟩ ?_
 rintro k ⟨hk,hno⟩ ih
 refine Run.unf A2F (Run.go 100 ?_)
 by_cases hlt:k<p.code.length
 ·have q0:((k:Int)<(p.code.length:Int))=True:=eq_true (by omega)
  have q1:((0:Int)≤(k:Int))=True:=eq_true (by omega)
  obtain⟨x,hx⟩: ∃x,p.code[k]? =some x:=⟨p.code[k],by simp [hlt]⟩
  have hxr:=r_code k x hx
  have hix:=hin x
  have hzk:((k+1:Nat):Int)=(k:Int)+1:=by omega
  simp only [Ins.v,Ins.row]at hix
  simp -implicitDefEqProofs only [go_sem,q0,q1,k_code,z_code,g5,h1,h2,hxr,Ins.row,hlt,Option.some.injEq,forall_eq']
  refine A2.pureF hix (by simp -implicitDefEqProofs only [go_sem,hps]) ?_
  by_cases hx2:A0p p x=0
  ·simp -implicitDefEqProofs only [go_sem,hx2]
   refine⟨by omega,?_⟩
   exact ih _ (k+1) ⟨by omega,A6a hno hx hx2⟩ (by omega) (by simp -implicitDefEqProofs only [go_sem,hzk])
  ·have hf:=A5J (f:=A0p p) hno hx hx2
   rw [if_pos (by rw [hf];exact hx2),hf]at hz
   subst hz
   simp -implicitDefEqProofs only [go_sem,hx2]
 have e:k=p.code.length:=by omega
 subst e
 rw [List.take_length]at hno
 rw [if_neg (by rw [A0o (fun y hy=>by obtain⟨w,hw,rfl⟩:=List.mem_map.1 hy;exact hno w hw)];simp)]at hz
 clear ih hlt hk
 simp -implicitDefEqProofs only [go_sem,Int.lt_irrefl,h1,h2,g5,k_code]
 refine Run.keep [5,1] ?_
 refine Run.rounds (fun(x:Nat)=>⟨[(5,.int .i64 x),(1,.ptr (21*10000+1) 0 0 0)],[((21*10000+1),0,.rows 11 [pr])],1⟩) (fun x=>x≤p.protos.length∧(p.protos.take x).any (C1Y p)=false) (fun x=>p.protos.length-x) 0 (by simp -implicitDefEqProofs only [go_sem]) ⟨Nat.zero_le _,rfl⟩ ?_
 clear hno
 rintro k ⟨hk,hno⟩ ih
 refine Run.unf A2G (Run.go 100 ?_)
 by_cases hlt:k<p.protos.length
 ·have q0:((k:Int)<(p.protos.length:Int))=True:=eq_true (by omega)
  have q1:((0:Int)≤(k:Int))=True:=eq_true (by omega)
  obtain⟨q,hx⟩: ∃x,p.protos[k]? =some x:=⟨p.protos[k],by simp [hlt]⟩
  have hxr:=r_protos k q hx
  have hzk:((k+1:Nat):Int)=(k:Int)+1:=by omega
  have hqb:=(hp.child (List.mem_of_getElem? hx)).self.ups
  obtain⟨y1,y2⟩:=B5 q
  have y9:q.row[9]? =some (.isl (q.ups.map Upv.row)):=by rw [Fn.row_eq];rfl
  have j3:(q.ups.map Upv.row).length=q.ups.length:=List.length_map ..
  have zu:=eq_true (A9 Upv.row 3 (fun _=>rfl) q.ups)
  have ru: ∀(k:Nat) x,q.ups[k]? =some x→(q.ups.map Upv.row)[k]? =some (Upv.row x):=fun k x hk=>by rw [List.getElem?_map,hk];rfl
  generalize q.ups.map Upv.row=qups at*
  generalize q.row=qr at*
  simp -implicitDefEqProofs only [go_sem,q0,q1,k_protos,z_protos,g8,h1,h2,y1,y2,y9,j3,hxr,hlt,Option.some.injEq,forall_eq']
  refine Run.keep [7,6,5,1] ?_
  refine Run.rounds (fun(x:Nat)=>⟨[(7,.int .i64 x),(6,.isl qups),(5,.int .i64 k),(1,.ptr (21*10000+1) 0 0 0)],[((21*10000+1),0,.rows 11 [pr])],1⟩) (fun x=>x≤q.ups.length∧(q.ups.take x).any (A6X p.regs p.ups.length)=false) (fun x=>q.ups.length-x) 0 (by simp -implicitDefEqProofs only [go_sem]) ⟨Nat.zero_le _,rfl⟩ ?_
  rintro j ⟨hj,hnj⟩ ihj
  refine Run.unf A2H (Run.go 100 ?_)
  by_cases hltj:j<q.ups.length
  ·have q2:((j:Int)<(q.ups.length:Int))=True:=eq_true (by omega)
   have q3:((0:Int)≤(j:Int))=True:=eq_true (by omega)
   obtain⟨u,hu⟩: ∃x,q.ups[j]? =some x:=⟨q.ups[j],by simp [hltj]⟩
   have hur:=ru j u hu
   have hzj:((j+1:Nat):Int)=(j:Int)+1:=by omega
   obtain⟨un,ul,ui⟩:=u
   have bad:A6X p.regs p.ups.length ⟨un,ul,ui⟩=true→z=4:=fun hb=>hz ▸ if_pos (H6 hx (H6 hu hb))
   by_cases hbu:A6X p.regs p.ups.length ⟨un,ul,ui⟩=true
   ·obtain rfl:=bad hbu
    cases ul
    ·have d1:((p.ups.length:Int)≤ui)=True:=eq_true (by simpa [A6X]using hbu)
     simp -implicitDefEqProofs only [go_sem,q2,q3,j3,zu,hur,Upv.row,hltj,h1,h2,g4,g9,k_ups,d1,ge_iff_le,Option.some.injEq,forall_eq']
    ·have d1:(p.regs≤ui)=True:=eq_true (by simpa [A6X]using hbu)
     simp -implicitDefEqProofs only [go_sem,q2,q3,j3,zu,hur,Upv.row,hltj,h1,h2,g4,g9,k_ups,d1,ge_iff_le,Option.some.injEq,forall_eq']
   ·have hbu':A6X p.regs p.ups.length ⟨un,ul,ui⟩=false:=by simpa only [Bool.not_eq_true]using hbu
    cases ul
    ·have d1:((p.ups.length:Int)≤ui)=False:=eq_false (by simpa [A6X]using hbu)
     simp -implicitDefEqProofs only [go_sem,q2,q3,j3,zu,hur,Upv.row,hltj,h1,h2,g4,g9,k_ups,d1,ge_iff_le,Option.some.injEq,forall_eq']
     refine⟨by omega,?_⟩
     exact ihj _ (j+1) ⟨by omega,D0 hnj hu hbu'⟩ (by omega) (by simp -implicitDefEqProofs only [go_sem,hzj])
    ·have d1:(p.regs≤ui)=False:=eq_false (by simpa [A6X]using hbu)
     simp -implicitDefEqProofs only [go_sem,q2,q3,j3,zu,hur,Upv.row,hltj,h1,h2,g4,g9,k_ups,d1,ge_iff_le,Option.some.injEq,forall_eq']
     refine⟨by omega,?_⟩
     exact ihj _ (j+1) ⟨by omega,D0 hnj hu hbu'⟩ (by omega) (by simp -implicitDefEqProofs only [go_sem,hzj])
  have e:j=q.ups.length:=by omega
  subst e
  have l:=F6 hnj
  simp -implicitDefEqProofs only [go_sem,Int.lt_irrefl,j3]
  refine⟨by omega,?_⟩
  exact ih _ (k+1) ⟨by omega,D0 hno hx l⟩ (by omega) (by simp -implicitDefEqProofs only [go_sem,hzk])
 have e:k=p.protos.length:=by omega
 subst e
 have l:=F6 hno
 obtain rfl:z=0:=hz ▸ if_neg (fun h=>by simp [l]at h)
 simp -implicitDefEqProofs only [go_sem,Int.lt_irrefl,h1,h2,g8,k_protos]
theorem B3T(p:Fn)(hp:p.bd)(hc:p.each.length≤1000000):Pure Tryz.prog 12 [.agg p.row] (.int .i64 (A2e p)):=by
 obtain⟨h1,h2⟩:=B5 p
 have hps:=Fn.row_sub H0 p
 have hd:=B7p p hp hc
 have hre:=B8R p hp hc
 have hs: ∀q∈p.each,Pure Tryz.prog 21 [.agg q.row] (.int .i64 (A5W q)):=fun q hq=>B5Q q (hp.within hq)
 have hpm:(p.each.map Fn.row).length=p.each.length:=List.length_map ..
 have hrz:=eq_true (A9 Fn.row 11 Fn.row_len p.each)
 have hrow: ∀(k:Nat) q,p.each[k]? =some q→(p.each.map Fn.row)[k]? =some q.row:=fun k q hk=>by rw [List.getElem?_map,hk];rfl
 unfold A2e
 generalize p.each.map Fn.row=es at*
 generalize p.row=pr at*
 refine Pure.of 0 (A2.enter p9 (Nat.le_of_ble_eq_true rfl) (Run.go 100 ?_))
 simp -implicitDefEqProofs only [go_sem,A4,h1,h2]
 refine A2.pureF hd (by simp -implicitDefEqProofs only [go_sem,hps]) ?_
 by_cases hb:64<p.depth
 ·have z0:((64:Int)<((min p.depth 65:Nat):Int))=True:=eq_true (by omega)
  have z1:A8X p.depth (p.each.map A5W)=3:=if_pos hb
  simp -implicitDefEqProofs only [go_sem,z0,z1]
 have z0:((64:Int)<((min p.depth 65:Nat):Int))=False:=eq_false (by omega)
 have z1:A8X p.depth (p.each.map A5W)=J7 (p.each.map A5W):=if_neg hb
 rw [z1]
 generalize hz:J7 (p.each.map A5W)=z
 simp -implicitDefEqProofs only [go_sem,z0,h1,h2]
 refine A2.pureF hre (by simp -implicitDefEqProofs only [go_sem,hps]) ?_
 simp -implicitDefEqProofs only [go_sem]
 refine Run.keep [4,3] ?_
 refine Run.rounds (fun(x:Nat)=>⟨[(4,.int .i64 x),(3,.isl es)],[],1⟩) (fun x=>x≤p.each.length∧ ∀y∈p.each.take x,A5W y=0) (fun x=>p.each.length-x) 0 (by simp -implicitDefEqProofs only [go_sem]) ⟨Nat.zero_le _,by simp⟩ ?_
 rintro k ⟨hk,hno⟩ ih
 refine Run.unf A3j (Run.go 100 ?_)
 by_cases hlt:k<p.each.length
 ·have q0:((k:Int)<(p.each.length:Int))=True:=eq_true (by omega)
  have q1:((0:Int)≤(k:Int))=True:=eq_true (by omega)
  obtain⟨q,hq⟩: ∃q,p.each[k]? =some q:=⟨p.each[k],by simp [hlt]⟩
  have hqr:=hrow k q hq
  have hqs:=hs q (List.mem_of_getElem? hq)
  have hsub:=Fn.row_sub H0 q
  have hzk:((k+1:Nat):Int)=(k:Int)+1:=by omega
  obtain⟨y1,y2⟩:=B5 q
  generalize q.row=qr at*
  simp -implicitDefEqProofs only [go_sem,q0,q1,hpm,hrz,hqr,y1,y2,hlt,Option.some.injEq,forall_eq']
  refine A2.pureF hqs (by simp -implicitDefEqProofs only [go_sem,hsub]) ?_
  by_cases hx2:A5W q=0
  ·simp -implicitDefEqProofs only [go_sem,hx2]
   refine⟨by omega,?_⟩
   exact ih _ (k+1) ⟨by omega,A6a hno hq hx2⟩ (by omega) (by simp -implicitDefEqProofs only [go_sem,hzk])
  ·have hf:=A5J (f:=A5W) hno hq hx2
   rw [hf]at hz
   subst hz
   simp -implicitDefEqProofs only [go_sem,hx2]
 have e:k=p.each.length:=by omega
 subst e
 rw [List.take_length]at hno
 obtain rfl:z=0:=by rw [←hz];exact A0o (fun y hy=>by obtain⟨w,hw,rfl⟩:=List.mem_map.1 hy;exact hno w hw)
 simp -implicitDefEqProofs only [go_sem,Int.lt_irrefl,hpm]
end Go.Proofs.YtnihmhbcjpcobaaGreatDoor
