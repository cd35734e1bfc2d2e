/-
 The reference's Valid. No condition.
-/
import Derived.Test.YtflobbpcabopjaaGreatDoorCodeR
import Derived.Test.YtflobbpcabopjaaGreatDoorFnMa
import Derived.Test.YtflobbpcabopjaaGreatDoorFnM5
set_option linter.unusedVariables false
set_option linter.unusedSimpArgs false
set_option maxRecDepth 100000
set_option maxHeartbeats 0
namespace Go.Proofs.YtflobbpcabopjaaGreatDoor
open Go.Abs
attribute [local irreducible] A0 Run G9
theorem C3G(a b:Nat):Pure Tryz.prog 204 [.int .i64 a,.int .i64 b] (.int .i64 (Nat.gcd a b)):=by
 refine Pure.of 0 (A0.enter A8a (Nat.le_of_ble_eq_true rfl) (Run.go 100 ?_))
 simp -implicitDefEqProofs only [go_sem,A3]
 refine Run.rounds (fun(x:Nat×Nat)=>⟨[(1,.int .i64 x.2),(0,.int .i64 x.1)],[],0⟩) (fun x=>Nat.gcd x.1 x.2=Nat.gcd a b) (fun x=>x.2) (a,b) (by simp -implicitDefEqProofs only [go_sem]) rfl ?_
 rintro⟨x,y⟩ hg ih
 simp only at hg ih⊢
 refine Run.unf A4o (Run.go 100 ?_)
 by_cases h0:y=0
 ·subst h0
  rw [Nat.gcd_zero_right]at hg
  simp -implicitDefEqProofs only [go_sem,hg]
 ·have q0:((y:Int)=0)=False:=eq_false (by omega)
  have q1:(x:Int).tmod (y:Int)=((x%y:Nat):Int):=(Int.ofNat_tmod x y).symm
  simp -implicitDefEqProofs only [go_sem,q0,q1]
  refine ih _ (y,x%y) ?_ (Nat.mod_lt _ (by omega)) (by simp -implicitDefEqProofs only [go_sem])
  simp only
  rw [←hg,Nat.gcd_comm x y,Nat.gcd_rec y x,Nat.gcd_comm]
theorem C3A(z:Int)(h: -2147483647≤z):Pure Tryz.prog 205 [.int .i64 z] (.int .i64 z.natAbs):=by
 refine Pure.of 0 (A0.enter A7Z (Nat.le_of_ble_eq_true rfl) (Run.go 100 ?_))
 by_cases c:z<0
 ·have e:((z.natAbs:Nat):Int)=0-z:=by omega
  have e2:((z.natAbs:Nat):Int)= -z:=by omega
  simp -implicitDefEqProofs only [go_sem,A3,c]
  omega
 ·have e:((z.natAbs:Nat):Int)=z:=by omega
  simp -implicitDefEqProofs only [go_sem,A3,c,e]
theorem B5S(p q:Int):Pure Tryz.prog 173 [.agg [.int .i64 p,.int .i64 q]] (.bool (K0 p q)):=by
 refine Pure.of 0 (A0.enter A5A (Nat.le_of_ble_eq_true rfl) (Run.go 100 ?_))
 by_cases h1:1≤q
 case neg=>
  have:K0 p q=false:=by simp [K0,h1]
  simp -implicitDefEqProofs only [go_sem,A3,h1,this,ge_iff_le]
 by_cases h2:q≤2147483647
 case neg=>
  have:K0 p q=false:=by simp [K0,h2]
  simp -implicitDefEqProofs only [go_sem,A3,h1,h2,this,ge_iff_le]
 by_cases h4:p≤2147483647
 case neg=>
  have:K0 p q=false:=by simp [K0,h4]
  simp -implicitDefEqProofs only [go_sem,A3,h1,h2,h4,this,ge_iff_le]
 by_cases h3: -2147483647≤p
 case neg=>
  have:K0 p q=false:=by simp [K0,h3]
  simp -implicitDefEqProofs only [go_sem,A3,h1,h2,h3,h4,this,ge_iff_le]
 have hnum:K0 p q=decide (Int.gcd p q=1):=by simp [K0,h1,h2,h3,h4]
 have ha:=C3A p h3
 have hg:=C3G p.natAbs q.natAbs
 have e1:((q.natAbs:Nat):Int)=q:=by omega
 have e3:Nat.gcd p.natAbs q.natAbs=Int.gcd p q:=rfl
 rw [e1,e3]at hg
 have e4:(((p.gcd q:Nat):Int)=1)=(p.gcd q=1):=propext (by omega)
 simp -implicitDefEqProofs only [go_sem,A3,h1,h2,h3,h4,ge_iff_le]
 repeat' first|refine And.intro ?_ ?_|(refine A0.pureF ha (by simp -implicitDefEqProofs only [go_sem]) ?_;simp -implicitDefEqProofs only [go_sem];refine A0.pureF hg (by simp -implicitDefEqProofs only [go_sem]) ?_;simp -implicitDefEqProofs only [go_sem,hnum,e3,e4];done)|(refine A0.pureF ha (by simp -implicitDefEqProofs only [go_sem]) ?_;simp -implicitDefEqProofs only [go_sem])
theorem C3O(v:Kst): ∃b,(v.kind≤3→b=D1 v)∧Pure Tryz.prog 133 [.agg v.row] (.bool b):=by
 obtain⟨kind,p,q,str,ref⟩:=v
 have hn:=B5S p q
 simp only
 by_cases k0:kind=0
 ·subst k0
  refine⟨_,fun _=>rfl,Pure.of 0 (A0.enter C2 (Nat.le_of_ble_eq_true rfl) (Run.go 100 ?_))⟩
  simp -implicitDefEqProofs only [go_sem,A3,Kst.row,D1]
  simp only [Bool.and_assoc]
 by_cases k1:kind=1
 ·subst k1
  refine⟨_,fun _=>rfl,Pure.of 0 (A0.enter C2 (Nat.le_of_ble_eq_true rfl) (Run.go 100 ?_))⟩
  simp -implicitDefEqProofs only [go_sem,A3,Kst.row,D1]
  by_cases r0:ref=0<;>by_cases r1:ref=1<;>simp [r0,r1,Bool.and_assoc]
 by_cases k2:kind=2
 ·subst k2
  refine⟨_,fun _=>rfl,Pure.of 0 (A0.enter C2 (Nat.le_of_ble_eq_true rfl) (Run.go 100 ?_))⟩
  simp -implicitDefEqProofs only [go_sem,A3,Kst.row,D1]
  cases(decide (str= [])&&decide (ref=0))
  ·exact⟨fun h=>absurd h (by decide),fun _=>(Bool.and_false _).symm⟩
  ·refine⟨fun _=> ?_,fun h=>absurd h (by decide)⟩
   refine A0.pureF hn (by simp -implicitDefEqProofs only [go_sem]) ?_
   simp -implicitDefEqProofs only [go_sem,Bool.and_true]
 by_cases k3:kind=3
 ·subst k3
  refine⟨_,fun _=>rfl,Pure.of 0 (A0.enter C2 (Nat.le_of_ble_eq_true rfl) (Run.go 100 ?_))⟩
  simp -implicitDefEqProofs only [go_sem,A3,Kst.row,D1]
  by_cases r0:(str.length:Int)≤4096
  ·have r1:str.length≤4096:=by omega
   simp [r0,r1,Bool.and_assoc]
  ·have r1: ¬str.length≤4096:=by omega
   simp [r0,r1]
 by_cases k6:kind=6
 ·subst k6
  refine⟨decide (1≤str.length)&&(decide (str.length≤4096)&&(decide (p=0)&&(decide (q=0)&&decide (ref=0)))),fun h=>absurd h (by omega),Pure.of 0 (A0.enter C2 (Nat.le_of_ble_eq_true rfl) (Run.go 100 ?_))⟩
  simp -implicitDefEqProofs only [go_sem,A3,Kst.row,ge_iff_le]
  by_cases s0:(1:Int)≤(str.length:Int)
  ·have s1:1≤str.length:=by omega
   by_cases r0:(str.length:Int)≤4096
   ·have r1:str.length≤4096:=by omega
    simp [s0,s1,r0,r1,Bool.and_assoc]
   ·have r1: ¬str.length≤4096:=by omega
    simp [s0,s1,r0,r1]
  ·have s1: ¬1≤str.length:=by omega
   simp [s0,s1]
 have hx: ∀z:Int,z=4∨z=5∨z=7∨z=8→Pure Tryz.prog 133 [.agg (Kst.row ⟨z,p,q,str,ref⟩)] (.bool (decide (p=0)&&(decide (q=0)&&(decide (str= [])&&decide (1≤ref))))):=by
  rintro z (rfl|rfl|rfl|rfl)<;>
  (refine Pure.of 0 (A0.enter C2 (Nat.le_of_ble_eq_true rfl) (Run.go 100 ?_))
   simp -implicitDefEqProofs only [go_sem,A3,Kst.row,ge_iff_le]
   by_cases a:p=0<;>by_cases b:q=0<;>by_cases c:str= []<;>simp [a,b,c])
 by_cases k4:kind=4∨kind=5∨kind=7∨kind=8
 ·exact⟨_,fun h=>absurd h (by omega),hx kind k4⟩
 have e4:(kind=4)=False:=eq_false (by omega)
 have e5:(kind=5)=False:=eq_false (by omega)
 have e7:(kind=7)=False:=eq_false (by omega)
 have e8:(kind=8)=False:=eq_false (by omega)
 refine⟨false,fun _=>by simp [D1,k0,k1,k2,k3],Pure.of 0 (A0.enter C2 (Nat.le_of_ble_eq_true rfl) (Run.go 100 ?_))⟩
 simp -implicitDefEqProofs only [go_sem,A3,Kst.row,k0,k1,k2,k3,k6,e4,e5,e7,e8]
theorem C6X{C:Prop} [Decidable C]:((if C then(0:Int)else 4)=0)=C:=propext ⟨fun h=>by by_cases c:C;exact c;rw [if_neg c]at h;exact absurd h (by decide),fun h=>if_pos h⟩
theorem C1b(p:Fn)(hp:p.bd):Pure Tryz.prog 86 [.agg p.row] (.bool (decide (A1B p=0))):=by
 obtain⟨h1,h2⟩:=B5 p
 have hb:=hp.self
 have hiz:=hb.code
 have hlz:=hb.lines
 have hcz:=hb.consts
 have hpz:=hb.protos
 have huz:=hb.ups
 have hvz:=hb.vars
 have g0:p.row[0]? =some (.str p.name):=by rw [Fn.row_eq];rfl
 have g1:p.row[1]? =some (.int .i64 p.line):=by rw [Fn.row_eq];rfl
 have g2:p.row[2]? =some (.int .i64 p.params):=by rw [Fn.row_eq];rfl
 have g3:p.row[3]? =some (.bool p.vararg):=by rw [Fn.row_eq];rfl
 have g4:p.row[4]? =some (.int .i64 p.regs):=by rw [Fn.row_eq];rfl
 have g5:p.row[5]? =some (.isl (p.code.map Ins.row)):=by rw [Fn.row_eq];rfl
 have g6:p.row[6]? =some (.isl (p.lines.map C7)):=by rw [Fn.row_eq];rfl
 have g7:p.row[7]? =some (.isl (p.consts.map Kst.row)):=by rw [Fn.row_eq];rfl
 have g8:p.row[8]? =some (.isl (p.protos.map Fn.row)):=by rw [Fn.row_eq];rfl
 have g9:p.row[9]? =some (.isl (p.ups.map Upv.row)):=by rw [Fn.row_eq];rfl
 have g10:p.row[10]? =some (.isl (p.vars.map Vr.row)):=by rw [Fn.row_eq];rfl
 have k_code:(p.code.map Ins.row).length=p.code.length:=List.length_map ..
 have z_code:=eq_true (A7 Ins.row 5 (fun _=>rfl) p.code)
 have r_code: ∀(k:Nat) x,p.code[k]? =some x→(p.code.map Ins.row)[k]? =some (Ins.row x):=fun k x hk=>by rw [List.getElem?_map,hk];rfl
 have k_lines:(p.lines.map C7).length=p.lines.length:=List.length_map ..
 have z_lines:=eq_true (A7 C7 1 (fun _=>rfl) p.lines)
 have r_lines: ∀(k:Nat) x,p.lines[k]? =some x→(p.lines.map C7)[k]? =some (C7 x):=fun k x hk=>by rw [List.getElem?_map,hk];rfl
 have k_consts:(p.consts.map Kst.row).length=p.consts.length:=List.length_map ..
 have z_consts:=eq_true (A7 Kst.row 5 (fun _=>rfl) p.consts)
 have r_consts: ∀(k:Nat) x,p.consts[k]? =some x→(p.consts.map Kst.row)[k]? =some (Kst.row x):=fun k x hk=>by rw [List.getElem?_map,hk];rfl
 have k_protos:(p.protos.map Fn.row).length=p.protos.length:=List.length_map ..
 have z_protos:=eq_true (A7 Fn.row 11 Fn.row_len p.protos)
 have r_protos: ∀(k:Nat) x,p.protos[k]? =some x→(p.protos.map Fn.row)[k]? =some (Fn.row x):=fun k x hk=>by rw [List.getElem?_map,hk];rfl
 have k_ups:(p.ups.map Upv.row).length=p.ups.length:=List.length_map ..
 have z_ups:=eq_true (A7 Upv.row 3 (fun _=>rfl) p.ups)
 have r_ups: ∀(k:Nat) x,p.ups[k]? =some x→(p.ups.map Upv.row)[k]? =some (Upv.row x):=fun k x hk=>by rw [List.getElem?_map,hk];rfl
 have k_vars:(p.vars.map Vr.row).length=p.vars.length:=List.length_map ..
 have z_vars:=eq_true (A7 Vr.row 5 (fun _=>rfl) p.vars)
 have r_vars: ∀(k:Nat) x,p.vars[k]? =some x→(p.vars.map Vr.row)[k]? =some (Vr.row x):=fun k x hk=>by rw [List.getElem?_map,hk];rfl
 generalize hl:decide (A1B p=0)=z
 simp only [A1B,C6X]at hl
 generalize p.code.map Ins.row=rcode at*
 generalize p.lines.map C7=rlines at*
 generalize p.consts.map Kst.row=rconsts at*
 generalize p.protos.map Fn.row=rprotos at*
 generalize p.ups.map Upv.row=rups at*
 generalize p.vars.map Vr.row=rvars at*
 generalize p.row=pr at*
 refine Pure.of 0 (A0.enter A6P (Nat.le_of_ble_eq_true rfl) (Run.go 100 ?_))
 by_cases l0:p.code.length≠0
 case neg=>
  obtain rfl:z=false:=hl ▸ decide_eq_false (fun h=>l0 h.1)
  have z0:((p.code.length:Int)=0)=True:=eq_true (by omega)
  simp -implicitDefEqProofs only [go_sem,A3,h1,h2,g0,g1,g2,g3,g4,g5,g6,g7,g8,g9,g10,k_code,k_lines,k_consts,k_protos,k_ups,k_vars,z0]
 have z0:((p.code.length:Int)=0)=False:=eq_false (by omega)
 by_cases l1:0≤p.regs
 case neg=>
  obtain rfl:z=false:=hl ▸ decide_eq_false (fun h=>l1 h.2.1)
  have z1:(p.regs<0)=True:=eq_true (by omega)
  simp -implicitDefEqProofs only [go_sem,A3,h1,h2,g0,g1,g2,g3,g4,g5,g6,g7,g8,g9,g10,k_code,k_lines,k_consts,k_protos,k_ups,k_vars,z0,z1]
 have z1:(p.regs<0)=False:=eq_false (by omega)
 by_cases l2:0≤p.params
 case neg=>
  obtain rfl:z=false:=hl ▸ decide_eq_false (fun h=>l2 h.2.2.1)
  have z2:(p.params<0)=True:=eq_true (by omega)
  simp -implicitDefEqProofs only [go_sem,A3,h1,h2,g0,g1,g2,g3,g4,g5,g6,g7,g8,g9,g10,k_code,k_lines,k_consts,k_protos,k_ups,k_vars,z0,z1,z2]
 have z2:(p.params<0)=False:=eq_false (by omega)
 by_cases l3:0≤p.line
 case neg=>
  obtain rfl:z=false:=hl ▸ decide_eq_false (fun h=>l3 h.2.2.2.1)
  have z3:(p.line<0)=True:=eq_true (by omega)
  simp -implicitDefEqProofs only [go_sem,A3,h1,h2,g0,g1,g2,g3,g4,g5,g6,g7,g8,g9,g10,k_code,k_lines,k_consts,k_protos,k_ups,k_vars,z0,z1,z2,z3]
 have z3:(p.line<0)=False:=eq_false (by omega)
 by_cases l4:p.params≤p.regs
 case neg=>
  obtain rfl:z=false:=hl ▸ decide_eq_false (fun h=>l4 h.2.2.2.2.1)
  have z4:(p.regs<p.params)=True:=eq_true (by omega)
  simp -implicitDefEqProofs only [go_sem,A3,h1,h2,g0,g1,g2,g3,g4,g5,g6,g7,g8,g9,g10,k_code,k_lines,k_consts,k_protos,k_ups,k_vars,z0,z1,z2,z3,z4]
 have z4:(p.regs<p.params)=False:=eq_false (by omega)
 by_cases l5:p.lines.length=0∨p.lines.length=p.code.length
 case neg=>
  obtain rfl:z=false:=hl ▸ decide_eq_false (fun h=>l5 h.2.2.2.2.2.1)
  have z5:((p.lines.length:Int)=0)=False:=eq_false (by omega)
  have z6:((p.lines.length:Int)=(p.code.length:Int))=False:=eq_false (by omega)
  simp -implicitDefEqProofs only [go_sem,A3,h1,h2,g0,g1,g2,g3,g4,g5,g6,g7,g8,g9,g10,k_code,k_lines,k_consts,k_protos,k_ups,k_vars,z0,z1,z2,z3,z4,z5,z6]
 rcases(by omega:((p.lines.length:Int)=0)∨(¬(p.lines.length:Int)=0∧(p.lines.length:Int)=(p.code.length:Int)))with z5|⟨z5,z6⟩
 case' inl=>simp -implicitDefEqProofs only [go_sem,A3,h1,h2,g0,g1,g2,g3,g4,g5,g6,g7,g8,g9,g10,k_code,k_lines,k_consts,k_protos,k_ups,k_vars,z0,z1,z2,z3,z4,z5]
 case' inr=>simp -implicitDefEqProofs only [go_sem,A3,h1,h2,g0,g1,g2,g3,g4,g5,g6,g7,g8,g9,g10,k_code,k_lines,k_consts,k_protos,k_ups,k_vars,z0,z1,z2,z3,z4,z5,z6]
 all_goals
  refine Run.keep [3,1] ?_
  refine Run.rounds (fun(x:Nat×Nat)=>⟨[(3,.int .i64 x.1),(1,.ptr (86*10000+1) 0 0 0)],[((86*10000+1),0,.rows 11 [pr])],x.2⟩) (fun x=>x.1≤p.lines.length∧(p.lines.take x.1).any (fun z=>decide (z<0))=false) (fun x=>p.lines.length-x.1) (0,1) (by simp -implicitDefEqProofs only [go_sem]) ⟨Nat.zero_le _,rfl⟩ ?_
  rintro⟨k,m⟩ ⟨hk,hno⟩ ih
  simp only at hk hno ih⊢
  refine Run.unf A3y (Run.go 100 ?_)
  by_cases hlt:k<p.lines.length
  ·have q0:((k:Int)<(p.lines.length:Int))=True:=eq_true (by omega)
   have q1:((0:Int)≤(k:Int))=True:=eq_true (by omega)
   obtain⟨x,hx⟩: ∃x,p.lines[k]? =some x:=⟨p.lines[k],by simp [hlt]⟩
   have hxr:=r_lines k x hx
   have hzk:((k+1:Nat):Int)=(k:Int)+1:=by omega
   have bad:(fun z=>decide (z<0)) x=true→z=false:=fun hb=>hl ▸ decide_eq_false (fun h=>by simp [Q4 (f:=fun z=>decide (z<0)) hx hb]at h)
   by_cases c:x<0
   ·obtain rfl:=bad (decide_eq_true c)
    simp -implicitDefEqProofs only [go_sem,q0,q1,h1,h2,g4,g5,g6,g7,g9,g10,k_code,k_lines,z_lines,hxr,C7,c,hlt,Option.some.injEq,forall_eq']
   ·simp -implicitDefEqProofs only [go_sem,q0,q1,h1,h2,g4,g5,g6,g7,g9,g10,k_code,k_lines,z_lines,hxr,C7,c,hlt,Option.some.injEq,forall_eq']
    refine⟨by omega,?_⟩
    exact ih _ (k+1,m) ⟨by simp only;omega,F1 hno hx (decide_eq_false c)⟩ (by simp only;omega) (by simp -implicitDefEqProofs only [go_sem,hzk])
  have e:k=p.lines.length:=by omega
  subst e
  have m_lines:=K8 hno
  clear ih hno hlt hk
  simp -implicitDefEqProofs only [go_sem,Int.lt_irrefl,h1,h2,g4,g5,g6,g7,g9,g10,k_code,k_lines]
  refine Run.keep [4,1] ?_
  refine Run.rounds (fun(x:Nat×Nat)=>⟨[(4,.int .i64 x.1),(1,.ptr (86*10000+1) 0 0 0)],[((86*10000+1),0,.rows 11 [pr])],x.2⟩) (fun x=>x.1≤p.consts.length∧(p.consts.take x.1).any (A2j)=false) (fun x=>p.consts.length-x.1) (0,m) (by simp -implicitDefEqProofs only [go_sem]) ⟨Nat.zero_le _,rfl⟩ ?_
  rintro⟨k,m⟩ ⟨hk,hno⟩ ih
  simp only at hk hno ih⊢
  refine Run.unf A3z (Run.go 100 ?_)
  by_cases hlt:k<p.consts.length
  ·have q0:((k:Int)<(p.consts.length:Int))=True:=eq_true (by omega)
   have q1:((0:Int)≤(k:Int))=True:=eq_true (by omega)
   obtain⟨x,hx⟩: ∃x,p.consts[k]? =some x:=⟨p.consts[k],by simp [hlt]⟩
   have hxr:=r_consts k x hx
   have hzk:((k+1:Nat):Int)=(k:Int)+1:=by omega
   have bad:(A2j) x=true→z=false:=fun hb=>hl ▸ decide_eq_false (fun h=>by simp [Q4 (f:=A2j) hx hb]at h)
   obtain⟨b,hb1,hb2⟩:=C3O x
   simp only [Kst.row]at hb2
   simp -implicitDefEqProofs only [go_sem,q0,q1,h1,h2,g4,g5,g6,g7,g9,g10,k_code,k_consts,z_consts,hxr,Kst.row,hlt,Option.some.injEq,forall_eq']
   refine A0.pureF hb2 (by simp -implicitDefEqProofs only [go_sem]) ?_
   cases b with
   | false=>
    have hb3:A2j x=true:=by
     by_cases c3:3<x.kind
     ·simp [A2j,c3]
     ·simp [A2j,←hb1 (by omega)]
    obtain rfl:=bad hb3
    simp -implicitDefEqProofs only [go_sem]
   | true=>
    by_cases c3:3<x.kind
    ·obtain rfl:=bad (by simp [A2j,c3])
     simp -implicitDefEqProofs only [go_sem,q0,q1,h1,h2,g4,g5,g6,g7,g9,g10,k_code,k_consts,z_consts,hxr,Kst.row,hlt,c3,Option.some.injEq,forall_eq']
    ·have hbk:A2j x=false:=by simp [A2j,c3,←hb1 (by omega)]
     simp -implicitDefEqProofs only [go_sem,q0,q1,h1,h2,g4,g5,g6,g7,g9,g10,k_code,k_consts,z_consts,hxr,Kst.row,hlt,c3,Option.some.injEq,forall_eq']
     refine⟨by omega,?_⟩
     exact ih _ (k+1,m) ⟨by simp only;omega,F1 hno hx hbk⟩ (by simp only;omega) (by simp -implicitDefEqProofs only [go_sem,hzk])
  have e:k=p.consts.length:=by omega
  subst e
  have m_consts:=K8 hno
  clear ih hno hlt hk
  simp -implicitDefEqProofs only [go_sem,Int.lt_irrefl,h1,h2,g4,g5,g6,g7,g9,g10,k_code,k_consts]
  refine Run.keep [5,1] ?_
  refine Run.rounds (fun(x:Nat×Nat)=>⟨[(5,.int .i64 x.1),(1,.ptr (86*10000+1) 0 0 0)],[((86*10000+1),0,.rows 11 [pr])],x.2⟩) (fun x=>x.1≤p.ups.length∧(p.ups.take x.1).any (fun u=>decide (u.idx<0))=false) (fun x=>p.ups.length-x.1) (0,m) (by simp -implicitDefEqProofs only [go_sem]) ⟨Nat.zero_le _,rfl⟩ ?_
  rintro⟨k,m⟩ ⟨hk,hno⟩ ih
  simp only at hk hno ih⊢
  refine Run.unf A3A (Run.go 100 ?_)
  by_cases hlt:k<p.ups.length
  ·have q0:((k:Int)<(p.ups.length:Int))=True:=eq_true (by omega)
   have q1:((0:Int)≤(k:Int))=True:=eq_true (by omega)
   obtain⟨x,hx⟩: ∃x,p.ups[k]? =some x:=⟨p.ups[k],by simp [hlt]⟩
   have hxr:=r_ups k x hx
   have hzk:((k+1:Nat):Int)=(k:Int)+1:=by omega
   have bad:(fun u=>decide (u.idx<0)) x=true→z=false:=fun hb=>hl ▸ decide_eq_false (fun h=>by simp [Q4 (f:=fun u=>decide (u.idx<0)) hx hb]at h)
   by_cases c:x.idx<0
   ·obtain rfl:=bad (decide_eq_true c)
    simp -implicitDefEqProofs only [go_sem,q0,q1,h1,h2,g4,g5,g6,g7,g9,g10,k_code,k_ups,z_ups,hxr,Upv.row,c,hlt,Option.some.injEq,forall_eq']
   ·simp -implicitDefEqProofs only [go_sem,q0,q1,h1,h2,g4,g5,g6,g7,g9,g10,k_code,k_ups,z_ups,hxr,Upv.row,c,hlt,Option.some.injEq,forall_eq']
    refine⟨by omega,?_⟩
    exact ih _ (k+1,m) ⟨by simp only;omega,F1 hno hx (decide_eq_false c)⟩ (by simp only;omega) (by simp -implicitDefEqProofs only [go_sem,hzk])
  have e:k=p.ups.length:=by omega
  subst e
  have m_ups:=K8 hno
  clear ih hno hlt hk
  simp -implicitDefEqProofs only [go_sem,Int.lt_irrefl,h1,h2,g4,g5,g6,g7,g9,g10,k_code,k_ups]
  refine Run.keep [6,1] ?_
  refine Run.rounds (fun(x:Nat×Nat)=>⟨[(6,.int .i64 x.1),(1,.ptr (86*10000+1) 0 0 0)],[((86*10000+1),0,.rows 11 [pr])],x.2⟩) (fun x=>x.1≤p.vars.length∧(p.vars.take x.1).any (S0 p.regs p.code.length)=false) (fun x=>p.vars.length-x.1) (0,m) (by simp -implicitDefEqProofs only [go_sem]) ⟨Nat.zero_le _,rfl⟩ ?_
  rintro⟨k,m⟩ ⟨hk,hno⟩ ih
  simp only at hk hno ih⊢
  refine Run.unf A3B (Run.go 100 ?_)
  by_cases hlt:k<p.vars.length
  ·have q0:((k:Int)<(p.vars.length:Int))=True:=eq_true (by omega)
   have q1:((0:Int)≤(k:Int))=True:=eq_true (by omega)
   obtain⟨x,hx⟩: ∃x,p.vars[k]? =some x:=⟨p.vars[k],by simp [hlt]⟩
   have hxr:=r_vars k x hx
   have hzk:((k+1:Nat):Int)=(k:Int)+1:=by omega
   have bad:(S0 p.regs p.code.length) x=true→z=false:=fun hb=>hl ▸ decide_eq_false (fun h=>by simp [Q4 (f:=S0 p.regs p.code.length) hx hb]at h)
   by_cases v1:x.reg<0
   case pos=>
    obtain rfl:=bad (by simp [S0,v1])
    simp -implicitDefEqProofs only [go_sem,q0,q1,h1,h2,g4,g5,g6,g7,g9,g10,k_code,k_vars,z_vars,hxr,Vr.row,Option.some.injEq,forall_eq',hlt,v1,ge_iff_le]
   by_cases v2:p.regs≤x.reg
   case pos=>
    obtain rfl:=bad (by simp [S0,v2])
    simp -implicitDefEqProofs only [go_sem,q0,q1,h1,h2,g4,g5,g6,g7,g9,g10,k_code,k_vars,z_vars,hxr,Vr.row,Option.some.injEq,forall_eq',hlt,v1,v2,ge_iff_le]
   by_cases v3:x.attr<0
   case pos=>
    obtain rfl:=bad (by simp [S0,v3])
    simp -implicitDefEqProofs only [go_sem,q0,q1,h1,h2,g4,g5,g6,g7,g9,g10,k_code,k_vars,z_vars,hxr,Vr.row,Option.some.injEq,forall_eq',hlt,v1,v2,v3,ge_iff_le]
   by_cases v4:2<x.attr
   case pos=>
    obtain rfl:=bad (by simp [S0,v4])
    simp -implicitDefEqProofs only [go_sem,q0,q1,h1,h2,g4,g5,g6,g7,g9,g10,k_code,k_vars,z_vars,hxr,Vr.row,Option.some.injEq,forall_eq',hlt,v1,v2,v3,v4,ge_iff_le]
   by_cases v5:x.lo<0
   case pos=>
    obtain rfl:=bad (by simp [S0,v5])
    simp -implicitDefEqProofs only [go_sem,q0,q1,h1,h2,g4,g5,g6,g7,g9,g10,k_code,k_vars,z_vars,hxr,Vr.row,Option.some.injEq,forall_eq',hlt,v1,v2,v3,v4,v5,ge_iff_le]
   by_cases v6:x.hi<x.lo
   case pos=>
    obtain rfl:=bad (by simp [S0,v6])
    simp -implicitDefEqProofs only [go_sem,q0,q1,h1,h2,g4,g5,g6,g7,g9,g10,k_code,k_vars,z_vars,hxr,Vr.row,Option.some.injEq,forall_eq',hlt,v1,v2,v3,v4,v5,v6,ge_iff_le]
   by_cases v7:(p.code.length:Int)<x.hi
   case pos=>
    obtain rfl:=bad (by simp [S0,v7])
    simp -implicitDefEqProofs only [go_sem,q0,q1,h1,h2,g4,g5,g6,g7,g9,g10,k_code,k_vars,z_vars,hxr,Vr.row,Option.some.injEq,forall_eq',hlt,v1,v2,v3,v4,v5,v6,v7,ge_iff_le]
   have hbk:S0 p.regs p.code.length x=false:=by simp [S0,v1,v2,v3,v4,v5,v6,v7]
   simp -implicitDefEqProofs only [go_sem,q0,q1,h1,h2,g4,g5,g6,g7,g9,g10,k_code,k_vars,z_vars,hxr,Vr.row,Option.some.injEq,forall_eq',hlt,v1,v2,v3,v4,v5,v6,v7,ge_iff_le]
   refine⟨by omega,?_⟩
   exact ih _ (k+1,m+1) ⟨by simp only;omega,F1 hno hx hbk⟩ (by simp only;omega) (by simp -implicitDefEqProofs only [go_sem,hzk])
  have e:k=p.vars.length:=by omega
  subst e
  have m_vars:=K8 hno
  clear ih hno hlt hk
  obtain rfl:z=true:=hl ▸ decide_eq_true ⟨l0,l1,l2,l3,l4,l5,m_lines,m_ups,m_consts,m_vars⟩
  simp -implicitDefEqProofs only [go_sem,Int.lt_irrefl,h1,h2,g4,g5,g6,g7,g9,g10,k_code,k_vars]
end Go.Proofs.YtflobbpcabopjaaGreatDoor
