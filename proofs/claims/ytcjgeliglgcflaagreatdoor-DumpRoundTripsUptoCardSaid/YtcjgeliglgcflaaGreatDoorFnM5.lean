/-
 The form of a function. No condition.
-/
import Derived.Test.YtcjgeliglgcflaaGreatDoorFnMa
set_option linter.unusedVariables false
set_option linter.unusedSimpArgs false
set_option maxRecDepth 100000
set_option maxHeartbeats 0
namespace Go.Proofs.YtcjgeliglgcflaaGreatDoor
open Go.Abs
attribute [local irreducible] A3 Run J0
theorem B5Y(z:Int)(h:A2)(n:Nat):A3 Tryz.prog 71 [.int .i64 z] h n fun r h' n'=>r= .bool (decide (z<0))∧h'=h:=by
 refine A3.enterK A5n (Nat.le_of_ble_eq_true rfl) fun Q hQ=>Run.go 100 ?_
 simp -implicitDefEqProofs only [go_sem,A8]
 subst hQ
 exact .is ⟨rfl,rfl⟩
theorem C1K(u:Upv)(B:Blk)(n:Nat):A3 Tryz.prog 72 [.agg (Upv.row u)] [((42*10000+1),0,B)] n fun r h' n'=>r= .bool (decide (u.idx<0))∧h'= [((42*10000+1),0,B)]:=by
 refine A3.enterK A5o (Nat.le_of_ble_eq_true rfl) fun Q hQ=>Run.go 100 ?_
 simp -implicitDefEqProofs only [go_sem,A8,Upv.row]
 subst hQ
 exact .to (r2:= .bool _) (n2:=n+1) ⟨rfl,rfl⟩ (.turn id ⟨.refl _,trivial⟩ (.at 1 rfl rfl (.refl _) trivial))
def A4w(v:Kst):Bool:=decide (3<v.kind)|| !O7 v
def A1u(regs:Int)(n:Nat)(v:Vr):Bool:=decide (v.reg<0)||(decide (regs≤v.reg)||(decide (v.attr<0)||(decide (2<v.attr)||(decide (v.lo<0)||(decide (v.hi<v.lo)||decide ((n:Int)<v.hi))))))
def B0p(p:Fn):Int:=
 if p.code.length≠0∧0≤p.regs∧0≤p.params∧0≤p.line∧p.params≤p.regs∧(p.lines.length=0∨p.lines.length=p.code.length)∧p.lines.any (fun z=>decide (z<0))=false∧p.ups.any (fun u=>decide (u.idx<0))=false∧p.consts.any A4w=false∧p.vars.any (A1u p.regs p.code.length)=false then 0 else 4
theorem B9F(p:Fn)(hp:p.bd):Pure Tryz.prog 42 [.agg p.row] (.int .i64 (B0p p)):=by
 obtain⟨h1,h2⟩:=C7 p
 have hb:=hp.self
 rw [Fn.row_eq]at h1 h2⊢
 obtain⟨name,line,params,vararg,regs,code,lines,consts,protos,ups,vars⟩:=p
 have k1:(code.map Ins.row).length=code.length:=List.length_map ..
 have k2:(consts.map Kst.row).length=consts.length:=List.length_map ..
 have k3:(lines.map D1).length=lines.length:=List.length_map ..
 have k5:(vars.map Vr.row).length=vars.length:=List.length_map ..
 have hu:ups.length≤17592186043904:=by have:=hb.ups;simp only at this;omega
 have hlz:lines.length≤17592186043904:=by have:=hb.lines;simp only at this;omega
 have hcz:consts.length≤17592186043904:=by have:=hb.consts;simp only at this;omega
 have hvz:vars.length≤17592186043904:=by have:=hb.vars;simp only at this;omega
 have hiz:code.length≤17592186043904:=by have:=hb.code;simp only at this;omega
 have cl:=A8D lines hlz (fun z=>decide (z<0)) 71 []
 have cu:=B0j ups hu (fun u=>decide (u.idx<0)) 72 []
 generalize hl:B0p _=z
 simp only [B0p]at hl
 simp only at*
 have zc:=eq_true (B8 Kst.row 5 (fun _=>rfl) consts)
 have zv:=eq_true (B8 Vr.row 5 (fun _=>rfl) vars)
 have rc: ∀(k:Nat) x,consts[k]? =some x→(consts.map Kst.row)[k]? =some (Kst.row x):=fun k x hk=>by rw [List.getElem?_map,hk];rfl
 have rv: ∀(k:Nat) x,vars[k]? =some x→(vars.map Vr.row)[k]? =some (Vr.row x):=fun k x hk=>by rw [List.getElem?_map,hk];rfl
 generalize code.map Ins.row=rcode at*
 generalize consts.map Kst.row=rconsts at*
 generalize protos.map Fn.row=rprotos at*
 generalize lines.map D1=rlines at*
 generalize ups.map Upv.row=rups at*
 generalize vars.map Vr.row=rvars at*
 refine Pure.of 0 (A3.enter A7G (Nat.le_of_ble_eq_true rfl) (Run.go 100 ?_))
 by_cases l1:code.length≠0
 case neg=>
  obtain rfl:z=4:=hl ▸ if_neg (fun h=>l1 h.1)
  have z1:((code.length:Int)=0)=True:=eq_true (by omega)
  simp -implicitDefEqProofs only [go_sem,A8,h1,h2,k1,k2,k3,k5,z1]
 have z1:((code.length:Int)=0)=False:=eq_false (by omega)
 by_cases l2:0≤regs
 case neg=>
  obtain rfl:z=4:=hl ▸ if_neg (fun h=>l2 h.2.1)
  have z2:(regs<0)=True:=eq_true (by omega)
  simp -implicitDefEqProofs only [go_sem,A8,h1,h2,k1,k2,k3,k5,z1,z2]
 have z2:(regs<0)=False:=eq_false (by omega)
 by_cases l3:0≤params
 case neg=>
  obtain rfl:z=4:=hl ▸ if_neg (fun h=>l3 h.2.2.1)
  have z3:(params<0)=True:=eq_true (by omega)
  simp -implicitDefEqProofs only [go_sem,A8,h1,h2,k1,k2,k3,k5,z1,z2,z3]
 have z3:(params<0)=False:=eq_false (by omega)
 by_cases l4:0≤line
 case neg=>
  obtain rfl:z=4:=hl ▸ if_neg (fun h=>l4 h.2.2.2.1)
  have z4:(line<0)=True:=eq_true (by omega)
  simp -implicitDefEqProofs only [go_sem,A8,h1,h2,k1,k2,k3,k5,z1,z2,z3,z4]
 have z4:(line<0)=False:=eq_false (by omega)
 by_cases l5:params≤regs
 case neg=>
  obtain rfl:z=4:=hl ▸ if_neg (fun h=>l5 h.2.2.2.2.1)
  have z5:(regs<params)=True:=eq_true (by omega)
  simp -implicitDefEqProofs only [go_sem,A8,h1,h2,k1,k2,k3,k5,z1,z2,z3,z4,z5]
 have z5:(regs<params)=False:=eq_false (by omega)
 by_cases l6d:lines.length=0∨lines.length=code.length
 case neg=>
  obtain rfl:z=4:=hl ▸ if_neg (fun h=>l6d h.2.2.2.2.2.1)
  have z6:((lines.length:Int)=0)=False:=eq_false (by omega)
  have z7:((lines.length:Int)=(code.length:Int))=False:=eq_false (by omega)
  simp -implicitDefEqProofs only [go_sem,A8,h1,h2,k1,k2,k3,k5,z1,z2,z3,z4,z5,z6,z7]
 by_cases l6:lines.length=0
 ·have z6:((lines.length:Int)=0)=True:=eq_true (by omega)
  simp -implicitDefEqProofs only [go_sem,A8,h1,h2,k1,k2,k3,k5,z1,z2,z3,z4,z5,z6]
  refine(cl _ (by kernel_rfl) (fun x _ m=>B5Y x _ m) _).mono ?_
  rintro r h' n' ⟨rfl,rfl⟩
  by_cases l8:lines.any (fun z=>decide (z<0))=true
  ·obtain rfl:z=4:=hl ▸ if_neg (fun h=>by simp [l8]at h)
   simp -implicitDefEqProofs only [go_sem,l8]
  have l8:lines.any (fun z=>decide (z<0))=false:=by simpa only [Bool.not_eq_true]using l8
  simp -implicitDefEqProofs only [go_sem,l8,h1,h2]
  refine(cu _ (by kernel_rfl) (fun u _ m=>C1K u _ m) _).mono ?_
  rintro r h' n' ⟨rfl,rfl⟩
  by_cases l9:ups.any (fun u=>decide (u.idx<0))=true
  ·obtain rfl:z=4:=hl ▸ if_neg (fun h=>by simp [l9]at h)
   simp -implicitDefEqProofs only [go_sem,l9]
  have l9:ups.any (fun u=>decide (u.idx<0))=false:=by simpa only [Bool.not_eq_true]using l9
  simp -implicitDefEqProofs only [go_sem,l9,h1,h2,k1,k2,k3,k5]
  refine Run.keep [59,58,57,3,1] ?_
  generalize hB:([[V.str name,.int .i64 line,.int .i64 params,.bool vararg,.int .i64 regs,.isl rcode,.isl rlines,.isl rconsts,.isl rprotos,.isl rups,.isl rvars]]:List (List V))=B at*
  refine Run.rounds (fun(x:Nat×Nat)=>⟨[(59,.int .i64 x.1),(58,.int .i64 consts.length),(57,.isl rconsts),(3,.int .i64 code.length),(1,.ptr (42*10000+1) 0 0 0)],[((42*10000+1),0,.rows 11 B)],x.2⟩) (fun x=>x.1≤consts.length∧(consts.take x.1).any A4w=false) (fun x=>consts.length-x.1) (0,n') (by simp -implicitDefEqProofs only [go_sem]) ⟨Nat.zero_le _,rfl⟩ ?_
  rintro⟨k,m⟩ ⟨hk,hno⟩ ih
  simp only at hk hno ih⊢
  refine Run.unf A4b (Run.go 100 ?_)
  by_cases hlt:k<consts.length
  ·have q0:((k:Int)<(consts.length:Int))=True:=eq_true (by omega)
   have q1:((0:Int)≤(k:Int))=True:=eq_true (by omega)
   obtain⟨x,hx⟩: ∃x,consts[k]? =some x:=⟨consts[k],by simp [hlt]⟩
   have hxr:=rc k x hx
   simp -implicitDefEqProofs only [go_sem,q0,q1,k2,zc,hxr,Kst.row,Option.some.injEq,forall_eq']
   have bad:A4w x=true→4=z:=fun hb=>(hl ▸ if_neg (fun h=>by simp [A4v hx hb]at h):z=4).symm
   have hzk:((k+1:Nat):Int)=(k:Int)+1:=by omega
   refine⟨hlt,fun hkx=> ?_,fun hkx=>bad (by simp [A4w,hkx])⟩
   have hv:=B2K x (by omega)
   simp only [Kst.row]at hv
   refine A3.pureF hv (by simp -implicitDefEqProofs only [go_sem]) ?_
   by_cases hx2:O7 x=true
   ·have hbk:A4w x=false:=by simp only [A4w,hx2,decide_eq_false hkx];rfl
    simp -implicitDefEqProofs only [go_sem,hx2]
    refine⟨by omega,?_⟩
    exact ih _ (k+1,m+1) ⟨by simp only;omega,U3 hno hx hbk⟩ (by simp only;omega) (by simp -implicitDefEqProofs only [go_sem,hzk])
   ·have hx2:O7 x=false:=by simpa only [Bool.not_eq_true]using hx2
    have:=bad (by simp [A4w,hx2])
    simp -implicitDefEqProofs only [go_sem,hx2,this]
  have e:k=consts.length:=by omega
  subst e
  have l10:=A1t hno
  subst hB
  simp -implicitDefEqProofs only [go_sem,Int.lt_irrefl,h1,h2,k5]
  refine Run.keep [75,74,73,3,1] ?_
  refine Run.rounds (fun(x:Nat×Nat)=>⟨[(75,.int .i64 x.1),(74,.int .i64 vars.length),(73,.isl rvars),(3,.int .i64 code.length),(1,.ptr (42*10000+1) 0 0 0)],[((42*10000+1),0,.rows 11 ([[V.str name,.int .i64 line,.int .i64 params,.bool vararg,.int .i64 regs,.isl rcode,.isl rlines,.isl rconsts,.isl rprotos,.isl rups,.isl rvars]]:List (List V)))],x.2⟩) (fun x=>x.1≤vars.length∧(vars.take x.1).any (A1u regs code.length)=false) (fun x=>vars.length-x.1) (0,m) (by simp -implicitDefEqProofs only [go_sem]) ⟨Nat.zero_le _,rfl⟩ ?_
  clear hno hlt hk ih m
  rintro⟨k,m⟩ ⟨hk,hno⟩ ih
  simp only at hk hno ih⊢
  refine Run.unf A4c (Run.go 100 ?_)
  by_cases hlt:k<vars.length
  ·have q0:((k:Int)<(vars.length:Int))=True:=eq_true (by omega)
   have q1:((0:Int)≤(k:Int))=True:=eq_true (by omega)
   obtain⟨x,hx⟩: ∃x,vars[k]? =some x:=⟨vars[k],by simp [hlt]⟩
   have hxr:=rv k x hx
   have bad:A1u regs code.length x=true→z=4:=fun hb=>hl ▸ if_neg (fun h=>by simp [A4v hx hb]at h)
   have hzk:((k+1:Nat):Int)=(k:Int)+1:=by omega
   by_cases v1:x.reg<0
   case pos=>
    obtain rfl:=bad (by simp [A1u,v1])
    simp -implicitDefEqProofs only [go_sem,q0,q1,k5,zv,hxr,Vr.row,Option.some.injEq,forall_eq',hlt,v1]
   by_cases v2:regs≤x.reg
   case pos=>
    obtain rfl:=bad (by simp [A1u,v2])
    simp -implicitDefEqProofs only [go_sem,q0,q1,k5,zv,hxr,Vr.row,Option.some.injEq,forall_eq',hlt,v1,v2]
   by_cases v3:x.attr<0
   case pos=>
    obtain rfl:=bad (by simp [A1u,v3])
    simp -implicitDefEqProofs only [go_sem,q0,q1,k5,zv,hxr,Vr.row,Option.some.injEq,forall_eq',hlt,v1,v2,v3]
   by_cases v4:2<x.attr
   case pos=>
    obtain rfl:=bad (by simp [A1u,v4])
    simp -implicitDefEqProofs only [go_sem,q0,q1,k5,zv,hxr,Vr.row,Option.some.injEq,forall_eq',hlt,v1,v2,v3,v4]
   by_cases v5:x.lo<0
   case pos=>
    obtain rfl:=bad (by simp [A1u,v5])
    simp -implicitDefEqProofs only [go_sem,q0,q1,k5,zv,hxr,Vr.row,Option.some.injEq,forall_eq',hlt,v1,v2,v3,v4,v5]
   by_cases v6:x.hi<x.lo
   case pos=>
    obtain rfl:=bad (by simp [A1u,v6])
    simp -implicitDefEqProofs only [go_sem,q0,q1,k5,zv,hxr,Vr.row,Option.some.injEq,forall_eq',hlt,v1,v2,v3,v4,v5,v6]
   by_cases v7:(code.length:Int)<x.hi
   case pos=>
    obtain rfl:=bad (by simp [A1u,v7])
    simp -implicitDefEqProofs only [go_sem,q0,q1,k5,zv,hxr,Vr.row,Option.some.injEq,forall_eq',hlt,v1,v2,v3,v4,v5,v6,v7]
   have hbk:A1u regs code.length x=false:=by simp [A1u,v1,v2,v3,v4,v5,v6,v7]
   simp -implicitDefEqProofs only [go_sem,q0,q1,k5,zv,hxr,Vr.row,Option.some.injEq,forall_eq',hlt,v1,v2,v3,v4,v5,v6,v7]
   refine⟨by omega,?_⟩
   exact ih _ (k+1,m+1) ⟨by simp only;omega,U3 hno hx hbk⟩ (by simp only;omega) (by simp -implicitDefEqProofs only [go_sem,hzk])
  have e:k=vars.length:=by omega
  subst e
  have l11:=A1t hno
  obtain rfl:z=0:=hl ▸ if_pos ⟨l1,l2,l3,l4,l5,l6d,l8,l9,l10,l11⟩
  simp -implicitDefEqProofs only [go_sem,Int.lt_irrefl]
 ·have l7:lines.length=code.length:=by omega
  have z6:((lines.length:Int)=0)=False:=eq_false (by omega)
  have z7:((lines.length:Int)=(code.length:Int))=True:=eq_true (by omega)
  simp -implicitDefEqProofs only [go_sem,A8,h1,h2,k1,k2,k3,k5,z1,z2,z3,z4,z5,z6,z7]
  refine(cl _ (by kernel_rfl) (fun x _ m=>B5Y x _ m) _).mono ?_
  rintro r h' n' ⟨rfl,rfl⟩
  by_cases l8:lines.any (fun z=>decide (z<0))=true
  ·obtain rfl:z=4:=hl ▸ if_neg (fun h=>by simp [l8]at h)
   simp -implicitDefEqProofs only [go_sem,l8]
  have l8:lines.any (fun z=>decide (z<0))=false:=by simpa only [Bool.not_eq_true]using l8
  simp -implicitDefEqProofs only [go_sem,l8,h1,h2]
  refine(cu _ (by kernel_rfl) (fun u _ m=>C1K u _ m) _).mono ?_
  rintro r h' n' ⟨rfl,rfl⟩
  by_cases l9:ups.any (fun u=>decide (u.idx<0))=true
  ·obtain rfl:z=4:=hl ▸ if_neg (fun h=>by simp [l9]at h)
   simp -implicitDefEqProofs only [go_sem,l9]
  have l9:ups.any (fun u=>decide (u.idx<0))=false:=by simpa only [Bool.not_eq_true]using l9
  simp -implicitDefEqProofs only [go_sem,l9,h1,h2,k1,k2,k3,k5]
  refine Run.keep [59,58,57,3,1] ?_
  generalize hB:([[V.str name,.int .i64 line,.int .i64 params,.bool vararg,.int .i64 regs,.isl rcode,.isl rlines,.isl rconsts,.isl rprotos,.isl rups,.isl rvars]]:List (List V))=B at*
  refine Run.rounds (fun(x:Nat×Nat)=>⟨[(59,.int .i64 x.1),(58,.int .i64 consts.length),(57,.isl rconsts),(3,.int .i64 code.length),(1,.ptr (42*10000+1) 0 0 0)],[((42*10000+1),0,.rows 11 B)],x.2⟩) (fun x=>x.1≤consts.length∧(consts.take x.1).any A4w=false) (fun x=>consts.length-x.1) (0,n') (by simp -implicitDefEqProofs only [go_sem]) ⟨Nat.zero_le _,rfl⟩ ?_
  rintro⟨k,m⟩ ⟨hk,hno⟩ ih
  simp only at hk hno ih⊢
  refine Run.unf A4b (Run.go 100 ?_)
  by_cases hlt:k<consts.length
  ·have q0:((k:Int)<(consts.length:Int))=True:=eq_true (by omega)
   have q1:((0:Int)≤(k:Int))=True:=eq_true (by omega)
   obtain⟨x,hx⟩: ∃x,consts[k]? =some x:=⟨consts[k],by simp [hlt]⟩
   have hxr:=rc k x hx
   simp -implicitDefEqProofs only [go_sem,q0,q1,k2,zc,hxr,Kst.row,Option.some.injEq,forall_eq']
   have bad:A4w x=true→4=z:=fun hb=>(hl ▸ if_neg (fun h=>by simp [A4v hx hb]at h):z=4).symm
   have hzk:((k+1:Nat):Int)=(k:Int)+1:=by omega
   refine⟨hlt,fun hkx=> ?_,fun hkx=>bad (by simp [A4w,hkx])⟩
   have hv:=B2K x (by omega)
   simp only [Kst.row]at hv
   refine A3.pureF hv (by simp -implicitDefEqProofs only [go_sem]) ?_
   by_cases hx2:O7 x=true
   ·have hbk:A4w x=false:=by simp only [A4w,hx2,decide_eq_false hkx];rfl
    simp -implicitDefEqProofs only [go_sem,hx2]
    refine⟨by omega,?_⟩
    exact ih _ (k+1,m+1) ⟨by simp only;omega,U3 hno hx hbk⟩ (by simp only;omega) (by simp -implicitDefEqProofs only [go_sem,hzk])
   ·have hx2:O7 x=false:=by simpa only [Bool.not_eq_true]using hx2
    have:=bad (by simp [A4w,hx2])
    simp -implicitDefEqProofs only [go_sem,hx2,this]
  have e:k=consts.length:=by omega
  subst e
  have l10:=A1t hno
  subst hB
  simp -implicitDefEqProofs only [go_sem,Int.lt_irrefl,h1,h2,k5]
  refine Run.keep [75,74,73,3,1] ?_
  refine Run.rounds (fun(x:Nat×Nat)=>⟨[(75,.int .i64 x.1),(74,.int .i64 vars.length),(73,.isl rvars),(3,.int .i64 code.length),(1,.ptr (42*10000+1) 0 0 0)],[((42*10000+1),0,.rows 11 ([[V.str name,.int .i64 line,.int .i64 params,.bool vararg,.int .i64 regs,.isl rcode,.isl rlines,.isl rconsts,.isl rprotos,.isl rups,.isl rvars]]:List (List V)))],x.2⟩) (fun x=>x.1≤vars.length∧(vars.take x.1).any (A1u regs code.length)=false) (fun x=>vars.length-x.1) (0,m) (by simp -implicitDefEqProofs only [go_sem]) ⟨Nat.zero_le _,rfl⟩ ?_
  clear hno hlt hk ih m
  rintro⟨k,m⟩ ⟨hk,hno⟩ ih
  simp only at hk hno ih⊢
  refine Run.unf A4c (Run.go 100 ?_)
  by_cases hlt:k<vars.length
  ·have q0:((k:Int)<(vars.length:Int))=True:=eq_true (by omega)
   have q1:((0:Int)≤(k:Int))=True:=eq_true (by omega)
   obtain⟨x,hx⟩: ∃x,vars[k]? =some x:=⟨vars[k],by simp [hlt]⟩
   have hxr:=rv k x hx
   have bad:A1u regs code.length x=true→z=4:=fun hb=>hl ▸ if_neg (fun h=>by simp [A4v hx hb]at h)
   have hzk:((k+1:Nat):Int)=(k:Int)+1:=by omega
   by_cases v1:x.reg<0
   case pos=>
    obtain rfl:=bad (by simp [A1u,v1])
    simp -implicitDefEqProofs only [go_sem,q0,q1,k5,zv,hxr,Vr.row,Option.some.injEq,forall_eq',hlt,v1]
   by_cases v2:regs≤x.reg
   case pos=>
    obtain rfl:=bad (by simp [A1u,v2])
    simp -implicitDefEqProofs only [go_sem,q0,q1,k5,zv,hxr,Vr.row,Option.some.injEq,forall_eq',hlt,v1,v2]
   by_cases v3:x.attr<0
   case pos=>
    obtain rfl:=bad (by simp [A1u,v3])
    simp -implicitDefEqProofs only [go_sem,q0,q1,k5,zv,hxr,Vr.row,Option.some.injEq,forall_eq',hlt,v1,v2,v3]
   by_cases v4:2<x.attr
   case pos=>
    obtain rfl:=bad (by simp [A1u,v4])
    simp -implicitDefEqProofs only [go_sem,q0,q1,k5,zv,hxr,Vr.row,Option.some.injEq,forall_eq',hlt,v1,v2,v3,v4]
   by_cases v5:x.lo<0
   case pos=>
    obtain rfl:=bad (by simp [A1u,v5])
    simp -implicitDefEqProofs only [go_sem,q0,q1,k5,zv,hxr,Vr.row,Option.some.injEq,forall_eq',hlt,v1,v2,v3,v4,v5]
   by_cases v6:x.hi<x.lo
   case pos=>
    obtain rfl:=bad (by simp [A1u,v6])
    simp -implicitDefEqProofs only [go_sem,q0,q1,k5,zv,hxr,Vr.row,Option.some.injEq,forall_eq',hlt,v1,v2,v3,v4,v5,v6]
   by_cases v7:(code.length:Int)<x.hi
   case pos=>
    obtain rfl:=bad (by simp [A1u,v7])
    simp -implicitDefEqProofs only [go_sem,q0,q1,k5,zv,hxr,Vr.row,Option.some.injEq,forall_eq',hlt,v1,v2,v3,v4,v5,v6,v7]
   have hbk:A1u regs code.length x=false:=by simp [A1u,v1,v2,v3,v4,v5,v6,v7]
   simp -implicitDefEqProofs only [go_sem,q0,q1,k5,zv,hxr,Vr.row,Option.some.injEq,forall_eq',hlt,v1,v2,v3,v4,v5,v6,v7]
   refine⟨by omega,?_⟩
   exact ih _ (k+1,m+1) ⟨by simp only;omega,U3 hno hx hbk⟩ (by simp only;omega) (by simp -implicitDefEqProofs only [go_sem,hzk])
  have e:k=vars.length:=by omega
  subst e
  have l11:=A1t hno
  obtain rfl:z=0:=hl ▸ if_pos ⟨l1,l2,l3,l4,l5,l6d,l8,l9,l10,l11⟩
  simp -implicitDefEqProofs only [go_sem,Int.lt_irrefl]
end Go.Proofs.YtcjgeliglgcflaaGreatDoor
