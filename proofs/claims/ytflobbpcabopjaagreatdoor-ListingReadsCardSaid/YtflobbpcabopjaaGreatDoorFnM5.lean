/-
 The form of a function. No condition.
-/
import Derived.Test.YtflobbpcabopjaaGreatDoorFnMa
set_option linter.unusedVariables false set_option linter.unusedSimpArgs false set_option maxRecDepth 100000
set_option maxHeartbeats 0
namespace Go.Proofs.YtflobbpcabopjaaGreatDoor
open Go.Abs
attribute [local irreducible] A0 Run J4
theorem B9Z(z:Int)(h:A2)(n:Nat):A0 Tryz.prog 118 [.int .i64 z] h n fun r h' n'=>r= .bool (decide (z<0))∧h'=h:=by
 refine A0.enterK A7r Jo fun Q hQ=>Run.go 100 ?_
 refine Qz ?_
 exact KA
theorem C6Z(u:Upv)(B:Blk)(n:Nat):A0 Tryz.prog 119 [.agg (Upv.row u)] [((72*10000+1),0,B)] n fun r h' n'=>r= .bool (decide (u.idx<0))∧h'= [((72*10000+1),0,B)]:=by
 refine A0.enterK A7s Jo fun Q hQ=>Run.go 100 ?_
 refine Jb ?_
 subst hQ
 exact .to (r2:= .bool _) (n2:=n+1) ⟨rfl,rfl⟩ (.turn id ⟨.refl _,trivial⟩ (.at 1 rfl rfl (.refl _) trivial))
def B1q(v:Kst):Bool:=decide (3<v.kind)|| !I0 v
def A2G(regs:Int)(n:Nat)(v:Vr):Bool:=decide (v.reg<0)||(decide (regs≤v.reg)||(decide (v.attr<0)||(decide (2<v.attr)||(decide (v.lo<0)||(decide (v.hi<v.lo)||decide ((n:Int)<v.hi))))))
def B5b(p:Fn):Int:=
 if p.code.length≠0∧0≤p.regs∧0≤p.params∧0≤p.line∧p.params≤p.regs∧(p.lines.length=0∨p.lines.length=p.code.length)∧p.lines.any (fun z=>decide (z<0))=false∧p.ups.any (fun u=>decide (u.idx<0))=false∧p.consts.any B1q=false∧p.vars.any (A2G p.regs p.code.length)=false then 0 else 4
theorem C4v(p:Fn)(hp:p.bd):Pure Tryz.prog 72 [.agg p.row] (.int .i64 (B5b p)):=by
 obtain⟨h1,h2⟩:=C9 p
 have hb:=hp.self
 rw [Fn.row_eq]at h1 h2⊢
 obtain⟨name,line,params,vararg,regs,code,lines,consts,protos,ups,vars⟩:=p
 have k1:(code.map Ins.row).length=code.length:=List.length_map ..
 have k2:(consts.map Kst.row).length=consts.length:=List.length_map ..
 have k3:(lines.map E9).length=lines.length:=List.length_map ..
 have k5:(vars.map Vr.row).length=vars.length:=List.length_map ..
 have hu:ups.length≤17592186043904:=by have:=hb.ups;simp only at this;omega
 have hlz:lines.length≤17592186043904:=by have:=hb.lines;simp only at this;omega
 have hcz:consts.length≤17592186043904:=by have:=hb.consts;simp only at this;omega
 have hvz:vars.length≤17592186043904:=by have:=hb.vars;simp only at this;omega
 have hiz:code.length≤17592186043904:=by have:=hb.code;simp only at this;omega
 have cl:=B1G lines hlz (fun z=>decide (z<0)) 118 []
 have cu:=B3C ups hu (fun u=>decide (u.idx<0)) 119 []
 generalize hl:B5b _=z
 simp only [B5b]at hl
 simp only at*
 have zc:=eq_true (C1 Kst.row 5 (fun _=>rfl) consts)
 have zv:=eq_true (C1 Vr.row 5 (fun _=>rfl) vars)
 have rc: ∀(k:Nat) x,consts[k]? =some x→(consts.map Kst.row)[k]? =some (Kst.row x):=fun k x hk=>by rw [List.getElem?_map,hk];rfl
 have rv: ∀(k:Nat) x,vars[k]? =some x→(vars.map Vr.row)[k]? =some (Vr.row x):=fun k x hk=>by rw [List.getElem?_map,hk];rfl
 generalize code.map Ins.row=rcode at*
 generalize consts.map Kst.row=rconsts at*
 generalize protos.map Fn.row=rprotos at*
 generalize lines.map E9=rlines at*
 generalize ups.map Upv.row=rups at*
 generalize vars.map Vr.row=rvars at*
 refine Pure.of 0 (A0.enter B0m Jo (Run.go 100 ?_))
 by_cases l1:code.length≠0
 case neg=>
  obtain rfl:z=4:=hl ▸ if_neg (fun h=>l1 h.1)
  have z1:((code.length:Int)=0)=True:=Jm
  simp -implicitDefEqProofs only [go_sem,A3,h1,h2,k1,k2,k3,k5,z1]
 have z1:((code.length:Int)=0)=False:=Jn
 by_cases l2:0≤regs
 case neg=>
  obtain rfl:z=4:=hl ▸ if_neg (fun h=>l2 h.2.1)
  have z2:(regs<0)=True:=Jm
  simp -implicitDefEqProofs only [go_sem,A3,h1,h2,k1,k2,k3,k5,z1,z2]
 have z2:(regs<0)=False:=Jn
 by_cases l3:0≤params
 case neg=>
  obtain rfl:z=4:=hl ▸ if_neg (fun h=>l3 h.2.2.1)
  have z3:(params<0)=True:=Jm
  simp -implicitDefEqProofs only [go_sem,A3,h1,h2,k1,k2,k3,k5,z1,z2,z3]
 have z3:(params<0)=False:=Jn
 by_cases l4:0≤line
 case neg=>
  obtain rfl:z=4:=hl ▸ if_neg (fun h=>l4 h.2.2.2.1)
  have z4:(line<0)=True:=Jm
  simp -implicitDefEqProofs only [go_sem,A3,h1,h2,k1,k2,k3,k5,z1,z2,z3,z4]
 have z4:(line<0)=False:=Jn
 by_cases l5:params≤regs
 case neg=>
  obtain rfl:z=4:=hl ▸ if_neg (fun h=>l5 h.2.2.2.2.1)
  have z5:(regs<params)=True:=Jm
  simp -implicitDefEqProofs only [go_sem,A3,h1,h2,k1,k2,k3,k5,z1,z2,z3,z4,z5]
 have z5:(regs<params)=False:=Jn
 by_cases l6d:lines.length=0∨lines.length=code.length
 case neg=>
  obtain rfl:z=4:=hl ▸ if_neg (fun h=>l6d h.2.2.2.2.2.1)
  have z6:((lines.length:Int)=0)=False:=Jn
  have z7:((lines.length:Int)=(code.length:Int))=False:=Jn
  simp -implicitDefEqProofs only [go_sem,A3,h1,h2,k1,k2,k3,k5,z1,z2,z3,z4,z5,z6,z7]
 by_cases l6:lines.length=0
 ·have z6:((lines.length:Int)=0)=True:=Jm
  simp -implicitDefEqProofs only [go_sem,A3,h1,h2,k1,k2,k3,k5,z1,z2,z3,z4,z5,z6]
  exact Xd
 ·have l7:lines.length=code.length:=by omega
  have z6:((lines.length:Int)=0)=False:=Jn
  have z7:((lines.length:Int)=(code.length:Int))=True:=Jm
  simp -implicitDefEqProofs only [go_sem,A3,h1,h2,k1,k2,k3,k5,z1,z2,z3,z4,z5,z6,z7]
  exact Xd
end Go.Proofs.YtflobbpcabopjaaGreatDoor
