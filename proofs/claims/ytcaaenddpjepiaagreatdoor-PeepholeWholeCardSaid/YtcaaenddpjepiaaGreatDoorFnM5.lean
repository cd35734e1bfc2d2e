/-
 The form of a function. No condition.
-/
import Derived.Test.YtcaaenddpjepiaaGreatDoorFnMa
set_option linter.unusedVariables false
set_option linter.unusedSimpArgs false
set_option maxRecDepth 100000
set_option maxHeartbeats 0
namespace Go.Proofs.YtcaaenddpjepiaaGreatDoor
open Go.Abs
attribute [local irreducible] A0 Run V5
theorem C1F(z:Int)(h:A2)(n:Nat):A0 Tryz.prog 132 [.int .i64 z] h n fun r a c=>r= .bool (decide (z<0))∧a=h:=by
 refine A0.enterK A9r Jk fun Q b=>Run.go 100 ?_
 refine QM ?_
 subst b
 exact XR
theorem C9d(u:Upv)(B:Blk)(n:Nat):A0 Tryz.prog 133 [.agg (Upv.row u)] [((103*10000+1),0,B)] n fun r h b=>r= .bool (decide (u.idx<0))∧h= [((103*10000+1),0,B)]:=by
 refine A0.enterK A9s Jk fun Q a=>Run.go 100 ?_
 simp -implicitDefEqProofs only [go_sem,A4,Upv.row]
 subst a
 exact .to (r2:= .bool _) (n2:=n+1) ⟨rfl,rfl⟩ (.turn id ⟨.refl _,trivial⟩ (.at 1 rfl rfl (.refl _) trivial))
def A5J(v:Kst):Bool:=decide (3<v.kind)|| !A0w v
def r7(regs:Int)(n:Nat)(v:Vr):Bool:=decide (v.reg<0)||(decide (regs≤v.reg)||(decide (v.attr<0)||(decide (2<v.attr)||(decide (v.lo<0)||(decide (v.hi<v.lo)||decide ((n:Int)<v.hi))))))
def f8(p:Fn):Int:=
 if p.code.length≠0∧0≤p.regs∧0≤p.params∧0≤p.line∧p.params≤p.regs∧(p.lines.length=0∨p.lines.length=p.code.length)∧p.lines.any (fun z=>decide (z<0))=false∧p.ups.any (fun u=>decide (u.idx<0))=false∧p.consts.any A5J=false∧p.vars.any (r7 p.regs p.code.length)=false then 0 else 4
theorem C6x(p:Fn)(hp:p.bd):Pure Tryz.prog 103 [.agg p.row] (.int .i64 (f8 p)):=by
 obtain⟨L,K⟩:=B4 p
 have U:=hp.self
 rw [Fn.row_eq]at L K⊢
 obtain⟨T,A,f,y,b,a,l,c,protos,N,v⟩:=p
 have k1:(a.map Ins.row).length=a.length:=List.length_map ..
 have k2:(c.map Kst.row).length=c.length:=List.length_map ..
 have k3:(l.map D1).length=l.length:=List.length_map ..
 have q:(v.map Vr.row).length=v.length:=List.length_map ..
 have hu:N.length≤17592186043904:=by have:=U.ups;simp only at this;omega
 have hlz:l.length≤17592186043904:=by have:=U.lines;simp only at this;omega
 have hcz:c.length≤17592186043904:=by have:=U.consts;simp only at this;omega
 have hvz:v.length≤17592186043904:=by have:=U.vars;simp only at this;omega
 have hiz:a.length≤17592186043904:=by have:=U.code;simp only at this;omega
 have cl:=A2w l hlz (fun z=>decide (z<0)) 132 []
 have cu:=A9V N hu (fun u=>decide (u.idx<0)) 133 []
 generalize H:f8 _=z
 simp only [f8]at H
 simp only at*
 have zc:=eq_true (B3 Kst.row 5 (fun _=>rfl) c)
 have J:=eq_true (B3 Vr.row 5 (fun _=>rfl) v)
 have rc: ∀(k:Nat) x,c[k]? =some x→(c.map Kst.row)[k]? =some (Kst.row x):=fun k x Y=>by rw [List.getElem?_map,Y];rfl
 have rv: ∀(k:Nat) x,v[k]? =some x→(v.map Vr.row)[k]? =some (Vr.row x):=fun k x Y=>by rw [List.getElem?_map,Y];rfl
 generalize a.map Ins.row=F at*
 generalize c.map Kst.row=j at*
 generalize protos.map Fn.row=o at*
 generalize l.map D1=w at*
 generalize N.map Upv.row=S at*
 generalize v.map Vr.row=t at*
 refine Pure.of 0 (A0.enter B1e Jk (Run.go 100 ?_))
 by_cases l1:a.length≠0
 case neg=>
  obtain rfl:z=4:=H ▸ if_neg (fun h=>l1 h.1)
  have z1:((a.length:Int)=0)=True:=Ji
  simp -implicitDefEqProofs only [go_sem,A4,L,K,k1,k2,k3,q,z1]
 have z1:((a.length:Int)=0)=False:=Jj
 by_cases l2:0≤b
 case neg=>
  obtain rfl:z=4:=H ▸ if_neg (fun h=>l2 h.2.1)
  have z2:(b<0)=True:=Ji
  simp -implicitDefEqProofs only [go_sem,A4,L,K,k1,k2,k3,q,z1,z2]
 have z2:(b<0)=False:=Jj
 by_cases l3:0≤f
 case neg=>
  obtain rfl:z=4:=H ▸ if_neg (fun h=>l3 h.2.2.1)
  have z3:(f<0)=True:=Ji
  simp -implicitDefEqProofs only [go_sem,A4,L,K,k1,k2,k3,q,z1,z2,z3]
 have z3:(f<0)=False:=Jj
 by_cases l4:0≤A
 case neg=>
  obtain rfl:z=4:=H ▸ if_neg (fun h=>l4 h.2.2.2.1)
  have z4:(A<0)=True:=Ji
  simp -implicitDefEqProofs only [go_sem,A4,L,K,k1,k2,k3,q,z1,z2,z3,z4]
 have z4:(A<0)=False:=Jj
 by_cases l5:f≤b
 case neg=>
  obtain rfl:z=4:=H ▸ if_neg (fun h=>l5 h.2.2.2.2.1)
  have z5:(b<f)=True:=Ji
  simp -implicitDefEqProofs only [go_sem,A4,L,K,k1,k2,k3,q,z1,z2,z3,z4,z5]
 have z5:(b<f)=False:=Jj
 by_cases l6d:l.length=0∨l.length=a.length
 case neg=>
  obtain rfl:z=4:=H ▸ if_neg (fun h=>l6d h.2.2.2.2.2.1)
  have z6:((l.length:Int)=0)=False:=Jj
  have z7:((l.length:Int)=(a.length:Int))=False:=Jj
  simp -implicitDefEqProofs only [go_sem,A4,L,K,k1,k2,k3,q,z1,z2,z3,z4,z5,z6,z7]
 by_cases l6:l.length=0
 ·have z6:((l.length:Int)=0)=True:=Ji
  simp -implicitDefEqProofs only [go_sem,A4,L,K,k1,k2,k3,q,z1,z2,z3,z4,z5,z6]
  exact JZ
 ·have l7:l.length=a.length:=by omega
  have z6:((l.length:Int)=0)=False:=Jj
  have z7:((l.length:Int)=(a.length:Int))=True:=Ji
  simp -implicitDefEqProofs only [go_sem,A4,L,K,k1,k2,k3,q,z1,z2,z3,z4,z5,z6,z7]
  exact JZ
end Go.Proofs.YtcaaenddpjepiaaGreatDoor
