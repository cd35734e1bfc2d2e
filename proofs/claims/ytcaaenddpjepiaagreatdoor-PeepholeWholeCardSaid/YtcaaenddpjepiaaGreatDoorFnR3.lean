/-
 The reference's form. No condition.
-/
import Derived.Test.YtcaaenddpjepiaaGreatDoorFnM5
import Derived.Test.YtcaaenddpjepiaaGreatDoorFnR2
set_option linter.unusedVariables false
set_option linter.unusedSimpArgs false
set_option maxRecDepth 100000
set_option maxHeartbeats 0
namespace Go.Proofs.YtcaaenddpjepiaaGreatDoor
open Go.Abs
attribute [local irreducible] A0 Run V5
theorem D0R{C:Prop} [Decidable C]:((if C then(0:Int)else 4)=0)=C:=propext ⟨fun h=>by by_cases c:C;exact c;rw [if_neg c]at h;exact absurd h zh,fun h=>if_pos h⟩
theorem C4a(p:Fn)(hp:p.bd):Pure Tryz.prog 114 [.agg p.row] (.bool (decide (f8 p=0))):=by
 obtain⟨y,w⟩:=B4 p
 have M:=hp.self
 have hiz:=M.code
 have hlz:=M.lines
 have hcz:=M.consts
 have hpz:=M.protos
 have huz:=M.ups
 have hvz:=M.vars
 have Y:p.row[0]? =some (.str p.name):=by rw [Fn.row_eq];rfl
 have g1:p.row[1]? =some (.int .i64 p.line):=by rw [Fn.row_eq];rfl
 have g2:p.row[2]? =some (.int .i64 p.params):=by rw [Fn.row_eq];rfl
 have g3:p.row[3]? =some (.bool p.vararg):=by rw [Fn.row_eq];rfl
 have v:p.row[4]? =some (.int .i64 p.regs):=by rw [Fn.row_eq];rfl
 have E:p.row[5]? =some (.isl (p.code.map Ins.row)):=by rw [Fn.row_eq];rfl
 have C:p.row[6]? =some (.isl (p.lines.map D1)):=by rw [Fn.row_eq];rfl
 have D:p.row[7]? =some (.isl (p.consts.map Kst.row)):=by rw [Fn.row_eq];rfl
 have g8:p.row[8]? =some (.isl (p.protos.map Fn.row)):=by rw [Fn.row_eq];rfl
 have B:p.row[9]? =some (.isl (p.ups.map Upv.row)):=by rw [Fn.row_eq];rfl
 have l:p.row[10]? =some (.isl (p.vars.map Vr.row)):=by rw [Fn.row_eq];rfl
 have a:(p.code.map Ins.row).length=p.code.length:=List.length_map ..
 have z_code:=eq_true (B3 Ins.row 5 (fun _=>rfl) p.code)
 have r_code: ∀(k:Nat) x,p.code[k]? =some x→(p.code.map Ins.row)[k]? =some (Ins.row x):=fun k x F=>by rw [List.getElem?_map,F];rfl
 have i:(p.lines.map D1).length=p.lines.length:=List.length_map ..
 have I:=eq_true (B3 D1 1 (fun _=>rfl) p.lines)
 have Q: ∀(k:Nat) x,p.lines[k]? =some x→(p.lines.map D1)[k]? =some (D1 x):=fun k x F=>by rw [List.getElem?_map,F];rfl
 have d:(p.consts.map Kst.row).length=p.consts.length:=List.length_map ..
 have A:=eq_true (B3 Kst.row 5 (fun _=>rfl) p.consts)
 have N: ∀(k:Nat) x,p.consts[k]? =some x→(p.consts.map Kst.row)[k]? =some (Kst.row x):=fun k x F=>by rw [List.getElem?_map,F];rfl
 have j:(p.protos.map Fn.row).length=p.protos.length:=List.length_map ..
 have z_protos:=eq_true (B3 Fn.row 11 Fn.row_len p.protos)
 have r_protos: ∀(k:Nat) x,p.protos[k]? =some x→(p.protos.map Fn.row)[k]? =some (Fn.row x):=fun k x F=>by rw [List.getElem?_map,F];rfl
 have o:(p.ups.map Upv.row).length=p.ups.length:=List.length_map ..
 have R:=eq_true (B3 Upv.row 3 (fun _=>rfl) p.ups)
 have r_ups: ∀(k:Nat) x,p.ups[k]? =some x→(p.ups.map Upv.row)[k]? =some (Upv.row x):=fun k x F=>by rw [List.getElem?_map,F];rfl
 have g:(p.vars.map Vr.row).length=p.vars.length:=List.length_map ..
 have q:=eq_true (B3 Vr.row 5 (fun _=>rfl) p.vars)
 have U: ∀(k:Nat) x,p.vars[k]? =some x→(p.vars.map Vr.row)[k]? =some (Vr.row x):=fun k x F=>by rw [List.getElem?_map,F];rfl
 generalize P:decide (f8 p=0)=z
 simp only [f8,D0R]at P
 generalize p.code.map Ins.row=rcode at*
 generalize p.lines.map D1=rlines at*
 generalize p.consts.map Kst.row=rconsts at*
 generalize p.protos.map Fn.row=rprotos at*
 generalize p.ups.map Upv.row=rups at*
 generalize p.vars.map Vr.row=rvars at*
 generalize p.row=pr at*
 refine Pure.of 0 (A0.enter A2O Jk (Run.go 100 ?_))
 by_cases l0:p.code.length≠0
 case neg=>
  obtain rfl:z=false:=P ▸ decide_eq_false (fun h=>l0 h.1)
  have W:((p.code.length:Int)=0)=True:=Ji
  simp -implicitDefEqProofs only [go_sem,A4,y,w,Y,g1,g2,g3,v,E,C,D,g8,B,l,a,i,d,j,o,g,W]
 have W:((p.code.length:Int)=0)=False:=Jj
 by_cases l1:0≤p.regs
 case neg=>
  obtain rfl:z=false:=P ▸ decide_eq_false (fun h=>l1 h.2.1)
  have Z:(p.regs<0)=True:=Ji
  simp -implicitDefEqProofs only [go_sem,A4,y,w,Y,g1,g2,g3,v,E,C,D,g8,B,l,a,i,d,j,o,g,W,Z]
 have Z:(p.regs<0)=False:=Jj
 by_cases l2:0≤p.params
 case neg=>
  obtain rfl:z=false:=P ▸ decide_eq_false (fun h=>l2 h.2.2.1)
  have z2:(p.params<0)=True:=Ji
  simp -implicitDefEqProofs only [go_sem,A4,y,w,Y,g1,g2,g3,v,E,C,D,g8,B,l,a,i,d,j,o,g,W,Z,z2]
 have z2:(p.params<0)=False:=Jj
 by_cases l3:0≤p.line
 case neg=>
  obtain rfl:z=false:=P ▸ decide_eq_false (fun h=>l3 h.2.2.2.1)
  have z3:(p.line<0)=True:=Ji
  simp -implicitDefEqProofs only [go_sem,A4,y,w,Y,g1,g2,g3,v,E,C,D,g8,B,l,a,i,d,j,o,g,W,Z,z2,z3]
 have z3:(p.line<0)=False:=Jj
 by_cases l4:p.params≤p.regs
 case neg=>
  obtain rfl:z=false:=P ▸ decide_eq_false (fun h=>l4 h.2.2.2.2.1)
  have z4:(p.regs<p.params)=True:=Ji
  simp -implicitDefEqProofs only [go_sem,A4,y,w,Y,g1,g2,g3,v,E,C,D,g8,B,l,a,i,d,j,o,g,W,Z,z2,z3,z4]
 have z4:(p.regs<p.params)=False:=Jj
 by_cases l5:p.lines.length=0∨p.lines.length=p.code.length
 case neg=>
  obtain rfl:z=false:=P ▸ decide_eq_false (fun h=>l5 h.2.2.2.2.2.1)
  have z5:((p.lines.length:Int)=0)=False:=Jj
  have z6:((p.lines.length:Int)=(p.code.length:Int))=False:=Jj
  simp -implicitDefEqProofs only [go_sem,A4,y,w,Y,g1,g2,g3,v,E,C,D,g8,B,l,a,i,d,j,o,g,W,Z,z2,z3,z4,z5,z6]
 rcases(by omega:((p.lines.length:Int)=0)∨(¬(p.lines.length:Int)=0∧(p.lines.length:Int)=(p.code.length:Int)))with z5|⟨z5,z6⟩
 case' inl=>simp -implicitDefEqProofs only [go_sem,A4,y,w,Y,g1,g2,g3,v,E,C,D,g8,B,l,a,i,d,j,o,g,W,Z,z2,z3,z4,z5]
 case' inr=>simp -implicitDefEqProofs only [go_sem,A4,y,w,Y,g1,g2,g3,v,E,C,D,g8,B,l,a,i,d,j,o,g,W,Z,z2,z3,z4,z5,z6]
 all_goals
  refine Run.keep [3,1] ?_
  refine Run.rounds (fun(x:Nat×Nat)=>⟨[(3,.int .i64 x.1),(1,.ptr (114*10000+1) 0 0 0)],[((114*10000+1),0,.rows 11 [pr])],x.2⟩) (fun x=>x.1≤p.lines.length∧(p.lines.take x.1).any (fun z=>decide (z<0))=false) (fun x=>p.lines.length-x.1) (0,1) ze ⟨Nat.zero_le _,rfl⟩ ?_
  rintro⟨k,m⟩ ⟨F,r⟩ L
  simp only at F r L⊢
  refine Run.unf A0F (Run.go 100 ?_)
  by_cases n:k<p.lines.length
  ·have H:((k:Int)<(p.lines.length:Int))=True:=Ji
   have G:((0:Int)≤(k:Int))=True:=Ji
   obtain⟨x,K⟩: ∃x,p.lines[k]? =some x:=⟨p.lines[k],by simp [n]⟩
   have s:=Q k x K
   have J:((k+1:Nat):Int)=(k:Int)+1:=by omega
   have t:(fun z=>decide (z<0)) x=true→z=false:=fun M=>P ▸ decide_eq_false (fun h=>by simp [K4 (f:=fun z=>decide (z<0)) K M]at h)
   by_cases c:x<0
   ·obtain rfl:=t (decide_eq_true c)
    simp -implicitDefEqProofs only [go_sem,H,G,y,w,v,E,C,D,B,l,a,i,I,s,D1,c,n,Option.some.injEq,forall_eq']
   ·simp -implicitDefEqProofs only [go_sem,H,G,y,w,v,E,C,D,B,l,a,i,I,s,D1,c,n,Option.some.injEq,forall_eq']
    exact YA
  have e:k=p.lines.length:=by omega
  subst e
  have S:=I4 r
  clear L r n F
  simp -implicitDefEqProofs only [go_sem,Int.lt_irrefl,y,w,v,E,C,D,B,l,a,i]
  refine Run.keep [4,1] ?_
  refine Run.rounds (fun(x:Nat×Nat)=>⟨[(4,.int .i64 x.1),(1,.ptr (114*10000+1) 0 0 0)],[((114*10000+1),0,.rows 11 [pr])],x.2⟩) (fun x=>x.1≤p.consts.length∧(p.consts.take x.1).any (A5J)=false) (fun x=>p.consts.length-x.1) (0,m) ze ⟨Nat.zero_le _,rfl⟩ ?_
  rintro⟨k,m⟩ ⟨F,r⟩ L
  simp only at F r L⊢
  refine Run.unf T5 (Run.go 100 ?_)
  by_cases n:k<p.consts.length
  ·have H:((k:Int)<(p.consts.length:Int))=True:=Ji
   have G:((0:Int)≤(k:Int))=True:=Ji
   obtain⟨x,K⟩: ∃x,p.consts[k]? =some x:=⟨p.consts[k],by simp [n]⟩
   have s:=N k x K
   have J:((k+1:Nat):Int)=(k:Int)+1:=by omega
   have t:(A5J) x=true→z=false:=fun M=>P ▸ decide_eq_false (fun h=>by simp [K4 (f:=A5J) K M]at h)
   obtain⟨b,hb1,hb2⟩:=C7k x
   simp only [Kst.row]at hb2
   simp -implicitDefEqProofs only [go_sem,H,G,y,w,v,E,C,D,B,l,a,d,A,s,Kst.row,n,Option.some.injEq,forall_eq']
   refine A0.pureF hb2 ze ?_
   cases b with
   | false=>
    have hb3:A5J x=true:=by
     by_cases c3:3<x.kind
     ·simp [A5J,c3]
     ·simp [A5J,←hb1 zd]
    obtain rfl:=t hb3
    exact Xx
   | true=>
    by_cases c3:3<x.kind
    ·obtain rfl:=t (by simp [A5J,c3])
     simp -implicitDefEqProofs only [go_sem,H,G,y,w,v,E,C,D,B,l,a,d,A,s,Kst.row,n,c3,Option.some.injEq,forall_eq']
    ·have hbk:A5J x=false:=by simp [A5J,c3,←hb1 zd]
     simp -implicitDefEqProofs only [go_sem,H,G,y,w,v,E,C,D,B,l,a,d,A,s,Kst.row,n,c3,Option.some.injEq,forall_eq']
     refine⟨by omega,?_⟩
     exact L _ (k+1,m) ⟨by simp only;omega,E8 r K hbk⟩ zg zK
  have e:k=p.consts.length:=by omega
  subst e
  have O:=I4 r
  clear L r n F
  simp -implicitDefEqProofs only [go_sem,Int.lt_irrefl,y,w,v,E,C,D,B,l,a,d]
  refine Run.keep [5,1] ?_
  refine Run.rounds (fun(x:Nat×Nat)=>⟨[(5,.int .i64 x.1),(1,.ptr (114*10000+1) 0 0 0)],[((114*10000+1),0,.rows 11 [pr])],x.2⟩) (fun x=>x.1≤p.ups.length∧(p.ups.take x.1).any (fun u=>decide (u.idx<0))=false) (fun x=>p.ups.length-x.1) (0,m) ze ⟨Nat.zero_le _,rfl⟩ ?_
  rintro⟨k,m⟩ ⟨F,r⟩ L
  simp only at F r L⊢
  refine Run.unf K9 (Run.go 100 ?_)
  by_cases n:k<p.ups.length
  ·have H:((k:Int)<(p.ups.length:Int))=True:=Ji
   have G:((0:Int)≤(k:Int))=True:=Ji
   obtain⟨x,K⟩: ∃x,p.ups[k]? =some x:=⟨p.ups[k],by simp [n]⟩
   have s:=r_ups k x K
   have J:((k+1:Nat):Int)=(k:Int)+1:=by omega
   have t:(fun u=>decide (u.idx<0)) x=true→z=false:=fun M=>P ▸ decide_eq_false (fun h=>by simp [K4 (f:=fun u=>decide (u.idx<0)) K M]at h)
   by_cases c:x.idx<0
   ·obtain rfl:=t (decide_eq_true c)
    simp -implicitDefEqProofs only [go_sem,H,G,y,w,v,E,C,D,B,l,a,o,R,s,Upv.row,c,n,Option.some.injEq,forall_eq']
   ·simp -implicitDefEqProofs only [go_sem,H,G,y,w,v,E,C,D,B,l,a,o,R,s,Upv.row,c,n,Option.some.injEq,forall_eq']
    exact YA
  have e:k=p.ups.length:=by omega
  subst e
  have m_ups:=I4 r
  clear L r n F
  simp -implicitDefEqProofs only [go_sem,Int.lt_irrefl,y,w,v,E,C,D,B,l,a,o]
  refine Run.keep [6,1] ?_
  refine Run.rounds (fun(x:Nat×Nat)=>⟨[(6,.int .i64 x.1),(1,.ptr (114*10000+1) 0 0 0)],[((114*10000+1),0,.rows 11 [pr])],x.2⟩) (fun x=>x.1≤p.vars.length∧(p.vars.take x.1).any (r7 p.regs p.code.length)=false) (fun x=>p.vars.length-x.1) (0,m) ze ⟨Nat.zero_le _,rfl⟩ ?_
  rintro⟨k,m⟩ ⟨F,r⟩ L
  simp only at F r L⊢
  refine Run.unf H9 (Run.go 100 ?_)
  by_cases n:k<p.vars.length
  ·have H:((k:Int)<(p.vars.length:Int))=True:=Ji
   have G:((0:Int)≤(k:Int))=True:=Ji
   obtain⟨x,K⟩: ∃x,p.vars[k]? =some x:=⟨p.vars[k],by simp [n]⟩
   have s:=U k x K
   have J:((k+1:Nat):Int)=(k:Int)+1:=by omega
   have t:(r7 p.regs p.code.length) x=true→z=false:=fun M=>P ▸ decide_eq_false (fun h=>by simp [K4 (f:=r7 p.regs p.code.length) K M]at h)
   by_cases T:x.reg<0
   case pos=>
    obtain rfl:=t (by simp [r7,T])
    simp -implicitDefEqProofs only [go_sem,H,G,y,w,v,E,C,D,B,l,a,g,q,s,Vr.row,Option.some.injEq,forall_eq',n,T,ge_iff_le]
   by_cases V:p.regs≤x.reg
   case pos=>
    obtain rfl:=t (by simp [r7,V])
    simp -implicitDefEqProofs only [go_sem,H,G,y,w,v,E,C,D,B,l,a,g,q,s,Vr.row,Option.some.injEq,forall_eq',n,T,V,ge_iff_le]
   by_cases v3:x.attr<0
   case pos=>
    obtain rfl:=t (by simp [r7,v3])
    simp -implicitDefEqProofs only [go_sem,H,G,y,w,v,E,C,D,B,l,a,g,q,s,Vr.row,Option.some.injEq,forall_eq',n,T,V,v3,ge_iff_le]
   by_cases v4:2<x.attr
   case pos=>
    obtain rfl:=t (by simp [r7,v4])
    simp -implicitDefEqProofs only [go_sem,H,G,y,w,v,E,C,D,B,l,a,g,q,s,Vr.row,Option.some.injEq,forall_eq',n,T,V,v3,v4,ge_iff_le]
   by_cases v5:x.lo<0
   case pos=>
    obtain rfl:=t (by simp [r7,v5])
    simp -implicitDefEqProofs only [go_sem,H,G,y,w,v,E,C,D,B,l,a,g,q,s,Vr.row,Option.some.injEq,forall_eq',n,T,V,v3,v4,v5,ge_iff_le]
   by_cases v6:x.hi<x.lo
   case pos=>
    obtain rfl:=t (by simp [r7,v6])
    simp -implicitDefEqProofs only [go_sem,H,G,y,w,v,E,C,D,B,l,a,g,q,s,Vr.row,Option.some.injEq,forall_eq',n,T,V,v3,v4,v5,v6,ge_iff_le]
   by_cases v7:(p.code.length:Int)<x.hi
   case pos=>
    obtain rfl:=t (by simp [r7,v7])
    simp -implicitDefEqProofs only [go_sem,H,G,y,w,v,E,C,D,B,l,a,g,q,s,Vr.row,Option.some.injEq,forall_eq',n,T,V,v3,v4,v5,v6,v7,ge_iff_le]
   have hbk:r7 p.regs p.code.length x=false:=by simp [r7,T,V,v3,v4,v5,v6,v7]
   simp -implicitDefEqProofs only [go_sem,H,G,y,w,v,E,C,D,B,l,a,g,q,s,Vr.row,Option.some.injEq,forall_eq',n,T,V,v3,v4,v5,v6,v7,ge_iff_le]
   refine⟨by omega,?_⟩
   exact L _ (k+1,m+1) ⟨by simp only;omega,E8 r K hbk⟩ zg zK
  have e:k=p.vars.length:=by omega
  subst e
  have X:=I4 r
  clear L r n F
  obtain rfl:z=true:=P ▸ decide_eq_true ⟨l0,l1,l2,l3,l4,l5,S,m_ups,O,X⟩
  simp -implicitDefEqProofs only [go_sem,Int.lt_irrefl,y,w,v,E,C,D,B,l,a,g]
end Go.Proofs.YtcaaenddpjepiaaGreatDoor
