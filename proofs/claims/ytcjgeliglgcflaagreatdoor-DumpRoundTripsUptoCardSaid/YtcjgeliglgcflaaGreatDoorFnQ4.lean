/-
 Equality of functions, of the reference. No condition.
-/
import Derived.Test.YtcjgeliglgcflaaGreatDoorFnT
set_option linter.unusedVariables false
set_option linter.unusedSimpArgs false
set_option maxRecDepth 100000
set_option maxHeartbeats 0
namespace Go.Proofs.YtcjgeliglgcflaaGreatDoor
open Go.Abs
attribute [local irreducible] A3 Run J0
theorem C1R(p q:Fn)(hp:p.Le):Pure Tryz.prog 33 [.agg p.row,.agg q.row] (.bool (C1Q p q)):=by
 have cp:=p.cells
 have cq:=q.cells
 have l5: ∀(l:List Ins),(l.map Ins.row).length=l.length:=fun l=>List.length_map ..
 have l6: ∀(l:List Int),(l.map D1).length=l.length:=fun l=>List.length_map ..
 have l7: ∀(l:List Kst),(l.map Kst.row).length=l.length:=fun l=>List.length_map ..
 have l8: ∀(l:List Fn),(l.map Fn.row).length=l.length:=fun l=>List.length_map ..
 have l9: ∀(l:List Upv),(l.map Upv.row).length=l.length:=fun l=>List.length_map ..
 have l10: ∀(l:List Vr),(l.map Vr.row).length=l.length:=fun l=>List.length_map ..
 generalize p.row=pr at*
 generalize q.row=qr at*
 refine Pure.of 0 (A3.enter A0m (Nat.le_of_ble_eq_true rfl) ?_)
 by_cases h0:p.name=q.name
 case neg=>
  refine Run.go 100 ?_
  simp -implicitDefEqProofs only [go_sem,A8,cp.len,cp.tk,cq.len,cq.tk,cp.g0,cp.g1,cp.g2,cp.g3,cp.g4,cq.g0,cq.g1,cq.g2,cq.g3,cq.g4,h0,K6 fun(e:OneP p q)=>h0 e.name]
 by_cases h1:p.line=q.line
 case neg=>
  refine Run.go 100 ?_
  simp -implicitDefEqProofs only [go_sem,A8,cp.len,cp.tk,cq.len,cq.tk,cp.g0,cp.g1,cp.g2,cp.g3,cp.g4,cq.g0,cq.g1,cq.g2,cq.g3,cq.g4,h0,h1,K6 fun(e:OneP p q)=>h1 e.line]
 by_cases h2:p.params=q.params
 case neg=>
  refine Run.go 100 ?_
  simp -implicitDefEqProofs only [go_sem,A8,cp.len,cp.tk,cq.len,cq.tk,cp.g0,cp.g1,cp.g2,cp.g3,cp.g4,cq.g0,cq.g1,cq.g2,cq.g3,cq.g4,h0,h1,h2,K6 fun(e:OneP p q)=>h2 e.params]
 by_cases h3:p.vararg=q.vararg
 case neg=>
  refine Run.go 100 ?_
  simp -implicitDefEqProofs only [go_sem,A8,cp.len,cp.tk,cq.len,cq.tk,cp.g0,cp.g1,cp.g2,cp.g3,cp.g4,cq.g0,cq.g1,cq.g2,cq.g3,cq.g4,h0,h1,h2,h3,K6 fun(e:OneP p q)=>h3 e.vararg]
 by_cases h4:p.regs=q.regs
 case neg=>
  refine Run.go 100 ?_
  simp -implicitDefEqProofs only [go_sem,A8,cp.len,cp.tk,cq.len,cq.tk,cp.g0,cp.g1,cp.g2,cp.g3,cp.g4,cq.g0,cq.g1,cq.g2,cq.g3,cq.g4,h0,h1,h2,h3,h4,K6 fun(e:OneP p q)=>h4 e.regs]
 refine Run.go 7 ?_
 simp -implicitDefEqProofs only [go_sem,A8,cp.len,cp.tk,cq.len,cq.tk,cp.g0,cp.g1,cp.g2,cp.g3,cp.g4,cq.g0,cq.g1,cq.g2,cq.g3,cq.g4,h0,h1,h2,h3,h4]
 refine Run.keep [3,2] ?_
 simp only [B3A,C0b,C2f,Nat.reduceEqDiff,if_true,if_false,ite_true,ite_false,reduceIte]
 by_cases z5:p.code.length=q.code.length
 case neg=>
  have y5:((p.code.length:Int)=(q.code.length:Int))=False:=eq_false (by omega)
  refine Run.go 100 ?_
  simp -implicitDefEqProofs only [go_sem,l5,l6,l7,l8,l9,l10,cp.g5,cp.g6,cp.g7,cp.g8,cp.g9,cp.g10,cq.g5,cq.g6,cq.g7,cq.g8,cq.g9,cq.g10,y5,K6 fun(e:OneP p q)=>z5 (congrArg List.length e.code)]
 have y5:((p.code.length:Int)=(q.code.length:Int))=True:=eq_true (by omega)
 by_cases z6:p.lines.length=q.lines.length
 case neg=>
  have y6:((p.lines.length:Int)=(q.lines.length:Int))=False:=eq_false (by omega)
  refine Run.go 100 ?_
  simp -implicitDefEqProofs only [go_sem,l5,l6,l7,l8,l9,l10,cp.g5,cp.g6,cp.g7,cp.g8,cp.g9,cp.g10,cq.g5,cq.g6,cq.g7,cq.g8,cq.g9,cq.g10,y5,y6,K6 fun(e:OneP p q)=>z6 (congrArg List.length e.lines)]
 have y6:((p.lines.length:Int)=(q.lines.length:Int))=True:=eq_true (by omega)
 by_cases z7:p.consts.length=q.consts.length
 case neg=>
  have y7:((p.consts.length:Int)=(q.consts.length:Int))=False:=eq_false (by omega)
  refine Run.go 100 ?_
  simp -implicitDefEqProofs only [go_sem,l5,l6,l7,l8,l9,l10,cp.g5,cp.g6,cp.g7,cp.g8,cp.g9,cp.g10,cq.g5,cq.g6,cq.g7,cq.g8,cq.g9,cq.g10,y5,y6,y7,K6 fun(e:OneP p q)=>z7 (congrArg List.length e.consts)]
 have y7:((p.consts.length:Int)=(q.consts.length:Int))=True:=eq_true (by omega)
 by_cases z8:p.protos.length=q.protos.length
 case neg=>
  have y8:((p.protos.length:Int)=(q.protos.length:Int))=False:=eq_false (by omega)
  refine Run.go 100 ?_
  simp -implicitDefEqProofs only [go_sem,l5,l6,l7,l8,l9,l10,cp.g5,cp.g6,cp.g7,cp.g8,cp.g9,cp.g10,cq.g5,cq.g6,cq.g7,cq.g8,cq.g9,cq.g10,y5,y6,y7,y8,K6 fun(e:OneP p q)=>z8 (e.protos)]
 have y8:((p.protos.length:Int)=(q.protos.length:Int))=True:=eq_true (by omega)
 by_cases z9:p.ups.length=q.ups.length
 case neg=>
  have y9:((p.ups.length:Int)=(q.ups.length:Int))=False:=eq_false (by omega)
  refine Run.go 100 ?_
  simp -implicitDefEqProofs only [go_sem,l5,l6,l7,l8,l9,l10,cp.g5,cp.g6,cp.g7,cp.g8,cp.g9,cp.g10,cq.g5,cq.g6,cq.g7,cq.g8,cq.g9,cq.g10,y5,y6,y7,y8,y9,K6 fun(e:OneP p q)=>z9 (congrArg List.length e.ups)]
 have y9:((p.ups.length:Int)=(q.ups.length:Int))=True:=eq_true (by omega)
 by_cases z10:p.vars.length=q.vars.length
 case neg=>
  have y10:((p.vars.length:Int)=(q.vars.length:Int))=False:=eq_false (by omega)
  refine Run.go 100 ?_
  simp -implicitDefEqProofs only [go_sem,l5,l6,l7,l8,l9,l10,cp.g5,cp.g6,cp.g7,cp.g8,cp.g9,cp.g10,cq.g5,cq.g6,cq.g7,cq.g8,cq.g9,cq.g10,y5,y6,y7,y8,y9,y10,K6 fun(e:OneP p q)=>z10 (congrArg List.length e.vars)]
 have y10:((p.vars.length:Int)=(q.vars.length:Int))=True:=eq_true (by omega)
 refine Run.go 100 ?_
 simp -implicitDefEqProofs only [go_sem,l5,l6,l7,l8,l9,l10,cp.g5,cp.g6,cp.g7,cp.g8,cp.g9,cp.g10,cq.g5,cq.g6,cq.g7,cq.g8,cq.g9,cq.g10,y5,y6,y7,y8,y9,y10]
 have ra5: ∀(k:Nat) x,p.code[k]? =some x→(p.code.map Ins.row)[k]? =some (Ins.row x):=fun k x hk=>by rw [List.getElem?_map,hk];rfl
 have rb5: ∀(k:Nat) x,q.code[k]? =some x→(q.code.map Ins.row)[k]? =some (Ins.row x):=fun k x hk=>by rw [List.getElem?_map,hk];rfl
 have za5:=eq_true (B8 Ins.row 5 (fun _=>rfl) p.code)
 have zb5:=eq_true (B8 Ins.row 5 (fun _=>rfl) q.code)
 have la5:=l5 p.code
 have lb5:=l5 q.code
 have ga5:=cp.g5
 have gb5:=cq.g5
 have hb5:=hp.code
 generalize p.code.map Ins.row=A5 at ra5 za5 la5 ga5
 generalize q.code.map Ins.row=B5 at rb5 zb5 lb5 gb5
 refine Run.rounds (fun(k:Nat)=>⟨[(5,.int .i64 k),(3,.ptr (33*10000+3) 1 0 0),(2,.ptr (33*10000+2) 0 0 0)],[((33*10000+3),1,.rows 11 [qr]),((33*10000+2),0,.rows 11 [pr])],2⟩) (fun k=>k≤p.code.length∧p.code.take k=q.code.take k) (fun k=>p.code.length-k) 0 (by simp -implicitDefEqProofs only [go_sem]) ⟨Nat.zero_le _,rfl⟩ ?_
 rintro k ⟨hk,heq⟩ ih
 refine Run.unf A3x (Run.go 100 ?_)
 by_cases hlt:k<p.code.length
 case pos=>
  have q0:((k:Int)<(p.code.length:Int))=True:=eq_true (by omega)
  have q1:((0:Int)≤(k:Int))=True:=eq_true (by omega)
  have q2:((k:Int)<(q.code.length:Int))=True:=eq_true (by omega)
  obtain⟨x,hx⟩: ∃x,p.code[k]? =some x:=⟨p.code[k],by simp [hlt]⟩
  obtain⟨y,hy⟩: ∃y,q.code[k]? =some y:=⟨q.code[k]'(by omega),by simp [show k<q.code.length by omega]⟩
  have hxr:=ra5 k x hx
  have hyr:=rb5 k y hy
  have hzk:((k+1:Nat):Int)=(k:Int)+1:=by omega
  by_cases hxy:x=y
  ·subst hxy
   simp -implicitDefEqProofs only [go_sem,q0,q1,q2,ga5,gb5,la5,lb5,za5,zb5,hxr,hyr,Ins.row,Option.some.injEq,forall_eq']
   repeat refine And.intro (by omega) ?_
   exact ih _ (k+1) ⟨by omega,O6 heq hx hy⟩ (by omega) (by simp -implicitDefEqProofs only [go_sem,hzk])
  ·have hne:=fun(e:OneP p q)=>A6f hx hy hxy e.code
   have hq:=B8F hxy
   simp -implicitDefEqProofs only [go_sem,q0,q1,q2,ga5,gb5,la5,lb5,za5,zb5,hxr,hyr,Ins.row,hq,Option.some.injEq,forall_eq',K6 hne]
   repeat' (first|omega|refine And.intro ?_ ?_)
 have e5:k=p.code.length:=by omega
 subst e5
 have w5:=A1W z5 heq
 clear ih
 simp -implicitDefEqProofs only [go_sem,ga5,la5,Int.lt_irrefl]
 have ra6: ∀(k:Nat) x,p.lines[k]? =some x→(p.lines.map D1)[k]? =some (D1 x):=fun k x hk=>by rw [List.getElem?_map,hk];rfl
 have rb6: ∀(k:Nat) x,q.lines[k]? =some x→(q.lines.map D1)[k]? =some (D1 x):=fun k x hk=>by rw [List.getElem?_map,hk];rfl
 have za6:=eq_true (B8 D1 1 (fun _=>rfl) p.lines)
 have zb6:=eq_true (B8 D1 1 (fun _=>rfl) q.lines)
 have la6:=l6 p.lines
 have lb6:=l6 q.lines
 have ga6:=cp.g6
 have gb6:=cq.g6
 have hb6:=hp.lines
 generalize p.lines.map D1=A6 at ra6 za6 la6 ga6
 generalize q.lines.map D1=B6 at rb6 zb6 lb6 gb6
 refine Run.rounds (fun(k:Nat)=>⟨[(6,.int .i64 k),(3,.ptr (33*10000+3) 1 0 0),(2,.ptr (33*10000+2) 0 0 0)],[((33*10000+3),1,.rows 11 [qr]),((33*10000+2),0,.rows 11 [pr])],2⟩) (fun k=>k≤p.lines.length∧p.lines.take k=q.lines.take k) (fun k=>p.lines.length-k) 0 (by simp -implicitDefEqProofs only [go_sem]) ⟨Nat.zero_le _,rfl⟩ ?_
 rintro k ⟨hk,heq⟩ ih
 refine Run.unf A3y (Run.go 100 ?_)
 by_cases hlt:k<p.lines.length
 case pos=>
  have q0:((k:Int)<(p.lines.length:Int))=True:=eq_true (by omega)
  have q1:((0:Int)≤(k:Int))=True:=eq_true (by omega)
  have q2:((k:Int)<(q.lines.length:Int))=True:=eq_true (by omega)
  obtain⟨x,hx⟩: ∃x,p.lines[k]? =some x:=⟨p.lines[k],by simp [hlt]⟩
  obtain⟨y,hy⟩: ∃y,q.lines[k]? =some y:=⟨q.lines[k]'(by omega),by simp [show k<q.lines.length by omega]⟩
  have hxr:=ra6 k x hx
  have hyr:=rb6 k y hy
  have hzk:((k+1:Nat):Int)=(k:Int)+1:=by omega
  by_cases hxy:x=y
  ·subst hxy
   simp -implicitDefEqProofs only [go_sem,q0,q1,q2,ga6,gb6,la6,lb6,za6,zb6,hxr,hyr,D1,Option.some.injEq,forall_eq']
   repeat refine And.intro (by omega) ?_
   exact ih _ (k+1) ⟨by omega,O6 heq hx hy⟩ (by omega) (by simp -implicitDefEqProofs only [go_sem,hzk])
  ·have hne:=fun(e:OneP p q)=>A6f hx hy hxy e.lines
   simp -implicitDefEqProofs only [go_sem,q0,q1,q2,ga6,gb6,la6,lb6,za6,zb6,hxr,hyr,D1,hxy,Option.some.injEq,forall_eq',K6 hne]
   repeat' (first|omega|refine And.intro ?_ ?_)
 have e6:k=p.lines.length:=by omega
 subst e6
 have w6:=A1W z6 heq
 clear ih
 simp -implicitDefEqProofs only [go_sem,ga6,la6,Int.lt_irrefl]
 have ra7: ∀(k:Nat) x,p.consts[k]? =some x→(p.consts.map Kst.row)[k]? =some (Kst.row x):=fun k x hk=>by rw [List.getElem?_map,hk];rfl
 have rb7: ∀(k:Nat) x,q.consts[k]? =some x→(q.consts.map Kst.row)[k]? =some (Kst.row x):=fun k x hk=>by rw [List.getElem?_map,hk];rfl
 have za7:=eq_true (B8 Kst.row 5 (fun _=>rfl) p.consts)
 have zb7:=eq_true (B8 Kst.row 5 (fun _=>rfl) q.consts)
 have la7:=l7 p.consts
 have lb7:=l7 q.consts
 have ga7:=cp.g7
 have gb7:=cq.g7
 have hb7:=hp.consts
 generalize p.consts.map Kst.row=A7 at ra7 za7 la7 ga7
 generalize q.consts.map Kst.row=B7 at rb7 zb7 lb7 gb7
 refine Run.rounds (fun(k:Nat)=>⟨[(7,.int .i64 k),(3,.ptr (33*10000+3) 1 0 0),(2,.ptr (33*10000+2) 0 0 0)],[((33*10000+3),1,.rows 11 [qr]),((33*10000+2),0,.rows 11 [pr])],2⟩) (fun k=>k≤p.consts.length∧p.consts.take k=q.consts.take k) (fun k=>p.consts.length-k) 0 (by simp -implicitDefEqProofs only [go_sem]) ⟨Nat.zero_le _,rfl⟩ ?_
 rintro k ⟨hk,heq⟩ ih
 refine Run.unf A3z (Run.go 100 ?_)
 by_cases hlt:k<p.consts.length
 case pos=>
  have q0:((k:Int)<(p.consts.length:Int))=True:=eq_true (by omega)
  have q1:((0:Int)≤(k:Int))=True:=eq_true (by omega)
  have q2:((k:Int)<(q.consts.length:Int))=True:=eq_true (by omega)
  obtain⟨x,hx⟩: ∃x,p.consts[k]? =some x:=⟨p.consts[k],by simp [hlt]⟩
  obtain⟨y,hy⟩: ∃y,q.consts[k]? =some y:=⟨q.consts[k]'(by omega),by simp [show k<q.consts.length by omega]⟩
  have hxr:=ra7 k x hx
  have hyr:=rb7 k y hy
  have hzk:((k+1:Nat):Int)=(k:Int)+1:=by omega
  by_cases hxy:x=y
  ·subst hxy
   simp -implicitDefEqProofs only [go_sem,q0,q1,q2,ga7,gb7,la7,lb7,za7,zb7,hxr,hyr,Kst.row,Option.some.injEq,forall_eq']
   repeat refine And.intro (by omega) ?_
   exact ih _ (k+1) ⟨by omega,O6 heq hx hy⟩ (by omega) (by simp -implicitDefEqProofs only [go_sem,hzk])
  ·have hne:=fun(e:OneP p q)=>A6f hx hy hxy e.consts
   have hq:=B8G hxy
   simp -implicitDefEqProofs only [go_sem,q0,q1,q2,ga7,gb7,la7,lb7,za7,zb7,hxr,hyr,Kst.row,hq,Option.some.injEq,forall_eq',K6 hne]
   repeat' (first|omega|refine And.intro ?_ ?_)
 have e7:k=p.consts.length:=by omega
 subst e7
 have w7:=A1W z7 heq
 clear ih
 simp -implicitDefEqProofs only [go_sem,ga7,la7,Int.lt_irrefl]
 have ra9: ∀(k:Nat) x,p.ups[k]? =some x→(p.ups.map Upv.row)[k]? =some (Upv.row x):=fun k x hk=>by rw [List.getElem?_map,hk];rfl
 have rb9: ∀(k:Nat) x,q.ups[k]? =some x→(q.ups.map Upv.row)[k]? =some (Upv.row x):=fun k x hk=>by rw [List.getElem?_map,hk];rfl
 have za9:=eq_true (B8 Upv.row 3 (fun _=>rfl) p.ups)
 have zb9:=eq_true (B8 Upv.row 3 (fun _=>rfl) q.ups)
 have la9:=l9 p.ups
 have lb9:=l9 q.ups
 have ga9:=cp.g9
 have gb9:=cq.g9
 have hb9:=hp.ups
 generalize p.ups.map Upv.row=A9 at ra9 za9 la9 ga9
 generalize q.ups.map Upv.row=B9 at rb9 zb9 lb9 gb9
 refine Run.rounds (fun(k:Nat)=>⟨[(8,.int .i64 k),(3,.ptr (33*10000+3) 1 0 0),(2,.ptr (33*10000+2) 0 0 0)],[((33*10000+3),1,.rows 11 [qr]),((33*10000+2),0,.rows 11 [pr])],2⟩) (fun k=>k≤p.ups.length∧p.ups.take k=q.ups.take k) (fun k=>p.ups.length-k) 0 (by simp -implicitDefEqProofs only [go_sem]) ⟨Nat.zero_le _,rfl⟩ ?_
 rintro k ⟨hk,heq⟩ ih
 refine Run.unf A3A (Run.go 100 ?_)
 by_cases hlt:k<p.ups.length
 case pos=>
  have q0:((k:Int)<(p.ups.length:Int))=True:=eq_true (by omega)
  have q1:((0:Int)≤(k:Int))=True:=eq_true (by omega)
  have q2:((k:Int)<(q.ups.length:Int))=True:=eq_true (by omega)
  obtain⟨x,hx⟩: ∃x,p.ups[k]? =some x:=⟨p.ups[k],by simp [hlt]⟩
  obtain⟨y,hy⟩: ∃y,q.ups[k]? =some y:=⟨q.ups[k]'(by omega),by simp [show k<q.ups.length by omega]⟩
  have hxr:=ra9 k x hx
  have hyr:=rb9 k y hy
  have hzk:((k+1:Nat):Int)=(k:Int)+1:=by omega
  by_cases hxy:x=y
  ·subst hxy
   simp -implicitDefEqProofs only [go_sem,q0,q1,q2,ga9,gb9,la9,lb9,za9,zb9,hxr,hyr,Upv.row,Option.some.injEq,forall_eq']
   repeat refine And.intro (by omega) ?_
   exact ih _ (k+1) ⟨by omega,O6 heq hx hy⟩ (by omega) (by simp -implicitDefEqProofs only [go_sem,hzk])
  ·have hne:=fun(e:OneP p q)=>A6f hx hy hxy e.ups
   have hq:=B8H hxy
   simp -implicitDefEqProofs only [go_sem,q0,q1,q2,ga9,gb9,la9,lb9,za9,zb9,hxr,hyr,Upv.row,hq,Option.some.injEq,forall_eq',K6 hne]
   repeat' (first|omega|refine And.intro ?_ ?_)
 have e9:k=p.ups.length:=by omega
 subst e9
 have w9:=A1W z9 heq
 clear ih
 simp -implicitDefEqProofs only [go_sem,ga9,la9,Int.lt_irrefl]
 have ra10: ∀(k:Nat) x,p.vars[k]? =some x→(p.vars.map Vr.row)[k]? =some (Vr.row x):=fun k x hk=>by rw [List.getElem?_map,hk];rfl
 have rb10: ∀(k:Nat) x,q.vars[k]? =some x→(q.vars.map Vr.row)[k]? =some (Vr.row x):=fun k x hk=>by rw [List.getElem?_map,hk];rfl
 have za10:=eq_true (B8 Vr.row 5 (fun _=>rfl) p.vars)
 have zb10:=eq_true (B8 Vr.row 5 (fun _=>rfl) q.vars)
 have la10:=l10 p.vars
 have lb10:=l10 q.vars
 have ga10:=cp.g10
 have gb10:=cq.g10
 have hb10:=hp.vars
 generalize p.vars.map Vr.row=A10 at ra10 za10 la10 ga10
 generalize q.vars.map Vr.row=B10 at rb10 zb10 lb10 gb10
 refine Run.rounds (fun(k:Nat)=>⟨[(9,.int .i64 k),(3,.ptr (33*10000+3) 1 0 0),(2,.ptr (33*10000+2) 0 0 0)],[((33*10000+3),1,.rows 11 [qr]),((33*10000+2),0,.rows 11 [pr])],2⟩) (fun k=>k≤p.vars.length∧p.vars.take k=q.vars.take k) (fun k=>p.vars.length-k) 0 (by simp -implicitDefEqProofs only [go_sem]) ⟨Nat.zero_le _,rfl⟩ ?_
 rintro k ⟨hk,heq⟩ ih
 refine Run.unf A3B (Run.go 100 ?_)
 by_cases hlt:k<p.vars.length
 case pos=>
  have q0:((k:Int)<(p.vars.length:Int))=True:=eq_true (by omega)
  have q1:((0:Int)≤(k:Int))=True:=eq_true (by omega)
  have q2:((k:Int)<(q.vars.length:Int))=True:=eq_true (by omega)
  obtain⟨x,hx⟩: ∃x,p.vars[k]? =some x:=⟨p.vars[k],by simp [hlt]⟩
  obtain⟨y,hy⟩: ∃y,q.vars[k]? =some y:=⟨q.vars[k]'(by omega),by simp [show k<q.vars.length by omega]⟩
  have hxr:=ra10 k x hx
  have hyr:=rb10 k y hy
  have hzk:((k+1:Nat):Int)=(k:Int)+1:=by omega
  by_cases hxy:x=y
  ·subst hxy
   simp -implicitDefEqProofs only [go_sem,q0,q1,q2,ga10,gb10,la10,lb10,za10,zb10,hxr,hyr,Vr.row,Option.some.injEq,forall_eq']
   repeat refine And.intro (by omega) ?_
   exact ih _ (k+1) ⟨by omega,O6 heq hx hy⟩ (by omega) (by simp -implicitDefEqProofs only [go_sem,hzk])
  ·have hne:=fun(e:OneP p q)=>A6f hx hy hxy e.vars
   have hq:=C1L hxy
   simp -implicitDefEqProofs only [go_sem,q0,q1,q2,ga10,gb10,la10,lb10,za10,zb10,hxr,hyr,Vr.row,hq,Option.some.injEq,forall_eq',K6 hne]
   repeat' (first|omega|refine And.intro ?_ ?_)
 have e10:k=p.vars.length:=by omega
 subst e10
 have w10:=A1W z10 heq
 clear ih
 simp -implicitDefEqProofs only [go_sem,ga10,la10,Int.lt_irrefl,B6d ⟨h0,h1,h2,h3,h4,w5,w6,w7,z8,w9,w10⟩]
theorem B7M(p q:Fn)(hp:p.bd)(hq:q.bd)(hpc:p.each.length≤1000000)(hqc:q.each.length≤1000000):Pure Tryz.prog 11 [.agg p.row,.agg q.row] (.bool (A9o p q)):=by
 have hep:=A4M p hp hpc
 have heq:=A4M q hq hqc
 have sp:=Fn.row_sub G6 p
 have sq:=Fn.row_sub G6 q
 obtain⟨f1,f2⟩:=C7 p
 obtain⟨e1,e2⟩:=C7 q
 have la:(p.each.map Fn.row).length=p.each.length:=List.length_map ..
 have lb:(q.each.map Fn.row).length=q.each.length:=List.length_map ..
 have za:=eq_true (B8 Fn.row 11 Fn.row_len p.each)
 have zb:=eq_true (B8 Fn.row 11 Fn.row_len q.each)
 have ra: ∀(k:Nat) x,p.each[k]? =some x→(p.each.map Fn.row)[k]? =some (Fn.row x):=fun k x hk=>by rw [List.getElem?_map,hk];rfl
 have rb: ∀(k:Nat) x,q.each[k]? =some x→(q.each.map Fn.row)[k]? =some (Fn.row x):=fun k x hk=>by rw [List.getElem?_map,hk];rfl
 generalize p.each.map Fn.row=A at*
 generalize q.each.map Fn.row=B at*
 generalize p.row=pr at*
 generalize q.row=qr at*
 refine Pure.of 0 (A3.enter n7 (Nat.le_of_ble_eq_true rfl) (Run.go 100 ?_))
 simp -implicitDefEqProofs only [go_sem,A8,f1,f2,e1,e2]
 refine⟨?_,?_⟩<;>
 ·refine A3.pureF hep (by simp -implicitDefEqProofs only [go_sem,sp]) ?_
  simp -implicitDefEqProofs only [go_sem,e1,e2]
  refine A3.pureF heq (by simp -implicitDefEqProofs only [go_sem,sq]) ?_
  by_cases hl:p.each.length=q.each.length
  ·have hl':((p.each.length:Int)=(q.each.length:Int))=True:=eq_true (by omega)
   simp -implicitDefEqProofs only [go_sem,la,lb,hl']
   refine Run.rounds (fun(k:Nat)=>⟨[(7,.int .i64 k),(6,.isl B),(5,.isl A)],[],2⟩) (fun k=>k≤p.each.length∧ ∀(i:Nat) x y,i<k→p.each[i]? =some x→q.each[i]? =some y→OneP x y) (fun k=>p.each.length-k) 0 (by simp -implicitDefEqProofs only [go_sem]) ⟨Nat.zero_le _,fun i x y h=>by omega⟩ ?_
   rintro k ⟨hk,hall⟩ ih
   refine Run.unf A2L (Run.go 100 ?_)
   by_cases hlt:k<p.each.length
   ·have q0:((k:Int)<(p.each.length:Int))=True:=eq_true (by omega)
    have q1:((0:Int)≤(k:Int))=True:=eq_true (by omega)
    have q2:((k:Int)<(q.each.length:Int))=True:=eq_true (by omega)
    obtain⟨x,hx⟩: ∃x,p.each[k]? =some x:=⟨p.each[k],by simp [hlt]⟩
    obtain⟨y,hy⟩: ∃y,q.each[k]? =some y:=⟨q.each[k]'(by omega),by simp [show k<q.each.length by omega]⟩
    have hxr:=ra k x hx
    have hyr:=rb k y hy
    have hone:=C1R x y (hp x (List.mem_of_getElem? hx))
    have hzk:((k+1:Nat):Int)=(k:Int)+1:=by omega
    obtain⟨m1,m2⟩:=C7 x
    obtain⟨n1,n2⟩:=C7 y
    have sx:=Fn.row_sub G6 x
    have sy:=Fn.row_sub G6 y
    generalize x.row=xr at*
    generalize y.row=yr at*
    simp -implicitDefEqProofs only [go_sem,q0,q1,q2,la,lb,za,zb,hxr,hyr,m1,m2,n1,n2,Option.some.injEq,forall_eq']
    refine⟨hlt,by omega,?_⟩
    refine A3.pureF hone (by simp -implicitDefEqProofs only [go_sem,sx,sy]) ?_
    by_cases hxy:OneP x y
    ·simp -implicitDefEqProofs only [go_sem,B6d hxy]
     refine⟨by omega,?_⟩
     refine ih _ (k+1) ⟨by omega,fun i x' y' hi hx' hy'=> ?_⟩ (by omega) (by simp -implicitDefEqProofs only [go_sem,hzk])
     by_cases e:i=k
     ·subst e
      rw [hx]at hx';rw [hy]at hy'
      cases hx';cases hy'
      exact hxy
     ·exact hall i x' y' (by omega) hx' hy'
    ·have hns:A9o p q=false:=K7 fun e=>hxy (((B6v p q).1 e).2 k x y hx hy)
     simp -implicitDefEqProofs only [go_sem,K6 hxy,hns]
   ·have hfin:p=q:=(B6v p q).2 ⟨hl,fun i x y hx hy=>hall i x y (by have:=(List.getElem?_eq_some_iff.1 hx).1;omega) hx hy⟩
    have e:k=p.each.length:=by omega
    subst e
    simp -implicitDefEqProofs only [go_sem,la,Int.lt_irrefl,A7f hfin]
  ·have hl':((p.each.length:Int)=(q.each.length:Int))=False:=eq_false (by omega)
   have hns:A9o p q=false:=K7 fun e=>hl (by rw [e])
   simp -implicitDefEqProofs only [go_sem,la,lb,hl',hns]
end Go.Proofs.YtcjgeliglgcflaaGreatDoor
