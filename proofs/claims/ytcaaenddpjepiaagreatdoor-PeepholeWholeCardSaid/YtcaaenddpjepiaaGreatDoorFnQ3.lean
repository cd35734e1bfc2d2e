/-
 Equality of functions, of the reference. No condition.
-/
import Derived.Test.YtcaaenddpjepiaaGreatDoorFnT
set_option linter.unusedVariables false
set_option linter.unusedSimpArgs false
set_option maxRecDepth 100000
set_option maxHeartbeats 0
namespace Go.Proofs.YtcaaenddpjepiaaGreatDoor
section
open Go.Abs
attribute [local irreducible] A0 Run V5
theorem C9m(p q:Fn)(hp:p.Le):Pure Tryz.prog 21 [.agg p.row,.agg q.row] (.bool (C9l p q)):=by
 have a:=p.cells
 have c:=q.cells
 have J: ∀(l:List Ins),(l.map Ins.row).length=l.length:=fun l=>List.length_map ..
 have O: ∀(l:List Int),(l.map D1).length=l.length:=fun l=>List.length_map ..
 have K: ∀(l:List Kst),(l.map Kst.row).length=l.length:=fun l=>List.length_map ..
 have W: ∀(l:List Fn),(l.map Fn.row).length=l.length:=fun l=>List.length_map ..
 have G: ∀(l:List Upv),(l.map Upv.row).length=l.length:=fun l=>List.length_map ..
 have m: ∀(l:List Vr),(l.map Vr.row).length=l.length:=fun l=>List.length_map ..
 generalize p.row=pr at*
 generalize q.row=qr at*
 refine Pure.of 0 (A0.enter A3v Jk ?_)
 by_cases Q:p.name=q.name
 case neg=>
  refine Run.go 100 ?_
  simp -implicitDefEqProofs only [go_sem,A4,a.len,a.tk,c.len,c.tk,a.g0,a.g1,a.g2,a.g3,a.g4,c.g0,c.g1,c.g2,c.g3,c.g4,Q,U7 fun(e:OneP p q)=>Q e.name]
 by_cases Z:p.line=q.line
 case neg=>
  refine Run.go 100 ?_
  simp -implicitDefEqProofs only [go_sem,A4,a.len,a.tk,c.len,c.tk,a.g0,a.g1,a.g2,a.g3,a.g4,c.g0,c.g1,c.g2,c.g3,c.g4,Q,Z,U7 fun(e:OneP p q)=>Z e.line]
 by_cases h2:p.params=q.params
 case neg=>
  refine Run.go 100 ?_
  simp -implicitDefEqProofs only [go_sem,A4,a.len,a.tk,c.len,c.tk,a.g0,a.g1,a.g2,a.g3,a.g4,c.g0,c.g1,c.g2,c.g3,c.g4,Q,Z,h2,U7 fun(e:OneP p q)=>h2 e.params]
 by_cases h3:p.vararg=q.vararg
 case neg=>
  refine Run.go 100 ?_
  simp -implicitDefEqProofs only [go_sem,A4,a.len,a.tk,c.len,c.tk,a.g0,a.g1,a.g2,a.g3,a.g4,c.g0,c.g1,c.g2,c.g3,c.g4,Q,Z,h2,h3,U7 fun(e:OneP p q)=>h3 e.vararg]
 by_cases h4:p.regs=q.regs
 case neg=>
  refine Run.go 100 ?_
  simp -implicitDefEqProofs only [go_sem,A4,a.len,a.tk,c.len,c.tk,a.g0,a.g1,a.g2,a.g3,a.g4,c.g0,c.g1,c.g2,c.g3,c.g4,Q,Z,h2,h3,h4,U7 fun(e:OneP p q)=>h4 e.regs]
 refine Run.go 7 ?_
 simp -implicitDefEqProofs only [go_sem,A4,a.len,a.tk,c.len,c.tk,a.g0,a.g1,a.g2,a.g3,a.g4,c.g0,c.g1,c.g2,c.g3,c.g4,Q,Z,h2,h3,h4]
 refine Run.keep [3,2] ?_
 simp only [B8s,C7n,C9I,Nat.reduceEqDiff,if_true,if_false,ite_true,ite_false,reduceIte]
 by_cases z5:p.code.length=q.code.length
 case neg=>
  have T:((p.code.length:Int)=(q.code.length:Int))=False:=Jj
  refine Run.go 100 ?_
  simp -implicitDefEqProofs only [go_sem,J,O,K,W,G,m,a.g5,a.g6,a.g7,a.g8,a.g9,a.g10,c.g5,c.g6,c.g7,c.g8,c.g9,c.g10,T,U7 fun(e:OneP p q)=>z5 (congrArg List.length e.code)]
 have T:((p.code.length:Int)=(q.code.length:Int))=True:=Ji
 by_cases z6:p.lines.length=q.lines.length
 case neg=>
  have y6:((p.lines.length:Int)=(q.lines.length:Int))=False:=Jj
  refine Run.go 100 ?_
  simp -implicitDefEqProofs only [go_sem,J,O,K,W,G,m,a.g5,a.g6,a.g7,a.g8,a.g9,a.g10,c.g5,c.g6,c.g7,c.g8,c.g9,c.g10,T,y6,U7 fun(e:OneP p q)=>z6 (congrArg List.length e.lines)]
 have y6:((p.lines.length:Int)=(q.lines.length:Int))=True:=Ji
 by_cases z7:p.consts.length=q.consts.length
 case neg=>
  have y7:((p.consts.length:Int)=(q.consts.length:Int))=False:=Jj
  refine Run.go 100 ?_
  simp -implicitDefEqProofs only [go_sem,J,O,K,W,G,m,a.g5,a.g6,a.g7,a.g8,a.g9,a.g10,c.g5,c.g6,c.g7,c.g8,c.g9,c.g10,T,y6,y7,U7 fun(e:OneP p q)=>z7 (congrArg List.length e.consts)]
 have y7:((p.consts.length:Int)=(q.consts.length:Int))=True:=Ji
 by_cases z8:p.protos.length=q.protos.length
 case neg=>
  have y8:((p.protos.length:Int)=(q.protos.length:Int))=False:=Jj
  refine Run.go 100 ?_
  simp -implicitDefEqProofs only [go_sem,J,O,K,W,G,m,a.g5,a.g6,a.g7,a.g8,a.g9,a.g10,c.g5,c.g6,c.g7,c.g8,c.g9,c.g10,T,y6,y7,y8,U7 fun(e:OneP p q)=>z8 (e.protos)]
 have y8:((p.protos.length:Int)=(q.protos.length:Int))=True:=Ji
 by_cases z9:p.ups.length=q.ups.length
 case neg=>
  have y9:((p.ups.length:Int)=(q.ups.length:Int))=False:=Jj
  refine Run.go 100 ?_
  simp -implicitDefEqProofs only [go_sem,J,O,K,W,G,m,a.g5,a.g6,a.g7,a.g8,a.g9,a.g10,c.g5,c.g6,c.g7,c.g8,c.g9,c.g10,T,y6,y7,y8,y9,U7 fun(e:OneP p q)=>z9 (congrArg List.length e.ups)]
 have y9:((p.ups.length:Int)=(q.ups.length:Int))=True:=Ji
 by_cases z10:p.vars.length=q.vars.length
 case neg=>
  have V:((p.vars.length:Int)=(q.vars.length:Int))=False:=Jj
  refine Run.go 100 ?_
  simp -implicitDefEqProofs only [go_sem,J,O,K,W,G,m,a.g5,a.g6,a.g7,a.g8,a.g9,a.g10,c.g5,c.g6,c.g7,c.g8,c.g9,c.g10,T,y6,y7,y8,y9,V,U7 fun(e:OneP p q)=>z10 (congrArg List.length e.vars)]
 have V:((p.vars.length:Int)=(q.vars.length:Int))=True:=Ji
 refine Run.go 100 ?_
 simp -implicitDefEqProofs only [go_sem,J,O,K,W,G,m,a.g5,a.g6,a.g7,a.g8,a.g9,a.g10,c.g5,c.g6,c.g7,c.g8,c.g9,c.g10,T,y6,y7,y8,y9,V]
 have ra5: ∀(k:Nat) x,p.code[k]? =some x→(p.code.map Ins.row)[k]? =some (Ins.row x):=fun k x g=>by rw [List.getElem?_map,g];rfl
 have rb5: ∀(k:Nat) x,q.code[k]? =some x→(q.code.map Ins.row)[k]? =some (Ins.row x):=fun k x g=>by rw [List.getElem?_map,g];rfl
 have za5:=eq_true (B3 Ins.row 5 (fun _=>rfl) p.code)
 have zb5:=eq_true (B3 Ins.row 5 (fun _=>rfl) q.code)
 have H:=J p.code
 have lb5:=J q.code
 have M:=a.g5
 have X:=c.g5
 have hb5:=hp.code
 generalize p.code.map Ins.row=A5 at ra5 za5 H M
 generalize q.code.map Ins.row=B5 at rb5 zb5 lb5 X
 refine Run.rounds (fun(k:Nat)=>⟨[(5,.int .i64 k),(3,.ptr (21*10000+3) 1 0 0),(2,.ptr (21*10000+2) 0 0 0)],[((21*10000+3),1,.rows 11 [qr]),((21*10000+2),0,.rows 11 [pr])],2⟩) (fun k=>k≤p.code.length∧p.code.take k=q.code.take k) (fun k=>p.code.length-k) 0 ze ⟨Nat.zero_le _,rfl⟩ ?_
 rintro k ⟨g,f⟩ z
 refine Run.unf A6y (Run.go 100 ?_)
 by_cases i:k<p.code.length
 case pos=>
  have w:((k:Int)<(p.code.length:Int))=True:=Ji
  have u:((0:Int)≤(k:Int))=True:=Ji
  have v:((k:Int)<(q.code.length:Int))=True:=Ji
  obtain⟨x,o⟩: ∃x,p.code[k]? =some x:=⟨p.code[k],by simp [i]⟩
  obtain⟨y,n⟩: ∃y,q.code[k]? =some y:=⟨q.code[k]' zd,by simp [show k<q.code.length by omega]⟩
  have d:=ra5 k x o
  have b:=rb5 k y n
  have j:((k+1:Nat):Int)=(k:Int)+1:=by omega
  by_cases h:x=y
  ·subst h
   simp -implicitDefEqProofs only [go_sem,w,u,v,M,X,H,lb5,za5,zb5,d,b,Ins.row,Option.some.injEq,forall_eq']
   exact Xf
  ·have r:=fun(e:OneP p q)=>B0f o n h e.code
   have hq:=C5n h
   simp -implicitDefEqProofs only [go_sem,w,u,v,M,X,H,lb5,za5,zb5,d,b,Ins.row,hq,Option.some.injEq,forall_eq',U7 r]
   repeat' (first|omega|refine And.intro ?_ ?_)
 have e5:k=p.code.length:=by omega
 subst e5
 have w5:=A4Y z5 f
 clear z
 simp -implicitDefEqProofs only [go_sem,M,H,Int.lt_irrefl]
 have ra6: ∀(k:Nat) x,p.lines[k]? =some x→(p.lines.map D1)[k]? =some (D1 x):=fun k x g=>by rw [List.getElem?_map,g];rfl
 have rb6: ∀(k:Nat) x,q.lines[k]? =some x→(q.lines.map D1)[k]? =some (D1 x):=fun k x g=>by rw [List.getElem?_map,g];rfl
 have za6:=eq_true (B3 D1 1 (fun _=>rfl) p.lines)
 have zb6:=eq_true (B3 D1 1 (fun _=>rfl) q.lines)
 have N:=O p.lines
 have lb6:=O q.lines
 have L:=a.g6
 have gb6:=c.g6
 have hb6:=hp.lines
 generalize p.lines.map D1=A6 at ra6 za6 N L
 generalize q.lines.map D1=B6 at rb6 zb6 lb6 gb6
 refine Run.rounds (fun(k:Nat)=>⟨[(6,.int .i64 k),(3,.ptr (21*10000+3) 1 0 0),(2,.ptr (21*10000+2) 0 0 0)],[((21*10000+3),1,.rows 11 [qr]),((21*10000+2),0,.rows 11 [pr])],2⟩) (fun k=>k≤p.lines.length∧p.lines.take k=q.lines.take k) (fun k=>p.lines.length-k) 0 ze ⟨Nat.zero_le _,rfl⟩ ?_
 rintro k ⟨g,f⟩ z
 refine Run.unf A6z (Run.go 100 ?_)
 by_cases i:k<p.lines.length
 case pos=>
  have w:((k:Int)<(p.lines.length:Int))=True:=Ji
  have u:((0:Int)≤(k:Int))=True:=Ji
  have v:((k:Int)<(q.lines.length:Int))=True:=Ji
  obtain⟨x,o⟩: ∃x,p.lines[k]? =some x:=⟨p.lines[k],by simp [i]⟩
  obtain⟨y,n⟩: ∃y,q.lines[k]? =some y:=⟨q.lines[k]' zd,by simp [show k<q.lines.length by omega]⟩
  have d:=ra6 k x o
  have b:=rb6 k y n
  have j:((k+1:Nat):Int)=(k:Int)+1:=by omega
  by_cases h:x=y
  ·subst h
   simp -implicitDefEqProofs only [go_sem,w,u,v,L,gb6,N,lb6,za6,zb6,d,b,D1,Option.some.injEq,forall_eq']
   exact Xf
  ·have r:=fun(e:OneP p q)=>B0f o n h e.lines
   simp -implicitDefEqProofs only [go_sem,w,u,v,L,gb6,N,lb6,za6,zb6,d,b,D1,h,Option.some.injEq,forall_eq',U7 r]
   repeat' (first|omega|refine And.intro ?_ ?_)
 have e6:k=p.lines.length:=by omega
 subst e6
 have w6:=A4Y z6 f
 clear z
 simp -implicitDefEqProofs only [go_sem,L,N,Int.lt_irrefl]
 have ra7: ∀(k:Nat) x,p.consts[k]? =some x→(p.consts.map Kst.row)[k]? =some (Kst.row x):=fun k x g=>by rw [List.getElem?_map,g];rfl
 have rb7: ∀(k:Nat) x,q.consts[k]? =some x→(q.consts.map Kst.row)[k]? =some (Kst.row x):=fun k x g=>by rw [List.getElem?_map,g];rfl
 have Y:=eq_true (B3 Kst.row 5 (fun _=>rfl) p.consts)
 have zb7:=eq_true (B3 Kst.row 5 (fun _=>rfl) q.consts)
 have I:=K p.consts
 have U:=K q.consts
 have P:=a.g7
 have gb7:=c.g7
 have hb7:=hp.consts
 generalize p.consts.map Kst.row=A7 at ra7 Y I P
 generalize q.consts.map Kst.row=B7 at rb7 zb7 U gb7
 refine Run.rounds (fun(k:Nat)=>⟨[(7,.int .i64 k),(3,.ptr (21*10000+3) 1 0 0),(2,.ptr (21*10000+2) 0 0 0)],[((21*10000+3),1,.rows 11 [qr]),((21*10000+2),0,.rows 11 [pr])],2⟩) (fun k=>k≤p.consts.length∧p.consts.take k=q.consts.take k) (fun k=>p.consts.length-k) 0 ze ⟨Nat.zero_le _,rfl⟩ ?_
 rintro k ⟨g,f⟩ z
 refine Run.unf A6A (Run.go 100 ?_)
 by_cases i:k<p.consts.length
 case pos=>
  have w:((k:Int)<(p.consts.length:Int))=True:=Ji
  have u:((0:Int)≤(k:Int))=True:=Ji
  have v:((k:Int)<(q.consts.length:Int))=True:=Ji
  obtain⟨x,o⟩: ∃x,p.consts[k]? =some x:=⟨p.consts[k],by simp [i]⟩
  obtain⟨y,n⟩: ∃y,q.consts[k]? =some y:=⟨q.consts[k]' zd,by simp [show k<q.consts.length by omega]⟩
  have d:=ra7 k x o
  have b:=rb7 k y n
  have j:((k+1:Nat):Int)=(k:Int)+1:=by omega
  by_cases h:x=y
  ·subst h
   simp -implicitDefEqProofs only [go_sem,w,u,v,P,gb7,I,U,Y,zb7,d,b,Kst.row,Option.some.injEq,forall_eq']
   exact Xf
  ·have r:=fun(e:OneP p q)=>B0f o n h e.consts
   have hq:=C5o h
   simp -implicitDefEqProofs only [go_sem,w,u,v,P,gb7,I,U,Y,zb7,d,b,Kst.row,hq,Option.some.injEq,forall_eq',U7 r]
   repeat' (first|omega|refine And.intro ?_ ?_)
 have e7:k=p.consts.length:=by omega
 subst e7
 have w7:=A4Y z7 f
 clear z
 simp -implicitDefEqProofs only [go_sem,P,I,Int.lt_irrefl]
 have ra9: ∀(k:Nat) x,p.ups[k]? =some x→(p.ups.map Upv.row)[k]? =some (Upv.row x):=fun k x g=>by rw [List.getElem?_map,g];rfl
 have rb9: ∀(k:Nat) x,q.ups[k]? =some x→(q.ups.map Upv.row)[k]? =some (Upv.row x):=fun k x g=>by rw [List.getElem?_map,g];rfl
 have za9:=eq_true (B3 Upv.row 3 (fun _=>rfl) p.ups)
 have zb9:=eq_true (B3 Upv.row 3 (fun _=>rfl) q.ups)
 have E:=G p.ups
 have lb9:=G q.ups
 have F:=a.g9
 have gb9:=c.g9
 have hb9:=hp.ups
 generalize p.ups.map Upv.row=A9 at ra9 za9 E F
 generalize q.ups.map Upv.row=B9 at rb9 zb9 lb9 gb9
 refine Run.rounds (fun(k:Nat)=>⟨[(8,.int .i64 k),(3,.ptr (21*10000+3) 1 0 0),(2,.ptr (21*10000+2) 0 0 0)],[((21*10000+3),1,.rows 11 [qr]),((21*10000+2),0,.rows 11 [pr])],2⟩) (fun k=>k≤p.ups.length∧p.ups.take k=q.ups.take k) (fun k=>p.ups.length-k) 0 ze ⟨Nat.zero_le _,rfl⟩ ?_
 rintro k ⟨g,f⟩ z
 refine Run.unf A6B (Run.go 100 ?_)
 by_cases i:k<p.ups.length
 case pos=>
  have w:((k:Int)<(p.ups.length:Int))=True:=Ji
  have u:((0:Int)≤(k:Int))=True:=Ji
  have v:((k:Int)<(q.ups.length:Int))=True:=Ji
  obtain⟨x,o⟩: ∃x,p.ups[k]? =some x:=⟨p.ups[k],by simp [i]⟩
  obtain⟨y,n⟩: ∃y,q.ups[k]? =some y:=⟨q.ups[k]' zd,by simp [show k<q.ups.length by omega]⟩
  have d:=ra9 k x o
  have b:=rb9 k y n
  have j:((k+1:Nat):Int)=(k:Int)+1:=by omega
  by_cases h:x=y
  ·subst h
   simp -implicitDefEqProofs only [go_sem,w,u,v,F,gb9,E,lb9,za9,zb9,d,b,Upv.row,Option.some.injEq,forall_eq']
   exact Xf
  ·have r:=fun(e:OneP p q)=>B0f o n h e.ups
   have hq:=C5p h
   simp -implicitDefEqProofs only [go_sem,w,u,v,F,gb9,E,lb9,za9,zb9,d,b,Upv.row,hq,Option.some.injEq,forall_eq',U7 r]
   repeat' (first|omega|refine And.intro ?_ ?_)
 have e9:k=p.ups.length:=by omega
 subst e9
 have w9:=A4Y z9 f
 clear z
 simp -implicitDefEqProofs only [go_sem,F,E,Int.lt_irrefl]
 have R: ∀(k:Nat) x,p.vars[k]? =some x→(p.vars.map Vr.row)[k]? =some (Vr.row x):=fun k x g=>by rw [List.getElem?_map,g];rfl
 have S: ∀(k:Nat) x,q.vars[k]? =some x→(q.vars.map Vr.row)[k]? =some (Vr.row x):=fun k x g=>by rw [List.getElem?_map,g];rfl
 have A:=eq_true (B3 Vr.row 5 (fun _=>rfl) p.vars)
 have B:=eq_true (B3 Vr.row 5 (fun _=>rfl) q.vars)
 have s:=m p.vars
 have C:=m q.vars
 have t:=a.g10
 have D:=c.g10
 have hb10:=hp.vars
 generalize p.vars.map Vr.row=A10 at R A s t
 generalize q.vars.map Vr.row=B10 at S B C D
 refine Run.rounds (fun(k:Nat)=>⟨[(9,.int .i64 k),(3,.ptr (21*10000+3) 1 0 0),(2,.ptr (21*10000+2) 0 0 0)],[((21*10000+3),1,.rows 11 [qr]),((21*10000+2),0,.rows 11 [pr])],2⟩) (fun k=>k≤p.vars.length∧p.vars.take k=q.vars.take k) (fun k=>p.vars.length-k) 0 ze ⟨Nat.zero_le _,rfl⟩ ?_
 rintro k ⟨g,f⟩ z
 refine Run.unf A6C (Run.go 100 ?_)
 by_cases i:k<p.vars.length
 case pos=>
  have w:((k:Int)<(p.vars.length:Int))=True:=Ji
  have u:((0:Int)≤(k:Int))=True:=Ji
  have v:((k:Int)<(q.vars.length:Int))=True:=Ji
  obtain⟨x,o⟩: ∃x,p.vars[k]? =some x:=⟨p.vars[k],by simp [i]⟩
  obtain⟨y,n⟩: ∃y,q.vars[k]? =some y:=⟨q.vars[k]' zd,by simp [show k<q.vars.length by omega]⟩
  have d:=R k x o
  have b:=S k y n
  have j:((k+1:Nat):Int)=(k:Int)+1:=by omega
  by_cases h:x=y
  ·subst h
   simp -implicitDefEqProofs only [go_sem,w,u,v,t,D,s,C,A,B,d,b,Vr.row,Option.some.injEq,forall_eq']
   exact Xf
  ·have r:=fun(e:OneP p q)=>B0f o n h e.vars
   have hq:=C9e h
   simp -implicitDefEqProofs only [go_sem,w,u,v,t,D,s,C,A,B,d,b,Vr.row,hq,Option.some.injEq,forall_eq',U7 r]
   repeat' (first|omega|refine And.intro ?_ ?_)
 have e10:k=p.vars.length:=by omega
 subst e10
 have w10:=A4Y z10 f
 clear z
 simp -implicitDefEqProofs only [go_sem,t,s,Int.lt_irrefl,C1M ⟨Q,Z,h2,h3,h4,w5,w6,w7,z8,w9,w10⟩]
end
section
open Go.Abs
attribute [local irreducible] A0 Run V5
theorem B6V(p q:Fn)(H:p.bd)(P:q.bd)(t:p.each.length≤1000000)(E:q.each.length≤1000000):Pure Tryz.prog 8 [.agg p.row,.agg q.row] (.bool (B3f p q)):=by
 have v:=B1P p H t
 have u:=B1P q P E
 have Z:=Fn.row_sub C7 p
 have O:=Fn.row_sub C7 q
 obtain⟨W,N⟩:=B4 p
 obtain⟨I,F⟩:=B4 q
 have s:(p.each.map Fn.row).length=p.each.length:=List.length_map ..
 have C:(q.each.map Fn.row).length=q.each.length:=List.length_map ..
 have T:=eq_true (B3 Fn.row 11 Fn.row_len p.each)
 have M:=eq_true (B3 Fn.row 11 Fn.row_len q.each)
 have Q: ∀(k:Nat) x,p.each[k]? =some x→(p.each.map Fn.row)[k]? =some (Fn.row x):=fun k x r=>by rw [List.getElem?_map,r];rfl
 have R: ∀(k:Nat) x,q.each[k]? =some x→(q.each.map Fn.row)[k]? =some (Fn.row x):=fun k x r=>by rw [List.getElem?_map,r];rfl
 generalize p.each.map Fn.row=A at*
 generalize q.each.map Fn.row=B at*
 generalize p.row=pr at*
 generalize q.row=qr at*
 refine Pure.of 0 (A0.enter A2N Jk (Run.go 100 ?_))
 simp -implicitDefEqProofs only [go_sem,A4,W,N,I,F]
 refine⟨?_,?_⟩<;>
 ·refine A0.pureF v Qk ?_
  simp -implicitDefEqProofs only [go_sem,I,F]
  refine A0.pureF u zM ?_
  by_cases G:p.each.length=q.each.length
  ·have c:((p.each.length:Int)=(q.each.length:Int))=True:=Ji
   simp -implicitDefEqProofs only [go_sem,s,C,c]
   refine Run.rounds (fun(k:Nat)=>⟨[(7,.int .i64 k),(6,.isl B),(5,.isl A)],[],2⟩) (fun k=>k≤p.each.length∧ ∀(i:Nat) x y,i<k→p.each[i]? =some x→q.each[i]? =some y→OneP x y) (fun k=>p.each.length-k) 0 ze ⟨Nat.zero_le _,fun i x y h=>by omega⟩ ?_
   rintro k ⟨r,b⟩ ih
   refine Run.unf A0E (Run.go 100 ?_)
   by_cases m:k<p.each.length
   ·have X:((k:Int)<(p.each.length:Int))=True:=Ji
    have K:((0:Int)≤(k:Int))=True:=Ji
    have Y:((k:Int)<(q.each.length:Int))=True:=Ji
    obtain⟨x,f⟩: ∃x,p.each[k]? =some x:=⟨p.each[k],by simp [m]⟩
    obtain⟨y,n⟩: ∃y,q.each[k]? =some y:=⟨q.each[k]' zd,by simp [show k<q.each.length by omega]⟩
    have D:=Q k x f
    have z:=R k y n
    have o:=C9m x y (H x (List.mem_of_getElem? f))
    have w:((k+1:Nat):Int)=(k:Int)+1:=by omega
    obtain⟨J,U⟩:=B4 x
    obtain⟨n1,L⟩:=B4 y
    have V:=Fn.row_sub C7 x
    have S:=Fn.row_sub C7 y
    generalize x.row=xr at*
    generalize y.row=yr at*
    simp -implicitDefEqProofs only [go_sem,X,K,Y,s,C,T,M,D,z,J,U,n1,L,Option.some.injEq,forall_eq']
    refine⟨m,by omega,?_⟩
    refine A0.pureF o (by simp -implicitDefEqProofs only [go_sem,V,S]) ?_
    by_cases a:OneP x y
    ·simp -implicitDefEqProofs only [go_sem,C1M a]
     refine⟨by omega,?_⟩
     refine ih _ (k+1) ⟨by omega,fun i x' y' hi d g=> ?_⟩ zd QH
     by_cases e:i=k
     ·subst e
      rw [f]at d;rw [n]at g
      cases d;cases g
      exact a
     ·exact b i x' y' zd d g
    ·have j:B3f p q=false:=O1 fun e=>a (((C2y p q).1 e).2 k x y f n)
     simp -implicitDefEqProofs only [go_sem,U7 a,j]
   ·have l:p=q:=(C2y p q).2 ⟨G,fun i x y f n=>b i x y (by have:=(List.getElem?_eq_some_iff.1 f).1;omega) f n⟩
    have e:k=p.each.length:=by omega
    subst e
    simp -implicitDefEqProofs only [go_sem,s,Int.lt_irrefl,A4Q l]
  ·have c:((p.each.length:Int)=(q.each.length:Int))=False:=Jj
   have j:B3f p q=false:=O1 fun e=>G zm
   simp -implicitDefEqProofs only [go_sem,s,C,c,j]
end
end Go.Proofs.YtcaaenddpjepiaaGreatDoor
