/-
 The reference's Check; ProtoCheck: the walk. No condition.
-/
import Derived.Test.YtcaaenddpjepiaaGreatDoorFnRb
import Derived.Test.YtcaaenddpjepiaaGreatDoorFnR3
import Derived.Test.YtcaaenddpjepiaaGreatDoorFlowL
set_option linter.unusedVariables false
set_option linter.unusedSimpArgs false
set_option maxRecDepth 100000
set_option maxHeartbeats 0
namespace Go.Proofs.YtcaaenddpjepiaaGreatDoor
open Go.Abs
attribute [local irreducible] A0 Run V5
theorem C4b(p:Fn)(I:p.bd)(i:Ins):Pure Tryz.prog 115 [.agg p.row,i.v] (.int .i64 (R4 p i)):=by
 obtain⟨g,f⟩:=B4 p
 have j:=Fn.row_sub C7 p
 have G:=B0n i
 have y:=B0q i
 have F:=A8w i
 have n:=B4H (reads i).1 (B0K i) (reads i).2 p.regs
 have l:=B4H (C6 i).1 (A9c i) (C6 i).2 p.regs
 have x:=A4J i
 have o:=C0i p I i
 have v:p.row[4]? =some (.int .i64 p.regs):=by rw [Fn.row_eq];rfl
 have q:p.row[5]? =some (.isl (p.code.map Ins.row)):=by rw [Fn.row_eq];rfl
 have u:(p.code.map Ins.row).length=p.code.length:=List.length_map ..
 have H:((reads i).1.map zrw).map (fun r=>r.map (V.sub C7))=(reads i).1.map zrw:=B7k _
 have B:((C6 i).1.map zrw).map (fun r=>r.map (V.sub C7))=(C6 i).1.map zrw:=B7k _
 generalize e:R4 p i=z
 unfold R4 at e
 rw [show ((reads i).1,(reads i).2)=reads i from rfl]at n
 rw [show ((C6 i).1,(C6 i).2)=C6 i from rfl]at l
 generalize (reads i).1.map zrw=M at*
 generalize (C6 i).1.map zrw=rw at*
 generalize (reads i).2=K at*
 generalize (C6 i).2=O at*
 generalize V0 p.regs (reads i)=J at*
 generalize V0 p.regs (C6 i)=E at*
 generalize Z8 p i=w at*
 generalize chk i=A at*
 generalize G9 i.op=C at*
 generalize p.code.map Ins.row=t at*
 generalize p.row=N at*
 obtain⟨L,a,b,c,d⟩:=i
 simp only [Ins.v,Ins.row]at*
 refine Pure.of 0 (A0.enter A2a Jk (Run.go 100 ?_))
 simp -implicitDefEqProofs only [go_sem,A4,g,f]
 refine A0.pureF G ze ?_
 by_cases k:A=0
 case neg=>
  rw [if_pos k]at e
  subst e
  simp -implicitDefEqProofs only [go_sem,k]
 rw [if_neg (by simpa using k)]at e
 have o:=o k
 simp -implicitDefEqProofs only [go_sem,k]
 refine A0.pureF y ze ?_
 refine QL ?_
 refine A0.pureF F ze ?_
 simp -implicitDefEqProofs only [go_sem,g,f,v]
 refine A0.pureF n zY ?_
 cases J
 ·exact JM
 simp -implicitDefEqProofs only [go_sem,g,f,v]
 refine A0.pureF l Qy ?_
 cases E
 ·exact JM
 refine QL ?_
 refine A0.pureF x ze ?_
 cases C
 ·simp -implicitDefEqProofs only [go_sem,g,f]
  refine A0.pureF o zy ?_
  cases w
  ·exact JM
  ·obtain rfl:z=0:=e ▸ if_pos zf
   exact ze
 ·by_cases s:b<0
  ·obtain rfl:z=4:=e ▸ if_neg (fun h=>by have:=(h.2.2.1 rfl).1;omega)
   simp -implicitDefEqProofs only [go_sem,s,g,f,q,u]
  by_cases m:b<(p.code.length:Int)
  ·simp -implicitDefEqProofs only [go_sem,s,m,g,f,q,u,ge_iff_le,Int.not_le.2 m]
   refine A0.pureF o zy ?_
   cases w
   ·exact JM
   ·obtain rfl:z=0:=e ▸ if_pos ⟨rfl,rfl,fun _=>⟨by omega,m⟩,rfl⟩
    exact ze
  ·obtain rfl:z=4:=e ▸ if_neg (fun h=>m (h.2.2.1 rfl).2)
   have D:((p.code.length:Int)≤b)=True:=Ji
   simp -implicitDefEqProofs only [go_sem,s,m,D,g,f,q,u]
theorem D3J{p:Fn}(h:A3Q p≠0):A3Q p=3:=by unfold A3Q at*;split<;>simp_all
theorem D0J{p:Fn}(h:f8 p≠0):f8 p=4:=by unfold f8 at*;split<;>simp_all
theorem C0j(p:Fn)(W:p.bd):Pure Tryz.prog 91 [.agg p.row] (.int .i64 (A3b p)):=by
 have H:=Fn.row_sub C7 p
 obtain⟨v,t⟩:=B4 p
 have E:=W.self
 have hiz:=E.code
 have hlz:=E.lines
 have hcz:=E.consts
 have hpz:=E.protos
 have huz:=E.ups
 have hvz:=E.vars
 have g0:p.row[0]? =some (.str p.name):=by rw [Fn.row_eq];rfl
 have g1:p.row[1]? =some (.int .i64 p.line):=by rw [Fn.row_eq];rfl
 have g2:p.row[2]? =some (.int .i64 p.params):=by rw [Fn.row_eq];rfl
 have g3:p.row[3]? =some (.bool p.vararg):=by rw [Fn.row_eq];rfl
 have g4:p.row[4]? =some (.int .i64 p.regs):=by rw [Fn.row_eq];rfl
 have g5:p.row[5]? =some (.isl (p.code.map Ins.row)):=by rw [Fn.row_eq];rfl
 have g6:p.row[6]? =some (.isl (p.lines.map D1)):=by rw [Fn.row_eq];rfl
 have g7:p.row[7]? =some (.isl (p.consts.map Kst.row)):=by rw [Fn.row_eq];rfl
 have g8:p.row[8]? =some (.isl (p.protos.map Fn.row)):=by rw [Fn.row_eq];rfl
 have g9:p.row[9]? =some (.isl (p.ups.map Upv.row)):=by rw [Fn.row_eq];rfl
 have g10:p.row[10]? =some (.isl (p.vars.map Vr.row)):=by rw [Fn.row_eq];rfl
 have b:(p.code.map Ins.row).length=p.code.length:=List.length_map ..
 have B:=eq_true (B3 Ins.row 5 (fun _=>rfl) p.code)
 have C: ∀(k:Nat) x,p.code[k]? =some x→(p.code.map Ins.row)[k]? =some (Ins.row x):=fun k x i=>by rw [List.getElem?_map,i];rfl
 have Y:(p.lines.map D1).length=p.lines.length:=List.length_map ..
 have S:=eq_true (B3 D1 1 (fun _=>rfl) p.lines)
 have Z: ∀(k:Nat) x,p.lines[k]? =some x→(p.lines.map D1)[k]? =some (D1 x):=fun k x i=>by rw [List.getElem?_map,i];rfl
 have N:(p.consts.map Kst.row).length=p.consts.length:=List.length_map ..
 have Q:=eq_true (B3 Kst.row 5 (fun _=>rfl) p.consts)
 have O: ∀(k:Nat) x,p.consts[k]? =some x→(p.consts.map Kst.row)[k]? =some (Kst.row x):=fun k x i=>by rw [List.getElem?_map,i];rfl
 have a:(p.protos.map Fn.row).length=p.protos.length:=List.length_map ..
 have m:=eq_true (B3 Fn.row 11 Fn.row_len p.protos)
 have r: ∀(k:Nat) x,p.protos[k]? =some x→(p.protos.map Fn.row)[k]? =some (Fn.row x):=fun k x i=>by rw [List.getElem?_map,i];rfl
 have c:(p.ups.map Upv.row).length=p.ups.length:=List.length_map ..
 have z_ups:=eq_true (B3 Upv.row 3 (fun _=>rfl) p.ups)
 have r_ups: ∀(k:Nat) x,p.ups[k]? =some x→(p.ups.map Upv.row)[k]? =some (Upv.row x):=fun k x i=>by rw [List.getElem?_map,i];rfl
 have k_vars:(p.vars.map Vr.row).length=p.vars.length:=List.length_map ..
 have z_vars:=eq_true (B3 Vr.row 5 (fun _=>rfl) p.vars)
 have r_vars: ∀(k:Nat) x,p.vars[k]? =some x→(p.vars.map Vr.row)[k]? =some (Vr.row x):=fun k x i=>by rw [List.getElem?_map,i];rfl
 have hli:=C0g p W
 have hfo:=C4a p W
 have hin:=C4b p W
 generalize s:A3b p=z
 unfold A3b at s
 generalize p.code.map Ins.row=rcode at*
 generalize p.lines.map D1=rlines at*
 generalize p.consts.map Kst.row=rconsts at*
 generalize p.protos.map Fn.row=rprotos at*
 generalize p.ups.map Upv.row=rups at*
 generalize p.vars.map Vr.row=rvars at*
 generalize p.row=pr at*
 refine Pure.of 0 (A0.enter A1h Jk (Run.go 100 ?_))
 simp -implicitDefEqProofs only [go_sem,A4,v,t]
 refine A0.pureF hli zY ?_
 by_cases T:A3Q p=0
 case neg=>
  rw [if_pos T,D3J T]at s
  subst s
  have cd:decide (A3Q p≠0)=true:=decide_eq_true T
  simp -implicitDefEqProofs only [go_sem,cd]
 have cd:decide (A3Q p≠0)=false:=decide_eq_false (fun h=>h T)
 rw [if_neg (by simpa using T)]at s
 simp -implicitDefEqProofs only [go_sem,cd,v,t]
 refine A0.pureF hfo zY ?_
 by_cases U:f8 p=0
 case neg=>
  rw [if_pos U,D0J U]at s
  subst s
  have ce:decide (f8 p=0)=false:=decide_eq_false U
  simp -implicitDefEqProofs only [go_sem,ce]
 have ce:decide (f8 p=0)=true:=decide_eq_true U
 rw [if_neg (by simpa using U)]at s
 simp -implicitDefEqProofs only [go_sem,ce,v,t,g5,b]
 refine Run.keep [3,1] ?_
 refine Run.rounds (fun(x:Nat)=>⟨[(3,.int .i64 x),(1,.ptr (91*10000+1) 0 0 0)],[((91*10000+1),0,.rows 11 [pr])],1⟩) (fun x=>x≤p.code.length∧ ∀y∈p.code.take x,R4 p y=0) (fun x=>p.code.length-x) 0 ze ⟨Nat.zero_le _,by simp⟩ ?_
 rintro k ⟨i,g⟩ ih
 refine Run.unf p8 (Run.go 100 ?_)
 by_cases n:k<p.code.length
 ·have q0:((k:Int)<(p.code.length:Int))=True:=Ji
  have q1:((0:Int)≤(k:Int))=True:=Ji
  obtain⟨x,G⟩: ∃x,p.code[k]? =some x:=⟨p.code[k],by simp [n]⟩
  have I:=C k x G
  have hix:=hin x
  have L:((k+1:Nat):Int)=(k:Int)+1:=by omega
  simp only [Ins.v,Ins.row]at hix
  simp -implicitDefEqProofs only [go_sem,q0,q1,b,B,g5,v,t,I,Ins.row,n,Option.some.injEq,forall_eq']
  refine A0.pureF hix zY ?_
  by_cases A:R4 p x=0
  ·simp -implicitDefEqProofs only [go_sem,A]
   refine⟨by omega,?_⟩
   exact ih _ (k+1) ⟨by omega,A9a g G A⟩ zd QA
  ·have hf:=A8i (f:=R4 p) g G A
   rw [if_pos (by rw [hf];exact A),hf]at s
   subst s
   simp -implicitDefEqProofs only [go_sem,A]
 have e:k=p.code.length:=by omega
 subst e
 rw [List.take_length]at g
 rw [if_neg (by rw [A2y (fun y hy=>by obtain⟨w,hw,rfl⟩:=List.mem_map.1 hy;exact g w hw)];simp)]at s
 clear ih n i
 simp -implicitDefEqProofs only [go_sem,Int.lt_irrefl,v,t,g5,b]
 refine Run.keep [5,1] ?_
 refine Run.rounds (fun(x:Nat)=>⟨[(5,.int .i64 x),(1,.ptr (91*10000+1) 0 0 0)],[((91*10000+1),0,.rows 11 [pr])],1⟩) (fun x=>x≤p.protos.length∧(p.protos.take x).any (B9l p)=false) (fun x=>p.protos.length-x) 0 ze ⟨Nat.zero_le _,rfl⟩ ?_
 clear g
 rintro k ⟨i,g⟩ ih
 refine Run.unf P3 (Run.go 100 ?_)
 by_cases n:k<p.protos.length
 ·have q0:((k:Int)<(p.protos.length:Int))=True:=Ji
  have q1:((0:Int)≤(k:Int))=True:=Ji
  obtain⟨q,G⟩: ∃x,p.protos[k]? =some x:=⟨p.protos[k],by simp [n]⟩
  have I:=r k q G
  have L:((k+1:Nat):Int)=(k:Int)+1:=by omega
  have hqb:=(W.child (List.mem_of_getElem? G)).self.ups
  obtain⟨y1,y2⟩:=B4 q
  have y9:q.row[9]? =some (.isl (q.ups.map Upv.row)):=by rw [Fn.row_eq];rfl
  have P:(q.ups.map Upv.row).length=q.ups.length:=List.length_map ..
  have zu:=eq_true (B3 Upv.row 3 (fun _=>rfl) q.ups)
  have ru: ∀(k:Nat) x,q.ups[k]? =some x→(q.ups.map Upv.row)[k]? =some (Upv.row x):=fun k x i=>by rw [List.getElem?_map,i];rfl
  generalize q.ups.map Upv.row=X at*
  generalize q.row=qr at*
  simp -implicitDefEqProofs only [go_sem,q0,q1,a,m,g8,v,t,y1,y2,y9,P,I,n,Option.some.injEq,forall_eq']
  refine Run.keep [7,6,5,1] ?_
  refine Run.rounds (fun(x:Nat)=>⟨[(7,.int .i64 x),(6,.isl X),(5,.int .i64 k),(1,.ptr (91*10000+1) 0 0 0)],[((91*10000+1),0,.rows 11 [pr])],1⟩) (fun x=>x≤q.ups.length∧(q.ups.take x).any (A4V p.regs p.ups.length)=false) (fun x=>q.ups.length-x) 0 ze ⟨Nat.zero_le _,rfl⟩ ?_
  rintro j ⟨hj,M⟩ V
  refine Run.unf J0 (Run.go 100 ?_)
  by_cases d:j<q.ups.length
  ·have q2:((j:Int)<(q.ups.length:Int))=True:=Ji
   have q3:((0:Int)≤(j:Int))=True:=Ji
   obtain⟨u,hu⟩: ∃x,q.ups[j]? =some x:=⟨q.ups[j],by simp [d]⟩
   have D:=ru j u hu
   have R:((j+1:Nat):Int)=(j:Int)+1:=by omega
   obtain⟨un,ul,K⟩:=u
   have bad:A4V p.regs p.ups.length ⟨un,ul,K⟩=true→z=4:=fun E=>s ▸ if_pos (K4 G (K4 hu E))
   by_cases o:A4V p.regs p.ups.length ⟨un,ul,K⟩=true
   ·obtain rfl:=bad o
    cases ul
    ·have J:((p.ups.length:Int)≤K)=True:=eq_true Qn
     exact Yt
    ·have J:(p.regs≤K)=True:=eq_true Qn
     exact Yt
   ·have F:A4V p.regs p.ups.length ⟨un,ul,K⟩=false:=by simpa only [Bool.not_eq_true]using o
    cases ul
    ·have J:((p.ups.length:Int)≤K)=False:=eq_false Qn
     exact Xm
    ·have J:(p.regs≤K)=False:=eq_false Qn
     exact Xm
  have e:j=q.ups.length:=by omega
  subst e
  have l:=I4 M
  simp -implicitDefEqProofs only [go_sem,Int.lt_irrefl,P]
  refine⟨by omega,?_⟩
  exact ih _ (k+1) ⟨by omega,E8 g G l⟩ zd QA
 have e:k=p.protos.length:=by omega
 subst e
 have l:=I4 g
 obtain rfl:z=0:=s ▸ if_neg (fun h=>by simp [l]at h)
 simp -implicitDefEqProofs only [go_sem,Int.lt_irrefl,v,t,g8,a]
theorem B1g(p:Fn)(v:p.bd)(C:p.each.length≤1000000):Pure Tryz.prog 69 [.agg p.row] (.int .i64 (L5 p)):=by
 obtain⟨E,D⟩:=B4 p
 have g:=Fn.row_sub C7 p
 have F:=C1X p v C
 have r:=B1P p v C
 have M: ∀q∈p.each,Pure Tryz.prog 91 [.agg q.row] (.int .i64 (A3b q)):=fun q b=>C0j q (v.within b)
 have i:(p.each.map Fn.row).length=p.each.length:=List.length_map ..
 have l:=eq_true (B3 Fn.row 11 Fn.row_len p.each)
 have d: ∀(k:Nat) q,p.each[k]? =some q→(p.each.map Fn.row)[k]? =some q.row:=fun k q B=>by rw [List.getElem?_map,B];rfl
 unfold L5
 generalize p.each.map Fn.row=L at*
 generalize p.row=R at*
 refine Pure.of 0 (A0.enter A1X Jk (Run.go 100 ?_))
 simp -implicitDefEqProofs only [go_sem,A4,E,D]
 refine A0.pureF F zn ?_
 by_cases A:64<p.depth
 ·have s:((64:Int)<((min p.depth 65:Nat):Int))=True:=Ji
  have m:B1r p.depth (p.each.map A3b)=3:=if_pos A
  simp -implicitDefEqProofs only [go_sem,s,m]
 have s:((64:Int)<((min p.depth 65:Nat):Int))=False:=Jj
 have m:B1r p.depth (p.each.map A3b)=J5 (p.each.map A3b):=if_neg A
 rw [m]
 generalize u:J5 (p.each.map A3b)=z
 simp -implicitDefEqProofs only [go_sem,s,E,D]
 refine A0.pureF r zn ?_
 refine QL ?_
 refine Run.keep [4,3] ?_
 refine Run.rounds (fun(x:Nat)=>⟨[(4,.int .i64 x),(3,.isl L)],[],1⟩) (fun x=>x≤p.each.length∧ ∀y∈p.each.take x,A3b y=0) (fun x=>p.each.length-x) 0 ze ⟨Nat.zero_le _,by simp⟩ ?_
 rintro k ⟨B,h⟩ P
 refine Run.unf w8 (Run.go 100 ?_)
 by_cases j:k<p.each.length
 ·have N:((k:Int)<(p.each.length:Int))=True:=Ji
  have G:((0:Int)≤(k:Int))=True:=Ji
  obtain⟨q,b⟩: ∃q,p.each[k]? =some q:=⟨p.each[k],by simp [j]⟩
  have t:=d k q b
  have n:=M q (List.mem_of_getElem? b)
  have c:=Fn.row_sub C7 q
  have o:((k+1:Nat):Int)=(k:Int)+1:=by omega
  obtain⟨O,H⟩:=B4 q
  generalize q.row=Q at*
  simp -implicitDefEqProofs only [go_sem,N,G,i,l,t,O,H,j,Option.some.injEq,forall_eq']
  refine A0.pureF n zJ ?_
  by_cases a:A3b q=0
  ·refine QP ?_
   refine⟨by omega,?_⟩
   exact P _ (k+1) ⟨by omega,A9a h b a⟩ zd zU
  ·have I:=A8i (f:=A3b) h b a
   rw [I]at u
   subst u
   exact Qd
 have e:k=p.each.length:=by omega
 subst e
 rw [List.take_length]at h
 obtain rfl:z=0:=by rw [←u];exact A2y (fun y J=>by obtain⟨w,K,rfl⟩:=List.mem_map.1 J;exact h w K)
 simp -implicitDefEqProofs only [go_sem,Int.lt_irrefl,i]
end Go.Proofs.YtcaaenddpjepiaaGreatDoor
