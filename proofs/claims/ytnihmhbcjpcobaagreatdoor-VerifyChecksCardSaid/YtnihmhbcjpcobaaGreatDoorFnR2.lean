/-
 The reference's Depth, limits, and what an instruction refers to. No condition.
-/
import Derived.Test.YtnihmhbcjpcobaaGreatDoorFnMb
import Derived.Test.YtnihmhbcjpcobaaGreatDoorFnMa
set_option linter.unusedVariables false
set_option linter.unusedSimpArgs false
set_option maxRecDepth 100000
set_option maxHeartbeats 0
namespace Go.Proofs.YtnihmhbcjpcobaaGreatDoor
open Go.Abs
attribute [local irreducible] A2 Run P7
def H7:List Fn→List Fn
 | []=> []
 |p::r=>p.protos++H7 r
theorem A5L: ∀(l m:List Fn),H7 (l++m)=H7 l++H7 m
 | [],m=>rfl
 |p::r,m=>by rw [List.cons_append,H7,H7,A5L r m,List.append_assoc]
theorem B8E{l:List Fn}{k:Nat}{q:Fn}(h:l[k]? =some q):H7 (l.take (k+1))=H7 (l.take k)++q.protos:=by
 rw [List.take_add_one,h,A5L];simp [H7]
theorem B4z: ∀l:List Fn,(Fn.eachs (H7 l)).length+l.length=(Fn.eachs l).length
 | []=>rfl
 |p::r=>by
  have:=B4z r
  rw [H7,Fn.eachs_append,Fn.eachs,Fn.each_eq]
  simp only [List.length_append,List.length_cons]
  omega
theorem B2J: ∀(l m:List Fn),Fn.depths (l++m)=max (Fn.depths l) (Fn.depths m)
 | [],m=>by simp [Fn.depths]
 |p::r,m=>by rw [List.cons_append,Fn.depths,Fn.depths,B2J r m,Nat.max_assoc]
theorem B1z: ∀l:List Fn,Fn.depths (H7 l)=Fn.depths l-1
 | []=>rfl
 |p::r=>by
  rw [H7,B2J,B1z r,Fn.depths,Fn.depth_eq]
  omega
theorem B8i{l:List Fn}(h:l≠ []):0<Fn.depths l:=by
 cases l with
 |nil=>exact absurd rfl h
 |cons p r=>rw [Fn.depths,Fn.depth_eq];omega
theorem C0N{p:Fn}{l:List Fn}(h: ∀q∈l,q∈p.each): ∀q∈H7 l,q∈p.each:=by
 induction l with
 |nil=>intro q hq;cases hq
 |cons a r ih=>
  intro q hq
  rw [H7]at hq
  rcases List.mem_append.1 hq with hq|hq
  ·exact Fn.child_mem (h a List.mem_cons_self) hq
  ·exact ih (fun x hx=>h x (List.mem_cons_of_mem _ hx)) q hq
theorem B7p(p:Fn)(hp:p.bd)(hc:p.each.length≤1000000):Pure Tryz.prog 19 [.agg p.row] (.int .i64 (min p.depth 65:Nat)):=by
 obtain⟨h1,h2⟩:=B5 p
 refine Pure.of 0 (A2.enter q9 (Nat.le_of_ble_eq_true rfl) (Run.go 100 ?_))
 have hpr: [p.row]= [p].map Fn.row:=rfl
 generalize hpr':p.row=pr at*
 simp -implicitDefEqProofs only [go_sem,A4,h1,h2]
 rw [hpr]
 refine Run.roundsK (fun(x:List Fn×Nat×Nat×Nat)=>⟨[(4,.int .i64 x.2.1),(3,.sl (19*10000+3) x.2.2.1 0 x.1.length)],
   [((19*10000+3),x.2.2.1,.rows 11 (x.1.map Fn.row))],x.2.2.2⟩)
  (fun x=>x.2.1≤65∧x.2.1+Fn.depths x.1=p.depth∧(∀q∈x.1,q∈p.each)∧(Fn.eachs x.1).length≤p.each.length) (fun x=>65-x.2.1) ([p],0,1,2) ?_ ⟨Nat.zero_le _,by simp [Fn.depths],fun q hq=>by rw [List.mem_singleton.1 hq];exact p.self_mem,by simp [Fn.eachs]⟩ ?_
 ·exact .turn (fun b=>if b=(19*10000+8)then(19*10000+3)else b) ⟨.refl _,.sl,trivial⟩ (.at 0 rfl rfl (.refl _) trivial)
 rintro⟨l,c,st,n⟩ ⟨hc65,hdl,hmem,hlen⟩ ih
 simp only at hc65 hdl hmem hlen ih⊢
 have hml:(l.map Fn.row).length=l.length:=List.length_map ..
 have hll:=Fn.eachs_len l
 have hkl:=B4z l
 have hkk:=Fn.eachs_len (H7 l)
 have hdk:=B1z l
 have hkm:=C0N hmem
 refine Run.unf A3k (Run.go 100 ?_)
 by_cases hl:l= []
 ·have hd0:Fn.depths l=0:=by rw [hl];rfl
  have q0:((0:Int)<(l.length:Int))=False:=eq_false (by rw [hl];simp)
  have e:min p.depth 65=c:=by omega
  simp -implicitDefEqProofs only [go_sem,q0,e]
 have hdp:=B8i hl
 have hlp:0<l.length:=List.length_pos_iff.2 hl
 have q0:((0:Int)<(l.length:Int))=True:=eq_true (by omega)
 by_cases hc64:c≤64
 case neg=>
  have q1:((c:Int)≤64)=False:=eq_false (by omega)
  have e:min p.depth 65=c:=by omega
  simp -implicitDefEqProofs only [go_sem,q0,q1,e]
 have q1:((c:Int)≤64)=True:=eq_true (by omega)
 have hrz:=eq_true (A9 Fn.row 11 Fn.row_len l)
 have hrow: ∀(k:Nat) q,l[k]? =some q→(l.map Fn.row)[k]? =some q.row:=fun k q hk=>by rw [List.getElem?_map,hk];rfl
 generalize l.map Fn.row=es at*
 simp -implicitDefEqProofs only [go_sem,q0,q1]
 refine Run.roundsK (fun(x:Nat×Nat×Nat)=>⟨[(6,.int .i64 x.1),(5,.sl (19*10000+28) x.2.1 0 (H7 (l.take x.1)).length),(4,.int .i64 c),(3,.sl (19*10000+3) st 0 l.length)],[((19*10000+28),x.2.1,.rows 11 ((H7 (l.take x.1)).map Fn.row)),((19*10000+3),st,.rows 11 es)],x.2.2⟩) (fun x=>x.1≤l.length) (fun x=>l.length-x.1) (0,n,n+1) ?_ (Nat.zero_le _) ?_
 ·refine .trans (.fresh (19*10000+28) 11 _ _ _) (.turn id ⟨.refl _,.nils,.refl _,.refl _,trivial⟩ (.at 0 rfl rfl (.refl _) (.at 1 rfl rfl (.refl _) trivial)))
 rintro⟨k,s2,m⟩ hk ih2
 simp only at hk ih2⊢
 refine Run.unf A3l (Run.go 100 ?_)
 by_cases hlt:k<l.length
 ·have z0:((k:Int)<(l.length:Int))=True:=eq_true (by omega)
  have z1:((0:Int)≤(k:Int))=True:=eq_true (by omega)
  obtain⟨q,hq⟩: ∃q,l[k]? =some q:=⟨l[k],by simp [hlt]⟩
  have hqr:=hrow k q hq
  have hkt:=B8E hq
  have hktl:(H7 (l.take k)).length+q.protos.length≤1000000:=by
   have a1:H7 l=H7 (l.take k)++(q.protos++H7 (l.drop (k+1))):=by
    rw [←List.append_assoc,←hkt,←A5L,List.take_append_drop]
   have a2:=congrArg List.length a1
   simp only [List.length_append]at a2
   omega
  obtain⟨g1,g2⟩:=B5 q
  have g8:q.row[8]? =some (.isl (q.protos.map Fn.row)):=by rw [q.row_eq];rfl
  have hpl:(q.protos.map Fn.row).length=q.protos.length:=List.length_map ..
  have hol:((H7 (l.take k)).map Fn.row).length=(H7 (l.take k)).length:=List.length_map ..
  have hotk:((H7 (l.take k)).map Fn.row).take (H7 (l.take k)).length=(H7 (l.take k)).map Fn.row:=List.take_of_length_le (by omega)
  have hrq:=eq_true (A9 Fn.row 11 Fn.row_len q.protos)
  have hzk:((k+1:Nat):Int)=(k:Int)+1:=by omega
  have hnew:(H7 (l.take (k+1))).map Fn.row=(H7 (l.take k)).map Fn.row++q.protos.map Fn.row:=by rw [hkt,List.map_append]
  have hnl:(H7 (l.take (k+1))).length=(H7 (l.take k)).length+q.protos.length:=by rw [hkt,List.length_append]
  have hap:((H7 (l.take k)).length+q.protos.length≤137438953472)=True:=eq_true (by omega)
  have ihx:=fun s (a b:Nat) h=>ih2 s (k+1,a,b) (by simp only;omega) (by simp only;omega) h
  clear ih2 ih
  simp only [hnew,hnl]at ihx
  generalize (H7 (l.take k)).map Fn.row=os at*
  generalize (H7 (l.take k)).length=ol at*
  generalize q.protos.map Fn.row=qs at*
  generalize q.row=qr at*
  simp -implicitDefEqProofs only [go_sem,z0,z1,hml,hrz,hqr,g1,g2,g8,hpl,hol,hotk,hap,Option.some.injEq,forall_eq']
  exact⟨hlt,of_eq_true hrq,by omega,ihx _ m (m+1) (B6.wk (by simp -implicitDefEqProofs only [go_sem,hzk]))⟩
 ·have e:k=l.length:=by omega
  subst e
  rw [List.take_length]
  simp -implicitDefEqProofs only [go_sem,Int.lt_irrefl]
  have hzc:((c+1:Nat):Int)=(c:Int)+1:=by omega
  refine⟨by omega,ih _ (H7 l,c+1,s2,m) ⟨by simp only;omega,by simp only;omega,hkm,by simp only;omega⟩ (by simp only;omega) ?_⟩
  simp only [hzc]
  exact .turn (fun b=>if b=(19*10000+28)then(19*10000+3)else b) ⟨.refl _,.sl,trivial⟩ (.at 0 rfl rfl (.refl _) trivial)
theorem C4p{C:Prop} [Decidable C]:((if C then(0:Int)else 3)≠0)= ¬C:=propext ⟨fun h1 hc=>h1 (if_pos hc),fun h1 h2=>by rw [if_neg h1]at h2;exact absurd h2 (by decide)⟩
theorem B5M(p:Fn)(hp:p.bd):Pure Tryz.prog 33 [.agg p.row] (.bool (decide (A6Y p≠0))):=by
 obtain⟨h1,h2⟩:=B5 p
 have hb:=hp.self
 have hiz:=hb.code
 have hlz:=hb.lines
 have hcz:=hb.consts
 have hpz:=hb.protos
 have huz:=hb.ups
 have hvz:=hb.vars
 have g0:p.row[0]? =some (.str p.name):=by rw [Fn.row_eq];rfl
 have g1:p.row[1]? =some (.int .i64 p.line):=by rw [Fn.row_eq];rfl
 have g2:p.row[2]? =some (.int .i64 p.params):=by rw [Fn.row_eq];rfl
 have g3:p.row[3]? =some (.bool p.vararg):=by rw [Fn.row_eq];rfl
 have g4:p.row[4]? =some (.int .i64 p.regs):=by rw [Fn.row_eq];rfl
 have g5:p.row[5]? =some (.isl (p.code.map Ins.row)):=by rw [Fn.row_eq];rfl
 have g6:p.row[6]? =some (.isl (p.lines.map E2)):=by rw [Fn.row_eq];rfl
 have g7:p.row[7]? =some (.isl (p.consts.map Kst.row)):=by rw [Fn.row_eq];rfl
 have g8:p.row[8]? =some (.isl (p.protos.map Fn.row)):=by rw [Fn.row_eq];rfl
 have g9:p.row[9]? =some (.isl (p.ups.map Upv.row)):=by rw [Fn.row_eq];rfl
 have g10:p.row[10]? =some (.isl (p.vars.map Vr.row)):=by rw [Fn.row_eq];rfl
 have k_code:(p.code.map Ins.row).length=p.code.length:=List.length_map ..
 have z_code:=eq_true (A9 Ins.row 5 (fun _=>rfl) p.code)
 have r_code: ∀(k:Nat) x,p.code[k]? =some x→(p.code.map Ins.row)[k]? =some (Ins.row x):=fun k x hk=>by rw [List.getElem?_map,hk];rfl
 have k_lines:(p.lines.map E2).length=p.lines.length:=List.length_map ..
 have z_lines:=eq_true (A9 E2 1 (fun _=>rfl) p.lines)
 have r_lines: ∀(k:Nat) x,p.lines[k]? =some x→(p.lines.map E2)[k]? =some (E2 x):=fun k x hk=>by rw [List.getElem?_map,hk];rfl
 have k_consts:(p.consts.map Kst.row).length=p.consts.length:=List.length_map ..
 have z_consts:=eq_true (A9 Kst.row 5 (fun _=>rfl) p.consts)
 have r_consts: ∀(k:Nat) x,p.consts[k]? =some x→(p.consts.map Kst.row)[k]? =some (Kst.row x):=fun k x hk=>by rw [List.getElem?_map,hk];rfl
 have k_protos:(p.protos.map Fn.row).length=p.protos.length:=List.length_map ..
 have z_protos:=eq_true (A9 Fn.row 11 Fn.row_len p.protos)
 have r_protos: ∀(k:Nat) x,p.protos[k]? =some x→(p.protos.map Fn.row)[k]? =some (Fn.row x):=fun k x hk=>by rw [List.getElem?_map,hk];rfl
 have k_ups:(p.ups.map Upv.row).length=p.ups.length:=List.length_map ..
 have z_ups:=eq_true (A9 Upv.row 3 (fun _=>rfl) p.ups)
 have r_ups: ∀(k:Nat) x,p.ups[k]? =some x→(p.ups.map Upv.row)[k]? =some (Upv.row x):=fun k x hk=>by rw [List.getElem?_map,hk];rfl
 have k_vars:(p.vars.map Vr.row).length=p.vars.length:=List.length_map ..
 have z_vars:=eq_true (A9 Vr.row 5 (fun _=>rfl) p.vars)
 have r_vars: ∀(k:Nat) x,p.vars[k]? =some x→(p.vars.map Vr.row)[k]? =some (Vr.row x):=fun k x hk=>by rw [List.getElem?_map,hk];rfl
 generalize hl:decide (A6Y p≠0)=z
 simp only [A6Y,C4p]at hl
 generalize p.code.map Ins.row=rcode at*
 generalize p.lines.map E2=rlines at*
 generalize p.consts.map Kst.row=rconsts at*
 generalize p.protos.map Fn.row=rprotos at*
 generalize p.ups.map Upv.row=rups at*
 generalize p.vars.map Vr.row=rvars at*
 generalize p.row=pr at*
 refine Pure.of 0 (A2.enter Y7 (Nat.le_of_ble_eq_true rfl) (Run.go 100 ?_))
 by_cases l0:p.code.length≤16384
 case neg=>
  obtain rfl:z=true:=hl ▸ decide_eq_true (fun h=>l0 h.1)
  have z0:((16384:Int)<(p.code.length:Int))=True:=eq_true (by omega)
  simp -implicitDefEqProofs only [go_sem,A4,h1,h2,g0,g1,g2,g3,g4,g5,g6,g7,g8,g9,g10,k_code,k_lines,k_consts,k_protos,k_ups,k_vars,z0]
 have z0:((16384:Int)<(p.code.length:Int))=False:=eq_false (by omega)
 by_cases l1:p.consts.length≤4096
 case neg=>
  obtain rfl:z=true:=hl ▸ decide_eq_true (fun h=>l1 h.2.1)
  have z1:((4096:Int)<(p.consts.length:Int))=True:=eq_true (by omega)
  simp -implicitDefEqProofs only [go_sem,A4,h1,h2,g0,g1,g2,g3,g4,g5,g6,g7,g8,g9,g10,k_code,k_lines,k_consts,k_protos,k_ups,k_vars,z0,z1]
 have z1:((4096:Int)<(p.consts.length:Int))=False:=eq_false (by omega)
 by_cases l2:p.protos.length≤1024
 case neg=>
  obtain rfl:z=true:=hl ▸ decide_eq_true (fun h=>l2 h.2.2.1)
  have z2:((1024:Int)<(p.protos.length:Int))=True:=eq_true (by omega)
  simp -implicitDefEqProofs only [go_sem,A4,h1,h2,g0,g1,g2,g3,g4,g5,g6,g7,g8,g9,g10,k_code,k_lines,k_consts,k_protos,k_ups,k_vars,z0,z1,z2]
 have z2:((1024:Int)<(p.protos.length:Int))=False:=eq_false (by omega)
 by_cases l3:p.ups.length≤60
 case neg=>
  obtain rfl:z=true:=hl ▸ decide_eq_true (fun h=>l3 h.2.2.2.1)
  have z3:((60:Int)<(p.ups.length:Int))=True:=eq_true (by omega)
  simp -implicitDefEqProofs only [go_sem,A4,h1,h2,g0,g1,g2,g3,g4,g5,g6,g7,g8,g9,g10,k_code,k_lines,k_consts,k_protos,k_ups,k_vars,z0,z1,z2,z3]
 have z3:((60:Int)<(p.ups.length:Int))=False:=eq_false (by omega)
 by_cases l4:p.vars.length≤16384
 case neg=>
  obtain rfl:z=true:=hl ▸ decide_eq_true (fun h=>l4 h.2.2.2.2.1)
  have z4:((16384:Int)<(p.vars.length:Int))=True:=eq_true (by omega)
  simp -implicitDefEqProofs only [go_sem,A4,h1,h2,g0,g1,g2,g3,g4,g5,g6,g7,g8,g9,g10,k_code,k_lines,k_consts,k_protos,k_ups,k_vars,z0,z1,z2,z3,z4]
 have z4:((16384:Int)<(p.vars.length:Int))=False:=eq_false (by omega)
 by_cases l5:p.regs≤4096
 case neg=>
  obtain rfl:z=true:=hl ▸ decide_eq_true (fun h=>l5 h.2.2.2.2.2.1)
  have z5:((4096:Int)<p.regs)=True:=eq_true (by omega)
  simp -implicitDefEqProofs only [go_sem,A4,h1,h2,g0,g1,g2,g3,g4,g5,g6,g7,g8,g9,g10,k_code,k_lines,k_consts,k_protos,k_ups,k_vars,z0,z1,z2,z3,z4,z5]
 have z5:((4096:Int)<p.regs)=False:=eq_false (by omega)
 by_cases l6:p.name.length≤4096
 case neg=>
  obtain rfl:z=true:=hl ▸ decide_eq_true (fun h=>l6 h.2.2.2.2.2.2.1)
  have z6:((4096:Int)<(p.name.length:Int))=True:=eq_true (by omega)
  simp -implicitDefEqProofs only [go_sem,A4,h1,h2,g0,g1,g2,g3,g4,g5,g6,g7,g8,g9,g10,k_code,k_lines,k_consts,k_protos,k_ups,k_vars,z0,z1,z2,z3,z4,z5,z6]
 have z6:((4096:Int)<(p.name.length:Int))=False:=eq_false (by omega)
 simp -implicitDefEqProofs only [go_sem,A4,h1,h2,g0,g1,g2,g3,g4,g5,g6,g7,g8,g9,g10,k_code,k_lines,k_consts,k_protos,k_ups,k_vars,z0,z1,z2,z3,z4,z5,z6]
 refine Run.keep [3,1] ?_
 refine Run.rounds (fun(x:Nat)=>⟨[(3,.int .i64 x),(1,.ptr (33*10000+1) 0 0 0)],[((33*10000+1),0,.rows 11 [pr])],1⟩) (fun x=>x≤p.vars.length∧(p.vars.take x).any (fun v=>decide (40<v.name.length))=false) (fun x=>p.vars.length-x) 0 (by simp -implicitDefEqProofs only [go_sem]) ⟨Nat.zero_le _,rfl⟩ ?_
 rintro k ⟨hk,hno⟩ ih
 refine Run.unf A2D (Run.go 100 ?_)
 by_cases hlt:k<p.vars.length
 ·have q0:((k:Int)<(p.vars.length:Int))=True:=eq_true (by omega)
  have q1:((0:Int)≤(k:Int))=True:=eq_true (by omega)
  obtain⟨x,hx⟩: ∃x,p.vars[k]? =some x:=⟨p.vars[k],by simp [hlt]⟩
  have hxr:=r_vars k x hx
  have hzk:((k+1:Nat):Int)=(k:Int)+1:=by omega
  by_cases c:40<x.name.length
  ·obtain rfl:z=true:=hl ▸ decide_eq_true (fun h=>by simp [H6 (f:=fun v=>decide (40<v.name.length)) hx (decide_eq_true c)]at h)
   have c1:((40:Int)<(x.name.length:Int))=True:=eq_true (by omega)
   simp -implicitDefEqProofs only [go_sem,q0,q1,h1,h2,g9,g10,k_vars,z_vars,hxr,Vr.row,c1,hlt,Option.some.injEq,forall_eq']
  ·have c1:((40:Int)<(x.name.length:Int))=False:=eq_false (by omega)
   simp -implicitDefEqProofs only [go_sem,q0,q1,h1,h2,g9,g10,k_vars,z_vars,hxr,Vr.row,c1,hlt,Option.some.injEq,forall_eq']
   refine⟨by omega,?_⟩
   exact ih _ (k+1) ⟨by omega,D0 hno hx (decide_eq_false c)⟩ (by omega) (by simp -implicitDefEqProofs only [go_sem,hzk])
 have e:k=p.vars.length:=by omega
 subst e
 have m_vars:=F6 hno
 clear ih hno hlt hk
 simp -implicitDefEqProofs only [go_sem,Int.lt_irrefl,h1,h2,g9,g10,k_vars]
 refine Run.keep [4,1] ?_
 refine Run.rounds (fun(x:Nat)=>⟨[(4,.int .i64 x),(1,.ptr (33*10000+1) 0 0 0)],[((33*10000+1),0,.rows 11 [pr])],1⟩) (fun x=>x≤p.ups.length∧(p.ups.take x).any (fun v=>decide (40<v.name.length))=false) (fun x=>p.ups.length-x) 0 (by simp -implicitDefEqProofs only [go_sem]) ⟨Nat.zero_le _,rfl⟩ ?_
 rintro k ⟨hk,hno⟩ ih
 refine Run.unf A2E (Run.go 100 ?_)
 by_cases hlt:k<p.ups.length
 ·have q0:((k:Int)<(p.ups.length:Int))=True:=eq_true (by omega)
  have q1:((0:Int)≤(k:Int))=True:=eq_true (by omega)
  obtain⟨x,hx⟩: ∃x,p.ups[k]? =some x:=⟨p.ups[k],by simp [hlt]⟩
  have hxr:=r_ups k x hx
  have hzk:((k+1:Nat):Int)=(k:Int)+1:=by omega
  by_cases c:40<x.name.length
  ·obtain rfl:z=true:=hl ▸ decide_eq_true (fun h=>by simp [H6 (f:=fun v=>decide (40<v.name.length)) hx (decide_eq_true c)]at h)
   have c1:((40:Int)<(x.name.length:Int))=True:=eq_true (by omega)
   simp -implicitDefEqProofs only [go_sem,q0,q1,h1,h2,g9,g10,k_ups,z_ups,hxr,Upv.row,c1,hlt,Option.some.injEq,forall_eq']
  ·have c1:((40:Int)<(x.name.length:Int))=False:=eq_false (by omega)
   simp -implicitDefEqProofs only [go_sem,q0,q1,h1,h2,g9,g10,k_ups,z_ups,hxr,Upv.row,c1,hlt,Option.some.injEq,forall_eq']
   refine⟨by omega,?_⟩
   exact ih _ (k+1) ⟨by omega,D0 hno hx (decide_eq_false c)⟩ (by omega) (by simp -implicitDefEqProofs only [go_sem,hzk])
 have e:k=p.ups.length:=by omega
 subst e
 have m_ups:=F6 hno
 clear ih hno hlt hk
 obtain rfl:z=false:=hl ▸ decide_eq_false (fun h=>h ⟨l0,l1,l2,l3,l4,l5,l6,m_ups,m_vars⟩)
 simp -implicitDefEqProofs only [go_sem,Int.lt_irrefl,h1,h2,g9,g10,k_ups]
theorem C2j{i:Ins}(h:chk i=0):(i.op=2→0≤i.b)∧(i.op=7→0≤i.b)∧(i.op=8→0≤i.a)∧(i.op=11→0≤i.c):=by
 unfold chk at h
 cases ho:S6 i.op with
 |false=>rw [ho]at h;simp at h
 |true=>
  obtain⟨op,a,b,c,d⟩:=i
  simp only at h ho⊢
  refine⟨?_,?_,?_,?_⟩<;>rintro rfl<;>simp [frm,B0Y,B6K,S6,A2V,A2z,low,high,B6W,B1F,A6f,mm2]at h<;>omega
theorem B1P(l:List Int)(hl:l.length≤1000000)(from_ regs:Int):Pure Tryz.prog 73 [.isl (l.map zrw),.int .i64 from_,.int .i64 regs] (.bool (P4 regs (l,from_))):=by
 have hrow: ∀(k:Nat) (x:Int),l[k]? =some x→(l.map zrw)[k]? =some [.int .i64 x]:=fun k x h=>W8 h
 have hlen:(l.map zrw).length=l.length:=List.length_map ..
 have hsz:=B5N l
 generalize hz:P4 regs (l,from_)=z
 simp only [P4]at hz
 generalize l.map zrw=es at*
 refine Pure.of 0 (A2.enter t6 (Nat.le_of_ble_eq_true rfl) (Run.go 100 ?_))
 simp -implicitDefEqProofs only [go_sem,A4]
 refine Run.keep [7,2,1,0] ?_
 refine Run.rounds (fun(x:Nat)=>⟨[(7,.int .i64 x),(2,.int .i64 regs),(1,.int .i64 from_),(0,.isl es)],[],0⟩) (fun x=>x≤l.length∧(l.take x).any (fun r=>decide (regs≤r))=false) (fun x=>l.length-x) 0 (by simp -implicitDefEqProofs only [go_sem]) ⟨Nat.zero_le _,rfl⟩ ?_
 rintro k ⟨hk,hno⟩ ih
 refine Run.unf A3m (Run.go 100 ?_)
 by_cases hlt:k<l.length
 ·have q0:((k:Int)<(l.length:Int))=True:=eq_true (by omega)
  have q1:((0:Int)≤(k:Int))=True:=eq_true (by omega)
  obtain⟨x,hx⟩: ∃x,l[k]? =some x:=⟨l[k],by simp [hlt]⟩
  have hxr:=hrow k x hx
  have hzk:((k+1:Nat):Int)=(k:Int)+1:=by omega
  by_cases c:regs≤x
  ·have ha:l.any (fun r=>decide (regs≤r))=true:=H6 (f:=fun r=>decide (regs≤r)) hx (decide_eq_true c)
   obtain rfl:z=false:=hz ▸ (by rw [ha];simp)
   simp -implicitDefEqProofs only [go_sem,q0,q1,hlen,hsz,hxr,c,hlt,ge_iff_le,Option.some.injEq,forall_eq']
  ·simp -implicitDefEqProofs only [go_sem,q0,q1,hlen,hsz,hxr,c,hlt,ge_iff_le,Option.some.injEq,forall_eq']
   refine⟨by omega,?_⟩
   exact ih _ (k+1) ⟨by omega,D0 hno hx (decide_eq_false c)⟩ (by omega) (by simp -implicitDefEqProofs only [go_sem,hzk])
 have e:k=l.length:=by omega
 subst e
 have m:=F6 hno
 rw [m]at hz
 simp -implicitDefEqProofs only [go_sem,Int.lt_irrefl,hlen]
 rw [←hz];simp
theorem B9d(p:Fn)(hp:p.bd)(k:Int)(h0:0≤k):Pure Tryz.prog 101 [.agg p.row,.int .i64 k] (.bool (decide (k<p.consts.length)&&A5M p.consts[k.toNat]?)):=by
 obtain⟨h1,h2⟩:=B5 p
 have hb:=hp.self
 have hiz:=hb.code
 have hlz:=hb.lines
 have hcz:=hb.consts
 have hpz:=hb.protos
 have huz:=hb.ups
 have hvz:=hb.vars
 have g0:p.row[0]? =some (.str p.name):=by rw [Fn.row_eq];rfl
 have g1:p.row[1]? =some (.int .i64 p.line):=by rw [Fn.row_eq];rfl
 have g2:p.row[2]? =some (.int .i64 p.params):=by rw [Fn.row_eq];rfl
 have g3:p.row[3]? =some (.bool p.vararg):=by rw [Fn.row_eq];rfl
 have g4:p.row[4]? =some (.int .i64 p.regs):=by rw [Fn.row_eq];rfl
 have g5:p.row[5]? =some (.isl (p.code.map Ins.row)):=by rw [Fn.row_eq];rfl
 have g6:p.row[6]? =some (.isl (p.lines.map E2)):=by rw [Fn.row_eq];rfl
 have g7:p.row[7]? =some (.isl (p.consts.map Kst.row)):=by rw [Fn.row_eq];rfl
 have g8:p.row[8]? =some (.isl (p.protos.map Fn.row)):=by rw [Fn.row_eq];rfl
 have g9:p.row[9]? =some (.isl (p.ups.map Upv.row)):=by rw [Fn.row_eq];rfl
 have g10:p.row[10]? =some (.isl (p.vars.map Vr.row)):=by rw [Fn.row_eq];rfl
 have k_code:(p.code.map Ins.row).length=p.code.length:=List.length_map ..
 have z_code:=eq_true (A9 Ins.row 5 (fun _=>rfl) p.code)
 have r_code: ∀(k:Nat) x,p.code[k]? =some x→(p.code.map Ins.row)[k]? =some (Ins.row x):=fun k x hk=>by rw [List.getElem?_map,hk];rfl
 have k_lines:(p.lines.map E2).length=p.lines.length:=List.length_map ..
 have z_lines:=eq_true (A9 E2 1 (fun _=>rfl) p.lines)
 have r_lines: ∀(k:Nat) x,p.lines[k]? =some x→(p.lines.map E2)[k]? =some (E2 x):=fun k x hk=>by rw [List.getElem?_map,hk];rfl
 have k_consts:(p.consts.map Kst.row).length=p.consts.length:=List.length_map ..
 have z_consts:=eq_true (A9 Kst.row 5 (fun _=>rfl) p.consts)
 have r_consts: ∀(k:Nat) x,p.consts[k]? =some x→(p.consts.map Kst.row)[k]? =some (Kst.row x):=fun k x hk=>by rw [List.getElem?_map,hk];rfl
 have k_protos:(p.protos.map Fn.row).length=p.protos.length:=List.length_map ..
 have z_protos:=eq_true (A9 Fn.row 11 Fn.row_len p.protos)
 have r_protos: ∀(k:Nat) x,p.protos[k]? =some x→(p.protos.map Fn.row)[k]? =some (Fn.row x):=fun k x hk=>by rw [List.getElem?_map,hk];rfl
 have k_ups:(p.ups.map Upv.row).length=p.ups.length:=List.length_map ..
 have z_ups:=eq_true (A9 Upv.row 3 (fun _=>rfl) p.ups)
 have r_ups: ∀(k:Nat) x,p.ups[k]? =some x→(p.ups.map Upv.row)[k]? =some (Upv.row x):=fun k x hk=>by rw [List.getElem?_map,hk];rfl
 have k_vars:(p.vars.map Vr.row).length=p.vars.length:=List.length_map ..
 have z_vars:=eq_true (A9 Vr.row 5 (fun _=>rfl) p.vars)
 have r_vars: ∀(k:Nat) x,p.vars[k]? =some x→(p.vars.map Vr.row)[k]? =some (Vr.row x):=fun k x hk=>by rw [List.getElem?_map,hk];rfl
 generalize p.code.map Ins.row=rcode at*
 generalize p.lines.map E2=rlines at*
 generalize p.consts.map Kst.row=rconsts at*
 generalize p.protos.map Fn.row=rprotos at*
 generalize p.ups.map Upv.row=rups at*
 generalize p.vars.map Vr.row=rvars at*
 generalize p.row=pr at*
 refine Pure.of 0 (A2.enter A0X (Nat.le_of_ble_eq_true rfl) (Run.go 100 ?_))
 by_cases c:k<(p.consts.length:Int)
 ·obtain⟨x,hx⟩: ∃x,p.consts[k.toNat]? =some x:=⟨p.consts[k.toNat]'(by omega),by simp⟩
  have hxr:=r_consts _ x hx
  have e:(decide (k<(p.consts.length:Int))&&A5M p.consts[k.toNat]?)=decide (x.kind=3):=by rw [hx,decide_eq_true c];rfl
  rw [e]
  simp -implicitDefEqProofs only [go_sem,A4,h1,h2,g7,k_consts,z_consts,hxr,Kst.row,c,h0,Option.some.injEq,forall_eq']
  omega
 ·have e:(decide (k<(p.consts.length:Int))&&A5M p.consts[k.toNat]?)=false:=by rw [decide_eq_false c];rfl
  rw [e]
  simp -implicitDefEqProofs only [go_sem,A4,h1,h2,g7,k_consts,c]
theorem B3U{p:Fn}{i:Ins}(h:(D9 i).2=true)(h0:0≤(D9 i).1)(h5: ¬(i.op=5∨i.op=6∨i.op=22∨i.op=19)):U1 p i=(decide ((D9 i).1<p.consts.length)&&A5M p.consts[(D9 i).1.toNat]?):=by
 unfold U1
 have a1: ¬i.op=5:=fun h=>h5 (.inl h)
 have a2: ¬i.op=6:=fun h=>h5 (.inr (.inl h))
 have a3: ¬i.op=22:=fun h=>h5 (.inr (.inr (.inl h)))
 have a4: ¬i.op=19:=fun h=>h5 (.inr (.inr (.inr h)))
 rw [if_neg a1,if_neg a2,if_neg a3,if_neg a4,h]
 by_cases c:(p.consts.length:Int)≤(D9 i).1
 ·rw [if_pos c,decide_eq_false (by omega)];rfl
 ·rw [if_neg c,decide_eq_true (by omega:(D9 i).1<(p.consts.length:Int))]
  cases A5M p.consts[(D9 i).1.toNat]? <;>simp [h0]
theorem B5P(p:Fn)(hp:p.bd)(i:Ins)(hc:chk i=0):Pure Tryz.prog 75 [.agg p.row,i.v] (.bool (U1 p i)):=by
 obtain⟨c2,c7,c8,c11⟩:=C2j hc
 have ht:=B9d p hp
 have hps:=Fn.row_sub H0 p
 obtain⟨h1,h2⟩:=B5 p
 have hb:=hp.self
 have hiz:=hb.code
 have hlz:=hb.lines
 have hcz:=hb.consts
 have hpz:=hb.protos
 have huz:=hb.ups
 have hvz:=hb.vars
 have g0:p.row[0]? =some (.str p.name):=by rw [Fn.row_eq];rfl
 have g1:p.row[1]? =some (.int .i64 p.line):=by rw [Fn.row_eq];rfl
 have g2:p.row[2]? =some (.int .i64 p.params):=by rw [Fn.row_eq];rfl
 have g3:p.row[3]? =some (.bool p.vararg):=by rw [Fn.row_eq];rfl
 have g4:p.row[4]? =some (.int .i64 p.regs):=by rw [Fn.row_eq];rfl
 have g5:p.row[5]? =some (.isl (p.code.map Ins.row)):=by rw [Fn.row_eq];rfl
 have g6:p.row[6]? =some (.isl (p.lines.map E2)):=by rw [Fn.row_eq];rfl
 have g7:p.row[7]? =some (.isl (p.consts.map Kst.row)):=by rw [Fn.row_eq];rfl
 have g8:p.row[8]? =some (.isl (p.protos.map Fn.row)):=by rw [Fn.row_eq];rfl
 have g9:p.row[9]? =some (.isl (p.ups.map Upv.row)):=by rw [Fn.row_eq];rfl
 have g10:p.row[10]? =some (.isl (p.vars.map Vr.row)):=by rw [Fn.row_eq];rfl
 have k_code:(p.code.map Ins.row).length=p.code.length:=List.length_map ..
 have z_code:=eq_true (A9 Ins.row 5 (fun _=>rfl) p.code)
 have r_code: ∀(k:Nat) x,p.code[k]? =some x→(p.code.map Ins.row)[k]? =some (Ins.row x):=fun k x hk=>by rw [List.getElem?_map,hk];rfl
 have k_lines:(p.lines.map E2).length=p.lines.length:=List.length_map ..
 have z_lines:=eq_true (A9 E2 1 (fun _=>rfl) p.lines)
 have r_lines: ∀(k:Nat) x,p.lines[k]? =some x→(p.lines.map E2)[k]? =some (E2 x):=fun k x hk=>by rw [List.getElem?_map,hk];rfl
 have k_consts:(p.consts.map Kst.row).length=p.consts.length:=List.length_map ..
 have z_consts:=eq_true (A9 Kst.row 5 (fun _=>rfl) p.consts)
 have r_consts: ∀(k:Nat) x,p.consts[k]? =some x→(p.consts.map Kst.row)[k]? =some (Kst.row x):=fun k x hk=>by rw [List.getElem?_map,hk];rfl
 have k_protos:(p.protos.map Fn.row).length=p.protos.length:=List.length_map ..
 have z_protos:=eq_true (A9 Fn.row 11 Fn.row_len p.protos)
 have r_protos: ∀(k:Nat) x,p.protos[k]? =some x→(p.protos.map Fn.row)[k]? =some (Fn.row x):=fun k x hk=>by rw [List.getElem?_map,hk];rfl
 have k_ups:(p.ups.map Upv.row).length=p.ups.length:=List.length_map ..
 have z_ups:=eq_true (A9 Upv.row 3 (fun _=>rfl) p.ups)
 have r_ups: ∀(k:Nat) x,p.ups[k]? =some x→(p.ups.map Upv.row)[k]? =some (Upv.row x):=fun k x hk=>by rw [List.getElem?_map,hk];rfl
 have k_vars:(p.vars.map Vr.row).length=p.vars.length:=List.length_map ..
 have z_vars:=eq_true (A9 Vr.row 5 (fun _=>rfl) p.vars)
 have r_vars: ∀(k:Nat) x,p.vars[k]? =some x→(p.vars.map Vr.row)[k]? =some (Vr.row x):=fun k x hk=>by rw [List.getElem?_map,hk];rfl
 obtain⟨op,a,b,c,d⟩:=i
 have hk:=fun x=>B3U (p:=p) (i:=⟨op,a,b,c,d⟩) (h:=x)
 generalize hz:U1 p ⟨op,a,b,c,d⟩=z at*
 simp only [U1]at hz
 simp only [Ins.v,Ins.row]at*
 generalize p.code.map Ins.row=rcode at*
 generalize p.lines.map E2=rlines at*
 generalize p.consts.map Kst.row=rconsts at*
 generalize p.protos.map Fn.row=rprotos at*
 generalize p.ups.map Upv.row=rups at*
 generalize p.vars.map Vr.row=rvars at*
 generalize p.row=pr at*
 refine Pure.of 0 (A2.enter Y8 (Nat.le_of_ble_eq_true rfl) (Run.go 100 ?_))
 by_cases e2:op=2
 ·subst e2
  have:=c2 rfl
  simp -implicitDefEqProofs only [go_sem,A4,h1,h2,g7,k_consts]
  rw [←hz]
  by_cases d:b<(p.consts.length:Int)
  ·simp [D9,d,show¬(p.consts.length:Int)≤b by omega]
  ·simp [D9,d,show (p.consts.length:Int)≤b by omega]
 by_cases e5:op=5
 ·subst e5
  simp -implicitDefEqProofs only [go_sem,A4,h1,h2,g9,k_ups]
  rw [←hz]
  simp [D9,show¬(p.consts.length:Int)≤ -1 by omega]
 by_cases e6:op=6
 ·subst e6
  simp -implicitDefEqProofs only [go_sem,A4,h1,h2,g9,k_ups]
  rw [←hz]
  simp [D9,show¬(p.consts.length:Int)≤ -1 by omega]
 by_cases e7:op=7
 ·subst e7
  have hv:=ht b (c7 rfl)
  have:=hk (by simp [D9]) (by simpa [D9]using c7 rfl) (by simp)
  simp only [D9]at this
  simp -implicitDefEqProofs only [go_sem,A4,h1,h2]
  refine A2.pureF hv (by simp -implicitDefEqProofs only [go_sem,hps]) ?_
  simp -implicitDefEqProofs only [go_sem,this]
 by_cases e8:op=8
 ·subst e8
  have hv:=ht a (c8 rfl)
  have:=hk (by simp [D9]) (by simpa [D9]using c8 rfl) (by simp)
  simp only [D9]at this
  simp -implicitDefEqProofs only [go_sem,A4,h1,h2]
  refine A2.pureF hv (by simp -implicitDefEqProofs only [go_sem,hps]) ?_
  simp -implicitDefEqProofs only [go_sem,this]
 by_cases e11:op=11
 ·subst e11
  have hv:=ht c (c11 rfl)
  have:=hk (by simp [D9]) (by simpa [D9]using c11 rfl) (by simp)
  simp only [D9]at this
  simp -implicitDefEqProofs only [go_sem,A4,h1,h2]
  refine A2.pureF hv (by simp -implicitDefEqProofs only [go_sem,hps]) ?_
  simp -implicitDefEqProofs only [go_sem,this]
 by_cases e22:op=22
 ·subst e22
  simp -implicitDefEqProofs only [go_sem,A4,h1,h2,g8,k_protos]
  rw [←hz]
  simp [D9,show¬(p.consts.length:Int)≤ -1 by omega]
 by_cases e19:op=19
 ·subst e19
  simp -implicitDefEqProofs only [go_sem,A4,h1,h2,g3]
  rw [←hz]
  simp [D9,show¬(p.consts.length:Int)≤ -1 by omega]
 simp -implicitDefEqProofs only [go_sem,A4,h1,h2,e2,e5,e6,e7,e8,e11,e22,e19]
 rw [←hz]
 simp [D9,show¬(p.consts.length:Int)≤ -1 by omega,e2,e5,e6,e7,e8,e11,e22,e19]
theorem C1i(a b:Nat):Pure Tryz.prog 113 [.int .i64 a,.int .i64 b] (.int .i64 (Nat.gcd a b)):=by
 refine Pure.of 0 (A2.enter A1o (Nat.le_of_ble_eq_true rfl) (Run.go 100 ?_))
 simp -implicitDefEqProofs only [go_sem,A4]
 refine Run.rounds (fun(x:Nat×Nat)=>⟨[(1,.int .i64 x.2),(0,.int .i64 x.1)],[],0⟩) (fun x=>Nat.gcd x.1 x.2=Nat.gcd a b) (fun x=>x.2) (a,b) (by simp -implicitDefEqProofs only [go_sem]) rfl ?_
 rintro⟨x,y⟩ hg ih
 simp only at hg ih⊢
 refine Run.unf A4n (Run.go 100 ?_)
 by_cases h0:y=0
 ·subst h0
  rw [Nat.gcd_zero_right]at hg
  simp -implicitDefEqProofs only [go_sem,hg]
 ·have q0:((y:Int)=0)=False:=eq_false (by omega)
  have q1:(x:Int).tmod (y:Int)=((x%y:Nat):Int):=(Int.ofNat_tmod x y).symm
  simp -implicitDefEqProofs only [go_sem,q0,q1]
  refine ih _ (y,x%y) ?_ (Nat.mod_lt _ (by omega)) (by simp -implicitDefEqProofs only [go_sem])
  simp only
  rw [←hg,Nat.gcd_comm x y,Nat.gcd_rec y x,Nat.gcd_comm]
theorem C1a(z:Int)(h: -2147483647≤z):Pure Tryz.prog 114 [.int .i64 z] (.int .i64 z.natAbs):=by
 refine Pure.of 0 (A2.enter A1m (Nat.le_of_ble_eq_true rfl) (Run.go 100 ?_))
 by_cases c:z<0
 ·have e:((z.natAbs:Nat):Int)=0-z:=by omega
  have e2:((z.natAbs:Nat):Int)= -z:=by omega
  simp -implicitDefEqProofs only [go_sem,A4,c]
  omega
 ·have e:((z.natAbs:Nat):Int)=z:=by omega
  simp -implicitDefEqProofs only [go_sem,A4,c,e]
theorem B9g(p q:Int):Pure Tryz.prog 94 [.agg [.int .i64 p,.int .i64 q]] (.bool (R2 p q)):=by
 refine Pure.of 0 (A2.enter n6 (Nat.le_of_ble_eq_true rfl) (Run.go 100 ?_))
 by_cases h1:1≤q
 case neg=>
  have:R2 p q=false:=by simp [R2,h1]
  simp -implicitDefEqProofs only [go_sem,A4,h1,this,ge_iff_le]
 by_cases h2:q≤2147483647
 case neg=>
  have:R2 p q=false:=by simp [R2,h2]
  simp -implicitDefEqProofs only [go_sem,A4,h1,h2,this,ge_iff_le]
 by_cases h4:p≤2147483647
 case neg=>
  have:R2 p q=false:=by simp [R2,h4]
  simp -implicitDefEqProofs only [go_sem,A4,h1,h2,h4,this,ge_iff_le]
 by_cases h3: -2147483647≤p
 case neg=>
  have:R2 p q=false:=by simp [R2,h3]
  simp -implicitDefEqProofs only [go_sem,A4,h1,h2,h3,h4,this,ge_iff_le]
 have hnum:R2 p q=decide (Int.gcd p q=1):=by simp [R2,h1,h2,h3,h4]
 have ha:=C1a p h3
 have hg:=C1i p.natAbs q.natAbs
 have e1:((q.natAbs:Nat):Int)=q:=by omega
 have e3:Nat.gcd p.natAbs q.natAbs=Int.gcd p q:=rfl
 rw [e1,e3]at hg
 have e4:(((p.gcd q:Nat):Int)=1)=(p.gcd q=1):=propext (by omega)
 simp -implicitDefEqProofs only [go_sem,A4,h1,h2,h3,h4,ge_iff_le]
 repeat' first|refine And.intro ?_ ?_|(refine A2.pureF ha (by simp -implicitDefEqProofs only [go_sem]) ?_;simp -implicitDefEqProofs only [go_sem];refine A2.pureF hg (by simp -implicitDefEqProofs only [go_sem]) ?_;simp -implicitDefEqProofs only [go_sem,hnum,e3,e4];done)|(refine A2.pureF ha (by simp -implicitDefEqProofs only [go_sem]) ?_;simp -implicitDefEqProofs only [go_sem])
theorem C1s(v:Kst): ∃b,(v.kind≤3→b=U0 v)∧Pure Tryz.prog 69 [.agg v.row] (.bool b):=by
 obtain⟨kind,p,q,str,ref⟩:=v
 have hn:=B9g p q
 simp only
 by_cases k0:kind=0
 ·subst k0
  refine⟨_,fun _=>rfl,Pure.of 0 (A2.enter C8 (Nat.le_of_ble_eq_true rfl) (Run.go 100 ?_))⟩
  simp -implicitDefEqProofs only [go_sem,A4,Kst.row,U0]
  simp only [Bool.and_assoc]
 by_cases k1:kind=1
 ·subst k1
  refine⟨_,fun _=>rfl,Pure.of 0 (A2.enter C8 (Nat.le_of_ble_eq_true rfl) (Run.go 100 ?_))⟩
  simp -implicitDefEqProofs only [go_sem,A4,Kst.row,U0]
  by_cases r0:ref=0<;>by_cases r1:ref=1<;>simp [r0,r1,Bool.and_assoc]
 by_cases k2:kind=2
 ·subst k2
  refine⟨_,fun _=>rfl,Pure.of 0 (A2.enter C8 (Nat.le_of_ble_eq_true rfl) (Run.go 100 ?_))⟩
  simp -implicitDefEqProofs only [go_sem,A4,Kst.row,U0]
  cases(decide (str= [])&&decide (ref=0))
  ·exact⟨fun h=>absurd h (by decide),fun _=>(Bool.and_false _).symm⟩
  ·refine⟨fun _=> ?_,fun h=>absurd h (by decide)⟩
   refine A2.pureF hn (by simp -implicitDefEqProofs only [go_sem]) ?_
   simp -implicitDefEqProofs only [go_sem,Bool.and_true]
 by_cases k3:kind=3
 ·subst k3
  refine⟨_,fun _=>rfl,Pure.of 0 (A2.enter C8 (Nat.le_of_ble_eq_true rfl) (Run.go 100 ?_))⟩
  simp -implicitDefEqProofs only [go_sem,A4,Kst.row,U0]
  by_cases r0:(str.length:Int)≤4096
  ·have r1:str.length≤4096:=by omega
   simp [r0,r1,Bool.and_assoc]
  ·have r1: ¬str.length≤4096:=by omega
   simp [r0,r1]
 by_cases k6:kind=6
 ·subst k6
  refine⟨decide (1≤str.length)&&(decide (str.length≤4096)&&(decide (p=0)&&(decide (q=0)&&decide (ref=0)))),fun h=>absurd h (by omega),Pure.of 0 (A2.enter C8 (Nat.le_of_ble_eq_true rfl) (Run.go 100 ?_))⟩
  simp -implicitDefEqProofs only [go_sem,A4,Kst.row,ge_iff_le]
  by_cases s0:(1:Int)≤(str.length:Int)
  ·have s1:1≤str.length:=by omega
   by_cases r0:(str.length:Int)≤4096
   ·have r1:str.length≤4096:=by omega
    simp [s0,s1,r0,r1,Bool.and_assoc]
   ·have r1: ¬str.length≤4096:=by omega
    simp [s0,s1,r0,r1]
  ·have s1: ¬1≤str.length:=by omega
   simp [s0,s1]
 have hx: ∀z:Int,z=4∨z=5∨z=7∨z=8→Pure Tryz.prog 69 [.agg (Kst.row ⟨z,p,q,str,ref⟩)] (.bool (decide (p=0)&&(decide (q=0)&&(decide (str= [])&&decide (1≤ref))))):=by
  rintro z (rfl|rfl|rfl|rfl)<;>
  (refine Pure.of 0 (A2.enter C8 (Nat.le_of_ble_eq_true rfl) (Run.go 100 ?_))
   simp -implicitDefEqProofs only [go_sem,A4,Kst.row,ge_iff_le]
   by_cases a:p=0<;>by_cases b:q=0<;>by_cases c:str= []<;>simp [a,b,c])
 by_cases k4:kind=4∨kind=5∨kind=7∨kind=8
 ·exact⟨_,fun h=>absurd h (by omega),hx kind k4⟩
 have e4:(kind=4)=False:=eq_false (by omega)
 have e5:(kind=5)=False:=eq_false (by omega)
 have e7:(kind=7)=False:=eq_false (by omega)
 have e8:(kind=8)=False:=eq_false (by omega)
 refine⟨false,fun _=>by simp [U0,k0,k1,k2,k3],Pure.of 0 (A2.enter C8 (Nat.le_of_ble_eq_true rfl) (Run.go 100 ?_))⟩
 simp -implicitDefEqProofs only [go_sem,A4,Kst.row,k0,k1,k2,k3,k6,e4,e5,e7,e8]
end Go.Proofs.YtnihmhbcjpcobaaGreatDoor
