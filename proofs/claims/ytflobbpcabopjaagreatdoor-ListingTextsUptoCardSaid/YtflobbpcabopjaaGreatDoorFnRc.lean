/-
 The reference's Depth, limits, and what an instruction refers to. No condition.
-/
import Derived.Test.YtflobbpcabopjaaGreatDoorCodeR
import Derived.Test.YtflobbpcabopjaaGreatDoorFnMb
import Derived.Test.YtflobbpcabopjaaGreatDoorFnMa
import Derived.Test.YtflobbpcabopjaaGreatDoorFnR3
import Derived.Test.YtflobbpcabopjaaGreatDoorRrM
set_option linter.unusedVariables false
set_option linter.unusedSimpArgs false
set_option maxRecDepth 100000
set_option maxHeartbeats 0
namespace Go.Proofs.YtflobbpcabopjaaGreatDoor
open Go.Abs
attribute [local irreducible] A0 Run G9
def H0:List Fn→List Fn
 | []=> []
 |p::r=>p.protos++H0 r
theorem A6k: ∀(l m:List Fn),H0 (l++m)=H0 l++H0 m
 | [],m=>rfl
 |p::r,m=>by rw [List.cons_append,H0,H0,A6k r m,List.append_assoc]
theorem C0L{l:List Fn}{k:Nat}{q:Fn}(h:l[k]? =some q):H0 (l.take (k+1))=H0 (l.take k)++q.protos:=by
 rw [List.take_add_one,h,A6k];simp [H0]
theorem B6S: ∀l:List Fn,(Fn.eachs (H0 l)).length+l.length=(Fn.eachs l).length
 | []=>rfl
 |p::r=>by
  have:=B6S r
  rw [H0,Fn.eachs_append,Fn.eachs,Fn.each_eq]
  simp only [List.length_append,List.length_cons]
  omega
theorem B5e: ∀(l m:List Fn),Fn.depths (l++m)=max (Fn.depths l) (Fn.depths m)
 | [],m=>by simp [Fn.depths]
 |p::r,m=>by rw [List.cons_append,Fn.depths,Fn.depths,B5e r m,Nat.max_assoc]
theorem B3O: ∀l:List Fn,Fn.depths (H0 l)=Fn.depths l-1
 | []=>rfl
 |p::r=>by
  rw [H0,B5e,B3O r,Fn.depths,Fn.depth_eq]
  omega
theorem C0s{l:List Fn}(h:l≠ []):0<Fn.depths l:=by
 cases l with
 |nil=>exact absurd rfl h
 |cons p r=>rw [Fn.depths,Fn.depth_eq];omega
theorem C3k{p:Fn}{l:List Fn}(h: ∀q∈l,q∈p.each): ∀q∈H0 l,q∈p.each:=by
 induction l with
 |nil=>intro q hq;cases hq
 |cons a r ih=>
  intro q hq
  rw [H0]at hq
  rcases List.mem_append.1 hq with hq|hq
  ·exact Fn.child_mem (h a List.mem_cons_self) hq
  ·exact ih (fun x hx=>h x (List.mem_cons_of_mem _ hx)) q hq
theorem B9F(p:Fn)(hp:p.bd)(hc:p.each.length≤1000000):Pure Tryz.prog 55 [.agg p.row] (.int .i64 (min p.depth 65:Nat)):=by
 obtain⟨h1,h2⟩:=B5 p
 refine Pure.of 0 (A0.enter A5J (Nat.le_of_ble_eq_true rfl) (Run.go 100 ?_))
 have hpr: [p.row]= [p].map Fn.row:=rfl
 generalize hpr':p.row=pr at*
 simp -implicitDefEqProofs only [go_sem,A3,h1,h2]
 rw [hpr]
 refine Run.roundsK (fun(x:List Fn×Nat×Nat×Nat)=>⟨[(4,.int .i64 x.2.1),(3,.sl (55*10000+3) x.2.2.1 0 x.1.length)],
   [((55*10000+3),x.2.2.1,.rows 11 (x.1.map Fn.row))],x.2.2.2⟩)
  (fun x=>x.2.1≤65∧x.2.1+Fn.depths x.1=p.depth∧(∀q∈x.1,q∈p.each)∧(Fn.eachs x.1).length≤p.each.length) (fun x=>65-x.2.1) ([p],0,1,2) ?_ ⟨Nat.zero_le _,by simp [Fn.depths],fun q hq=>by rw [List.mem_singleton.1 hq];exact p.self_mem,by simp [Fn.eachs]⟩ ?_
 ·exact .turn (fun b=>if b=(55*10000+8)then(55*10000+3)else b) ⟨.refl _,.sl,trivial⟩ (.at 0 rfl rfl (.refl _) trivial)
 rintro⟨l,c,st,n⟩ ⟨hc65,hdl,hmem,hlen⟩ ih
 simp only at hc65 hdl hmem hlen ih⊢
 have hml:(l.map Fn.row).length=l.length:=List.length_map ..
 have hll:=Fn.eachs_len l
 have hkl:=B6S l
 have hkk:=Fn.eachs_len (H0 l)
 have hdk:=B3O l
 have hkm:=C3k hmem
 refine Run.unf A2R (Run.go 100 ?_)
 by_cases hl:l= []
 ·have hd0:Fn.depths l=0:=by rw [hl];rfl
  have q0:((0:Int)<(l.length:Int))=False:=eq_false (by rw [hl];simp)
  have e:min p.depth 65=c:=by omega
  simp -implicitDefEqProofs only [go_sem,q0,e]
 have hdp:=C0s hl
 have hlp:0<l.length:=List.length_pos_iff.2 hl
 have q0:((0:Int)<(l.length:Int))=True:=eq_true (by omega)
 by_cases hc64:c≤64
 case neg=>
  have q1:((c:Int)≤64)=False:=eq_false (by omega)
  have e:min p.depth 65=c:=by omega
  simp -implicitDefEqProofs only [go_sem,q0,q1,e]
 have q1:((c:Int)≤64)=True:=eq_true (by omega)
 have hrz:=eq_true (A7 Fn.row 11 Fn.row_len l)
 have hrow: ∀(k:Nat) q,l[k]? =some q→(l.map Fn.row)[k]? =some q.row:=fun k q hk=>by rw [List.getElem?_map,hk];rfl
 generalize l.map Fn.row=es at*
 simp -implicitDefEqProofs only [go_sem,q0,q1]
 refine Run.roundsK (fun(x:Nat×Nat×Nat)=>⟨[(6,.int .i64 x.1),(5,.sl (55*10000+28) x.2.1 0 (H0 (l.take x.1)).length),(4,.int .i64 c),(3,.sl (55*10000+3) st 0 l.length)],[((55*10000+28),x.2.1,.rows 11 ((H0 (l.take x.1)).map Fn.row)),((55*10000+3),st,.rows 11 es)],x.2.2⟩) (fun x=>x.1≤l.length) (fun x=>l.length-x.1) (0,n,n+1) ?_ (Nat.zero_le _) ?_
 ·refine .trans (.fresh (55*10000+28) 11 _ _ _) (.turn id ⟨.refl _,.nils,.refl _,.refl _,trivial⟩ (.at 0 rfl rfl (.refl _) (.at 1 rfl rfl (.refl _) trivial)))
 rintro⟨k,s2,m⟩ hk ih2
 simp only at hk ih2⊢
 refine Run.unf A2S (Run.go 100 ?_)
 by_cases hlt:k<l.length
 ·have z0:((k:Int)<(l.length:Int))=True:=eq_true (by omega)
  have z1:((0:Int)≤(k:Int))=True:=eq_true (by omega)
  obtain⟨q,hq⟩: ∃q,l[k]? =some q:=⟨l[k],by simp [hlt]⟩
  have hqr:=hrow k q hq
  have hkt:=C0L hq
  have hktl:(H0 (l.take k)).length+q.protos.length≤1000000:=by
   have a1:H0 l=H0 (l.take k)++(q.protos++H0 (l.drop (k+1))):=by
    rw [←List.append_assoc,←hkt,←A6k,List.take_append_drop]
   have a2:=congrArg List.length a1
   simp only [List.length_append]at a2
   omega
  obtain⟨g1,g2⟩:=B5 q
  have g8:q.row[8]? =some (.isl (q.protos.map Fn.row)):=by rw [q.row_eq];rfl
  have hpl:(q.protos.map Fn.row).length=q.protos.length:=List.length_map ..
  have hol:((H0 (l.take k)).map Fn.row).length=(H0 (l.take k)).length:=List.length_map ..
  have hotk:((H0 (l.take k)).map Fn.row).take (H0 (l.take k)).length=(H0 (l.take k)).map Fn.row:=List.take_of_length_le (by omega)
  have hrq:=eq_true (A7 Fn.row 11 Fn.row_len q.protos)
  have hzk:((k+1:Nat):Int)=(k:Int)+1:=by omega
  have hnew:(H0 (l.take (k+1))).map Fn.row=(H0 (l.take k)).map Fn.row++q.protos.map Fn.row:=by rw [hkt,List.map_append]
  have hnl:(H0 (l.take (k+1))).length=(H0 (l.take k)).length+q.protos.length:=by rw [hkt,List.length_append]
  have hap:((H0 (l.take k)).length+q.protos.length≤137438953472)=True:=eq_true (by omega)
  have ihx:=fun s (a b:Nat) h=>ih2 s (k+1,a,b) (by simp only;omega) (by simp only;omega) h
  clear ih2 ih
  simp only [hnew,hnl]at ihx
  generalize (H0 (l.take k)).map Fn.row=os at*
  generalize (H0 (l.take k)).length=ol at*
  generalize q.protos.map Fn.row=qs at*
  generalize q.row=qr at*
  simp -implicitDefEqProofs only [go_sem,z0,z1,hml,hrz,hqr,g1,g2,g8,hpl,hol,hotk,hap,Option.some.injEq,forall_eq']
  exact⟨hlt,of_eq_true hrq,by omega,ihx _ m (m+1) (F7.wk (by simp -implicitDefEqProofs only [go_sem,hzk]))⟩
 ·have e:k=l.length:=by omega
  subst e
  rw [List.take_length]
  simp -implicitDefEqProofs only [go_sem,Int.lt_irrefl]
  have hzc:((c+1:Nat):Int)=(c:Int)+1:=by omega
  refine⟨by omega,ih _ (H0 l,c+1,s2,m) ⟨by simp only;omega,by simp only;omega,hkm,by simp only;omega⟩ (by simp only;omega) ?_⟩
  simp only [hzc]
  exact .turn (fun b=>if b=(55*10000+28)then(55*10000+3)else b) ⟨.refl _,.sl,trivial⟩ (.at 0 rfl rfl (.refl _) trivial)
theorem C6Y{C:Prop} [Decidable C]:((if C then(0:Int)else 3)≠0)= ¬C:=propext ⟨fun h1 hc=>h1 (if_pos hc),fun h1 h2=>by rw [if_neg h1]at h2;exact absurd h2 (by decide)⟩
theorem B8d(p:Fn)(hp:p.bd):Pure Tryz.prog 85 [.agg p.row] (.bool (decide (B0j p≠0))):=by
 obtain⟨h1,h2⟩:=B5 p
 have hb:=hp.self
 have hiz:=hb.code
 have hlz:=hb.lines
 have hcz:=hb.consts
 have hpz:=hb.protos
 have huz:=hb.ups
 have hvz:=hb.vars
 have g0:p.row[0]? =some (.str p.name):=by rw [Fn.row_eq];rfl
 have g1:p.row[1]? =some (.int .i64 p.line):=by rw [Fn.row_eq];rfl
 have g2:p.row[2]? =some (.int .i64 p.params):=by rw [Fn.row_eq];rfl
 have g3:p.row[3]? =some (.bool p.vararg):=by rw [Fn.row_eq];rfl
 have g4:p.row[4]? =some (.int .i64 p.regs):=by rw [Fn.row_eq];rfl
 have g5:p.row[5]? =some (.isl (p.code.map Ins.row)):=by rw [Fn.row_eq];rfl
 have g6:p.row[6]? =some (.isl (p.lines.map C7)):=by rw [Fn.row_eq];rfl
 have g7:p.row[7]? =some (.isl (p.consts.map Kst.row)):=by rw [Fn.row_eq];rfl
 have g8:p.row[8]? =some (.isl (p.protos.map Fn.row)):=by rw [Fn.row_eq];rfl
 have g9:p.row[9]? =some (.isl (p.ups.map Upv.row)):=by rw [Fn.row_eq];rfl
 have g10:p.row[10]? =some (.isl (p.vars.map Vr.row)):=by rw [Fn.row_eq];rfl
 have k_code:(p.code.map Ins.row).length=p.code.length:=List.length_map ..
 have z_code:=eq_true (A7 Ins.row 5 (fun _=>rfl) p.code)
 have r_code: ∀(k:Nat) x,p.code[k]? =some x→(p.code.map Ins.row)[k]? =some (Ins.row x):=fun k x hk=>by rw [List.getElem?_map,hk];rfl
 have k_lines:(p.lines.map C7).length=p.lines.length:=List.length_map ..
 have z_lines:=eq_true (A7 C7 1 (fun _=>rfl) p.lines)
 have r_lines: ∀(k:Nat) x,p.lines[k]? =some x→(p.lines.map C7)[k]? =some (C7 x):=fun k x hk=>by rw [List.getElem?_map,hk];rfl
 have k_consts:(p.consts.map Kst.row).length=p.consts.length:=List.length_map ..
 have z_consts:=eq_true (A7 Kst.row 5 (fun _=>rfl) p.consts)
 have r_consts: ∀(k:Nat) x,p.consts[k]? =some x→(p.consts.map Kst.row)[k]? =some (Kst.row x):=fun k x hk=>by rw [List.getElem?_map,hk];rfl
 have k_protos:(p.protos.map Fn.row).length=p.protos.length:=List.length_map ..
 have z_protos:=eq_true (A7 Fn.row 11 Fn.row_len p.protos)
 have r_protos: ∀(k:Nat) x,p.protos[k]? =some x→(p.protos.map Fn.row)[k]? =some (Fn.row x):=fun k x hk=>by rw [List.getElem?_map,hk];rfl
 have k_ups:(p.ups.map Upv.row).length=p.ups.length:=List.length_map ..
 have z_ups:=eq_true (A7 Upv.row 3 (fun _=>rfl) p.ups)
 have r_ups: ∀(k:Nat) x,p.ups[k]? =some x→(p.ups.map Upv.row)[k]? =some (Upv.row x):=fun k x hk=>by rw [List.getElem?_map,hk];rfl
 have k_vars:(p.vars.map Vr.row).length=p.vars.length:=List.length_map ..
 have z_vars:=eq_true (A7 Vr.row 5 (fun _=>rfl) p.vars)
 have r_vars: ∀(k:Nat) x,p.vars[k]? =some x→(p.vars.map Vr.row)[k]? =some (Vr.row x):=fun k x hk=>by rw [List.getElem?_map,hk];rfl
 generalize hl:decide (B0j p≠0)=z
 simp only [B0j,C6Y]at hl
 generalize p.code.map Ins.row=rcode at*
 generalize p.lines.map C7=rlines at*
 generalize p.consts.map Kst.row=rconsts at*
 generalize p.protos.map Fn.row=rprotos at*
 generalize p.ups.map Upv.row=rups at*
 generalize p.vars.map Vr.row=rvars at*
 generalize p.row=pr at*
 refine Pure.of 0 (A0.enter A4v (Nat.le_of_ble_eq_true rfl) (Run.go 100 ?_))
 by_cases l0:p.code.length≤16384
 case neg=>
  obtain rfl:z=true:=hl ▸ decide_eq_true (fun h=>l0 h.1)
  have z0:((16384:Int)<(p.code.length:Int))=True:=eq_true (by omega)
  simp -implicitDefEqProofs only [go_sem,A3,h1,h2,g0,g1,g2,g3,g4,g5,g6,g7,g8,g9,g10,k_code,k_lines,k_consts,k_protos,k_ups,k_vars,z0]
 have z0:((16384:Int)<(p.code.length:Int))=False:=eq_false (by omega)
 by_cases l1:p.consts.length≤4096
 case neg=>
  obtain rfl:z=true:=hl ▸ decide_eq_true (fun h=>l1 h.2.1)
  have z1:((4096:Int)<(p.consts.length:Int))=True:=eq_true (by omega)
  simp -implicitDefEqProofs only [go_sem,A3,h1,h2,g0,g1,g2,g3,g4,g5,g6,g7,g8,g9,g10,k_code,k_lines,k_consts,k_protos,k_ups,k_vars,z0,z1]
 have z1:((4096:Int)<(p.consts.length:Int))=False:=eq_false (by omega)
 by_cases l2:p.protos.length≤1024
 case neg=>
  obtain rfl:z=true:=hl ▸ decide_eq_true (fun h=>l2 h.2.2.1)
  have z2:((1024:Int)<(p.protos.length:Int))=True:=eq_true (by omega)
  simp -implicitDefEqProofs only [go_sem,A3,h1,h2,g0,g1,g2,g3,g4,g5,g6,g7,g8,g9,g10,k_code,k_lines,k_consts,k_protos,k_ups,k_vars,z0,z1,z2]
 have z2:((1024:Int)<(p.protos.length:Int))=False:=eq_false (by omega)
 by_cases l3:p.ups.length≤60
 case neg=>
  obtain rfl:z=true:=hl ▸ decide_eq_true (fun h=>l3 h.2.2.2.1)
  have z3:((60:Int)<(p.ups.length:Int))=True:=eq_true (by omega)
  simp -implicitDefEqProofs only [go_sem,A3,h1,h2,g0,g1,g2,g3,g4,g5,g6,g7,g8,g9,g10,k_code,k_lines,k_consts,k_protos,k_ups,k_vars,z0,z1,z2,z3]
 have z3:((60:Int)<(p.ups.length:Int))=False:=eq_false (by omega)
 by_cases l4:p.vars.length≤16384
 case neg=>
  obtain rfl:z=true:=hl ▸ decide_eq_true (fun h=>l4 h.2.2.2.2.1)
  have z4:((16384:Int)<(p.vars.length:Int))=True:=eq_true (by omega)
  simp -implicitDefEqProofs only [go_sem,A3,h1,h2,g0,g1,g2,g3,g4,g5,g6,g7,g8,g9,g10,k_code,k_lines,k_consts,k_protos,k_ups,k_vars,z0,z1,z2,z3,z4]
 have z4:((16384:Int)<(p.vars.length:Int))=False:=eq_false (by omega)
 by_cases l5:p.regs≤4096
 case neg=>
  obtain rfl:z=true:=hl ▸ decide_eq_true (fun h=>l5 h.2.2.2.2.2.1)
  have z5:((4096:Int)<p.regs)=True:=eq_true (by omega)
  simp -implicitDefEqProofs only [go_sem,A3,h1,h2,g0,g1,g2,g3,g4,g5,g6,g7,g8,g9,g10,k_code,k_lines,k_consts,k_protos,k_ups,k_vars,z0,z1,z2,z3,z4,z5]
 have z5:((4096:Int)<p.regs)=False:=eq_false (by omega)
 by_cases l6:p.name.length≤4096
 case neg=>
  obtain rfl:z=true:=hl ▸ decide_eq_true (fun h=>l6 h.2.2.2.2.2.2.1)
  have z6:((4096:Int)<(p.name.length:Int))=True:=eq_true (by omega)
  simp -implicitDefEqProofs only [go_sem,A3,h1,h2,g0,g1,g2,g3,g4,g5,g6,g7,g8,g9,g10,k_code,k_lines,k_consts,k_protos,k_ups,k_vars,z0,z1,z2,z3,z4,z5,z6]
 have z6:((4096:Int)<(p.name.length:Int))=False:=eq_false (by omega)
 simp -implicitDefEqProofs only [go_sem,A3,h1,h2,g0,g1,g2,g3,g4,g5,g6,g7,g8,g9,g10,k_code,k_lines,k_consts,k_protos,k_ups,k_vars,z0,z1,z2,z3,z4,z5,z6]
 refine Run.keep [3,1] ?_
 refine Run.rounds (fun(x:Nat)=>⟨[(3,.int .i64 x),(1,.ptr (85*10000+1) 0 0 0)],[((85*10000+1),0,.rows 11 [pr])],1⟩) (fun x=>x≤p.vars.length∧(p.vars.take x).any (fun v=>decide (40<v.name.length))=false) (fun x=>p.vars.length-x) 0 (by simp -implicitDefEqProofs only [go_sem]) ⟨Nat.zero_le _,rfl⟩ ?_
 rintro k ⟨hk,hno⟩ ih
 refine Run.unf A1T (Run.go 100 ?_)
 by_cases hlt:k<p.vars.length
 ·have q0:((k:Int)<(p.vars.length:Int))=True:=eq_true (by omega)
  have q1:((0:Int)≤(k:Int))=True:=eq_true (by omega)
  obtain⟨x,hx⟩: ∃x,p.vars[k]? =some x:=⟨p.vars[k],by simp [hlt]⟩
  have hxr:=r_vars k x hx
  have hzk:((k+1:Nat):Int)=(k:Int)+1:=by omega
  by_cases c:40<x.name.length
  ·obtain rfl:z=true:=hl ▸ decide_eq_true (fun h=>by simp [Q4 (f:=fun v=>decide (40<v.name.length)) hx (decide_eq_true c)]at h)
   have c1:((40:Int)<(x.name.length:Int))=True:=eq_true (by omega)
   simp -implicitDefEqProofs only [go_sem,q0,q1,h1,h2,g9,g10,k_vars,z_vars,hxr,Vr.row,c1,hlt,Option.some.injEq,forall_eq']
  ·have c1:((40:Int)<(x.name.length:Int))=False:=eq_false (by omega)
   simp -implicitDefEqProofs only [go_sem,q0,q1,h1,h2,g9,g10,k_vars,z_vars,hxr,Vr.row,c1,hlt,Option.some.injEq,forall_eq']
   refine⟨by omega,?_⟩
   exact ih _ (k+1) ⟨by omega,F1 hno hx (decide_eq_false c)⟩ (by omega) (by simp -implicitDefEqProofs only [go_sem,hzk])
 have e:k=p.vars.length:=by omega
 subst e
 have m_vars:=K8 hno
 clear ih hno hlt hk
 simp -implicitDefEqProofs only [go_sem,Int.lt_irrefl,h1,h2,g9,g10,k_vars]
 refine Run.keep [4,1] ?_
 refine Run.rounds (fun(x:Nat)=>⟨[(4,.int .i64 x),(1,.ptr (85*10000+1) 0 0 0)],[((85*10000+1),0,.rows 11 [pr])],1⟩) (fun x=>x≤p.ups.length∧(p.ups.take x).any (fun v=>decide (40<v.name.length))=false) (fun x=>p.ups.length-x) 0 (by simp -implicitDefEqProofs only [go_sem]) ⟨Nat.zero_le _,rfl⟩ ?_
 rintro k ⟨hk,hno⟩ ih
 refine Run.unf A1U (Run.go 100 ?_)
 by_cases hlt:k<p.ups.length
 ·have q0:((k:Int)<(p.ups.length:Int))=True:=eq_true (by omega)
  have q1:((0:Int)≤(k:Int))=True:=eq_true (by omega)
  obtain⟨x,hx⟩: ∃x,p.ups[k]? =some x:=⟨p.ups[k],by simp [hlt]⟩
  have hxr:=r_ups k x hx
  have hzk:((k+1:Nat):Int)=(k:Int)+1:=by omega
  by_cases c:40<x.name.length
  ·obtain rfl:z=true:=hl ▸ decide_eq_true (fun h=>by simp [Q4 (f:=fun v=>decide (40<v.name.length)) hx (decide_eq_true c)]at h)
   have c1:((40:Int)<(x.name.length:Int))=True:=eq_true (by omega)
   simp -implicitDefEqProofs only [go_sem,q0,q1,h1,h2,g9,g10,k_ups,z_ups,hxr,Upv.row,c1,hlt,Option.some.injEq,forall_eq']
  ·have c1:((40:Int)<(x.name.length:Int))=False:=eq_false (by omega)
   simp -implicitDefEqProofs only [go_sem,q0,q1,h1,h2,g9,g10,k_ups,z_ups,hxr,Upv.row,c1,hlt,Option.some.injEq,forall_eq']
   refine⟨by omega,?_⟩
   exact ih _ (k+1) ⟨by omega,F1 hno hx (decide_eq_false c)⟩ (by omega) (by simp -implicitDefEqProofs only [go_sem,hzk])
 have e:k=p.ups.length:=by omega
 subst e
 have m_ups:=K8 hno
 clear ih hno hlt hk
 obtain rfl:z=false:=hl ▸ decide_eq_false (fun h=>h ⟨l0,l1,l2,l3,l4,l5,l6,m_ups,m_vars⟩)
 simp -implicitDefEqProofs only [go_sem,Int.lt_irrefl,h1,h2,g9,g10,k_ups]
theorem C4G{i:Ins}(h:chk i=0):(i.op=2→0≤i.b)∧(i.op=7→0≤i.b)∧(i.op=8→0≤i.a)∧(i.op=11→0≤i.c):=by
 unfold chk at h
 cases ho:L3 i.op with
 |false=>rw [ho]at h;simp at h
 |true=>
  obtain⟨op,a,b,c,d⟩:=i
  simp only at h ho⊢
  refine⟨?_,?_,?_,?_⟩<;>rintro rfl<;>simp [frm,A8E,C0z,L3,A2l,A2m,low,high,C0R,B5n,A8H,mm2]at h<;>omega
theorem B4c(l:List Int)(hl:l.length≤1000000)(from_ regs:Int):Pure Tryz.prog 137 [.isl (l.map zrw),.int .i64 from_,.int .i64 regs] (.bool (A0q regs (l,from_))):=by
 have hrow: ∀(k:Nat) (x:Int),l[k]? =some x→(l.map zrw)[k]? =some [.int .i64 x]:=fun k x h=>C1A h
 have hlen:(l.map zrw).length=l.length:=List.length_map ..
 have hsz:=C1j l
 generalize hz:A0q regs (l,from_)=z
 simp only [A0q]at hz
 generalize l.map zrw=es at*
 refine Pure.of 0 (A0.enter A5L (Nat.le_of_ble_eq_true rfl) (Run.go 100 ?_))
 simp -implicitDefEqProofs only [go_sem,A3]
 refine Run.keep [7,2,1,0] ?_
 refine Run.rounds (fun(x:Nat)=>⟨[(7,.int .i64 x),(2,.int .i64 regs),(1,.int .i64 from_),(0,.isl es)],[],0⟩) (fun x=>x≤l.length∧(l.take x).any (fun r=>decide (regs≤r))=false) (fun x=>l.length-x) 0 (by simp -implicitDefEqProofs only [go_sem]) ⟨Nat.zero_le _,rfl⟩ ?_
 rintro k ⟨hk,hno⟩ ih
 refine Run.unf A2T (Run.go 100 ?_)
 by_cases hlt:k<l.length
 ·have q0:((k:Int)<(l.length:Int))=True:=eq_true (by omega)
  have q1:((0:Int)≤(k:Int))=True:=eq_true (by omega)
  obtain⟨x,hx⟩: ∃x,l[k]? =some x:=⟨l[k],by simp [hlt]⟩
  have hxr:=hrow k x hx
  have hzk:((k+1:Nat):Int)=(k:Int)+1:=by omega
  by_cases c:regs≤x
  ·have ha:l.any (fun r=>decide (regs≤r))=true:=Q4 (f:=fun r=>decide (regs≤r)) hx (decide_eq_true c)
   obtain rfl:z=false:=hz ▸ (by rw [ha];simp)
   simp -implicitDefEqProofs only [go_sem,q0,q1,hlen,hsz,hxr,c,hlt,ge_iff_le,Option.some.injEq,forall_eq']
  ·simp -implicitDefEqProofs only [go_sem,q0,q1,hlen,hsz,hxr,c,hlt,ge_iff_le,Option.some.injEq,forall_eq']
   refine⟨by omega,?_⟩
   exact ih _ (k+1) ⟨by omega,F1 hno hx (decide_eq_false c)⟩ (by omega) (by simp -implicitDefEqProofs only [go_sem,hzk])
 have e:k=l.length:=by omega
 subst e
 have m:=K8 hno
 rw [m]at hz
 simp -implicitDefEqProofs only [go_sem,Int.lt_irrefl,hlen]
 rw [←hz];simp
theorem C1n(p:Fn)(hp:p.bd)(k:Int)(h0:0≤k):Pure Tryz.prog 178 [.agg p.row,.int .i64 k] (.bool (decide (k<p.consts.length)&&A6l p.consts[k.toNat]?)):=by
 obtain⟨h1,h2⟩:=B5 p
 have hb:=hp.self
 have hiz:=hb.code
 have hlz:=hb.lines
 have hcz:=hb.consts
 have hpz:=hb.protos
 have huz:=hb.ups
 have hvz:=hb.vars
 have g0:p.row[0]? =some (.str p.name):=by rw [Fn.row_eq];rfl
 have g1:p.row[1]? =some (.int .i64 p.line):=by rw [Fn.row_eq];rfl
 have g2:p.row[2]? =some (.int .i64 p.params):=by rw [Fn.row_eq];rfl
 have g3:p.row[3]? =some (.bool p.vararg):=by rw [Fn.row_eq];rfl
 have g4:p.row[4]? =some (.int .i64 p.regs):=by rw [Fn.row_eq];rfl
 have g5:p.row[5]? =some (.isl (p.code.map Ins.row)):=by rw [Fn.row_eq];rfl
 have g6:p.row[6]? =some (.isl (p.lines.map C7)):=by rw [Fn.row_eq];rfl
 have g7:p.row[7]? =some (.isl (p.consts.map Kst.row)):=by rw [Fn.row_eq];rfl
 have g8:p.row[8]? =some (.isl (p.protos.map Fn.row)):=by rw [Fn.row_eq];rfl
 have g9:p.row[9]? =some (.isl (p.ups.map Upv.row)):=by rw [Fn.row_eq];rfl
 have g10:p.row[10]? =some (.isl (p.vars.map Vr.row)):=by rw [Fn.row_eq];rfl
 have k_code:(p.code.map Ins.row).length=p.code.length:=List.length_map ..
 have z_code:=eq_true (A7 Ins.row 5 (fun _=>rfl) p.code)
 have r_code: ∀(k:Nat) x,p.code[k]? =some x→(p.code.map Ins.row)[k]? =some (Ins.row x):=fun k x hk=>by rw [List.getElem?_map,hk];rfl
 have k_lines:(p.lines.map C7).length=p.lines.length:=List.length_map ..
 have z_lines:=eq_true (A7 C7 1 (fun _=>rfl) p.lines)
 have r_lines: ∀(k:Nat) x,p.lines[k]? =some x→(p.lines.map C7)[k]? =some (C7 x):=fun k x hk=>by rw [List.getElem?_map,hk];rfl
 have k_consts:(p.consts.map Kst.row).length=p.consts.length:=List.length_map ..
 have z_consts:=eq_true (A7 Kst.row 5 (fun _=>rfl) p.consts)
 have r_consts: ∀(k:Nat) x,p.consts[k]? =some x→(p.consts.map Kst.row)[k]? =some (Kst.row x):=fun k x hk=>by rw [List.getElem?_map,hk];rfl
 have k_protos:(p.protos.map Fn.row).length=p.protos.length:=List.length_map ..
 have z_protos:=eq_true (A7 Fn.row 11 Fn.row_len p.protos)
 have r_protos: ∀(k:Nat) x,p.protos[k]? =some x→(p.protos.map Fn.row)[k]? =some (Fn.row x):=fun k x hk=>by rw [List.getElem?_map,hk];rfl
 have k_ups:(p.ups.map Upv.row).length=p.ups.length:=List.length_map ..
 have z_ups:=eq_true (A7 Upv.row 3 (fun _=>rfl) p.ups)
 have r_ups: ∀(k:Nat) x,p.ups[k]? =some x→(p.ups.map Upv.row)[k]? =some (Upv.row x):=fun k x hk=>by rw [List.getElem?_map,hk];rfl
 have k_vars:(p.vars.map Vr.row).length=p.vars.length:=List.length_map ..
 have z_vars:=eq_true (A7 Vr.row 5 (fun _=>rfl) p.vars)
 have r_vars: ∀(k:Nat) x,p.vars[k]? =some x→(p.vars.map Vr.row)[k]? =some (Vr.row x):=fun k x hk=>by rw [List.getElem?_map,hk];rfl
 generalize p.code.map Ins.row=rcode at*
 generalize p.lines.map C7=rlines at*
 generalize p.consts.map Kst.row=rconsts at*
 generalize p.protos.map Fn.row=rprotos at*
 generalize p.ups.map Upv.row=rups at*
 generalize p.vars.map Vr.row=rvars at*
 generalize p.row=pr at*
 refine Pure.of 0 (A0.enter A6W (Nat.le_of_ble_eq_true rfl) (Run.go 100 ?_))
 by_cases c:k<(p.consts.length:Int)
 ·obtain⟨x,hx⟩: ∃x,p.consts[k.toNat]? =some x:=⟨p.consts[k.toNat]'(by omega),by simp⟩
  have hxr:=r_consts _ x hx
  have e:(decide (k<(p.consts.length:Int))&&A6l p.consts[k.toNat]?)=decide (x.kind=3):=by rw [hx,decide_eq_true c];rfl
  rw [e]
  simp -implicitDefEqProofs only [go_sem,A3,h1,h2,g7,k_consts,z_consts,hxr,Kst.row,c,h0,Option.some.injEq,forall_eq']
  omega
 ·have e:(decide (k<(p.consts.length:Int))&&A6l p.consts[k.toNat]?)=false:=by rw [decide_eq_false c];rfl
  rw [e]
  simp -implicitDefEqProofs only [go_sem,A3,h1,h2,g7,k_consts,c]
theorem B6q{p:Fn}{i:Ins}(h:(D6 i).2=true)(h0:0≤(D6 i).1)(h5: ¬(i.op=5∨i.op=6∨i.op=22∨i.op=19)):p9 p i=(decide ((D6 i).1<p.consts.length)&&A6l p.consts[(D6 i).1.toNat]?):=by
 unfold p9
 have a1: ¬i.op=5:=fun h=>h5 (.inl h)
 have a2: ¬i.op=6:=fun h=>h5 (.inr (.inl h))
 have a3: ¬i.op=22:=fun h=>h5 (.inr (.inr (.inl h)))
 have a4: ¬i.op=19:=fun h=>h5 (.inr (.inr (.inr h)))
 rw [if_neg a1,if_neg a2,if_neg a3,if_neg a4,h]
 by_cases c:(p.consts.length:Int)≤(D6 i).1
 ·rw [if_pos c,decide_eq_false (by omega)];rfl
 ·rw [if_neg c,decide_eq_true (by omega:(D6 i).1<(p.consts.length:Int))]
  cases A6l p.consts[(D6 i).1.toNat]? <;>simp [h0]
theorem B8e(p:Fn)(hp:p.bd)(i:Ins)(hc:chk i=0):Pure Tryz.prog 139 [.agg p.row,i.v] (.bool (p9 p i)):=by
 obtain⟨c2,c7,c8,c11⟩:=C4G hc
 have ht:=C1n p hp
 have hps:=Fn.row_sub E8 p
 obtain⟨h1,h2⟩:=B5 p
 have hb:=hp.self
 have hiz:=hb.code
 have hlz:=hb.lines
 have hcz:=hb.consts
 have hpz:=hb.protos
 have huz:=hb.ups
 have hvz:=hb.vars
 have g0:p.row[0]? =some (.str p.name):=by rw [Fn.row_eq];rfl
 have g1:p.row[1]? =some (.int .i64 p.line):=by rw [Fn.row_eq];rfl
 have g2:p.row[2]? =some (.int .i64 p.params):=by rw [Fn.row_eq];rfl
 have g3:p.row[3]? =some (.bool p.vararg):=by rw [Fn.row_eq];rfl
 have g4:p.row[4]? =some (.int .i64 p.regs):=by rw [Fn.row_eq];rfl
 have g5:p.row[5]? =some (.isl (p.code.map Ins.row)):=by rw [Fn.row_eq];rfl
 have g6:p.row[6]? =some (.isl (p.lines.map C7)):=by rw [Fn.row_eq];rfl
 have g7:p.row[7]? =some (.isl (p.consts.map Kst.row)):=by rw [Fn.row_eq];rfl
 have g8:p.row[8]? =some (.isl (p.protos.map Fn.row)):=by rw [Fn.row_eq];rfl
 have g9:p.row[9]? =some (.isl (p.ups.map Upv.row)):=by rw [Fn.row_eq];rfl
 have g10:p.row[10]? =some (.isl (p.vars.map Vr.row)):=by rw [Fn.row_eq];rfl
 have k_code:(p.code.map Ins.row).length=p.code.length:=List.length_map ..
 have z_code:=eq_true (A7 Ins.row 5 (fun _=>rfl) p.code)
 have r_code: ∀(k:Nat) x,p.code[k]? =some x→(p.code.map Ins.row)[k]? =some (Ins.row x):=fun k x hk=>by rw [List.getElem?_map,hk];rfl
 have k_lines:(p.lines.map C7).length=p.lines.length:=List.length_map ..
 have z_lines:=eq_true (A7 C7 1 (fun _=>rfl) p.lines)
 have r_lines: ∀(k:Nat) x,p.lines[k]? =some x→(p.lines.map C7)[k]? =some (C7 x):=fun k x hk=>by rw [List.getElem?_map,hk];rfl
 have k_consts:(p.consts.map Kst.row).length=p.consts.length:=List.length_map ..
 have z_consts:=eq_true (A7 Kst.row 5 (fun _=>rfl) p.consts)
 have r_consts: ∀(k:Nat) x,p.consts[k]? =some x→(p.consts.map Kst.row)[k]? =some (Kst.row x):=fun k x hk=>by rw [List.getElem?_map,hk];rfl
 have k_protos:(p.protos.map Fn.row).length=p.protos.length:=List.length_map ..
 have z_protos:=eq_true (A7 Fn.row 11 Fn.row_len p.protos)
 have r_protos: ∀(k:Nat) x,p.protos[k]? =some x→(p.protos.map Fn.row)[k]? =some (Fn.row x):=fun k x hk=>by rw [List.getElem?_map,hk];rfl
 have k_ups:(p.ups.map Upv.row).length=p.ups.length:=List.length_map ..
 have z_ups:=eq_true (A7 Upv.row 3 (fun _=>rfl) p.ups)
 have r_ups: ∀(k:Nat) x,p.ups[k]? =some x→(p.ups.map Upv.row)[k]? =some (Upv.row x):=fun k x hk=>by rw [List.getElem?_map,hk];rfl
 have k_vars:(p.vars.map Vr.row).length=p.vars.length:=List.length_map ..
 have z_vars:=eq_true (A7 Vr.row 5 (fun _=>rfl) p.vars)
 have r_vars: ∀(k:Nat) x,p.vars[k]? =some x→(p.vars.map Vr.row)[k]? =some (Vr.row x):=fun k x hk=>by rw [List.getElem?_map,hk];rfl
 obtain⟨op,a,b,c,d⟩:=i
 have hk:=fun x=>B6q (p:=p) (i:=⟨op,a,b,c,d⟩) (h:=x)
 generalize hz:p9 p ⟨op,a,b,c,d⟩=z at*
 simp only [p9]at hz
 simp only [Ins.v,Ins.row]at*
 generalize p.code.map Ins.row=rcode at*
 generalize p.lines.map C7=rlines at*
 generalize p.consts.map Kst.row=rconsts at*
 generalize p.protos.map Fn.row=rprotos at*
 generalize p.ups.map Upv.row=rups at*
 generalize p.vars.map Vr.row=rvars at*
 generalize p.row=pr at*
 refine Pure.of 0 (A0.enter A4w (Nat.le_of_ble_eq_true rfl) (Run.go 100 ?_))
 by_cases e2:op=2
 ·subst e2
  have:=c2 rfl
  simp -implicitDefEqProofs only [go_sem,A3,h1,h2,g7,k_consts]
  rw [←hz]
  by_cases d:b<(p.consts.length:Int)
  ·simp [D6,d,show¬(p.consts.length:Int)≤b by omega]
  ·simp [D6,d,show (p.consts.length:Int)≤b by omega]
 by_cases e5:op=5
 ·subst e5
  simp -implicitDefEqProofs only [go_sem,A3,h1,h2,g9,k_ups]
  rw [←hz]
  simp [D6,show¬(p.consts.length:Int)≤ -1 by omega]
 by_cases e6:op=6
 ·subst e6
  simp -implicitDefEqProofs only [go_sem,A3,h1,h2,g9,k_ups]
  rw [←hz]
  simp [D6,show¬(p.consts.length:Int)≤ -1 by omega]
 by_cases e7:op=7
 ·subst e7
  have hv:=ht b (c7 rfl)
  have:=hk (by simp [D6]) (by simpa [D6]using c7 rfl) (by simp)
  simp only [D6]at this
  simp -implicitDefEqProofs only [go_sem,A3,h1,h2]
  refine A0.pureF hv (by simp -implicitDefEqProofs only [go_sem,hps]) ?_
  simp -implicitDefEqProofs only [go_sem,this]
 by_cases e8:op=8
 ·subst e8
  have hv:=ht a (c8 rfl)
  have:=hk (by simp [D6]) (by simpa [D6]using c8 rfl) (by simp)
  simp only [D6]at this
  simp -implicitDefEqProofs only [go_sem,A3,h1,h2]
  refine A0.pureF hv (by simp -implicitDefEqProofs only [go_sem,hps]) ?_
  simp -implicitDefEqProofs only [go_sem,this]
 by_cases e11:op=11
 ·subst e11
  have hv:=ht c (c11 rfl)
  have:=hk (by simp [D6]) (by simpa [D6]using c11 rfl) (by simp)
  simp only [D6]at this
  simp -implicitDefEqProofs only [go_sem,A3,h1,h2]
  refine A0.pureF hv (by simp -implicitDefEqProofs only [go_sem,hps]) ?_
  simp -implicitDefEqProofs only [go_sem,this]
 by_cases e22:op=22
 ·subst e22
  simp -implicitDefEqProofs only [go_sem,A3,h1,h2,g8,k_protos]
  rw [←hz]
  simp [D6,show¬(p.consts.length:Int)≤ -1 by omega]
 by_cases e19:op=19
 ·subst e19
  simp -implicitDefEqProofs only [go_sem,A3,h1,h2,g3]
  rw [←hz]
  simp [D6,show¬(p.consts.length:Int)≤ -1 by omega]
 simp -implicitDefEqProofs only [go_sem,A3,h1,h2,e2,e5,e6,e7,e8,e11,e22,e19]
 rw [←hz]
 simp [D6,show¬(p.consts.length:Int)≤ -1 by omega,e2,e5,e6,e7,e8,e11,e22,e19]
theorem C1d(p:Fn)(hp:p.bd)(i:Ins):Pure Tryz.prog 87 [.agg p.row,i.v] (.int .i64 (A2o p i)):=by
 obtain⟨h1,h2⟩:=B5 p
 have hps:=Fn.row_sub E8 p
 have hc:=A9C i
 have hr:=B9L i
 have hw:=B8l i
 have hwr:=B4c (G0 i).1 (B7h i) (G0 i).2 p.regs
 have hww:=B4c (E5 i).1 (B6i i) (E5 i).2 p.regs
 have ht:=B8g i
 have hf:=B8e p hp i
 have g4:p.row[4]? =some (.int .i64 p.regs):=by rw [Fn.row_eq];rfl
 have h5:p.row[5]? =some (.isl (p.code.map Ins.row)):=by rw [Fn.row_eq];rfl
 have k1:(p.code.map Ins.row).length=p.code.length:=List.length_map ..
 have f1:((G0 i).1.map zrw).map (fun r=>r.map (V.sub E8))=(G0 i).1.map zrw:=B6b _
 have f2:((E5 i).1.map zrw).map (fun r=>r.map (V.sub E8))=(E5 i).1.map zrw:=B6b _
 generalize hz:A2o p i=z
 unfold A2o at hz
 rw [show ((G0 i).1,(G0 i).2)=G0 i from rfl]at hwr
 rw [show ((E5 i).1,(E5 i).2)=E5 i from rfl]at hww
 generalize (G0 i).1.map zrw=rr at*
 generalize (E5 i).1.map zrw=rw at*
 generalize (G0 i).2=r2 at*
 generalize (E5 i).2=w2 at*
 generalize A0q p.regs (G0 i)=b1 at*
 generalize A0q p.regs (E5 i)=b2 at*
 generalize p9 p i=b3 at*
 generalize chk i=ck at*
 generalize A6j i.op=jj at*
 generalize p.code.map Ins.row=rcode at*
 generalize p.row=pr at*
 obtain⟨op,a,b,c,d⟩:=i
 simp only [Ins.v,Ins.row]at*
 refine Pure.of 0 (A0.enter A5M (Nat.le_of_ble_eq_true rfl) (Run.go 100 ?_))
 simp -implicitDefEqProofs only [go_sem,A3,h1,h2]
 refine A0.pureF hc (by simp -implicitDefEqProofs only [go_sem]) ?_
 by_cases c0:ck=0
 case neg=>
  rw [if_pos c0]at hz
  subst hz
  simp -implicitDefEqProofs only [go_sem,c0]
 rw [if_neg (by simpa using c0)]at hz
 have hf:=hf c0
 simp -implicitDefEqProofs only [go_sem,c0]
 refine A0.pureF hr (by simp -implicitDefEqProofs only [go_sem]) ?_
 simp -implicitDefEqProofs only [go_sem]
 refine A0.pureF hw (by simp -implicitDefEqProofs only [go_sem]) ?_
 simp -implicitDefEqProofs only [go_sem,h1,h2,g4]
 refine A0.pureF hwr (by simp -implicitDefEqProofs only [go_sem,f1]) ?_
 cases b1
 ·obtain rfl:z=4:=hz ▸ if_neg (fun h=>by simp at h)
  simp -implicitDefEqProofs only [go_sem]
 simp -implicitDefEqProofs only [go_sem,h1,h2,g4]
 refine A0.pureF hww (by simp -implicitDefEqProofs only [go_sem,f2]) ?_
 cases b2
 ·obtain rfl:z=4:=hz ▸ if_neg (fun h=>by simp at h)
  simp -implicitDefEqProofs only [go_sem]
 simp -implicitDefEqProofs only [go_sem]
 refine A0.pureF ht (by simp -implicitDefEqProofs only [go_sem]) ?_
 cases jj
 ·simp -implicitDefEqProofs only [go_sem,h1,h2]
  refine A0.pureF hf (by simp -implicitDefEqProofs only [go_sem,hps]) ?_
  cases b3
  ·obtain rfl:z=4:=hz ▸ if_neg (fun h=>by simp at h)
   simp -implicitDefEqProofs only [go_sem]
  ·obtain rfl:z=0:=hz ▸ if_pos (by simp)
   simp -implicitDefEqProofs only [go_sem]
 ·by_cases d1:b<0
  ·obtain rfl:z=4:=hz ▸ if_neg (fun h=>by have:=(h.2.2.1 rfl).1;omega)
   simp -implicitDefEqProofs only [go_sem,d1,h1,h2,h5,k1]
  by_cases d2:b<(p.code.length:Int)
  ·simp -implicitDefEqProofs only [go_sem,d1,d2,h1,h2,h5,k1,ge_iff_le,Int.not_le.2 d2]
   refine A0.pureF hf (by simp -implicitDefEqProofs only [go_sem,hps]) ?_
   cases b3
   ·obtain rfl:z=4:=hz ▸ if_neg (fun h=>by simp at h)
    simp -implicitDefEqProofs only [go_sem]
   ·obtain rfl:z=0:=hz ▸ if_pos ⟨rfl,rfl,fun _=>⟨by omega,d2⟩,rfl⟩
    simp -implicitDefEqProofs only [go_sem]
  ·obtain rfl:z=4:=hz ▸ if_neg (fun h=>d2 (h.2.2.1 rfl).2)
   have d3:((p.code.length:Int)≤b)=True:=eq_true (by omega)
   simp -implicitDefEqProofs only [go_sem,d1,d2,d3,h1,h2,h5,k1]
theorem D0b{p:Fn}(h:B0j p≠0):B0j p=3:=by unfold B0j at*;split<;>simp_all
theorem C6P{p:Fn}(h:A1B p≠0):A1B p=4:=by unfold A1B at*;split<;>simp_all
theorem B8f(p:Fn)(hp:p.bd):Pure Tryz.prog 56 [.agg p.row] (.int .i64 (A8s p)):=by
 have hps:=Fn.row_sub E8 p
 obtain⟨h1,h2⟩:=B5 p
 have hb:=hp.self
 have hiz:=hb.code
 have hlz:=hb.lines
 have hcz:=hb.consts
 have hpz:=hb.protos
 have huz:=hb.ups
 have hvz:=hb.vars
 have g0:p.row[0]? =some (.str p.name):=by rw [Fn.row_eq];rfl
 have g1:p.row[1]? =some (.int .i64 p.line):=by rw [Fn.row_eq];rfl
 have g2:p.row[2]? =some (.int .i64 p.params):=by rw [Fn.row_eq];rfl
 have g3:p.row[3]? =some (.bool p.vararg):=by rw [Fn.row_eq];rfl
 have g4:p.row[4]? =some (.int .i64 p.regs):=by rw [Fn.row_eq];rfl
 have g5:p.row[5]? =some (.isl (p.code.map Ins.row)):=by rw [Fn.row_eq];rfl
 have g6:p.row[6]? =some (.isl (p.lines.map C7)):=by rw [Fn.row_eq];rfl
 have g7:p.row[7]? =some (.isl (p.consts.map Kst.row)):=by rw [Fn.row_eq];rfl
 have g8:p.row[8]? =some (.isl (p.protos.map Fn.row)):=by rw [Fn.row_eq];rfl
 have g9:p.row[9]? =some (.isl (p.ups.map Upv.row)):=by rw [Fn.row_eq];rfl
 have g10:p.row[10]? =some (.isl (p.vars.map Vr.row)):=by rw [Fn.row_eq];rfl
 have k_code:(p.code.map Ins.row).length=p.code.length:=List.length_map ..
 have z_code:=eq_true (A7 Ins.row 5 (fun _=>rfl) p.code)
 have r_code: ∀(k:Nat) x,p.code[k]? =some x→(p.code.map Ins.row)[k]? =some (Ins.row x):=fun k x hk=>by rw [List.getElem?_map,hk];rfl
 have k_lines:(p.lines.map C7).length=p.lines.length:=List.length_map ..
 have z_lines:=eq_true (A7 C7 1 (fun _=>rfl) p.lines)
 have r_lines: ∀(k:Nat) x,p.lines[k]? =some x→(p.lines.map C7)[k]? =some (C7 x):=fun k x hk=>by rw [List.getElem?_map,hk];rfl
 have k_consts:(p.consts.map Kst.row).length=p.consts.length:=List.length_map ..
 have z_consts:=eq_true (A7 Kst.row 5 (fun _=>rfl) p.consts)
 have r_consts: ∀(k:Nat) x,p.consts[k]? =some x→(p.consts.map Kst.row)[k]? =some (Kst.row x):=fun k x hk=>by rw [List.getElem?_map,hk];rfl
 have k_protos:(p.protos.map Fn.row).length=p.protos.length:=List.length_map ..
 have z_protos:=eq_true (A7 Fn.row 11 Fn.row_len p.protos)
 have r_protos: ∀(k:Nat) x,p.protos[k]? =some x→(p.protos.map Fn.row)[k]? =some (Fn.row x):=fun k x hk=>by rw [List.getElem?_map,hk];rfl
 have k_ups:(p.ups.map Upv.row).length=p.ups.length:=List.length_map ..
 have z_ups:=eq_true (A7 Upv.row 3 (fun _=>rfl) p.ups)
 have r_ups: ∀(k:Nat) x,p.ups[k]? =some x→(p.ups.map Upv.row)[k]? =some (Upv.row x):=fun k x hk=>by rw [List.getElem?_map,hk];rfl
 have k_vars:(p.vars.map Vr.row).length=p.vars.length:=List.length_map ..
 have z_vars:=eq_true (A7 Vr.row 5 (fun _=>rfl) p.vars)
 have r_vars: ∀(k:Nat) x,p.vars[k]? =some x→(p.vars.map Vr.row)[k]? =some (Vr.row x):=fun k x hk=>by rw [List.getElem?_map,hk];rfl
 have hli:=B8d p hp
 have hfo:=C1b p hp
 have hin:=C1d p hp
 generalize hz:A8s p=z
 unfold A8s at hz
 generalize p.code.map Ins.row=rcode at*
 generalize p.lines.map C7=rlines at*
 generalize p.consts.map Kst.row=rconsts at*
 generalize p.protos.map Fn.row=rprotos at*
 generalize p.ups.map Upv.row=rups at*
 generalize p.vars.map Vr.row=rvars at*
 generalize p.row=pr at*
 refine Pure.of 0 (A0.enter A4x (Nat.le_of_ble_eq_true rfl) (Run.go 100 ?_))
 simp -implicitDefEqProofs only [go_sem,A3,h1,h2]
 refine A0.pureF hli (by simp -implicitDefEqProofs only [go_sem,hps]) ?_
 by_cases c0:B0j p=0
 case neg=>
  rw [if_pos c0,D0b c0]at hz
  subst hz
  have cd:decide (B0j p≠0)=true:=decide_eq_true c0
  simp -implicitDefEqProofs only [go_sem,cd]
 have cd:decide (B0j p≠0)=false:=decide_eq_false (fun h=>h c0)
 rw [if_neg (by simpa using c0)]at hz
 simp -implicitDefEqProofs only [go_sem,cd,h1,h2]
 refine A0.pureF hfo (by simp -implicitDefEqProofs only [go_sem,hps]) ?_
 by_cases c1:A1B p=0
 case neg=>
  rw [if_pos c1,C6P c1]at hz
  subst hz
  have ce:decide (A1B p=0)=false:=decide_eq_false c1
  simp -implicitDefEqProofs only [go_sem,ce]
 have ce:decide (A1B p=0)=true:=decide_eq_true c1
 rw [if_neg (by simpa using c1)]at hz
 simp -implicitDefEqProofs only [go_sem,ce,h1,h2,g5,k_code]
 refine Run.keep [3,1] ?_
 refine Run.rounds (fun(x:Nat)=>⟨[(3,.int .i64 x),(1,.ptr (56*10000+1) 0 0 0)],[((56*10000+1),0,.rows 11 [pr])],1⟩) (fun x=>x≤p.code.length∧ ∀y∈p.code.take x,A2o p y=0) (fun x=>p.code.length-x) 0 (by simp -implicitDefEqProofs only [go_sem]) ⟨Nat.zero_le _,by simp⟩ ?_
 rintro k ⟨hk,hno⟩ ih
 refine Run.unf A1V (Run.go 100 ?_)
 by_cases hlt:k<p.code.length
 ·have q0:((k:Int)<(p.code.length:Int))=True:=eq_true (by omega)
  have q1:((0:Int)≤(k:Int))=True:=eq_true (by omega)
  obtain⟨x,hx⟩: ∃x,p.code[k]? =some x:=⟨p.code[k],by simp [hlt]⟩
  have hxr:=r_code k x hx
  have hix:=hin x
  have hzk:((k+1:Nat):Int)=(k:Int)+1:=by omega
  simp only [Ins.v,Ins.row]at hix
  simp -implicitDefEqProofs only [go_sem,q0,q1,k_code,z_code,g5,h1,h2,hxr,Ins.row,hlt,Option.some.injEq,forall_eq']
  refine A0.pureF hix (by simp -implicitDefEqProofs only [go_sem,hps]) ?_
  by_cases hx2:A2o p x=0
  ·simp -implicitDefEqProofs only [go_sem,hx2]
   refine⟨by omega,?_⟩
   exact ih _ (k+1) ⟨by omega,A7b hno hx hx2⟩ (by omega) (by simp -implicitDefEqProofs only [go_sem,hzk])
  ·have hf:=A6h (f:=A2o p) hno hx hx2
   rw [if_pos (by rw [hf];exact hx2),hf]at hz
   subst hz
   simp -implicitDefEqProofs only [go_sem,hx2]
 have e:k=p.code.length:=by omega
 subst e
 rw [List.take_length]at hno
 rw [if_neg (by rw [o9 (fun y hy=>by obtain⟨w,hw,rfl⟩:=List.mem_map.1 hy;exact hno w hw)];simp)]at hz
 clear ih hlt hk
 simp -implicitDefEqProofs only [go_sem,Int.lt_irrefl,h1,h2,g5,k_code]
 refine Run.keep [5,1] ?_
 refine Run.rounds (fun(x:Nat)=>⟨[(5,.int .i64 x),(1,.ptr (56*10000+1) 0 0 0)],[((56*10000+1),0,.rows 11 [pr])],1⟩) (fun x=>x≤p.protos.length∧(p.protos.take x).any (C9h p)=false) (fun x=>p.protos.length-x) 0 (by simp -implicitDefEqProofs only [go_sem]) ⟨Nat.zero_le _,rfl⟩ ?_
 clear hno
 rintro k ⟨hk,hno⟩ ih
 refine Run.unf A1W (Run.go 100 ?_)
 by_cases hlt:k<p.protos.length
 ·have q0:((k:Int)<(p.protos.length:Int))=True:=eq_true (by omega)
  have q1:((0:Int)≤(k:Int))=True:=eq_true (by omega)
  obtain⟨q,hx⟩: ∃x,p.protos[k]? =some x:=⟨p.protos[k],by simp [hlt]⟩
  have hxr:=r_protos k q hx
  have hzk:((k+1:Nat):Int)=(k:Int)+1:=by omega
  have hqb:=(hp.child (List.mem_of_getElem? hx)).self.ups
  obtain⟨y1,y2⟩:=B5 q
  have y9:q.row[9]? =some (.isl (q.ups.map Upv.row)):=by rw [Fn.row_eq];rfl
  have j3:(q.ups.map Upv.row).length=q.ups.length:=List.length_map ..
  have zu:=eq_true (A7 Upv.row 3 (fun _=>rfl) q.ups)
  have ru: ∀(k:Nat) x,q.ups[k]? =some x→(q.ups.map Upv.row)[k]? =some (Upv.row x):=fun k x hk=>by rw [List.getElem?_map,hk];rfl
  generalize q.ups.map Upv.row=qups at*
  generalize q.row=qr at*
  simp -implicitDefEqProofs only [go_sem,q0,q1,k_protos,z_protos,g8,h1,h2,y1,y2,y9,j3,hxr,hlt,Option.some.injEq,forall_eq']
  refine Run.keep [7,6,5,1] ?_
  refine Run.rounds (fun(x:Nat)=>⟨[(7,.int .i64 x),(6,.isl qups),(5,.int .i64 k),(1,.ptr (56*10000+1) 0 0 0)],[((56*10000+1),0,.rows 11 [pr])],1⟩) (fun x=>x≤q.ups.length∧(q.ups.take x).any (A8w p.regs p.ups.length)=false) (fun x=>q.ups.length-x) 0 (by simp -implicitDefEqProofs only [go_sem]) ⟨Nat.zero_le _,rfl⟩ ?_
  rintro j ⟨hj,hnj⟩ ihj
  refine Run.unf A1X (Run.go 100 ?_)
  by_cases hltj:j<q.ups.length
  ·have q2:((j:Int)<(q.ups.length:Int))=True:=eq_true (by omega)
   have q3:((0:Int)≤(j:Int))=True:=eq_true (by omega)
   obtain⟨u,hu⟩: ∃x,q.ups[j]? =some x:=⟨q.ups[j],by simp [hltj]⟩
   have hur:=ru j u hu
   have hzj:((j+1:Nat):Int)=(j:Int)+1:=by omega
   obtain⟨un,ul,ui⟩:=u
   have bad:A8w p.regs p.ups.length ⟨un,ul,ui⟩=true→z=4:=fun hb=>hz ▸ if_pos (Q4 hx (Q4 hu hb))
   by_cases hbu:A8w p.regs p.ups.length ⟨un,ul,ui⟩=true
   ·obtain rfl:=bad hbu
    cases ul
    ·have d1:((p.ups.length:Int)≤ui)=True:=eq_true (by simpa [A8w]using hbu)
     simp -implicitDefEqProofs only [go_sem,q2,q3,j3,zu,hur,Upv.row,hltj,h1,h2,g4,g9,k_ups,d1,ge_iff_le,Option.some.injEq,forall_eq']
    ·have d1:(p.regs≤ui)=True:=eq_true (by simpa [A8w]using hbu)
     simp -implicitDefEqProofs only [go_sem,q2,q3,j3,zu,hur,Upv.row,hltj,h1,h2,g4,g9,k_ups,d1,ge_iff_le,Option.some.injEq,forall_eq']
   ·have hbu':A8w p.regs p.ups.length ⟨un,ul,ui⟩=false:=by simpa only [Bool.not_eq_true]using hbu
    cases ul
    ·have d1:((p.ups.length:Int)≤ui)=False:=eq_false (by simpa [A8w]using hbu)
     simp -implicitDefEqProofs only [go_sem,q2,q3,j3,zu,hur,Upv.row,hltj,h1,h2,g4,g9,k_ups,d1,ge_iff_le,Option.some.injEq,forall_eq']
     refine⟨by omega,?_⟩
     exact ihj _ (j+1) ⟨by omega,F1 hnj hu hbu'⟩ (by omega) (by simp -implicitDefEqProofs only [go_sem,hzj])
    ·have d1:(p.regs≤ui)=False:=eq_false (by simpa [A8w]using hbu)
     simp -implicitDefEqProofs only [go_sem,q2,q3,j3,zu,hur,Upv.row,hltj,h1,h2,g4,g9,k_ups,d1,ge_iff_le,Option.some.injEq,forall_eq']
     refine⟨by omega,?_⟩
     exact ihj _ (j+1) ⟨by omega,F1 hnj hu hbu'⟩ (by omega) (by simp -implicitDefEqProofs only [go_sem,hzj])
  have e:j=q.ups.length:=by omega
  subst e
  have l:=K8 hnj
  simp -implicitDefEqProofs only [go_sem,Int.lt_irrefl,j3]
  refine⟨by omega,?_⟩
  exact ih _ (k+1) ⟨by omega,F1 hno hx l⟩ (by omega) (by simp -implicitDefEqProofs only [go_sem,hzk])
 have e:k=p.protos.length:=by omega
 subst e
 have l:=K8 hno
 obtain rfl:z=0:=hz ▸ if_neg (fun h=>by simp [l]at h)
 simp -implicitDefEqProofs only [go_sem,Int.lt_irrefl,h1,h2,g8,k_protos]
theorem B6p(p:Fn)(hp:p.bd)(hc:p.each.length≤1000000):Pure Tryz.prog 26 [.agg p.row] (.int .i64 (A6d p)):=by
 obtain⟨h1,h2⟩:=B5 p
 have hps:=Fn.row_sub E8 p
 have hd:=B9F p hp hc
 have hre:=B1o p hp hc
 have hs: ∀q∈p.each,Pure Tryz.prog 56 [.agg q.row] (.int .i64 (A8s q)):=fun q hq=>B8f q (hp.within hq)
 have hpm:(p.each.map Fn.row).length=p.each.length:=List.length_map ..
 have hrz:=eq_true (A7 Fn.row 11 Fn.row_len p.each)
 have hrow: ∀(k:Nat) q,p.each[k]? =some q→(p.each.map Fn.row)[k]? =some q.row:=fun k q hk=>by rw [List.getElem?_map,hk];rfl
 unfold A6d
 generalize p.each.map Fn.row=es at*
 generalize p.row=pr at*
 refine Pure.of 0 (A0.enter A5I (Nat.le_of_ble_eq_true rfl) (Run.go 100 ?_))
 simp -implicitDefEqProofs only [go_sem,A3,h1,h2]
 refine A0.pureF hd (by simp -implicitDefEqProofs only [go_sem,hps]) ?_
 by_cases hb:64<p.depth
 ·have z0:((64:Int)<((min p.depth 65:Nat):Int))=True:=eq_true (by omega)
  have z1:B0T p.depth (p.each.map A8s)=3:=if_pos hb
  simp -implicitDefEqProofs only [go_sem,z0,z1]
 have z0:((64:Int)<((min p.depth 65:Nat):Int))=False:=eq_false (by omega)
 have z1:B0T p.depth (p.each.map A8s)=M3 (p.each.map A8s):=if_neg hb
 rw [z1]
 generalize hz:M3 (p.each.map A8s)=z
 simp -implicitDefEqProofs only [go_sem,z0,h1,h2]
 refine A0.pureF hre (by simp -implicitDefEqProofs only [go_sem,hps]) ?_
 simp -implicitDefEqProofs only [go_sem]
 refine Run.keep [4,3] ?_
 refine Run.rounds (fun(x:Nat)=>⟨[(4,.int .i64 x),(3,.isl es)],[],1⟩) (fun x=>x≤p.each.length∧ ∀y∈p.each.take x,A8s y=0) (fun x=>p.each.length-x) 0 (by simp -implicitDefEqProofs only [go_sem]) ⟨Nat.zero_le _,by simp⟩ ?_
 rintro k ⟨hk,hno⟩ ih
 refine Run.unf A2Q (Run.go 100 ?_)
 by_cases hlt:k<p.each.length
 ·have q0:((k:Int)<(p.each.length:Int))=True:=eq_true (by omega)
  have q1:((0:Int)≤(k:Int))=True:=eq_true (by omega)
  obtain⟨q,hq⟩: ∃q,p.each[k]? =some q:=⟨p.each[k],by simp [hlt]⟩
  have hqr:=hrow k q hq
  have hqs:=hs q (List.mem_of_getElem? hq)
  have hsub:=Fn.row_sub E8 q
  have hzk:((k+1:Nat):Int)=(k:Int)+1:=by omega
  obtain⟨y1,y2⟩:=B5 q
  generalize q.row=qr at*
  simp -implicitDefEqProofs only [go_sem,q0,q1,hpm,hrz,hqr,y1,y2,hlt,Option.some.injEq,forall_eq']
  refine A0.pureF hqs (by simp -implicitDefEqProofs only [go_sem,hsub]) ?_
  by_cases hx2:A8s q=0
  ·simp -implicitDefEqProofs only [go_sem,hx2]
   refine⟨by omega,?_⟩
   exact ih _ (k+1) ⟨by omega,A7b hno hq hx2⟩ (by omega) (by simp -implicitDefEqProofs only [go_sem,hzk])
  ·have hf:=A6h (f:=A8s) hno hq hx2
   rw [hf]at hz
   subst hz
   simp -implicitDefEqProofs only [go_sem,hx2]
 have e:k=p.each.length:=by omega
 subst e
 rw [List.take_length]at hno
 obtain rfl:z=0:=by rw [←hz];exact o9 (fun y hy=>by obtain⟨w,hw,rfl⟩:=List.mem_map.1 hy;exact hno w hw)
 simp -implicitDefEqProofs only [go_sem,Int.lt_irrefl,hpm]
end Go.Proofs.YtflobbpcabopjaaGreatDoor
