/-
 The law's parts: the number of lines a function needs. No condition.
-/
import Derived.Test.YtflobbpcabopjaaGreatDoorLsN
import Derived.Test.YtflobbpcabopjaaGreatDoorFnCk
set_option linter.unusedVariables false
set_option linter.unusedSimpArgs false
set_option maxRecDepth 100000
set_option maxHeartbeats 0
namespace Go.Proofs.YtflobbpcabopjaaGreatDoor
open Go Go.Abs
attribute [local irreducible] A0 Run G9
theorem A9m: ∀l m:List Fn,partsFs (l++m)=partsFs l+partsFs m
 | [],m=>by simp [partsFs]
 |q::r,m=>by rw [List.cons_append,partsFs,partsFs,A9m r m];omega
theorem B4a: ∀{l:List Fn} {q:Fn},q∈l→p7 q≤partsFs l
 | [],_,h=>by cases h
 |x::r,q,h=>by
  rw [partsFs]
  rcases List.mem_cons.1 h with rfl|h
  ·omega
  ·have:=B4a h;omega
theorem B7X(l:List Fn)(k:Nat):partsFs (l.take k)≤partsFs l:=by
 conv=>rhs;rw [←List.take_append_drop k l,A9m]
 omega
theorem C0U(p:Fn)(hp:p.bd)(hd:p7 p≤1000000000):Abs.Pure Tryz.prog 15 [.agg p.row] (.int .i64 (p7 p)):=by
 induction p using Fn.ind with
 | h p ih'=>
  have hde:=C3y p
  have ih: ∀q∈p.protos,Abs.Pure Tryz.prog 15 [.agg q.row] (.int .i64 (p7 q)):=fun q hq=>ih' q hq (hp.child hq) (by have:=B4a hq;omega)
  clear ih'
  obtain⟨h1,h2⟩:=B5 p
  have h5:p.row[5]? =some (.isl (p.code.map Ins.row)):=by rw [Fn.row_eq];rfl
  have h7:p.row[7]? =some (.isl (p.consts.map Kst.row)):=by rw [Fn.row_eq];rfl
  have h8:p.row[8]? =some (.isl (p.protos.map Fn.row)):=by rw [Fn.row_eq];rfl
  have h9:p.row[9]? =some (.isl (p.ups.map Upv.row)):=by rw [Fn.row_eq];rfl
  have h10:p.row[10]? =some (.isl (p.vars.map Vr.row)):=by rw [Fn.row_eq];rfl
  have k1:(p.code.map Ins.row).length=p.code.length:=List.length_map ..
  have k2:(p.protos.map Fn.row).length=p.protos.length:=List.length_map ..
  have k3:(p.consts.map Kst.row).length=p.consts.length:=List.length_map ..
  have k4:(p.ups.map Upv.row).length=p.ups.length:=List.length_map ..
  have k5:(p.vars.map Vr.row).length=p.vars.length:=List.length_map ..
  have hqz:=hp.self.protos
  have zq:=eq_true (A7 Fn.row 11 Fn.row_len p.protos)
  have rq: ∀(k:Nat) x,p.protos[k]? =some x→(p.protos.map Fn.row)[k]? =some (Fn.row x):=fun k x hk=>by rw [List.getElem?_map,hk];rfl
  generalize p.code.map Ins.row=rcode at*
  generalize p.consts.map Kst.row=rconsts at*
  generalize p.ups.map Upv.row=rups at*
  generalize p.vars.map Vr.row=rvars at*
  generalize p.protos.map Fn.row=rprotos at*
  generalize p.row=pr at*
  generalize hown:(1+p.consts.length+p.ups.length+p.vars.length+p.code.length)=own at*
  rw [hde]at hd⊢
  refine Pure.of 0 (A0.enter Z1 (Nat.le_of_ble_eq_true rfl) (Run.go 100 ?_))
  simp -implicitDefEqProofs only [go_sem,A3,h1,h2,h5,h7,h8,h9,h10,k1,k2,k3,k4,k5]
  rw [show (1:Int)+p.consts.length+p.ups.length+p.vars.length+p.code.length=(own:Int) by omega]
  refine⟨by omega,by omega,by omega,by omega,?_⟩
  refine Run.roundsK (fun(x:Nat×Nat)=>⟨[(4,.int .i64 x.1),(3,.int .i64 (own+partsFs (p.protos.take x.1):Nat)),(1,.ptr (15*10000+1) 0 0 0)],[((15*10000+1),0,.rows 11 [pr])],x.2⟩)
   (fun x=>x.1≤p.protos.length) (fun x=>p.protos.length-x.1) (0,1) ?_ (Nat.zero_le _) ?_
  ·exact F7.wk ⟨B3.1 (by simp -implicitDefEqProofs only [go_sem,List.take_zero,partsFs,Nat.add_zero]),fun e he=>he,Nat.le_refl _⟩
  rintro⟨k,m⟩ hk ihl
  simp only at hk ihl⊢
  refine Run.unf A2N (Run.go 100 ?_)
  by_cases hlt:k<p.protos.length
  ·have q0:((k:Int)<(p.protos.length:Int))=True:=eq_true (by omega)
   have q1:((0:Int)≤(k:Int))=True:=eq_true (by omega)
   obtain⟨q,hx⟩: ∃x,p.protos[k]? =some x:=⟨p.protos[k],by simp [hlt]⟩
   have hxr:=rq k q hx
   have hzk:((k+1:Nat):Int)=(k:Int)+1:=by omega
   have hq:=ih q (List.mem_of_getElem? hx)
   have hqs:=Fn.row_sub E8 q
   obtain⟨g1,g2⟩:=B5 q
   have ht:p.protos.take (k+1)=p.protos.take k++ [q]:=by rw [List.take_add_one,hx];rfl
   have hm:partsFs (p.protos.take (k+1))=partsFs (p.protos.take k)+p7 q:=by rw [ht,A9m];simp [partsFs]
   have hle:=B7X p.protos (k+1)
   generalize hD:partsFs (p.protos.take (k+1))=D at*
   generalize partsFs (p.protos.take k)=d0 at*
   generalize q.row=qr at*
   simp -implicitDefEqProofs only [go_sem,q0,q1,k2,zq,g1,g2,h8,hxr,hlt,Option.some.injEq,forall_eq']
   refine A0.pureF hq (by simp -implicitDefEqProofs only [go_sem,hqs]) ?_
   have hsum:((own+d0:Nat):Int)+(p7 q:Int)=((own+D:Nat):Int):=by omega
   simp -implicitDefEqProofs only [go_sem,hsum]
   refine⟨by omega,by omega,?_⟩
   exact ihl _ (k+1,m) (by simp only;omega) (by simp only;omega) (F7.wk ⟨B3.1 (by simp -implicitDefEqProofs only [go_sem,hzk,hD]),fun e he=>he,Nat.le_refl _⟩)
  have e:k=p.protos.length:=by omega
  subst e
  rw [List.take_length]
  simp -implicitDefEqProofs only [go_sem,Int.lt_irrefl,h8,k2]
end Go.Proofs.YtflobbpcabopjaaGreatDoor
