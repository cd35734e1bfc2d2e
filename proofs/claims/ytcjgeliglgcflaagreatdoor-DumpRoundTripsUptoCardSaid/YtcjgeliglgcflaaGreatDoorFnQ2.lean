/-
 Equality of functions: of the parts. No condition.
-/
import Derived.Test.YtcjgeliglgcflaaGreatDoorFnCk
set_option linter.unusedVariables false
set_option linter.unusedSimpArgs false
set_option maxRecDepth 100000
set_option maxHeartbeats 0
namespace Go.Proofs.YtcjgeliglgcflaaGreatDoor
open Go.Abs
attribute [local irreducible] A3 Run J0
theorem A6f{α:Type}{a b:List α}{k:Nat}{x y:α}(h1:a[k]? =some x)(h2:b[k]? =some y)(h: ¬x=y): ¬a=b:=fun e=>by
 subst e;rw [h1]at h2;exact h (Option.some.inj h2)
theorem A1W{α:Type}{a b:List α}(hl:a.length=b.length)(h:a.take a.length=b.take a.length):a=b:=by
 rw [List.take_length,hl,List.take_length]at h;exact h
theorem O6{α:Type}{a b:List α}{k:Nat}{x:α}(h:a.take k=b.take k)(h1:a[k]? =some x)(h2:b[k]? =some x):a.take (k+1)=b.take (k+1):=by
 rw [List.take_add_one,List.take_add_one,h,h1,h2]
theorem B8F{x y:Ins}(h: ¬x=y):(decide (x.op=y.op)&&(decide (x.a=y.a)&&(decide (x.b=y.b)&&(decide (x.c=y.c)&&decide (x.d=y.d)))))=false:=by
 rw [Bool.eq_false_iff]
 intro hc
 simp only [Bool.and_eq_true,decide_eq_true_eq]at hc
 obtain⟨_⟩:=x;obtain⟨_⟩:=y
 simp_all
theorem B9x(a b:List Ins)(ha:a.length≤17592186043904):Pure Tryz.prog 26 [.isl (a.map Ins.row),.isl (b.map Ins.row)] (.bool (decide (a=b))):=by
 have la:(a.map Ins.row).length=a.length:=List.length_map ..
 have lb:(b.map Ins.row).length=b.length:=List.length_map ..
 have za:=eq_true (B8 Ins.row 5 (fun _=>rfl) a)
 have zb:=eq_true (B8 Ins.row 5 (fun _=>rfl) b)
 have ra: ∀(k:Nat) x,a[k]? =some x→(a.map Ins.row)[k]? =some (Ins.row x):=fun k x hk=>by rw [List.getElem?_map,hk];rfl
 have rb: ∀(k:Nat) x,b[k]? =some x→(b.map Ins.row)[k]? =some (Ins.row x):=fun k x hk=>by rw [List.getElem?_map,hk];rfl
 generalize a.map Ins.row=A at*
 generalize b.map Ins.row=B at*
 refine Pure.of 0 (A3.enter I4 (Nat.le_of_ble_eq_true rfl) (Run.go 100 ?_))
 by_cases hl:a.length=b.length
 ·have hl':((a.length:Int)=(b.length:Int))=True:=eq_true (by omega)
  simp -implicitDefEqProofs only [go_sem,A8,la,lb,hl']
  refine Run.rounds (fun(k:Nat)=>⟨[(13,.int .i64 k),(12,.int .i64 a.length),(1,.isl B),(0,.isl A)],[],0⟩) (fun k=>k≤a.length∧a.take k=b.take k) (fun k=>a.length-k) 0 (by simp -implicitDefEqProofs only [go_sem,hl']) ⟨Nat.zero_le _,rfl⟩ ?_
  rintro k ⟨hk,heq⟩ ih
  refine Run.unf T2 (Run.go 100 ?_)
  by_cases hlt:k<a.length
  ·have q0:((k:Int)<(a.length:Int))=True:=eq_true (by omega)
   have q1:((0:Int)≤(k:Int))=True:=eq_true (by omega)
   have q2:((k:Int)<(b.length:Int))=True:=eq_true (by omega)
   obtain⟨x,hx⟩: ∃x,a[k]? =some x:=⟨a[k],by simp [hlt]⟩
   obtain⟨y,hy⟩: ∃y,b[k]? =some y:=⟨b[k]'(by omega),by simp [show k<b.length by omega]⟩
   have hxr:=ra k x hx
   have hyr:=rb k y hy
   have hzk:((k+1:Nat):Int)=(k:Int)+1:=by omega
   by_cases hxy:x=y
   ·subst hxy
    simp -implicitDefEqProofs only [go_sem,q0,q1,q2,la,lb,za,zb,hxr,hyr,Ins.row,Option.some.injEq,forall_eq']
    refine⟨hlt,by omega,by omega,?_⟩
    exact ih _ (k+1) ⟨by omega,O6 heq hx hy⟩ (by omega) (by simp -implicitDefEqProofs only [go_sem,hzk])
   ·have hq:=B8F hxy
    have hne:=A6f hx hy hxy
    simp -implicitDefEqProofs only [go_sem,q0,q1,q2,la,lb,za,zb,hxr,hyr,Ins.row,hq,Option.some.injEq,forall_eq',hne]
    exact⟨hlt,by omega⟩
  ·have e:k=a.length:=by omega
   subst e
   simp -implicitDefEqProofs only [go_sem,Int.lt_irrefl,A1W hl heq]
 ·have hl':((a.length:Int)=(b.length:Int))=False:=eq_false (by omega)
  have hne: ¬a=b:=fun e=>hl (by rw [e])
  simp -implicitDefEqProofs only [go_sem,A8,la,lb,hl',hne]
theorem B8G{x y:Kst}(h: ¬x=y):(decide (x.kind=y.kind)&&((decide (x.p=y.p)&&decide (x.q=y.q))&&(decide (x.str=y.str)&&decide (x.ref=y.ref))))=false:=by
 rw [Bool.eq_false_iff]
 intro hc
 simp only [Bool.and_eq_true,decide_eq_true_eq]at hc
 obtain⟨_⟩:=x;obtain⟨_⟩:=y
 simp_all
theorem B9z(a b:List Kst)(ha:a.length≤17592186043904):Pure Tryz.prog 28 [.isl (a.map Kst.row),.isl (b.map Kst.row)] (.bool (decide (a=b))):=by
 have la:(a.map Kst.row).length=a.length:=List.length_map ..
 have lb:(b.map Kst.row).length=b.length:=List.length_map ..
 have za:=eq_true (B8 Kst.row 5 (fun _=>rfl) a)
 have zb:=eq_true (B8 Kst.row 5 (fun _=>rfl) b)
 have ra: ∀(k:Nat) x,a[k]? =some x→(a.map Kst.row)[k]? =some (Kst.row x):=fun k x hk=>by rw [List.getElem?_map,hk];rfl
 have rb: ∀(k:Nat) x,b[k]? =some x→(b.map Kst.row)[k]? =some (Kst.row x):=fun k x hk=>by rw [List.getElem?_map,hk];rfl
 generalize a.map Kst.row=A at*
 generalize b.map Kst.row=B at*
 refine Pure.of 0 (A3.enter I6 (Nat.le_of_ble_eq_true rfl) (Run.go 100 ?_))
 by_cases hl:a.length=b.length
 ·have hl':((a.length:Int)=(b.length:Int))=True:=eq_true (by omega)
  simp -implicitDefEqProofs only [go_sem,A8,la,lb,hl']
  refine Run.rounds (fun(k:Nat)=>⟨[(13,.int .i64 k),(12,.int .i64 a.length),(1,.isl B),(0,.isl A)],[],0⟩) (fun k=>k≤a.length∧a.take k=b.take k) (fun k=>a.length-k) 0 (by simp -implicitDefEqProofs only [go_sem,hl']) ⟨Nat.zero_le _,rfl⟩ ?_
  rintro k ⟨hk,heq⟩ ih
  refine Run.unf T3 (Run.go 100 ?_)
  by_cases hlt:k<a.length
  ·have q0:((k:Int)<(a.length:Int))=True:=eq_true (by omega)
   have q1:((0:Int)≤(k:Int))=True:=eq_true (by omega)
   have q2:((k:Int)<(b.length:Int))=True:=eq_true (by omega)
   obtain⟨x,hx⟩: ∃x,a[k]? =some x:=⟨a[k],by simp [hlt]⟩
   obtain⟨y,hy⟩: ∃y,b[k]? =some y:=⟨b[k]'(by omega),by simp [show k<b.length by omega]⟩
   have hxr:=ra k x hx
   have hyr:=rb k y hy
   have hzk:((k+1:Nat):Int)=(k:Int)+1:=by omega
   by_cases hxy:x=y
   ·subst hxy
    simp -implicitDefEqProofs only [go_sem,q0,q1,q2,la,lb,za,zb,hxr,hyr,Kst.row,Option.some.injEq,forall_eq']
    refine⟨hlt,by omega,by omega,?_⟩
    exact ih _ (k+1) ⟨by omega,O6 heq hx hy⟩ (by omega) (by simp -implicitDefEqProofs only [go_sem,hzk])
   ·have hq:=B8G hxy
    have hne:=A6f hx hy hxy
    simp -implicitDefEqProofs only [go_sem,q0,q1,q2,la,lb,za,zb,hxr,hyr,Kst.row,hq,Option.some.injEq,forall_eq',hne]
    exact⟨hlt,by omega⟩
  ·have e:k=a.length:=by omega
   subst e
   simp -implicitDefEqProofs only [go_sem,Int.lt_irrefl,A1W hl heq]
 ·have hl':((a.length:Int)=(b.length:Int))=False:=eq_false (by omega)
  have hne: ¬a=b:=fun e=>hl (by rw [e])
  simp -implicitDefEqProofs only [go_sem,A8,la,lb,hl',hne]
theorem B8H{x y:Upv}(h: ¬x=y):(decide (x.name=y.name)&&(decide (x.loc=y.loc)&&decide (x.idx=y.idx)))=false:=by
 rw [Bool.eq_false_iff]
 intro hc
 simp only [Bool.and_eq_true,decide_eq_true_eq]at hc
 obtain⟨_⟩:=x;obtain⟨_⟩:=y
 simp_all
theorem B9A(a b:List Upv)(ha:a.length≤17592186043904):Pure Tryz.prog 29 [.isl (a.map Upv.row),.isl (b.map Upv.row)] (.bool (decide (a=b))):=by
 have la:(a.map Upv.row).length=a.length:=List.length_map ..
 have lb:(b.map Upv.row).length=b.length:=List.length_map ..
 have za:=eq_true (B8 Upv.row 3 (fun _=>rfl) a)
 have zb:=eq_true (B8 Upv.row 3 (fun _=>rfl) b)
 have ra: ∀(k:Nat) x,a[k]? =some x→(a.map Upv.row)[k]? =some (Upv.row x):=fun k x hk=>by rw [List.getElem?_map,hk];rfl
 have rb: ∀(k:Nat) x,b[k]? =some x→(b.map Upv.row)[k]? =some (Upv.row x):=fun k x hk=>by rw [List.getElem?_map,hk];rfl
 generalize a.map Upv.row=A at*
 generalize b.map Upv.row=B at*
 refine Pure.of 0 (A3.enter P2 (Nat.le_of_ble_eq_true rfl) (Run.go 100 ?_))
 by_cases hl:a.length=b.length
 ·have hl':((a.length:Int)=(b.length:Int))=True:=eq_true (by omega)
  simp -implicitDefEqProofs only [go_sem,A8,la,lb,hl']
  refine Run.rounds (fun(k:Nat)=>⟨[(13,.int .i64 k),(12,.int .i64 a.length),(1,.isl B),(0,.isl A)],[],0⟩) (fun k=>k≤a.length∧a.take k=b.take k) (fun k=>a.length-k) 0 (by simp -implicitDefEqProofs only [go_sem,hl']) ⟨Nat.zero_le _,rfl⟩ ?_
  rintro k ⟨hk,heq⟩ ih
  refine Run.unf u6 (Run.go 100 ?_)
  by_cases hlt:k<a.length
  ·have q0:((k:Int)<(a.length:Int))=True:=eq_true (by omega)
   have q1:((0:Int)≤(k:Int))=True:=eq_true (by omega)
   have q2:((k:Int)<(b.length:Int))=True:=eq_true (by omega)
   obtain⟨x,hx⟩: ∃x,a[k]? =some x:=⟨a[k],by simp [hlt]⟩
   obtain⟨y,hy⟩: ∃y,b[k]? =some y:=⟨b[k]'(by omega),by simp [show k<b.length by omega]⟩
   have hxr:=ra k x hx
   have hyr:=rb k y hy
   have hzk:((k+1:Nat):Int)=(k:Int)+1:=by omega
   by_cases hxy:x=y
   ·subst hxy
    simp -implicitDefEqProofs only [go_sem,q0,q1,q2,la,lb,za,zb,hxr,hyr,Upv.row,Option.some.injEq,forall_eq']
    refine⟨hlt,by omega,by omega,?_⟩
    exact ih _ (k+1) ⟨by omega,O6 heq hx hy⟩ (by omega) (by simp -implicitDefEqProofs only [go_sem,hzk])
   ·have hq:=B8H hxy
    have hne:=A6f hx hy hxy
    simp -implicitDefEqProofs only [go_sem,q0,q1,q2,la,lb,za,zb,hxr,hyr,Upv.row,hq,Option.some.injEq,forall_eq',hne]
    exact⟨hlt,by omega⟩
  ·have e:k=a.length:=by omega
   subst e
   simp -implicitDefEqProofs only [go_sem,Int.lt_irrefl,A1W hl heq]
 ·have hl':((a.length:Int)=(b.length:Int))=False:=eq_false (by omega)
  have hne: ¬a=b:=fun e=>hl (by rw [e])
  simp -implicitDefEqProofs only [go_sem,A8,la,lb,hl',hne]
theorem C1L{x y:Vr}(h: ¬x=y):(decide (x.name=y.name)&&(decide (x.reg=y.reg)&&(decide (x.lo=y.lo)&&(decide (x.hi=y.hi)&&decide (x.attr=y.attr)))))=false:=by
 rw [Bool.eq_false_iff]
 intro hc
 simp only [Bool.and_eq_true,decide_eq_true_eq]at hc
 obtain⟨_⟩:=x;obtain⟨_⟩:=y
 simp_all
theorem C1h(a b:List Vr)(ha:a.length≤17592186043904):Pure Tryz.prog 30 [.isl (a.map Vr.row),.isl (b.map Vr.row)] (.bool (decide (a=b))):=by
 have la:(a.map Vr.row).length=a.length:=List.length_map ..
 have lb:(b.map Vr.row).length=b.length:=List.length_map ..
 have za:=eq_true (B8 Vr.row 5 (fun _=>rfl) a)
 have zb:=eq_true (B8 Vr.row 5 (fun _=>rfl) b)
 have ra: ∀(k:Nat) x,a[k]? =some x→(a.map Vr.row)[k]? =some (Vr.row x):=fun k x hk=>by rw [List.getElem?_map,hk];rfl
 have rb: ∀(k:Nat) x,b[k]? =some x→(b.map Vr.row)[k]? =some (Vr.row x):=fun k x hk=>by rw [List.getElem?_map,hk];rfl
 generalize a.map Vr.row=A at*
 generalize b.map Vr.row=B at*
 refine Pure.of 0 (A3.enter M9 (Nat.le_of_ble_eq_true rfl) (Run.go 100 ?_))
 by_cases hl:a.length=b.length
 ·have hl':((a.length:Int)=(b.length:Int))=True:=eq_true (by omega)
  simp -implicitDefEqProofs only [go_sem,A8,la,lb,hl']
  refine Run.rounds (fun(k:Nat)=>⟨[(13,.int .i64 k),(12,.int .i64 a.length),(1,.isl B),(0,.isl A)],[],0⟩) (fun k=>k≤a.length∧a.take k=b.take k) (fun k=>a.length-k) 0 (by simp -implicitDefEqProofs only [go_sem,hl']) ⟨Nat.zero_le _,rfl⟩ ?_
  rintro k ⟨hk,heq⟩ ih
  refine Run.unf W9 (Run.go 100 ?_)
  by_cases hlt:k<a.length
  ·have q0:((k:Int)<(a.length:Int))=True:=eq_true (by omega)
   have q1:((0:Int)≤(k:Int))=True:=eq_true (by omega)
   have q2:((k:Int)<(b.length:Int))=True:=eq_true (by omega)
   obtain⟨x,hx⟩: ∃x,a[k]? =some x:=⟨a[k],by simp [hlt]⟩
   obtain⟨y,hy⟩: ∃y,b[k]? =some y:=⟨b[k]'(by omega),by simp [show k<b.length by omega]⟩
   have hxr:=ra k x hx
   have hyr:=rb k y hy
   have hzk:((k+1:Nat):Int)=(k:Int)+1:=by omega
   by_cases hxy:x=y
   ·subst hxy
    simp -implicitDefEqProofs only [go_sem,q0,q1,q2,la,lb,za,zb,hxr,hyr,Vr.row,Option.some.injEq,forall_eq']
    refine⟨hlt,by omega,by omega,?_⟩
    exact ih _ (k+1) ⟨by omega,O6 heq hx hy⟩ (by omega) (by simp -implicitDefEqProofs only [go_sem,hzk])
   ·have hq:=C1L hxy
    have hne:=A6f hx hy hxy
    simp -implicitDefEqProofs only [go_sem,q0,q1,q2,la,lb,za,zb,hxr,hyr,Vr.row,hq,Option.some.injEq,forall_eq',hne]
    exact⟨hlt,by omega⟩
  ·have e:k=a.length:=by omega
   subst e
   simp -implicitDefEqProofs only [go_sem,Int.lt_irrefl,A1W hl heq]
 ·have hl':((a.length:Int)=(b.length:Int))=False:=eq_false (by omega)
  have hne: ¬a=b:=fun e=>hl (by rw [e])
  simp -implicitDefEqProofs only [go_sem,A8,la,lb,hl',hne]
theorem B9y(a b:List Int)(ha:a.length≤17592186043904):Pure Tryz.prog 27 [.isl (a.map D1),.isl (b.map D1)] (.bool (decide (a=b))):=by
 have la:(a.map D1).length=a.length:=List.length_map ..
 have lb:(b.map D1).length=b.length:=List.length_map ..
 have za:=eq_true (B8 D1 1 (fun _=>rfl) a)
 have zb:=eq_true (B8 D1 1 (fun _=>rfl) b)
 have ra: ∀(k:Nat) x,a[k]? =some x→(a.map D1)[k]? =some (D1 x):=fun k x hk=>by rw [List.getElem?_map,hk];rfl
 have rb: ∀(k:Nat) x,b[k]? =some x→(b.map D1)[k]? =some (D1 x):=fun k x hk=>by rw [List.getElem?_map,hk];rfl
 generalize a.map D1=A at*
 generalize b.map D1=B at*
 refine Pure.of 0 (A3.enter Z8 (Nat.le_of_ble_eq_true rfl) (Run.go 100 ?_))
 by_cases hl:a.length=b.length
 ·have hl':((a.length:Int)=(b.length:Int))=True:=eq_true (by omega)
  simp -implicitDefEqProofs only [go_sem,A8,la,lb,hl']
  refine Run.rounds (fun(k:Nat)=>⟨[(13,.int .i64 k),(12,.int .i64 a.length),(1,.isl B),(0,.isl A)],[],0⟩) (fun k=>k≤a.length∧a.take k=b.take k) (fun k=>a.length-k) 0 (by simp -implicitDefEqProofs only [go_sem,hl']) ⟨Nat.zero_le _,rfl⟩ ?_
  rintro k ⟨hk,heq⟩ ih
  refine Run.unf A2y (Run.go 100 ?_)
  by_cases hlt:k<a.length
  ·have q0:((k:Int)<(a.length:Int))=True:=eq_true (by omega)
   have q1:((0:Int)≤(k:Int))=True:=eq_true (by omega)
   have q2:((k:Int)<(b.length:Int))=True:=eq_true (by omega)
   obtain⟨x,hx⟩: ∃x,a[k]? =some x:=⟨a[k],by simp [hlt]⟩
   obtain⟨y,hy⟩: ∃y,b[k]? =some y:=⟨b[k]'(by omega),by simp [show k<b.length by omega]⟩
   have hxr:=ra k x hx
   have hyr:=rb k y hy
   have hzk:((k+1:Nat):Int)=(k:Int)+1:=by omega
   by_cases hxy:x=y
   ·simp -implicitDefEqProofs only [go_sem,q0,q1,q2,la,lb,za,zb,hxr,hyr,D1,hxy,Option.some.injEq,forall_eq']
    refine⟨hlt,by omega,by omega,?_⟩
    exact ih _ (k+1) ⟨by omega,O6 heq hx (hxy ▸ hy)⟩ (by omega) (by simp -implicitDefEqProofs only [go_sem,hzk])
   ·have hne:=A6f hx hy hxy
    simp -implicitDefEqProofs only [go_sem,q0,q1,q2,la,lb,za,zb,hxr,hyr,D1,hxy,Option.some.injEq,forall_eq',hne]
    exact⟨hlt,by omega⟩
  ·have e:k=a.length:=by omega
   subst e
   simp -implicitDefEqProofs only [go_sem,Int.lt_irrefl,A1W hl heq]
 ·have hl':((a.length:Int)=(b.length:Int))=False:=eq_false (by omega)
  have hne: ¬a=b:=fun e=>hl (by rw [e])
  simp -implicitDefEqProofs only [go_sem,A8,la,lb,hl',hne]
noncomputable def A9o (p q:Fn):Bool:=by
 classical exact decide (p=q)
theorem A7f{p q:Fn}(h:p=q):A9o p q=true:=by simp [A9o,h]
theorem K7{p q:Fn}(h: ¬p=q):A9o p q=false:=by simp [A9o,h]
noncomputable def B6t (a b:List Fn):Bool:=by
 classical exact decide (a=b)
theorem B3T{p q:List Fn}(h:p=q):B6t p q=true:=by simp [B6t,h]
theorem B2t{p q:List Fn}(h: ¬p=q):B6t p q=false:=by simp [B6t,h]
theorem Fn.ext'{p q:Fn}(h0:p.name=q.name)(h1:p.line=q.line)(h2:p.params=q.params)(h3:p.vararg=q.vararg)(h4:p.regs=q.regs)(h5:p.code=q.code)(h6:p.lines=q.lines)(h7:p.consts=q.consts)
  (h8:p.protos=q.protos) (h9:p.ups=q.ups) (h10:p.vars=q.vars):p=q:=by
 obtain⟨_⟩:=p;obtain⟨_⟩:=q
 simp_all
structure Cells(p:Fn)(r:List V):Prop where
 len:r.length=11
 tk:r.take 11=r
 g0:r[0]? =some (.str p.name)
 g1:r[1]? =some (.int .i64 p.line)
 g2:r[2]? =some (.int .i64 p.params)
 g3:r[3]? =some (.bool p.vararg)
 g4:r[4]? =some (.int .i64 p.regs)
 g5:r[5]? =some (.isl (p.code.map Ins.row))
 g6:r[6]? =some (.isl (p.lines.map D1))
 g7:r[7]? =some (.isl (p.consts.map Kst.row))
 g8:r[8]? =some (.isl (p.protos.map Fn.row))
 g9:r[9]? =some (.isl (p.ups.map Upv.row))
 g10:r[10]? =some (.isl (p.vars.map Vr.row))
theorem Fn.cells(p:Fn):Cells p p.row:=by
 have h:=C7 p
 refine⟨h.1,h.2,?_,?_,?_,?_,?_,?_,?_,?_,?_,?_,?_⟩<;>(rw [p.row_eq];rfl)
theorem B1H(a b:List Fn)(ha:a.length≤17592186043904)(hs: ∀p∈a,∀q,Pure Tryz.prog 10 [.agg p.row,.agg q.row] (.bool (A9o p q))):
  Pure Tryz.prog 31 [.isl (a.map Fn.row),.isl (b.map Fn.row),.fn 10 []] (.bool (B6t a b)):=by
 have la:(a.map Fn.row).length=a.length:=List.length_map ..
 have lb:(b.map Fn.row).length=b.length:=List.length_map ..
 have za:=eq_true (B8 Fn.row 11 Fn.row_len a)
 have zb:=eq_true (B8 Fn.row 11 Fn.row_len b)
 have ra: ∀(k:Nat) x,a[k]? =some x→(a.map Fn.row)[k]? =some (Fn.row x):=fun k x hk=>by rw [List.getElem?_map,hk];rfl
 have rb: ∀(k:Nat) x,b[k]? =some x→(b.map Fn.row)[k]? =some (Fn.row x):=fun k x hk=>by rw [List.getElem?_map,hk];rfl
 generalize a.map Fn.row=A at*
 generalize b.map Fn.row=B at*
 refine Pure.of 0 (A3.enter D7 (Nat.le_of_ble_eq_true rfl) (Run.go 100 ?_))
 by_cases hl:a.length=b.length
 ·have hl':((a.length:Int)=(b.length:Int))=True:=eq_true (by omega)
  simp -implicitDefEqProofs only [go_sem,A8,la,lb,hl']
  refine Run.roundsK (fun(x:Nat×Nat)=>⟨[(17,.int .i64 x.1),(16,.int .i64 a.length),(15,.isl A),(2,.fn 10 []),(1,.isl B),(0,.isl A)],[],x.2⟩) (fun x=>x.1≤a.length∧a.take x.1=b.take x.1) (fun x=>a.length-x.1) (0,0) (O8.wk (by simp -implicitDefEqProofs only [go_sem,hl'])) ⟨Nat.zero_le _,rfl⟩ ?_
  rintro⟨k,n⟩ ⟨hk,heq⟩ ih
  simp only at hk heq ih⊢
  refine Run.unf F3 (Run.go 100 ?_)
  by_cases hlt:k<a.length
  ·have q0:((k:Int)<(a.length:Int))=True:=eq_true (by omega)
   have q1:((0:Int)≤(k:Int))=True:=eq_true (by omega)
   have q2:((k:Int)<(b.length:Int))=True:=eq_true (by omega)
   obtain⟨x,hx⟩: ∃x,a[k]? =some x:=⟨a[k],by simp [hlt]⟩
   obtain⟨y,hy⟩: ∃y,b[k]? =some y:=⟨b[k]'(by omega),by simp [show k<b.length by omega]⟩
   have hxr:=ra k x hx
   have hyr:=rb k y hy
   have hzk:((k+1:Nat):Int)=(k:Int)+1:=by omega
   have hc:=hs x (List.mem_of_getElem? hx) y
   obtain⟨f1,f2⟩:=C7 x
   obtain⟨e1,e2⟩:=C7 y
   have sx:=Fn.row_sub G6 x
   have sy:=Fn.row_sub G6 y
   generalize x.row=xr at*
   generalize y.row=yr at*
   simp -implicitDefEqProofs only [go_sem,q0,q1,q2,la,lb,za,zb,hxr,hyr,f1,f2,e1,e2,Option.some.injEq,forall_eq',List.append_nil]
   refine⟨hlt,by omega,by kernel_rfl,?_⟩
   refine A3.pureF hc (by simp -implicitDefEqProofs only [go_sem,sx,sy]) ?_
   by_cases hxy:x=y
   ·simp -implicitDefEqProofs only [go_sem,A7f hxy]
    refine⟨by omega,?_⟩
    exact ih _ (k+1,n+1+1) ⟨by simp only;omega,O6 heq hx (hxy ▸ hy)⟩ (by simp only;omega) (O8.wk (by simp -implicitDefEqProofs only [go_sem,hzk]))
   ·simp -implicitDefEqProofs only [go_sem,K7 hxy,B2t (A6f hx hy hxy)]
  ·have e:k=a.length:=by omega
   subst e
   simp -implicitDefEqProofs only [go_sem,Int.lt_irrefl,B3T (A1W hl heq)]
 ·have hl':((a.length:Int)=(b.length:Int))=False:=eq_false (by omega)
  have hne: ¬a=b:=fun e=>hl (by rw [e])
  simp -implicitDefEqProofs only [go_sem,A8,la,lb,hl',B2t hne]
theorem A9Z(p:Fn)(hp:p.bd): ∀q,Pure Tryz.prog 10 [.agg p.row,.agg q.row] (.bool (A9o p q)):=by
 induction p using Fn.ind with
 |h p ih=>
  intro q
  have hl:=hp.self
  have cp:=p.cells
  have cq:=q.cells
  have c5:=B9x p.code q.code (Nat.le_trans hl.code (by decide))
  have c6:=B9y p.lines q.lines (Nat.le_trans hl.lines (by decide))
  have c7:=B9z p.consts q.consts (Nat.le_trans hl.consts (by decide))
  have c8:=B1H p.protos q.protos (Nat.le_trans hl.protos (by decide)) fun x hx y=>ih x hx (hp.child hx) y
  have c9:=B9A p.ups q.ups (Nat.le_trans hl.ups (by decide))
  have c10:=C1h p.vars q.vars (Nat.le_trans hl.vars (by decide))
  have s5:=fun(l:List Ins)=>C5 G6 _ l fun x _=>Ins.row_sub G6 x
  have s6:=fun(l:List Int)=>C5 G6 _ l fun x _=>A8P G6 x
  have s7:=fun(l:List Kst)=>C5 G6 _ l fun x _=>Kst.row_sub G6 x
  have s8:=fun(l:List Fn)=>Fn.rows_sub G6 l
  have s9:=fun(l:List Upv)=>C5 G6 _ l fun x _=>Upv.row_sub G6 x
  have s10:=fun(l:List Vr)=>C5 G6 _ l fun x _=>Vr.row_sub G6 x
  generalize p.row=pr at*
  generalize q.row=qr at*
  refine Pure.of 0 (A3.enter A7C (Nat.le_of_ble_eq_true rfl) (Run.go 100 ?_))
  by_cases h0:p.name=q.name
  case neg=>simp -implicitDefEqProofs only [go_sem,A8,cp.len,cp.tk,cq.len,cq.tk,cp.g0,cp.g1,cp.g2,cp.g3,cp.g4,cp.g5,cp.g6,cp.g7,cp.g8,cp.g9,cp.g10,cq.g0,cq.g1,cq.g2,cq.g3,cq.g4,cq.g5,cq.g6,cq.g7,cq.g8,cq.g9,cq.g10,h0,K7 fun(e:p=q)=>h0 (by rw [e])]
  by_cases h1:p.line=q.line
  case neg=>simp -implicitDefEqProofs only [go_sem,A8,cp.len,cp.tk,cq.len,cq.tk,cp.g0,cp.g1,cp.g2,cp.g3,cp.g4,cp.g5,cp.g6,cp.g7,cp.g8,cp.g9,cp.g10,cq.g0,cq.g1,cq.g2,cq.g3,cq.g4,cq.g5,cq.g6,cq.g7,cq.g8,cq.g9,cq.g10,h0,h1,K7 fun(e:p=q)=>h1 (by rw [e])]
  by_cases h2:p.params=q.params
  case neg=>simp -implicitDefEqProofs only [go_sem,A8,cp.len,cp.tk,cq.len,cq.tk,cp.g0,cp.g1,cp.g2,cp.g3,cp.g4,cp.g5,cp.g6,cp.g7,cp.g8,cp.g9,cp.g10,cq.g0,cq.g1,cq.g2,cq.g3,cq.g4,cq.g5,cq.g6,cq.g7,cq.g8,cq.g9,cq.g10,h0,h1,h2,K7 fun(e:p=q)=>h2 (by rw [e])]
  by_cases h3:p.vararg=q.vararg
  case neg=>simp -implicitDefEqProofs only [go_sem,A8,cp.len,cp.tk,cq.len,cq.tk,cp.g0,cp.g1,cp.g2,cp.g3,cp.g4,cp.g5,cp.g6,cp.g7,cp.g8,cp.g9,cp.g10,cq.g0,cq.g1,cq.g2,cq.g3,cq.g4,cq.g5,cq.g6,cq.g7,cq.g8,cq.g9,cq.g10,h0,h1,h2,h3,K7 fun(e:p=q)=>h3 (by rw [e])]
  by_cases h4:p.regs=q.regs
  case neg=>simp -implicitDefEqProofs only [go_sem,A8,cp.len,cp.tk,cq.len,cq.tk,cp.g0,cp.g1,cp.g2,cp.g3,cp.g4,cp.g5,cp.g6,cp.g7,cp.g8,cp.g9,cp.g10,cq.g0,cq.g1,cq.g2,cq.g3,cq.g4,cq.g5,cq.g6,cq.g7,cq.g8,cq.g9,cq.g10,h0,h1,h2,h3,h4,K7 fun(e:p=q)=>h4 (by rw [e])]
  simp -implicitDefEqProofs only [go_sem,A8,cp.len,cp.tk,cq.len,cq.tk,cp.g0,cp.g1,cp.g2,cp.g3,cp.g4,cp.g5,cp.g6,cp.g7,cp.g8,cp.g9,cp.g10,cq.g0,cq.g1,cq.g2,cq.g3,cq.g4,cq.g5,cq.g6,cq.g7,cq.g8,cq.g9,cq.g10,h0,h1,h2,h3,h4]
  refine A3.pureF c5 (by simp -implicitDefEqProofs only [go_sem,s5]) ?_
  by_cases h5:p.code=q.code
  case neg=>simp -implicitDefEqProofs only [go_sem,h5,cp.g5,cp.g6,K7 fun(e:p=q)=>h5 (by rw [e])]
  simp only [h5,decide_true]
  simp -implicitDefEqProofs only [go_sem,cp.g6,cp.g7,cp.g8,cp.g9,cp.g10,cq.g6,cq.g7,cq.g8,cq.g9,cq.g10]
  refine A3.pureF c6 (by simp -implicitDefEqProofs only [go_sem,s6]) ?_
  by_cases h6:p.lines=q.lines
  case neg=>simp -implicitDefEqProofs only [go_sem,h6,cp.g5,cp.g6,K7 fun(e:p=q)=>h6 (by rw [e])]
  simp only [h6,decide_true]
  simp -implicitDefEqProofs only [go_sem,cp.g6,cp.g7,cp.g8,cp.g9,cp.g10,cq.g6,cq.g7,cq.g8,cq.g9,cq.g10]
  refine A3.pureF c7 (by simp -implicitDefEqProofs only [go_sem,s7]) ?_
  by_cases h7:p.consts=q.consts
  case neg=>simp -implicitDefEqProofs only [go_sem,h7,cp.g5,cp.g6,K7 fun(e:p=q)=>h7 (by rw [e])]
  simp only [h7,decide_true]
  simp -implicitDefEqProofs only [go_sem,cp.g6,cp.g7,cp.g8,cp.g9,cp.g10,cq.g6,cq.g7,cq.g8,cq.g9,cq.g10]
  refine A3.pureF c9 (by simp -implicitDefEqProofs only [go_sem,s9]) ?_
  by_cases h9:p.ups=q.ups
  case neg=>simp -implicitDefEqProofs only [go_sem,h9,cp.g5,cp.g6,K7 fun(e:p=q)=>h9 (by rw [e])]
  simp only [h9,decide_true]
  simp -implicitDefEqProofs only [go_sem,cp.g6,cp.g7,cp.g8,cp.g9,cp.g10,cq.g6,cq.g7,cq.g8,cq.g9,cq.g10]
  refine A3.pureF c10 (by simp -implicitDefEqProofs only [go_sem,s10]) ?_
  by_cases h10:p.vars=q.vars
  case neg=>simp -implicitDefEqProofs only [go_sem,h10,cp.g5,cp.g6,K7 fun(e:p=q)=>h10 (by rw [e])]
  simp only [h10,decide_true]
  simp -implicitDefEqProofs only [go_sem,cp.g6,cp.g7,cp.g8,cp.g9,cp.g10,cq.g6,cq.g7,cq.g8,cq.g9,cq.g10]
  refine A3.pureF c8 (by simp -implicitDefEqProofs only [go_sem,s8]) ?_
  by_cases h8:p.protos=q.protos
  case neg=>simp -implicitDefEqProofs only [go_sem,B2t h8,K7 fun(e:p=q)=>h8 (by rw [e])]
  simp -implicitDefEqProofs only [go_sem,B3T h8,A7f (Fn.ext' h0 h1 h2 h3 h4 h5 h6 h7 h8 h9 h10)]
end Go.Proofs.YtcjgeliglgcflaaGreatDoor
