/-
 Equality of functions: of the parts. No condition.
-/
import Derived.Test.YtflobbpcabopjaaGreatDoorFnCk
set_option linter.unusedVariables false
set_option linter.unusedSimpArgs false
set_option maxRecDepth 100000
set_option maxHeartbeats 0
namespace Go.Proofs.YtflobbpcabopjaaGreatDoor
open Go.Abs
attribute [local irreducible] A0 Run G9
theorem B7a{α:Type}{a b:List α}{k:Nat}{x y:α}(h1:a[k]? =some x)(h2:b[k]? =some y)(h: ¬x=y): ¬a=b:=fun e=>by
 subst e;rw [h1]at h2;exact h (Option.some.inj h2)
theorem B3d{α:Type}{a b:List α}(hl:a.length=b.length)(h:a.take a.length=b.take a.length):a=b:=by
 rw [List.take_length,hl,List.take_length]at h;exact h
theorem A2h{α:Type}{a b:List α}{k:Nat}{x:α}(h:a.take k=b.take k)(h1:a[k]? =some x)(h2:b[k]? =some x):a.take (k+1)=b.take (k+1):=by
 rw [List.take_add_one,List.take_add_one,h,h1,h2]
theorem C7j{x y:Ins}(h: ¬x=y):(decide (x.op=y.op)&&(decide (x.a=y.a)&&(decide (x.b=y.b)&&(decide (x.c=y.c)&&decide (x.d=y.d)))))=false:=by
 rw [Bool.eq_false_iff]
 intro hc
 simp only [Bool.and_eq_true,decide_eq_true_eq]at hc
 obtain⟨_⟩:=x;obtain⟨_⟩:=y
 simp_all
theorem C2V(a b:List Ins)(ha:a.length≤17592186043904):Pure Tryz.prog 36 [.isl (a.map Ins.row),.isl (b.map Ins.row)] (.bool (decide (a=b))):=by
 have la:(a.map Ins.row).length=a.length:=List.length_map ..
 have lb:(b.map Ins.row).length=b.length:=List.length_map ..
 have za:=eq_true (A7 Ins.row 5 (fun _=>rfl) a)
 have zb:=eq_true (A7 Ins.row 5 (fun _=>rfl) b)
 have ra: ∀(k:Nat) x,a[k]? =some x→(a.map Ins.row)[k]? =some (Ins.row x):=fun k x hk=>by rw [List.getElem?_map,hk];rfl
 have rb: ∀(k:Nat) x,b[k]? =some x→(b.map Ins.row)[k]? =some (Ins.row x):=fun k x hk=>by rw [List.getElem?_map,hk];rfl
 generalize a.map Ins.row=A at*
 generalize b.map Ins.row=B at*
 refine Pure.of 0 (A0.enter J3 (Nat.le_of_ble_eq_true rfl) (Run.go 100 ?_))
 by_cases hl:a.length=b.length
 ·have hl':((a.length:Int)=(b.length:Int))=True:=eq_true (by omega)
  simp -implicitDefEqProofs only [go_sem,A3,la,lb,hl']
  refine Run.rounds (fun(k:Nat)=>⟨[(13,.int .i64 k),(12,.int .i64 a.length),(1,.isl B),(0,.isl A)],[],0⟩) (fun k=>k≤a.length∧a.take k=b.take k) (fun k=>a.length-k) 0 (by simp -implicitDefEqProofs only [go_sem,hl']) ⟨Nat.zero_le _,rfl⟩ ?_
  rintro k ⟨hk,heq⟩ ih
  refine Run.unf T3 (Run.go 100 ?_)
  by_cases hlt:k<a.length
  ·have q0:((k:Int)<(a.length:Int))=True:=eq_true (by omega)
   have q1:((0:Int)≤(k:Int))=True:=eq_true (by omega)
   have q2:((k:Int)<(b.length:Int))=True:=eq_true (by omega)
   obtain⟨x,hx⟩: ∃x,a[k]? =some x:=⟨a[k],by simp [hlt]⟩
   obtain⟨y,hy⟩: ∃y,b[k]? =some y:=⟨b[k]'(by omega),by simp [show k<b.length by omega]⟩
   have hxr:=ra k x hx
   have hyr:=rb k y hy
   have hzk:((k+1:Nat):Int)=(k:Int)+1:=by omega
   by_cases hxy:x=y
   ·subst hxy
    simp -implicitDefEqProofs only [go_sem,q0,q1,q2,la,lb,za,zb,hxr,hyr,Ins.row,Option.some.injEq,forall_eq']
    refine⟨hlt,by omega,by omega,?_⟩
    exact ih _ (k+1) ⟨by omega,A2h heq hx hy⟩ (by omega) (by simp -implicitDefEqProofs only [go_sem,hzk])
   ·have hq:=C7j hxy
    have hne:=B7a hx hy hxy
    simp -implicitDefEqProofs only [go_sem,q0,q1,q2,la,lb,za,zb,hxr,hyr,Ins.row,hq,Option.some.injEq,forall_eq',hne]
    exact⟨hlt,by omega⟩
  ·have e:k=a.length:=by omega
   subst e
   simp -implicitDefEqProofs only [go_sem,Int.lt_irrefl,B3d hl heq]
 ·have hl':((a.length:Int)=(b.length:Int))=False:=eq_false (by omega)
  have hne: ¬a=b:=fun e=>hl (by rw [e])
  simp -implicitDefEqProofs only [go_sem,A3,la,lb,hl',hne]
theorem C7k{x y:Kst}(h: ¬x=y):(decide (x.kind=y.kind)&&((decide (x.p=y.p)&&decide (x.q=y.q))&&(decide (x.str=y.str)&&decide (x.ref=y.ref))))=false:=by
 rw [Bool.eq_false_iff]
 intro hc
 simp only [Bool.and_eq_true,decide_eq_true_eq]at hc
 obtain⟨_⟩:=x;obtain⟨_⟩:=y
 simp_all
theorem C2X(a b:List Kst)(ha:a.length≤17592186043904):Pure Tryz.prog 38 [.isl (a.map Kst.row),.isl (b.map Kst.row)] (.bool (decide (a=b))):=by
 have la:(a.map Kst.row).length=a.length:=List.length_map ..
 have lb:(b.map Kst.row).length=b.length:=List.length_map ..
 have za:=eq_true (A7 Kst.row 5 (fun _=>rfl) a)
 have zb:=eq_true (A7 Kst.row 5 (fun _=>rfl) b)
 have ra: ∀(k:Nat) x,a[k]? =some x→(a.map Kst.row)[k]? =some (Kst.row x):=fun k x hk=>by rw [List.getElem?_map,hk];rfl
 have rb: ∀(k:Nat) x,b[k]? =some x→(b.map Kst.row)[k]? =some (Kst.row x):=fun k x hk=>by rw [List.getElem?_map,hk];rfl
 generalize a.map Kst.row=A at*
 generalize b.map Kst.row=B at*
 refine Pure.of 0 (A0.enter J5 (Nat.le_of_ble_eq_true rfl) (Run.go 100 ?_))
 by_cases hl:a.length=b.length
 ·have hl':((a.length:Int)=(b.length:Int))=True:=eq_true (by omega)
  simp -implicitDefEqProofs only [go_sem,A3,la,lb,hl']
  refine Run.rounds (fun(k:Nat)=>⟨[(13,.int .i64 k),(12,.int .i64 a.length),(1,.isl B),(0,.isl A)],[],0⟩) (fun k=>k≤a.length∧a.take k=b.take k) (fun k=>a.length-k) 0 (by simp -implicitDefEqProofs only [go_sem,hl']) ⟨Nat.zero_le _,rfl⟩ ?_
  rintro k ⟨hk,heq⟩ ih
  refine Run.unf T4 (Run.go 100 ?_)
  by_cases hlt:k<a.length
  ·have q0:((k:Int)<(a.length:Int))=True:=eq_true (by omega)
   have q1:((0:Int)≤(k:Int))=True:=eq_true (by omega)
   have q2:((k:Int)<(b.length:Int))=True:=eq_true (by omega)
   obtain⟨x,hx⟩: ∃x,a[k]? =some x:=⟨a[k],by simp [hlt]⟩
   obtain⟨y,hy⟩: ∃y,b[k]? =some y:=⟨b[k]'(by omega),by simp [show k<b.length by omega]⟩
   have hxr:=ra k x hx
   have hyr:=rb k y hy
   have hzk:((k+1:Nat):Int)=(k:Int)+1:=by omega
   by_cases hxy:x=y
   ·subst hxy
    simp -implicitDefEqProofs only [go_sem,q0,q1,q2,la,lb,za,zb,hxr,hyr,Kst.row,Option.some.injEq,forall_eq']
    refine⟨hlt,by omega,by omega,?_⟩
    exact ih _ (k+1) ⟨by omega,A2h heq hx hy⟩ (by omega) (by simp -implicitDefEqProofs only [go_sem,hzk])
   ·have hq:=C7k hxy
    have hne:=B7a hx hy hxy
    simp -implicitDefEqProofs only [go_sem,q0,q1,q2,la,lb,za,zb,hxr,hyr,Kst.row,hq,Option.some.injEq,forall_eq',hne]
    exact⟨hlt,by omega⟩
  ·have e:k=a.length:=by omega
   subst e
   simp -implicitDefEqProofs only [go_sem,Int.lt_irrefl,B3d hl heq]
 ·have hl':((a.length:Int)=(b.length:Int))=False:=eq_false (by omega)
  have hne: ¬a=b:=fun e=>hl (by rw [e])
  simp -implicitDefEqProofs only [go_sem,A3,la,lb,hl',hne]
theorem C7l{x y:Upv}(h: ¬x=y):(decide (x.name=y.name)&&(decide (x.loc=y.loc)&&decide (x.idx=y.idx)))=false:=by
 rw [Bool.eq_false_iff]
 intro hc
 simp only [Bool.and_eq_true,decide_eq_true_eq]at hc
 obtain⟨_⟩:=x;obtain⟨_⟩:=y
 simp_all
theorem C2Y(a b:List Upv)(ha:a.length≤17592186043904):Pure Tryz.prog 39 [.isl (a.map Upv.row),.isl (b.map Upv.row)] (.bool (decide (a=b))):=by
 have la:(a.map Upv.row).length=a.length:=List.length_map ..
 have lb:(b.map Upv.row).length=b.length:=List.length_map ..
 have za:=eq_true (A7 Upv.row 3 (fun _=>rfl) a)
 have zb:=eq_true (A7 Upv.row 3 (fun _=>rfl) b)
 have ra: ∀(k:Nat) x,a[k]? =some x→(a.map Upv.row)[k]? =some (Upv.row x):=fun k x hk=>by rw [List.getElem?_map,hk];rfl
 have rb: ∀(k:Nat) x,b[k]? =some x→(b.map Upv.row)[k]? =some (Upv.row x):=fun k x hk=>by rw [List.getElem?_map,hk];rfl
 generalize a.map Upv.row=A at*
 generalize b.map Upv.row=B at*
 refine Pure.of 0 (A0.enter O4 (Nat.le_of_ble_eq_true rfl) (Run.go 100 ?_))
 by_cases hl:a.length=b.length
 ·have hl':((a.length:Int)=(b.length:Int))=True:=eq_true (by omega)
  simp -implicitDefEqProofs only [go_sem,A3,la,lb,hl']
  refine Run.rounds (fun(k:Nat)=>⟨[(13,.int .i64 k),(12,.int .i64 a.length),(1,.isl B),(0,.isl A)],[],0⟩) (fun k=>k≤a.length∧a.take k=b.take k) (fun k=>a.length-k) 0 (by simp -implicitDefEqProofs only [go_sem,hl']) ⟨Nat.zero_le _,rfl⟩ ?_
  rintro k ⟨hk,heq⟩ ih
  refine Run.unf A0l (Run.go 100 ?_)
  by_cases hlt:k<a.length
  ·have q0:((k:Int)<(a.length:Int))=True:=eq_true (by omega)
   have q1:((0:Int)≤(k:Int))=True:=eq_true (by omega)
   have q2:((k:Int)<(b.length:Int))=True:=eq_true (by omega)
   obtain⟨x,hx⟩: ∃x,a[k]? =some x:=⟨a[k],by simp [hlt]⟩
   obtain⟨y,hy⟩: ∃y,b[k]? =some y:=⟨b[k]'(by omega),by simp [show k<b.length by omega]⟩
   have hxr:=ra k x hx
   have hyr:=rb k y hy
   have hzk:((k+1:Nat):Int)=(k:Int)+1:=by omega
   by_cases hxy:x=y
   ·subst hxy
    simp -implicitDefEqProofs only [go_sem,q0,q1,q2,la,lb,za,zb,hxr,hyr,Upv.row,Option.some.injEq,forall_eq']
    refine⟨hlt,by omega,by omega,?_⟩
    exact ih _ (k+1) ⟨by omega,A2h heq hx hy⟩ (by omega) (by simp -implicitDefEqProofs only [go_sem,hzk])
   ·have hq:=C7l hxy
    have hne:=B7a hx hy hxy
    simp -implicitDefEqProofs only [go_sem,q0,q1,q2,la,lb,za,zb,hxr,hyr,Upv.row,hq,Option.some.injEq,forall_eq',hne]
    exact⟨hlt,by omega⟩
  ·have e:k=a.length:=by omega
   subst e
   simp -implicitDefEqProofs only [go_sem,Int.lt_irrefl,B3d hl heq]
 ·have hl':((a.length:Int)=(b.length:Int))=False:=eq_false (by omega)
  have hne: ¬a=b:=fun e=>hl (by rw [e])
  simp -implicitDefEqProofs only [go_sem,A3,la,lb,hl',hne]
theorem D0f{x y:Vr}(h: ¬x=y):(decide (x.name=y.name)&&(decide (x.reg=y.reg)&&(decide (x.lo=y.lo)&&(decide (x.hi=y.hi)&&decide (x.attr=y.attr)))))=false:=by
 rw [Bool.eq_false_iff]
 intro hc
 simp only [Bool.and_eq_true,decide_eq_true_eq]at hc
 obtain⟨_⟩:=x;obtain⟨_⟩:=y
 simp_all
theorem C4P(a b:List Vr)(ha:a.length≤17592186043904):Pure Tryz.prog 40 [.isl (a.map Vr.row),.isl (b.map Vr.row)] (.bool (decide (a=b))):=by
 have la:(a.map Vr.row).length=a.length:=List.length_map ..
 have lb:(b.map Vr.row).length=b.length:=List.length_map ..
 have za:=eq_true (A7 Vr.row 5 (fun _=>rfl) a)
 have zb:=eq_true (A7 Vr.row 5 (fun _=>rfl) b)
 have ra: ∀(k:Nat) x,a[k]? =some x→(a.map Vr.row)[k]? =some (Vr.row x):=fun k x hk=>by rw [List.getElem?_map,hk];rfl
 have rb: ∀(k:Nat) x,b[k]? =some x→(b.map Vr.row)[k]? =some (Vr.row x):=fun k x hk=>by rw [List.getElem?_map,hk];rfl
 generalize a.map Vr.row=A at*
 generalize b.map Vr.row=B at*
 refine Pure.of 0 (A0.enter M1 (Nat.le_of_ble_eq_true rfl) (Run.go 100 ?_))
 by_cases hl:a.length=b.length
 ·have hl':((a.length:Int)=(b.length:Int))=True:=eq_true (by omega)
  simp -implicitDefEqProofs only [go_sem,A3,la,lb,hl']
  refine Run.rounds (fun(k:Nat)=>⟨[(13,.int .i64 k),(12,.int .i64 a.length),(1,.isl B),(0,.isl A)],[],0⟩) (fun k=>k≤a.length∧a.take k=b.take k) (fun k=>a.length-k) 0 (by simp -implicitDefEqProofs only [go_sem,hl']) ⟨Nat.zero_le _,rfl⟩ ?_
  rintro k ⟨hk,heq⟩ ih
  refine Run.unf Y5 (Run.go 100 ?_)
  by_cases hlt:k<a.length
  ·have q0:((k:Int)<(a.length:Int))=True:=eq_true (by omega)
   have q1:((0:Int)≤(k:Int))=True:=eq_true (by omega)
   have q2:((k:Int)<(b.length:Int))=True:=eq_true (by omega)
   obtain⟨x,hx⟩: ∃x,a[k]? =some x:=⟨a[k],by simp [hlt]⟩
   obtain⟨y,hy⟩: ∃y,b[k]? =some y:=⟨b[k]'(by omega),by simp [show k<b.length by omega]⟩
   have hxr:=ra k x hx
   have hyr:=rb k y hy
   have hzk:((k+1:Nat):Int)=(k:Int)+1:=by omega
   by_cases hxy:x=y
   ·subst hxy
    simp -implicitDefEqProofs only [go_sem,q0,q1,q2,la,lb,za,zb,hxr,hyr,Vr.row,Option.some.injEq,forall_eq']
    refine⟨hlt,by omega,by omega,?_⟩
    exact ih _ (k+1) ⟨by omega,A2h heq hx hy⟩ (by omega) (by simp -implicitDefEqProofs only [go_sem,hzk])
   ·have hq:=D0f hxy
    have hne:=B7a hx hy hxy
    simp -implicitDefEqProofs only [go_sem,q0,q1,q2,la,lb,za,zb,hxr,hyr,Vr.row,hq,Option.some.injEq,forall_eq',hne]
    exact⟨hlt,by omega⟩
  ·have e:k=a.length:=by omega
   subst e
   simp -implicitDefEqProofs only [go_sem,Int.lt_irrefl,B3d hl heq]
 ·have hl':((a.length:Int)=(b.length:Int))=False:=eq_false (by omega)
  have hne: ¬a=b:=fun e=>hl (by rw [e])
  simp -implicitDefEqProofs only [go_sem,A3,la,lb,hl',hne]
theorem C2W(a b:List Int)(ha:a.length≤17592186043904):Pure Tryz.prog 37 [.isl (a.map C7),.isl (b.map C7)] (.bool (decide (a=b))):=by
 have la:(a.map C7).length=a.length:=List.length_map ..
 have lb:(b.map C7).length=b.length:=List.length_map ..
 have za:=eq_true (A7 C7 1 (fun _=>rfl) a)
 have zb:=eq_true (A7 C7 1 (fun _=>rfl) b)
 have ra: ∀(k:Nat) x,a[k]? =some x→(a.map C7)[k]? =some (C7 x):=fun k x hk=>by rw [List.getElem?_map,hk];rfl
 have rb: ∀(k:Nat) x,b[k]? =some x→(b.map C7)[k]? =some (C7 x):=fun k x hk=>by rw [List.getElem?_map,hk];rfl
 generalize a.map C7=A at*
 generalize b.map C7=B at*
 refine Pure.of 0 (A0.enter j8 (Nat.le_of_ble_eq_true rfl) (Run.go 100 ?_))
 by_cases hl:a.length=b.length
 ·have hl':((a.length:Int)=(b.length:Int))=True:=eq_true (by omega)
  simp -implicitDefEqProofs only [go_sem,A3,la,lb,hl']
  refine Run.rounds (fun(k:Nat)=>⟨[(13,.int .i64 k),(12,.int .i64 a.length),(1,.isl B),(0,.isl A)],[],0⟩) (fun k=>k≤a.length∧a.take k=b.take k) (fun k=>a.length-k) 0 (by simp -implicitDefEqProofs only [go_sem,hl']) ⟨Nat.zero_le _,rfl⟩ ?_
  rintro k ⟨hk,heq⟩ ih
  refine Run.unf A3a (Run.go 100 ?_)
  by_cases hlt:k<a.length
  ·have q0:((k:Int)<(a.length:Int))=True:=eq_true (by omega)
   have q1:((0:Int)≤(k:Int))=True:=eq_true (by omega)
   have q2:((k:Int)<(b.length:Int))=True:=eq_true (by omega)
   obtain⟨x,hx⟩: ∃x,a[k]? =some x:=⟨a[k],by simp [hlt]⟩
   obtain⟨y,hy⟩: ∃y,b[k]? =some y:=⟨b[k]'(by omega),by simp [show k<b.length by omega]⟩
   have hxr:=ra k x hx
   have hyr:=rb k y hy
   have hzk:((k+1:Nat):Int)=(k:Int)+1:=by omega
   by_cases hxy:x=y
   ·simp -implicitDefEqProofs only [go_sem,q0,q1,q2,la,lb,za,zb,hxr,hyr,C7,hxy,Option.some.injEq,forall_eq']
    refine⟨hlt,by omega,by omega,?_⟩
    exact ih _ (k+1) ⟨by omega,A2h heq hx (hxy ▸ hy)⟩ (by omega) (by simp -implicitDefEqProofs only [go_sem,hzk])
   ·have hne:=B7a hx hy hxy
    simp -implicitDefEqProofs only [go_sem,q0,q1,q2,la,lb,za,zb,hxr,hyr,C7,hxy,Option.some.injEq,forall_eq',hne]
    exact⟨hlt,by omega⟩
  ·have e:k=a.length:=by omega
   subst e
   simp -implicitDefEqProofs only [go_sem,Int.lt_irrefl,B3d hl heq]
 ·have hl':((a.length:Int)=(b.length:Int))=False:=eq_false (by omega)
  have hne: ¬a=b:=fun e=>hl (by rw [e])
  simp -implicitDefEqProofs only [go_sem,A3,la,lb,hl',hne]
end Go.Proofs.YtflobbpcabopjaaGreatDoor
