/-
 What the reference's 'Reads' and 'Writes' answer. No condition.
-/
import Derived.Test.YtcaaenddpjepiaaGreatDoorFnCk
set_option linter.unusedVariables false
set_option linter.unusedSimpArgs false
set_option maxRecDepth 100000
set_option maxHeartbeats 0
namespace Go.Proofs.YtcaaenddpjepiaaGreatDoor
open Go.Abs
attribute [local irreducible] A0 Run V5
theorem B0f{α:Type}{a b:List α}{k:Nat}{x y:α}(c:a[k]? =some x)(h2:b[k]? =some y)(h: ¬x=y): ¬a=b:=fun e=>by
 subst e;rw [c]at h2;exact h (Option.some.inj h2)
theorem A4Y{α:Type}{a b:List α}(c:a.length=b.length)(h:a.take a.length=b.take a.length):a=b:=by
 rw [List.take_length,c,List.take_length]at h;exact h
theorem Y4{α:Type}{a b:List α}{k:Nat}{x:α}(h:a.take k=b.take k)(c:a[k]? =some x)(h2:b[k]? =some x):a.take (k+1)=b.take (k+1):=by
 rw [List.take_add_one,List.take_add_one,h,c,h2]
theorem C5n{x y:Ins}(h: ¬x=y):(decide (x.op=y.op)&&(decide (x.a=y.a)&&(decide (x.b=y.b)&&(decide (x.c=y.c)&&decide (x.d=y.d)))))=false:=by
 exact JP
theorem C6k(a b:List Ins)(F:a.length≤17592186043904):Pure Tryz.prog 37 [.isl (a.map Ins.row),.isl (b.map Ins.row)] (.bool (decide (a=b))):=by
 have n:(a.map Ins.row).length=a.length:=List.length_map ..
 have m:(b.map Ins.row).length=b.length:=List.length_map ..
 have t:=eq_true (B3 Ins.row 5 (fun _=>rfl) a)
 have z:=eq_true (B3 Ins.row 5 (fun _=>rfl) b)
 have C: ∀(k:Nat) x,a[k]? =some x→(a.map Ins.row)[k]? =some (Ins.row x):=fun k x l=>by rw [List.getElem?_map,l];rfl
 have D: ∀(k:Nat) x,b[k]? =some x→(b.map Ins.row)[k]? =some (Ins.row x):=fun k x l=>by rw [List.getElem?_map,l];rfl
 generalize a.map Ins.row=A at*
 generalize b.map Ins.row=B at*
 refine Pure.of 0 (A0.enter Q3 Jk (Run.go 100 ?_))
 by_cases r:a.length=b.length
 ·have h:((a.length:Int)=(b.length:Int))=True:=Ji
  simp -implicitDefEqProofs only [go_sem,A4,n,m,h]
  refine Run.rounds (fun(k:Nat)=>⟨[(13,.int .i64 k),(12,.int .i64 a.length),(1,.isl B),(0,.isl A)],[],0⟩) (fun k=>k≤a.length∧a.take k=b.take k) (fun k=>a.length-k) 0 zC ⟨Nat.zero_le _,rfl⟩ ?_
  rintro k ⟨l,g⟩ E
  refine Run.unf A0q (Run.go 100 ?_)
  by_cases d:k<a.length
  ·have u:((k:Int)<(a.length:Int))=True:=Ji
   have s:((0:Int)≤(k:Int))=True:=Ji
   have v:((k:Int)<(b.length:Int))=True:=Ji
   obtain⟨x,q⟩: ∃x,a[k]? =some x:=⟨a[k],by simp [d]⟩
   obtain⟨y,o⟩: ∃y,b[k]? =some y:=⟨b[k]' zd,by simp [show k<b.length by omega]⟩
   have j:=C k x q
   have i:=D k y o
   have p:((k+1:Nat):Int)=(k:Int)+1:=by omega
   by_cases c:x=y
   ·subst c
    simp -implicitDefEqProofs only [go_sem,u,s,v,n,m,t,z,j,i,Ins.row,Option.some.injEq,forall_eq']
    exact Xs
   ·have w:=C5n c
    have f:=B0f q o c
    simp -implicitDefEqProofs only [go_sem,u,s,v,n,m,t,z,j,i,Ins.row,w,Option.some.injEq,forall_eq',f]
    exact⟨d,by omega⟩
  ·exact XI
 ·exact Xl
theorem C5o{x y:Kst}(h: ¬x=y):(decide (x.kind=y.kind)&&((decide (x.p=y.p)&&decide (x.q=y.q))&&(decide (x.str=y.str)&&decide (x.ref=y.ref))))=false:=by
 exact JP
theorem C6m(a b:List Kst)(F:a.length≤17592186043904):Pure Tryz.prog 39 [.isl (a.map Kst.row),.isl (b.map Kst.row)] (.bool (decide (a=b))):=by
 have n:(a.map Kst.row).length=a.length:=List.length_map ..
 have m:(b.map Kst.row).length=b.length:=List.length_map ..
 have t:=eq_true (B3 Kst.row 5 (fun _=>rfl) a)
 have z:=eq_true (B3 Kst.row 5 (fun _=>rfl) b)
 have C: ∀(k:Nat) x,a[k]? =some x→(a.map Kst.row)[k]? =some (Kst.row x):=fun k x l=>by rw [List.getElem?_map,l];rfl
 have D: ∀(k:Nat) x,b[k]? =some x→(b.map Kst.row)[k]? =some (Kst.row x):=fun k x l=>by rw [List.getElem?_map,l];rfl
 generalize a.map Kst.row=A at*
 generalize b.map Kst.row=B at*
 refine Pure.of 0 (A0.enter Q5 Jk (Run.go 100 ?_))
 by_cases r:a.length=b.length
 ·have h:((a.length:Int)=(b.length:Int))=True:=Ji
  simp -implicitDefEqProofs only [go_sem,A4,n,m,h]
  refine Run.rounds (fun(k:Nat)=>⟨[(13,.int .i64 k),(12,.int .i64 a.length),(1,.isl B),(0,.isl A)],[],0⟩) (fun k=>k≤a.length∧a.take k=b.take k) (fun k=>a.length-k) 0 zC ⟨Nat.zero_le _,rfl⟩ ?_
  rintro k ⟨l,g⟩ E
  refine Run.unf A0r (Run.go 100 ?_)
  by_cases d:k<a.length
  ·have u:((k:Int)<(a.length:Int))=True:=Ji
   have s:((0:Int)≤(k:Int))=True:=Ji
   have v:((k:Int)<(b.length:Int))=True:=Ji
   obtain⟨x,q⟩: ∃x,a[k]? =some x:=⟨a[k],by simp [d]⟩
   obtain⟨y,o⟩: ∃y,b[k]? =some y:=⟨b[k]' zd,by simp [show k<b.length by omega]⟩
   have j:=C k x q
   have i:=D k y o
   have p:((k+1:Nat):Int)=(k:Int)+1:=by omega
   by_cases c:x=y
   ·subst c
    simp -implicitDefEqProofs only [go_sem,u,s,v,n,m,t,z,j,i,Kst.row,Option.some.injEq,forall_eq']
    exact Xs
   ·have w:=C5o c
    have f:=B0f q o c
    simp -implicitDefEqProofs only [go_sem,u,s,v,n,m,t,z,j,i,Kst.row,w,Option.some.injEq,forall_eq',f]
    exact⟨d,by omega⟩
  ·exact XI
 ·exact Xl
theorem C5p{x y:Upv}(h: ¬x=y):(decide (x.name=y.name)&&(decide (x.loc=y.loc)&&decide (x.idx=y.idx)))=false:=by
 exact JP
theorem C6n(a b:List Upv)(F:a.length≤17592186043904):Pure Tryz.prog 40 [.isl (a.map Upv.row),.isl (b.map Upv.row)] (.bool (decide (a=b))):=by
 have n:(a.map Upv.row).length=a.length:=List.length_map ..
 have m:(b.map Upv.row).length=b.length:=List.length_map ..
 have t:=eq_true (B3 Upv.row 3 (fun _=>rfl) a)
 have z:=eq_true (B3 Upv.row 3 (fun _=>rfl) b)
 have C: ∀(k:Nat) x,a[k]? =some x→(a.map Upv.row)[k]? =some (Upv.row x):=fun k x l=>by rw [List.getElem?_map,l];rfl
 have D: ∀(k:Nat) x,b[k]? =some x→(b.map Upv.row)[k]? =some (Upv.row x):=fun k x l=>by rw [List.getElem?_map,l];rfl
 generalize a.map Upv.row=A at*
 generalize b.map Upv.row=B at*
 refine Pure.of 0 (A0.enter Z0 Jk (Run.go 100 ?_))
 by_cases r:a.length=b.length
 ·have h:((a.length:Int)=(b.length:Int))=True:=Ji
  simp -implicitDefEqProofs only [go_sem,A4,n,m,h]
  refine Run.rounds (fun(k:Nat)=>⟨[(13,.int .i64 k),(12,.int .i64 a.length),(1,.isl B),(0,.isl A)],[],0⟩) (fun k=>k≤a.length∧a.take k=b.take k) (fun k=>a.length-k) 0 zC ⟨Nat.zero_le _,rfl⟩ ?_
  rintro k ⟨l,g⟩ E
  refine Run.unf A3c (Run.go 100 ?_)
  by_cases d:k<a.length
  ·have u:((k:Int)<(a.length:Int))=True:=Ji
   have s:((0:Int)≤(k:Int))=True:=Ji
   have v:((k:Int)<(b.length:Int))=True:=Ji
   obtain⟨x,q⟩: ∃x,a[k]? =some x:=⟨a[k],by simp [d]⟩
   obtain⟨y,o⟩: ∃y,b[k]? =some y:=⟨b[k]' zd,by simp [show k<b.length by omega]⟩
   have j:=C k x q
   have i:=D k y o
   have p:((k+1:Nat):Int)=(k:Int)+1:=by omega
   by_cases c:x=y
   ·subst c
    simp -implicitDefEqProofs only [go_sem,u,s,v,n,m,t,z,j,i,Upv.row,Option.some.injEq,forall_eq']
    exact Xs
   ·have w:=C5p c
    have f:=B0f q o c
    simp -implicitDefEqProofs only [go_sem,u,s,v,n,m,t,z,j,i,Upv.row,w,Option.some.injEq,forall_eq',f]
    exact⟨d,by omega⟩
  ·exact XI
 ·exact Xl
theorem C9e{x y:Vr}(h: ¬x=y):(decide (x.name=y.name)&&(decide (x.reg=y.reg)&&(decide (x.lo=y.lo)&&(decide (x.hi=y.hi)&&decide (x.attr=y.attr)))))=false:=by
 exact JP
theorem C8v(a b:List Vr)(F:a.length≤17592186043904):Pure Tryz.prog 41 [.isl (a.map Vr.row),.isl (b.map Vr.row)] (.bool (decide (a=b))):=by
 have n:(a.map Vr.row).length=a.length:=List.length_map ..
 have m:(b.map Vr.row).length=b.length:=List.length_map ..
 have t:=eq_true (B3 Vr.row 5 (fun _=>rfl) a)
 have z:=eq_true (B3 Vr.row 5 (fun _=>rfl) b)
 have C: ∀(k:Nat) x,a[k]? =some x→(a.map Vr.row)[k]? =some (Vr.row x):=fun k x l=>by rw [List.getElem?_map,l];rfl
 have D: ∀(k:Nat) x,b[k]? =some x→(b.map Vr.row)[k]? =some (Vr.row x):=fun k x l=>by rw [List.getElem?_map,l];rfl
 generalize a.map Vr.row=A at*
 generalize b.map Vr.row=B at*
 refine Pure.of 0 (A0.enter W4 Jk (Run.go 100 ?_))
 by_cases r:a.length=b.length
 ·have h:((a.length:Int)=(b.length:Int))=True:=Ji
  simp -implicitDefEqProofs only [go_sem,A4,n,m,h]
  refine Run.rounds (fun(k:Nat)=>⟨[(13,.int .i64 k),(12,.int .i64 a.length),(1,.isl B),(0,.isl A)],[],0⟩) (fun k=>k≤a.length∧a.take k=b.take k) (fun k=>a.length-k) 0 zC ⟨Nat.zero_le _,rfl⟩ ?_
  rintro k ⟨l,g⟩ E
  refine Run.unf A1E (Run.go 100 ?_)
  by_cases d:k<a.length
  ·have u:((k:Int)<(a.length:Int))=True:=Ji
   have s:((0:Int)≤(k:Int))=True:=Ji
   have v:((k:Int)<(b.length:Int))=True:=Ji
   obtain⟨x,q⟩: ∃x,a[k]? =some x:=⟨a[k],by simp [d]⟩
   obtain⟨y,o⟩: ∃y,b[k]? =some y:=⟨b[k]' zd,by simp [show k<b.length by omega]⟩
   have j:=C k x q
   have i:=D k y o
   have p:((k+1:Nat):Int)=(k:Int)+1:=by omega
   by_cases c:x=y
   ·subst c
    simp -implicitDefEqProofs only [go_sem,u,s,v,n,m,t,z,j,i,Vr.row,Option.some.injEq,forall_eq']
    exact Xs
   ·have w:=C9e c
    have f:=B0f q o c
    simp -implicitDefEqProofs only [go_sem,u,s,v,n,m,t,z,j,i,Vr.row,w,Option.some.injEq,forall_eq',f]
    exact⟨d,by omega⟩
  ·exact XI
 ·exact Xl
theorem C6l(a b:List Int)(E:a.length≤17592186043904):Pure Tryz.prog 38 [.isl (a.map D1),.isl (b.map D1)] (.bool (decide (a=b))):=by
 have n:(a.map D1).length=a.length:=List.length_map ..
 have m:(b.map D1).length=b.length:=List.length_map ..
 have t:=eq_true (B3 D1 1 (fun _=>rfl) a)
 have z:=eq_true (B3 D1 1 (fun _=>rfl) b)
 have w: ∀(k:Nat) x,a[k]? =some x→(a.map D1)[k]? =some (D1 x):=fun k x l=>by rw [List.getElem?_map,l];rfl
 have C: ∀(k:Nat) x,b[k]? =some x→(b.map D1)[k]? =some (D1 x):=fun k x l=>by rw [List.getElem?_map,l];rfl
 generalize a.map D1=A at*
 generalize b.map D1=B at*
 refine Pure.of 0 (A0.enter Y3 Jk (Run.go 100 ?_))
 by_cases r:a.length=b.length
 ·have c:((a.length:Int)=(b.length:Int))=True:=Ji
  simp -implicitDefEqProofs only [go_sem,A4,n,m,c]
  refine Run.rounds (fun(k:Nat)=>⟨[(13,.int .i64 k),(12,.int .i64 a.length),(1,.isl B),(0,.isl A)],[],0⟩) (fun k=>k≤a.length∧a.take k=b.take k) (fun k=>a.length-k) 0 zJ ⟨Nat.zero_le _,rfl⟩ ?_
  rintro k ⟨l,g⟩ D
  refine Run.unf S4 (Run.go 100 ?_)
  by_cases d:k<a.length
  ·have u:((k:Int)<(a.length:Int))=True:=Ji
   have s:((0:Int)≤(k:Int))=True:=Ji
   have v:((k:Int)<(b.length:Int))=True:=Ji
   obtain⟨x,q⟩: ∃x,a[k]? =some x:=⟨a[k],by simp [d]⟩
   obtain⟨y,o⟩: ∃y,b[k]? =some y:=⟨b[k]' zd,by simp [show k<b.length by omega]⟩
   have j:=w k x q
   have i:=C k y o
   have p:((k+1:Nat):Int)=(k:Int)+1:=by omega
   by_cases h:x=y
   ·simp -implicitDefEqProofs only [go_sem,u,s,v,n,m,t,z,j,i,D1,h,Option.some.injEq,forall_eq']
    refine⟨d,by omega,by omega,?_⟩
    exact D _ (k+1) ⟨by omega,Y4 g q (h ▸ o)⟩ zd zZ
   ·have f:=B0f q o h
    exact Yl
  ·exact XI
 ·exact Yc
end Go.Proofs.YtcaaenddpjepiaaGreatDoor
