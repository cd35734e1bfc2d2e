/-
 Equality of functions: of the parts. No condition.
-/
import Derived.Test.YtflobbpcabopjaaGreatDoorFnMa
set_option linter.unusedVariables false set_option linter.unusedSimpArgs false set_option maxRecDepth 100000
set_option maxHeartbeats 0
namespace Go.Proofs.YtflobbpcabopjaaGreatDoor
section
open Go.Abs
attribute [local irreducible] A0 Run J4
theorem A8x{α:Type}{a b:List α}{k:Nat}{x y:α}(h1:a[k]? =some x)(h2:b[k]? =some y)(h: ¬x=y): ¬a=b:=fun e=>by
 subst e;rw [h1]at h2;exact h (Option.some.inj h2)
theorem A2Z{α:Type}{a b:List α}(hl:a.length=b.length)(h:a.take a.length=b.take a.length):a=b:=by
 rw [List.take_length,hl,List.take_length]at h;exact h
theorem Q5{α:Type}{a b:List α}{k:Nat}{x:α}(h:a.take k=b.take k)(h1:a[k]? =some x)(h2:b[k]? =some x):a.take (k+1)=b.take (k+1):=by
 rw [List.take_add_one,List.take_add_one,h,h1,h2]
theorem C3j{x y:Ins}(h: ¬x=y):(decide (x.op=y.op)&&(decide (x.a=y.a)&&(decide (x.b=y.b)&&(decide (x.c=y.c)&&decide (x.d=y.d)))))=false:=by
 exact JQ
theorem C4m(a b:List Ins)(ha:a.length≤17592186043904):Pure Tryz.prog 36 [.isl (a.map Ins.row),.isl (b.map Ins.row)] (.bool (decide (a=b))):=by
 have la:(a.map Ins.row).length=a.length:=List.length_map ..
 have lb:(b.map Ins.row).length=b.length:=List.length_map ..
 have za:=eq_true (C1 Ins.row 5 (fun _=>rfl) a)
 have zb:=eq_true (C1 Ins.row 5 (fun _=>rfl) b)
 have ra: ∀(k:Nat) x,a[k]? =some x→(a.map Ins.row)[k]? =some (Ins.row x):=fun k x hk=>by rw [List.getElem?_map,hk];rfl
 have rb: ∀(k:Nat) x,b[k]? =some x→(b.map Ins.row)[k]? =some (Ins.row x):=fun k x hk=>by rw [List.getElem?_map,hk];rfl
 generalize a.map Ins.row=A at*
 generalize b.map Ins.row=B at*
 refine Pure.of 0 (A0.enter K7 Jo (Run.go 100 ?_))
 by_cases hl:a.length=b.length
 ·have hl':((a.length:Int)=(b.length:Int))=True:=Jm
  refine QP ?_
  refine Run.rounds (fun(k:Nat)=>⟨[(13,.int .i64 k),(12,.int .i64 a.length),(1,.isl B),(0,.isl A)],[],0⟩) (fun k=>k≤a.length∧a.take k=b.take k) (fun k=>a.length-k) 0 zH ⟨Nat.zero_le _,rfl⟩ ?_
  rintro k ⟨hk,heq⟩ ih
  refine Run.unf W3 (Run.go 100 ?_)
  by_cases hlt:k<a.length
  ·have q0:((k:Int)<(a.length:Int))=True:=Jm
   have q1:((0:Int)≤(k:Int))=True:=Jm
   have q2:((k:Int)<(b.length:Int))=True:=Jm
   obtain⟨x,hx⟩: ∃x,a[k]? =some x:=⟨a[k],by simp [hlt]⟩
   obtain⟨y,hy⟩: ∃y,b[k]? =some y:=⟨b[k]' zd,by simp [show k<b.length by omega]⟩
   have hxr:=ra k x hx
   have hyr:=rb k y hy
   have hzk:((k+1:Nat):Int)=(k:Int)+1:=by omega
   by_cases hxy:x=y
   ·subst hxy
    simp -implicitDefEqProofs only [go_sem,q0,q1,q2,la,lb,za,zb,hxr,hyr,Ins.row,Option.some.injEq,forall_eq']
    exact Yo
   ·have hq:=C3j hxy
    have hne:=A8x hx hy hxy
    simp -implicitDefEqProofs only [go_sem,q0,q1,q2,la,lb,za,zb,hxr,hyr,Ins.row,hq,Option.some.injEq,forall_eq',hne]
    exact⟨hlt,by omega⟩
  ·exact XR
 ·exact JU
theorem C3k{x y:Kst}(h: ¬x=y):(decide (x.kind=y.kind)&&((decide (x.p=y.p)&&decide (x.q=y.q))&&(decide (x.str=y.str)&&decide (x.ref=y.ref))))=false:=by
 exact JQ
theorem C4o(a b:List Kst)(ha:a.length≤17592186043904):Pure Tryz.prog 38 [.isl (a.map Kst.row),.isl (b.map Kst.row)] (.bool (decide (a=b))):=by
 have la:(a.map Kst.row).length=a.length:=List.length_map ..
 have lb:(b.map Kst.row).length=b.length:=List.length_map ..
 have za:=eq_true (C1 Kst.row 5 (fun _=>rfl) a)
 have zb:=eq_true (C1 Kst.row 5 (fun _=>rfl) b)
 have ra: ∀(k:Nat) x,a[k]? =some x→(a.map Kst.row)[k]? =some (Kst.row x):=fun k x hk=>by rw [List.getElem?_map,hk];rfl
 have rb: ∀(k:Nat) x,b[k]? =some x→(b.map Kst.row)[k]? =some (Kst.row x):=fun k x hk=>by rw [List.getElem?_map,hk];rfl
 generalize a.map Kst.row=A at*
 generalize b.map Kst.row=B at*
 refine Pure.of 0 (A0.enter K9 Jo (Run.go 100 ?_))
 by_cases hl:a.length=b.length
 ·have hl':((a.length:Int)=(b.length:Int))=True:=Jm
  refine QP ?_
  refine Run.rounds (fun(k:Nat)=>⟨[(13,.int .i64 k),(12,.int .i64 a.length),(1,.isl B),(0,.isl A)],[],0⟩) (fun k=>k≤a.length∧a.take k=b.take k) (fun k=>a.length-k) 0 zH ⟨Nat.zero_le _,rfl⟩ ?_
  rintro k ⟨hk,heq⟩ ih
  refine Run.unf W4 (Run.go 100 ?_)
  by_cases hlt:k<a.length
  ·have q0:((k:Int)<(a.length:Int))=True:=Jm
   have q1:((0:Int)≤(k:Int))=True:=Jm
   have q2:((k:Int)<(b.length:Int))=True:=Jm
   obtain⟨x,hx⟩: ∃x,a[k]? =some x:=⟨a[k],by simp [hlt]⟩
   obtain⟨y,hy⟩: ∃y,b[k]? =some y:=⟨b[k]' zd,by simp [show k<b.length by omega]⟩
   have hxr:=ra k x hx
   have hyr:=rb k y hy
   have hzk:((k+1:Nat):Int)=(k:Int)+1:=by omega
   by_cases hxy:x=y
   ·subst hxy
    simp -implicitDefEqProofs only [go_sem,q0,q1,q2,la,lb,za,zb,hxr,hyr,Kst.row,Option.some.injEq,forall_eq']
    exact Yo
   ·have hq:=C3k hxy
    have hne:=A8x hx hy hxy
    simp -implicitDefEqProofs only [go_sem,q0,q1,q2,la,lb,za,zb,hxr,hyr,Kst.row,hq,Option.some.injEq,forall_eq',hne]
    exact⟨hlt,by omega⟩
  ·exact XR
 ·exact JU
theorem C3l{x y:Upv}(h: ¬x=y):(decide (x.name=y.name)&&(decide (x.loc=y.loc)&&decide (x.idx=y.idx)))=false:=by
 exact JQ
theorem C4p(a b:List Upv)(ha:a.length≤17592186043904):Pure Tryz.prog 39 [.isl (a.map Upv.row),.isl (b.map Upv.row)] (.bool (decide (a=b))):=by
 have la:(a.map Upv.row).length=a.length:=List.length_map ..
 have lb:(b.map Upv.row).length=b.length:=List.length_map ..
 have za:=eq_true (C1 Upv.row 3 (fun _=>rfl) a)
 have zb:=eq_true (C1 Upv.row 3 (fun _=>rfl) b)
 have ra: ∀(k:Nat) x,a[k]? =some x→(a.map Upv.row)[k]? =some (Upv.row x):=fun k x hk=>by rw [List.getElem?_map,hk];rfl
 have rb: ∀(k:Nat) x,b[k]? =some x→(b.map Upv.row)[k]? =some (Upv.row x):=fun k x hk=>by rw [List.getElem?_map,hk];rfl
 generalize a.map Upv.row=A at*
 generalize b.map Upv.row=B at*
 refine Pure.of 0 (A0.enter R4 Jo (Run.go 100 ?_))
 by_cases hl:a.length=b.length
 ·have hl':((a.length:Int)=(b.length:Int))=True:=Jm
  refine QP ?_
  refine Run.rounds (fun(k:Nat)=>⟨[(13,.int .i64 k),(12,.int .i64 a.length),(1,.isl B),(0,.isl A)],[],0⟩) (fun k=>k≤a.length∧a.take k=b.take k) (fun k=>a.length-k) 0 zH ⟨Nat.zero_le _,rfl⟩ ?_
  rintro k ⟨hk,heq⟩ ih
  refine Run.unf A0X (Run.go 100 ?_)
  by_cases hlt:k<a.length
  ·have q0:((k:Int)<(a.length:Int))=True:=Jm
   have q1:((0:Int)≤(k:Int))=True:=Jm
   have q2:((k:Int)<(b.length:Int))=True:=Jm
   obtain⟨x,hx⟩: ∃x,a[k]? =some x:=⟨a[k],by simp [hlt]⟩
   obtain⟨y,hy⟩: ∃y,b[k]? =some y:=⟨b[k]' zd,by simp [show k<b.length by omega]⟩
   have hxr:=ra k x hx
   have hyr:=rb k y hy
   have hzk:((k+1:Nat):Int)=(k:Int)+1:=by omega
   by_cases hxy:x=y
   ·subst hxy
    simp -implicitDefEqProofs only [go_sem,q0,q1,q2,la,lb,za,zb,hxr,hyr,Upv.row,Option.some.injEq,forall_eq']
    exact Yo
   ·have hq:=C3l hxy
    have hne:=A8x hx hy hxy
    simp -implicitDefEqProofs only [go_sem,q0,q1,q2,la,lb,za,zb,hxr,hyr,Upv.row,hq,Option.some.injEq,forall_eq',hne]
    exact⟨hlt,by omega⟩
  ·exact XR
 ·exact JU
theorem C7a{x y:Vr}(h: ¬x=y):(decide (x.name=y.name)&&(decide (x.reg=y.reg)&&(decide (x.lo=y.lo)&&(decide (x.hi=y.hi)&&decide (x.attr=y.attr)))))=false:=by
 exact JQ
theorem C6p(a b:List Vr)(ha:a.length≤17592186043904):Pure Tryz.prog 40 [.isl (a.map Vr.row),.isl (b.map Vr.row)] (.bool (decide (a=b))):=by
 have la:(a.map Vr.row).length=a.length:=List.length_map ..
 have lb:(b.map Vr.row).length=b.length:=List.length_map ..
 have za:=eq_true (C1 Vr.row 5 (fun _=>rfl) a)
 have zb:=eq_true (C1 Vr.row 5 (fun _=>rfl) b)
 have ra: ∀(k:Nat) x,a[k]? =some x→(a.map Vr.row)[k]? =some (Vr.row x):=fun k x hk=>by rw [List.getElem?_map,hk];rfl
 have rb: ∀(k:Nat) x,b[k]? =some x→(b.map Vr.row)[k]? =some (Vr.row x):=fun k x hk=>by rw [List.getElem?_map,hk];rfl
 generalize a.map Vr.row=A at*
 generalize b.map Vr.row=B at*
 refine Pure.of 0 (A0.enter O7 Jo (Run.go 100 ?_))
 by_cases hl:a.length=b.length
 ·have hl':((a.length:Int)=(b.length:Int))=True:=Jm
  refine QP ?_
  refine Run.rounds (fun(k:Nat)=>⟨[(13,.int .i64 k),(12,.int .i64 a.length),(1,.isl B),(0,.isl A)],[],0⟩) (fun k=>k≤a.length∧a.take k=b.take k) (fun k=>a.length-k) 0 zH ⟨Nat.zero_le _,rfl⟩ ?_
  rintro k ⟨hk,heq⟩ ih
  refine Run.unf o6 (Run.go 100 ?_)
  by_cases hlt:k<a.length
  ·have q0:((k:Int)<(a.length:Int))=True:=Jm
   have q1:((0:Int)≤(k:Int))=True:=Jm
   have q2:((k:Int)<(b.length:Int))=True:=Jm
   obtain⟨x,hx⟩: ∃x,a[k]? =some x:=⟨a[k],by simp [hlt]⟩
   obtain⟨y,hy⟩: ∃y,b[k]? =some y:=⟨b[k]' zd,by simp [show k<b.length by omega]⟩
   have hxr:=ra k x hx
   have hyr:=rb k y hy
   have hzk:((k+1:Nat):Int)=(k:Int)+1:=by omega
   by_cases hxy:x=y
   ·subst hxy
    simp -implicitDefEqProofs only [go_sem,q0,q1,q2,la,lb,za,zb,hxr,hyr,Vr.row,Option.some.injEq,forall_eq']
    exact Yo
   ·have hq:=C7a hxy
    have hne:=A8x hx hy hxy
    simp -implicitDefEqProofs only [go_sem,q0,q1,q2,la,lb,za,zb,hxr,hyr,Vr.row,hq,Option.some.injEq,forall_eq',hne]
    exact⟨hlt,by omega⟩
  ·exact XR
 ·exact JU
theorem C4n(a b:List Int)(ha:a.length≤17592186043904):Pure Tryz.prog 37 [.isl (a.map E9),.isl (b.map E9)] (.bool (decide (a=b))):=by
 have la:(a.map E9).length=a.length:=List.length_map ..
 have lb:(b.map E9).length=b.length:=List.length_map ..
 have za:=eq_true (C1 E9 1 (fun _=>rfl) a)
 have zb:=eq_true (C1 E9 1 (fun _=>rfl) b)
 have ra: ∀(k:Nat) x,a[k]? =some x→(a.map E9)[k]? =some (E9 x):=fun k x hk=>by rw [List.getElem?_map,hk];rfl
 have rb: ∀(k:Nat) x,b[k]? =some x→(b.map E9)[k]? =some (E9 x):=fun k x hk=>by rw [List.getElem?_map,hk];rfl
 generalize a.map E9=A at*
 generalize b.map E9=B at*
 refine Pure.of 0 (A0.enter A0b Jo (Run.go 100 ?_))
 by_cases hl:a.length=b.length
 ·have hl':((a.length:Int)=(b.length:Int))=True:=Jm
  refine QP ?_
  refine Run.rounds (fun(k:Nat)=>⟨[(13,.int .i64 k),(12,.int .i64 a.length),(1,.isl B),(0,.isl A)],[],0⟩) (fun k=>k≤a.length∧a.take k=b.take k) (fun k=>a.length-k) 0 zH ⟨Nat.zero_le _,rfl⟩ ?_
  rintro k ⟨hk,heq⟩ ih
  refine Run.unf A3G (Run.go 100 ?_)
  by_cases hlt:k<a.length
  ·have q0:((k:Int)<(a.length:Int))=True:=Jm
   have q1:((0:Int)≤(k:Int))=True:=Jm
   have q2:((k:Int)<(b.length:Int))=True:=Jm
   obtain⟨x,hx⟩: ∃x,a[k]? =some x:=⟨a[k],by simp [hlt]⟩
   obtain⟨y,hy⟩: ∃y,b[k]? =some y:=⟨b[k]' zd,by simp [show k<b.length by omega]⟩
   have hxr:=ra k x hx
   have hyr:=rb k y hy
   have hzk:((k+1:Nat):Int)=(k:Int)+1:=by omega
   by_cases hxy:x=y
   ·simp -implicitDefEqProofs only [go_sem,q0,q1,q2,la,lb,za,zb,hxr,hyr,E9,hxy,Option.some.injEq,forall_eq']
    refine⟨hlt,by omega,by omega,?_⟩
    exact ih _ (k+1) ⟨by omega,Q5 heq hx (hxy ▸ hy)⟩ zd zk
   ·have hne:=A8x hx hy hxy
    simp -implicitDefEqProofs only [go_sem,q0,q1,q2,la,lb,za,zb,hxr,hyr,E9,hxy,Option.some.injEq,forall_eq',hne]
    exact⟨hlt,by omega⟩
  ·exact XR
 ·exact JU
end
section
open Go.Abs
attribute [local irreducible] A0 Run J4
noncomputable def B2G (p q:Fn):Bool:=by
 classical exact decide (p=q)
theorem A9N{p q:Fn}(h:p=q):B2G p q=true:=by simp [B2G,h]
theorem L3{p q:Fn}(h: ¬p=q):B2G p q=false:=by simp [B2G,h]
noncomputable def C0z (a b:List Fn):Bool:=by
 classical exact decide (a=b)
theorem B7z{p q:List Fn}(h:p=q):C0z p q=true:=by simp [C0z,h]
theorem B5R{p q:List Fn}(h: ¬p=q):C0z p q=false:=by simp [C0z,h]
theorem Fn.ext'{p q:Fn}(h0:p.name=q.name)(h1:p.line=q.line)(h2:p.params=q.params)(h3:p.vararg=q.vararg)(h4:p.regs=q.regs)(h5:p.code=q.code)(h6:p.lines=q.lines)(h7:p.consts=q.consts)
  (h8:p.protos=q.protos) (h9:p.ups=q.ups) (h10:p.vars=q.vars):p=q:=by
 obtain⟨_⟩:=p;obtain⟨_⟩:=q
 simp_all
structure Cells(p:Fn)(r:List V):Prop where
 len:r.length=11
 tk:r.take 11=r
 g0:r[0]? =some (.str p.name)
 g1:r[1]? =some (.int .i64 p.line)
 g2:r[2]? =some (.int .i64 p.params)
 g3:r[3]? =some (.bool p.vararg)
 g4:r[4]? =some (.int .i64 p.regs)
 g5:r[5]? =some (.isl (p.code.map Ins.row))
 g6:r[6]? =some (.isl (p.lines.map E9))
 g7:r[7]? =some (.isl (p.consts.map Kst.row))
 g8:r[8]? =some (.isl (p.protos.map Fn.row))
 g9:r[9]? =some (.isl (p.ups.map Upv.row))
 g10:r[10]? =some (.isl (p.vars.map Vr.row))
theorem Fn.cells(p:Fn):Cells p p.row:=by
 have h:=C9 p
 refine⟨h.1,h.2,?_,?_,?_,?_,?_,?_,?_,?_,?_,?_,?_⟩<;>(rw [p.row_eq];rfl)
theorem B4W(a b:List Fn)(ha:a.length≤17592186043904)(hs: ∀p∈a,∀q,Pure Tryz.prog 17 [.agg p.row,.agg q.row] (.bool (B2G p q))):
  Pure Tryz.prog 41 [.isl (a.map Fn.row),.isl (b.map Fn.row),.fn 17 []] (.bool (C0z a b)):=by
 have la:(a.map Fn.row).length=a.length:=List.length_map ..
 have lb:(b.map Fn.row).length=b.length:=List.length_map ..
 have za:=eq_true (C1 Fn.row 11 Fn.row_len a)
 have zb:=eq_true (C1 Fn.row 11 Fn.row_len b)
 have ra: ∀(k:Nat) x,a[k]? =some x→(a.map Fn.row)[k]? =some (Fn.row x):=fun k x hk=>by rw [List.getElem?_map,hk];rfl
 have rb: ∀(k:Nat) x,b[k]? =some x→(b.map Fn.row)[k]? =some (Fn.row x):=fun k x hk=>by rw [List.getElem?_map,hk];rfl
 generalize a.map Fn.row=A at*
 generalize b.map Fn.row=B at*
 refine Pure.of 0 (A0.enter E5 Jo (Run.go 100 ?_))
 by_cases hl:a.length=b.length
 ·have hl':((a.length:Int)=(b.length:Int))=True:=Jm
  refine QP ?_
  refine Run.roundsK (fun(x:Nat×Nat)=>⟨[(17,.int .i64 x.1),(16,.int .i64 a.length),(15,.isl A),(2,.fn 17 []),(1,.isl B),(0,.isl A)],[],x.2⟩) (fun x=>x.1≤a.length∧a.take x.1=b.take x.1) (fun x=>a.length-x.1) (0,0) (E8.wk zH) ⟨Nat.zero_le _,rfl⟩ ?_
  rintro⟨k,n⟩ ⟨hk,heq⟩ ih
  simp only at hk heq ih⊢
  refine Run.unf H5 (Run.go 100 ?_)
  by_cases hlt:k<a.length
  ·have q0:((k:Int)<(a.length:Int))=True:=Jm
   have q1:((0:Int)≤(k:Int))=True:=Jm
   have q2:((k:Int)<(b.length:Int))=True:=Jm
   obtain⟨x,hx⟩: ∃x,a[k]? =some x:=⟨a[k],by simp [hlt]⟩
   obtain⟨y,hy⟩: ∃y,b[k]? =some y:=⟨b[k]' zd,by simp [show k<b.length by omega]⟩
   have hxr:=ra k x hx
   have hyr:=rb k y hy
   have hzk:((k+1:Nat):Int)=(k:Int)+1:=by omega
   have hc:=hs x (List.mem_of_getElem? hx) y
   obtain⟨f1,f2⟩:=C9 x
   obtain⟨e1,e2⟩:=C9 y
   have sx:=Fn.row_sub I6 x
   have sy:=Fn.row_sub I6 y
   generalize x.row=xr at*
   generalize y.row=yr at*
   simp -implicitDefEqProofs only [go_sem,q0,q1,q2,la,lb,za,zb,hxr,hyr,f1,f2,e1,e2,Option.some.injEq,forall_eq',List.append_nil]
   refine⟨hlt,by omega,by kernel_rfl,?_⟩
   refine A0.pureF hc (by simp -implicitDefEqProofs only [go_sem,sx,sy]) ?_
   by_cases hxy:x=y
   ·simp -implicitDefEqProofs only [go_sem,A9N hxy]
    refine⟨by omega,?_⟩
    exact ih _ (k+1,n+1+1) ⟨by simp only;omega,Q5 heq hx (hxy ▸ hy)⟩ zj (E8.wk zk)
   ·simp -implicitDefEqProofs only [go_sem,L3 hxy,B5R (A8x hx hy hxy)]
  ·have e:k=a.length:=by omega
   subst e
   simp -implicitDefEqProofs only [go_sem,Int.lt_irrefl,B7z (A2Z hl heq)]
 ·have hl':((a.length:Int)=(b.length:Int))=False:=Jn
  have hne: ¬a=b:=fun e=>hl zm
  simp -implicitDefEqProofs only [go_sem,A3,la,lb,hl',B5R hne]
theorem C5f(p:Fn)(hp:p.bd): ∀q,Pure Tryz.prog 17 [.agg p.row,.agg q.row] (.bool (B2G p q)):=by
 induction p using Fn.ind with
 |h p ih=>
  intro q
  have hl:=hp.self
  have cp:=p.cells
  have cq:=q.cells
  have c5:=C4m p.code q.code (Nat.le_trans hl.code zf)
  have c6:=C4n p.lines q.lines (Nat.le_trans hl.lines zf)
  have c7:=C4o p.consts q.consts (Nat.le_trans hl.consts zf)
  have c8:=B4W p.protos q.protos (Nat.le_trans hl.protos zf) fun x hx y=>ih x hx (hp.child hx) y
  have c9:=C4p p.ups q.ups (Nat.le_trans hl.ups zf)
  have c10:=C6p p.vars q.vars (Nat.le_trans hl.vars zf)
  have s5:=fun(l:List Ins)=>C8 I6 _ l fun x _=>Ins.row_sub I6 x
  have s6:=fun(l:List Int)=>C8 I6 _ l fun x _=>B2b I6 x
  have s7:=fun(l:List Kst)=>C8 I6 _ l fun x _=>Kst.row_sub I6 x
  have s8:=fun(l:List Fn)=>Fn.rows_sub I6 l
  have s9:=fun(l:List Upv)=>C8 I6 _ l fun x _=>Upv.row_sub I6 x
  have s10:=fun(l:List Vr)=>C8 I6 _ l fun x _=>Vr.row_sub I6 x
  generalize p.row=pr at*
  generalize q.row=qr at*
  refine Pure.of 0 (A0.enter B0i Jo (Run.go 100 ?_))
  by_cases h0:p.name=q.name
  case neg=>simp -implicitDefEqProofs only [go_sem,A3,cp.len,cp.tk,cq.len,cq.tk,cp.g0,cp.g1,cp.g2,cp.g3,cp.g4,cp.g5,cp.g6,cp.g7,cp.g8,cp.g9,cp.g10,cq.g0,cq.g1,cq.g2,cq.g3,cq.g4,cq.g5,cq.g6,cq.g7,cq.g8,cq.g9,cq.g10,h0,L3 fun(e:p=q)=>h0 zm]
  by_cases h1:p.line=q.line
  case neg=>simp -implicitDefEqProofs only [go_sem,A3,cp.len,cp.tk,cq.len,cq.tk,cp.g0,cp.g1,cp.g2,cp.g3,cp.g4,cp.g5,cp.g6,cp.g7,cp.g8,cp.g9,cp.g10,cq.g0,cq.g1,cq.g2,cq.g3,cq.g4,cq.g5,cq.g6,cq.g7,cq.g8,cq.g9,cq.g10,h0,h1,L3 fun(e:p=q)=>h1 zm]
  by_cases h2:p.params=q.params
  case neg=>simp -implicitDefEqProofs only [go_sem,A3,cp.len,cp.tk,cq.len,cq.tk,cp.g0,cp.g1,cp.g2,cp.g3,cp.g4,cp.g5,cp.g6,cp.g7,cp.g8,cp.g9,cp.g10,cq.g0,cq.g1,cq.g2,cq.g3,cq.g4,cq.g5,cq.g6,cq.g7,cq.g8,cq.g9,cq.g10,h0,h1,h2,L3 fun(e:p=q)=>h2 zm]
  by_cases h3:p.vararg=q.vararg
  case neg=>simp -implicitDefEqProofs only [go_sem,A3,cp.len,cp.tk,cq.len,cq.tk,cp.g0,cp.g1,cp.g2,cp.g3,cp.g4,cp.g5,cp.g6,cp.g7,cp.g8,cp.g9,cp.g10,cq.g0,cq.g1,cq.g2,cq.g3,cq.g4,cq.g5,cq.g6,cq.g7,cq.g8,cq.g9,cq.g10,h0,h1,h2,h3,L3 fun(e:p=q)=>h3 zm]
  by_cases h4:p.regs=q.regs
  case neg=>simp -implicitDefEqProofs only [go_sem,A3,cp.len,cp.tk,cq.len,cq.tk,cp.g0,cp.g1,cp.g2,cp.g3,cp.g4,cp.g5,cp.g6,cp.g7,cp.g8,cp.g9,cp.g10,cq.g0,cq.g1,cq.g2,cq.g3,cq.g4,cq.g5,cq.g6,cq.g7,cq.g8,cq.g9,cq.g10,h0,h1,h2,h3,h4,L3 fun(e:p=q)=>h4 zm]
  simp -implicitDefEqProofs only [go_sem,A3,cp.len,cp.tk,cq.len,cq.tk,cp.g0,cp.g1,cp.g2,cp.g3,cp.g4,cp.g5,cp.g6,cp.g7,cp.g8,cp.g9,cp.g10,cq.g0,cq.g1,cq.g2,cq.g3,cq.g4,cq.g5,cq.g6,cq.g7,cq.g8,cq.g9,cq.g10,h0,h1,h2,h3,h4]
  refine A0.pureF c5 (by simp -implicitDefEqProofs only [go_sem,s5]) ?_
  by_cases h5:p.code=q.code
  case neg=>simp -implicitDefEqProofs only [go_sem,h5,cp.g5,cp.g6,L3 fun(e:p=q)=>h5 zm]
  simp only [h5,decide_true]
  refine QU ?_
  refine A0.pureF c6 (by simp -implicitDefEqProofs only [go_sem,s6]) ?_
  by_cases h6:p.lines=q.lines
  case neg=>simp -implicitDefEqProofs only [go_sem,h6,cp.g5,cp.g6,L3 fun(e:p=q)=>h6 zm]
  simp only [h6,decide_true]
  refine QU ?_
  refine A0.pureF c7 (by simp -implicitDefEqProofs only [go_sem,s7]) ?_
  by_cases h7:p.consts=q.consts
  case neg=>simp -implicitDefEqProofs only [go_sem,h7,cp.g5,cp.g6,L3 fun(e:p=q)=>h7 zm]
  simp only [h7,decide_true]
  refine QU ?_
  refine A0.pureF c9 (by simp -implicitDefEqProofs only [go_sem,s9]) ?_
  by_cases h9:p.ups=q.ups
  case neg=>simp -implicitDefEqProofs only [go_sem,h9,cp.g5,cp.g6,L3 fun(e:p=q)=>h9 zm]
  simp only [h9,decide_true]
  refine QU ?_
  refine A0.pureF c10 (by simp -implicitDefEqProofs only [go_sem,s10]) ?_
  by_cases h10:p.vars=q.vars
  case neg=>simp -implicitDefEqProofs only [go_sem,h10,cp.g5,cp.g6,L3 fun(e:p=q)=>h10 zm]
  simp only [h10,decide_true]
  refine QU ?_
  refine A0.pureF c8 (by simp -implicitDefEqProofs only [go_sem,s8]) ?_
  by_cases h8:p.protos=q.protos
  case neg=>simp -implicitDefEqProofs only [go_sem,B5R h8,L3 fun(e:p=q)=>h8 zm]
  simp -implicitDefEqProofs only [go_sem,B7z h8,A9N (Fn.ext' h0 h1 h2 h3 h4 h5 h6 h7 h8 h9 h10)]
end
section
open Go.Abs
structure OneP(a b:Fn):Prop where
 name:a.name=b.name
 line:a.line=b.line
 params:a.params=b.params
 vararg:a.vararg=b.vararg
 regs:a.regs=b.regs
 code:a.code=b.code
 lines:a.lines=b.lines
 consts:a.consts=b.consts
 protos:a.protos.length=b.protos.length
 ups:a.ups=b.ups
 vars:a.vars=b.vars
noncomputable def B6s (a b:Fn):Bool:=by
 classical exact decide (OneP a b)
theorem C0g{p q:Fn}(h:OneP p q):B6s p q=true:=by simp [B6s,h]
theorem N5{p q:Fn}(h: ¬OneP p q):B6s p q=false:=by simp [B6s,h]
theorem OneP.refl(p:Fn):OneP p p:=⟨rfl,rfl,rfl,rfl,rfl,rfl,rfl,rfl,rfl,rfl,rfl⟩
theorem B6Q: ∀(n:Nat) (L M:List Fn),(Fn.eachs L).length≤n→L.length=M.length→(Fn.eachs L).length=(Fn.eachs M).length→
  (∀(i:Nat) a b,(Fn.eachs L)[i]? =some a→(Fn.eachs M)[i]? =some b→OneP a b)→L=M
 |_,[],M,_,hl,_,_=>by
  have:M= []:=List.eq_nil_of_length_eq_zero hl.symm
  rw [this]
 |0,p::r,_,hn,_,_,_=>by
  have:=Fn.each_pos p
  rw [Fn.eachs,List.length_append]at hn
  omega
 |n+1,p::r,[],_,hl,_,_=>by simp at hl
 |n+1,p::r,q::s,hn,hl,hlen,hone=>by
  have e1:Fn.eachs (p::r)=p::Fn.eachs (p.protos++r):=by rw [Fn.eachs,Fn.each_eq,Fn.eachs_append];rfl
  have e2:Fn.eachs (q::s)=q::Fn.eachs (q.protos++s):=by rw [Fn.eachs,Fn.each_eq,Fn.eachs_append];rfl
  rw [e1]at hn hlen hone
  rw [e2]at hlen hone
  have h0:=hone 0 p q rfl rfl
  have key:=B6Q n (p.protos++r) (q.protos++s) (by simpa using hn) (by simp at hl;simp [h0.protos,hl]) (by simpa using hlen) fun i a b ha hb=>hone (i+1) a b (by simpa using ha) (by simpa using hb)
  have h1:=List.append_inj key h0.protos
  rw [Fn.ext' h0.name h0.line h0.params h0.vararg h0.regs h0.code h0.lines h0.consts h1.1 h0.ups h0.vars,h1.2]
theorem C0B(p q:Fn):p=q↔p.each.length=q.each.length∧ ∀(i:Nat) a b,p.each[i]? =some a→q.each[i]? =some b→OneP a b:=by
 constructor
 ·rintro rfl
  exact⟨rfl,fun i a b ha hb=>by rw [ha]at hb;cases hb;exact .refl a⟩
 ·rintro⟨h1,h2⟩
  have:=B6Q _ [p] [q] (Nat.le_refl _) rfl (by rw [Fn.eachs_one,Fn.eachs_one];exact h1) (by rw [Fn.eachs_one,Fn.eachs_one];exact h2)
  exact List.head_eq_of_cons_eq this
end
section
open Go.Abs
attribute [local irreducible] A0 Run J4
theorem C7f(p q:Fn)(hp:p.Le):Pure Tryz.prog 35 [.agg p.row,.agg q.row] (.bool (B6s p q)):=by
 have cp:=p.cells
 have cq:=q.cells
 have l5: ∀(l:List Ins),(l.map Ins.row).length=l.length:=fun l=>List.length_map ..
 have l6: ∀(l:List Int),(l.map E9).length=l.length:=fun l=>List.length_map ..
 have l7: ∀(l:List Kst),(l.map Kst.row).length=l.length:=fun l=>List.length_map ..
 have l8: ∀(l:List Fn),(l.map Fn.row).length=l.length:=fun l=>List.length_map ..
 have l9: ∀(l:List Upv),(l.map Upv.row).length=l.length:=fun l=>List.length_map ..
 have l10: ∀(l:List Vr),(l.map Vr.row).length=l.length:=fun l=>List.length_map ..
 generalize p.row=pr at*
 generalize q.row=qr at*
 refine Pure.of 0 (A0.enter A1v Jo ?_)
 by_cases h0:p.name=q.name
 case neg=>
  refine Run.go 100 ?_
  simp -implicitDefEqProofs only [go_sem,A3,cp.len,cp.tk,cq.len,cq.tk,cp.g0,cp.g1,cp.g2,cp.g3,cp.g4,cq.g0,cq.g1,cq.g2,cq.g3,cq.g4,h0,N5 fun(e:OneP p q)=>h0 e.name]
 by_cases h1:p.line=q.line
 case neg=>
  refine Run.go 100 ?_
  simp -implicitDefEqProofs only [go_sem,A3,cp.len,cp.tk,cq.len,cq.tk,cp.g0,cp.g1,cp.g2,cp.g3,cp.g4,cq.g0,cq.g1,cq.g2,cq.g3,cq.g4,h0,h1,N5 fun(e:OneP p q)=>h1 e.line]
 by_cases h2:p.params=q.params
 case neg=>
  refine Run.go 100 ?_
  simp -implicitDefEqProofs only [go_sem,A3,cp.len,cp.tk,cq.len,cq.tk,cp.g0,cp.g1,cp.g2,cp.g3,cp.g4,cq.g0,cq.g1,cq.g2,cq.g3,cq.g4,h0,h1,h2,N5 fun(e:OneP p q)=>h2 e.params]
 by_cases h3:p.vararg=q.vararg
 case neg=>
  refine Run.go 100 ?_
  simp -implicitDefEqProofs only [go_sem,A3,cp.len,cp.tk,cq.len,cq.tk,cp.g0,cp.g1,cp.g2,cp.g3,cp.g4,cq.g0,cq.g1,cq.g2,cq.g3,cq.g4,h0,h1,h2,h3,N5 fun(e:OneP p q)=>h3 e.vararg]
 by_cases h4:p.regs=q.regs
 case neg=>
  refine Run.go 100 ?_
  simp -implicitDefEqProofs only [go_sem,A3,cp.len,cp.tk,cq.len,cq.tk,cp.g0,cp.g1,cp.g2,cp.g3,cp.g4,cq.g0,cq.g1,cq.g2,cq.g3,cq.g4,h0,h1,h2,h3,h4,N5 fun(e:OneP p q)=>h4 e.regs]
 refine Run.go 7 ?_
 simp -implicitDefEqProofs only [go_sem,A3,cp.len,cp.tk,cq.len,cq.tk,cp.g0,cp.g1,cp.g2,cp.g3,cp.g4,cq.g0,cq.g1,cq.g2,cq.g3,cq.g4,h0,h1,h2,h3,h4]
 refine Run.keep [3,2] ?_
 simp only [B7f,C5g,C7z,Nat.reduceEqDiff,if_true,if_false,ite_true,ite_false,reduceIte]
 by_cases z5:p.code.length=q.code.length
 case neg=>
  have y5:((p.code.length:Int)=(q.code.length:Int))=False:=Jn
  refine Run.go 100 ?_
  simp -implicitDefEqProofs only [go_sem,l5,l6,l7,l8,l9,l10,cp.g5,cp.g6,cp.g7,cp.g8,cp.g9,cp.g10,cq.g5,cq.g6,cq.g7,cq.g8,cq.g9,cq.g10,y5,N5 fun(e:OneP p q)=>z5 (congrArg List.length e.code)]
 have y5:((p.code.length:Int)=(q.code.length:Int))=True:=Jm
 by_cases z6:p.lines.length=q.lines.length
 case neg=>
  have y6:((p.lines.length:Int)=(q.lines.length:Int))=False:=Jn
  refine Run.go 100 ?_
  simp -implicitDefEqProofs only [go_sem,l5,l6,l7,l8,l9,l10,cp.g5,cp.g6,cp.g7,cp.g8,cp.g9,cp.g10,cq.g5,cq.g6,cq.g7,cq.g8,cq.g9,cq.g10,y5,y6,N5 fun(e:OneP p q)=>z6 (congrArg List.length e.lines)]
 have y6:((p.lines.length:Int)=(q.lines.length:Int))=True:=Jm
 by_cases z7:p.consts.length=q.consts.length
 case neg=>
  have y7:((p.consts.length:Int)=(q.consts.length:Int))=False:=Jn
  refine Run.go 100 ?_
  simp -implicitDefEqProofs only [go_sem,l5,l6,l7,l8,l9,l10,cp.g5,cp.g6,cp.g7,cp.g8,cp.g9,cp.g10,cq.g5,cq.g6,cq.g7,cq.g8,cq.g9,cq.g10,y5,y6,y7,N5 fun(e:OneP p q)=>z7 (congrArg List.length e.consts)]
 have y7:((p.consts.length:Int)=(q.consts.length:Int))=True:=Jm
 by_cases z8:p.protos.length=q.protos.length
 case neg=>
  have y8:((p.protos.length:Int)=(q.protos.length:Int))=False:=Jn
  refine Run.go 100 ?_
  simp -implicitDefEqProofs only [go_sem,l5,l6,l7,l8,l9,l10,cp.g5,cp.g6,cp.g7,cp.g8,cp.g9,cp.g10,cq.g5,cq.g6,cq.g7,cq.g8,cq.g9,cq.g10,y5,y6,y7,y8,N5 fun(e:OneP p q)=>z8 (e.protos)]
 have y8:((p.protos.length:Int)=(q.protos.length:Int))=True:=Jm
 by_cases z9:p.ups.length=q.ups.length
 case neg=>
  have y9:((p.ups.length:Int)=(q.ups.length:Int))=False:=Jn
  refine Run.go 100 ?_
  simp -implicitDefEqProofs only [go_sem,l5,l6,l7,l8,l9,l10,cp.g5,cp.g6,cp.g7,cp.g8,cp.g9,cp.g10,cq.g5,cq.g6,cq.g7,cq.g8,cq.g9,cq.g10,y5,y6,y7,y8,y9,N5 fun(e:OneP p q)=>z9 (congrArg List.length e.ups)]
 have y9:((p.ups.length:Int)=(q.ups.length:Int))=True:=Jm
 by_cases z10:p.vars.length=q.vars.length
 case neg=>
  have y10:((p.vars.length:Int)=(q.vars.length:Int))=False:=Jn
  refine Run.go 100 ?_
  simp -implicitDefEqProofs only [go_sem,l5,l6,l7,l8,l9,l10,cp.g5,cp.g6,cp.g7,cp.g8,cp.g9,cp.g10,cq.g5,cq.g6,cq.g7,cq.g8,cq.g9,cq.g10,y5,y6,y7,y8,y9,y10,N5 fun(e:OneP p q)=>z10 (congrArg List.length e.vars)]
 have y10:((p.vars.length:Int)=(q.vars.length:Int))=True:=Jm
 refine Run.go 100 ?_
 simp -implicitDefEqProofs only [go_sem,l5,l6,l7,l8,l9,l10,cp.g5,cp.g6,cp.g7,cp.g8,cp.g9,cp.g10,cq.g5,cq.g6,cq.g7,cq.g8,cq.g9,cq.g10,y5,y6,y7,y8,y9,y10]
 have ra5: ∀(k:Nat) x,p.code[k]? =some x→(p.code.map Ins.row)[k]? =some (Ins.row x):=fun k x hk=>by rw [List.getElem?_map,hk];rfl
 have rb5: ∀(k:Nat) x,q.code[k]? =some x→(q.code.map Ins.row)[k]? =some (Ins.row x):=fun k x hk=>by rw [List.getElem?_map,hk];rfl
 have za5:=eq_true (C1 Ins.row 5 (fun _=>rfl) p.code)
 have zb5:=eq_true (C1 Ins.row 5 (fun _=>rfl) q.code)
 have la5:=l5 p.code
 have lb5:=l5 q.code
 have ga5:=cp.g5
 have gb5:=cq.g5
 have hb5:=hp.code
 generalize p.code.map Ins.row=A5 at ra5 za5 la5 ga5
 generalize q.code.map Ins.row=B5 at rb5 zb5 lb5 gb5
 refine Run.rounds (fun(k:Nat)=>⟨[(5,.int .i64 k),(3,.ptr (35*10000+3) 1 0 0),(2,.ptr (35*10000+2) 0 0 0)],[((35*10000+3),1,.rows 11 [qr]),((35*10000+2),0,.rows 11 [pr])],2⟩) (fun k=>k≤p.code.length∧p.code.take k=q.code.take k) (fun k=>p.code.length-k) 0 ze ⟨Nat.zero_le _,rfl⟩ ?_
 rintro k ⟨hk,heq⟩ ih
 refine Run.unf A4O (Run.go 100 ?_)
 by_cases hlt:k<p.code.length
 case pos=>
  have q0:((k:Int)<(p.code.length:Int))=True:=Jm
  have q1:((0:Int)≤(k:Int))=True:=Jm
  have q2:((k:Int)<(q.code.length:Int))=True:=Jm
  obtain⟨x,hx⟩: ∃x,p.code[k]? =some x:=⟨p.code[k],by simp [hlt]⟩
  obtain⟨y,hy⟩: ∃y,q.code[k]? =some y:=⟨q.code[k]' zd,by simp [show k<q.code.length by omega]⟩
  have hxr:=ra5 k x hx
  have hyr:=rb5 k y hy
  have hzk:((k+1:Nat):Int)=(k:Int)+1:=by omega
  by_cases hxy:x=y
  ·subst hxy
   simp -implicitDefEqProofs only [go_sem,q0,q1,q2,ga5,gb5,la5,lb5,za5,zb5,hxr,hyr,Ins.row,Option.some.injEq,forall_eq']
   exact Yj
  ·have hne:=fun(e:OneP p q)=>A8x hx hy hxy e.code
   have hq:=C3j hxy
   simp -implicitDefEqProofs only [go_sem,q0,q1,q2,ga5,gb5,la5,lb5,za5,zb5,hxr,hyr,Ins.row,hq,Option.some.injEq,forall_eq',N5 hne]
   repeat' (first|omega|refine And.intro ?_ ?_)
 have e5:k=p.code.length:=by omega
 subst e5
 have w5:=A2Z z5 heq
 clear ih
 simp -implicitDefEqProofs only [go_sem,ga5,la5,Int.lt_irrefl]
 have ra6: ∀(k:Nat) x,p.lines[k]? =some x→(p.lines.map E9)[k]? =some (E9 x):=fun k x hk=>by rw [List.getElem?_map,hk];rfl
 have rb6: ∀(k:Nat) x,q.lines[k]? =some x→(q.lines.map E9)[k]? =some (E9 x):=fun k x hk=>by rw [List.getElem?_map,hk];rfl
 have za6:=eq_true (C1 E9 1 (fun _=>rfl) p.lines)
 have zb6:=eq_true (C1 E9 1 (fun _=>rfl) q.lines)
 have la6:=l6 p.lines
 have lb6:=l6 q.lines
 have ga6:=cp.g6
 have gb6:=cq.g6
 have hb6:=hp.lines
 generalize p.lines.map E9=A6 at ra6 za6 la6 ga6
 generalize q.lines.map E9=B6 at rb6 zb6 lb6 gb6
 refine Run.rounds (fun(k:Nat)=>⟨[(6,.int .i64 k),(3,.ptr (35*10000+3) 1 0 0),(2,.ptr (35*10000+2) 0 0 0)],[((35*10000+3),1,.rows 11 [qr]),((35*10000+2),0,.rows 11 [pr])],2⟩) (fun k=>k≤p.lines.length∧p.lines.take k=q.lines.take k) (fun k=>p.lines.length-k) 0 ze ⟨Nat.zero_le _,rfl⟩ ?_
 rintro k ⟨hk,heq⟩ ih
 refine Run.unf A4P (Run.go 100 ?_)
 by_cases hlt:k<p.lines.length
 case pos=>
  have q0:((k:Int)<(p.lines.length:Int))=True:=Jm
  have q1:((0:Int)≤(k:Int))=True:=Jm
  have q2:((k:Int)<(q.lines.length:Int))=True:=Jm
  obtain⟨x,hx⟩: ∃x,p.lines[k]? =some x:=⟨p.lines[k],by simp [hlt]⟩
  obtain⟨y,hy⟩: ∃y,q.lines[k]? =some y:=⟨q.lines[k]' zd,by simp [show k<q.lines.length by omega]⟩
  have hxr:=ra6 k x hx
  have hyr:=rb6 k y hy
  have hzk:((k+1:Nat):Int)=(k:Int)+1:=by omega
  by_cases hxy:x=y
  ·subst hxy
   simp -implicitDefEqProofs only [go_sem,q0,q1,q2,ga6,gb6,la6,lb6,za6,zb6,hxr,hyr,E9,Option.some.injEq,forall_eq']
   exact Yj
  ·have hne:=fun(e:OneP p q)=>A8x hx hy hxy e.lines
   simp -implicitDefEqProofs only [go_sem,q0,q1,q2,ga6,gb6,la6,lb6,za6,zb6,hxr,hyr,E9,hxy,Option.some.injEq,forall_eq',N5 hne]
   repeat' (first|omega|refine And.intro ?_ ?_)
 have e6:k=p.lines.length:=by omega
 subst e6
 have w6:=A2Z z6 heq
 clear ih
 simp -implicitDefEqProofs only [go_sem,ga6,la6,Int.lt_irrefl]
 have ra7: ∀(k:Nat) x,p.consts[k]? =some x→(p.consts.map Kst.row)[k]? =some (Kst.row x):=fun k x hk=>by rw [List.getElem?_map,hk];rfl
 have rb7: ∀(k:Nat) x,q.consts[k]? =some x→(q.consts.map Kst.row)[k]? =some (Kst.row x):=fun k x hk=>by rw [List.getElem?_map,hk];rfl
 have za7:=eq_true (C1 Kst.row 5 (fun _=>rfl) p.consts)
 have zb7:=eq_true (C1 Kst.row 5 (fun _=>rfl) q.consts)
 have la7:=l7 p.consts
 have lb7:=l7 q.consts
 have ga7:=cp.g7
 have gb7:=cq.g7
 have hb7:=hp.consts
 generalize p.consts.map Kst.row=A7 at ra7 za7 la7 ga7
 generalize q.consts.map Kst.row=B7 at rb7 zb7 lb7 gb7
 refine Run.rounds (fun(k:Nat)=>⟨[(7,.int .i64 k),(3,.ptr (35*10000+3) 1 0 0),(2,.ptr (35*10000+2) 0 0 0)],[((35*10000+3),1,.rows 11 [qr]),((35*10000+2),0,.rows 11 [pr])],2⟩) (fun k=>k≤p.consts.length∧p.consts.take k=q.consts.take k) (fun k=>p.consts.length-k) 0 ze ⟨Nat.zero_le _,rfl⟩ ?_
 rintro k ⟨hk,heq⟩ ih
 refine Run.unf A4Q (Run.go 100 ?_)
 by_cases hlt:k<p.consts.length
 case pos=>
  have q0:((k:Int)<(p.consts.length:Int))=True:=Jm
  have q1:((0:Int)≤(k:Int))=True:=Jm
  have q2:((k:Int)<(q.consts.length:Int))=True:=Jm
  obtain⟨x,hx⟩: ∃x,p.consts[k]? =some x:=⟨p.consts[k],by simp [hlt]⟩
  obtain⟨y,hy⟩: ∃y,q.consts[k]? =some y:=⟨q.consts[k]' zd,by simp [show k<q.consts.length by omega]⟩
  have hxr:=ra7 k x hx
  have hyr:=rb7 k y hy
  have hzk:((k+1:Nat):Int)=(k:Int)+1:=by omega
  by_cases hxy:x=y
  ·subst hxy
   simp -implicitDefEqProofs only [go_sem,q0,q1,q2,ga7,gb7,la7,lb7,za7,zb7,hxr,hyr,Kst.row,Option.some.injEq,forall_eq']
   exact Yj
  ·have hne:=fun(e:OneP p q)=>A8x hx hy hxy e.consts
   have hq:=C3k hxy
   simp -implicitDefEqProofs only [go_sem,q0,q1,q2,ga7,gb7,la7,lb7,za7,zb7,hxr,hyr,Kst.row,hq,Option.some.injEq,forall_eq',N5 hne]
   repeat' (first|omega|refine And.intro ?_ ?_)
 have e7:k=p.consts.length:=by omega
 subst e7
 have w7:=A2Z z7 heq
 clear ih
 simp -implicitDefEqProofs only [go_sem,ga7,la7,Int.lt_irrefl]
 have ra9: ∀(k:Nat) x,p.ups[k]? =some x→(p.ups.map Upv.row)[k]? =some (Upv.row x):=fun k x hk=>by rw [List.getElem?_map,hk];rfl
 have rb9: ∀(k:Nat) x,q.ups[k]? =some x→(q.ups.map Upv.row)[k]? =some (Upv.row x):=fun k x hk=>by rw [List.getElem?_map,hk];rfl
 have za9:=eq_true (C1 Upv.row 3 (fun _=>rfl) p.ups)
 have zb9:=eq_true (C1 Upv.row 3 (fun _=>rfl) q.ups)
 have la9:=l9 p.ups
 have lb9:=l9 q.ups
 have ga9:=cp.g9
 have gb9:=cq.g9
 have hb9:=hp.ups
 generalize p.ups.map Upv.row=A9 at ra9 za9 la9 ga9
 generalize q.ups.map Upv.row=B9 at rb9 zb9 lb9 gb9
 refine Run.rounds (fun(k:Nat)=>⟨[(8,.int .i64 k),(3,.ptr (35*10000+3) 1 0 0),(2,.ptr (35*10000+2) 0 0 0)],[((35*10000+3),1,.rows 11 [qr]),((35*10000+2),0,.rows 11 [pr])],2⟩) (fun k=>k≤p.ups.length∧p.ups.take k=q.ups.take k) (fun k=>p.ups.length-k) 0 ze ⟨Nat.zero_le _,rfl⟩ ?_
 rintro k ⟨hk,heq⟩ ih
 refine Run.unf A4R (Run.go 100 ?_)
 by_cases hlt:k<p.ups.length
 case pos=>
  have q0:((k:Int)<(p.ups.length:Int))=True:=Jm
  have q1:((0:Int)≤(k:Int))=True:=Jm
  have q2:((k:Int)<(q.ups.length:Int))=True:=Jm
  obtain⟨x,hx⟩: ∃x,p.ups[k]? =some x:=⟨p.ups[k],by simp [hlt]⟩
  obtain⟨y,hy⟩: ∃y,q.ups[k]? =some y:=⟨q.ups[k]' zd,by simp [show k<q.ups.length by omega]⟩
  have hxr:=ra9 k x hx
  have hyr:=rb9 k y hy
  have hzk:((k+1:Nat):Int)=(k:Int)+1:=by omega
  by_cases hxy:x=y
  ·subst hxy
   simp -implicitDefEqProofs only [go_sem,q0,q1,q2,ga9,gb9,la9,lb9,za9,zb9,hxr,hyr,Upv.row,Option.some.injEq,forall_eq']
   exact Yj
  ·have hne:=fun(e:OneP p q)=>A8x hx hy hxy e.ups
   have hq:=C3l hxy
   simp -implicitDefEqProofs only [go_sem,q0,q1,q2,ga9,gb9,la9,lb9,za9,zb9,hxr,hyr,Upv.row,hq,Option.some.injEq,forall_eq',N5 hne]
   repeat' (first|omega|refine And.intro ?_ ?_)
 have e9:k=p.ups.length:=by omega
 subst e9
 have w9:=A2Z z9 heq
 clear ih
 simp -implicitDefEqProofs only [go_sem,ga9,la9,Int.lt_irrefl]
 have ra10: ∀(k:Nat) x,p.vars[k]? =some x→(p.vars.map Vr.row)[k]? =some (Vr.row x):=fun k x hk=>by rw [List.getElem?_map,hk];rfl
 have rb10: ∀(k:Nat) x,q.vars[k]? =some x→(q.vars.map Vr.row)[k]? =some (Vr.row x):=fun k x hk=>by rw [List.getElem?_map,hk];rfl
 have za10:=eq_true (C1 Vr.row 5 (fun _=>rfl) p.vars)
 have zb10:=eq_true (C1 Vr.row 5 (fun _=>rfl) q.vars)
 have la10:=l10 p.vars
 have lb10:=l10 q.vars
 have ga10:=cp.g10
 have gb10:=cq.g10
 have hb10:=hp.vars
 generalize p.vars.map Vr.row=A10 at ra10 za10 la10 ga10
 generalize q.vars.map Vr.row=B10 at rb10 zb10 lb10 gb10
 refine Run.rounds (fun(k:Nat)=>⟨[(9,.int .i64 k),(3,.ptr (35*10000+3) 1 0 0),(2,.ptr (35*10000+2) 0 0 0)],[((35*10000+3),1,.rows 11 [qr]),((35*10000+2),0,.rows 11 [pr])],2⟩) (fun k=>k≤p.vars.length∧p.vars.take k=q.vars.take k) (fun k=>p.vars.length-k) 0 ze ⟨Nat.zero_le _,rfl⟩ ?_
 rintro k ⟨hk,heq⟩ ih
 refine Run.unf A4S (Run.go 100 ?_)
 by_cases hlt:k<p.vars.length
 case pos=>
  have q0:((k:Int)<(p.vars.length:Int))=True:=Jm
  have q1:((0:Int)≤(k:Int))=True:=Jm
  have q2:((k:Int)<(q.vars.length:Int))=True:=Jm
  obtain⟨x,hx⟩: ∃x,p.vars[k]? =some x:=⟨p.vars[k],by simp [hlt]⟩
  obtain⟨y,hy⟩: ∃y,q.vars[k]? =some y:=⟨q.vars[k]' zd,by simp [show k<q.vars.length by omega]⟩
  have hxr:=ra10 k x hx
  have hyr:=rb10 k y hy
  have hzk:((k+1:Nat):Int)=(k:Int)+1:=by omega
  by_cases hxy:x=y
  ·subst hxy
   simp -implicitDefEqProofs only [go_sem,q0,q1,q2,ga10,gb10,la10,lb10,za10,zb10,hxr,hyr,Vr.row,Option.some.injEq,forall_eq']
   exact Yj
  ·have hne:=fun(e:OneP p q)=>A8x hx hy hxy e.vars
   have hq:=C7a hxy
   simp -implicitDefEqProofs only [go_sem,q0,q1,q2,ga10,gb10,la10,lb10,za10,zb10,hxr,hyr,Vr.row,hq,Option.some.injEq,forall_eq',N5 hne]
   repeat' (first|omega|refine And.intro ?_ ?_)
 have e10:k=p.vars.length:=by omega
 subst e10
 have w10:=A2Z z10 heq
 clear ih
 simp -implicitDefEqProofs only [go_sem,ga10,la10,Int.lt_irrefl,C0g ⟨h0,h1,h2,h3,h4,w5,w6,w7,z8,w9,w10⟩]
end
section
open Go.Abs
attribute [local irreducible] A0 Run J4
theorem B5O(p q:Fn)(hp:p.bd)(hq:q.bd)(hpc:p.each.length≤1000000)(hqc:q.each.length≤1000000):Pure Tryz.prog 16 [.agg p.row,.agg q.row] (.bool (B2G p q)):=by
 have hep:=A6G p hp hpc
 have heq:=A6G q hq hqc
 have sp:=Fn.row_sub I6 p
 have sq:=Fn.row_sub I6 q
 obtain⟨f1,f2⟩:=C9 p
 obtain⟨e1,e2⟩:=C9 q
 have la:(p.each.map Fn.row).length=p.each.length:=List.length_map ..
 have lb:(q.each.map Fn.row).length=q.each.length:=List.length_map ..
 have za:=eq_true (C1 Fn.row 11 Fn.row_len p.each)
 have zb:=eq_true (C1 Fn.row 11 Fn.row_len q.each)
 have ra: ∀(k:Nat) x,p.each[k]? =some x→(p.each.map Fn.row)[k]? =some (Fn.row x):=fun k x hk=>by rw [List.getElem?_map,hk];rfl
 have rb: ∀(k:Nat) x,q.each[k]? =some x→(q.each.map Fn.row)[k]? =some (Fn.row x):=fun k x hk=>by rw [List.getElem?_map,hk];rfl
 generalize p.each.map Fn.row=A at*
 generalize q.each.map Fn.row=B at*
 generalize p.row=pr at*
 generalize q.row=qr at*
 refine Pure.of 0 (A0.enter A0N Jo (Run.go 100 ?_))
 simp -implicitDefEqProofs only [go_sem,A3,f1,f2,e1,e2]
 refine⟨?_,?_⟩<;>
 ·refine A0.pureF hep (by simp -implicitDefEqProofs only [go_sem,sp]) ?_
  simp -implicitDefEqProofs only [go_sem,e1,e2]
  refine A0.pureF heq (by simp -implicitDefEqProofs only [go_sem,sq]) ?_
  by_cases hl:p.each.length=q.each.length
  ·have hl':((p.each.length:Int)=(q.each.length:Int))=True:=Jm
   simp -implicitDefEqProofs only [go_sem,la,lb,hl']
   refine Run.rounds (fun(k:Nat)=>⟨[(7,.int .i64 k),(6,.isl B),(5,.isl A)],[],2⟩) (fun k=>k≤p.each.length∧ ∀(i:Nat) x y,i<k→p.each[i]? =some x→q.each[i]? =some y→OneP x y) (fun k=>p.each.length-k) 0 ze ⟨Nat.zero_le _,fun i x y h=>by omega⟩ ?_
   rintro k ⟨hk,hall⟩ ih
   refine Run.unf A3T (Run.go 100 ?_)
   by_cases hlt:k<p.each.length
   ·have q0:((k:Int)<(p.each.length:Int))=True:=Jm
    have q1:((0:Int)≤(k:Int))=True:=Jm
    have q2:((k:Int)<(q.each.length:Int))=True:=Jm
    obtain⟨x,hx⟩: ∃x,p.each[k]? =some x:=⟨p.each[k],by simp [hlt]⟩
    obtain⟨y,hy⟩: ∃y,q.each[k]? =some y:=⟨q.each[k]' zd,by simp [show k<q.each.length by omega]⟩
    have hxr:=ra k x hx
    have hyr:=rb k y hy
    have hone:=C7f x y (hp x (List.mem_of_getElem? hx))
    have hzk:((k+1:Nat):Int)=(k:Int)+1:=by omega
    obtain⟨m1,m2⟩:=C9 x
    obtain⟨n1,n2⟩:=C9 y
    have sx:=Fn.row_sub I6 x
    have sy:=Fn.row_sub I6 y
    generalize x.row=xr at*
    generalize y.row=yr at*
    simp -implicitDefEqProofs only [go_sem,q0,q1,q2,la,lb,za,zb,hxr,hyr,m1,m2,n1,n2,Option.some.injEq,forall_eq']
    refine⟨hlt,by omega,?_⟩
    refine A0.pureF hone (by simp -implicitDefEqProofs only [go_sem,sx,sy]) ?_
    by_cases hxy:OneP x y
    ·simp -implicitDefEqProofs only [go_sem,C0g hxy]
     refine⟨by omega,?_⟩
     refine ih _ (k+1) ⟨by omega,fun i x' y' hi hx' hy'=> ?_⟩ zd zk
     by_cases e:i=k
     ·subst e
      rw [hx]at hx';rw [hy]at hy'
      cases hx';cases hy'
      exact hxy
     ·exact hall i x' y' zd hx' hy'
    ·have hns:B2G p q=false:=L3 fun e=>hxy (((C0B p q).1 e).2 k x y hx hy)
     simp -implicitDefEqProofs only [go_sem,N5 hxy,hns]
   ·have hfin:p=q:=(C0B p q).2 ⟨hl,fun i x y hx hy=>hall i x y (by have:=(List.getElem?_eq_some_iff.1 hx).1;omega) hx hy⟩
    have e:k=p.each.length:=by omega
    subst e
    simp -implicitDefEqProofs only [go_sem,la,Int.lt_irrefl,A9N hfin]
  ·have hl':((p.each.length:Int)=(q.each.length:Int))=False:=Jn
   have hns:B2G p q=false:=L3 fun e=>hl zm
   simp -implicitDefEqProofs only [go_sem,la,lb,hl',hns]
end
end Go.Proofs.YtflobbpcabopjaaGreatDoor
