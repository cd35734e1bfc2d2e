/-
 Equality of functions, of the program. No condition.
-/
import Derived.Test.YtflobbpcabopjaaGreatDoorFnQ
set_option linter.unusedVariables false
set_option linter.unusedSimpArgs false
set_option maxRecDepth 100000
set_option maxHeartbeats 0
namespace Go.Proofs.YtflobbpcabopjaaGreatDoor
open Go.Abs
attribute [local irreducible] A0 Run G9
noncomputable def B7k (p q:Fn):Bool:=by
 classical exact decide (p=q)
theorem B3G{p q:Fn}(h:p=q):B7k p q=true:=by simp [B7k,h]
theorem M9{p q:Fn}(h: ¬p=q):B7k p q=false:=by simp [B7k,h]
noncomputable def B9O (a b:List Fn):Bool:=by
 classical exact decide (a=b)
theorem B7l{p q:List Fn}(h:p=q):B9O p q=true:=by simp [B9O,h]
theorem B5T{p q:List Fn}(h: ¬p=q):B9O p q=false:=by simp [B9O,h]
theorem Fn.ext'{p q:Fn}(h0:p.name=q.name)(h1:p.line=q.line)(h2:p.params=q.params)(h3:p.vararg=q.vararg)(h4:p.regs=q.regs)(h5:p.code=q.code)(h6:p.lines=q.lines)(h7:p.consts=q.consts)
  (h8:p.protos=q.protos) (h9:p.ups=q.ups) (h10:p.vars=q.vars):p=q:=by
 obtain⟨_⟩:=p;obtain⟨_⟩:=q
 simp_all
structure Cells(p:Fn)(r:List V):Prop where
 len:r.length=11
 tk:r.take 11=r
 g0:r[0]? =some (.str p.name)
 g1:r[1]? =some (.int .i64 p.line)
 g2:r[2]? =some (.int .i64 p.params)
 g3:r[3]? =some (.bool p.vararg)
 g4:r[4]? =some (.int .i64 p.regs)
 g5:r[5]? =some (.isl (p.code.map Ins.row))
 g6:r[6]? =some (.isl (p.lines.map C7))
 g7:r[7]? =some (.isl (p.consts.map Kst.row))
 g8:r[8]? =some (.isl (p.protos.map Fn.row))
 g9:r[9]? =some (.isl (p.ups.map Upv.row))
 g10:r[10]? =some (.isl (p.vars.map Vr.row))
theorem Fn.cells(p:Fn):Cells p p.row:=by
 have h:=B5 p
 refine⟨h.1,h.2,?_,?_,?_,?_,?_,?_,?_,?_,?_,?_,?_⟩<;>(rw [p.row_eq];rfl)
theorem B5k(a b:List Fn)(ha:a.length≤17592186043904)(hs: ∀p∈a,∀q,Pure Tryz.prog 17 [.agg p.row,.agg q.row] (.bool (B7k p q))):
  Pure Tryz.prog 41 [.isl (a.map Fn.row),.isl (b.map Fn.row),.fn 17 []] (.bool (B9O a b)):=by
 have la:(a.map Fn.row).length=a.length:=List.length_map ..
 have lb:(b.map Fn.row).length=b.length:=List.length_map ..
 have za:=eq_true (A7 Fn.row 11 Fn.row_len a)
 have zb:=eq_true (A7 Fn.row 11 Fn.row_len b)
 have ra: ∀(k:Nat) x,a[k]? =some x→(a.map Fn.row)[k]? =some (Fn.row x):=fun k x hk=>by rw [List.getElem?_map,hk];rfl
 have rb: ∀(k:Nat) x,b[k]? =some x→(b.map Fn.row)[k]? =some (Fn.row x):=fun k x hk=>by rw [List.getElem?_map,hk];rfl
 generalize a.map Fn.row=A at*
 generalize b.map Fn.row=B at*
 refine Pure.of 0 (A0.enter C6 (Nat.le_of_ble_eq_true rfl) (Run.go 100 ?_))
 by_cases hl:a.length=b.length
 ·have hl':((a.length:Int)=(b.length:Int))=True:=eq_true (by omega)
  simp -implicitDefEqProofs only [go_sem,A3,la,lb,hl']
  refine Run.roundsK (fun(x:Nat×Nat)=>⟨[(17,.int .i64 x.1),(16,.int .i64 a.length),(15,.isl A),(2,.fn 17 []),(1,.isl B),(0,.isl A)],[],x.2⟩) (fun x=>x.1≤a.length∧a.take x.1=b.take x.1) (fun x=>a.length-x.1) (0,0) (F7.wk (by simp -implicitDefEqProofs only [go_sem,hl'])) ⟨Nat.zero_le _,rfl⟩ ?_
  rintro⟨k,n⟩ ⟨hk,heq⟩ ih
  simp only at hk heq ih⊢
  refine Run.unf G1 (Run.go 100 ?_)
  by_cases hlt:k<a.length
  ·have q0:((k:Int)<(a.length:Int))=True:=eq_true (by omega)
   have q1:((0:Int)≤(k:Int))=True:=eq_true (by omega)
   have q2:((k:Int)<(b.length:Int))=True:=eq_true (by omega)
   obtain⟨x,hx⟩: ∃x,a[k]? =some x:=⟨a[k],by simp [hlt]⟩
   obtain⟨y,hy⟩: ∃y,b[k]? =some y:=⟨b[k]'(by omega),by simp [show k<b.length by omega]⟩
   have hxr:=ra k x hx
   have hyr:=rb k y hy
   have hzk:((k+1:Nat):Int)=(k:Int)+1:=by omega
   have hc:=hs x (List.mem_of_getElem? hx) y
   obtain⟨f1,f2⟩:=B5 x
   obtain⟨e1,e2⟩:=B5 y
   have sx:=Fn.row_sub E8 x
   have sy:=Fn.row_sub E8 y
   generalize x.row=xr at*
   generalize y.row=yr at*
   simp -implicitDefEqProofs only [go_sem,q0,q1,q2,la,lb,za,zb,hxr,hyr,f1,f2,e1,e2,Option.some.injEq,forall_eq',List.append_nil]
   refine⟨hlt,by omega,by kernel_rfl,?_⟩
   refine A0.pureF hc (by simp -implicitDefEqProofs only [go_sem,sx,sy]) ?_
   by_cases hxy:x=y
   ·simp -implicitDefEqProofs only [go_sem,B3G hxy]
    refine⟨by omega,?_⟩
    exact ih _ (k+1,n+1+1) ⟨by simp only;omega,A2h heq hx (hxy ▸ hy)⟩ (by simp only;omega) (F7.wk (by simp -implicitDefEqProofs only [go_sem,hzk]))
   ·simp -implicitDefEqProofs only [go_sem,M9 hxy,B5T (B7a hx hy hxy)]
  ·have e:k=a.length:=by omega
   subst e
   simp -implicitDefEqProofs only [go_sem,Int.lt_irrefl,B7l (B3d hl heq)]
 ·have hl':((a.length:Int)=(b.length:Int))=False:=eq_false (by omega)
  have hne: ¬a=b:=fun e=>hl (by rw [e])
  simp -implicitDefEqProofs only [go_sem,A3,la,lb,hl',B5T hne]
theorem C3Q(p:Fn)(hp:p.bd): ∀q,Pure Tryz.prog 17 [.agg p.row,.agg q.row] (.bool (B7k p q)):=by
 induction p using Fn.ind with
 |h p ih=>
  intro q
  have hl:=hp.self
  have cp:=p.cells
  have cq:=q.cells
  have c5:=C2V p.code q.code (Nat.le_trans hl.code (by decide))
  have c6:=C2W p.lines q.lines (Nat.le_trans hl.lines (by decide))
  have c7:=C2X p.consts q.consts (Nat.le_trans hl.consts (by decide))
  have c8:=B5k p.protos q.protos (Nat.le_trans hl.protos (by decide)) fun x hx y=>ih x hx (hp.child hx) y
  have c9:=C2Y p.ups q.ups (Nat.le_trans hl.ups (by decide))
  have c10:=C4P p.vars q.vars (Nat.le_trans hl.vars (by decide))
  have s5:=fun(l:List Ins)=>B8 E8 _ l fun x _=>Ins.row_sub E8 x
  have s6:=fun(l:List Int)=>B8 E8 _ l fun x _=>B1Y E8 x
  have s7:=fun(l:List Kst)=>B8 E8 _ l fun x _=>Kst.row_sub E8 x
  have s8:=fun(l:List Fn)=>Fn.rows_sub E8 l
  have s9:=fun(l:List Upv)=>B8 E8 _ l fun x _=>Upv.row_sub E8 x
  have s10:=fun(l:List Vr)=>B8 E8 _ l fun x _=>Vr.row_sub E8 x
  generalize p.row=pr at*
  generalize q.row=qr at*
  refine Pure.of 0 (A0.enter B0A (Nat.le_of_ble_eq_true rfl) (Run.go 100 ?_))
  by_cases h0:p.name=q.name
  case neg=>simp -implicitDefEqProofs only [go_sem,A3,cp.len,cp.tk,cq.len,cq.tk,cp.g0,cp.g1,cp.g2,cp.g3,cp.g4,cp.g5,cp.g6,cp.g7,cp.g8,cp.g9,cp.g10,cq.g0,cq.g1,cq.g2,cq.g3,cq.g4,cq.g5,cq.g6,cq.g7,cq.g8,cq.g9,cq.g10,h0,M9 fun(e:p=q)=>h0 (by rw [e])]
  by_cases h1:p.line=q.line
  case neg=>simp -implicitDefEqProofs only [go_sem,A3,cp.len,cp.tk,cq.len,cq.tk,cp.g0,cp.g1,cp.g2,cp.g3,cp.g4,cp.g5,cp.g6,cp.g7,cp.g8,cp.g9,cp.g10,cq.g0,cq.g1,cq.g2,cq.g3,cq.g4,cq.g5,cq.g6,cq.g7,cq.g8,cq.g9,cq.g10,h0,h1,M9 fun(e:p=q)=>h1 (by rw [e])]
  by_cases h2:p.params=q.params
  case neg=>simp -implicitDefEqProofs only [go_sem,A3,cp.len,cp.tk,cq.len,cq.tk,cp.g0,cp.g1,cp.g2,cp.g3,cp.g4,cp.g5,cp.g6,cp.g7,cp.g8,cp.g9,cp.g10,cq.g0,cq.g1,cq.g2,cq.g3,cq.g4,cq.g5,cq.g6,cq.g7,cq.g8,cq.g9,cq.g10,h0,h1,h2,M9 fun(e:p=q)=>h2 (by rw [e])]
  by_cases h3:p.vararg=q.vararg
  case neg=>simp -implicitDefEqProofs only [go_sem,A3,cp.len,cp.tk,cq.len,cq.tk,cp.g0,cp.g1,cp.g2,cp.g3,cp.g4,cp.g5,cp.g6,cp.g7,cp.g8,cp.g9,cp.g10,cq.g0,cq.g1,cq.g2,cq.g3,cq.g4,cq.g5,cq.g6,cq.g7,cq.g8,cq.g9,cq.g10,h0,h1,h2,h3,M9 fun(e:p=q)=>h3 (by rw [e])]
  by_cases h4:p.regs=q.regs
  case neg=>simp -implicitDefEqProofs only [go_sem,A3,cp.len,cp.tk,cq.len,cq.tk,cp.g0,cp.g1,cp.g2,cp.g3,cp.g4,cp.g5,cp.g6,cp.g7,cp.g8,cp.g9,cp.g10,cq.g0,cq.g1,cq.g2,cq.g3,cq.g4,cq.g5,cq.g6,cq.g7,cq.g8,cq.g9,cq.g10,h0,h1,h2,h3,h4,M9 fun(e:p=q)=>h4 (by rw [e])]
  simp -implicitDefEqProofs only [go_sem,A3,cp.len,cp.tk,cq.len,cq.tk,cp.g0,cp.g1,cp.g2,cp.g3,cp.g4,cp.g5,cp.g6,cp.g7,cp.g8,cp.g9,cp.g10,cq.g0,cq.g1,cq.g2,cq.g3,cq.g4,cq.g5,cq.g6,cq.g7,cq.g8,cq.g9,cq.g10,h0,h1,h2,h3,h4]
  refine A0.pureF c5 (by simp -implicitDefEqProofs only [go_sem,s5]) ?_
  by_cases h5:p.code=q.code
  case neg=>simp -implicitDefEqProofs only [go_sem,h5,cp.g5,cp.g6,M9 fun(e:p=q)=>h5 (by rw [e])]
  simp only [h5,decide_true]
  simp -implicitDefEqProofs only [go_sem,cp.g6,cp.g7,cp.g8,cp.g9,cp.g10,cq.g6,cq.g7,cq.g8,cq.g9,cq.g10]
  refine A0.pureF c6 (by simp -implicitDefEqProofs only [go_sem,s6]) ?_
  by_cases h6:p.lines=q.lines
  case neg=>simp -implicitDefEqProofs only [go_sem,h6,cp.g5,cp.g6,M9 fun(e:p=q)=>h6 (by rw [e])]
  simp only [h6,decide_true]
  simp -implicitDefEqProofs only [go_sem,cp.g6,cp.g7,cp.g8,cp.g9,cp.g10,cq.g6,cq.g7,cq.g8,cq.g9,cq.g10]
  refine A0.pureF c7 (by simp -implicitDefEqProofs only [go_sem,s7]) ?_
  by_cases h7:p.consts=q.consts
  case neg=>simp -implicitDefEqProofs only [go_sem,h7,cp.g5,cp.g6,M9 fun(e:p=q)=>h7 (by rw [e])]
  simp only [h7,decide_true]
  simp -implicitDefEqProofs only [go_sem,cp.g6,cp.g7,cp.g8,cp.g9,cp.g10,cq.g6,cq.g7,cq.g8,cq.g9,cq.g10]
  refine A0.pureF c9 (by simp -implicitDefEqProofs only [go_sem,s9]) ?_
  by_cases h9:p.ups=q.ups
  case neg=>simp -implicitDefEqProofs only [go_sem,h9,cp.g5,cp.g6,M9 fun(e:p=q)=>h9 (by rw [e])]
  simp only [h9,decide_true]
  simp -implicitDefEqProofs only [go_sem,cp.g6,cp.g7,cp.g8,cp.g9,cp.g10,cq.g6,cq.g7,cq.g8,cq.g9,cq.g10]
  refine A0.pureF c10 (by simp -implicitDefEqProofs only [go_sem,s10]) ?_
  by_cases h10:p.vars=q.vars
  case neg=>simp -implicitDefEqProofs only [go_sem,h10,cp.g5,cp.g6,M9 fun(e:p=q)=>h10 (by rw [e])]
  simp only [h10,decide_true]
  simp -implicitDefEqProofs only [go_sem,cp.g6,cp.g7,cp.g8,cp.g9,cp.g10,cq.g6,cq.g7,cq.g8,cq.g9,cq.g10]
  refine A0.pureF c8 (by simp -implicitDefEqProofs only [go_sem,s8]) ?_
  by_cases h8:p.protos=q.protos
  case neg=>simp -implicitDefEqProofs only [go_sem,B5T h8,M9 fun(e:p=q)=>h8 (by rw [e])]
  simp -implicitDefEqProofs only [go_sem,B7l h8,B3G (Fn.ext' h0 h1 h2 h3 h4 h5 h6 h7 h8 h9 h10)]
end Go.Proofs.YtflobbpcabopjaaGreatDoor
