/-
 Equality of functions, of the program. No condition.
-/
import Derived.Test.YtcaaenddpjepiaaGreatDoorFnQ
set_option linter.unusedVariables false
set_option linter.unusedSimpArgs false
set_option maxRecDepth 100000
set_option maxHeartbeats 0
namespace Go.Proofs.YtcaaenddpjepiaaGreatDoor
open Go.Abs
attribute [local irreducible] A0 Run V5
noncomputable def B3f (p q:Fn):Bool:=by
 classical exact decide (p=q)
theorem A4Q{p q:Fn}(h:p=q):B3f p q=true:=by simp [B3f,h]
theorem O1{p q:Fn}(h: ¬p=q):B3f p q=false:=by simp [B3f,h]
noncomputable def C2w (a b:List Fn):Bool:=by
 classical exact decide (a=b)
theorem B8R{p q:List Fn}(h:p=q):C2w p q=true:=by simp [C2w,h]
theorem B7a{p q:List Fn}(h: ¬p=q):C2w p q=false:=by simp [C2w,h]
theorem Fn.ext'{p q:Fn}(b:p.name=q.name)(e:p.line=q.line)(h2:p.params=q.params)(g:p.vararg=q.vararg)(a:p.regs=q.regs)(i:p.code=q.code)(d:p.lines=q.lines)(j:p.consts=q.consts)
  (c:p.protos=q.protos) (f:p.ups=q.ups) (h:p.vars=q.vars):p=q:=by
 obtain⟨_⟩:=p;obtain⟨_⟩:=q
 simp_all
structure Cells(p:Fn)(r:List V):Prop where
 len:r.length=11
 tk:r.take 11=r
 g0:r[0]? =some (.str p.name)
 g1:r[1]? =some (.int .i64 p.line)
 g2:r[2]? =some (.int .i64 p.params)
 g3:r[3]? =some (.bool p.vararg)
 g4:r[4]? =some (.int .i64 p.regs)
 g5:r[5]? =some (.isl (p.code.map Ins.row))
 g6:r[6]? =some (.isl (p.lines.map D1))
 g7:r[7]? =some (.isl (p.consts.map Kst.row))
 g8:r[8]? =some (.isl (p.protos.map Fn.row))
 g9:r[9]? =some (.isl (p.ups.map Upv.row))
 g10:r[10]? =some (.isl (p.vars.map Vr.row))
theorem Fn.cells(p:Fn):Cells p p.row:=by
 have h:=B4 p
 refine⟨h.1,h.2,?_,?_,?_,?_,?_,?_,?_,?_,?_,?_,?_⟩<;>(rw [p.row_eq];rfl)
theorem B5W(a b:List Fn)(R:a.length≤17592186043904)(K: ∀p∈a,∀q,Pure Tryz.prog 15 [.agg p.row,.agg q.row] (.bool (B3f p q))):
  Pure Tryz.prog 42 [.isl (a.map Fn.row),.isl (b.map Fn.row),.fn 15 []] (.bool (C2w a b)):=by
 have s:(a.map Fn.row).length=a.length:=List.length_map ..
 have r:(b.map Fn.row).length=b.length:=List.length_map ..
 have H:=eq_true (B3 Fn.row 11 Fn.row_len a)
 have C:=eq_true (B3 Fn.row 11 Fn.row_len b)
 have E: ∀(k:Nat) x,a[k]? =some x→(a.map Fn.row)[k]? =some (Fn.row x):=fun k x g=>by rw [List.getElem?_map,g];rfl
 have F: ∀(k:Nat) x,b[k]? =some x→(b.map Fn.row)[k]? =some (Fn.row x):=fun k x g=>by rw [List.getElem?_map,g];rfl
 generalize a.map Fn.row=A at*
 generalize b.map Fn.row=B at*
 refine Pure.of 0 (A0.enter F4 Jk (Run.go 100 ?_))
 by_cases u:a.length=b.length
 ·have c:((a.length:Int)=(b.length:Int))=True:=Ji
  simp -implicitDefEqProofs only [go_sem,A4,s,r,c]
  refine Run.roundsK (fun(x:Nat×Nat)=>⟨[(17,.int .i64 x.1),(16,.int .i64 a.length),(15,.isl A),(2,.fn 15 []),(1,.isl B),(0,.isl A)],[],x.2⟩) (fun x=>x.1≤a.length∧a.take x.1=b.take x.1) (fun x=>a.length-x.1) (0,0) (C1.wk zJ) ⟨Nat.zero_le _,rfl⟩ ?_
  rintro⟨k,n⟩ ⟨g,d⟩ v
  simp only at g d v⊢
  refine Run.unf F1 (Run.go 100 ?_)
  by_cases f:k<a.length
  ·have M:((k:Int)<(a.length:Int))=True:=Ji
   have z:((0:Int)≤(k:Int))=True:=Ji
   have N:((k:Int)<(b.length:Int))=True:=Ji
   obtain⟨x,i⟩: ∃x,a[k]? =some x:=⟨a[k],by simp [f]⟩
   obtain⟨y,j⟩: ∃y,b[k]? =some y:=⟨b[k]' zd,by simp [show k<b.length by omega]⟩
   have t:=E k x i
   have o:=F k y j
   have l:((k+1:Nat):Int)=(k:Int)+1:=by omega
   have I:=K x (List.mem_of_getElem? i) y
   obtain⟨L,D⟩:=B4 x
   obtain⟨O,w⟩:=B4 y
   have J:=Fn.row_sub C7 x
   have G:=Fn.row_sub C7 y
   generalize x.row=P at*
   generalize y.row=Q at*
   simp -implicitDefEqProofs only [go_sem,M,z,N,s,r,H,C,t,o,L,D,O,w,Option.some.injEq,forall_eq',List.append_nil]
   refine⟨f,by omega,by kernel_rfl,?_⟩
   refine A0.pureF I (by simp -implicitDefEqProofs only [go_sem,J,G]) ?_
   by_cases h:x=y
   ·simp -implicitDefEqProofs only [go_sem,A4Q h]
    refine⟨by omega,?_⟩
    exact v _ (k+1,n+1+1) ⟨by simp only;omega,Y4 d i (h ▸ j)⟩ zg (C1.wk zD)
   ·simp -implicitDefEqProofs only [go_sem,O1 h,B7a (B0f i j h)]
  ·have e:k=a.length:=by omega
   subst e
   simp -implicitDefEqProofs only [go_sem,Int.lt_irrefl,B8R (A4Y u d)]
 ·have c:((a.length:Int)=(b.length:Int))=False:=Jj
  have m: ¬a=b:=fun e=>u zm
  simp -implicitDefEqProofs only [go_sem,A4,s,r,c,B7a m]
theorem C7m(p:Fn)(w:p.bd): ∀q,Pure Tryz.prog 15 [.agg p.row,.agg q.row] (.bool (B3f p q)):=by
 induction p using Fn.ind with
 |h p J=>
  intro q
  have g:=w.self
  have c:=p.cells
  have a:=q.cells
  have z:=C6k p.code q.code (Nat.le_trans g.code zh)
  have A:=C6l p.lines q.lines (Nat.le_trans g.lines zh)
  have E:=C6m p.consts q.consts (Nat.le_trans g.consts zh)
  have H:=B5W p.protos q.protos (Nat.le_trans g.protos zh) fun x v y=>J x v (w.child v) y
  have I:=C6n p.ups q.ups (Nat.le_trans g.ups zh)
  have u:=C8v p.vars q.vars (Nat.le_trans g.vars zh)
  have B:=fun(l:List Ins)=>D2 C7 _ l fun x _=>Ins.row_sub C7 x
  have D:=fun(l:List Int)=>D2 C7 _ l fun x _=>B0b C7 x
  have C:=fun(l:List Kst)=>D2 C7 _ l fun x _=>Kst.row_sub C7 x
  have G:=fun(l:List Fn)=>Fn.rows_sub C7 l
  have F:=fun(l:List Upv)=>D2 C7 _ l fun x _=>Upv.row_sub C7 x
  have t:=fun(l:List Vr)=>D2 C7 _ l fun x _=>Vr.row_sub C7 x
  generalize p.row=L at*
  generalize q.row=K at*
  refine Pure.of 0 (A0.enter B1d Jk (Run.go 100 ?_))
  by_cases d:p.name=q.name
  case neg=>simp -implicitDefEqProofs only [go_sem,A4,c.len,c.tk,a.len,a.tk,c.g0,c.g1,c.g2,c.g3,c.g4,c.g5,c.g6,c.g7,c.g8,c.g9,c.g10,a.g0,a.g1,a.g2,a.g3,a.g4,a.g5,a.g6,a.g7,a.g8,a.g9,a.g10,d,O1 fun(e:p=q)=>d zm]
  by_cases f:p.line=q.line
  case neg=>simp -implicitDefEqProofs only [go_sem,A4,c.len,c.tk,a.len,a.tk,c.g0,c.g1,c.g2,c.g3,c.g4,c.g5,c.g6,c.g7,c.g8,c.g9,c.g10,a.g0,a.g1,a.g2,a.g3,a.g4,a.g5,a.g6,a.g7,a.g8,a.g9,a.g10,d,f,O1 fun(e:p=q)=>f zm]
  by_cases i:p.params=q.params
  case neg=>simp -implicitDefEqProofs only [go_sem,A4,c.len,c.tk,a.len,a.tk,c.g0,c.g1,c.g2,c.g3,c.g4,c.g5,c.g6,c.g7,c.g8,c.g9,c.g10,a.g0,a.g1,a.g2,a.g3,a.g4,a.g5,a.g6,a.g7,a.g8,a.g9,a.g10,d,f,i,O1 fun(e:p=q)=>i zm]
  by_cases j:p.vararg=q.vararg
  case neg=>simp -implicitDefEqProofs only [go_sem,A4,c.len,c.tk,a.len,a.tk,c.g0,c.g1,c.g2,c.g3,c.g4,c.g5,c.g6,c.g7,c.g8,c.g9,c.g10,a.g0,a.g1,a.g2,a.g3,a.g4,a.g5,a.g6,a.g7,a.g8,a.g9,a.g10,d,f,i,j,O1 fun(e:p=q)=>j zm]
  by_cases r:p.regs=q.regs
  case neg=>simp -implicitDefEqProofs only [go_sem,A4,c.len,c.tk,a.len,a.tk,c.g0,c.g1,c.g2,c.g3,c.g4,c.g5,c.g6,c.g7,c.g8,c.g9,c.g10,a.g0,a.g1,a.g2,a.g3,a.g4,a.g5,a.g6,a.g7,a.g8,a.g9,a.g10,d,f,i,j,r,O1 fun(e:p=q)=>r zm]
  simp -implicitDefEqProofs only [go_sem,A4,c.len,c.tk,a.len,a.tk,c.g0,c.g1,c.g2,c.g3,c.g4,c.g5,c.g6,c.g7,c.g8,c.g9,c.g10,a.g0,a.g1,a.g2,a.g3,a.g4,a.g5,a.g6,a.g7,a.g8,a.g9,a.g10,d,f,i,j,r]
  refine A0.pureF z Qy ?_
  by_cases n:p.code=q.code
  case neg=>simp -implicitDefEqProofs only [go_sem,n,c.g5,c.g6,O1 fun(e:p=q)=>n zm]
  simp only [n,decide_true]
  refine QZ ?_
  refine A0.pureF A (by simp -implicitDefEqProofs only [go_sem,D]) ?_
  by_cases s:p.lines=q.lines
  case neg=>simp -implicitDefEqProofs only [go_sem,s,c.g5,c.g6,O1 fun(e:p=q)=>s zm]
  simp only [s,decide_true]
  refine QZ ?_
  refine A0.pureF E zt ?_
  by_cases o:p.consts=q.consts
  case neg=>simp -implicitDefEqProofs only [go_sem,o,c.g5,c.g6,O1 fun(e:p=q)=>o zm]
  simp only [o,decide_true]
  refine QZ ?_
  refine A0.pureF I QD ?_
  by_cases m:p.ups=q.ups
  case neg=>simp -implicitDefEqProofs only [go_sem,m,c.g5,c.g6,O1 fun(e:p=q)=>m zm]
  simp only [m,decide_true]
  refine QZ ?_
  refine A0.pureF u zX ?_
  by_cases b:p.vars=q.vars
  case neg=>simp -implicitDefEqProofs only [go_sem,b,c.g5,c.g6,O1 fun(e:p=q)=>b zm]
  simp only [b,decide_true]
  refine QZ ?_
  refine A0.pureF H QE ?_
  by_cases k:p.protos=q.protos
  case neg=>simp -implicitDefEqProofs only [go_sem,B7a k,O1 fun(e:p=q)=>k zm]
  simp -implicitDefEqProofs only [go_sem,B8R k,A4Q (Fn.ext' d f i j r n s o k m b)]
end Go.Proofs.YtcaaenddpjepiaaGreatDoor
