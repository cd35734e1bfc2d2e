/-
 What the reference's 'Next' and 'Loops' answer. No condition.
-/
import Derived.Test.YtcaaenddpjepiaaGreatDoorFlowL
import Derived.Test.YtcaaenddpjepiaaGreatDoorFlowR
set_option linter.unusedVariables false
set_option linter.unusedSimpArgs false
set_option maxRecDepth 100000
set_option maxHeartbeats 0
namespace Go.Proofs.YtcaaenddpjepiaaGreatDoor
open Go.Abs
attribute [local irreducible] A0 Run
-- EV: Ins.v, Ins.row
attribute [local go_sem] Ins.v Ins.row
theorem B4J(i:Ins):Pure Tryz.prog 96 [i.v] (.bool (V9 i.op)):=by
 have a:V9 i.op=decide (i.op≠14∧i.op≠17∧i.op≠18):=rfl
 rw [a]
 refine Pure.of 0 (A0.enter A1T Jk ?_)
 exact JY
theorem C3Q(l:List Int)(r:Int)(h:Asc l):B6f l r=F7 (l++ [r]):=by rw [←B6g,B8E h]
theorem D7Z(l:List Int):(l.map zrw).map (fun r=>r.map (V.sub C7))=l.map zrw:=O7 0 [] l
theorem C0C(code:List Ins)(i:Ins):Asc (B3r code i):=by unfold B3r;split;exact B5r _;exact A8a
theorem A0.give{P:Program}{f:FuncId}{b st m n:Nat}{rs:List (List V)}{v:V}{h h':A2}{k:Res}(i:Nat)(d:h[i]? =some (b,st,.rows 1 rs))(e:m=rs.length)(a:A4E b st rs h h')
  (c:A0 P f [.isl rs,v] h' n k):A0 P f [.sl b st 0 m,v] h n k:=
 A0.pre (xs':= [.isl rs,v]) (Wk.freeze (sl':= [(1,v),(0,.isl rs)]) (List.mem_of_getElem? d) ⟨.of (.refl _),Frz.all e,trivial⟩ a) rfl c
theorem B1R(code:List Ins)(a:Int)(M:code.length≤100000)(G H E B K C F I J z:V):
  Pure Tryz.prog 74 [.agg [G,H,E,B,K,.isl (code.map Ins.row),C,F,I,J,z],.int .i64 a] (.isl ((C5 code a).map zrw)):=by
 refine Pure.of 1 (A0.enter A2W Jk ?_)
 have m: ∀(k:Nat) (x:Ins),code[k]? =some x→(code.map Ins.row)[k]? =some x.row:=fun k x h=>by rw [List.getElem?_map,h];rfl
 have b:(code.map Ins.row).length=code.length:=List.length_map ..
 have g:C4 (code.map Ins.row) 5=True:=eq_true fun r j=>by obtain⟨y,_,rfl⟩:=List.mem_map.1 j;rfl
 generalize code.map Ins.row=L at*
 refine Run.go 100 ?_
 by_cases s:a<0
 ·have e:C5 code a= []:=by rw [C5,if_pos (.inl s)]
  rw [e]
  simp -implicitDefEqProofs only [go_sem,A4,s,List.map_nil]
 by_cases w:(code.length:Int)≤a
 ·have e:C5 code a= []:=by rw [C5,if_pos (.inr w)]
  rw [e]
  simp -implicitDefEqProofs only [go_sem,A4,s,w,b,List.map_nil]
 obtain⟨i,A⟩: ∃i,code[a.toNat]? =some i:=⟨code[a.toNat]' zd,by simp⟩
 have j:=m _ _ A
 have n:((0:Int)≤a)=True:=Ji
 have p:(a<(code.length:Int))=True:=Ji
 have o:(a.toNat<code.length)=True:=Ji
 have e:C5 code a=F7 (B3r code i++A0A code a i):=by rw [C5,if_neg zd,A]
 rw [e]
 clear e
 have d:=C9u (B3r code i) (C0C code i) (by unfold B3r;split<;>simp) (a+1)
 rw [C3Q _ _ (C0C code i)]at d
 have D:=A4J i
 have q:=B4J i
 simp -implicitDefEqProofs only [go_sem,A4,s,w,b,j,g,n,p,o,Option.some.injEq,forall_eq']
 refine A0.pureF D ze ?_
 by_cases l:G9 i.op=true∧0≤i.b∧i.b<code.length
 ·have t:=eq_true l.2.1
  have v:=eq_true l.2.2
  rw [show B3r code i= [i.b] from if_pos l]at d⊢
  rw [l.1]
  exact Yg
 ·rw [show B3r code i= [] from if_neg l]at d⊢
  cases hj:G9 i.op with
  | false=>
   simp -implicitDefEqProofs only [go_sem,b,j,g,n,p,o,Option.some.injEq,forall_eq']
   refine A0.pureF q ze ?_
   exact Jl
  | true=>
   by_cases u:0≤i.b
   ·have t:=eq_true u
    have v:=eq_false (fun h=>l ⟨hj,u,h⟩)
    exact Yg
   ·have t:=eq_false u
    simp -implicitDefEqProofs only [go_sem,t,b,j,g,n,p,o,Option.some.injEq,forall_eq']
    refine A0.pureF q ze ?_
    exact Jl
end Go.Proofs.YtcaaenddpjepiaaGreatDoor
