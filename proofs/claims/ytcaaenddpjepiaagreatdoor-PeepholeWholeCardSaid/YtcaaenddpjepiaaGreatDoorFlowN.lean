/-
 What 'flow.Next' answers. No condition.
-/
import Derived.Test.YtcaaenddpjepiaaGreatDoorFlowR
import Derived.Test.YtcaaenddpjepiaaGreatDoorOpc3
import Derived.Test.YtcaaenddpjepiaaGreatDoorRr
import Derived.Test.YtcaaenddpjepiaaGreatDoorExe
set_option linter.unusedVariables false
set_option linter.unusedSimpArgs false
set_option maxRecDepth 100000
set_option maxHeartbeats 0
namespace Go.Proofs.YtcaaenddpjepiaaGreatDoor
open Go.Abs
attribute [local irreducible] A0 Run
-- EV: Ins.v, Ins.row
attribute [local go_sem] Ins.v Ins.row
def B3r(code:List Ins)(i:Ins):List Int:=if G9 i.op=true∧0≤i.b∧i.b<code.length then [i.b]else []
def A0A(code:List Ins)(at_:Int)(i:Ins):List Int:=if V9 i.op=true∧at_+1<code.length then [at_+1]else []
def C5(code:List Ins)(at_:Int):List Int:=
 if at_<0∨at_≥code.length then []else
 match code[at_.toNat]? with
 |some i=>F7 (B3r code i++A0A code at_ i)
 |none=> []
theorem A1L(code:List Ins)(a:Int)(P:code.length≤100000)(J K H F N G I L M D:V):
  Pure Tryz.prog 59 [.agg [J,K,H,F,N,.isl (code.map Ins.row),G,I,L,M,D],.int .i64 a] (.isl ((C5 code a).map zrw)):=by
 refine Pure.of 1 (A0.enter B2u Jk ?_)
 have u: ∀(k:Nat) (x:Ins),code[k]? =some x→(code.map Ins.row)[k]? =some x.row:=fun k x h=>by rw [List.getElem?_map,h];rfl
 have b:(code.map Ins.row).length=code.length:=List.length_map ..
 have c:C4 (code.map Ins.row) 5=True:=eq_true fun r f=>by obtain⟨y,_,rfl⟩:=List.mem_map.1 f;rfl
 generalize code.map Ins.row=O at*
 refine Run.go 100 ?_
 by_cases w:a<0
 ·have e:C5 code a= []:=by rw [C5,if_pos (.inl w)]
  rw [e]
  simp -implicitDefEqProofs only [go_sem,A4,w]
 by_cases C:(code.length:Int)≤a
 ·have e:C5 code a= []:=by rw [C5,if_pos (.inr C)]
  rw [e]
  simp -implicitDefEqProofs only [go_sem,A4,w,C,b]
 obtain⟨i,E⟩: ∃i,code[a.toNat]? =some i:=⟨code[a.toNat]' zd,by simp⟩
 have f:=u _ _ E
 have g:((0:Int)≤a)=True:=Ji
 have l:(a<(code.length:Int))=True:=Ji
 have j:(a.toNat<code.length)=True:=Ji
 have e:C5 code a=F7 (B3r code i++A0A code a i):=by rw [C5,if_neg zd,E]
 rw [e]
 clear e
 simp -implicitDefEqProofs only [go_sem,A4,w,C,b,f,c,g,l,j,Option.some.injEq,forall_eq']
 refine A0.pureF (A6l i) ze ?_
 by_cases t:G9 i.op=true∧0≤i.b∧i.b<code.length
 ·have B:B3r code i= [i.b]:=if_pos t
  rw [B,t.1]
  have v:=eq_true t.2.1
  have A:=eq_true t.2.2
  simp -implicitDefEqProofs only [go_sem,v,A,b,f,c,g,l,j,Option.some.injEq,forall_eq']
  refine A0.pureF (A4Z i) ze ?_
  by_cases d:V9 i.op=true∧a+1<code.length
  ·have n:A0A code a i= [a+1]:=if_pos d
   rw [n,d.1]
   have o:=eq_true d.2
   refine QQ ?_
   refine⟨by omega,by omega,?_⟩
   refine A0.at [0] [1] (B1X [i.b,a+1] (m:=2) rfl zd zd _ _ _) rfl rfl ?_
   rintro r s p q ⟨rfl,rfl⟩
   refine QL ?_
   refine A0.at [0] [1] (A3z (W5 [i.b,a+1]) (m:=2) zI zd zd _ _ _) rfl rfl ?_
   rintro r s p q ⟨rfl,rfl⟩
   simp -implicitDefEqProofs only [go_sem,Z3,O7,Nat.le_add_right]
   try rfl
  ·have n:A0A code a i= []:=if_neg d
   rw [n]
   cases hf:V9 i.op with
   |false=>
    refine QX ?_
    exact JX
   |true=>
    have o:=eq_false (fun h=>d ⟨hf,h⟩)
    refine QQ ?_
    refine⟨by omega,?_⟩
    exact JX
 ·have B:B3r code i= []:=if_neg t
  rw [B]
  cases hj:G9 i.op with
  | false=>
   refine QX ?_
   exact Xg
  | true=>
   by_cases z:0≤i.b
   ·have v:=eq_true z
    have A:=eq_false (fun h=>t ⟨hj,z,h⟩)
    simp -implicitDefEqProofs only [go_sem,v,A,b,f,c,g,l,j,Option.some.injEq,forall_eq']
    exact Xg
   ·have v:=eq_false z
    simp -implicitDefEqProofs only [go_sem,v,b,f,c,g,l,j,Option.some.injEq,forall_eq']
    exact Xg
end Go.Proofs.YtcaaenddpjepiaaGreatDoor
