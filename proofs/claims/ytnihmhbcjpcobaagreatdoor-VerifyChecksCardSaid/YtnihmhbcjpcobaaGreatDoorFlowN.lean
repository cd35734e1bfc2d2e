/-
 What 'flow.Next' answers. No condition.
-/
import Derived.Test.YtnihmhbcjpcobaaGreatDoorSetM
import Derived.Test.YtnihmhbcjpcobaaGreatDoorOpc3
import Derived.Test.YtnihmhbcjpcobaaGreatDoorOpc5
import Derived.Test.YtnihmhbcjpcobaaGreatDoorWk
set_option linter.unusedVariables false
set_option linter.unusedSimpArgs false
set_option maxRecDepth 100000
set_option maxHeartbeats 0
namespace Go.Proofs.YtnihmhbcjpcobaaGreatDoor
open Go.Abs
attribute [local irreducible] A2 Run
-- EV: Ins.v, Ins.row
attribute [local go_sem] Ins.v Ins.row
def B0L(code:List Ins)(i:Ins):List Int:=if W5 i.op=true∧0≤i.b∧i.b<code.length then [i.b]else []
def U4(code:List Ins)(at_:Int)(i:Ins):List Int:=if L5 i.op=true∧at_+1<code.length then [at_+1]else []
def C7(code:List Ins)(at_:Int):List Int:=
 if at_<0∨at_≥code.length then []else
 match code[at_.toNat]? with
 |some i=>D2 (B0L code i++U4 code at_ i)
 |none=> []
theorem B4J(code:List Ins)(at_:Int)(hc:code.length≤100000)(c0 c1 c2 c3 c4 c6 c7 c8 c9 c10:V):
  Pure Tryz.prog 64 [.agg [c0,c1,c2,c3,c4,.isl (code.map Ins.row),c6,c7,c8,c9,c10],.int .i64 at_] (.isl ((C7 code at_).map zrw)):=by
 refine Pure.of 1 (A2.enter B0a (Nat.le_of_ble_eq_true rfl) ?_)
 have hrow: ∀(k:Nat) (x:Ins),code[k]? =some x→(code.map Ins.row)[k]? =some x.row:=fun k x h=>by rw [List.getElem?_map,h];rfl
 have hlen:(code.map Ins.row).length=code.length:=List.length_map ..
 have hsz:C4 (code.map Ins.row) 5=True:=eq_true fun r hr=>by obtain⟨y,_,rfl⟩:=List.mem_map.1 hr;rfl
 generalize code.map Ins.row=es at*
 refine Run.go 100 ?_
 by_cases h1:at_<0
 ·have e:C7 code at_= []:=by rw [C7,if_pos (.inl h1)]
  rw [e]
  simp -implicitDefEqProofs only [go_sem,A4,h1]
 by_cases h2:(code.length:Int)≤at_
 ·have e:C7 code at_= []:=by rw [C7,if_pos (.inr h2)]
  rw [e]
  simp -implicitDefEqProofs only [go_sem,A4,h1,h2,hlen]
 obtain⟨i,hi⟩: ∃i,code[at_.toNat]? =some i:=⟨code[at_.toNat]'(by omega),by simp⟩
 have hr:=hrow _ _ hi
 have k0:((0:Int)≤at_)=True:=eq_true (by omega)
 have k1:(at_<(code.length:Int))=True:=eq_true (by omega)
 have k2:(at_.toNat<code.length)=True:=eq_true (by omega)
 have e:C7 code at_=D2 (B0L code i++U4 code at_ i):=by rw [C7,if_neg (by omega),hi]
 rw [e]
 clear e
 simp -implicitDefEqProofs only [go_sem,A4,h1,h2,hlen,hr,hsz,k0,k1,k2,Option.some.injEq,forall_eq']
 refine A2.pureF (B1W i) (by simp -implicitDefEqProofs only [go_sem]) ?_
 by_cases hT:W5 i.op=true∧0≤i.b∧i.b<code.length
 ·have eT:B0L code i= [i.b]:=if_pos hT
  rw [eT,hT.1]
  have t1:=eq_true hT.2.1
  have t2:=eq_true hT.2.2
  simp -implicitDefEqProofs only [go_sem,t1,t2,hlen,hr,hsz,k0,k1,k2,Option.some.injEq,forall_eq']
  refine A2.pureF (A2U i) (by simp -implicitDefEqProofs only [go_sem]) ?_
  by_cases hF:L5 i.op=true∧at_+1<code.length
  ·have eF:U4 code at_ i= [at_+1]:=if_pos hF
   rw [eF,hF.1]
   have f1:=eq_true hF.2
   simp -implicitDefEqProofs only [go_sem,f1,hlen,hr,hsz,k0,k1,k2,Option.some.injEq,forall_eq']
   refine⟨by omega,by omega,?_⟩
   refine A2.at [0] [1] (A9x [i.b,at_+1] (m:=2) rfl (by omega) (by omega) _ _ _) rfl rfl ?_
   rintro r h' n' hn ⟨rfl,rfl⟩
   simp -implicitDefEqProofs only [go_sem]
   refine A2.at [0] [1] (A1F (L8 [i.b,at_+1]) (m:=2) (by simp [L8]) (by omega) (by omega) _ _ _) rfl rfl ?_
   rintro r h' n' hn ⟨rfl,rfl⟩
   simp -implicitDefEqProofs only [go_sem,O4,K4,Nat.le_add_right]
   try rfl
  ·have eF:U4 code at_ i= []:=if_neg hF
   rw [eF]
   cases hf:L5 i.op with
   |false=>
    simp -implicitDefEqProofs only [go_sem,hlen,hr,hsz,k0,k1,k2,Option.some.injEq,forall_eq']
    refine A2.at [0] [1] (A9x [i.b] (m:=1) rfl (by omega) (by omega) _ _ _) rfl rfl ?_
    rintro r h' n' hn ⟨rfl,rfl⟩
    simp -implicitDefEqProofs only [go_sem]
    refine A2.at [0] [1] (A1F (L8 [i.b]) (m:=1) (by simp [L8]) (by omega) (by omega) _ _ _) rfl rfl ?_
    rintro r h' n' hn ⟨rfl,rfl⟩
    simp -implicitDefEqProofs only [go_sem,O4,K4,Nat.le_add_right]
    try rfl
   |true=>
    have f1:=eq_false (fun h=>hF ⟨hf,h⟩)
    simp -implicitDefEqProofs only [go_sem,f1,hlen,hr,hsz,k0,k1,k2,Option.some.injEq,forall_eq']
    refine⟨by omega,?_⟩
    refine A2.at [0] [1] (A9x [i.b] (m:=1) rfl (by omega) (by omega) _ _ _) rfl rfl ?_
    rintro r h' n' hn ⟨rfl,rfl⟩
    simp -implicitDefEqProofs only [go_sem]
    refine A2.at [0] [1] (A1F (L8 [i.b]) (m:=1) (by simp [L8]) (by omega) (by omega) _ _ _) rfl rfl ?_
    rintro r h' n' hn ⟨rfl,rfl⟩
    simp -implicitDefEqProofs only [go_sem,O4,K4,Nat.le_add_right]
    try rfl
 ·have eT:B0L code i= []:=if_neg hT
  rw [eT]
  cases hj:W5 i.op with
  | false=>
   simp -implicitDefEqProofs only [go_sem,hlen,hr,hsz,k0,k1,k2,Option.some.injEq,forall_eq']
   refine A2.pureF (A2U i) (by simp -implicitDefEqProofs only [go_sem]) ?_
   by_cases hF:L5 i.op=true∧at_+1<code.length
   ·have eF:U4 code at_ i= [at_+1]:=if_pos hF
    rw [eF,hF.1]
    have f1:=eq_true hF.2
    simp -implicitDefEqProofs only [go_sem,f1,hlen,hr,hsz,k0,k1,k2,Option.some.injEq,forall_eq']
    refine⟨by omega,by omega,?_⟩
    refine A2.at [0] [1] (A9x [at_+1] (m:=1) rfl (by omega) (by omega) _ _ _) rfl rfl ?_
    rintro r h' n' hn ⟨rfl,rfl⟩
    simp -implicitDefEqProofs only [go_sem]
    refine A2.at [0] [1] (A1F (L8 [at_+1]) (m:=1) (by simp [L8]) (by omega) (by omega) _ _ _) rfl rfl ?_
    rintro r h' n' hn ⟨rfl,rfl⟩
    simp -implicitDefEqProofs only [go_sem,O4,K4,Nat.le_add_right]
    try rfl
   ·have eF:U4 code at_ i= []:=if_neg hF
    rw [eF]
    cases hf:L5 i.op with
    |false=>
     simp -implicitDefEqProofs only [go_sem,hlen,hr,hsz,k0,k1,k2,Option.some.injEq,forall_eq']
     refine A2.pure A5f (by simp -implicitDefEqProofs only [go_sem]) ?_
     simp -implicitDefEqProofs only [go_sem]
     refine A2.pure j4 (by simp -implicitDefEqProofs only [go_sem]) ?_
     simp -implicitDefEqProofs only [go_sem,G0]
    |true=>
     have f1:=eq_false (fun h=>hF ⟨hf,h⟩)
     simp -implicitDefEqProofs only [go_sem,f1,hlen,hr,hsz,k0,k1,k2,Option.some.injEq,forall_eq']
     refine⟨by omega,?_⟩
     refine A2.pure A5f (by simp -implicitDefEqProofs only [go_sem]) ?_
     simp -implicitDefEqProofs only [go_sem]
     refine A2.pure j4 (by simp -implicitDefEqProofs only [go_sem]) ?_
     simp -implicitDefEqProofs only [go_sem,G0]
  | true=>
   by_cases hb:0≤i.b
   ·have t1:=eq_true hb
    have t2:=eq_false (fun h=>hT ⟨hj,hb,h⟩)
    simp -implicitDefEqProofs only [go_sem,t1,t2,hlen,hr,hsz,k0,k1,k2,Option.some.injEq,forall_eq']
    refine A2.pureF (A2U i) (by simp -implicitDefEqProofs only [go_sem]) ?_
    by_cases hF:L5 i.op=true∧at_+1<code.length
    ·have eF:U4 code at_ i= [at_+1]:=if_pos hF
     rw [eF,hF.1]
     have f1:=eq_true hF.2
     simp -implicitDefEqProofs only [go_sem,f1,hlen,hr,hsz,k0,k1,k2,Option.some.injEq,forall_eq']
     refine⟨by omega,by omega,?_⟩
     refine A2.at [0] [1] (A9x [at_+1] (m:=1) rfl (by omega) (by omega) _ _ _) rfl rfl ?_
     rintro r h' n' hn ⟨rfl,rfl⟩
     simp -implicitDefEqProofs only [go_sem]
     refine A2.at [0] [1] (A1F (L8 [at_+1]) (m:=1) (by simp [L8]) (by omega) (by omega) _ _ _) rfl rfl ?_
     rintro r h' n' hn ⟨rfl,rfl⟩
     simp -implicitDefEqProofs only [go_sem,O4,K4,Nat.le_add_right]
     try rfl
    ·have eF:U4 code at_ i= []:=if_neg hF
     rw [eF]
     cases hf:L5 i.op with
     |false=>
      simp -implicitDefEqProofs only [go_sem,hlen,hr,hsz,k0,k1,k2,Option.some.injEq,forall_eq']
      refine A2.pure A5f (by simp -implicitDefEqProofs only [go_sem]) ?_
      simp -implicitDefEqProofs only [go_sem]
      refine A2.pure j4 (by simp -implicitDefEqProofs only [go_sem]) ?_
      simp -implicitDefEqProofs only [go_sem,G0]
     |true=>
      have f1:=eq_false (fun h=>hF ⟨hf,h⟩)
      simp -implicitDefEqProofs only [go_sem,f1,hlen,hr,hsz,k0,k1,k2,Option.some.injEq,forall_eq']
      refine⟨by omega,?_⟩
      refine A2.pure A5f (by simp -implicitDefEqProofs only [go_sem]) ?_
      simp -implicitDefEqProofs only [go_sem]
      refine A2.pure j4 (by simp -implicitDefEqProofs only [go_sem]) ?_
      simp -implicitDefEqProofs only [go_sem,G0]
   ·have t1:=eq_false hb
    simp -implicitDefEqProofs only [go_sem,t1,hlen,hr,hsz,k0,k1,k2,Option.some.injEq,forall_eq']
    refine A2.pureF (A2U i) (by simp -implicitDefEqProofs only [go_sem]) ?_
    by_cases hF:L5 i.op=true∧at_+1<code.length
    ·have eF:U4 code at_ i= [at_+1]:=if_pos hF
     rw [eF,hF.1]
     have f1:=eq_true hF.2
     simp -implicitDefEqProofs only [go_sem,f1,hlen,hr,hsz,k0,k1,k2,Option.some.injEq,forall_eq']
     refine⟨by omega,by omega,?_⟩
     refine A2.at [0] [1] (A9x [at_+1] (m:=1) rfl (by omega) (by omega) _ _ _) rfl rfl ?_
     rintro r h' n' hn ⟨rfl,rfl⟩
     simp -implicitDefEqProofs only [go_sem]
     refine A2.at [0] [1] (A1F (L8 [at_+1]) (m:=1) (by simp [L8]) (by omega) (by omega) _ _ _) rfl rfl ?_
     rintro r h' n' hn ⟨rfl,rfl⟩
     simp -implicitDefEqProofs only [go_sem,O4,K4,Nat.le_add_right]
     try rfl
    ·have eF:U4 code at_ i= []:=if_neg hF
     rw [eF]
     cases hf:L5 i.op with
     |false=>
      simp -implicitDefEqProofs only [go_sem,hlen,hr,hsz,k0,k1,k2,Option.some.injEq,forall_eq']
      refine A2.pure A5f (by simp -implicitDefEqProofs only [go_sem]) ?_
      simp -implicitDefEqProofs only [go_sem]
      refine A2.pure j4 (by simp -implicitDefEqProofs only [go_sem]) ?_
      simp -implicitDefEqProofs only [go_sem,G0]
     |true=>
      have f1:=eq_false (fun h=>hF ⟨hf,h⟩)
      simp -implicitDefEqProofs only [go_sem,f1,hlen,hr,hsz,k0,k1,k2,Option.some.injEq,forall_eq']
      refine⟨by omega,?_⟩
      refine A2.pure A5f (by simp -implicitDefEqProofs only [go_sem]) ?_
      simp -implicitDefEqProofs only [go_sem]
      refine A2.pure j4 (by simp -implicitDefEqProofs only [go_sem]) ?_
      simp -implicitDefEqProofs only [go_sem,G0]
end Go.Proofs.YtnihmhbcjpcobaaGreatDoor
