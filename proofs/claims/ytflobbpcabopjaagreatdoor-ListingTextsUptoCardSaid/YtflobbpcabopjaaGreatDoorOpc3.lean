/-
 What 'opcode.Check' answers. No condition.
-/
import Derived.Test.YtflobbpcabopjaaGreatDoorOpcM
set_option linter.unusedVariables false
set_option linter.unusedSimpArgs false
set_option maxRecDepth 100000
set_option maxHeartbeats 0
namespace Go.Proofs.YtflobbpcabopjaaGreatDoor
open Go.Abs
attribute [local irreducible] A0 Run
-- EV: Ins.v, Ins.row, Frm.v, Frm.row, intsV, Frm.ks, Ins.fs
attribute [local go_sem] Ins.v Ins.row Frm.v Frm.row A8G Frm.ks Ins.fs
theorem A0S(k:Int)(h0:0≤k)(h1:k≤12):Pure Tryz.prog 160 [.int .i64 k] (.tup [.int .i64 (low k),.int .i64 (high k)]):=by
 obtain⟨n,rfl⟩:=Int.eq_ofNat_of_zero_le h0
 exact B7z n (by omega)
theorem C3l(f:Frm)(i:Ins)(h0: -1≤i.a∧i.a≤40000)(h1: -1≤i.b∧i.b≤40000)(h2: -1≤i.c∧i.c≤40000)(h3:0≤f.room∧f.room≤3):
  Pure Tryz.prog 161 [f.v,i.v] (.int .i64 (A8H f i)):=by
 refine Pure.of 0 (A0.enter A9f (Nat.le_of_ble_eq_true rfl) ?_)
 refine Run.go 100 ?_
 simp -implicitDefEqProofs only [go_sem,A3]
 repeat' (first|refine And.intro ?_ ?_|refine fun h=> ?_)
 all_goals first
  |omega
  |(unfold A8H mm2;simp [*];done)
theorem C9M(op:Int):(0≤(frm op).a∧(frm op).a≤12)∧(0≤(frm op).b∧(frm op).b≤12)∧(0≤(frm op).c∧(frm op).c≤12)∧(0≤(frm op).d∧(frm op).d≤12)∧0≤(frm op).room∧(frm op).room≤3:=by
 cases h:L3 op with
 |false=>rw [frm,if_neg (by rw [h];simp)];decide
 |true=>
  rcases A4Y h with rfl|rfl|rfl|rfl|rfl|rfl|rfl|rfl|rfl|rfl|rfl|rfl|rfl|rfl|rfl|rfl|rfl|rfl|rfl|rfl|rfl|rfl|rfl|rfl|rfl|rfl|rfl|rfl|rfl<;>decide
theorem C0M: ∀k:Nat,k≤12→ -1≤low k∧high k≤32767:=by
 intro k hk
 have: ∀k:Fin 13, -1≤low (k.val:Int)∧high (k.val:Int)≤32767:=by decide
 exact this ⟨k,by omega⟩
theorem B0Y{k x:Int}(h0:0≤k)(h1:k≤12)(h:A2m k x=true): -1≤x∧x≤40000:=by
 obtain⟨n,rfl⟩:=Int.eq_ofNat_of_zero_le h0
 have:=C0M n (by omega)
 have:=of_decide_eq_true h
 omega
def A6e(f:Frm)(i:Ins):Int:=
 if (A2l f.a i.a&&A2l f.b i.b&&A2l f.c i.c&&A2l f.d i.d)=false then 4
 else if (A2m f.a i.a&&A2m f.b i.b&&A2m f.c i.c&&A2m f.d i.d)=false then 6
 else if f.a=1∧A8H f i≥4096∨i.op=3∧i.b<i.a then 6
 else 0
theorem C9x{i:Ins}(h:L3 i.op=true):chk i=A6e (frm i.op) i:=by
 unfold chk;rw [if_neg (by rw [h];simp)];rfl
def n4(j:Nat)(a b c d:Bool):Prop:=(0<j→a=true)∧(1<j→b=true)∧(2<j→c=true)∧(3<j→d=true)
theorem B0S(i:Ins):Pure Tryz.prog 121 [i.v] (.int .i64 (chk i)):=by
 refine Pure.of 0 (A0.enter A7p (Nat.le_of_ble_eq_true rfl) ?_)
 refine Run.go 100 ?_
 simp -implicitDefEqProofs only [go_sem,A3]
 refine A0.pureF (C2d i.op) (by simp -implicitDefEqProofs only [go_sem]) ?_
 simp -implicitDefEqProofs only [go_sem]
 refine⟨fun h=> ?_,fun h=> ?_⟩
 ·unfold chk;rw [if_pos (by simpa using h)]
 refine A0.pureF (B1J (frm i.op) i) (by simp -implicitDefEqProofs only [go_sem]) ?_
 simp -implicitDefEqProofs only [go_sem]
 rw [C9x (by simpa using h)]
 obtain⟨ka,kb,kc,kd,kr⟩:=C9M i.op
 generalize frm i.op=f at ka kb kc kd kr⊢
 refine Run.rounds (fun(j:Nat)=>⟨[(28,.int .i64 j),(27,.agg [.int .i64 f.a,.int .i64 f.b,.int .i64 f.c,.int .i64 f.d]),(6,.ptr (121*10000+6) 3 0 0),(5,.ptr (121*10000+5) 2 0 0),(3,.ptr (121*10000+3) 1 0 0),(1,.ptr (121*10000+1) 0 0 0)],
  [((121*10000+6),3,.rows 4 [[.int .i64 i.a,.int .i64 i.b,.int .i64 i.c,.int .i64 i.d]]),((121*10000+5),2,.rows 4 [[.int .i64 f.a,.int .i64 f.b,.int .i64 f.c,.int .i64 f.d]]),((121*10000+3),1,.rows 6 [f.row]),((121*10000+1),0,.rows 5 [i.row])],4⟩)
  (fun j=>j≤4∧n4 j (A2l f.a i.a) (A2l f.b i.b) (A2l f.c i.c) (A2l f.d i.d)) (fun j=>4-j) 0 (by simp -implicitDefEqProofs only [go_sem]) ⟨by omega,by simp [n4]⟩ ?_
 rintro j ⟨hj,h1⟩ ih
 have hcase:j=0∨j=1∨j=2∨j=3∨j=4:=by omega
 rcases hcase with rfl|rfl|rfl|rfl|rfl
 rotate_left 4
 ·clear ih
  obtain⟨q1,q2,q3,q4⟩:=h1
  have g1:=q1 (by omega)
  have g2:=q2 (by omega)
  have g3:=q3 (by omega)
  have g4:=q4 (by omega)
  clear q1 q2 q3 q4
  refine Run.unf A2H (Run.go 100 ?_)
  simp -implicitDefEqProofs only [go_sem]
  refine Run.rounds (fun(j:Nat)=>⟨[(42,.int .i64 j),(41,.agg [.int .i64 f.a,.int .i64 f.b,.int .i64 f.c,.int .i64 f.d]),(6,.ptr (121*10000+6) 3 0 0),(3,.ptr (121*10000+3) 1 0 0),(1,.ptr (121*10000+1) 0 0 0)],
   [((121*10000+6),3,.rows 4 [[.int .i64 i.a,.int .i64 i.b,.int .i64 i.c,.int .i64 i.d]]),((121*10000+3),1,.rows 6 [f.row]),((121*10000+1),0,.rows 5 [i.row])],4⟩)
   (fun j=>j≤4∧n4 j (A2m f.a i.a) (A2m f.b i.b) (A2m f.c i.c) (A2m f.d i.d)) (fun j=>4-j) 0 (by simp -implicitDefEqProofs only [go_sem]) ⟨by omega,by simp [n4]⟩ ?_
  rintro j ⟨hj,h1⟩ ih
  have hcase:j=0∨j=1∨j=2∨j=3∨j=4:=by omega
  rcases hcase with rfl|rfl|rfl|rfl|rfl
  rotate_left 4
  ·clear ih
   obtain⟨q1,q2,q3,q4⟩:=h1
   have r1:=q1 (by omega)
   have r2:=q2 (by omega)
   have r3:=q3 (by omega)
   have r4:=q4 (by omega)
   clear q1 q2 q3 q4
   have ra:=B0Y ka.1 ka.2 r1
   have rb:=B0Y kb.1 kb.2 r2
   have rc:=B0Y kc.1 kc.2 r3
   have hc:A6e f i=if f.a=1∧A8H f i≥4096∨i.op=3∧i.b<i.a then 6 else 0:=by
    unfold A6e;rw [g1,g2,g3,g4,r1,r2,r3,r4];simp
   rw [hc]
   refine Run.unf A2I (Run.go 100 ?_)
   simp -implicitDefEqProofs only [go_sem]
   refine⟨fun c1=> ?_,fun c1=> ?_⟩
   ·refine A0.pureF (C3l f i ra rb rc kr) (by simp -implicitDefEqProofs only [go_sem]) ?_
    simp -implicitDefEqProofs only [go_sem]
    repeat' (first|refine And.intro ?_ ?_|refine fun h=> ?_)
    all_goals (simp [*];try omega)
   ·repeat' (first|refine And.intro ?_ ?_|refine fun h=> ?_)
    all_goals (simp [*];try omega)
  all_goals (
   refine Run.unf A2I (Run.go 100 ?_)
   simp -implicitDefEqProofs only [go_sem]
   obtain⟨q1,q2,q3,q4⟩:=h1)
  ·refine A0.pureF (A0S f.a ka.1 ka.2) (by simp -implicitDefEqProofs only [go_sem]) ?_
   simp -implicitDefEqProofs only [go_sem]
   have no: ¬(low f.a≤i.a∧i.a≤high f.a)→6=A6e f i:=fun hn=>by unfold A6e;rw [g1,g2,g3,g4,show A2m f.a i.a=false from decide_eq_false hn];simp
   exact⟨fun c=>⟨fun c2=>no (by omega),fun c2=>ih _ 1 ⟨by omega,fun _=>decide_eq_true ⟨by omega,by omega⟩,by omega,by omega,by omega⟩ (by omega) (by simp -implicitDefEqProofs only [go_sem])⟩,fun c=>no (by omega)⟩
  ·have r1:=q1 (by omega)
   refine A0.pureF (A0S f.b kb.1 kb.2) (by simp -implicitDefEqProofs only [go_sem]) ?_
   simp -implicitDefEqProofs only [go_sem]
   have no: ¬(low f.b≤i.b∧i.b≤high f.b)→6=A6e f i:=fun hn=>by unfold A6e;rw [g1,g2,g3,g4,r1,show A2m f.b i.b=false from decide_eq_false hn];simp
   exact⟨fun c=>⟨fun c2=>no (by omega),fun c2=>ih _ 2 ⟨by omega,fun _=>q1 (by omega),fun _=>decide_eq_true ⟨by omega,by omega⟩,by omega,by omega⟩ (by omega) (by simp -implicitDefEqProofs only [go_sem])⟩,fun c=>no (by omega)⟩
  ·have r1:=q1 (by omega)
   have r2:=q2 (by omega)
   refine A0.pureF (A0S f.c kc.1 kc.2) (by simp -implicitDefEqProofs only [go_sem]) ?_
   simp -implicitDefEqProofs only [go_sem]
   have no: ¬(low f.c≤i.c∧i.c≤high f.c)→6=A6e f i:=fun hn=>by unfold A6e;rw [g1,g2,g3,g4,r1,r2,show A2m f.c i.c=false from decide_eq_false hn];simp
   exact⟨fun c=>⟨fun c2=>no (by omega),fun c2=>ih _ 3 ⟨by omega,fun _=>q1 (by omega),fun _=>q2 (by omega),fun _=>decide_eq_true ⟨by omega,by omega⟩,by omega⟩ (by omega) (by simp -implicitDefEqProofs only [go_sem])⟩,fun c=>no (by omega)⟩
  ·have r1:=q1 (by omega)
   have r2:=q2 (by omega)
   have r3:=q3 (by omega)
   refine A0.pureF (A0S f.d kd.1 kd.2) (by simp -implicitDefEqProofs only [go_sem]) ?_
   simp -implicitDefEqProofs only [go_sem]
   have no: ¬(low f.d≤i.d∧i.d≤high f.d)→6=A6e f i:=fun hn=>by unfold A6e;rw [g1,g2,g3,g4,r1,r2,r3,show A2m f.d i.d=false from decide_eq_false hn];simp
   exact⟨fun c=>⟨fun c2=>no (by omega),fun c2=>ih _ 4 ⟨by omega,fun _=>q1 (by omega),fun _=>q2 (by omega),fun _=>q3 (by omega),fun _=>decide_eq_true ⟨by omega,by omega⟩⟩ (by omega) (by simp -implicitDefEqProofs only [go_sem])⟩,fun c=>no (by omega)⟩
 all_goals (
  refine Run.unf A2H (Run.go 100 ?_)
  simp -implicitDefEqProofs only [go_sem]
  obtain⟨q1,q2,q3,q4⟩:=h1)
 ·have no: ¬(f.a=0→i.a=0)→4=A6e f i:=fun hn=>by unfold A6e;rw [show A2l f.a i.a=false from decide_eq_false hn];simp
  exact⟨fun c=>⟨fun c2=>no (fun h=>c2 (h c)),fun c2=>ih _ 1 ⟨by omega,fun _=>decide_eq_true fun _=>c2,by omega,by omega,by omega⟩ (by omega) (by simp -implicitDefEqProofs only [go_sem])⟩,
   fun c=>ih _ 1 ⟨by omega,fun _=>decide_eq_true fun h=>absurd h c,by omega,by omega,by omega⟩ (by omega) (by simp -implicitDefEqProofs only [go_sem])⟩
 ·have r1:=q1 (by omega)
  have no: ¬(f.b=0→i.b=0)→4=A6e f i:=fun hn=>by unfold A6e;rw [r1,show A2l f.b i.b=false from decide_eq_false hn];simp
  exact⟨fun c=>⟨fun c2=>no (fun h=>c2 (h c)),fun c2=>ih _ 2 ⟨by omega,fun _=>q1 (by omega),fun _=>decide_eq_true fun _=>c2,by omega,by omega⟩ (by omega) (by simp -implicitDefEqProofs only [go_sem])⟩,
   fun c=>ih _ 2 ⟨by omega,fun _=>q1 (by omega),fun _=>decide_eq_true fun h=>absurd h c,by omega,by omega⟩ (by omega) (by simp -implicitDefEqProofs only [go_sem])⟩
 ·have r1:=q1 (by omega)
  have r2:=q2 (by omega)
  have no: ¬(f.c=0→i.c=0)→4=A6e f i:=fun hn=>by unfold A6e;rw [r1,r2,show A2l f.c i.c=false from decide_eq_false hn];simp
  exact⟨fun c=>⟨fun c2=>no (fun h=>c2 (h c)),fun c2=>ih _ 3 ⟨by omega,fun _=>q1 (by omega),fun _=>q2 (by omega),fun _=>decide_eq_true fun _=>c2,by omega⟩ (by omega) (by simp -implicitDefEqProofs only [go_sem])⟩,
   fun c=>ih _ 3 ⟨by omega,fun _=>q1 (by omega),fun _=>q2 (by omega),fun _=>decide_eq_true fun h=>absurd h c,by omega⟩ (by omega) (by simp -implicitDefEqProofs only [go_sem])⟩
 ·have r1:=q1 (by omega)
  have r2:=q2 (by omega)
  have r3:=q3 (by omega)
  have no: ¬(f.d=0→i.d=0)→4=A6e f i:=fun hn=>by unfold A6e;rw [r1,r2,r3,show A2l f.d i.d=false from decide_eq_false hn];simp
  exact⟨fun c=>⟨fun c2=>no (fun h=>c2 (h c)),fun c2=>ih _ 4 ⟨by omega,fun _=>q1 (by omega),fun _=>q2 (by omega),fun _=>q3 (by omega),fun _=>decide_eq_true fun _=>c2⟩ (by omega) (by simp -implicitDefEqProofs only [go_sem])⟩,
   fun c=>ih _ 4 ⟨by omega,fun _=>q1 (by omega),fun _=>q2 (by omega),fun _=>q3 (by omega),fun _=>decide_eq_true fun h=>absurd h c⟩ (by omega) (by simp -implicitDefEqProofs only [go_sem])⟩
end Go.Proofs.YtflobbpcabopjaaGreatDoor
