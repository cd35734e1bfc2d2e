/-
 What 'opcode.Check' answers. No condition.
-/
import Derived.Test.YtcjgeliglgcflaaGreatDoorOpcM
set_option linter.unusedVariables false
set_option linter.unusedSimpArgs false
set_option maxRecDepth 100000
set_option maxHeartbeats 0
namespace Go.Proofs.YtcjgeliglgcflaaGreatDoor
open Go.Abs
attribute [local irreducible] A3 Run
-- EV: Ins.v, Ins.row, Frm.v, Frm.row, intsV, Frm.ks, Ins.fs
attribute [local go_sem] Ins.v Ins.row Frm.v Frm.row B5H Frm.ks Ins.fs
theorem A0v(k:Int)(h0:0≤k)(h1:k≤12):Pure Tryz.prog 102 [.int .i64 k] (.tup [.int .i64 (low k),.int .i64 (high k)]):=by
 obtain⟨n,rfl⟩:=Int.eq_ofNat_of_zero_le h0
 exact B4f n (by omega)
theorem B9M(f:Frm)(i:Ins)(h0: -1≤i.a∧i.a≤40000)(h1: -1≤i.b∧i.b≤40000)(h2: -1≤i.c∧i.c≤40000)(h3:0≤f.room∧f.room≤3):
  Pure Tryz.prog 103 [f.v,i.v] (.int .i64 (A8N f i)):=by
 refine Pure.of 0 (A3.enter A6n (Nat.le_of_ble_eq_true rfl) ?_)
 refine Run.go 100 ?_
 simp -implicitDefEqProofs only [go_sem,A8]
 repeat' (first|refine And.intro ?_ ?_|refine fun h=> ?_)
 all_goals first
  |omega
  |(unfold A8N mm2;simp [*];done)
theorem C6i(op:Int):(0≤(frm op).a∧(frm op).a≤12)∧(0≤(frm op).b∧(frm op).b≤12)∧(0≤(frm op).c∧(frm op).c≤12)∧(0≤(frm op).d∧(frm op).d≤12)∧0≤(frm op).room∧(frm op).room≤3:=by
 cases h:A1Z op with
 |false=>rw [frm,if_neg (by rw [h];simp)];decide
 |true=>
  rcases A8T h with rfl|rfl|rfl|rfl|rfl|rfl|rfl|rfl|rfl|rfl|rfl|rfl|rfl|rfl|rfl|rfl|rfl|rfl|rfl|rfl|rfl|rfl|rfl|rfl|rfl|rfl|rfl|rfl|rfl<;>decide
theorem B7u: ∀k:Nat,k≤12→ -1≤low k∧high k≤32767:=by
 intro k hk
 have: ∀k:Fin 13, -1≤low (k.val:Int)∧high (k.val:Int)≤32767:=by decide
 exact this ⟨k,by omega⟩
theorem A7W{k x:Int}(h0:0≤k)(h1:k≤12)(h:A3v k x=true): -1≤x∧x≤40000:=by
 obtain⟨n,rfl⟩:=Int.eq_ofNat_of_zero_le h0
 have:=B7u n (by omega)
 have:=of_decide_eq_true h
 omega
def A4x(f:Frm)(i:Ins):Int:=
 if (A3H f.a i.a&&A3H f.b i.b&&A3H f.c i.c&&A3H f.d i.d)=false then 4
 else if (A3v f.a i.a&&A3v f.b i.b&&A3v f.c i.c&&A3v f.d i.d)=false then 6
 else if f.a=1∧A8N f i≥4096∨i.op=3∧i.b<i.a then 6
 else 0
theorem C5S{i:Ins}(h:A1Z i.op=true):chk i=A4x (frm i.op) i:=by
 unfold chk;rw [if_neg (by rw [h];simp)];rfl
def n4(j:Nat)(a b c d:Bool):Prop:=(0<j→a=true)∧(1<j→b=true)∧(2<j→c=true)∧(3<j→d=true)
theorem A7U(i:Ins):Pure Tryz.prog 74 [i.v] (.int .i64 (chk i)):=by
 refine Pure.of 0 (A3.enter A5b (Nat.le_of_ble_eq_true rfl) ?_)
 refine Run.go 100 ?_
 simp -implicitDefEqProofs only [go_sem,A8]
 refine A3.pureF (B8M i.op) (by simp -implicitDefEqProofs only [go_sem]) ?_
 simp -implicitDefEqProofs only [go_sem]
 refine⟨fun h=> ?_,fun h=> ?_⟩
 ·unfold chk;rw [if_pos (by simpa using h)]
 refine A3.pureF (A8F (frm i.op) i) (by simp -implicitDefEqProofs only [go_sem]) ?_
 simp -implicitDefEqProofs only [go_sem]
 rw [C5S (by simpa using h)]
 obtain⟨ka,kb,kc,kd,kr⟩:=C6i i.op
 generalize frm i.op=f at ka kb kc kd kr⊢
 refine Run.rounds (fun(j:Nat)=>⟨[(28,.int .i64 j),(27,.agg [.int .i64 f.a,.int .i64 f.b,.int .i64 f.c,.int .i64 f.d]),(6,.ptr (74*10000+6) 3 0 0),(5,.ptr (74*10000+5) 2 0 0),(3,.ptr (74*10000+3) 1 0 0),(1,.ptr (74*10000+1) 0 0 0)],
  [((74*10000+6),3,.rows 4 [[.int .i64 i.a,.int .i64 i.b,.int .i64 i.c,.int .i64 i.d]]),((74*10000+5),2,.rows 4 [[.int .i64 f.a,.int .i64 f.b,.int .i64 f.c,.int .i64 f.d]]),((74*10000+3),1,.rows 6 [f.row]),((74*10000+1),0,.rows 5 [i.row])],4⟩)
  (fun j=>j≤4∧n4 j (A3H f.a i.a) (A3H f.b i.b) (A3H f.c i.c) (A3H f.d i.d)) (fun j=>4-j) 0 (by simp -implicitDefEqProofs only [go_sem]) ⟨by omega,by simp [n4]⟩ ?_
 rintro j ⟨hj,h1⟩ ih
 have hcase:j=0∨j=1∨j=2∨j=3∨j=4:=by omega
 rcases hcase with rfl|rfl|rfl|rfl|rfl
 rotate_left 4
 ·clear ih
  obtain⟨q1,q2,q3,q4⟩:=h1
  have g1:=q1 (by omega)
  have g2:=q2 (by omega)
  have g3:=q3 (by omega)
  have g4:=q4 (by omega)
  clear q1 q2 q3 q4
  refine Run.unf A2q (Run.go 100 ?_)
  simp -implicitDefEqProofs only [go_sem]
  refine Run.rounds (fun(j:Nat)=>⟨[(42,.int .i64 j),(41,.agg [.int .i64 f.a,.int .i64 f.b,.int .i64 f.c,.int .i64 f.d]),(6,.ptr (74*10000+6) 3 0 0),(3,.ptr (74*10000+3) 1 0 0),(1,.ptr (74*10000+1) 0 0 0)],
   [((74*10000+6),3,.rows 4 [[.int .i64 i.a,.int .i64 i.b,.int .i64 i.c,.int .i64 i.d]]),((74*10000+3),1,.rows 6 [f.row]),((74*10000+1),0,.rows 5 [i.row])],4⟩)
   (fun j=>j≤4∧n4 j (A3v f.a i.a) (A3v f.b i.b) (A3v f.c i.c) (A3v f.d i.d)) (fun j=>4-j) 0 (by simp -implicitDefEqProofs only [go_sem]) ⟨by omega,by simp [n4]⟩ ?_
  rintro j ⟨hj,h1⟩ ih
  have hcase:j=0∨j=1∨j=2∨j=3∨j=4:=by omega
  rcases hcase with rfl|rfl|rfl|rfl|rfl
  rotate_left 4
  ·clear ih
   obtain⟨q1,q2,q3,q4⟩:=h1
   have r1:=q1 (by omega)
   have r2:=q2 (by omega)
   have r3:=q3 (by omega)
   have r4:=q4 (by omega)
   clear q1 q2 q3 q4
   have ra:=A7W ka.1 ka.2 r1
   have rb:=A7W kb.1 kb.2 r2
   have rc:=A7W kc.1 kc.2 r3
   have hc:A4x f i=if f.a=1∧A8N f i≥4096∨i.op=3∧i.b<i.a then 6 else 0:=by
    unfold A4x;rw [g1,g2,g3,g4,r1,r2,r3,r4];simp
   rw [hc]
   refine Run.unf A2r (Run.go 100 ?_)
   simp -implicitDefEqProofs only [go_sem]
   refine⟨fun c1=> ?_,fun c1=> ?_⟩
   ·refine A3.pureF (B9M f i ra rb rc kr) (by simp -implicitDefEqProofs only [go_sem]) ?_
    simp -implicitDefEqProofs only [go_sem]
    repeat' (first|refine And.intro ?_ ?_|refine fun h=> ?_)
    all_goals (simp [*];try omega)
   ·repeat' (first|refine And.intro ?_ ?_|refine fun h=> ?_)
    all_goals (simp [*];try omega)
  all_goals (
   refine Run.unf A2r (Run.go 100 ?_)
   simp -implicitDefEqProofs only [go_sem]
   obtain⟨q1,q2,q3,q4⟩:=h1)
  ·refine A3.pureF (A0v f.a ka.1 ka.2) (by simp -implicitDefEqProofs only [go_sem]) ?_
   simp -implicitDefEqProofs only [go_sem]
   have no: ¬(low f.a≤i.a∧i.a≤high f.a)→6=A4x f i:=fun hn=>by unfold A4x;rw [g1,g2,g3,g4,show A3v f.a i.a=false from decide_eq_false hn];simp
   exact⟨fun c=>⟨fun c2=>no (by omega),fun c2=>ih _ 1 ⟨by omega,fun _=>decide_eq_true ⟨by omega,by omega⟩,by omega,by omega,by omega⟩ (by omega) (by simp -implicitDefEqProofs only [go_sem])⟩,fun c=>no (by omega)⟩
  ·have r1:=q1 (by omega)
   refine A3.pureF (A0v f.b kb.1 kb.2) (by simp -implicitDefEqProofs only [go_sem]) ?_
   simp -implicitDefEqProofs only [go_sem]
   have no: ¬(low f.b≤i.b∧i.b≤high f.b)→6=A4x f i:=fun hn=>by unfold A4x;rw [g1,g2,g3,g4,r1,show A3v f.b i.b=false from decide_eq_false hn];simp
   exact⟨fun c=>⟨fun c2=>no (by omega),fun c2=>ih _ 2 ⟨by omega,fun _=>q1 (by omega),fun _=>decide_eq_true ⟨by omega,by omega⟩,by omega,by omega⟩ (by omega) (by simp -implicitDefEqProofs only [go_sem])⟩,fun c=>no (by omega)⟩
  ·have r1:=q1 (by omega)
   have r2:=q2 (by omega)
   refine A3.pureF (A0v f.c kc.1 kc.2) (by simp -implicitDefEqProofs only [go_sem]) ?_
   simp -implicitDefEqProofs only [go_sem]
   have no: ¬(low f.c≤i.c∧i.c≤high f.c)→6=A4x f i:=fun hn=>by unfold A4x;rw [g1,g2,g3,g4,r1,r2,show A3v f.c i.c=false from decide_eq_false hn];simp
   exact⟨fun c=>⟨fun c2=>no (by omega),fun c2=>ih _ 3 ⟨by omega,fun _=>q1 (by omega),fun _=>q2 (by omega),fun _=>decide_eq_true ⟨by omega,by omega⟩,by omega⟩ (by omega) (by simp -implicitDefEqProofs only [go_sem])⟩,fun c=>no (by omega)⟩
  ·have r1:=q1 (by omega)
   have r2:=q2 (by omega)
   have r3:=q3 (by omega)
   refine A3.pureF (A0v f.d kd.1 kd.2) (by simp -implicitDefEqProofs only [go_sem]) ?_
   simp -implicitDefEqProofs only [go_sem]
   have no: ¬(low f.d≤i.d∧i.d≤high f.d)→6=A4x f i:=fun hn=>by unfold A4x;rw [g1,g2,g3,g4,r1,r2,r3,show A3v f.d i.d=false from decide_eq_false hn];simp
   exact⟨fun c=>⟨fun c2=>no (by omega),fun c2=>ih _ 4 ⟨by omega,fun _=>q1 (by omega),fun _=>q2 (by omega),fun _=>q3 (by omega),fun _=>decide_eq_true ⟨by omega,by omega⟩⟩ (by omega) (by simp -implicitDefEqProofs only [go_sem])⟩,fun c=>no (by omega)⟩
 all_goals (
  refine Run.unf A2q (Run.go 100 ?_)
  simp -implicitDefEqProofs only [go_sem]
  obtain⟨q1,q2,q3,q4⟩:=h1)
 ·have no: ¬(f.a=0→i.a=0)→4=A4x f i:=fun hn=>by unfold A4x;rw [show A3H f.a i.a=false from decide_eq_false hn];simp
  exact⟨fun c=>⟨fun c2=>no (fun h=>c2 (h c)),fun c2=>ih _ 1 ⟨by omega,fun _=>decide_eq_true fun _=>c2,by omega,by omega,by omega⟩ (by omega) (by simp -implicitDefEqProofs only [go_sem])⟩,
   fun c=>ih _ 1 ⟨by omega,fun _=>decide_eq_true fun h=>absurd h c,by omega,by omega,by omega⟩ (by omega) (by simp -implicitDefEqProofs only [go_sem])⟩
 ·have r1:=q1 (by omega)
  have no: ¬(f.b=0→i.b=0)→4=A4x f i:=fun hn=>by unfold A4x;rw [r1,show A3H f.b i.b=false from decide_eq_false hn];simp
  exact⟨fun c=>⟨fun c2=>no (fun h=>c2 (h c)),fun c2=>ih _ 2 ⟨by omega,fun _=>q1 (by omega),fun _=>decide_eq_true fun _=>c2,by omega,by omega⟩ (by omega) (by simp -implicitDefEqProofs only [go_sem])⟩,
   fun c=>ih _ 2 ⟨by omega,fun _=>q1 (by omega),fun _=>decide_eq_true fun h=>absurd h c,by omega,by omega⟩ (by omega) (by simp -implicitDefEqProofs only [go_sem])⟩
 ·have r1:=q1 (by omega)
  have r2:=q2 (by omega)
  have no: ¬(f.c=0→i.c=0)→4=A4x f i:=fun hn=>by unfold A4x;rw [r1,r2,show A3H f.c i.c=false from decide_eq_false hn];simp
  exact⟨fun c=>⟨fun c2=>no (fun h=>c2 (h c)),fun c2=>ih _ 3 ⟨by omega,fun _=>q1 (by omega),fun _=>q2 (by omega),fun _=>decide_eq_true fun _=>c2,by omega⟩ (by omega) (by simp -implicitDefEqProofs only [go_sem])⟩,
   fun c=>ih _ 3 ⟨by omega,fun _=>q1 (by omega),fun _=>q2 (by omega),fun _=>decide_eq_true fun h=>absurd h c,by omega⟩ (by omega) (by simp -implicitDefEqProofs only [go_sem])⟩
 ·have r1:=q1 (by omega)
  have r2:=q2 (by omega)
  have r3:=q3 (by omega)
  have no: ¬(f.d=0→i.d=0)→4=A4x f i:=fun hn=>by unfold A4x;rw [r1,r2,r3,show A3H f.d i.d=false from decide_eq_false hn];simp
  exact⟨fun c=>⟨fun c2=>no (fun h=>c2 (h c)),fun c2=>ih _ 4 ⟨by omega,fun _=>q1 (by omega),fun _=>q2 (by omega),fun _=>q3 (by omega),fun _=>decide_eq_true fun _=>c2⟩ (by omega) (by simp -implicitDefEqProofs only [go_sem])⟩,
   fun c=>ih _ 4 ⟨by omega,fun _=>q1 (by omega),fun _=>q2 (by omega),fun _=>q3 (by omega),fun _=>decide_eq_true fun h=>absurd h c⟩ (by omega) (by simp -implicitDefEqProofs only [go_sem])⟩
end Go.Proofs.YtcjgeliglgcflaaGreatDoor
