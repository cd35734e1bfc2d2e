/-
 What 'opcode.Check' answers. No condition.
-/
import Derived.Test.YtflobbpcabopjaaGreatDoorOpcM
import Derived.Test.YtflobbpcabopjaaGreatDoorTxt0
import Derived.Test.YtflobbpcabopjaaGreatDoorLib32
import Derived.Below
set_option linter.unusedVariables false set_option linter.unusedSimpArgs false set_option maxRecDepth 100000
set_option maxHeartbeats 0
namespace Go.Proofs.YtflobbpcabopjaaGreatDoor
section
open Go.Abs
attribute [local irreducible] A0 Run
-- EV: Ins.v, Ins.row, Frm.v, Frm.row, intsV, Frm.ks, Ins.fs
attribute [local go_sem] Ins.v Ins.row Frm.v Frm.row B7e Frm.ks Ins.fs
theorem A1K(k:Int)(h0:0≤k)(h1:k≤12):Pure Tryz.prog 160 [.int .i64 k] (.tup [.int .i64 (low k),.int .i64 (high k)]):=by
 obtain⟨n,rfl⟩:=Int.eq_ofNat_of_zero_le h0
 exact B7W n zd
theorem C4F(f:Frm)(i:Ins)(h0: -1≤i.a∧i.a≤40000)(h1: -1≤i.b∧i.b≤40000)(h2: -1≤i.c∧i.c≤40000)(h3:0≤f.room∧f.room≤3):
  Pure Tryz.prog 161 [f.v,i.v] (.int .i64 (B1S f i)):=by
 refine Pure.of 0 (A0.enter A8N Jo ?_)
 refine Run.go 100 ?_
 refine Qz ?_
 repeat' (first|refine And.intro ?_ ?_|refine fun h=> ?_)
 all_goals first
  |omega
  |(unfold B1S mm2;simp [*];done)
theorem D2j(op:Int):(0≤(frm op).a∧(frm op).a≤12)∧(0≤(frm op).b∧(frm op).b≤12)∧(0≤(frm op).c∧(frm op).c≤12)∧(0≤(frm op).d∧(frm op).d≤12)∧0≤(frm op).room∧(frm op).room≤3:=by
 cases h:A1g op with
 |false=>rw [frm,if_neg (by rw [h];simp)];decide
 |true=>
  rcases A8H h with rfl|rfl|rfl|rfl|rfl|rfl|rfl|rfl|rfl|rfl|rfl|rfl|rfl|rfl|rfl|rfl|rfl|rfl|rfl|rfl|rfl|rfl|rfl|rfl|rfl|rfl|rfl|rfl|rfl<;>decide
theorem C1N: ∀k:Nat,k≤12→ -1≤low k∧high k≤32767:=by
 intro k hk
 have: ∀k:Fin 13, -1≤low (k.val:Int)∧high (k.val:Int)≤32767:=by decide
 exact this ⟨k,by omega⟩
theorem B0M{k x:Int}(h0:0≤k)(h1:k≤12)(h:A4I k x=true): -1≤x∧x≤40000:=by
 obtain⟨n,rfl⟩:=Int.eq_ofNat_of_zero_le h0
 have:=C1N n zd
 have:=of_decide_eq_true h
 omega
def A6r(f:Frm)(i:Ins):Int:=
 if (A4H f.a i.a&&A4H f.b i.b&&A4H f.c i.c&&A4H f.d i.d)=false then 4
 else if (A4I f.a i.a&&A4I f.b i.b&&A4I f.c i.c&&A4I f.d i.d)=false then 6
 else if f.a=1∧B1S f i≥4096∨i.op=3∧i.b<i.a then 6
 else 0
theorem D1S{i:Ins}(h:A1g i.op=true):chk i=A6r (frm i.op) i:=by
 unfold chk;rw [if_neg (by rw [h];simp)];rfl
def n4(j:Nat)(a b c d:Bool):Prop:=(0<j→a=true)∧(1<j→b=true)∧(2<j→c=true)∧(3<j→d=true)
theorem A6q(i:Ins):Pure Tryz.prog 121 [i.v] (.int .i64 (chk i)):=by
 refine Pure.of 0 (A0.enter A7d Jo ?_)
 refine Run.go 100 ?_
 refine Qz ?_
 refine A0.pureF (B8v i.op) ze ?_
 refine Qy ?_
 refine⟨fun h=> ?_,fun h=> ?_⟩
 ·unfold chk;rw [if_pos zp]
 refine A0.pureF (A6v (frm i.op) i) ze ?_
 refine Qy ?_
 rw [D1S zp]
 obtain⟨ka,kb,kc,kd,kr⟩:=D2j i.op
 generalize frm i.op=f at ka kb kc kd kr⊢
 refine Run.rounds (fun(j:Nat)=>⟨[(28,.int .i64 j),(27,.agg [.int .i64 f.a,.int .i64 f.b,.int .i64 f.c,.int .i64 f.d]),(6,.ptr (121*10000+6) 3 0 0),(5,.ptr (121*10000+5) 2 0 0),(3,.ptr (121*10000+3) 1 0 0),(1,.ptr (121*10000+1) 0 0 0)],
  [((121*10000+6),3,.rows 4 [[.int .i64 i.a,.int .i64 i.b,.int .i64 i.c,.int .i64 i.d]]),((121*10000+5),2,.rows 4 [[.int .i64 f.a,.int .i64 f.b,.int .i64 f.c,.int .i64 f.d]]),((121*10000+3),1,.rows 6 [f.row]),((121*10000+1),0,.rows 5 [i.row])],4⟩)
  (fun j=>j≤4∧n4 j (A4H f.a i.a) (A4H f.b i.b) (A4H f.c i.c) (A4H f.d i.d)) (fun j=>4-j) 0 ze ⟨by omega,by simp [n4]⟩ ?_
 rintro j ⟨hj,h1⟩ ih
 have hcase:j=0∨j=1∨j=2∨j=3∨j=4:=by omega
 rcases hcase with rfl|rfl|rfl|rfl|rfl
 rotate_left 4
 ·clear ih
  obtain⟨q1,q2,q3,q4⟩:=h1
  have g1:=q1 zd
  have g2:=q2 zd
  have g3:=q3 zd
  have g4:=q4 zd
  clear q1 q2 q3 q4
  refine Run.unf A3v (Run.go 100 ?_)
  refine Qy ?_
  refine Run.rounds (fun(j:Nat)=>⟨[(42,.int .i64 j),(41,.agg [.int .i64 f.a,.int .i64 f.b,.int .i64 f.c,.int .i64 f.d]),(6,.ptr (121*10000+6) 3 0 0),(3,.ptr (121*10000+3) 1 0 0),(1,.ptr (121*10000+1) 0 0 0)],
   [((121*10000+6),3,.rows 4 [[.int .i64 i.a,.int .i64 i.b,.int .i64 i.c,.int .i64 i.d]]),((121*10000+3),1,.rows 6 [f.row]),((121*10000+1),0,.rows 5 [i.row])],4⟩)
   (fun j=>j≤4∧n4 j (A4I f.a i.a) (A4I f.b i.b) (A4I f.c i.c) (A4I f.d i.d)) (fun j=>4-j) 0 ze ⟨by omega,by simp [n4]⟩ ?_
  rintro j ⟨hj,h1⟩ ih
  have hcase:j=0∨j=1∨j=2∨j=3∨j=4:=by omega
  rcases hcase with rfl|rfl|rfl|rfl|rfl
  rotate_left 4
  ·clear ih
   obtain⟨q1,q2,q3,q4⟩:=h1
   have r1:=q1 zd
   have r2:=q2 zd
   have r3:=q3 zd
   have r4:=q4 zd
   clear q1 q2 q3 q4
   have ra:=B0M ka.1 ka.2 r1
   have rb:=B0M kb.1 kb.2 r2
   have rc:=B0M kc.1 kc.2 r3
   have hc:A6r f i=if f.a=1∧B1S f i≥4096∨i.op=3∧i.b<i.a then 6 else 0:=by
    unfold A6r;rw [g1,g2,g3,g4,r1,r2,r3,r4];simp
   rw [hc]
   refine Run.unf A3w (Run.go 100 ?_)
   refine Qy ?_
   refine⟨fun c1=> ?_,fun c1=> ?_⟩
   ·refine A0.pureF (C4F f i ra rb rc kr) ze ?_
    refine Qy ?_
    repeat' (first|refine And.intro ?_ ?_|refine fun h=> ?_)
    all_goals (simp [*];try omega)
   ·repeat' (first|refine And.intro ?_ ?_|refine fun h=> ?_)
    all_goals (simp [*];try omega)
  all_goals (
   refine Run.unf A3w (Run.go 100 ?_)
   refine Qy ?_
   obtain⟨q1,q2,q3,q4⟩:=h1)
  ·refine A0.pureF (A1K f.a ka.1 ka.2) ze ?_
   refine Qy ?_
   have no: ¬(low f.a≤i.a∧i.a≤high f.a)→6=A6r f i:=fun hn=>by unfold A6r;rw [g1,g2,g3,g4,show A4I f.a i.a=false from decide_eq_false hn];simp
   exact⟨fun c=>⟨fun c2=>no zd,fun c2=>ih _ 1 ⟨by omega,fun _=>decide_eq_true ⟨by omega,by omega⟩,by omega,by omega,by omega⟩ zd ze⟩,fun c=>no zd⟩
  ·have r1:=q1 zd
   refine A0.pureF (A1K f.b kb.1 kb.2) ze ?_
   refine Qy ?_
   have no: ¬(low f.b≤i.b∧i.b≤high f.b)→6=A6r f i:=fun hn=>by unfold A6r;rw [g1,g2,g3,g4,r1,show A4I f.b i.b=false from decide_eq_false hn];simp
   exact⟨fun c=>⟨fun c2=>no zd,fun c2=>ih _ 2 ⟨by omega,fun _=>q1 zd,fun _=>decide_eq_true ⟨by omega,by omega⟩,by omega,by omega⟩ zd ze⟩,fun c=>no zd⟩
  ·have r1:=q1 zd
   have r2:=q2 zd
   refine A0.pureF (A1K f.c kc.1 kc.2) ze ?_
   refine Qy ?_
   have no: ¬(low f.c≤i.c∧i.c≤high f.c)→6=A6r f i:=fun hn=>by unfold A6r;rw [g1,g2,g3,g4,r1,r2,show A4I f.c i.c=false from decide_eq_false hn];simp
   exact⟨fun c=>⟨fun c2=>no zd,fun c2=>ih _ 3 ⟨by omega,fun _=>q1 zd,fun _=>q2 zd,fun _=>decide_eq_true ⟨by omega,by omega⟩,by omega⟩ zd ze⟩,fun c=>no zd⟩
  ·have r1:=q1 zd
   have r2:=q2 zd
   have r3:=q3 zd
   refine A0.pureF (A1K f.d kd.1 kd.2) ze ?_
   refine Qy ?_
   have no: ¬(low f.d≤i.d∧i.d≤high f.d)→6=A6r f i:=fun hn=>by unfold A6r;rw [g1,g2,g3,g4,r1,r2,r3,show A4I f.d i.d=false from decide_eq_false hn];simp
   exact⟨fun c=>⟨fun c2=>no zd,fun c2=>ih _ 4 ⟨by omega,fun _=>q1 zd,fun _=>q2 zd,fun _=>q3 zd,fun _=>decide_eq_true ⟨by omega,by omega⟩⟩ zd ze⟩,fun c=>no zd⟩
 all_goals (
  refine Run.unf A3v (Run.go 100 ?_)
  refine Qy ?_
  obtain⟨q1,q2,q3,q4⟩:=h1)
 ·have no: ¬(f.a=0→i.a=0)→4=A6r f i:=fun hn=>by unfold A6r;rw [show A4H f.a i.a=false from decide_eq_false hn];simp
  exact⟨fun c=>⟨fun c2=>no (fun h=>c2 (h c)),fun c2=>ih _ 1 ⟨by omega,fun _=>decide_eq_true fun _=>c2,by omega,by omega,by omega⟩ zd ze⟩,
   fun c=>ih _ 1 ⟨by omega,fun _=>decide_eq_true fun h=>absurd h c,by omega,by omega,by omega⟩ zd ze⟩
 ·have r1:=q1 zd
  have no: ¬(f.b=0→i.b=0)→4=A6r f i:=fun hn=>by unfold A6r;rw [r1,show A4H f.b i.b=false from decide_eq_false hn];simp
  exact⟨fun c=>⟨fun c2=>no (fun h=>c2 (h c)),fun c2=>ih _ 2 ⟨by omega,fun _=>q1 zd,fun _=>decide_eq_true fun _=>c2,by omega,by omega⟩ zd ze⟩,
   fun c=>ih _ 2 ⟨by omega,fun _=>q1 zd,fun _=>decide_eq_true fun h=>absurd h c,by omega,by omega⟩ zd ze⟩
 ·have r1:=q1 zd
  have r2:=q2 zd
  have no: ¬(f.c=0→i.c=0)→4=A6r f i:=fun hn=>by unfold A6r;rw [r1,r2,show A4H f.c i.c=false from decide_eq_false hn];simp
  exact⟨fun c=>⟨fun c2=>no (fun h=>c2 (h c)),fun c2=>ih _ 3 ⟨by omega,fun _=>q1 zd,fun _=>q2 zd,fun _=>decide_eq_true fun _=>c2,by omega⟩ zd ze⟩,
   fun c=>ih _ 3 ⟨by omega,fun _=>q1 zd,fun _=>q2 zd,fun _=>decide_eq_true fun h=>absurd h c,by omega⟩ zd ze⟩
 ·have r1:=q1 zd
  have r2:=q2 zd
  have r3:=q3 zd
  have no: ¬(f.d=0→i.d=0)→4=A6r f i:=fun hn=>by unfold A6r;rw [r1,r2,r3,show A4H f.d i.d=false from decide_eq_false hn];simp
  exact⟨fun c=>⟨fun c2=>no (fun h=>c2 (h c)),fun c2=>ih _ 4 ⟨by omega,fun _=>q1 zd,fun _=>q2 zd,fun _=>q3 zd,fun _=>decide_eq_true fun _=>c2⟩ zd ze⟩,
   fun c=>ih _ 4 ⟨by omega,fun _=>q1 zd,fun _=>q2 zd,fun _=>q3 zd,fun _=>decide_eq_true fun h=>absurd h c⟩ zd ze⟩
end
section
open Go Go.Abs
attribute [local irreducible] A0 Run
-- EV: Ins.v, Ins.row, Frm.v, Frm.row
attribute [local go_sem] Ins.v Ins.row Frm.v Frm.row
theorem C5A(s:List UInt8):A9o s=Lib.split s [32]:=by
 unfold A9o Lib.split
 have:=Lib.splitB_data ⟨#[32]⟩ 0 (Lib.countB ⟨s.toArray⟩ ⟨#[32]⟩) ⟨s.toArray⟩
 simpa using this
def inB(x:Int):Prop:= -9223372036854775808≤x∧x≤9223372036854775807
theorem B1L(op:Int):(frm op).word.length≤20:=by
 unfold frm
 cases h:A1g op with
 |false=>simp
 |true=>
  obtain⟨n,rfl,h1,h2⟩:=A5i h
  simp only [if_true,Int.toNat_natCast]
  have: ∀n:Nat,n≤29→(B3f n).word.length≤20:=by decide
  exact this n h2
def pcs(k x:Int):List UInt8:=if k=0 then []else 32::Lib.itoa x
theorem B4n(k x:Int)(h:inB x):(pcs k x).length≤22:=by
 unfold pcs
 split
 ·simp
 ·have:=Y8 h.1 h.2;simp only [List.length_cons];omega
def A0j(w:List UInt8)(k1 k2 k3 k4 x1 x2 x3 x4:Int):Nat→List UInt8
 |0=>w
 |1=>w++pcs k1 x1
 |2=>w++pcs k1 x1++pcs k2 x2
 |3=>w++pcs k1 x1++pcs k2 x2++pcs k3 x3
 |_=>w++pcs k1 x1++pcs k2 x2++pcs k3 x3++pcs k4 x4
theorem C0i(w:List UInt8)(k1 k2 k3 k4 x1 x2 x3 x4:Int):w++A1P [k1,k2,k3,k4] [x1,x2,x3,x4]=A0j w k1 k2 k3 k4 x1 x2 x3 x4 4:=by
 simp only [A1P,A0j,pcs,List.append_nil,List.append_assoc]
theorem C0j{w:List UInt8}{k1 k2 k3 k4 x1 x2 x3 x4:Int}(hw:w.length≤20)(h1:inB x1)(h2:inB x2)(h3:inB x3)(h4:inB x4)(k:Nat):(A0j w k1 k2 k3 k4 x1 x2 x3 x4 k).length≤200:=by
 have l1:=B4n k1 x1 h1
 have l2:=B4n k2 x2 h2
 have l3:=B4n k3 x3 h3
 have l4:=B4n k4 x4 h4
 unfold A0j
 split<;>(try simp only [List.length_append])<;>omega
theorem B3u(i:Ins)(hb:inB i.a∧inB i.b∧inB i.c∧inB i.d):Abs.Pure Tryz.prog 79 [i.v] (.str (D3 i)):=by
 have ho:=B8v i.op
 have hf:=A6v (frm i.op) i
 have hwl:=B1L i.op
 unfold D3
 refine Pure.of 0 (A0.enter A8M Jo (Run.go 100 ?_))
 cases hop:A1g i.op with
 |false=>
  rw [hop]at ho
  refine Qz ?_
  refine A0.pureF ho ze ?_
  exact Yc
 | true=>
  rw [hop]at ho
  refine Qz ?_
  refine A0.pureF ho ze ?_
  refine Qy ?_
  refine A0.pureF hf ze ?_
  simp -implicitDefEqProofs only [go_sem,B7e,Frm.ks,Ins.fs]
  obtain⟨op,x1,x2,x3,x4⟩:=i
  simp only at hb hwl hop⊢
  rw [C0i]
  have hlen:=fun k=>C0j (k1:=(frm op).a) (k2:=(frm op).b) (k3:=(frm op).c) (k4:=(frm op).d) hwl hb.1 hb.2.1 hb.2.2.1 hb.2.2.2 k
  have i1:=D7 x1 hb.1.1 hb.1.2
  have i2:=D7 x2 hb.2.1.1 hb.2.1.2
  have i3:=D7 x3 hb.2.2.1.1 hb.2.2.1.2
  have i4:=D7 x4 hb.2.2.2.1 hb.2.2.2.2
  generalize (frm op).word=w at*
  generalize (frm op).a=k1 at*
  generalize (frm op).b=k2 at*
  generalize (frm op).c=k3 at*
  generalize (frm op).d=k4 at*
  refine Run.keep [27,26,7,5] ?_
  refine Run.rounds (fun(k:Nat)=>⟨[(27,.int .i64 k),(26,.agg [.int .i64 k1,.int .i64 k2,.int .i64 k3,.int .i64 k4]),(7,.ptr (79*10000+7) 3 0 0),(5,.str (A0j w k1 k2 k3 k4 x1 x2 x3 x4 k))],[((79*10000+7),3,.rows 4 [[.int .i64 x1,.int .i64 x2,.int .i64 x3,.int .i64 x4]])],4⟩) (fun k=>k≤4) (fun k=>4-k) 0 (by simp -implicitDefEqProofs only [go_sem,A0j]) (Nat.zero_le _) ?_
  intro k hk ih
  refine Run.unf B2k (Run.go 100 ?_)
  have hkk:k=0∨k=1∨k=2∨k=3∨k=4:=by omega
  rcases hkk with rfl|rfl|rfl|rfl|rfl
  ·have l0:=hlen 0
   have il:=Y8 hb.1.1 hb.1.2
   by_cases hz:k1=0
   ·subst hz
    have e:A0j w 0 k2 k3 k4 x1 x2 x3 x4 1=A0j w 0 k2 k3 k4 x1 x2 x3 x4 0:=by simp only [A0j,pcs,if_true,List.append_nil]
    refine Qy ?_
    refine ih _ 1 zd zd ?_
    exact Xm
   ·have e:A0j w k1 k2 k3 k4 x1 x2 x3 x4 1=A0j w k1 k2 k3 k4 x1 x2 x3 x4 0++32::Lib.itoa x1:=by simp only [A0j,pcs,hz,if_false]
    refine QL ?_
    refine A0.pureF i1 ze ?_
    refine Qy ?_
    refine⟨by omega,by omega,ih _ 1 zd zd ?_⟩
    exact Xm
  ·have l0:=hlen 1
   have il:=Y8 hb.2.1.1 hb.2.1.2
   by_cases hz:k2=0
   ·subst hz
    have e:A0j w k1 0 k3 k4 x1 x2 x3 x4 2=A0j w k1 0 k3 k4 x1 x2 x3 x4 1:=by simp only [A0j,pcs,if_true,List.append_nil]
    refine Qy ?_
    refine ih _ 2 zd zd ?_
    exact Xm
   ·have e:A0j w k1 k2 k3 k4 x1 x2 x3 x4 2=A0j w k1 k2 k3 k4 x1 x2 x3 x4 1++32::Lib.itoa x2:=by simp only [A0j,pcs,hz,if_false]
    refine QL ?_
    refine A0.pureF i2 ze ?_
    refine Qy ?_
    refine⟨by omega,by omega,ih _ 2 zd zd ?_⟩
    exact Xm
  ·have l0:=hlen 2
   have il:=Y8 hb.2.2.1.1 hb.2.2.1.2
   by_cases hz:k3=0
   ·subst hz
    have e:A0j w k1 k2 0 k4 x1 x2 x3 x4 3=A0j w k1 k2 0 k4 x1 x2 x3 x4 2:=by simp only [A0j,pcs,if_true,List.append_nil]
    refine Qy ?_
    refine ih _ 3 zd zd ?_
    exact Xm
   ·have e:A0j w k1 k2 k3 k4 x1 x2 x3 x4 3=A0j w k1 k2 k3 k4 x1 x2 x3 x4 2++32::Lib.itoa x3:=by simp only [A0j,pcs,hz,if_false]
    refine QL ?_
    refine A0.pureF i3 ze ?_
    refine Qy ?_
    refine⟨by omega,by omega,ih _ 3 zd zd ?_⟩
    exact Xm
  ·have l0:=hlen 3
   have il:=Y8 hb.2.2.2.1 hb.2.2.2.2
   by_cases hz:k4=0
   ·subst hz
    have e:A0j w k1 k2 k3 0 x1 x2 x3 x4 4=A0j w k1 k2 k3 0 x1 x2 x3 x4 3:=by simp only [A0j,pcs,if_true,List.append_nil]
    refine Qy ?_
    refine ih _ 4 zd zd ?_
    exact Xm
   ·have e:A0j w k1 k2 k3 k4 x1 x2 x3 x4 4=A0j w k1 k2 k3 k4 x1 x2 x3 x4 3++32::Lib.itoa x4:=by simp only [A0j,pcs,hz,if_false]
    refine QL ?_
    refine A0.pureF i4 ze ?_
    refine Qy ?_
    refine⟨by omega,by omega,ih _ 4 zd zd ?_⟩
    exact Xm
  ·exact ze
end
section
open Go Go.Abs
attribute [local irreducible] A0 Run
-- EV: Ins.v, Ins.row, Frm.v, Frm.row
attribute [local go_sem] Ins.v Ins.row Frm.v Frm.row
def A2X(s:List UInt8):V:=match Lib.atoiAll s with
 | .ok n=> .tup [.int .i64 n,.cst .nilIface]
 | .range=> .tup [.int .i64 (Lib.atoiSat s),.err]
 |_=> .tup [.int .i64 0,.err]
theorem A1y(s:List UInt8)(hs:s.length≤100000):Abs.Pure Tryz.prog 152 [.str s] (A2X s):=by
 unfold A2X
 cases h:Lib.atoiAll s
 case ok n=>exact B6D s hs n h
 case range=>
  intro w O cargs hO hgl hR
  obtain⟨hl,hR⟩:=hR
  obtain⟨cs⟩:=cargs
  match cs,hl with
  | [a],_=>
   have ha:a= .string ⟨s.toArray⟩:=by have:=hR 0 _ a rfl rfl;cases this;rfl
   subst ha
   obtain⟨x,hx,hxr⟩:=B1M hgl (g:=7) (c:= [.err]) zh 0 .err rfl
   obtain⟨t,p,rfl⟩: ∃t p,x= .iface t p:=by cases hxr;exact⟨_,_,rfl⟩
   refine(Tryz.strconv_Atoi_range ⟨s.toArray⟩ zZ zp (.iface t p) w hx (.inr ⟨t,p,rfl⟩)).mono ?_
   exact Xf
 ·skip
  intro w O cargs hO hgl hR
  obtain⟨hl,hR⟩:=hR
  obtain⟨cs⟩:=cargs
  match cs,hl with
  | [a],_=>
   have ha:a= .string ⟨s.toArray⟩:=by have:=hR 0 _ a rfl rfl;cases this;rfl
   subst ha
   obtain⟨x,hx,hxr⟩:=B1M hgl (g:=6) (c:= [.err]) zh 0 .err rfl
   obtain⟨t,p,rfl⟩: ∃t p,x= .iface t p:=by cases hxr;exact⟨_,_,rfl⟩
   refine(Tryz.strconv_Atoi_syntax ⟨s.toArray⟩ zZ zp (.iface t p) w hx (.inr ⟨t,p,rfl⟩)).mono ?_
   exact Xf
end
end Go.Proofs.YtflobbpcabopjaaGreatDoor
