/-
 What the reference's 'Check' answers: the same. No condition.
-/
import Derived.Test.YtnihmhbcjpcobaaGreatDoorOpc3
set_option linter.unusedVariables false
set_option linter.unusedSimpArgs false
set_option maxRecDepth 100000
set_option maxHeartbeats 0
namespace Go.Proofs.YtnihmhbcjpcobaaGreatDoor
open Go.Abs
attribute [local irreducible] A2 Run
-- EV: Ins.v, Ins.row, Shp.v, Shp.row, intsV, Ins.fs
attribute [local go_sem] Ins.v Ins.row Shp.v Shp.row B2V Ins.fs
theorem C2n: ∀n:Nat,1≤n→n≤29→Pure Tryz.prog 95 [.int .i64 n] (C1u n).v:=by
 have key: ∀n:Nat,n<30→(Nat.blt 0 n=true→eqR (exR Tryz.prog exT B9S 1000 5 1 95 [.int .i64 n]) (C1u n).v=true):=by
  have:(List.range 30).all (fun n=> !Nat.blt 0 n||eqR (exR Tryz.prog exT B9S 1000 5 1 95 [.int .i64 n]) (C1u n).v)=true:=by kernel_rfl
  intro n hn h0
  have:=List.all_eq_true.1 this n (List.mem_range.2 hn)
  rw [h0]at this
  simpa using this
 intro n h1 h2
 exact Pure.execB (m:=1000) (d:=5) (fr:=1) B5k B3l (key n (by omega) (Nat.ble_eq_true_of_le h1))
theorem C0W(w:List UInt8):Pure Tryz.prog 133 [.str w] (Shp.v ⟨w,false,false,false,false,0,0,0,0,0,0,0,0⟩):=by
 refine Pure.of 0 (A2.enter A0H (Nat.le_of_ble_eq_true rfl) ?_)
 refine Run.go 100 ?_
 simp -implicitDefEqProofs only [go_sem,A4]
theorem C2H{op:Int}(h: ¬(1≤op∧op≤29)):Pure Tryz.prog 117 [.int .i64 op] (shp op).v:=by
 have hs:shp op=⟨[],false,false,false,false,0,0,0,0,0,0,0,0⟩:=by rw [shp,if_neg (by simp [S6];omega)]
 rw [hs]
 refine Pure.of 0 (A2.enter p5 (Nat.le_of_ble_eq_true rfl) ?_)
 have e: ∀k:Int,1≤k→k≤29→ ¬op=k:=fun k h1 h2 hk=>h (hk ▸ ⟨h1,h2⟩)
 refine Run.go 100 ?_
 simp -implicitDefEqProofs only [go_sem,A4,e 14 (by omega) (by omega),e 15 (by omega) (by omega),e 16 (by omega) (by omega),e 17 (by omega) (by omega),e 18 (by omega) (by omega),e 19 (by omega) (by omega),e 20 (by omega) (by omega),e 21 (by omega) (by omega),e 22 (by omega) (by omega),e 23 (by omega) (by omega),e 24 (by omega) (by omega),e 25 (by omega) (by omega),e 26 (by omega) (by omega),e 27 (by omega) (by omega),e 28 (by omega) (by omega),e 29 (by omega) (by omega)]
 refine A2.pureF (C0W []) (by simp -implicitDefEqProofs only [go_sem]) ?_
 simp -implicitDefEqProofs only [go_sem]
theorem C4f{op:Int}(h: ¬(1≤op∧op≤29)):Pure Tryz.prog 95 [.int .i64 op] (shp op).v:=by
 refine Pure.of 0 (A2.enter A0E (Nat.le_of_ble_eq_true rfl) ?_)
 have e: ∀k:Int,1≤k→k≤29→ ¬op=k:=fun k h1 h2 hk=>h (hk ▸ ⟨h1,h2⟩)
 refine Run.go 100 ?_
 simp -implicitDefEqProofs only [go_sem,A4,e 1 (by omega) (by omega),e 2 (by omega) (by omega),e 3 (by omega) (by omega),e 4 (by omega) (by omega),e 5 (by omega) (by omega),e 6 (by omega) (by omega),e 7 (by omega) (by omega),e 8 (by omega) (by omega),e 9 (by omega) (by omega),e 10 (by omega) (by omega),e 11 (by omega) (by omega),e 12 (by omega) (by omega),e 13 (by omega) (by omega)]
 refine A2.pureF (C2H h) (by simp -implicitDefEqProofs only [go_sem]) ?_
 simp -implicitDefEqProofs only [go_sem]
theorem C0u(op:Int):Pure Tryz.prog 95 [.int .i64 op] (shp op).v:=by
 cases h:S6 op with
 |false=>exact C4f (of_decide_eq_false h)
 |true=>
  obtain⟨n,rfl,h1,h2⟩:=B6O h
  have:=C2n n h1 h2
  rwa [show shp (n:Int)=C1u n by rw [shp,if_pos h];rfl]
theorem B5K(i:Ins):Pure Tryz.prog 96 [i.v] (.agg (B2V i.fs)):=by
 refine Pure.of 0 (A2.enter Y0 (Nat.le_of_ble_eq_true rfl) ?_)
 refine Run.go 100 ?_
 simp -implicitDefEqProofs only [go_sem,A4]
theorem B0A(i:Ins):Pure Tryz.prog 74 [i.v] (.tup [.int .i64 (if W5 i.op then i.b else 0),.bool (W5 i.op)]):=by
 have hj:W5 i.op=decide (i.op=14∨i.op=15∨i.op=23∨i.op=24∨i.op=26):=rfl
 rw [hj]
 refine Pure.of 0 (A2.enter X8 (Nat.le_of_ble_eq_true rfl) ?_)
 refine Run.go 100 ?_
 simp -implicitDefEqProofs only [go_sem,A4]
 repeat' (first|refine And.intro ?_ ?_|refine fun h=> ?_)
 all_goals simp_all
theorem B8H(i:Ins)(h0: -1≤i.a∧i.a≤40000)(h1: -1≤i.b∧i.b≤40000)(h2: -1≤i.c∧i.c≤40000):
  Pure Tryz.prog 97 [i.v] (.int .i64 (B1c i)):=by
 refine Pure.of 0 (A2.enter p6 (Nat.le_of_ble_eq_true rfl) ?_)
 refine Run.go 100 ?_
 simp -implicitDefEqProofs only [go_sem,A4]
 repeat' (first|refine And.intro ?_ ?_|refine fun h=> ?_)
 all_goals first
  |(split<;>omega)
  |omega
  |(unfold B1c mx mm2;simp [*];done)
-- EV: Ins.v, Ins.row, Shp.v, Shp.row, intsV, Ins.fs
attribute [local go_sem] Ins.v Ins.row Shp.v Shp.row B2V Ins.fs
def A0r(s:Shp)(i:Ins):Int:=
 if (M6 s.ha i.a&&M6 s.hb i.b&&M6 s.hc i.c&&M6 s.hd i.d)=false then 4
 else if (M7 s.ha s.la s.ma i.a&&M7 s.hb s.lb s.mb i.b&&M7 s.hc s.lc s.mc i.c&&M7 s.hd s.ld s.md i.d)=false then 6
 else if i.op=3∧i.b<i.a∨B1c i>4095 then 6
 else 0
theorem C3b{i:Ins}(h:S6 i.op=true):C1b i=A0r (shp i.op) i:=by
 unfold C1b;rw [if_neg (by rw [h];simp)];rfl
theorem C7K(op:Int):(-1≤(shp op).la∧(shp op).ma≤40000)∧(-1≤(shp op).lb∧(shp op).mb≤40000)∧(-1≤(shp op).lc∧(shp op).mc≤40000)∧(S6 op=true→(shp op).word≠ [])∧(S6 op=false→(shp op).word= []):=by
 cases h:S6 op with
 |false=>rw [shp,if_neg (by rw [h];simp)];simp
 |true=>
  rcases A4D h with rfl|rfl|rfl|rfl|rfl|rfl|rfl|rfl|rfl|rfl|rfl|rfl|rfl|rfl|rfl|rfl|rfl|rfl|rfl|rfl|rfl|rfl|rfl|rfl|rfl|rfl|rfl|rfl|rfl<;>simp<;>decide
theorem B9b{h:Bool}{l m x:Int}(h1:M6 h x=true)(h2:M7 h l m x=true)(hl: -1≤l)(hm:m≤40000): -1≤x∧x≤40000:=by
 cases h<;>simp [M6,M7]at h1 h2<;>omega
theorem B5C(i:Ins):Pure Tryz.prog 70 [i.v] (.int .i64 (C1b i)):=by
 refine Pure.of 0 (A2.enter n9 (Nat.le_of_ble_eq_true rfl) ?_)
 refine Run.go 100 ?_
 simp -implicitDefEqProofs only [go_sem,A4]
 refine A2.pureF (C0u i.op) (by simp -implicitDefEqProofs only [go_sem]) ?_
 simp -implicitDefEqProofs only [go_sem]
 refine A2.pureF (B5K i) (by simp -implicitDefEqProofs only [go_sem]) ?_
 simp -implicitDefEqProofs only [go_sem]
 obtain⟨wa,wb,wc,w1,w0⟩:=C7K i.op
 refine⟨fun h=> ?_,fun h=> ?_⟩
 ·cases hi:S6 i.op with
  |true=>exact absurd h (w1 hi)
  |false=>unfold C1b;rw [if_pos hi]
 have hi:S6 i.op=true:=by
  cases hi:S6 i.op with
  |true=>rfl
  |false=>exact absurd (w0 hi) h
 rw [C3b hi]
 clear h w1 w0
 generalize shp i.op=s at wa wb wc⊢
 refine Run.rounds (fun(j:Nat)=>⟨[(5,.int .i64 j),(4,.ptr (70*10000+4) 2 0 0),(3,.ptr (70*10000+3) 1 0 0),(1,.ptr (70*10000+1) 0 0 0)],[((70*10000+4),2,.rows 4 [[.int .i64 i.a,.int .i64 i.b,.int .i64 i.c,.int .i64 i.d]]),((70*10000+3),1,.rows 13 [s.row]),((70*10000+1),0,.rows 5 [i.row])],3⟩)
  (fun j=>j≤4∧n4 j (M6 s.ha i.a) (M6 s.hb i.b) (M6 s.hc i.c) (M6 s.hd i.d)) (fun j=>4-j) 0 (by simp -implicitDefEqProofs only [go_sem]) ⟨by omega,by simp [n4]⟩ ?_
 rintro j ⟨hj,h1⟩ ih
 have hcase:j=0∨j=1∨j=2∨j=3∨j=4:=by omega
 rcases hcase with rfl|rfl|rfl|rfl|rfl
 rotate_left 4
 ·clear ih
  obtain⟨q1,q2,q3,q4⟩:=h1
  have g1:=q1 (by omega)
  have g2:=q2 (by omega)
  have g3:=q3 (by omega)
  have g4:=q4 (by omega)
  clear q1 q2 q3 q4
  refine Run.unf E0 (Run.go 100 ?_)
  simp -implicitDefEqProofs only [go_sem]
  refine Run.rounds (fun(j:Nat)=>⟨[(6,.int .i64 j),(4,.ptr (70*10000+4) 2 0 0),(3,.ptr (70*10000+3) 1 0 0),(1,.ptr (70*10000+1) 0 0 0)],[((70*10000+4),2,.rows 4 [[.int .i64 i.a,.int .i64 i.b,.int .i64 i.c,.int .i64 i.d]]),((70*10000+3),1,.rows 13 [s.row]),((70*10000+1),0,.rows 5 [i.row])],3⟩)
   (fun j=>j≤4∧n4 j (M7 s.ha s.la s.ma i.a) (M7 s.hb s.lb s.mb i.b) (M7 s.hc s.lc s.mc i.c) (M7 s.hd s.ld s.md i.d)) (fun j=>4-j) 0 (by simp -implicitDefEqProofs only [go_sem]) ⟨by omega,by simp [n4]⟩ ?_
  rintro j ⟨hj,h1⟩ ih
  have hcase:j=0∨j=1∨j=2∨j=3∨j=4:=by omega
  rcases hcase with rfl|rfl|rfl|rfl|rfl
  rotate_left 4
  ·clear ih
   obtain⟨q1,q2,q3,q4⟩:=h1
   have r1:=q1 (by omega)
   have r2:=q2 (by omega)
   have r3:=q3 (by omega)
   have r4:=q4 (by omega)
   clear q1 q2 q3 q4
   have ra:=B9b g1 r1 wa.1 wa.2
   have rb:=B9b g2 r2 wb.1 wb.2
   have rc:=B9b g3 r3 wc.1 wc.2
   have hc:A0r s i=if i.op=3∧i.b<i.a∨B1c i>4095 then 6 else 0:=by
    unfold A0r;rw [g1,g2,g3,g4,r1,r2,r3,r4];simp
   rw [hc]
   refine Run.unf E1 (Run.go 100 ?_)
   simp -implicitDefEqProofs only [go_sem]
   repeat' (first|refine And.intro ?_ ?_|refine fun h=> ?_)
   all_goals first
    |(simp [*];done)
    | (refine A2.pureF (B8H i ra rb rc) (by simp -implicitDefEqProofs only [go_sem]) ?_
       simp -implicitDefEqProofs only [go_sem]
       repeat' (first|refine And.intro ?_ ?_|refine fun h=> ?_)
       all_goals (simp [*];try omega))
  ·obtain⟨q1,q2,q3,q4⟩:=h1
   refine Run.unf E1 (Run.go 100 ?_)
   simp -implicitDefEqProofs only [go_sem]
   have no:M7 s.ha s.la s.ma i.a=false→6=A0r s i:=fun hn=>by unfold A0r;rw [g1,g2,g3,g4,hn];simp
   cases hh:s.ha<;>rw [hh]at no<;>simp -implicitDefEqProofs only [go_sem,hh]
   ·exact ih _ 1 ⟨by omega,fun _=>by rw [hh];rfl,by omega,by omega,by omega⟩ (by omega) (by simp -implicitDefEqProofs only [go_sem,hh])
   ·repeat' (first|refine And.intro ?_ ?_|refine fun h=> ?_)
    all_goals first
     |exact no (by simp [M7];omega)
     |exact ih _ 1 ⟨by omega,fun _=>by rw [hh];simp [M7];omega,by omega,by omega,by omega⟩ (by omega) (by simp -implicitDefEqProofs only [go_sem,hh])
  ·obtain⟨q1,q2,q3,q4⟩:=h1
   have r1:=q1 (by omega)
   refine Run.unf E1 (Run.go 100 ?_)
   simp -implicitDefEqProofs only [go_sem]
   have no:M7 s.hb s.lb s.mb i.b=false→6=A0r s i:=fun hn=>by unfold A0r;rw [g1,g2,g3,g4,r1,hn];simp
   cases hh:s.hb<;>rw [hh]at no<;>simp -implicitDefEqProofs only [go_sem,hh]
   ·exact ih _ 2 ⟨by omega,fun _=>q1 (by omega),fun _=>by rw [hh];rfl,by omega,by omega⟩ (by omega) (by simp -implicitDefEqProofs only [go_sem,hh])
   ·repeat' (first|refine And.intro ?_ ?_|refine fun h=> ?_)
    all_goals first
     |exact no (by simp [M7];omega)
     |exact ih _ 2 ⟨by omega,fun _=>q1 (by omega),fun _=>by rw [hh];simp [M7];omega,by omega,by omega⟩ (by omega) (by simp -implicitDefEqProofs only [go_sem,hh])
  ·obtain⟨q1,q2,q3,q4⟩:=h1
   have r1:=q1 (by omega)
   have r2:=q2 (by omega)
   refine Run.unf E1 (Run.go 100 ?_)
   simp -implicitDefEqProofs only [go_sem]
   have no:M7 s.hc s.lc s.mc i.c=false→6=A0r s i:=fun hn=>by unfold A0r;rw [g1,g2,g3,g4,r1,r2,hn];simp
   cases hh:s.hc<;>rw [hh]at no<;>simp -implicitDefEqProofs only [go_sem,hh]
   ·exact ih _ 3 ⟨by omega,fun _=>q1 (by omega),fun _=>q2 (by omega),fun _=>by rw [hh];rfl,by omega⟩ (by omega) (by simp -implicitDefEqProofs only [go_sem,hh])
   ·repeat' (first|refine And.intro ?_ ?_|refine fun h=> ?_)
    all_goals first
     |exact no (by simp [M7];omega)
     |exact ih _ 3 ⟨by omega,fun _=>q1 (by omega),fun _=>q2 (by omega),fun _=>by rw [hh];simp [M7];omega,by omega⟩ (by omega) (by simp -implicitDefEqProofs only [go_sem,hh])
  ·obtain⟨q1,q2,q3,q4⟩:=h1
   have r1:=q1 (by omega)
   have r2:=q2 (by omega)
   have r3:=q3 (by omega)
   refine Run.unf E1 (Run.go 100 ?_)
   simp -implicitDefEqProofs only [go_sem]
   have no:M7 s.hd s.ld s.md i.d=false→6=A0r s i:=fun hn=>by unfold A0r;rw [g1,g2,g3,g4,r1,r2,r3,hn];simp
   cases hh:s.hd<;>rw [hh]at no<;>simp -implicitDefEqProofs only [go_sem,hh]
   ·exact ih _ 4 ⟨by omega,fun _=>q1 (by omega),fun _=>q2 (by omega),fun _=>q3 (by omega),fun _=>by rw [hh];rfl⟩ (by omega) (by simp -implicitDefEqProofs only [go_sem,hh])
   ·repeat' (first|refine And.intro ?_ ?_|refine fun h=> ?_)
    all_goals first
     |exact no (by simp [M7];omega)
     |exact ih _ 4 ⟨by omega,fun _=>q1 (by omega),fun _=>q2 (by omega),fun _=>q3 (by omega),fun _=>by rw [hh];simp [M7];omega⟩ (by omega) (by simp -implicitDefEqProofs only [go_sem,hh])
 ·obtain⟨q1,q2,q3,q4⟩:=h1
  refine Run.unf E0 (Run.go 100 ?_)
  simp -implicitDefEqProofs only [go_sem]
  have no:M6 s.ha i.a=false→4=A0r s i:=fun hn=>by unfold A0r;rw [hn];simp
  cases hh:s.ha<;>rw [hh]at no<;>simp -implicitDefEqProofs only [go_sem,hh]
  ·repeat' (first|refine And.intro ?_ ?_|refine fun h=> ?_)
   all_goals first
    |exact no (by simp [M6];omega)
    |exact ih _ 1 ⟨by omega,fun _=>by rw [hh];simp [M6];omega,by omega,by omega,by omega⟩ (by omega) (by simp -implicitDefEqProofs only [go_sem,hh])
  ·exact ih _ 1 ⟨by omega,fun _=>by rw [hh];rfl,by omega,by omega,by omega⟩ (by omega) (by simp -implicitDefEqProofs only [go_sem,hh])
 ·obtain⟨q1,q2,q3,q4⟩:=h1
  have r1:=q1 (by omega)
  refine Run.unf E0 (Run.go 100 ?_)
  simp -implicitDefEqProofs only [go_sem]
  have no:M6 s.hb i.b=false→4=A0r s i:=fun hn=>by unfold A0r;rw [r1,hn];simp
  cases hh:s.hb<;>rw [hh]at no<;>simp -implicitDefEqProofs only [go_sem,hh]
  ·repeat' (first|refine And.intro ?_ ?_|refine fun h=> ?_)
   all_goals first
    |exact no (by simp [M6];omega)
    |exact ih _ 2 ⟨by omega,fun _=>q1 (by omega),fun _=>by rw [hh];simp [M6];omega,by omega,by omega⟩ (by omega) (by simp -implicitDefEqProofs only [go_sem,hh])
  ·exact ih _ 2 ⟨by omega,fun _=>q1 (by omega),fun _=>by rw [hh];rfl,by omega,by omega⟩ (by omega) (by simp -implicitDefEqProofs only [go_sem,hh])
 ·obtain⟨q1,q2,q3,q4⟩:=h1
  have r1:=q1 (by omega)
  have r2:=q2 (by omega)
  refine Run.unf E0 (Run.go 100 ?_)
  simp -implicitDefEqProofs only [go_sem]
  have no:M6 s.hc i.c=false→4=A0r s i:=fun hn=>by unfold A0r;rw [r1,r2,hn];simp
  cases hh:s.hc<;>rw [hh]at no<;>simp -implicitDefEqProofs only [go_sem,hh]
  ·repeat' (first|refine And.intro ?_ ?_|refine fun h=> ?_)
   all_goals first
    |exact no (by simp [M6];omega)
    |exact ih _ 3 ⟨by omega,fun _=>q1 (by omega),fun _=>q2 (by omega),fun _=>by rw [hh];simp [M6];omega,by omega⟩ (by omega) (by simp -implicitDefEqProofs only [go_sem,hh])
  ·exact ih _ 3 ⟨by omega,fun _=>q1 (by omega),fun _=>q2 (by omega),fun _=>by rw [hh];rfl,by omega⟩ (by omega) (by simp -implicitDefEqProofs only [go_sem,hh])
 ·obtain⟨q1,q2,q3,q4⟩:=h1
  have r1:=q1 (by omega)
  have r2:=q2 (by omega)
  have r3:=q3 (by omega)
  refine Run.unf E0 (Run.go 100 ?_)
  simp -implicitDefEqProofs only [go_sem]
  have no:M6 s.hd i.d=false→4=A0r s i:=fun hn=>by unfold A0r;rw [r1,r2,r3,hn];simp
  cases hh:s.hd<;>rw [hh]at no<;>simp -implicitDefEqProofs only [go_sem,hh]
  ·repeat' (first|refine And.intro ?_ ?_|refine fun h=> ?_)
   all_goals first
    |exact no (by simp [M6];omega)
    |exact ih _ 4 ⟨by omega,fun _=>q1 (by omega),fun _=>q2 (by omega),fun _=>q3 (by omega),fun _=>by rw [hh];simp [M6];omega⟩ (by omega) (by simp -implicitDefEqProofs only [go_sem,hh])
  ·exact ih _ 4 ⟨by omega,fun _=>q1 (by omega),fun _=>q2 (by omega),fun _=>q3 (by omega),fun _=>by rw [hh];rfl⟩ (by omega) (by simp -implicitDefEqProofs only [go_sem,hh])
theorem A7P(i:Ins):Pure Tryz.prog 70 [i.v] (.int .i64 (chk i)):=C4F i ▸ B5C i
end Go.Proofs.YtnihmhbcjpcobaaGreatDoor
