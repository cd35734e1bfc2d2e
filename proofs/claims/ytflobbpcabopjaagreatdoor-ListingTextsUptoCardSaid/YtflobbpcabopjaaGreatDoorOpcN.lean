/-
 opcode.Check, as the reference has it. No condition.
-/
import Derived.Test.YtflobbpcabopjaaGreatDoorCodeR
import Derived.Test.YtflobbpcabopjaaGreatDoorOpc3
set_option linter.unusedVariables false
set_option linter.unusedSimpArgs false
set_option maxRecDepth 100000
set_option maxHeartbeats 0
namespace Go.Proofs.YtflobbpcabopjaaGreatDoor
open Go.Abs
attribute [local irreducible] A0 Run
-- EV: Ins.v, Ins.row, Shp.v, Shp.row, intsV, Ins.fs
attribute [local go_sem] Ins.v Ins.row Shp.v Shp.row A8G Ins.fs
-- EV: Ins.v, Ins.row, Shp.v, Shp.row, intsV, Ins.fs
def C9J:List (FuncId×Nat×AC×List RV):= [(142,65,A0A,[.c 2 13 true]),(179,17,A1O,[.c 8 13 true]),(180,23,A1f,[.c 8 13 true]),(181,70,w7,[.c 2 13 true]),(207,10,A2P,[.c 4 13 true]),(208,5,A0B,[.c 2 13 true]),(206,49,A1g,[.t 4])]
theorem C6M:A8 Tryz.prog C9J:=(A8.cons w6 (A8.cons A9G (A8.cons A8e (A8.cons Z8 (A8.cons B0o (A8.cons w8 (A8.cons A0D A8.nil)))))))
theorem C4K: ∀n:Nat,1≤n→n≤29→Pure Tryz.prog 142 [.int .i64 n] (C3R n).v:=by
 have key: ∀n:Nat,n<30→(Nat.blt 0 n=true→eqR (exR Tryz.prog C9J C1Z 1000 5 1 142 [.int .i64 n]) (C3R n).v=true):=by
  have:(List.range 30).all (fun n=> !Nat.blt 0 n||eqR (exR Tryz.prog C9J C1Z 1000 5 1 142 [.int .i64 n]) (C3R n).v)=true:=by kernel_rfl
  intro n hn h0
  have:=List.all_eq_true.1 this n (List.mem_range.2 hn)
  rw [h0]at this
  simpa using this
 intro n h1 h2
 exact Pure.execB (m:=1000) (d:=5) (fr:=1) C6M B5E (key n (by omega) (Nat.ble_eq_true_of_le h1))
theorem C3o(w:List UInt8):Pure Tryz.prog 208 [.str w] (Shp.v ⟨w,false,false,false,false,0,0,0,0,0,0,0,0⟩):=by
 refine Pure.of 0 (A0.enter w8 (Nat.le_of_ble_eq_true rfl) ?_)
 refine Run.go 100 ?_
 simp -implicitDefEqProofs only [go_sem,A3]
theorem C5i{op:Int}(h: ¬(1≤op∧op≤29)):Pure Tryz.prog 181 [.int .i64 op] (shp op).v:=by
 have hs:shp op=⟨[],false,false,false,false,0,0,0,0,0,0,0,0⟩:=by rw [shp,if_neg (by simp [L3];omega)]
 rw [hs]
 refine Pure.of 0 (A0.enter Z8 (Nat.le_of_ble_eq_true rfl) ?_)
 have e: ∀k:Int,1≤k→k≤29→ ¬op=k:=fun k h1 h2 hk=>h (hk ▸ ⟨h1,h2⟩)
 refine Run.go 100 ?_
 simp -implicitDefEqProofs only [go_sem,A3,e 14 (by omega) (by omega),e 15 (by omega) (by omega),e 16 (by omega) (by omega),e 17 (by omega) (by omega),e 18 (by omega) (by omega),e 19 (by omega) (by omega),e 20 (by omega) (by omega),e 21 (by omega) (by omega),e 22 (by omega) (by omega),e 23 (by omega) (by omega),e 24 (by omega) (by omega),e 25 (by omega) (by omega),e 26 (by omega) (by omega),e 27 (by omega) (by omega),e 28 (by omega) (by omega),e 29 (by omega) (by omega)]
 refine A0.pureF (C3o []) (by simp -implicitDefEqProofs only [go_sem]) ?_
 simp -implicitDefEqProofs only [go_sem]
theorem C6K{op:Int}(h: ¬(1≤op∧op≤29)):Pure Tryz.prog 142 [.int .i64 op] (shp op).v:=by
 refine Pure.of 0 (A0.enter w6 (Nat.le_of_ble_eq_true rfl) ?_)
 have e: ∀k:Int,1≤k→k≤29→ ¬op=k:=fun k h1 h2 hk=>h (hk ▸ ⟨h1,h2⟩)
 refine Run.go 100 ?_
 simp -implicitDefEqProofs only [go_sem,A3,e 1 (by omega) (by omega),e 2 (by omega) (by omega),e 3 (by omega) (by omega),e 4 (by omega) (by omega),e 5 (by omega) (by omega),e 6 (by omega) (by omega),e 7 (by omega) (by omega),e 8 (by omega) (by omega),e 9 (by omega) (by omega),e 10 (by omega) (by omega),e 11 (by omega) (by omega),e 12 (by omega) (by omega),e 13 (by omega) (by omega)]
 refine A0.pureF (C5i h) (by simp -implicitDefEqProofs only [go_sem]) ?_
 simp -implicitDefEqProofs only [go_sem]
theorem B6E(op:Int):Pure Tryz.prog 142 [.int .i64 op] (shp op).v:=by
 cases h:L3 op with
 |false=>exact C6K (of_decide_eq_false h)
 |true=>
  obtain⟨n,rfl,h1,h2⟩:=A2p h
  have:=C4K n h1 h2
  rwa [show shp (n:Int)=C3R n by rw [shp,if_pos h];rfl]
theorem B2w(i:Ins):Pure Tryz.prog 143 [i.v] (.agg (A8G i.fs)):=by
 refine Pure.of 0 (A0.enter A4s (Nat.le_of_ble_eq_true rfl) ?_)
 refine Run.go 100 ?_
 simp -implicitDefEqProofs only [go_sem,A3]
theorem B8g(i:Ins):Pure Tryz.prog 138 [i.v] (.tup [.int .i64 (if A6j i.op then i.b else 0),.bool (A6j i.op)]):=by
 have hj:A6j i.op=decide (i.op=14∨i.op=15∨i.op=23∨i.op=24∨i.op=26):=rfl
 rw [hj]
 refine Pure.of 0 (A0.enter A4q (Nat.le_of_ble_eq_true rfl) ?_)
 refine Run.go 100 ?_
 simp -implicitDefEqProofs only [go_sem,A3]
 repeat' (first|refine And.intro ?_ ?_|refine fun h=> ?_)
 all_goals simp_all
theorem C0N(i:Ins)(h0: -1≤i.a∧i.a≤40000)(h1: -1≤i.b∧i.b≤40000)(h2: -1≤i.c∧i.c≤40000):
  Pure Tryz.prog 174 [i.v] (.int .i64 (B3k i)):=by
 refine Pure.of 0 (A0.enter A5H (Nat.le_of_ble_eq_true rfl) ?_)
 refine Run.go 100 ?_
 simp -implicitDefEqProofs only [go_sem,A3]
 repeat' (first|refine And.intro ?_ ?_|refine fun h=> ?_)
 all_goals first
  |(split<;>omega)
  |omega
  |(unfold B3k mx mm2;simp [*];done)
-- EV: Ins.v, Ins.row, Shp.v, Shp.row, intsV, Ins.fs
def p8(s:Shp)(i:Ins):Int:=
 if (M6 s.ha i.a&&M6 s.hb i.b&&M6 s.hc i.c&&M6 s.hd i.d)=false then 4
 else if (M7 s.ha s.la s.ma i.a&&M7 s.hb s.lb s.mb i.b&&M7 s.hc s.lc s.mc i.c&&M7 s.hd s.ld s.md i.d)=false then 6
 else if i.op=3∧i.b<i.a∨B3k i>4095 then 6
 else 0
theorem C5K{i:Ins}(h:L3 i.op=true):C3B i=p8 (shp i.op) i:=by
 unfold C3B;rw [if_neg (by rw [h];simp)];rfl
theorem D0z(op:Int):(-1≤(shp op).la∧(shp op).ma≤40000)∧(-1≤(shp op).lb∧(shp op).mb≤40000)∧(-1≤(shp op).lc∧(shp op).mc≤40000)∧(L3 op=true→(shp op).word≠ [])∧(L3 op=false→(shp op).word= []):=by
 cases h:L3 op with
 |false=>rw [shp,if_neg (by rw [h];simp)];simp
 |true=>
  rcases A4Y h with rfl|rfl|rfl|rfl|rfl|rfl|rfl|rfl|rfl|rfl|rfl|rfl|rfl|rfl|rfl|rfl|rfl|rfl|rfl|rfl|rfl|rfl|rfl|rfl|rfl|rfl|rfl|rfl|rfl<;>simp<;>decide
theorem C1k{h:Bool}{l m x:Int}(h1:M6 h x=true)(h2:M7 h l m x=true)(hl: -1≤l)(hm:m≤40000): -1≤x∧x≤40000:=by
 cases h<;>simp [M6,M7]at h1 h2<;>omega
theorem B7Z(i:Ins):Pure Tryz.prog 134 [i.v] (.int .i64 (C3B i)):=by
 refine Pure.of 0 (A0.enter A5C (Nat.le_of_ble_eq_true rfl) ?_)
 refine Run.go 100 ?_
 simp -implicitDefEqProofs only [go_sem,A3]
 refine A0.pureF (B6E i.op) (by simp -implicitDefEqProofs only [go_sem]) ?_
 simp -implicitDefEqProofs only [go_sem]
 refine A0.pureF (B2w i) (by simp -implicitDefEqProofs only [go_sem]) ?_
 simp -implicitDefEqProofs only [go_sem]
 obtain⟨wa,wb,wc,w1,w0⟩:=D0z i.op
 refine⟨fun h=> ?_,fun h=> ?_⟩
 ·cases hi:L3 i.op with
  |true=>exact absurd h (w1 hi)
  |false=>unfold C3B;rw [if_pos hi]
 have hi:L3 i.op=true:=by
  cases hi:L3 i.op with
  |true=>rfl
  |false=>exact absurd (w0 hi) h
 rw [C5K hi]
 clear h w1 w0
 generalize shp i.op=s at wa wb wc⊢
 refine Run.rounds (fun(j:Nat)=>⟨[(5,.int .i64 j),(4,.ptr (134*10000+4) 2 0 0),(3,.ptr (134*10000+3) 1 0 0),(1,.ptr (134*10000+1) 0 0 0)],[((134*10000+4),2,.rows 4 [[.int .i64 i.a,.int .i64 i.b,.int .i64 i.c,.int .i64 i.d]]),((134*10000+3),1,.rows 13 [s.row]),((134*10000+1),0,.rows 5 [i.row])],3⟩)
  (fun j=>j≤4∧n4 j (M6 s.ha i.a) (M6 s.hb i.b) (M6 s.hc i.c) (M6 s.hd i.d)) (fun j=>4-j) 0 (by simp -implicitDefEqProofs only [go_sem]) ⟨by omega,by simp [n4]⟩ ?_
 rintro j ⟨hj,h1⟩ ih
 have hcase:j=0∨j=1∨j=2∨j=3∨j=4:=by omega
 rcases hcase with rfl|rfl|rfl|rfl|rfl
 rotate_left 4
 ·clear ih
  obtain⟨q1,q2,q3,q4⟩:=h1
  have g1:=q1 (by omega)
  have g2:=q2 (by omega)
  have g3:=q3 (by omega)
  have g4:=q4 (by omega)
  clear q1 q2 q3 q4
  refine Run.unf D7 (Run.go 100 ?_)
  simp -implicitDefEqProofs only [go_sem]
  refine Run.rounds (fun(j:Nat)=>⟨[(6,.int .i64 j),(4,.ptr (134*10000+4) 2 0 0),(3,.ptr (134*10000+3) 1 0 0),(1,.ptr (134*10000+1) 0 0 0)],[((134*10000+4),2,.rows 4 [[.int .i64 i.a,.int .i64 i.b,.int .i64 i.c,.int .i64 i.d]]),((134*10000+3),1,.rows 13 [s.row]),((134*10000+1),0,.rows 5 [i.row])],3⟩)
   (fun j=>j≤4∧n4 j (M7 s.ha s.la s.ma i.a) (M7 s.hb s.lb s.mb i.b) (M7 s.hc s.lc s.mc i.c) (M7 s.hd s.ld s.md i.d)) (fun j=>4-j) 0 (by simp -implicitDefEqProofs only [go_sem]) ⟨by omega,by simp [n4]⟩ ?_
  rintro j ⟨hj,h1⟩ ih
  have hcase:j=0∨j=1∨j=2∨j=3∨j=4:=by omega
  rcases hcase with rfl|rfl|rfl|rfl|rfl
  rotate_left 4
  ·clear ih
   obtain⟨q1,q2,q3,q4⟩:=h1
   have r1:=q1 (by omega)
   have r2:=q2 (by omega)
   have r3:=q3 (by omega)
   have r4:=q4 (by omega)
   clear q1 q2 q3 q4
   have ra:=C1k g1 r1 wa.1 wa.2
   have rb:=C1k g2 r2 wb.1 wb.2
   have rc:=C1k g3 r3 wc.1 wc.2
   have hc:p8 s i=if i.op=3∧i.b<i.a∨B3k i>4095 then 6 else 0:=by
    unfold p8;rw [g1,g2,g3,g4,r1,r2,r3,r4];simp
   rw [hc]
   refine Run.unf D8 (Run.go 100 ?_)
   simp -implicitDefEqProofs only [go_sem]
   repeat' (first|refine And.intro ?_ ?_|refine fun h=> ?_)
   all_goals first
    |(simp [*];done)
    | (refine A0.pureF (C0N i ra rb rc) (by simp -implicitDefEqProofs only [go_sem]) ?_
       simp -implicitDefEqProofs only [go_sem]
       repeat' (first|refine And.intro ?_ ?_|refine fun h=> ?_)
       all_goals (simp [*];try omega))
  ·obtain⟨q1,q2,q3,q4⟩:=h1
   refine Run.unf D8 (Run.go 100 ?_)
   simp -implicitDefEqProofs only [go_sem]
   have no:M7 s.ha s.la s.ma i.a=false→6=p8 s i:=fun hn=>by unfold p8;rw [g1,g2,g3,g4,hn];simp
   cases hh:s.ha<;>rw [hh]at no<;>simp -implicitDefEqProofs only [go_sem,hh]
   ·exact ih _ 1 ⟨by omega,fun _=>by rw [hh];rfl,by omega,by omega,by omega⟩ (by omega) (by simp -implicitDefEqProofs only [go_sem,hh])
   ·repeat' (first|refine And.intro ?_ ?_|refine fun h=> ?_)
    all_goals first
     |exact no (by simp [M7];omega)
     |exact ih _ 1 ⟨by omega,fun _=>by rw [hh];simp [M7];omega,by omega,by omega,by omega⟩ (by omega) (by simp -implicitDefEqProofs only [go_sem,hh])
  ·obtain⟨q1,q2,q3,q4⟩:=h1
   have r1:=q1 (by omega)
   refine Run.unf D8 (Run.go 100 ?_)
   simp -implicitDefEqProofs only [go_sem]
   have no:M7 s.hb s.lb s.mb i.b=false→6=p8 s i:=fun hn=>by unfold p8;rw [g1,g2,g3,g4,r1,hn];simp
   cases hh:s.hb<;>rw [hh]at no<;>simp -implicitDefEqProofs only [go_sem,hh]
   ·exact ih _ 2 ⟨by omega,fun _=>q1 (by omega),fun _=>by rw [hh];rfl,by omega,by omega⟩ (by omega) (by simp -implicitDefEqProofs only [go_sem,hh])
   ·repeat' (first|refine And.intro ?_ ?_|refine fun h=> ?_)
    all_goals first
     |exact no (by simp [M7];omega)
     |exact ih _ 2 ⟨by omega,fun _=>q1 (by omega),fun _=>by rw [hh];simp [M7];omega,by omega,by omega⟩ (by omega) (by simp -implicitDefEqProofs only [go_sem,hh])
  ·obtain⟨q1,q2,q3,q4⟩:=h1
   have r1:=q1 (by omega)
   have r2:=q2 (by omega)
   refine Run.unf D8 (Run.go 100 ?_)
   simp -implicitDefEqProofs only [go_sem]
   have no:M7 s.hc s.lc s.mc i.c=false→6=p8 s i:=fun hn=>by unfold p8;rw [g1,g2,g3,g4,r1,r2,hn];simp
   cases hh:s.hc<;>rw [hh]at no<;>simp -implicitDefEqProofs only [go_sem,hh]
   ·exact ih _ 3 ⟨by omega,fun _=>q1 (by omega),fun _=>q2 (by omega),fun _=>by rw [hh];rfl,by omega⟩ (by omega) (by simp -implicitDefEqProofs only [go_sem,hh])
   ·repeat' (first|refine And.intro ?_ ?_|refine fun h=> ?_)
    all_goals first
     |exact no (by simp [M7];omega)
     |exact ih _ 3 ⟨by omega,fun _=>q1 (by omega),fun _=>q2 (by omega),fun _=>by rw [hh];simp [M7];omega,by omega⟩ (by omega) (by simp -implicitDefEqProofs only [go_sem,hh])
  ·obtain⟨q1,q2,q3,q4⟩:=h1
   have r1:=q1 (by omega)
   have r2:=q2 (by omega)
   have r3:=q3 (by omega)
   refine Run.unf D8 (Run.go 100 ?_)
   simp -implicitDefEqProofs only [go_sem]
   have no:M7 s.hd s.ld s.md i.d=false→6=p8 s i:=fun hn=>by unfold p8;rw [g1,g2,g3,g4,r1,r2,r3,hn];simp
   cases hh:s.hd<;>rw [hh]at no<;>simp -implicitDefEqProofs only [go_sem,hh]
   ·exact ih _ 4 ⟨by omega,fun _=>q1 (by omega),fun _=>q2 (by omega),fun _=>q3 (by omega),fun _=>by rw [hh];rfl⟩ (by omega) (by simp -implicitDefEqProofs only [go_sem,hh])
   ·repeat' (first|refine And.intro ?_ ?_|refine fun h=> ?_)
    all_goals first
     |exact no (by simp [M7];omega)
     |exact ih _ 4 ⟨by omega,fun _=>q1 (by omega),fun _=>q2 (by omega),fun _=>q3 (by omega),fun _=>by rw [hh];simp [M7];omega⟩ (by omega) (by simp -implicitDefEqProofs only [go_sem,hh])
 ·obtain⟨q1,q2,q3,q4⟩:=h1
  refine Run.unf D7 (Run.go 100 ?_)
  simp -implicitDefEqProofs only [go_sem]
  have no:M6 s.ha i.a=false→4=p8 s i:=fun hn=>by unfold p8;rw [hn];simp
  cases hh:s.ha<;>rw [hh]at no<;>simp -implicitDefEqProofs only [go_sem,hh]
  ·repeat' (first|refine And.intro ?_ ?_|refine fun h=> ?_)
   all_goals first
    |exact no (by simp [M6];omega)
    |exact ih _ 1 ⟨by omega,fun _=>by rw [hh];simp [M6];omega,by omega,by omega,by omega⟩ (by omega) (by simp -implicitDefEqProofs only [go_sem,hh])
  ·exact ih _ 1 ⟨by omega,fun _=>by rw [hh];rfl,by omega,by omega,by omega⟩ (by omega) (by simp -implicitDefEqProofs only [go_sem,hh])
 ·obtain⟨q1,q2,q3,q4⟩:=h1
  have r1:=q1 (by omega)
  refine Run.unf D7 (Run.go 100 ?_)
  simp -implicitDefEqProofs only [go_sem]
  have no:M6 s.hb i.b=false→4=p8 s i:=fun hn=>by unfold p8;rw [r1,hn];simp
  cases hh:s.hb<;>rw [hh]at no<;>simp -implicitDefEqProofs only [go_sem,hh]
  ·repeat' (first|refine And.intro ?_ ?_|refine fun h=> ?_)
   all_goals first
    |exact no (by simp [M6];omega)
    |exact ih _ 2 ⟨by omega,fun _=>q1 (by omega),fun _=>by rw [hh];simp [M6];omega,by omega,by omega⟩ (by omega) (by simp -implicitDefEqProofs only [go_sem,hh])
  ·exact ih _ 2 ⟨by omega,fun _=>q1 (by omega),fun _=>by rw [hh];rfl,by omega,by omega⟩ (by omega) (by simp -implicitDefEqProofs only [go_sem,hh])
 ·obtain⟨q1,q2,q3,q4⟩:=h1
  have r1:=q1 (by omega)
  have r2:=q2 (by omega)
  refine Run.unf D7 (Run.go 100 ?_)
  simp -implicitDefEqProofs only [go_sem]
  have no:M6 s.hc i.c=false→4=p8 s i:=fun hn=>by unfold p8;rw [r1,r2,hn];simp
  cases hh:s.hc<;>rw [hh]at no<;>simp -implicitDefEqProofs only [go_sem,hh]
  ·repeat' (first|refine And.intro ?_ ?_|refine fun h=> ?_)
   all_goals first
    |exact no (by simp [M6];omega)
    |exact ih _ 3 ⟨by omega,fun _=>q1 (by omega),fun _=>q2 (by omega),fun _=>by rw [hh];simp [M6];omega,by omega⟩ (by omega) (by simp -implicitDefEqProofs only [go_sem,hh])
  ·exact ih _ 3 ⟨by omega,fun _=>q1 (by omega),fun _=>q2 (by omega),fun _=>by rw [hh];rfl,by omega⟩ (by omega) (by simp -implicitDefEqProofs only [go_sem,hh])
 ·obtain⟨q1,q2,q3,q4⟩:=h1
  have r1:=q1 (by omega)
  have r2:=q2 (by omega)
  have r3:=q3 (by omega)
  refine Run.unf D7 (Run.go 100 ?_)
  simp -implicitDefEqProofs only [go_sem]
  have no:M6 s.hd i.d=false→4=p8 s i:=fun hn=>by unfold p8;rw [r1,r2,r3,hn];simp
  cases hh:s.hd<;>rw [hh]at no<;>simp -implicitDefEqProofs only [go_sem,hh]
  ·repeat' (first|refine And.intro ?_ ?_|refine fun h=> ?_)
   all_goals first
    |exact no (by simp [M6];omega)
    |exact ih _ 4 ⟨by omega,fun _=>q1 (by omega),fun _=>q2 (by omega),fun _=>q3 (by omega),fun _=>by rw [hh];simp [M6];omega⟩ (by omega) (by simp -implicitDefEqProofs only [go_sem,hh])
  ·exact ih _ 4 ⟨by omega,fun _=>q1 (by omega),fun _=>q2 (by omega),fun _=>q3 (by omega),fun _=>by rw [hh];rfl⟩ (by omega) (by simp -implicitDefEqProofs only [go_sem,hh])
theorem A9C(i:Ins):Pure Tryz.prog 134 [i.v] (.int .i64 (chk i)):=C7s i ▸ B7Z i
end Go.Proofs.YtflobbpcabopjaaGreatDoor
