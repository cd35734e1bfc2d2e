/-
 The forms of the operations. No condition.
-/
import Derived.Test.YtcaaenddpjepiaaGreatDoorCode
import Derived.Test.YtcaaenddpjepiaaGreatDoorFnCk
set_option linter.unusedVariables false
set_option linter.unusedSimpArgs false
set_option maxRecDepth 100000
set_option maxHeartbeats 0
namespace Go.Proofs.YtcaaenddpjepiaaGreatDoor
section
open Go.Abs
attribute [local irreducible] A0 Run
-- EV: Ins.v, Ins.row, Frm.v, Frm.row
attribute [local go_sem] Ins.v Ins.row Frm.v Frm.row
def C4E:List UInt8:= [109,111,118,101,32,99,111,110,115,116,32,110,105,108,32,98,111,111,108,32,117,112,103,101,116,32,117,112,115,101,116,32,103,108,111,98,97,108,32,115,101,116,103,108,111,98,32,103,101,116,32,115,101,116,32,115,101,108,102,32,117,110,97,114,121,32,98,105,110,97,114,121,32,106,117,109,112,32,116,101,115,116,32,99,97,108,108,32,116,97,105,108,32,114,101,116,117,114,110,32,118,97,114,97,114,103,32,116,97,98,108,101,32,97,112,112,101,110,100,32,99,108,111,115,117,114,101,32,112,114,101,112,32,108,111,111,112,32,105,116,101,114,32,110,101,120,116,32,99,108,111,115,101,32,109,97,114,107,32,115,116,97,116]
def C0x:V:= .isl (D0j.map fun w=> [.str w])
theorem B4s:Pure Tryz.prog 169 [.str C4E] C0x:=
 Pure.execB (m:=50000) (d:=3) (fr:=2) A2x B2G zj
def C8S:Q9:=fun f xs h n=>bif Nat.beq f 169 then(match xs with
 | [.str s]=>bif n6 s C4E then K2 C0x h n else none
 |_=>none)else none
theorem A8n:N9 Tryz.prog C8S:=by
 intro f x h n k a
 unfold C8S at a
 cases hb:Nat.beq f 169 with
 |false=>rw [hb]at a;exact a.no.elim
 | true=>
  rw [hb,cond_true]at a
  obtain rfl:=Nat.eq_of_beq_eq_true hb
  split at a
  ·rename_i s
   cases hs:n6 s C4E with
   |false=>rw [hs]at a;exact a.no.elim
   |true=>
    rw [hs,cond_true]at a
    rw [A5S.1 hs]
    exact A0.pureF B4s rfl a.one
  ·exact Xv
-- EV: Ins.v, Ins.row, Frm.v, Frm.row
def B6h(l:List Int):List V:=l.map fun z=> .int .i64 z
theorem D3P: ∀n:Nat,1≤n→n≤29→Pure Tryz.prog 137 [.int .i64 n] (.tup [(B3E n).v,.bool true]):=by
 have k: ∀n:Nat,n<30→(Nat.blt 0 n=true→eqR (exR Tryz.prog exT C8S 1000 5 1 137 [.int .i64 n]) (.tup [(B3E n).v,.bool true])=true):=by
  have:(List.range 30).all (fun n=> !Nat.blt 0 n||eqR (exR Tryz.prog exT C8S 1000 5 1 137 [.int .i64 n]) (.tup [(B3E n).v,.bool true]))=true:=by kernel_rfl
  exact YD
 intro n a c
 exact Pure.execB (m:=1000) (d:=5) (fr:=1) A2x A8n (k n zd (Nat.ble_eq_true_of_le a))
theorem D6U{o:Int}(h:u6 o=false):Pure Tryz.prog 137 [.int .i64 o] (.tup [(frm o).v,.bool false]):=by
 refine Pure.of 0 (A0.enter B2M Jk ?_)
 refine Run.go 100 ?_
 refine QM ?_
 refine A0.pureF (r:=C0x) B4s rfl ?_
 have a:=of_decide_eq_false h
 have c:frm o=⟨[],0,0,0,0,0⟩:=by rw [frm,if_neg (by rw [h];simp)]
 rw [c]
 have b:(D0j.map fun w=> [V.str w]).length=29:=rfl
 simp -implicitDefEqProofs only [go_sem,C0x,b]
 omega
theorem D1e(o:Int):Pure Tryz.prog 137 [.int .i64 o] (.tup [(frm o).v,.bool (u6 o)]):=by
 cases h:u6 o with
 |false=>exact D6U h
 |true=>
  obtain⟨n,rfl,b,a⟩:=C1k h
  have:=D3P n b a
  rwa [show frm (n:Int)=B3E n by rw [frm,if_pos h];rfl]
theorem B9m: ∀n:Nat,n≤12→Pure Tryz.prog 139 [.int .i64 n] (.tup [.int .i64 (low n),.int .i64 (high n)]):=by
 have this:(List.range 13).all (fun n=>eqR (exR Tryz.prog exT C1H 1000 5 1 139 [.int .i64 n]) (.tup [.int .i64 (low n),.int .i64 (high n)]))=true:=by kernel_rfl
 intro n h
 exact Pure.execB (m:=1000) (d:=5) (fr:=1) A2x B2G (List.all_eq_true.1 this n (List.mem_range.2 zd))
theorem B9w(f:Frm)(i:Ins):Pure Tryz.prog 138 [f.v,i.v] (.tup [.agg (B6h f.ks),.agg (B6h i.fs)]):=by
 refine Pure.of 0 (A0.enter A7f Jk ?_)
 refine Run.go 100 ?_
 simp -implicitDefEqProofs only [go_sem,A4,B6h,Frm.ks,Ins.fs]
theorem A6l(i:Ins):Pure Tryz.prog 24 [i.v] (.tup [.int .i64 (if G9 i.op then i.b else 0),.bool (G9 i.op)]):=by
 have a:G9 i.op=decide (i.op=14∨i.op=15∨i.op=23∨i.op=24∨i.op=26):=rfl
 rw [a]
 refine Pure.of 0 (A0.enter A7d Jk ?_)
 exact JY
end
section
open Go.Abs
attribute [local irreducible] A0 Run
-- EV: Ins.v, Ins.row, Frm.v, Frm.row, intsV, Frm.ks, Ins.fs
attribute [local go_sem] Ins.v Ins.row Frm.v Frm.row B6h Frm.ks Ins.fs
theorem A3L(k:Int)(h:0≤k)(a:k≤12):Pure Tryz.prog 139 [.int .i64 k] (.tup [.int .i64 (low k),.int .i64 (high k)]):=by
 obtain⟨n,rfl⟩:=Int.eq_ofNat_of_zero_le h
 exact B9m n zd
theorem A4Z(i:Ins):Pure Tryz.prog 81 [i.v] (.bool (V9 i.op)):=by
 have a:V9 i.op=decide (i.op≠14∧i.op≠17∧i.op≠18):=rfl
 rw [a]
 refine Pure.of 0 (A0.enter A9o Jk ?_)
 exact JY
theorem C6I(f:Frm)(i:Ins)(a: -1≤i.a∧i.a≤40000)(b: -1≤i.b∧i.b≤40000)(h2: -1≤i.c∧i.c≤40000)(c:0≤f.room∧f.room≤3):
  Pure Tryz.prog 140 [f.v,i.v] (.int .i64 (A9k f i)):=by
 refine Pure.of 0 (A0.enter B0i Jk ?_)
 refine Run.go 100 ?_
 refine QM ?_
 repeat' (first|refine And.intro ?_ ?_|refine fun h=> ?_)
 all_goals first
  |omega
  |(unfold A9k mm2;simp [*];done)
theorem D3n(o:Int):(0≤(frm o).a∧(frm o).a≤12)∧(0≤(frm o).b∧(frm o).b≤12)∧(0≤(frm o).c∧(frm o).c≤12)∧(0≤(frm o).d∧(frm o).d≤12)∧0≤(frm o).room∧(frm o).room≤3:=by
 cases h:u6 o with
 |false=>rw [frm,if_neg (by rw [h];simp)];decide
 |true=>
  rcases A7c h with rfl|rfl|rfl|rfl|rfl|rfl|rfl|rfl|rfl|rfl|rfl|rfl|rfl|rfl|rfl|rfl|rfl|rfl|rfl|rfl|rfl|rfl|rfl|rfl|rfl|rfl|rfl|rfl|rfl<;>decide
theorem C3J: ∀k:Nat,k≤12→ -1≤low k∧high k≤32767:=by
 intro k h
 have: ∀k:Fin 13, -1≤low (k.val:Int)∧high (k.val:Int)≤32767:=by decide
 exact this ⟨k,by omega⟩
theorem B1x{k x:Int}(a:0≤k)(b:k≤12)(h:A4j k x=true): -1≤x∧x≤40000:=by
 obtain⟨n,rfl⟩:=Int.eq_ofNat_of_zero_le a
 have:=C3J n zd
 have:=of_decide_eq_true h
 omega
def A8d(f:Frm)(i:Ins):Int:=
 if (A5a f.a i.a&&A5a f.b i.b&&A5a f.c i.c&&A5a f.d i.d)=false then 4
 else if (A4j f.a i.a&&A4j f.b i.b&&A4j f.c i.c&&A4j f.d i.d)=false then 6
 else if f.a=1∧A9k f i≥4096∨i.op=3∧i.b<i.a then 6
 else 0
theorem D2Y{i:Ins}(h:u6 i.op=true):chk i=A8d (frm i.op) i:=by
 unfold chk;rw [if_neg (by rw [h];simp)];rfl
def n4(j:Nat)(a b c d:Bool):Prop:=(0<j→a=true)∧(1<j→b=true)∧(2<j→c=true)∧(3<j→d=true)
theorem A8c(i:Ins):Pure Tryz.prog 105 [i.v] (.int .i64 (chk i)):=by
 refine Pure.of 0 (A0.enter A9n Jk ?_)
 refine Run.go 100 ?_
 refine QM ?_
 refine A0.pureF (D1e i.op) ze ?_
 refine QL ?_
 refine⟨fun h=> ?_,fun h=> ?_⟩
 ·unfold chk;rw [if_pos zx]
 refine A0.pureF (B9w (frm i.op) i) ze ?_
 refine QL ?_
 rw [D2Y zx]
 obtain⟨x,y,s,z,A⟩:=D3n i.op
 generalize frm i.op=f at x y s z A⊢
 refine Run.rounds (fun(j:Nat)=>⟨[(28,.int .i64 j),(27,.agg [.int .i64 f.a,.int .i64 f.b,.int .i64 f.c,.int .i64 f.d]),(6,.ptr (105*10000+6) 3 0 0),(5,.ptr (105*10000+5) 2 0 0),(3,.ptr (105*10000+3) 1 0 0),(1,.ptr (105*10000+1) 0 0 0)],
  [((105*10000+6),3,.rows 4 [[.int .i64 i.a,.int .i64 i.b,.int .i64 i.c,.int .i64 i.d]]),((105*10000+5),2,.rows 4 [[.int .i64 f.a,.int .i64 f.b,.int .i64 f.c,.int .i64 f.d]]),((105*10000+3),1,.rows 6 [f.row]),((105*10000+1),0,.rows 5 [i.row])],4⟩)
  (fun j=>j≤4∧n4 j (A5a f.a i.a) (A5a f.b i.b) (A5a f.c i.c) (A5a f.d i.d)) (fun j=>4-j) 0 ze ⟨by omega,by simp [n4]⟩ ?_
 rintro j ⟨H,v⟩ g
 have d:j=0∨j=1∨j=2∨j=3∨j=4:=by omega
 rcases d with rfl|rfl|rfl|rfl|rfl
 rotate_left 4
 ·clear g
  obtain⟨q,b,k,m⟩:=v
  have t:=q zd
  have w:=b zd
  have p:=k zd
  have u:=m zd
  clear q b k m
  refine Run.unf A1z (Run.go 100 ?_)
  refine QL ?_
  refine Run.rounds (fun(j:Nat)=>⟨[(42,.int .i64 j),(41,.agg [.int .i64 f.a,.int .i64 f.b,.int .i64 f.c,.int .i64 f.d]),(6,.ptr (105*10000+6) 3 0 0),(3,.ptr (105*10000+3) 1 0 0),(1,.ptr (105*10000+1) 0 0 0)],
   [((105*10000+6),3,.rows 4 [[.int .i64 i.a,.int .i64 i.b,.int .i64 i.c,.int .i64 i.d]]),((105*10000+3),1,.rows 6 [f.row]),((105*10000+1),0,.rows 5 [i.row])],4⟩)
   (fun j=>j≤4∧n4 j (A4j f.a i.a) (A4j f.b i.b) (A4j f.c i.c) (A4j f.d i.d)) (fun j=>4-j) 0 ze ⟨by omega,by simp [n4]⟩ ?_
  rintro j ⟨H,v⟩ g
  have d:j=0∨j=1∨j=2∨j=3∨j=4:=by omega
  rcases d with rfl|rfl|rfl|rfl|rfl
  rotate_left 4
  ·clear g
   obtain⟨q,b,k,m⟩:=v
   have r:=q zd
   have l:=b zd
   have o:=k zd
   have C:=m zd
   clear q b k m
   have B:=B1x x.1 x.2 r
   have D:=B1x y.1 y.2 l
   have G:=B1x s.1 s.2 o
   have F:A8d f i=if f.a=1∧A9k f i≥4096∨i.op=3∧i.b<i.a then 6 else 0:=by
    unfold A8d;rw [t,w,p,u,r,l,o,C];simp
   rw [F]
   refine Run.unf Z5 (Run.go 100 ?_)
   refine QL ?_
   refine⟨fun E=> ?_,fun E=> ?_⟩
   ·refine A0.pureF (C6I f i B D G A) ze ?_
    refine QL ?_
    repeat' (first|refine And.intro ?_ ?_|refine fun h=> ?_)
    all_goals (simp [*];try omega)
   ·repeat' (first|refine And.intro ?_ ?_|refine fun h=> ?_)
    all_goals (simp [*];try omega)
  all_goals (
   refine Run.unf Z5 (Run.go 100 ?_)
   refine QL ?_
   obtain⟨q,b,k,m⟩:=v)
  ·refine A0.pureF (A3L f.a x.1 x.2) ze ?_
   refine QL ?_
   have n: ¬(low f.a≤i.a∧i.a≤high f.a)→6=A8d f i:=fun e=>by unfold A8d;rw [t,w,p,u,show A4j f.a i.a=false from decide_eq_false e];simp
   exact⟨fun c=>⟨fun a=>n zd,fun a=>g _ 1 ⟨by omega,fun _=>decide_eq_true ⟨by omega,by omega⟩,by omega,by omega,by omega⟩ zd ze⟩,fun c=>n zd⟩
  ·have r:=q zd
   refine A0.pureF (A3L f.b y.1 y.2) ze ?_
   refine QL ?_
   have n: ¬(low f.b≤i.b∧i.b≤high f.b)→6=A8d f i:=fun e=>by unfold A8d;rw [t,w,p,u,r,show A4j f.b i.b=false from decide_eq_false e];simp
   exact⟨fun c=>⟨fun a=>n zd,fun a=>g _ 2 ⟨by omega,fun _=>q zd,fun _=>decide_eq_true ⟨by omega,by omega⟩,by omega,by omega⟩ zd ze⟩,fun c=>n zd⟩
  ·have r:=q zd
   have l:=b zd
   refine A0.pureF (A3L f.c s.1 s.2) ze ?_
   refine QL ?_
   have n: ¬(low f.c≤i.c∧i.c≤high f.c)→6=A8d f i:=fun e=>by unfold A8d;rw [t,w,p,u,r,l,show A4j f.c i.c=false from decide_eq_false e];simp
   exact⟨fun c=>⟨fun a=>n zd,fun a=>g _ 3 ⟨by omega,fun _=>q zd,fun _=>b zd,fun _=>decide_eq_true ⟨by omega,by omega⟩,by omega⟩ zd ze⟩,fun c=>n zd⟩
  ·have r:=q zd
   have l:=b zd
   have o:=k zd
   refine A0.pureF (A3L f.d z.1 z.2) ze ?_
   refine QL ?_
   have n: ¬(low f.d≤i.d∧i.d≤high f.d)→6=A8d f i:=fun e=>by unfold A8d;rw [t,w,p,u,r,l,o,show A4j f.d i.d=false from decide_eq_false e];simp
   exact⟨fun c=>⟨fun a=>n zd,fun a=>g _ 4 ⟨by omega,fun _=>q zd,fun _=>b zd,fun _=>k zd,fun _=>decide_eq_true ⟨by omega,by omega⟩⟩ zd ze⟩,fun c=>n zd⟩
 all_goals (
  refine Run.unf A1z (Run.go 100 ?_)
  refine QL ?_
  obtain⟨q,b,k,m⟩:=v)
 ·have n: ¬(f.a=0→i.a=0)→4=A8d f i:=fun e=>by unfold A8d;rw [show A5a f.a i.a=false from decide_eq_false e];simp
  exact⟨fun c=>⟨fun a=>n (fun h=>a (h c)),fun a=>g _ 1 ⟨by omega,fun _=>decide_eq_true fun _=>a,by omega,by omega,by omega⟩ zd ze⟩,
   fun c=>g _ 1 ⟨by omega,fun _=>decide_eq_true fun h=>absurd h c,by omega,by omega,by omega⟩ zd ze⟩
 ·have r:=q zd
  have n: ¬(f.b=0→i.b=0)→4=A8d f i:=fun e=>by unfold A8d;rw [r,show A5a f.b i.b=false from decide_eq_false e];simp
  exact⟨fun c=>⟨fun a=>n (fun h=>a (h c)),fun a=>g _ 2 ⟨by omega,fun _=>q zd,fun _=>decide_eq_true fun _=>a,by omega,by omega⟩ zd ze⟩,
   fun c=>g _ 2 ⟨by omega,fun _=>q zd,fun _=>decide_eq_true fun h=>absurd h c,by omega,by omega⟩ zd ze⟩
 ·have r:=q zd
  have l:=b zd
  have n: ¬(f.c=0→i.c=0)→4=A8d f i:=fun e=>by unfold A8d;rw [r,l,show A5a f.c i.c=false from decide_eq_false e];simp
  exact⟨fun c=>⟨fun a=>n (fun h=>a (h c)),fun a=>g _ 3 ⟨by omega,fun _=>q zd,fun _=>b zd,fun _=>decide_eq_true fun _=>a,by omega⟩ zd ze⟩,
   fun c=>g _ 3 ⟨by omega,fun _=>q zd,fun _=>b zd,fun _=>decide_eq_true fun h=>absurd h c,by omega⟩ zd ze⟩
 ·have r:=q zd
  have l:=b zd
  have o:=k zd
  have n: ¬(f.d=0→i.d=0)→4=A8d f i:=fun e=>by unfold A8d;rw [r,l,o,show A5a f.d i.d=false from decide_eq_false e];simp
  exact⟨fun c=>⟨fun a=>n (fun h=>a (h c)),fun a=>g _ 4 ⟨by omega,fun _=>q zd,fun _=>b zd,fun _=>k zd,fun _=>decide_eq_true fun _=>a⟩ zd ze⟩,
   fun c=>g _ 4 ⟨by omega,fun _=>q zd,fun _=>b zd,fun _=>k zd,fun _=>decide_eq_true fun h=>absurd h c⟩ zd ze⟩
end
end Go.Proofs.YtcaaenddpjepiaaGreatDoor
