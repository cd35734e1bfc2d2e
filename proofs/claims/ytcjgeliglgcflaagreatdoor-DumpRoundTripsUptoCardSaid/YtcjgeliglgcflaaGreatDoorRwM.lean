/-
 The registers read and written. No condition.
-/
import Derived.Test.YtcjgeliglgcflaaGreatDoorOpT
import Derived.Test.YtcjgeliglgcflaaGreatDoorSetM
import Derived.Test.YtcjgeliglgcflaaGreatDoorCode
import Derived.Test.YtcjgeliglgcflaaGreatDoorOpc3
set_option linter.unusedVariables false
set_option linter.unusedSimpArgs false
set_option maxRecDepth 100000
set_option maxHeartbeats 0
namespace Go.Proofs.YtcjgeliglgcflaaGreatDoor
open Go.Abs
attribute [local irreducible] A3 Run
-- EV: Ins.v, Ins.row
attribute [local go_sem] Ins.v Ins.row
def J7(a n:Int):List Int×Int:=if n<0 then([],a)else(A5B a n.toNat, -1)
def rds(i:Ins):List Int×Int:=
 if i.op=1∨i.op=6∨i.op=8∨i.op=11∨i.op=12 then([i.b], -1)
 else if i.op=9∨i.op=13 then(A3h [i.b,i.c], -1)
 else if i.op=10 then(A3h [i.a,i.b,i.c], -1)
 else if i.op=15∨i.op=28 then([i.a], -1)
 else if i.op=16∨i.op=17∨i.op=21 then(i.a::(J7 (i.a+1) i.b).1,(J7 (i.a+1) i.b).2)
 else if i.op=18 then J7 i.a i.b
 else if i.op=23∨i.op=24∨i.op=25 then J7 i.a 3
 else if i.op=26 then([i.a+3], -1)
 else([], -1)
def wrs(i:Ins):List Int×Int:=
 if i.op=1∨i.op=2∨i.op=4∨i.op=5∨i.op=7∨i.op=9∨i.op=12∨i.op=13∨i.op=20∨i.op=22 then([i.a], -1)
 else if i.op=3 then J7 i.a (i.b-i.a+1)
 else if i.op=11 then([i.a,i.a+1], -1)
 else if i.op=16 then J7 i.a i.c
 else if i.op=19 then J7 i.a i.b
 else if i.op=23 then([i.a+3], -1)
 else if i.op=24 then([i.a,i.a+3], -1)
 else if i.op=25 then J7 (i.a+3) i.c
 else if i.op=26 then([i.a+2], -1)
 else([], -1)
def V9(i:Ins):List Int×Int:=if chk i=0 then rds i else([], -1)
def Q0(i:Ins):List Int×Int:=if chk i=0 then wrs i else([], -1)
theorem C0U{i:Ins}(h:chk i=0):
  (i.op=3→0≤i.b-i.a+1)∧(i.op=25→1≤i.c):=by
 unfold chk at h
 cases ho:A1Z i.op with
 |false=>rw [ho]at h;simp at h
 |true=>
  obtain⟨op,a,b,c,d⟩:=i
  simp only at h ho⊢
  refine⟨?_,?_⟩<;>rintro rfl<;>simp [frm,B1M,C1n,A1Z,A3H,A3v,low,high,C1G,B5G,A8N,mm2]at h<;>omega
theorem C0t{a n:Int}(h:n<0):J7 a n=([],a):=if_pos h
theorem C0u{a n:Int}(h: ¬n<0):J7 a n=(A5B a n.toNat, -1):=if_neg h
theorem C0s(a n:Int):(J7 a n).1.length≤n.toNat:=by unfold J7;split<;>simp [B3U]
theorem A9E(a n:Int):Asc (J7 a n).1:=by
 unfold J7;split
 ·exact A6R
 ·exact B3d _ _
theorem A9P{a n x:Int}:x∈(J7 a n).1↔a≤x∧x<a+n:=by
 unfold J7
 split
 ·simp;omega
 ·simp only [B3K];omega
theorem C2X{x y:Int}(h:x<y):Asc [x,y]:=List.pairwise_cons.2 ⟨fun a ha=>by rw [List.mem_singleton.1 ha];exact h,B4d y⟩
theorem C2W(i:Ins):Asc (rds i).1:=by
 unfold rds
 repeat' split
 all_goals first|exact B4d _|exact B3c _|exact A9E _ _|exact A6R|skip
 exact List.pairwise_cons.2 ⟨fun a ha=>by have:=A9P.1 ha;omega,A9E _ _⟩
theorem C2Y(i:Ins):Asc (wrs i).1:=by
 unfold wrs
 repeat' split
 all_goals first|exact B4d _|exact B3c _|exact A9E _ _|exact A6R|exact C2X (by omega)
theorem B9b(i:Ins):Asc (V9 i).1:=by unfold V9;split;exact C2W i;exact A6R
theorem B6W(i:Ins):Asc (Q0 i).1:=by unfold Q0;split;exact C2Y i;exact A6R
theorem B3V(a n:Int):(J7 a n).2=if n<0 then a else -1:=by unfold J7;split<;>rfl
theorem B6m(i:Ins):(∀x∈(V9 i).1,0≤x∧x<4096)∧ -1≤(V9 i).2∧(V9 i).2≤4096∧((V9 i).2= -1∨i.b= -1):=by
 unfold V9
 by_cases h:chk i=0
 rotate_left
 ·rw [if_neg h];simp
 rw [if_pos h]
 have h0:=B1x h
 unfold chk at h
 cases ho:A1Z i.op with
 |false=>rw [ho]at h;simp at h
 | true=>
  obtain⟨op,a,b,c,d⟩:=i
  simp only at h ho h0⊢
  rcases A8T ho with rfl|rfl|rfl|rfl|rfl|rfl|rfl|rfl|rfl|rfl|rfl|rfl|rfl|rfl|rfl|rfl|rfl|rfl|rfl|rfl|rfl|rfl|rfl|rfl|rfl|rfl|rfl|rfl|rfl<;>
  (simp [frm,B1M,C1n,A1Z,A3H,A3v,low,high,C1G,B5G,A8N,mm2]at h
   refine⟨fun x hx=> ?_,?_,?_,?_⟩
   ·simp [rds,A7v,A9P]at hx<;>omega
   all_goals (simp [rds,B3V]<;>omega))
theorem B3Z(i:Ins):(∀x∈(Q0 i).1,0≤x∧x<4096)∧ -1≤(Q0 i).2∧(Q0 i).2≤4096∧((Q0 i).2= -1∨i.b= -1∨i.c= -1):=by
 unfold Q0
 by_cases h:chk i=0
 rotate_left
 ·rw [if_neg h];simp
 rw [if_pos h]
 have h0:=B1x h
 unfold chk at h
 cases ho:A1Z i.op with
 |false=>rw [ho]at h;simp at h
 | true=>
  obtain⟨op,a,b,c,d⟩:=i
  simp only at h ho h0⊢
  rcases A8T ho with rfl|rfl|rfl|rfl|rfl|rfl|rfl|rfl|rfl|rfl|rfl|rfl|rfl|rfl|rfl|rfl|rfl|rfl|rfl|rfl|rfl|rfl|rfl|rfl|rfl|rfl|rfl|rfl|rfl<;>
  (simp [frm,B1M,C1n,A1Z,A3H,A3v,low,high,C1G,B5G,A8N,mm2]at h
   refine⟨fun x hx=> ?_,?_,?_,?_⟩
   ·simp [wrs,A7v,A9P]at hx<;>omega
   all_goals (simp [wrs,B3V]<;>omega))
-- EV: Ins.v, Ins.row
theorem A0u(a n:Int)(ha: -100000≤a∧a≤100000)(hn:n≤100000):Pure Tryz.prog 105 [.int .i64 a,.int .i64 n] (.tup [.isl ((J7 a n).1.map zrw),.int .i64 (J7 a n).2]):=by
 refine Pure.of 1 (A3.enter A6q (Nat.le_of_ble_eq_true rfl) ?_)
 refine Run.go 100 ?_
 by_cases h:n<0
 ·rw [C0t h]
  simp -implicitDefEqProofs only [go_sem,A8,h,List.map_nil]
 ·rw [C0u h]
  simp -implicitDefEqProofs only [go_sem,A8,h]
  refine Run.roundsK (fun(x:Nat×Nat×Nat)=>⟨[(12,.int .i64 x.1),(11,.int .i64 n),(6,.sl (105*10000+20) x.2.1 0 (A5B a x.1).length),(0,.int .i64 a)],[((105*10000+20),x.2.1,.rows 1 ((A5B a x.1).map zrw))],x.2.2⟩)
   (fun x=>x.1≤n.toNat) (fun x=>n.toNat-x.1) (0,0,1) ?_ (by simp only;omega) ?_
  ·refine .trans (.fresh (105*10000+20) 1 _ _ _) (.turn id ?_ (.at 0 rfl rfl (.refl _) trivial))
   exact⟨.refl _,.refl _,.nils,.refl _,trivial⟩
  rintro⟨k,st,m⟩ hk ih
  simp only at hk⊢
  have hz:((k+1:Nat):Int)=(k:Int)+1:=by omega
  have hl:=B3U a k
  refine Run.unf A8X (Run.go 100 ?_)
  by_cases c:(k:Int)<n
  ·simp -implicitDefEqProofs only [go_sem,c]
   refine⟨by omega,by omega,by omega,?_⟩
   refine ih _ (k+1,m,m+1) (by simp only;omega) (by simp only;omega) (O8.wk ?_)
   simp only [hz,B2z,List.map_append,List.length_append,List.map_cons,List.map_nil,List.length_cons,List.length_nil,zrw]
   simp -implicitDefEqProofs only [go_sem]
  ·have e:k=n.toNat:=by omega
   subst e
   simp -implicitDefEqProofs only [go_sem,c]
   exact B0K _ _ _
theorem B4c: ∀{l:List Int} {a b:Int},Asc l→(∀x∈l,a≤x)→(∀x∈l,x<b)→(l.length:Int)≤max (b-a) 0
 | [],a,b,_,_,_=>by simp;omega
 |x::l,a,b,h,h1,h2=>by
  obtain⟨h3,h4⟩:=List.pairwise_cons.1 h
  have:=B4c (a:=x+1) (b:=b) h4 (fun y hy=>by have:=h3 y hy;omega) (fun y hy=>h2 y (List.mem_cons_of_mem _ hy))
  have hx:=h1 x List.mem_cons_self
  have hx2:=h2 x List.mem_cons_self
  simp only [List.length_cons]
  omega
theorem B3N(zs:List Int)(m:Nat):(((A3h zs++List.replicate m 0).map zrw).take (A3h zs).length)=(A3h zs).map zrw:=B4m (A7K zs) m
theorem C3P(l:List Int):C4 (l.map zrw) 1=True:=eq_true fun r hr=>by obtain⟨y,_,rfl⟩:=List.mem_map.1 hr;rfl
theorem C2w(l:List Int):(l.map zrw).map (fun r=>r.map (V.sub G6))=l.map zrw:=B0K 0 [] l
theorem B6E(zs:List Int){m:Nat}(hl:zs.length=m)(hm:0<m)(hB:m≤100000)(b st n:Nat):
  A3 Tryz.prog 104 [.sl b st 0 m] [(b,st,.rows 1 (zs.map zrw))] n (fun r h' _=>r= .sl b st 0 (A3h zs).length∧h'= [(b,st,.rows 1 ((A3h zs++List.replicate (m-(A3h zs).length) 0).map zrw))]):=by
 refine A3.enter A3W (Nat.le_of_ble_eq_true rfl) ?_
 refine Run.go 100 ?_
 simp -implicitDefEqProofs only [go_sem,A8]
 refine A3.at [0] [] (C7g zs hl hm hB _ _ _) rfl rfl ?_
 rintro r h' n' hn ⟨rfl,rfl⟩
 simp -implicitDefEqProofs only [go_sem]
 refine A3.at [0] [] (B9q (A7K zs) (m:=m) (by simp [A7K,hl]) hm hB _ _ _) rfl rfl ?_
 rintro r h' n' hn ⟨rfl,rfl⟩
 simp -implicitDefEqProofs only [go_sem,A3h]
-- EV: Ins.v, Ins.row
theorem B7H(i:Ins):Pure Tryz.prog 75 [i.v] (.tup [.isl ((V9 i).1.map zrw),.int .i64 (V9 i).2]):=by
 refine Pure.of 1 (A3.enter A5c (Nat.le_of_ble_eq_true rfl) ?_)
 refine Run.go 100 ?_
 simp -implicitDefEqProofs only [go_sem,A8]
 refine A3.pureF (A7U i) (by simp -implicitDefEqProofs only [go_sem]) ?_
 by_cases hc:chk i=0
 rotate_left
 ·rw [show V9 i=([], -1) from if_neg hc]
  simp -implicitDefEqProofs only [go_sem,hc,List.map_nil]
 ·rw [show V9 i=rds i from if_pos hc,hc]
  have h0:=B1x hc
  simp -implicitDefEqProofs only [go_sem]
  repeat' (first|refine And.intro ?_ ?_|refine fun h=> ?_)
  all_goals first
   |omega
   |(simp [rds,zrw, *];done)
   | (rw [show rds i=(A3h [i.b,i.c], -1) by simp [rds, *]]
      refine A3.at [0] [] (B6E [i.b,i.c] (m:=2) rfl (by omega) (by omega) _ _ _) rfl rfl ?_
      rintro r h' n' hn ⟨rfl,rfl⟩
      simp -implicitDefEqProofs only [go_sem,B3N,B0K,Nat.le_add_right]
      done)
   | (rw [show rds i=(A3h [i.a,i.b,i.c], -1) by simp [rds, *]]
      refine A3.at [0] [] (B6E [i.a,i.b,i.c] (m:=3) rfl (by omega) (by omega) _ _ _) rfl rfl ?_
      rintro r h' n' hn ⟨rfl,rfl⟩
      simp -implicitDefEqProofs only [go_sem,B3N,B0K,Nat.le_add_right]
      done)
   | (rw [show rds i=(i.a::(J7 (i.a+1) i.b).1,(J7 (i.a+1) i.b).2) by simp [rds, *]]
      have hle:(J7 (i.a+1) i.b).1.length≤20000:=by have:=C0s (i.a+1) i.b;omega
      have hsz:=C3P (J7 (i.a+1) i.b).1
      refine A3.pureF (A0u (i.a+1) i.b ⟨by omega,by omega⟩ (by omega)) (by simp -implicitDefEqProofs only [go_sem,C2w]) ?_
      simp -implicitDefEqProofs only [go_sem,B0K,hsz,List.length_map]
      refine⟨by omega,?_⟩
      rw [if_pos (by omega),List.take_of_length_le (by simp;omega)]
      exact congrArg V.isl (B0K 0 _ (i.a::(J7 (i.a+1) i.b).1)))
   | (rw [show rds i=J7 (i.a) i.b by simp [rds, *]]
      refine A3.pureF (A0u (i.a) i.b ⟨by omega,by omega⟩ (by omega)) (by simp -implicitDefEqProofs only [go_sem]) ?_
      simp -implicitDefEqProofs only [go_sem,B0K]
      done)
   | (rw [show rds i=J7 (i.a) 3 by simp [rds, *]]
      refine A3.pureF (A0u (i.a) 3 ⟨by omega,by omega⟩ (by omega)) (by simp -implicitDefEqProofs only [go_sem]) ?_
      simp -implicitDefEqProofs only [go_sem,B0K]
      done)
theorem B6R(i:Ins):Pure Tryz.prog 76 [i.v] (.tup [.isl ((Q0 i).1.map zrw),.int .i64 (Q0 i).2]):=by
 refine Pure.of 1 (A3.enter A3T (Nat.le_of_ble_eq_true rfl) ?_)
 refine Run.go 100 ?_
 simp -implicitDefEqProofs only [go_sem,A8]
 refine A3.pureF (A7U i) (by simp -implicitDefEqProofs only [go_sem]) ?_
 by_cases hc:chk i=0
 rotate_left
 ·rw [show Q0 i=([], -1) from if_neg hc]
  simp -implicitDefEqProofs only [go_sem,hc,List.map_nil]
 ·rw [show Q0 i=wrs i from if_pos hc,hc]
  have h0:=B1x hc
  have h1:=C0U hc
  simp -implicitDefEqProofs only [go_sem]
  repeat' (first|refine And.intro ?_ ?_|refine fun h=> ?_)
  all_goals first
   |omega
   |(simp [wrs,zrw, *];done)
   | (rw [show wrs i=J7 (i.a) (i.b-i.a+1) by simp [wrs, *]]
      refine A3.pureF (A0u (i.a) (i.b-i.a+1) ⟨by omega,by omega⟩ (by omega)) (by simp -implicitDefEqProofs only [go_sem]) ?_
      simp -implicitDefEqProofs only [go_sem,B0K]
      done)
   | (rw [show wrs i=J7 (i.a) (i.c) by simp [wrs, *]]
      refine A3.pureF (A0u (i.a) (i.c) ⟨by omega,by omega⟩ (by omega)) (by simp -implicitDefEqProofs only [go_sem]) ?_
      simp -implicitDefEqProofs only [go_sem,B0K]
      done)
   | (rw [show wrs i=J7 (i.a) (i.b) by simp [wrs, *]]
      refine A3.pureF (A0u (i.a) (i.b) ⟨by omega,by omega⟩ (by omega)) (by simp -implicitDefEqProofs only [go_sem]) ?_
      simp -implicitDefEqProofs only [go_sem,B0K]
      done)
   | (rw [show wrs i=J7 (i.a+3) (i.c) by simp [wrs, *]]
      refine A3.pureF (A0u (i.a+3) (i.c) ⟨by omega,by omega⟩ (by omega)) (by simp -implicitDefEqProofs only [go_sem]) ?_
      simp -implicitDefEqProofs only [go_sem,B0K]
      done)
end Go.Proofs.YtcjgeliglgcflaaGreatDoor
