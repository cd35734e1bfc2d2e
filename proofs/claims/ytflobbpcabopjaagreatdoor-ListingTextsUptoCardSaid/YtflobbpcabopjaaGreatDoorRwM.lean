/-
 The registers read and written. No condition.
-/
import Derived.Test.YtflobbpcabopjaaGreatDoorOpT
import Derived.Test.YtflobbpcabopjaaGreatDoorSetM
import Derived.Test.YtflobbpcabopjaaGreatDoorCode
import Derived.Test.YtflobbpcabopjaaGreatDoorOpc3
set_option linter.unusedVariables false
set_option linter.unusedSimpArgs false
set_option maxRecDepth 100000
set_option maxHeartbeats 0
namespace Go.Proofs.YtflobbpcabopjaaGreatDoor
open Go.Abs
attribute [local irreducible] A0 Run
-- EV: Ins.v, Ins.row
attribute [local go_sem] Ins.v Ins.row
def F0(a n:Int):List Int×Int:=if n<0 then([],a)else(D2 a n.toNat, -1)
def rds(i:Ins):List Int×Int:=
 if i.op=1∨i.op=6∨i.op=8∨i.op=11∨i.op=12 then([i.b], -1)
 else if i.op=9∨i.op=13 then(D5 [i.b,i.c], -1)
 else if i.op=10 then(D5 [i.a,i.b,i.c], -1)
 else if i.op=15∨i.op=28 then([i.a], -1)
 else if i.op=16∨i.op=17∨i.op=21 then(i.a::(F0 (i.a+1) i.b).1,(F0 (i.a+1) i.b).2)
 else if i.op=18 then F0 i.a i.b
 else if i.op=23∨i.op=24∨i.op=25 then F0 i.a 3
 else if i.op=26 then([i.a+3], -1)
 else([], -1)
def wrs(i:Ins):List Int×Int:=
 if i.op=1∨i.op=2∨i.op=4∨i.op=5∨i.op=7∨i.op=9∨i.op=12∨i.op=13∨i.op=20∨i.op=22 then([i.a], -1)
 else if i.op=3 then F0 i.a (i.b-i.a+1)
 else if i.op=11 then([i.a,i.a+1], -1)
 else if i.op=16 then F0 i.a i.c
 else if i.op=19 then F0 i.a i.b
 else if i.op=23 then([i.a+3], -1)
 else if i.op=24 then([i.a,i.a+3], -1)
 else if i.op=25 then F0 (i.a+3) i.c
 else if i.op=26 then([i.a+2], -1)
 else([], -1)
def G0(i:Ins):List Int×Int:=if chk i=0 then rds i else([], -1)
def E5(i:Ins):List Int×Int:=if chk i=0 then wrs i else([], -1)
theorem B8E{i:Ins}(h:chk i=0):
  (i.op=3→0≤i.b-i.a+1)∧(i.op=25→1≤i.c):=by
 unfold chk at h
 cases ho:L3 i.op with
 |false=>rw [ho]at h;simp at h
 |true=>
  obtain⟨op,a,b,c,d⟩:=i
  simp only at h ho⊢
  refine⟨?_,?_⟩<;>rintro rfl<;>simp [frm,A8E,C0z,L3,A2l,A2m,low,high,C0R,B5n,A8H,mm2]at h<;>omega
theorem B3H{a n:Int}(h:n<0):F0 a n=([],a):=if_pos h
theorem A5T{a n:Int}(h: ¬n<0):F0 a n=(D2 a n.toNat, -1):=if_neg h
theorem C4h(a n:Int):(F0 a n).1.length≤n.toNat:=by unfold F0;split<;>simp [B0f]
theorem B2S(a n:Int):Asc (F0 a n).1:=by
 unfold F0;split
 ·exact A9Q
 ·exact B2R _ _
theorem B3q{a n x:Int}:x∈(F0 a n).1↔a≤x∧x<a+n:=by
 unfold F0
 split
 ·simp;omega
 ·simp only [B6Y];omega
theorem C6A{x y:Int}(h:x<y):Asc [x,y]:=List.pairwise_cons.2 ⟨fun a ha=>by rw [List.mem_singleton.1 ha];exact h,B7y y⟩
theorem C6z(i:Ins):Asc (rds i).1:=by
 unfold rds
 repeat' split
 all_goals first|exact B7y _|exact A4K _|exact B2S _ _|exact A9Q|skip
 exact List.pairwise_cons.2 ⟨fun a ha=>by have:=B3q.1 ha;omega,B2S _ _⟩
theorem C6B(i:Ins):Asc (wrs i).1:=by
 unfold wrs
 repeat' split
 all_goals first|exact B7y _|exact A4K _|exact B2S _ _|exact A9Q|exact C6A (by omega)
theorem C2x(i:Ins):Asc (G0 i).1:=by unfold G0;split;exact C6z i;exact A9Q
theorem C0j(i:Ins):Asc (E5 i).1:=by unfold E5;split;exact C6B i;exact A9Q
theorem B7m(a n:Int):(F0 a n).2=if n<0 then a else -1:=by unfold F0;split<;>rfl
theorem B9G(i:Ins):(∀x∈(G0 i).1,0≤x∧x<4096)∧ -1≤(G0 i).2∧(G0 i).2≤4096∧((G0 i).2= -1∨i.b= -1):=by
 unfold G0
 by_cases h:chk i=0
 rotate_left
 ·rw [if_neg h];simp
 rw [if_pos h]
 have h0:=B0U h
 unfold chk at h
 cases ho:L3 i.op with
 |false=>rw [ho]at h;simp at h
 | true=>
  obtain⟨op,a,b,c,d⟩:=i
  simp only at h ho h0⊢
  rcases A4Y ho with rfl|rfl|rfl|rfl|rfl|rfl|rfl|rfl|rfl|rfl|rfl|rfl|rfl|rfl|rfl|rfl|rfl|rfl|rfl|rfl|rfl|rfl|rfl|rfl|rfl|rfl|rfl|rfl|rfl<;>
  (simp [frm,A8E,C0z,L3,A2l,A2m,low,high,C0R,B5n,A8H,mm2]at h
   refine⟨fun x hx=> ?_,?_,?_,?_⟩
   ·simp [rds,A0W,B3q]at hx<;>omega
   all_goals (simp [rds,B7m]<;>omega))
theorem B7u(i:Ins):(∀x∈(E5 i).1,0≤x∧x<4096)∧ -1≤(E5 i).2∧(E5 i).2≤4096∧((E5 i).2= -1∨i.b= -1∨i.c= -1):=by
 unfold E5
 by_cases h:chk i=0
 rotate_left
 ·rw [if_neg h];simp
 rw [if_pos h]
 have h0:=B0U h
 unfold chk at h
 cases ho:L3 i.op with
 |false=>rw [ho]at h;simp at h
 | true=>
  obtain⟨op,a,b,c,d⟩:=i
  simp only at h ho h0⊢
  rcases A4Y ho with rfl|rfl|rfl|rfl|rfl|rfl|rfl|rfl|rfl|rfl|rfl|rfl|rfl|rfl|rfl|rfl|rfl|rfl|rfl|rfl|rfl|rfl|rfl|rfl|rfl|rfl|rfl|rfl|rfl<;>
  (simp [frm,A8E,C0z,L3,A2l,A2m,low,high,C0R,B5n,A8H,mm2]at h
   refine⟨fun x hx=> ?_,?_,?_,?_⟩
   ·simp [wrs,A0W,B3q]at hx<;>omega
   all_goals (simp [wrs,B7m]<;>omega))
-- EV: Ins.v, Ins.row
theorem A0Q(a n:Int)(ha: -100000≤a∧a≤100000)(hn:n≤100000):Pure Tryz.prog 163 [.int .i64 a,.int .i64 n] (.tup [.isl ((F0 a n).1.map zrw),.int .i64 (F0 a n).2]):=by
 refine Pure.of 1 (A0.enter A9i (Nat.le_of_ble_eq_true rfl) ?_)
 refine Run.go 100 ?_
 by_cases h:n<0
 ·rw [B3H h]
  simp -implicitDefEqProofs only [go_sem,A3,h,List.map_nil]
 ·rw [A5T h]
  simp -implicitDefEqProofs only [go_sem,A3,h]
  refine Run.roundsK (fun(x:Nat×Nat×Nat)=>⟨[(12,.int .i64 x.1),(11,.int .i64 n),(6,.sl (163*10000+20) x.2.1 0 (D2 a x.1).length),(0,.int .i64 a)],[((163*10000+20),x.2.1,.rows 1 ((D2 a x.1).map zrw))],x.2.2⟩)
   (fun x=>x.1≤n.toNat) (fun x=>n.toNat-x.1) (0,0,1) ?_ (by simp only;omega) ?_
  ·refine .trans (.fresh (163*10000+20) 1 _ _ _) (.turn id ?_ (.at 0 rfl rfl (.refl _) trivial))
   exact⟨.refl _,.refl _,.nils,.refl _,trivial⟩
  rintro⟨k,st,m⟩ hk ih
  simp only at hk⊢
  have hz:((k+1:Nat):Int)=(k:Int)+1:=by omega
  have hl:=B0f a k
  refine Run.unf B2i (Run.go 100 ?_)
  by_cases c:(k:Int)<n
  ·simp -implicitDefEqProofs only [go_sem,c]
   refine⟨by omega,by omega,by omega,?_⟩
   refine ih _ (k+1,m,m+1) (by simp only;omega) (by simp only;omega) (F7.wk ?_)
   simp only [hz,A0P,List.map_append,List.length_append,List.map_cons,List.map_nil,List.length_cons,List.length_nil,zrw]
   simp -implicitDefEqProofs only [go_sem]
  ·have e:k=n.toNat:=by omega
   subst e
   simp -implicitDefEqProofs only [go_sem,c]
   exact V4 _ _ _
theorem B7x: ∀{l:List Int} {a b:Int},Asc l→(∀x∈l,a≤x)→(∀x∈l,x<b)→(l.length:Int)≤max (b-a) 0
 | [],a,b,_,_,_=>by simp;omega
 |x::l,a,b,h,h1,h2=>by
  obtain⟨h3,h4⟩:=List.pairwise_cons.1 h
  have:=B7x (a:=x+1) (b:=b) h4 (fun y hy=>by have:=h3 y hy;omega) (fun y hy=>h2 y (List.mem_cons_of_mem _ hy))
  have hx:=h1 x List.mem_cons_self
  have hx2:=h2 x List.mem_cons_self
  simp only [List.length_cons]
  omega
theorem B7c(zs:List Int)(m:Nat):(((D5 zs++List.replicate m 0).map zrw).take (D5 zs).length)=(D5 zs).map zrw:=B7H (A3b zs) m
theorem C7y(l:List Int):C1 (l.map zrw) 1=True:=eq_true fun r hr=>by obtain⟨y,_,rfl⟩:=List.mem_map.1 hr;rfl
theorem B6b(l:List Int):(l.map zrw).map (fun r=>r.map (V.sub E8))=l.map zrw:=V4 0 [] l
theorem B9X(zs:List Int){m:Nat}(hl:zs.length=m)(hm:0<m)(hB:m≤100000)(b st n:Nat):
  A0 Tryz.prog 162 [.sl b st 0 m] [(b,st,.rows 1 (zs.map zrw))] n (fun r h' _=>r= .sl b st 0 (D5 zs).length∧h'= [(b,st,.rows 1 ((D5 zs++List.replicate (m-(D5 zs).length) 0).map zrw))]):=by
 refine A0.enter A5f (Nat.le_of_ble_eq_true rfl) ?_
 refine Run.go 100 ?_
 simp -implicitDefEqProofs only [go_sem,A3]
 refine A0.at [0] [] (D0I zs hl hm hB _ _ _) rfl rfl ?_
 rintro r h' n' hn ⟨rfl,rfl⟩
 simp -implicitDefEqProofs only [go_sem]
 refine A0.at [0] [] (C2L (A3b zs) (m:=m) (by simp [A3b,hl]) hm hB _ _ _) rfl rfl ?_
 rintro r h' n' hn ⟨rfl,rfl⟩
 simp -implicitDefEqProofs only [go_sem,D5]
-- EV: Ins.v, Ins.row
theorem C0Z(i:Ins):Pure Tryz.prog 122 [i.v] (.tup [.isl ((G0 i).1.map zrw),.int .i64 (G0 i).2]):=by
 refine Pure.of 1 (A0.enter A7q (Nat.le_of_ble_eq_true rfl) ?_)
 refine Run.go 100 ?_
 simp -implicitDefEqProofs only [go_sem,A3]
 refine A0.pureF (B0S i) (by simp -implicitDefEqProofs only [go_sem]) ?_
 by_cases hc:chk i=0
 rotate_left
 ·rw [show G0 i=([], -1) from if_neg hc]
  simp -implicitDefEqProofs only [go_sem,hc,List.map_nil]
 ·rw [show G0 i=rds i from if_pos hc,hc]
  have h0:=B0U hc
  simp -implicitDefEqProofs only [go_sem]
  repeat' (first|refine And.intro ?_ ?_|refine fun h=> ?_)
  all_goals first
   |omega
   |(simp [rds,zrw, *];done)
   | (rw [show rds i=(D5 [i.b,i.c], -1) by simp [rds, *]]
      refine A0.at [0] [] (B9X [i.b,i.c] (m:=2) rfl (by omega) (by omega) _ _ _) rfl rfl ?_
      rintro r h' n' hn ⟨rfl,rfl⟩
      simp -implicitDefEqProofs only [go_sem,B7c,V4,Nat.le_add_right]
      done)
   | (rw [show rds i=(D5 [i.a,i.b,i.c], -1) by simp [rds, *]]
      refine A0.at [0] [] (B9X [i.a,i.b,i.c] (m:=3) rfl (by omega) (by omega) _ _ _) rfl rfl ?_
      rintro r h' n' hn ⟨rfl,rfl⟩
      simp -implicitDefEqProofs only [go_sem,B7c,V4,Nat.le_add_right]
      done)
   | (rw [show rds i=(i.a::(F0 (i.a+1) i.b).1,(F0 (i.a+1) i.b).2) by simp [rds, *]]
      have hle:(F0 (i.a+1) i.b).1.length≤20000:=by have:=C4h (i.a+1) i.b;omega
      have hsz:=C7y (F0 (i.a+1) i.b).1
      refine A0.pureF (A0Q (i.a+1) i.b ⟨by omega,by omega⟩ (by omega)) (by simp -implicitDefEqProofs only [go_sem,B6b]) ?_
      simp -implicitDefEqProofs only [go_sem,V4,hsz,List.length_map]
      refine⟨by omega,?_⟩
      rw [if_pos (by omega),List.take_of_length_le (by simp;omega)]
      exact congrArg V.isl (V4 0 _ (i.a::(F0 (i.a+1) i.b).1)))
   | (rw [show rds i=F0 (i.a) i.b by simp [rds, *]]
      refine A0.pureF (A0Q (i.a) i.b ⟨by omega,by omega⟩ (by omega)) (by simp -implicitDefEqProofs only [go_sem]) ?_
      simp -implicitDefEqProofs only [go_sem,V4]
      done)
   | (rw [show rds i=F0 (i.a) 3 by simp [rds, *]]
      refine A0.pureF (A0Q (i.a) 3 ⟨by omega,by omega⟩ (by omega)) (by simp -implicitDefEqProofs only [go_sem]) ?_
      simp -implicitDefEqProofs only [go_sem,V4]
      done)
theorem C0e(i:Ins):Pure Tryz.prog 123 [i.v] (.tup [.isl ((E5 i).1.map zrw),.int .i64 (E5 i).2]):=by
 refine Pure.of 1 (A0.enter A5c (Nat.le_of_ble_eq_true rfl) ?_)
 refine Run.go 100 ?_
 simp -implicitDefEqProofs only [go_sem,A3]
 refine A0.pureF (B0S i) (by simp -implicitDefEqProofs only [go_sem]) ?_
 by_cases hc:chk i=0
 rotate_left
 ·rw [show E5 i=([], -1) from if_neg hc]
  simp -implicitDefEqProofs only [go_sem,hc,List.map_nil]
 ·rw [show E5 i=wrs i from if_pos hc,hc]
  have h0:=B0U hc
  have h1:=B8E hc
  simp -implicitDefEqProofs only [go_sem]
  repeat' (first|refine And.intro ?_ ?_|refine fun h=> ?_)
  all_goals first
   |omega
   |(simp [wrs,zrw, *];done)
   | (rw [show wrs i=F0 (i.a) (i.b-i.a+1) by simp [wrs, *]]
      refine A0.pureF (A0Q (i.a) (i.b-i.a+1) ⟨by omega,by omega⟩ (by omega)) (by simp -implicitDefEqProofs only [go_sem]) ?_
      simp -implicitDefEqProofs only [go_sem,V4]
      done)
   | (rw [show wrs i=F0 (i.a) (i.c) by simp [wrs, *]]
      refine A0.pureF (A0Q (i.a) (i.c) ⟨by omega,by omega⟩ (by omega)) (by simp -implicitDefEqProofs only [go_sem]) ?_
      simp -implicitDefEqProofs only [go_sem,V4]
      done)
   | (rw [show wrs i=F0 (i.a) (i.b) by simp [wrs, *]]
      refine A0.pureF (A0Q (i.a) (i.b) ⟨by omega,by omega⟩ (by omega)) (by simp -implicitDefEqProofs only [go_sem]) ?_
      simp -implicitDefEqProofs only [go_sem,V4]
      done)
   | (rw [show wrs i=F0 (i.a+3) (i.c) by simp [wrs, *]]
      refine A0.pureF (A0Q (i.a+3) (i.c) ⟨by omega,by omega⟩ (by omega)) (by simp -implicitDefEqProofs only [go_sem]) ?_
      simp -implicitDefEqProofs only [go_sem,V4]
      done)
end Go.Proofs.YtflobbpcabopjaaGreatDoor
