/-
 The registers read and written. No condition.
-/
import Derived.Test.YtnihmhbcjpcobaaGreatDoorOpcM
import Derived.Test.YtnihmhbcjpcobaaGreatDoorSetM
import Derived.Test.YtnihmhbcjpcobaaGreatDoorCode
import Derived.Test.YtnihmhbcjpcobaaGreatDoorOpc3
set_option linter.unusedVariables false
set_option linter.unusedSimpArgs false
set_option maxRecDepth 100000
set_option maxHeartbeats 0
namespace Go.Proofs.YtnihmhbcjpcobaaGreatDoor
open Go.Abs
attribute [local irreducible] A2 Run
-- EV: Ins.v, Ins.row
attribute [local go_sem] Ins.v Ins.row
def E7(a n:Int):List Int×Int:=if n<0 then([],a)else(D4 a n.toNat, -1)
def rds(i:Ins):List Int×Int:=
 if i.op=1∨i.op=6∨i.op=8∨i.op=11∨i.op=12 then([i.b], -1)
 else if i.op=9∨i.op=13 then(D2 [i.b,i.c], -1)
 else if i.op=10 then(D2 [i.a,i.b,i.c], -1)
 else if i.op=15∨i.op=28 then([i.a], -1)
 else if i.op=16∨i.op=17∨i.op=21 then(i.a::(E7 (i.a+1) i.b).1,(E7 (i.a+1) i.b).2)
 else if i.op=18 then E7 i.a i.b
 else if i.op=23∨i.op=24∨i.op=25 then E7 i.a 3
 else if i.op=26 then([i.a+3], -1)
 else([], -1)
def wrs(i:Ins):List Int×Int:=
 if i.op=1∨i.op=2∨i.op=4∨i.op=5∨i.op=7∨i.op=9∨i.op=12∨i.op=13∨i.op=20∨i.op=22 then([i.a], -1)
 else if i.op=3 then E7 i.a (i.b-i.a+1)
 else if i.op=11 then([i.a,i.a+1], -1)
 else if i.op=16 then E7 i.a i.c
 else if i.op=19 then E7 i.a i.b
 else if i.op=23 then([i.a+3], -1)
 else if i.op=24 then([i.a,i.a+3], -1)
 else if i.op=25 then E7 (i.a+3) i.c
 else if i.op=26 then([i.a+2], -1)
 else([], -1)
def reads(i:Ins):List Int×Int:=if chk i=0 then rds i else([], -1)
def B7(i:Ins):List Int×Int:=if chk i=0 then wrs i else([], -1)
theorem B6n{i:Ins}(h:chk i=0):
  (i.op=3→0≤i.b-i.a+1)∧(i.op=25→1≤i.c):=by
 unfold chk at h
 cases ho:S6 i.op with
 |false=>rw [ho]at h;simp at h
 |true=>
  obtain⟨op,a,b,c,d⟩:=i
  simp only at h ho⊢
  refine⟨?_,?_⟩<;>rintro rfl<;>simp [frm,B0Y,B6K,S6,A2V,A2z,low,high,B6W,B1F,A6f,mm2]at h<;>omega
theorem A5g{a n:Int}(h:n<0):E7 a n=([],a):=if_pos h
theorem A5h{a n:Int}(h: ¬n<0):E7 a n=(D4 a n.toNat, -1):=if_neg h
theorem C1K(a n:Int):(E7 a n).1.length≤n.toNat:=by unfold E7;split<;>simp [A8q]
theorem B0Q(a n:Int):Asc (E7 a n).1:=by
 unfold E7;split
 ·exact A5C
 ·exact B0P _ _
theorem B1g{a n x:Int}:x∈(E7 a n).1↔a≤x∧x<a+n:=by
 unfold E7
 split
 ·simp;omega
 ·simp only [B4H];omega
theorem C3W{x y:Int}(h:x<y):Asc [x,y]:=List.pairwise_cons.2 ⟨fun a ha=>by rw [List.mem_singleton.1 ha];exact h,B2l y⟩
theorem C3V(i:Ins):Asc (rds i).1:=by
 unfold rds
 repeat' split
 all_goals first|exact B2l _|exact A4w _|exact B0Q _ _|exact A5C|skip
 exact List.pairwise_cons.2 ⟨fun a ha=>by have:=B1g.1 ha;omega,B0Q _ _⟩
theorem C3X(i:Ins):Asc (wrs i).1:=by
 unfold wrs
 repeat' split
 all_goals first|exact B2l _|exact A4w _|exact B0Q _ _|exact A5C|exact C3W (by omega)
theorem B4c(i:Ins):Asc (reads i).1:=by unfold reads;split;exact C3V i;exact A5C
theorem B7Z(i:Ins):Asc (B7 i).1:=by unfold B7;split;exact C3X i;exact A5C
theorem A5i(a n:Int):(E7 a n).2=if n<0 then a else -1:=by unfold E7;split<;>rfl
theorem A5c(i:Ins):(∀x∈(reads i).1,0≤x∧x<4096)∧ -1≤(reads i).2∧(reads i).2≤4096∧((reads i).2= -1∨i.b= -1):=by
 unfold reads
 by_cases h:chk i=0
 rotate_left
 ·rw [if_neg h];simp
 rw [if_pos h]
 have h0:=A2f h
 unfold chk at h
 cases ho:S6 i.op with
 |false=>rw [ho]at h;simp at h
 | true=>
  obtain⟨op,a,b,c,d⟩:=i
  simp only at h ho h0⊢
  rcases A4D ho with rfl|rfl|rfl|rfl|rfl|rfl|rfl|rfl|rfl|rfl|rfl|rfl|rfl|rfl|rfl|rfl|rfl|rfl|rfl|rfl|rfl|rfl|rfl|rfl|rfl|rfl|rfl|rfl|rfl<;>
  (simp [frm,B0Y,B6K,S6,A2V,A2z,low,high,B6W,B1F,A6f,mm2]at h
   refine⟨fun x hx=> ?_,?_,?_,?_⟩
   ·simp [rds,X0,B1g]at hx<;>omega
   all_goals (simp [rds,A5i]<;>omega))
theorem A2R(i:Ins):(∀x∈(B7 i).1,0≤x∧x<4096)∧ -1≤(B7 i).2∧(B7 i).2≤4096∧((B7 i).2= -1∨i.b= -1∨i.c= -1):=by
 unfold B7
 by_cases h:chk i=0
 rotate_left
 ·rw [if_neg h];simp
 rw [if_pos h]
 have h0:=A2f h
 unfold chk at h
 cases ho:S6 i.op with
 |false=>rw [ho]at h;simp at h
 | true=>
  obtain⟨op,a,b,c,d⟩:=i
  simp only at h ho h0⊢
  rcases A4D ho with rfl|rfl|rfl|rfl|rfl|rfl|rfl|rfl|rfl|rfl|rfl|rfl|rfl|rfl|rfl|rfl|rfl|rfl|rfl|rfl|rfl|rfl|rfl|rfl|rfl|rfl|rfl|rfl|rfl<;>
  (simp [frm,B0Y,B6K,S6,A2V,A2z,low,high,B6W,B1F,A6f,mm2]at h
   refine⟨fun x hx=> ?_,?_,?_,?_⟩
   ·simp [wrs,X0,B1g]at hx<;>omega
   all_goals (simp [wrs,A5i]<;>omega))
-- EV: Ins.v, Ins.row
theorem A1K(a n:Int)(ha: -100000≤a∧a≤100000)(hn:n≤100000):Pure Tryz.prog 87 [.int .i64 a,.int .i64 n] (.tup [.isl ((E7 a n).1.map zrw),.int .i64 (E7 a n).2]):=by
 refine Pure.of 1 (A2.enter A3d (Nat.le_of_ble_eq_true rfl) ?_)
 refine Run.go 100 ?_
 by_cases h:n<0
 ·rw [A5g h]
  simp -implicitDefEqProofs only [go_sem,A4,h,List.map_nil]
 ·rw [A5h h]
  simp -implicitDefEqProofs only [go_sem,A4,h]
  refine Run.roundsK (fun(x:Nat×Nat×Nat)=>⟨[(12,.int .i64 x.1),(11,.int .i64 n),(6,.sl (87*10000+20) x.2.1 0 (D4 a x.1).length),(0,.int .i64 a)],[((87*10000+20),x.2.1,.rows 1 ((D4 a x.1).map zrw))],x.2.2⟩)
   (fun x=>x.1≤n.toNat) (fun x=>n.toNat-x.1) (0,0,1) ?_ (by simp only;omega) ?_
  ·refine .trans (.fresh (87*10000+20) 1 _ _ _) (.turn id ?_ (.at 0 rfl rfl (.refl _) trivial))
   exact⟨.refl _,.refl _,.nils,.refl _,trivial⟩
  rintro⟨k,st,m⟩ hk ih
  simp only at hk⊢
  have hz:((k+1:Nat):Int)=(k:Int)+1:=by omega
  have hl:=A8q a k
  refine Run.unf B0l (Run.go 100 ?_)
  by_cases c:(k:Int)<n
  ·simp -implicitDefEqProofs only [go_sem,c]
   refine⟨by omega,by omega,by omega,?_⟩
   refine ih _ (k+1,m,m+1) (by simp only;omega) (by simp only;omega) (B6.wk ?_)
   simp only [hz,A1J,List.map_append,List.length_append,List.map_cons,List.map_nil,List.length_cons,List.length_nil,zrw]
   simp -implicitDefEqProofs only [go_sem]
  ·have e:k=n.toNat:=by omega
   subst e
   simp -implicitDefEqProofs only [go_sem,c]
   exact K4 _ _ _
theorem B2k: ∀{l:List Int} {a b:Int},Asc l→(∀x∈l,a≤x)→(∀x∈l,x<b)→(l.length:Int)≤max (b-a) 0
 | [],a,b,_,_,_=>by simp;omega
 |x::l,a,b,h,h1,h2=>by
  obtain⟨h3,h4⟩:=List.pairwise_cons.1 h
  have:=B2k (a:=x+1) (b:=b) h4 (fun y hy=>by have:=h3 y hy;omega) (fun y hy=>h2 y (List.mem_cons_of_mem _ hy))
  have hx:=h1 x List.mem_cons_self
  have hx2:=h2 x List.mem_cons_self
  simp only [List.length_cons]
  omega
theorem B4M(zs:List Int)(m:Nat):(((D2 zs++List.replicate m 0).map zrw).take (D2 zs).length)=(D2 zs).map zrw:=O4 (L8 zs) m
theorem F7(l:List Int):C4 (l.map zrw) 1=True:=eq_true fun r hr=>by obtain⟨y,_,rfl⟩:=List.mem_map.1 hr;rfl
theorem B3J(l:List Int):(l.map zrw).map (fun r=>r.map (V.sub H0))=l.map zrw:=K4 0 [] l
theorem B7M(zs:List Int){m:Nat}(hl:zs.length=m)(hm:0<m)(hB:m≤100000)(b st n:Nat):
  A2 Tryz.prog 86 [.sl b st 0 m] [(b,st,.rows 1 (zs.map zrw))] n (fun r h' _=>r= .sl b st 0 (D2 zs).length∧h'= [(b,st,.rows 1 ((D2 zs++List.replicate (m-(D2 zs).length) 0).map zrw))]):=by
 refine A2.enter A4K (Nat.le_of_ble_eq_true rfl) ?_
 refine Run.go 100 ?_
 simp -implicitDefEqProofs only [go_sem,A4]
 refine A2.at [0] [] (A9x zs hl hm hB _ _ _) rfl rfl ?_
 rintro r h' n' hn ⟨rfl,rfl⟩
 simp -implicitDefEqProofs only [go_sem]
 refine A2.at [0] [] (A1F (L8 zs) (m:=m) (by simp [L8,hl]) hm hB _ _ _) rfl rfl ?_
 rintro r h' n' hn ⟨rfl,rfl⟩
 simp -implicitDefEqProofs only [go_sem,D2]
-- EV: Ins.v, Ins.row
theorem B3t(i:Ins):Pure Tryz.prog 56 [i.v] (.tup [.isl ((reads i).1.map zrw),.int .i64 (reads i).2]):=by
 refine Pure.of 1 (A2.enter A2j (Nat.le_of_ble_eq_true rfl) ?_)
 refine Run.go 100 ?_
 simp -implicitDefEqProofs only [go_sem,A4]
 refine A2.pureF (A5D i) (by simp -implicitDefEqProofs only [go_sem]) ?_
 by_cases hc:chk i=0
 rotate_left
 ·rw [show reads i=([], -1) from if_neg hc]
  simp -implicitDefEqProofs only [go_sem,hc,List.map_nil]
 ·rw [show reads i=rds i from if_pos hc,hc]
  have h0:=A2f hc
  simp -implicitDefEqProofs only [go_sem]
  repeat' (first|refine And.intro ?_ ?_|refine fun h=> ?_)
  all_goals first
   |omega
   |(simp [rds,zrw, *];done)
   | (rw [show rds i=(D2 [i.b,i.c], -1) by simp [rds, *]]
      refine A2.at [0] [] (B7M [i.b,i.c] (m:=2) rfl (by omega) (by omega) _ _ _) rfl rfl ?_
      rintro r h' n' hn ⟨rfl,rfl⟩
      simp -implicitDefEqProofs only [go_sem,B4M,K4,Nat.le_add_right]
      done)
   | (rw [show rds i=(D2 [i.a,i.b,i.c], -1) by simp [rds, *]]
      refine A2.at [0] [] (B7M [i.a,i.b,i.c] (m:=3) rfl (by omega) (by omega) _ _ _) rfl rfl ?_
      rintro r h' n' hn ⟨rfl,rfl⟩
      simp -implicitDefEqProofs only [go_sem,B4M,K4,Nat.le_add_right]
      done)
   | (rw [show rds i=(i.a::(E7 (i.a+1) i.b).1,(E7 (i.a+1) i.b).2) by simp [rds, *]]
      have hle:(E7 (i.a+1) i.b).1.length≤20000:=by have:=C1K (i.a+1) i.b;omega
      have hsz:=F7 (E7 (i.a+1) i.b).1
      refine A2.pureF (A1K (i.a+1) i.b ⟨by omega,by omega⟩ (by omega)) (by simp -implicitDefEqProofs only [go_sem,B3J]) ?_
      simp -implicitDefEqProofs only [go_sem,K4,hsz,List.length_map]
      refine⟨by omega,?_⟩
      rw [if_pos (by omega),List.take_of_length_le (by simp;omega)]
      exact congrArg V.isl (K4 0 _ (i.a::(E7 (i.a+1) i.b).1)))
   | (rw [show rds i=E7 (i.a) i.b by simp [rds, *]]
      refine A2.pureF (A1K (i.a) i.b ⟨by omega,by omega⟩ (by omega)) (by simp -implicitDefEqProofs only [go_sem]) ?_
      simp -implicitDefEqProofs only [go_sem,K4]
      done)
   | (rw [show rds i=E7 (i.a) 3 by simp [rds, *]]
      refine A2.pureF (A1K (i.a) 3 ⟨by omega,by omega⟩ (by omega)) (by simp -implicitDefEqProofs only [go_sem]) ?_
      simp -implicitDefEqProofs only [go_sem,K4]
      done)
theorem B2b(i:Ins):Pure Tryz.prog 57 [i.v] (.tup [.isl ((B7 i).1.map zrw),.int .i64 (B7 i).2]):=by
 refine Pure.of 1 (A2.enter A4H (Nat.le_of_ble_eq_true rfl) ?_)
 refine Run.go 100 ?_
 simp -implicitDefEqProofs only [go_sem,A4]
 refine A2.pureF (A5D i) (by simp -implicitDefEqProofs only [go_sem]) ?_
 by_cases hc:chk i=0
 rotate_left
 ·rw [show B7 i=([], -1) from if_neg hc]
  simp -implicitDefEqProofs only [go_sem,hc,List.map_nil]
 ·rw [show B7 i=wrs i from if_pos hc,hc]
  have h0:=A2f hc
  have h1:=B6n hc
  simp -implicitDefEqProofs only [go_sem]
  repeat' (first|refine And.intro ?_ ?_|refine fun h=> ?_)
  all_goals first
   |omega
   |(simp [wrs,zrw, *];done)
   | (rw [show wrs i=E7 (i.a) (i.b-i.a+1) by simp [wrs, *]]
      refine A2.pureF (A1K (i.a) (i.b-i.a+1) ⟨by omega,by omega⟩ (by omega)) (by simp -implicitDefEqProofs only [go_sem]) ?_
      simp -implicitDefEqProofs only [go_sem,K4]
      done)
   | (rw [show wrs i=E7 (i.a) (i.c) by simp [wrs, *]]
      refine A2.pureF (A1K (i.a) (i.c) ⟨by omega,by omega⟩ (by omega)) (by simp -implicitDefEqProofs only [go_sem]) ?_
      simp -implicitDefEqProofs only [go_sem,K4]
      done)
   | (rw [show wrs i=E7 (i.a) (i.b) by simp [wrs, *]]
      refine A2.pureF (A1K (i.a) (i.b) ⟨by omega,by omega⟩ (by omega)) (by simp -implicitDefEqProofs only [go_sem]) ?_
      simp -implicitDefEqProofs only [go_sem,K4]
      done)
   | (rw [show wrs i=E7 (i.a+3) (i.c) by simp [wrs, *]]
      refine A2.pureF (A1K (i.a+3) (i.c) ⟨by omega,by omega⟩ (by omega)) (by simp -implicitDefEqProofs only [go_sem]) ?_
      simp -implicitDefEqProofs only [go_sem,K4]
      done)
end Go.Proofs.YtnihmhbcjpcobaaGreatDoor
