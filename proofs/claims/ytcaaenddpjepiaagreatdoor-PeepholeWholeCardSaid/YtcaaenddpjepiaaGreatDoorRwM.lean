/-
 The registers read and written. No condition.
-/
import Derived.Test.YtcaaenddpjepiaaGreatDoorFnCk
import Derived.Test.YtcaaenddpjepiaaGreatDoorFlowR
import Derived.Test.YtcaaenddpjepiaaGreatDoorCode
import Derived.Test.YtcaaenddpjepiaaGreatDoorOpc3
set_option linter.unusedVariables false
set_option linter.unusedSimpArgs false
set_option maxRecDepth 100000
set_option maxHeartbeats 0
namespace Go.Proofs.YtcaaenddpjepiaaGreatDoor
open Go.Abs
attribute [local irreducible] A0 Run
-- EV: Ins.v, Ins.row
attribute [local go_sem] Ins.v Ins.row
def I1(a n:Int):List Int×Int:=if n<0 then([],a)else(G3 a n.toNat, -1)
def rds(i:Ins):List Int×Int:=
 if i.op=1∨i.op=6∨i.op=8∨i.op=11∨i.op=12 then([i.b], -1)
 else if i.op=9∨i.op=13 then(F7 [i.b,i.c], -1)
 else if i.op=10 then(F7 [i.a,i.b,i.c], -1)
 else if i.op=15∨i.op=28 then([i.a], -1)
 else if i.op=16∨i.op=17∨i.op=21 then(i.a::(I1 (i.a+1) i.b).1,(I1 (i.a+1) i.b).2)
 else if i.op=18 then I1 i.a i.b
 else if i.op=23∨i.op=24∨i.op=25 then I1 i.a 3
 else if i.op=26 then([i.a+3], -1)
 else([], -1)
def wrs(i:Ins):List Int×Int:=
 if i.op=1∨i.op=2∨i.op=4∨i.op=5∨i.op=7∨i.op=9∨i.op=12∨i.op=13∨i.op=20∨i.op=22 then([i.a], -1)
 else if i.op=3 then I1 i.a (i.b-i.a+1)
 else if i.op=11 then([i.a,i.a+1], -1)
 else if i.op=16 then I1 i.a i.c
 else if i.op=19 then I1 i.a i.b
 else if i.op=23 then([i.a+3], -1)
 else if i.op=24 then([i.a,i.a+3], -1)
 else if i.op=25 then I1 (i.a+3) i.c
 else if i.op=26 then([i.a+2], -1)
 else([], -1)
def reads(i:Ins):List Int×Int:=if chk i=0 then rds i else([], -1)
def C6(i:Ins):List Int×Int:=if chk i=0 then wrs i else([], -1)
theorem C0G{i:Ins}(h:chk i=0):
  (i.op=3→0≤i.b-i.a+1)∧(i.op=25→1≤i.c):=by
 unfold chk at h
 cases ho:u6 i.op with
 |false=>rw [ho]at h;simp at h
 |true=>
  obtain⟨o,a,b,c,d⟩:=i
  simp only at h ho⊢
  refine⟨?_,?_⟩<;>rintro rfl<;>simp [frm,B3E,C1h,u6,A5a,A4j,low,high,C1y,B4u,A9k,mm2]at h<;>omega
theorem A7Q{a n:Int}(h:n<0):I1 a n=([],a):=if_pos h
theorem A7R{a n:Int}(h: ¬n<0):I1 a n=(G3 a n.toNat, -1):=if_neg h
theorem C7D(a n:Int):(I1 a n).1.length≤n.toNat:=by unfold I1;split<;>simp [B0Q]
theorem B3u(a n:Int):Asc (I1 a n).1:=by
 unfold I1;split
 ·exact A8a
 ·exact B3t _ _
theorem B3M{a n x:Int}:x∈(I1 a n).1↔a≤x∧x<a+n:=by
 unfold I1
 split
 ·simp;omega
 ·simp only [B8D];omega
theorem D0t{x y:Int}(h:x<y):Asc [x,y]:=List.pairwise_cons.2 ⟨fun a b=>by rw [List.mem_singleton.1 b];exact h,B5r y⟩
theorem D0s(i:Ins):Asc (rds i).1:=by
 unfold rds
 repeat' split
 all_goals first|exact B5r _|exact A6V _|exact B3u _ _|exact A8a|skip
 exact List.pairwise_cons.2 ⟨fun a h=>by have:=B3M.1 h;omega,B3u _ _⟩
theorem D0u(i:Ins):Asc (wrs i).1:=by
 unfold wrs
 repeat' split
 all_goals first|exact B5r _|exact A6V _|exact B3u _ _|exact A8a|exact D0t zd
theorem B0B(i:Ins):Asc (reads i).1:=by unfold reads;split;exact D0s i;exact A8a
theorem B1p(i:Ins):Asc (C6 i).1:=by unfold C6;split;exact D0u i;exact A8a
theorem A7S(a n:Int):(I1 a n).2=if n<0 then a else -1:=by unfold I1;split<;>rfl
theorem A3Y(i:Ins):(∀x∈(reads i).1,0≤x∧x<4096)∧ -1≤(reads i).2∧(reads i).2≤4096∧((reads i).2= -1∨i.b= -1):=by
 unfold reads
 by_cases h:chk i=0
 rotate_left
 ·rw [if_neg h];simp
 rw [if_pos h]
 have f:=A4g h
 unfold chk at h
 cases ho:u6 i.op with
 |false=>rw [ho]at h;simp at h
 | true=>
  obtain⟨o,a,b,c,d⟩:=i
  simp only at h ho f⊢
  rcases A7c ho with rfl|rfl|rfl|rfl|rfl|rfl|rfl|rfl|rfl|rfl|rfl|rfl|rfl|rfl|rfl|rfl|rfl|rfl|rfl|rfl|rfl|rfl|rfl|rfl|rfl|rfl|rfl|rfl|rfl<;>
  (simp [frm,B3E,C1h,u6,A5a,A4j,low,high,C1y,B4u,A9k,mm2]at h
   refine⟨fun x e=> ?_,?_,?_,?_⟩
   ·simp [rds,A0Y,B3M]at e<;>omega
   all_goals (simp [rds,A7S]<;>omega))
theorem A2r(i:Ins):(∀x∈(C6 i).1,0≤x∧x<4096)∧ -1≤(C6 i).2∧(C6 i).2≤4096∧((C6 i).2= -1∨i.b= -1∨i.c= -1):=by
 unfold C6
 by_cases h:chk i=0
 rotate_left
 ·rw [if_neg h];simp
 rw [if_pos h]
 have f:=A4g h
 unfold chk at h
 cases ho:u6 i.op with
 |false=>rw [ho]at h;simp at h
 | true=>
  obtain⟨o,a,b,c,d⟩:=i
  simp only at h ho f⊢
  rcases A7c ho with rfl|rfl|rfl|rfl|rfl|rfl|rfl|rfl|rfl|rfl|rfl|rfl|rfl|rfl|rfl|rfl|rfl|rfl|rfl|rfl|rfl|rfl|rfl|rfl|rfl|rfl|rfl|rfl|rfl<;>
  (simp [frm,B3E,C1h,u6,A5a,A4j,low,high,C1y,B4u,A9k,mm2]at h
   refine⟨fun x e=> ?_,?_,?_,?_⟩
   ·simp [wrs,A0Y,B3M]at e<;>omega
   all_goals (simp [wrs,A7S]<;>omega))
-- EV: Ins.v, Ins.row
theorem A3K(a n:Int)(f: -100000≤a∧a≤100000)(j:n≤100000):Pure Tryz.prog 107 [.int .i64 a,.int .i64 n] (.tup [.isl ((I1 a n).1.map zrw),.int .i64 (I1 a n).2]):=by
 refine Pure.of 1 (A0.enter A5e Jk ?_)
 refine Run.go 100 ?_
 by_cases h:n<0
 ·rw [A7Q h]
  simp -implicitDefEqProofs only [go_sem,A4,h,List.map_nil]
 ·rw [A7R h]
  refine Ja ?_
  refine Run.roundsK (fun(x:Nat×Nat×Nat)=>⟨[(12,.int .i64 x.1),(11,.int .i64 n),(6,.sl (107*10000+20) x.2.1 0 (G3 a x.1).length),(0,.int .i64 a)],[((107*10000+20),x.2.1,.rows 1 ((G3 a x.1).map zrw))],x.2.2⟩)
   (fun x=>x.1≤n.toNat) (fun x=>n.toNat-x.1) (0,0,1) ?_ zg ?_
  ·refine .trans (.fresh (107*10000+20) 1 _ _ _) (.turn id ?_ (.at 0 rfl rfl (.refl _) trivial))
   exact⟨.refl _,.refl _,.nils,.refl _,trivial⟩
  rintro⟨k,s,m⟩ b i
  simp only at b⊢
  have d:((k+1:Nat):Int)=(k:Int)+1:=by omega
  have g:=B0Q a k
  refine Run.unf A5Y (Run.go 100 ?_)
  by_cases c:(k:Int)<n
  ·refine QO ?_
   refine⟨by omega,by omega,by omega,?_⟩
   refine i _ (k+1,m,m+1) zg zg (C1.wk ?_)
   simp only [d,A3J,List.map_append,List.length_append,List.map_cons,List.map_nil,List.length_cons,List.length_nil,zrw]
   exact ze
  ·have e:k=n.toNat:=by omega
   subst e
   refine QO ?_
   exact O7 _ _ _
theorem A5R: ∀{l:List Int} {a b:Int},Asc l→(∀x∈l,a≤x)→(∀x∈l,x<b)→(l.length:Int)≤max (b-a) 0
 | [],a,b,_,_,_=>by simp;omega
 |x::l,a,b,h,h1,h2=>by
  obtain⟨f,e⟩:=List.pairwise_cons.1 h
  have:=A5R (a:=x+1) (b:=b) e (fun y c=>by have:=f y c;omega) (fun y c=>h2 y (List.mem_cons_of_mem _ c))
  have g:=h1 x List.mem_cons_self
  have d:=h2 x List.mem_cons_self
  simp only [List.length_cons]
  omega
theorem B8G(z:List Int)(m:Nat):(((F7 z++List.replicate m 0).map zrw).take (F7 z).length)=(F7 z).map zrw:=Z3 (W5 z) m
theorem H1(l:List Int):C4 (l.map zrw) 1=True:=eq_true fun r h=>by obtain⟨y,_,rfl⟩:=List.mem_map.1 h;rfl
theorem B7k(l:List Int):(l.map zrw).map (fun r=>r.map (V.sub C7))=l.map zrw:=O7 0 [] l
theorem C2H(z:List Int){m:Nat}(c:z.length=m)(a:0<m)(d:m≤100000)(b st n:Nat):
  A0 Tryz.prog 106 [.sl b st 0 m] [(b,st,.rows 1 (z.map zrw))] n (fun r h _=>r= .sl b st 0 (F7 z).length∧h= [(b,st,.rows 1 ((F7 z++List.replicate (m-(F7 z).length) 0).map zrw))]):=by
 refine A0.enter A7g Jk ?_
 refine Run.go 100 ?_
 refine QM ?_
 refine A0.at [0] [] (B1X z c a d _ _ _) rfl rfl ?_
 rintro r h e f ⟨rfl,rfl⟩
 refine QL ?_
 refine A0.at [0] [] (A3z (W5 z) (m:=m) (by simp [W5,c]) a d _ _ _) rfl rfl ?_
 rintro r h e f ⟨rfl,rfl⟩
 simp -implicitDefEqProofs only [go_sem,F7]
-- EV: Ins.v, Ins.row
theorem B1Q(i:Ins):Pure Tryz.prog 79 [i.v] (.tup [.isl ((reads i).1.map zrw),.int .i64 (reads i).2]):=by
 refine Pure.of 1 (A0.enter A4l Jk ?_)
 refine Run.go 100 ?_
 refine QM ?_
 refine A0.pureF (A8c i) ze ?_
 by_cases a:chk i=0
 rotate_left
 ·rw [show reads i=([], -1) from if_neg a]
  simp -implicitDefEqProofs only [go_sem,a,List.map_nil]
 ·rw [show reads i=rds i from if_pos a,a]
  have f:=A4g a
  refine QL ?_
  repeat' (first|refine And.intro ?_ ?_|refine fun h=> ?_)
  all_goals first
   |omega
   |(simp [rds,zrw, *];done)
   | (rw [show rds i=(F7 [i.b,i.c], -1) by simp [rds, *]]
      refine A0.at [0] [] (C2H [i.b,i.c] (m:=2) rfl zd zd _ _ _) rfl rfl ?_
      rintro r c n e ⟨rfl,rfl⟩
      simp -implicitDefEqProofs only [go_sem,B8G,O7,Nat.le_add_right]
      done)
   | (rw [show rds i=(F7 [i.a,i.b,i.c], -1) by simp [rds, *]]
      refine A0.at [0] [] (C2H [i.a,i.b,i.c] (m:=3) rfl zd zd _ _ _) rfl rfl ?_
      rintro r c n e ⟨rfl,rfl⟩
      simp -implicitDefEqProofs only [go_sem,B8G,O7,Nat.le_add_right]
      done)
   | (rw [show rds i=(i.a::(I1 (i.a+1) i.b).1,(I1 (i.a+1) i.b).2) by simp [rds, *]]
      have d:(I1 (i.a+1) i.b).1.length≤20000:=by have:=C7D (i.a+1) i.b;omega
      have b:=H1 (I1 (i.a+1) i.b).1
      refine A0.pureF (A3K (i.a+1) i.b ⟨by omega,by omega⟩ zd) (by simp -implicitDefEqProofs only [go_sem,B7k]) ?_
      simp -implicitDefEqProofs only [go_sem,O7,b,List.length_map]
      refine⟨by omega,?_⟩
      rw [if_pos zd,List.take_of_length_le zl]
      exact congrArg V.isl (O7 0 _ (i.a::(I1 (i.a+1) i.b).1)))
   | (rw [show rds i=I1 (i.a) i.b by simp [rds, *]]
      refine A0.pureF (A3K (i.a) i.b ⟨by omega,by omega⟩ zd) ze ?_
      simp -implicitDefEqProofs only [go_sem,O7]
      done)
   | (rw [show rds i=I1 (i.a) 3 by simp [rds, *]]
      refine A0.pureF (A3K (i.a) 3 ⟨by omega,by omega⟩ zd) ze ?_
      simp -implicitDefEqProofs only [go_sem,O7]
      done)
theorem B0A(i:Ins):Pure Tryz.prog 84 [i.v] (.tup [.isl ((C6 i).1.map zrw),.int .i64 (C6 i).2]):=by
 refine Pure.of 1 (A0.enter A7e Jk ?_)
 refine Run.go 100 ?_
 refine QM ?_
 refine A0.pureF (A8c i) ze ?_
 by_cases a:chk i=0
 rotate_left
 ·rw [show C6 i=([], -1) from if_neg a]
  simp -implicitDefEqProofs only [go_sem,a,List.map_nil]
 ·rw [show C6 i=wrs i from if_pos a,a]
  have b:=A4g a
  have c:=C0G a
  refine QL ?_
  repeat' (first|refine And.intro ?_ ?_|refine fun h=> ?_)
  all_goals first
   |omega
   |(simp [wrs,zrw, *];done)
   | (rw [show wrs i=I1 (i.a) (i.b-i.a+1) by simp [wrs, *]]
      refine A0.pureF (A3K (i.a) (i.b-i.a+1) ⟨by omega,by omega⟩ zd) ze ?_
      simp -implicitDefEqProofs only [go_sem,O7]
      done)
   | (rw [show wrs i=I1 (i.a) (i.c) by simp [wrs, *]]
      refine A0.pureF (A3K (i.a) (i.c) ⟨by omega,by omega⟩ zd) ze ?_
      simp -implicitDefEqProofs only [go_sem,O7]
      done)
   | (rw [show wrs i=I1 (i.a) (i.b) by simp [wrs, *]]
      refine A0.pureF (A3K (i.a) (i.b) ⟨by omega,by omega⟩ zd) ze ?_
      simp -implicitDefEqProofs only [go_sem,O7]
      done)
   | (rw [show wrs i=I1 (i.a+3) (i.c) by simp [wrs, *]]
      refine A0.pureF (A3K (i.a+3) (i.c) ⟨by omega,by omega⟩ zd) ze ?_
      simp -implicitDefEqProofs only [go_sem,O7]
      done)
end Go.Proofs.YtcaaenddpjepiaaGreatDoor
