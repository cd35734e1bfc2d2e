/-
 Instructions: their fields, forms and errors, as data. No program, no condition.
-/
import Derived.Test.YtnihmhbcjpcobaaGreatDoorExe
import Derived.Test.YtnihmhbcjpcobaaGreatDoorCode
set_option linter.unusedVariables false
set_option linter.unusedSimpArgs false
set_option maxRecDepth 100000
set_option maxHeartbeats 0
namespace Go.Proofs.YtnihmhbcjpcobaaGreatDoor
open Go.Abs
attribute [local irreducible] A2 Run
structure Ins where
 op:Int
 a:Int
 b:Int
 c:Int
 d:Int
 deriving DecidableEq,Inhabited
def Ins.row(i:Ins):List V:= [.int .i64 i.op,.int .i64 i.a,.int .i64 i.b,.int .i64 i.c,.int .i64 i.d]
def Ins.v(i:Ins):V:= .agg i.row
structure Frm where
 word:List UInt8
 a:Int
 b:Int
 c:Int
 d:Int
 room:Int
 deriving DecidableEq,Inhabited
def Frm.row(f:Frm):List V:= [.str f.word,.int .i64 f.a,.int .i64 f.b,.int .i64 f.c,.int .i64 f.d,.int .i64 f.room]
def Frm.v(f:Frm):V:= .agg f.row
def C3M:List (List UInt8):= [[109,111,118,101],[99,111,110,115,116],[110,105,108],[98,111,111,108],[117,112,103,101,116],[117,112,115,101,116],[103,108,111,98,97,108],[115,101,116,103,108,111,98],[103,101,116],[115,101,116],[115,101,108,102],[117,110,97,114,121],[98,105,110,97,114,121],[106,117,109,112],[116,101,115,116],[99,97,108,108],[116,97,105,108],[114,101,116,117,114,110],[118,97,114,97,114,103],[116,97,98,108,101],[97,112,112,101,110,100],[99,108,111,115,117,114,101],[112,114,101,112],[108,111,111,112],[105,116,101,114],[110,101,120,116],[99,108,111,115,101],[109,97,114,107],[115,116,97,116]]
def B6K:List Frm:= [
 ⟨[],0,0,0,0,0⟩,⟨[],1,1,0,0,0⟩,⟨[],1,2,0,0,0⟩,⟨[],1,1,0,0,0⟩,⟨[],1,8,0,0,0⟩,⟨[],1,3,0,0,0⟩,⟨[],3,1,0,0,0⟩,⟨[],1,2,0,0,0⟩,⟨[],2,1,0,0,0⟩,⟨[],1,1,1,0,0⟩,
 ⟨[],1,1,1,0,0⟩,⟨[],1,1,2,0,1⟩,⟨[],1,1,9,0,0⟩,⟨[],1,1,1,10,0⟩,⟨[],0,5,0,0,0⟩,⟨[],1,5,8,0,0⟩,⟨[],1,7,6,0,0⟩,⟨[],1,7,0,0,0⟩,⟨[],1,7,0,0,0⟩,⟨[],1,6,0,0,0⟩,
 ⟨[],1,0,0,0,0⟩,⟨[],1,7,12,0,0⟩,⟨[],1,4,0,0,0⟩,⟨[],1,5,0,0,3⟩,⟨[],1,5,0,0,3⟩,⟨[],1,0,11,0,3⟩,⟨[],1,5,0,0,3⟩,⟨[],1,0,0,0,0⟩,⟨[],1,0,0,0,0⟩,⟨[],8,0,0,0,0⟩]
def S6(op:Int):Bool:=decide (1≤op∧op≤29)
def B0Y(n:Nat):Frm:={B6K.getD n default with word:=C3M.getD (n-1) []}
def frm(op:Int):Frm:=if S6 op then B0Y op.toNat else⟨[],0,0,0,0,0⟩
def B6W:List Int:= [0,0,0,0,0,0, -1, -1,0,20,1,1,1]
def B1F:List Int:= [0,4095,4095,59,1023,16383,200,4096,1,23,19,200,32767]
def low(k:Int):Int:=B6W.getD k.toNat 0
def high(k:Int):Int:=B1F.getD k.toNat 0
def Frm.ks(f:Frm):List Int:= [f.a,f.b,f.c,f.d]
def Ins.fs(i:Ins):List Int:= [i.a,i.b,i.c,i.d]
def A6f(f:Frm)(i:Ins):Int:=
 if i.op=16 then mm2 true (i.a+i.b) (i.a+i.c-1)
 else if i.op=17∨i.op=21 then i.a+i.b
 else if i.op=18∨i.op=19 then i.a+i.b-1
 else if i.op=25 then i.a+2+i.c
 else i.a+f.room
def A2V(k x:Int):Bool:=decide (k=0→x=0)
def A2z(k x:Int):Bool:=decide (low k≤x∧x≤high k)
def chk(i:Ins):Int:=
 if S6 i.op=false then 4
 else
  let f:=frm i.op
  if (A2V f.a i.a&&A2V f.b i.b&&A2V f.c i.c&&A2V f.d i.d)=false then 4
  else if (A2z f.a i.a&&A2z f.b i.b&&A2z f.c i.c&&A2z f.d i.d)=false then 6
  else if f.a=1∧A6f f i≥4096∨i.op=3∧i.b<i.a then 6
  else 0
def W5(op:Int):Bool:=decide (op=14∨op=15∨op=23∨op=24∨op=26)
def L5(op:Int):Bool:=decide (op≠14∧op≠17∧op≠18)
theorem A4D{op:Int}(h:S6 op=true):op=1∨op=2∨op=3∨op=4∨op=5∨op=6∨op=7∨op=8∨op=9∨op=10∨op=11∨op=12∨op=13∨op=14∨op=15∨op=16∨op=17∨op=18∨op=19∨op=20∨op=21∨op=22∨op=23∨op=24∨op=25∨op=26∨op=27∨op=28∨op=29:=by
 unfold S6 at h
 have:=of_decide_eq_true h
 omega
theorem B6O{op:Int}(h:S6 op=true): ∃n:Nat,op=n∧1≤n∧n≤29:=by
 have:=of_decide_eq_true h
 exact⟨op.toNat,by omega,by omega,by omega⟩
structure Shp where
 word:List UInt8
 ha:Bool
 hb:Bool
 hc:Bool
 hd:Bool
 la:Int
 lb:Int
 lc:Int
 ld:Int
 ma:Int
 mb:Int
 mc:Int
 md:Int
 deriving DecidableEq,Inhabited
def Shp.row(s:Shp):List V:= [.str s.word,.bool s.ha,.bool s.hb,.bool s.hc,.bool s.hd,.int .i64 s.la,.int .i64 s.lb,.int .i64 s.lc,.int .i64 s.ld,.int .i64 s.ma,.int .i64 s.mb,.int .i64 s.mc,.int .i64 s.md]
def Shp.v(s:Shp):V:= .agg s.row
def C1u(n:Nat):Shp:=
 let f:=B0Y n
 let h:=fun k=> !decide (k=(0:Int))
 ⟨f.word,h f.a,h f.b,h f.c,h f.d,low f.a,low f.b,low f.c,low f.d,high f.a-f.room,high f.b,high f.c,high f.d⟩
def shp(op:Int):Shp:=if S6 op then C1u op.toNat else⟨[],false,false,false,false,0,0,0,0,0,0,0,0⟩
def mx(a b:Int):Int:=mm2 true a b
def B1c(i:Ins):Int:=
 if i.op=16 then mx (i.a+mx i.b 0) (i.a+i.c-1)
 else if i.op=17∨i.op=21 then i.a+mx i.b 0
 else if i.op=18∨i.op=19 then i.a+i.b-1
 else if i.op=25 then i.a+2+i.c
 else 0
def M6(h:Bool)(x:Int):Bool:=h||decide (x=0)
def M7(h:Bool)(l m x:Int):Bool:= !h||decide (l≤x∧x≤m)
def C1b(i:Ins):Int:=
 if S6 i.op=false then 4
 else
  let s:=shp i.op
  if (M6 s.ha i.a&&M6 s.hb i.b&&M6 s.hc i.c&&M6 s.hd i.d)=false then 4
  else if (M7 s.ha s.la s.ma i.a&&M7 s.hb s.lb s.mb i.b&&M7 s.hc s.lc s.mc i.c&&M7 s.hd s.ld s.md i.d)=false then 6
  else if i.op=3∧i.b<i.a∨B1c i>4095 then 6
  else 0
theorem C4F(i:Ins):C1b i=chk i:=by
 unfold C1b chk
 cases h:S6 i.op with
 |false=>simp
 |true=>
  obtain⟨op,a,b,c,d⟩:=i
  simp only at h⊢
  rcases A4D h with rfl|rfl|rfl|rfl|rfl|rfl|rfl|rfl|rfl|rfl|rfl|rfl|rfl|rfl|rfl|rfl|rfl|rfl|rfl|rfl|rfl|rfl|rfl|rfl|rfl|rfl|rfl|rfl|rfl<;>
  (simp [frm,shp,C1u,B0Y,B6K,S6,A2V,A2z,M6,M7,low,high,B6W,B1F,A6f,B1c,mx,mm2];try (repeat' split)<;>omega)
theorem A2f{i:Ins}(h:chk i=0):S6 i.op=true∧ -1≤i.a∧i.a≤4095∧ -1≤i.b∧i.b≤16383∧ -1≤i.c∧i.c≤32767∧0≤i.d∧i.d≤19∧0≤i.a:=by
 unfold chk at h
 cases ho:S6 i.op with
 |false=>rw [ho]at h;simp at h
 |true=>
  obtain⟨op,a,b,c,d⟩:=i
  simp only at h ho⊢
  rcases A4D ho with rfl|rfl|rfl|rfl|rfl|rfl|rfl|rfl|rfl|rfl|rfl|rfl|rfl|rfl|rfl|rfl|rfl|rfl|rfl|rfl|rfl|rfl|rfl|rfl|rfl|rfl|rfl|rfl|rfl<;>
  (simp [frm,B0Y,B6K,S6,A2V,A2z,low,high,B6W,B1F,A6f,mm2]at h;refine⟨trivial,?_⟩;omega)
-- EV: Ins.v, Ins.row, Frm.v, Frm.row
attribute [local go_sem] Ins.v Ins.row Frm.v Frm.row
def B9q:List UInt8:= [109,111,118,101,32,99,111,110,115,116,32,110,105,108,32,98,111,111,108,32,117,112,103,101,116,32,117,112,115,101,116,32,103,108,111,98,97,108,32,115,101,116,103,108,111,98,32,103,101,116,32,115,101,116,32,115,101,108,102,32,117,110,97,114,121,32,98,105,110,97,114,121,32,106,117,109,112,32,116,101,115,116,32,99,97,108,108,32,116,97,105,108,32,114,101,116,117,114,110,32,118,97,114,97,114,103,32,116,97,98,108,101,32,97,112,112,101,110,100,32,99,108,111,115,117,114,101,32,112,114,101,112,32,108,111,111,112,32,105,116,101,114,32,110,101,120,116,32,99,108,111,115,101,32,109,97,114,107,32,115,116,97,116]
def B6c:V:= .isl (C3M.map fun w=> [.str w])
theorem B1D:Pure Tryz.prog 105 [.str B9q] B6c:=
 Pure.execB (m:=50000) (d:=3) (fr:=2) B5k B3l (by kernel_rfl)
def C4r:Q7:=fun f xs h n=>bif Nat.beq f 105 then(match xs with
 | [.str s]=>bif R0 s B9q then F5 B6c h n else none
 |_=>none)else none
theorem C4s:P5 Tryz.prog C4r:=by
 intro f xs h n k hg
 unfold C4r at hg
 cases hb:Nat.beq f 105 with
 |false=>rw [hb]at hg;exact hg.no.elim
 | true=>
  rw [hb,cond_true]at hg
  obtain rfl:=Nat.eq_of_beq_eq_true hb
  split at hg
  ·rename_i s
   cases hs:R0 s B9q with
   |false=>rw [hs]at hg;exact hg.no.elim
   |true=>
    rw [hs,cond_true]at hg
    rw [A3R.1 hs]
    exact A2.pureF B1D rfl hg.one
  ·exact hg.no.elim
-- EV: Ins.v, Ins.row, Frm.v, Frm.row
def B2V(l:List Int):List V:=l.map fun z=> .int .i64 z
theorem C7u: ∀n:Nat,1≤n→n≤29→Pure Tryz.prog 82 [.int .i64 n] (.tup [(B0Y n).v,.bool true]):=by
 have key: ∀n:Nat,n<30→(Nat.blt 0 n=true→eqR (exR Tryz.prog exT C4r 1000 5 1 82 [.int .i64 n]) (.tup [(B0Y n).v,.bool true])=true):=by
  have:(List.range 30).all (fun n=> !Nat.blt 0 n||eqR (exR Tryz.prog exT C4r 1000 5 1 82 [.int .i64 n]) (.tup [(B0Y n).v,.bool true]))=true:=by kernel_rfl
  intro n hn h0
  have:=List.all_eq_true.1 this n (List.mem_range.2 hn)
  rw [h0]at this
  simpa using this
 intro n h1 h2
 exact Pure.execB (m:=1000) (d:=5) (fr:=1) B5k C4s (key n (by omega) (Nat.ble_eq_true_of_le h1))
theorem D0T{op:Int}(h:S6 op=false):Pure Tryz.prog 82 [.int .i64 op] (.tup [(frm op).v,.bool false]):=by
 refine Pure.of 0 (A2.enter B0k (Nat.le_of_ble_eq_true rfl) ?_)
 refine Run.go 100 ?_
 simp -implicitDefEqProofs only [go_sem,A4]
 refine A2.pureF (r:=B6c) B1D rfl ?_
 have hno:=of_decide_eq_false h
 have hf:frm op=⟨[],0,0,0,0,0⟩:=by rw [frm,if_neg (by rw [h];simp)]
 rw [hf]
 have hw:(C3M.map fun w=> [V.str w]).length=29:=rfl
 simp -implicitDefEqProofs only [go_sem,B6c,hw]
 omega
theorem C4C(op:Int):Pure Tryz.prog 82 [.int .i64 op] (.tup [(frm op).v,.bool (S6 op)]):=by
 cases h:S6 op with
 |false=>exact D0T h
 |true=>
  obtain⟨n,rfl,h1,h2⟩:=B6O h
  have:=C7u n h1 h2
  rwa [show frm (n:Int)=B0Y n by rw [frm,if_pos h];rfl]
theorem B5e: ∀n:Nat,n≤12→Pure Tryz.prog 84 [.int .i64 n] (.tup [.int .i64 (low n),.int .i64 (high n)]):=by
 have this:(List.range 13).all (fun n=>eqR (exR Tryz.prog exT B9S 1000 5 1 84 [.int .i64 n]) (.tup [.int .i64 (low n),.int .i64 (high n)]))=true:=by kernel_rfl
 intro n h2
 exact Pure.execB (m:=1000) (d:=5) (fr:=1) B5k B3l (List.all_eq_true.1 this n (List.mem_range.2 (by omega)))
theorem B5l(f:Frm)(i:Ins):Pure Tryz.prog 83 [f.v,i.v] (.tup [.agg (B2V f.ks),.agg (B2V i.fs)]):=by
 refine Pure.of 0 (A2.enter A4J (Nat.le_of_ble_eq_true rfl) ?_)
 refine Run.go 100 ?_
 simp -implicitDefEqProofs only [go_sem,A4,B2V,Frm.ks,Ins.fs]
theorem B1W(i:Ins):Pure Tryz.prog 59 [i.v] (.tup [.int .i64 (if W5 i.op then i.b else 0),.bool (W5 i.op)]):=by
 have hj:W5 i.op=decide (i.op=14∨i.op=15∨i.op=23∨i.op=24∨i.op=26):=rfl
 rw [hj]
 refine Pure.of 0 (A2.enter A4G (Nat.le_of_ble_eq_true rfl) ?_)
 refine Run.go 100 ?_
 simp -implicitDefEqProofs only [go_sem,A4]
 repeat' (first|refine And.intro ?_ ?_|refine fun h=> ?_)
 all_goals simp_all
end Go.Proofs.YtnihmhbcjpcobaaGreatDoor
