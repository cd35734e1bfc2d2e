/-
 Instructions: their fields, forms and errors, as data. No program, no condition.
-/
import Derived.Test.YtcjgeliglgcflaaGreatDoorExe
set_option linter.unusedVariables false
set_option linter.unusedSimpArgs false
set_option maxRecDepth 100000
namespace Go.Proofs.YtcjgeliglgcflaaGreatDoor
open Go.Abs
structure Ins where
 op:Int
 a:Int
 b:Int
 c:Int
 d:Int
 deriving DecidableEq,Inhabited
def Ins.row(i:Ins):List V:= [.int .i64 i.op,.int .i64 i.a,.int .i64 i.b,.int .i64 i.c,.int .i64 i.d]
def Ins.v(i:Ins):V:= .agg i.row
structure Frm where
 word:List UInt8
 a:Int
 b:Int
 c:Int
 d:Int
 room:Int
 deriving DecidableEq,Inhabited
def Frm.row(f:Frm):List V:= [.str f.word,.int .i64 f.a,.int .i64 f.b,.int .i64 f.c,.int .i64 f.d,.int .i64 f.room]
def Frm.v(f:Frm):V:= .agg f.row
def C2O:List (List UInt8):= [[109,111,118,101],[99,111,110,115,116],[110,105,108],[98,111,111,108],[117,112,103,101,116],[117,112,115,101,116],[103,108,111,98,97,108],[115,101,116,103,108,111,98],[103,101,116],[115,101,116],[115,101,108,102],[117,110,97,114,121],[98,105,110,97,114,121],[106,117,109,112],[116,101,115,116],[99,97,108,108],[116,97,105,108],[114,101,116,117,114,110],[118,97,114,97,114,103],[116,97,98,108,101],[97,112,112,101,110,100],[99,108,111,115,117,114,101],[112,114,101,112],[108,111,111,112],[105,116,101,114],[110,101,120,116],[99,108,111,115,101],[109,97,114,107],[115,116,97,116]]
def C1n:List Frm:= [
 ⟨[],0,0,0,0,0⟩,⟨[],1,1,0,0,0⟩,⟨[],1,2,0,0,0⟩,⟨[],1,1,0,0,0⟩,⟨[],1,8,0,0,0⟩,⟨[],1,3,0,0,0⟩,⟨[],3,1,0,0,0⟩,⟨[],1,2,0,0,0⟩,⟨[],2,1,0,0,0⟩,⟨[],1,1,1,0,0⟩,
 ⟨[],1,1,1,0,0⟩,⟨[],1,1,2,0,1⟩,⟨[],1,1,9,0,0⟩,⟨[],1,1,1,10,0⟩,⟨[],0,5,0,0,0⟩,⟨[],1,5,8,0,0⟩,⟨[],1,7,6,0,0⟩,⟨[],1,7,0,0,0⟩,⟨[],1,7,0,0,0⟩,⟨[],1,6,0,0,0⟩,
 ⟨[],1,0,0,0,0⟩,⟨[],1,7,12,0,0⟩,⟨[],1,4,0,0,0⟩,⟨[],1,5,0,0,3⟩,⟨[],1,5,0,0,3⟩,⟨[],1,0,11,0,3⟩,⟨[],1,5,0,0,3⟩,⟨[],1,0,0,0,0⟩,⟨[],1,0,0,0,0⟩,⟨[],8,0,0,0,0⟩]
def A1Z(op:Int):Bool:=decide (1≤op∧op≤29)
def B1M(n:Nat):Frm:={C1n.getD n default with word:=C2O.getD (n-1) []}
def frm(op:Int):Frm:=if A1Z op then B1M op.toNat else⟨[],0,0,0,0,0⟩
def C1G:List Int:= [0,0,0,0,0,0, -1, -1,0,20,1,1,1]
def B5G:List Int:= [0,4095,4095,59,1023,16383,200,4096,1,23,19,200,32767]
def low(k:Int):Int:=C1G.getD k.toNat 0
def high(k:Int):Int:=B5G.getD k.toNat 0
def Frm.ks(f:Frm):List Int:= [f.a,f.b,f.c,f.d]
def Ins.fs(i:Ins):List Int:= [i.a,i.b,i.c,i.d]
def A8N(f:Frm)(i:Ins):Int:=
 if i.op=16 then mm2 true (i.a+i.b) (i.a+i.c-1)
 else if i.op=17∨i.op=21 then i.a+i.b
 else if i.op=18∨i.op=19 then i.a+i.b-1
 else if i.op=25 then i.a+2+i.c
 else i.a+f.room
def A3H(k x:Int):Bool:=decide (k=0→x=0)
def A3v(k x:Int):Bool:=decide (low k≤x∧x≤high k)
def chk(i:Ins):Int:=
 if A1Z i.op=false then 4
 else
  let f:=frm i.op
  if (A3H f.a i.a&&A3H f.b i.b&&A3H f.c i.c&&A3H f.d i.d)=false then 4
  else if (A3v f.a i.a&&A3v f.b i.b&&A3v f.c i.c&&A3v f.d i.d)=false then 6
  else if f.a=1∧A8N f i≥4096∨i.op=3∧i.b<i.a then 6
  else 0
def B1Q(op:Int):Bool:=decide (op=14∨op=15∨op=23∨op=24∨op=26)
theorem A8T{op:Int}(h:A1Z op=true):op=1∨op=2∨op=3∨op=4∨op=5∨op=6∨op=7∨op=8∨op=9∨op=10∨op=11∨op=12∨op=13∨op=14∨op=15∨op=16∨op=17∨op=18∨op=19∨op=20∨op=21∨op=22∨op=23∨op=24∨op=25∨op=26∨op=27∨op=28∨op=29:=by
 unfold A1Z at h
 have:=of_decide_eq_true h
 omega
theorem B1R{op:Int}(h:A1Z op=true): ∃n:Nat,op=n∧1≤n∧n≤29:=by
 have:=of_decide_eq_true h
 exact⟨op.toNat,by omega,by omega,by omega⟩
structure Shp where
 word:List UInt8
 ha:Bool
 hb:Bool
 hc:Bool
 hd:Bool
 la:Int
 lb:Int
 lc:Int
 ld:Int
 ma:Int
 mb:Int
 mc:Int
 md:Int
 deriving DecidableEq,Inhabited
def Shp.row(s:Shp):List V:= [.str s.word,.bool s.ha,.bool s.hb,.bool s.hc,.bool s.hd,.int .i64 s.la,.int .i64 s.lb,.int .i64 s.lc,.int .i64 s.ld,.int .i64 s.ma,.int .i64 s.mb,.int .i64 s.mc,.int .i64 s.md]
def Shp.v(s:Shp):V:= .agg s.row
def mx(a b:Int):Int:=mm2 true a b
theorem B1x{i:Ins}(h:chk i=0):A1Z i.op=true∧ -1≤i.a∧i.a≤4095∧ -1≤i.b∧i.b≤16383∧ -1≤i.c∧i.c≤32767∧0≤i.d∧i.d≤19∧0≤i.a:=by
 unfold chk at h
 cases ho:A1Z i.op with
 |false=>rw [ho]at h;simp at h
 |true=>
  obtain⟨op,a,b,c,d⟩:=i
  simp only at h ho⊢
  rcases A8T ho with rfl|rfl|rfl|rfl|rfl|rfl|rfl|rfl|rfl|rfl|rfl|rfl|rfl|rfl|rfl|rfl|rfl|rfl|rfl|rfl|rfl|rfl|rfl|rfl|rfl|rfl|rfl|rfl|rfl<;>
  (simp [frm,B1M,C1n,A1Z,A3H,A3v,low,high,C1G,B5G,A8N,mm2]at h;refine⟨trivial,?_⟩;omega)
end Go.Proofs.YtcjgeliglgcflaaGreatDoor
