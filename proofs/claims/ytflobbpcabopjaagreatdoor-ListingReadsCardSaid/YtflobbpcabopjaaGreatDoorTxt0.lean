/-
 Instructions: their fields, forms and errors, as data. No program, no condition.
-/
import Derived.Test.YtflobbpcabopjaaGreatDoorExe
import Derived.Lib.AtoiAll
import Derived.Lib.ItoaNum
import Derived.Lib.ItoaLen
import Derived.Lib.Split
set_option linter.unusedVariables false set_option maxRecDepth 100000
set_option maxHeartbeats 0
namespace Go.Proofs.YtflobbpcabopjaaGreatDoor
section
open Go.Abs
structure Ins where
 op:Int
 a:Int
 b:Int
 c:Int
 d:Int
 deriving DecidableEq,Inhabited
def Ins.row(i:Ins):List V:= [.int .i64 i.op,.int .i64 i.a,.int .i64 i.b,.int .i64 i.c,.int .i64 i.d]
def Ins.v(i:Ins):V:= .agg i.row
structure Frm where
 word:List UInt8
 a:Int
 b:Int
 c:Int
 d:Int
 room:Int
 deriving DecidableEq,Inhabited
def Frm.row(f:Frm):List V:= [.str f.word,.int .i64 f.a,.int .i64 f.b,.int .i64 f.c,.int .i64 f.d,.int .i64 f.room]
def Frm.v(f:Frm):V:= .agg f.row
def d8:List (List UInt8):= [[109,111,118,101],[99,111,110,115,116],[110,105,108],[98,111,111,108],[117,112,103,101,116],[117,112,115,101,116],[103,108,111,98,97,108],[115,101,116,103,108,111,98],[103,101,116],[115,101,116],[115,101,108,102],[117,110,97,114,121],[98,105,110,97,114,121],[106,117,109,112],[116,101,115,116],[99,97,108,108],[116,97,105,108],[114,101,116,117,114,110],[118,97,114,97,114,103],[116,97,98,108,101],[97,112,112,101,110,100],[99,108,111,115,117,114,101],[112,114,101,112],[108,111,111,112],[105,116,101,114],[110,101,120,116],[99,108,111,115,101],[109,97,114,107],[115,116,97,116]]
def C6A:List Frm:= [
 ⟨[],0,0,0,0,0⟩,⟨[],1,1,0,0,0⟩,⟨[],1,2,0,0,0⟩,⟨[],1,1,0,0,0⟩,⟨[],1,8,0,0,0⟩,⟨[],1,3,0,0,0⟩,⟨[],3,1,0,0,0⟩,⟨[],1,2,0,0,0⟩,⟨[],2,1,0,0,0⟩,⟨[],1,1,1,0,0⟩,
 ⟨[],1,1,1,0,0⟩,⟨[],1,1,2,0,1⟩,⟨[],1,1,9,0,0⟩,⟨[],1,1,1,10,0⟩,⟨[],0,5,0,0,0⟩,⟨[],1,5,8,0,0⟩,⟨[],1,7,6,0,0⟩,⟨[],1,7,0,0,0⟩,⟨[],1,7,0,0,0⟩,⟨[],1,6,0,0,0⟩,
 ⟨[],1,0,0,0,0⟩,⟨[],1,7,12,0,0⟩,⟨[],1,4,0,0,0⟩,⟨[],1,5,0,0,3⟩,⟨[],1,5,0,0,3⟩,⟨[],1,0,11,0,3⟩,⟨[],1,5,0,0,3⟩,⟨[],1,0,0,0,0⟩,⟨[],1,0,0,0,0⟩,⟨[],8,0,0,0,0⟩]
def A1g(op:Int):Bool:=decide (1≤op∧op≤29)
def B3f(n:Nat):Frm:={C6A.getD n default with word:=d8.getD (n-1) []}
def frm(op:Int):Frm:=if A1g op then B3f op.toNat else⟨[],0,0,0,0,0⟩
def C6U:List Int:= [0,0,0,0,0,0, -1, -1,0,20,1,1,1]
def B9H:List Int:= [0,4095,4095,59,1023,16383,200,4096,1,23,19,200,32767]
def low(k:Int):Int:=C6U.getD k.toNat 0
def high(k:Int):Int:=B9H.getD k.toNat 0
def Frm.ks(f:Frm):List Int:= [f.a,f.b,f.c,f.d]
def Ins.fs(i:Ins):List Int:= [i.a,i.b,i.c,i.d]
def B1S(f:Frm)(i:Ins):Int:=
 if i.op=16 then mm2 true (i.a+i.b) (i.a+i.c-1)
 else if i.op=17∨i.op=21 then i.a+i.b
 else if i.op=18∨i.op=19 then i.a+i.b-1
 else if i.op=25 then i.a+2+i.c
 else i.a+f.room
def A4H(k x:Int):Bool:=decide (k=0→x=0)
def A4I(k x:Int):Bool:=decide (low k≤x∧x≤high k)
def chk(i:Ins):Int:=
 if A1g i.op=false then 4
 else
  let f:=frm i.op
  if (A4H f.a i.a&&A4H f.b i.b&&A4H f.c i.c&&A4H f.d i.d)=false then 4
  else if (A4I f.a i.a&&A4I f.b i.b&&A4I f.c i.c&&A4I f.d i.d)=false then 6
  else if f.a=1∧B1S f i≥4096∨i.op=3∧i.b<i.a then 6
  else 0
def B5e(op:Int):Bool:=decide (op=14∨op=15∨op=23∨op=24∨op=26)
theorem A8H{op:Int}(h:A1g op=true):op=1∨op=2∨op=3∨op=4∨op=5∨op=6∨op=7∨op=8∨op=9∨op=10∨op=11∨op=12∨op=13∨op=14∨op=15∨op=16∨op=17∨op=18∨op=19∨op=20∨op=21∨op=22∨op=23∨op=24∨op=25∨op=26∨op=27∨op=28∨op=29:=by
 unfold A1g at h
 have:=of_decide_eq_true h
 omega
theorem A5i{op:Int}(h:A1g op=true): ∃n:Nat,op=n∧1≤n∧n≤29:=by
 have:=of_decide_eq_true h
 exact⟨op.toNat,by omega,by omega,by omega⟩
structure Shp where
 word:List UInt8
 ha:Bool
 hb:Bool
 hc:Bool
 hd:Bool
 la:Int
 lb:Int
 lc:Int
 ld:Int
 ma:Int
 mb:Int
 mc:Int
 md:Int
 deriving DecidableEq,Inhabited
def Shp.row(s:Shp):List V:= [.str s.word,.bool s.ha,.bool s.hb,.bool s.hc,.bool s.hd,.int .i64 s.la,.int .i64 s.lb,.int .i64 s.lc,.int .i64 s.ld,.int .i64 s.ma,.int .i64 s.mb,.int .i64 s.mc,.int .i64 s.md]
def Shp.v(s:Shp):V:= .agg s.row
def mx(a b:Int):Int:=mm2 true a b
theorem B4I{i:Ins}(h:chk i=0):A1g i.op=true∧ -1≤i.a∧i.a≤4095∧ -1≤i.b∧i.b≤16383∧ -1≤i.c∧i.c≤32767∧0≤i.d∧i.d≤19∧0≤i.a:=by
 unfold chk at h
 cases ho:A1g i.op with
 |false=>rw [ho]at h;simp at h
 |true=>
  obtain⟨op,a,b,c,d⟩:=i
  simp only at h ho⊢
  rcases A8H ho with rfl|rfl|rfl|rfl|rfl|rfl|rfl|rfl|rfl|rfl|rfl|rfl|rfl|rfl|rfl|rfl|rfl|rfl|rfl|rfl|rfl|rfl|rfl|rfl|rfl|rfl|rfl|rfl|rfl<;>
  (simp [frm,B3f,C6A,A1g,A4H,A4I,low,high,C6U,B9H,B1S,mm2]at h;refine⟨trivial,?_⟩;omega)
end
section
open Go Go.Abs
theorem W9{u:Nat}(h:u<10):(UInt8.ofNat (48+u)).toNat=48+u:=by
 rw [UInt8.toNat_ofNat'];omega
theorem B8h: ∀(u:Nat),u<1000000000→ ∀r,Lib.parseUint10 0 (Lib.decDigits u++r)=Lib.parseUint10 u r:=by
 exact JS
theorem H6: ∀(u:Nat),∀c∈Lib.decDigits u,48≤c.toNat∧c.toNat≤57:=by
 intro u
 induction u using Nat.strongRecOn with
 | ind u ih=>
  intro c hc
  rw [Lib.decDigits]at hc
  by_cases h:u<10
  ·rw [dif_pos h,List.mem_singleton]at hc
   rw [hc,W9 h];omega
  ·rw [dif_neg h]at hc
   rcases List.mem_append.1 hc with hc|hc
   ·exact ih (u/10) zd c hc
   ·rw [List.mem_singleton]at hc
    rw [hc,W9 zd];omega
theorem P5(u:Nat):Lib.decDigits u≠ []:=by
 rw [Lib.decDigits]
 split
 ·simp
 ·simp
theorem B4R{u:Nat}(h:u<1000000000):Lib.parseMag (Lib.decDigits u)= .ok u:=by
 unfold Lib.parseMag
 rw [if_neg (P5 u)]
 have:=B8h u h []
 rw [List.append_nil]at this
 rw [this];rfl
theorem C4C{n:Int}(h0: -1000000≤n)(h1:n≤1000000):Lib.atoiAll (Lib.itoa n)= .ok n:=by
 unfold Lib.itoa
 by_cases h:n<0
 ·rw [if_pos h]
  unfold Lib.atoiAll
  have e:((45:UInt8).toNat=43∨(45:UInt8).toNat=45):=by decide
  simp only [if_pos e,B4R (show n.natAbs<1000000000 by omega)]
  rw [if_neg zg,if_neg zd,if_pos zf]
  congr 1;omega
 ·rw [if_neg h]
  have hm:=B4R (show n.toNat<1000000000 by omega)
  have hi:=H6 n.toNat
  cases hd:Lib.decDigits n.toNat with
  |nil=>exact absurd hd (P5 _)
  |cons c r=>
   rw [hd]at hm hi
   have hc:=hi c List.mem_cons_self
   unfold Lib.atoiAll
   have e: ¬(c.toNat=43∨c.toNat=45):=by omega
   simp only [if_neg e,hm]
   have e2: ¬c.toNat=45:=by omega
   rw [if_neg zd,if_neg zd,if_neg e2]
   congr 1;omega
theorem A4e(n:Int):(32:UInt8)∉Lib.itoa n:=by
 exact XY
theorem B7c: ∀{w:List UInt8} (r:List UInt8),(32:UInt8)∉w→Lib.index (w++32::r) [32]=w.length
 | [],r,_=>by simp [Lib.index,List.isPrefixOf]
 |b::w,r,h=>by
  have hb: ¬(32:UInt8)=b:=fun e=>h zQ
  have ih:=B7c (w:=w) r fun e=>h (List.mem_cons_of_mem _ e)
  rw [List.cons_append,Lib.index,ih]
  have:([32]:List UInt8).isPrefixOf (b::(w++32::r))=false:=by simp [List.isPrefixOf,hb]
  rw [this]
  have h2:(((w.length:Int))== -1)=false:=by simp
  simp only [h2,List.length_cons,Bool.false_eq_true,if_false]
  omega
theorem B5c: ∀{w:List UInt8},(32:UInt8)∉w→Lib.index w [32]= -1
 | [],_=>by simp [Lib.index]
 |b::w,h=>by
  have hb: ¬(32:UInt8)=b:=fun e=>h zQ
  have ih:=B5c (w:=w) fun e=>h (List.mem_cons_of_mem _ e)
  rw [Lib.index,ih]
  have:([32]:List UInt8).isPrefixOf (b::w)=false:=by simp [List.isPrefixOf,hb]
  rw [this];rfl
theorem B7E{w:List UInt8}(h:(32:UInt8)∉w):Lib.split w [32]= [w]:=by
 unfold Lib.split
 rw [Lib.count_miss (B5c h)]
 rfl
theorem C2w{w:List UInt8}(r:List UInt8)(h:(32:UInt8)∉w):Lib.split (w++32::r) [32]=w::Lib.split r [32]:=by
 have hi:=B7c r h
 have hd:(w++32::r).drop (w.length+1)=r:=by
  rw [List.drop_append];simp
 have hc:Lib.count (w++32::r) [32]=Lib.count r [32]+1:=by
  rw [Lib.count_hit zg hi]
  show 1+Lib.count ((w++32::r).drop (w.length+1)) [32]=_
  rw [hd];omega
 unfold Lib.split
 rw [hc,Lib.splitK]
 have h2:(Lib.index (w++32::r) [32]== -1)=false:=by rw [hi];simp
 rw [h2,hi]
 simp only [Bool.false_eq_true,if_false,Int.toNat_natCast,Nat.add_zero,List.take_left',List.length_singleton,hd]
def A1P:List Int→List Int→List UInt8
 |k::ks,x::xs=>(if k=0 then []else 32::Lib.itoa x)++A1P ks xs
 |_,_=> []
def A3O:List Int→List Int→List (List UInt8)
 |k::ks,x::xs=>if k=0 then A3O ks xs else Lib.itoa x::A3O ks xs
 |_,_=> []
theorem A6K: ∀(ks xs:List Int) {w:List UInt8},(32:UInt8)∉w→Lib.split (w++A1P ks xs) [32]=w::A3O ks xs
 | [],_,w,h=>by simp only [A1P,A3O,List.append_nil];exact B7E h
 |_::_,[],w,h=>by simp only [A1P,A3O,List.append_nil];exact B7E h
 |k::ks,x::xs,w,h=>by
  rw [A1P,A3O]
  by_cases hk:k=0
  ·rw [if_pos hk,if_pos hk,List.nil_append];exact A6K ks xs h
  ·rw [if_neg hk,if_neg hk,List.cons_append,C2w _ h,A6K ks xs (A4e x)]
def N6:List Int→List (List UInt8)→Option (List Int×List (List UInt8))
 | [],l=>some ([],l)
 | k::ks,l=>if k=0 then(N6 ks l).map fun p=>(0::p.1,p.2)else
  match l with
  | []=>none
  |w::r=>match Lib.atoiAll w with
   | .ok n=>(N6 ks r).map fun p=>(n::p.1,p.2)
   |_=>none
theorem B5I: ∀(ks xs:List Int),ks.length=xs.length→(∀x∈xs, -1000000≤x∧x≤1000000)→(∀p∈ks.zip xs,p.1=0→p.2=0)→N6 ks (A3O ks xs)=some (xs,[])
 | [],[],_,_,_=>rfl
 | [],_::_,h,_,_=>by cases h
 |_::_,[],h,_,_=>by cases h
 | k::ks,x::xs,h,hb,hz=>by
  have ih:=B5I ks xs zp (fun y hy=>hb y (List.mem_cons_of_mem _ hy)) (fun p hp=>hz p (by rw [List.zip_cons_cons];exact List.mem_cons_of_mem _ hp))
  by_cases hk:k=0
  ·rw [A3O,if_pos hk]
   unfold N6
   rw [if_pos hk,ih]
   have:=hz (k,x) (by rw [List.zip_cons_cons];exact List.mem_cons_self) hk
   simp only at this
   rw [this];rfl
  ·have hx:=hb x List.mem_cons_self
   rw [A3O,if_neg hk]
   unfold N6
   rw [if_neg hk]
   simp only [C4C hx.1 hx.2,ih]
   rfl
theorem B5X: ∀(k:Nat) (s:List UInt8),∀w∈Lib.splitK [32] 0 k s,w.length≤s.length
 |0,s,w,h=>by
  rw [Lib.splitK,List.mem_singleton]at h
  rw [h];exact Nat.le_refl _
 | k+1,s,w,h=>by
  rw [Lib.splitK]at h
  split at h
  ·rw [List.mem_singleton]at h
   rw [h];exact Nat.le_refl _
  ·rcases List.mem_cons.1 h with h|h
   ·rw [h,List.length_take];omega
   ·have:=B5X k _ w h
    rw [List.length_drop]at this
    omega
theorem C5B{s w:List UInt8}(h:w∈Lib.split s [32]):w.length≤s.length:=B5X _ _ w h
theorem Y8{n:Int}(h0: -9223372036854775808≤n)(h1:n≤9223372036854775807):(Lib.itoa n).length≤21:=Lib.itoa_length_le n h0 h1
theorem B1y{i:Ins}(h:chk i=0):A1g i.op=true∧ ∀p∈(frm i.op).ks.zip i.fs,p.1=0→p.2=0:=by
 unfold chk at h
 cases ho:A1g i.op with
 |false=>rw [ho]at h;simp at h
 | true=>
  refine⟨rfl,?_⟩
  rw [ho]at h
  simp only [Bool.true_eq_false,if_false]at h
  split at h
  ·omega
  ·rename_i hf
   rw [Bool.not_eq_false]at hf
   simp only [Bool.and_eq_true,A4H,decide_eq_true_eq]at hf
   obtain⟨⟨⟨h1,h2⟩,h3⟩,h4⟩:=hf
   intro p hp
   simp only [Frm.ks,Ins.fs,List.zip_cons_cons,List.zip_nil_right,List.mem_cons,List.not_mem_nil,or_false]at hp
   rcases hp with rfl|rfl|rfl|rfl
   ·exact h1
   ·exact h2
   ·exact h3
   ·exact h4
theorem D0d(op:Int):(32:UInt8)∉(frm op).word:=by
 unfold frm
 cases h:A1g op with
 |false=>simp
 |true=>
  obtain⟨n,rfl,h1,h2⟩:=A5i h
  simp only [if_true,Int.toNat_natCast]
  have: ∀n:Nat,n≤29→(32:UInt8)∉(B3f n).word:=by decide
  exact this n h2
def D3(i:Ins):List UInt8:=if A1g i.op=true then(frm i.op).word++A1P (frm i.op).ks i.fs else []
theorem C2z{i:Ins}(h:A1g i.op=true):Lib.split (D3 i) [32]=(frm i.op).word::A3O (frm i.op).ks i.fs:=by
 unfold D3
 rw [if_pos h]
 exact A6K _ _ (D0d i.op)
theorem C5G{i:Ins}(h:chk i=0)(hb: ∀x∈i.fs, -1000000≤x∧x≤1000000):N6 (frm i.op).ks (A3O (frm i.op).ks i.fs)=some (i.fs,[]):=
 B5I _ _ rfl hb (B1y h).2
end
end Go.Proofs.YtflobbpcabopjaaGreatDoor
