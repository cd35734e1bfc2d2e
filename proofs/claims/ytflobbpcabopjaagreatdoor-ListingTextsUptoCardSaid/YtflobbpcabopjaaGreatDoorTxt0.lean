/-
 The text of an instruction and what it is parsed to, as lists: numerals, words. No program, no condition.
-/
import Derived.Test.YtflobbpcabopjaaGreatDoorOpT
import Derived.Lib.AtoiAll
import Derived.Lib.ItoaNum
import Derived.Lib.ItoaLen
import Derived.Lib.Split
set_option linter.unusedVariables false
set_option linter.unusedSimpArgs false
set_option maxRecDepth 100000
set_option maxHeartbeats 0
namespace Go.Proofs.YtflobbpcabopjaaGreatDoor
open Go Go.Abs
theorem U0{u:Nat}(h:u<10):(UInt8.ofNat (48+u)).toNat=48+u:=by
 rw [UInt8.toNat_ofNat'];omega
theorem B7J: ∀(u:Nat),u<1000000000→ ∀r,Lib.parseUint10 0 (Lib.decDigits u++r)=Lib.parseUint10 u r:=by
 intro u
 induction u using Nat.strongRecOn with
 | ind u ih=>
  intro hu r
  rw [Lib.decDigits]
  by_cases h:u<10
  ·rw [dif_pos h,List.singleton_append,Lib.parseUint10,U0 h,if_pos (by omega),if_neg (by omega),if_neg (by omega)]
   congr 1;omega
  ·rw [dif_neg h,List.append_assoc,ih (u/10) (by omega) (by omega),List.singleton_append,Lib.parseUint10,U0 (by omega),if_pos (by omega),if_neg (by omega),if_neg (by omega)]
   congr 1;omega
theorem Q3: ∀(u:Nat),∀c∈Lib.decDigits u,48≤c.toNat∧c.toNat≤57:=by
 intro u
 induction u using Nat.strongRecOn with
 | ind u ih=>
  intro c hc
  rw [Lib.decDigits]at hc
  by_cases h:u<10
  ·rw [dif_pos h,List.mem_singleton]at hc
   rw [hc,U0 h];omega
  ·rw [dif_neg h]at hc
   rcases List.mem_append.1 hc with hc|hc
   ·exact ih (u/10) (by omega) c hc
   ·rw [List.mem_singleton]at hc
    rw [hc,U0 (by omega)];omega
theorem A2e(u:Nat):Lib.decDigits u≠ []:=by
 rw [Lib.decDigits]
 split
 ·simp
 ·simp
theorem B5h{u:Nat}(h:u<1000000000):Lib.parseMag (Lib.decDigits u)= .ok u:=by
 unfold Lib.parseMag
 rw [if_neg (A2e u)]
 have:=B7J u h []
 rw [List.append_nil]at this
 rw [this];rfl
theorem C3i{n:Int}(h0: -1000000≤n)(h1:n≤1000000):Lib.atoiAll (Lib.itoa n)= .ok n:=by
 unfold Lib.itoa
 by_cases h:n<0
 ·rw [if_pos h]
  unfold Lib.atoiAll
  have e:((45:UInt8).toNat=43∨(45:UInt8).toNat=45):=by decide
  simp only [if_pos e,B5h (show n.natAbs<1000000000 by omega)]
  rw [if_neg (by simp),if_neg (by omega),if_pos (by decide)]
  congr 1;omega
 ·rw [if_neg h]
  have hm:=B5h (show n.toNat<1000000000 by omega)
  have hi:=Q3 n.toNat
  cases hd:Lib.decDigits n.toNat with
  |nil=>exact absurd hd (A2e _)
  |cons c r=>
   rw [hd]at hm hi
   have hc:=hi c List.mem_cons_self
   unfold Lib.atoiAll
   have e: ¬(c.toNat=43∨c.toNat=45):=by omega
   simp only [if_neg e,hm]
   have e2: ¬c.toNat=45:=by omega
   rw [if_neg (by omega),if_neg (by omega),if_neg e2]
   congr 1;omega
theorem Q7(n:Int):(32:UInt8)∉Lib.itoa n:=by
 intro hm
 unfold Lib.itoa at hm
 split at hm
 ·rcases List.mem_cons.1 hm with h|h
  ·cases h
  ·have:=Q3 _ _ h;revert this;decide
 ·have:=Q3 _ _ hm;revert this;decide
theorem B6P: ∀{w:List UInt8} (r:List UInt8),(32:UInt8)∉w→Lib.index (w++32::r) [32]=w.length
 | [],r,_=>by simp [Lib.index,List.isPrefixOf]
 |b::w,r,h=>by
  have hb: ¬(32:UInt8)=b:=fun e=>h (by rw [e];exact List.mem_cons_self)
  have ih:=B6P (w:=w) r fun e=>h (List.mem_cons_of_mem _ e)
  rw [List.cons_append,Lib.index,ih]
  have:([32]:List UInt8).isPrefixOf (b::(w++32::r))=false:=by simp [List.isPrefixOf,hb]
  rw [this]
  have h2:(((w.length:Int))== -1)=false:=by simp
  simp only [h2,List.length_cons,Bool.false_eq_true,if_false]
  omega
theorem B5o: ∀{w:List UInt8},(32:UInt8)∉w→Lib.index w [32]= -1
 | [],_=>by simp [Lib.index]
 |b::w,h=>by
  have hb: ¬(32:UInt8)=b:=fun e=>h (by rw [e];exact List.mem_cons_self)
  have ih:=B5o (w:=w) fun e=>h (List.mem_cons_of_mem _ e)
  rw [Lib.index,ih]
  have:([32]:List UInt8).isPrefixOf (b::w)=false:=by simp [List.isPrefixOf,hb]
  rw [this];rfl
theorem B7n{w:List UInt8}(h:(32:UInt8)∉w):Lib.split w [32]= [w]:=by
 unfold Lib.split
 rw [Lib.count_miss (B5o h)]
 rfl
theorem C1v{w:List UInt8}(r:List UInt8)(h:(32:UInt8)∉w):Lib.split (w++32::r) [32]=w::Lib.split r [32]:=by
 have hi:=B6P r h
 have hd:(w++32::r).drop (w.length+1)=r:=by
  rw [List.drop_append];simp
 have hc:Lib.count (w++32::r) [32]=Lib.count r [32]+1:=by
  rw [Lib.count_hit (by simp) hi]
  show 1+Lib.count ((w++32::r).drop (w.length+1)) [32]=_
  rw [hd];omega
 unfold Lib.split
 rw [hc,Lib.splitK]
 have h2:(Lib.index (w++32::r) [32]== -1)=false:=by rw [hi];simp
 rw [h2,hi]
 simp only [Bool.false_eq_true,if_false,Int.toNat_natCast,Nat.add_zero,List.take_left',List.length_singleton,hd]
def E7:List Int→List Int→List UInt8
 |k::ks,x::xs=>(if k=0 then []else 32::Lib.itoa x)++E7 ks xs
 |_,_=> []
def A3j:List Int→List Int→List (List UInt8)
 |k::ks,x::xs=>if k=0 then A3j ks xs else Lib.itoa x::A3j ks xs
 |_,_=> []
theorem A6Z: ∀(ks xs:List Int) {w:List UInt8},(32:UInt8)∉w→Lib.split (w++E7 ks xs) [32]=w::A3j ks xs
 | [],_,w,h=>by simp only [E7,A3j,List.append_nil];exact B7n h
 |_::_,[],w,h=>by simp only [E7,A3j,List.append_nil];exact B7n h
 |k::ks,x::xs,w,h=>by
  rw [E7,A3j]
  by_cases hk:k=0
  ·rw [if_pos hk,if_pos hk,List.nil_append];exact A6Z ks xs h
  ·rw [if_neg hk,if_neg hk,List.cons_append,C1v _ h,A6Z ks xs (Q7 x)]
def B7g:List Int→List (List UInt8)→Option (List Int×List (List UInt8))
 | [],l=>some ([],l)
 | k::ks,l=>if k=0 then(B7g ks l).map fun p=>(0::p.1,p.2)else
  match l with
  | []=>none
  |w::r=>match Lib.atoiAll w with
   | .ok n=>(B7g ks r).map fun p=>(n::p.1,p.2)
   |_=>none
theorem B5M: ∀(ks xs:List Int),ks.length=xs.length→(∀x∈xs, -1000000≤x∧x≤1000000)→(∀p∈ks.zip xs,p.1=0→p.2=0)→B7g ks (A3j ks xs)=some (xs,[])
 | [],[],_,_,_=>rfl
 | [],_::_,h,_,_=>by cases h
 |_::_,[],h,_,_=>by cases h
 | k::ks,x::xs,h,hb,hz=>by
  have ih:=B5M ks xs (by simpa using h) (fun y hy=>hb y (List.mem_cons_of_mem _ hy)) (fun p hp=>hz p (by rw [List.zip_cons_cons];exact List.mem_cons_of_mem _ hp))
  by_cases hk:k=0
  ·rw [A3j,if_pos hk]
   unfold B7g
   rw [if_pos hk,ih]
   have:=hz (k,x) (by rw [List.zip_cons_cons];exact List.mem_cons_self) hk
   simp only at this
   rw [this];rfl
  ·have hx:=hb x List.mem_cons_self
   rw [A3j,if_neg hk]
   unfold B7g
   rw [if_neg hk]
   simp only [C3i hx.1 hx.2,ih]
   rfl
theorem A1a{n:Int}(h0: -9223372036854775808≤n)(h1:n≤9223372036854775807):(Lib.itoa n).length≤21:=Lib.itoa_length_le n h0 h1
theorem B4Z{i:Ins}(h:chk i=0):L3 i.op=true∧ ∀p∈(frm i.op).ks.zip i.fs,p.1=0→p.2=0:=by
 unfold chk at h
 cases ho:L3 i.op with
 |false=>rw [ho]at h;simp at h
 | true=>
  refine⟨rfl,?_⟩
  rw [ho]at h
  simp only [Bool.true_eq_false,if_false]at h
  split at h
  ·omega
  ·rename_i hf
   rw [Bool.not_eq_false]at hf
   simp only [Bool.and_eq_true,A2l,decide_eq_true_eq]at hf
   obtain⟨⟨⟨h1,h2⟩,h3⟩,h4⟩:=hf
   intro p hp
   simp only [Frm.ks,Ins.fs,List.zip_cons_cons,List.zip_nil_right,List.mem_cons,List.not_mem_nil,or_false]at hp
   rcases hp with rfl|rfl|rfl|rfl
   ·exact h1
   ·exact h2
   ·exact h3
   ·exact h4
theorem C7S(op:Int):(32:UInt8)∉(frm op).word:=by
 unfold frm
 cases h:L3 op with
 |false=>simp
 |true=>
  obtain⟨n,rfl,h1,h2⟩:=A2p h
  simp only [if_true,Int.toNat_natCast]
  have: ∀n:Nat,n≤29→(32:UInt8)∉(A8E n).word:=by decide
  exact this n h2
def T9(i:Ins):List UInt8:=if L3 i.op=true then(frm i.op).word++E7 (frm i.op).ks i.fs else []
theorem B6c{i:Ins}(h:L3 i.op=true):Lib.split (T9 i) [32]=(frm i.op).word::A3j (frm i.op).ks i.fs:=by
 unfold T9
 rw [if_pos h]
 exact A6Z _ _ (C7S i.op)
theorem B7q{i:Ins}(h:chk i=0)(hb: ∀x∈i.fs, -1000000≤x∧x≤1000000):B7g (frm i.op).ks (A3j (frm i.op).ks i.fs)=some (i.fs,[]):=
 B5M _ _ rfl hb (B4Z h).2
end Go.Proofs.YtflobbpcabopjaaGreatDoor
