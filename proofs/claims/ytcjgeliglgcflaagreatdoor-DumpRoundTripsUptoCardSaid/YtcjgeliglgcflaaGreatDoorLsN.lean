/-
 The listing of a function, as bytes. No program, no condition.
-/
import Derived.Test.YtcjgeliglgcflaaGreatDoorTxt0
import Derived.Test.YtcjgeliglgcflaaGreatDoorFn
set_option linter.unusedVariables false
set_option linter.unusedSimpArgs false
set_option maxRecDepth 100000
namespace Go.Proofs.YtcjgeliglgcflaaGreatDoor
open Go.Abs
def Q4:List (List UInt8)→List UInt8
 | []=> []
 | [x]=>x
 |x::y::r=>x++32::Q4 (y::r)
def K1(c:UInt8):List UInt8:=
 if c.toNat=10 then [92,110]else if c.toNat=9 then [92,116]else if c.toNat=92∨c.toNat=34 then [92,c]
 else if c.toNat<32∨126<c.toNat then [92,UInt8.ofNat (48+c.toNat/100),UInt8.ofNat (48+c.toNat/10%10),UInt8.ofNat (48+c.toNat%10)]else [c]
def R3(s:List UInt8):List UInt8:=34::(s.flatMap K1++ [34])
def B7B(p q:Int):List UInt8:=if q=1 then Lib.itoa p else Lib.itoa p++47::Lib.itoa q
def B0R(v:Kst):List UInt8:=
 if v.kind=1 then(if v.ref=1 then [116,114,117,101]else [102,97,108,115,101])else if v.kind=2 then B7B v.p v.q
 else if v.kind=3 then R3 v.str else [110,105,108]
def A0b(p:Fn)(path:List UInt8):List UInt8:=
 Q4 [[102,117,110,99],path,R3 p.name,[108,105,110,101],Lib.itoa p.line,[112,97,114,97,109,115],Lib.itoa p.params,[114,101,103,115],Lib.itoa p.regs]++
  (if p.vararg=true then [32,118,97,114,97,114,103]else [])
def H2(i:Nat)(v:Kst):List UInt8:=Q4 [[99,111,110,115,116],Lib.itoa i,B0R v]
def upT(i:Nat)(u:Upv):List UInt8:=Q4 [[117,112],Lib.itoa i,R3 u.name,if u.loc=true then [108,111,99,97,108]else [111,117,116,101,114],Lib.itoa u.idx]
def A1y(i:Nat)(v:Vr):List UInt8:=
 Q4 [[118,97,114],Lib.itoa i,R3 v.name,[114,101,103],Lib.itoa v.reg,[102,114,111,109],Lib.itoa v.lo,[116,111],Lib.itoa v.hi]++
  (if v.attr=1 then [32,99,111,110,115,116]else if v.attr=2 then [32,99,108,111,115,101]else [])
def B5R(ls:List Int)(i:Nat):List UInt8:=if ls.length=0 then [45]else Lib.itoa (ls[i]?.getD 0)
def T9(ls:List Int)(i:Nat)(x:Ins):List UInt8:=Q4 [Lib.itoa i,B5R ls i,A9z x]
def D4{α:Type}(f:Nat→α→List UInt8)(d:Nat):Nat→List α→List (Nat×List UInt8)
 |_,[]=> []
 |i,x::r=>(d,f i x)::D4 f d (i+1) r
theorem B3O{α:Type}(f:Nat→α→List UInt8)(d:Nat): ∀(l:List α) (i:Nat) (x:α),D4 f d i (l++ [x])=D4 f d i l++ [(d,f (i+l.length) x)]
 | [],i,x=>by simp [D4]
 |y::r,i,x=>by
  rw [List.cons_append,D4,D4,B3O f d r (i+1) x,List.cons_append,List.length_cons]
  congr 5;omega
theorem A7b{α:Type}(f:Nat→α→List UInt8)(d:Nat){l:List α}{k:Nat}{x:α}(h:l[k]? =some x):D4 f d 0 (l.take (k+1))=D4 f d 0 (l.take k)++ [(d,f k x)]:=by
 have hk:=(List.getElem?_eq_some_iff.1 h).1
 rw [List.take_add_one,h,Option.toList_some,B3O,List.length_take,Nat.zero_add,Nat.min_eq_left (by omega)]
theorem B2k{α:Type}(f:Nat→α→List UInt8)(d:Nat): ∀(l m:List α) (i:Nat),D4 f d i (l++m)=D4 f d i l++D4 f d (i+l.length) m
 | [],m,i=>by simp [D4]
 |y::r,m,i=>by
  rw [List.cons_append,D4,D4,B2k f d r m (i+1),List.cons_append,List.length_cons]
  congr 3;omega
theorem B6c{α:Type}(f:Nat→α→List UInt8)(d:Nat): ∀(l:List α) (i:Nat),(D4 f d i l).length=l.length
 | [],_=>rfl
 |y::r,i=>by rw [D4,List.length_cons,B6c f d r,List.length_cons]
def B4D(p:Fn)(path:List UInt8)(d:Nat):List (Nat×List UInt8):=
 (d,A0b p path)::(D4 H2 (d+1) 0 p.consts++(D4 upT (d+1) 0 p.ups++(D4 A1y (d+1) 0 p.vars++D4 (T9 p.lines) (d+1) 0 p.code)))
mutual
def R2(path:List UInt8)(d:Nat):Fn→List (Nat×List UInt8)
 |⟨a,b,c,e,f,g,h,i,l,j,k⟩=>B4D ⟨a,b,c,e,f,g,h,i,l,j,k⟩ path d++linesFs path (d+1) 0 l
def linesFs(path:List UInt8)(d i:Nat):List Fn→List (Nat×List UInt8)
 | []=> []
 |q::r=>R2 (path++46::Lib.itoa i) d q++linesFs path d (i+1) r
end
theorem B3D(path:List UInt8)(d:Nat)(p:Fn):R2 path d p=B4D p path d++linesFs path (d+1) 0 p.protos:=by
 obtain⟨a,b,c,e,f,g,h,i,j,k,l⟩:=p
 rw [R2]
theorem A3w(path:List UInt8)(d:Nat): ∀(l m:List Fn) (i:Nat),linesFs path d i (l++m)=linesFs path d i l++linesFs path d (i+l.length) m
 | [],m,i=>by simp [linesFs]
 |q::r,m,i=>by
  rw [List.cons_append,linesFs,linesFs,A3w path d r m (i+1),List.append_assoc,List.length_cons]
  congr 3;omega
theorem B4w(path:List UInt8)(d:Nat){l:List Fn}{k:Nat}{x:Fn}(h:l[k]? =some x):linesFs path d 0 (l.take (k+1))=linesFs path d 0 (l.take k)++R2 (path++46::Lib.itoa k) d x:=by
 have hk:=(List.getElem?_eq_some_iff.1 h).1
 rw [List.take_add_one,h,Option.toList_some,A3w,List.length_take,Nat.zero_add,Nat.min_eq_left (by omega),linesFs,linesFs,List.append_nil]
def A3a(l:Nat×List UInt8):List UInt8:=List.replicate (2*l.1) 32++(l.2++ [10])
def B2d(p:Fn):List UInt8:=(R2 [109,97,105,110] 0 p).flatMap A3a
def noN(l:List UInt8):Prop:=(10:UInt8)∉l
instance(l:List UInt8):Decidable (noN l):=by unfold noN;infer_instance
theorem A3g{a b:List UInt8}(h1:noN a)(h2:noN b):noN (a++b):=fun h=>(List.mem_append.1 h).elim h1 h2
theorem G1{c:UInt8}{b:List UInt8}(h1:(10:UInt8)≠c)(h2:noN b):noN (c::b):=fun h=>(List.mem_cons.1 h).elim h1 h2
theorem A0z:noN []:=by simp [noN]
theorem Q3(n:Int):noN (Lib.itoa n):=by
 intro hm
 unfold Lib.itoa at hm
 split at hm
 ·rcases List.mem_cons.1 hm with h|h
  ·cases h
  ·have:=B3o _ _ h;revert this;decide
 ·have:=B3o _ _ hm;revert this;decide
theorem A1z: ∀{l:List (List UInt8)},(∀x∈l,noN x)→noN (Q4 l)
 | [],_=>A0z
 | [x],h=>h x (by simp)
 |x::y::r,h=>A3g (h x (by simp)) (G1 (by decide) (A1z fun z hz=>h z (List.mem_cons_of_mem _ hz)))
theorem B7F(c:UInt8):noN (K1 c):=by
 have ne: ∀x:Nat,x<256→x≠10→(10:UInt8)≠UInt8.ofNat x:=fun x hx hn e=>hn (by
  have:=congrArg UInt8.toNat e
  rw [UInt8.toNat_ofNat']at this
  have h10:(10:UInt8).toNat=10:=rfl
  omega)
 have hc:=c.toNat_lt
 have hself:c.toNat≠10→(10:UInt8)≠c:=fun h e=>h (by rw [←e];rfl)
 unfold K1
 split
 ·exact G1 (by decide) (G1 (by decide) A0z)
 ·rename_i h10
  split
  ·exact G1 (by decide) (G1 (by decide) A0z)
  ·split
   ·exact G1 (by decide) (G1 (hself h10) A0z)
   ·split
    ·exact G1 (by decide) (G1 (ne _ (by omega) (by omega)) (G1 (ne _ (by omega) (by omega)) (G1 (ne _ (by omega) (by omega)) A0z)))
    ·exact G1 (hself h10) A0z
theorem A4K(s:List UInt8):noN (R3 s):=by
 refine G1 (by decide) (A3g ?_ (G1 (by decide) A0z))
 intro h
 obtain⟨c,_,hc⟩:=List.mem_flatMap.1 h
 exact B7F c hc
theorem B2n: ∀(ks xs:List Int),noN (A7c ks xs)
 | [],_=>A0z
 |_::_,[]=>A0z
 |k::ks,x::xs=>by
  rw [A7c]
  refine A3g ?_ (B2n ks xs)
  split
  ·exact A0z
  ·exact G1 (by decide) (Q3 x)
theorem C0y(i:Ins):noN (A9z i):=by
 unfold A9z
 cases h:A1Z i.op with
 |false=>simp [noN]
 |true=>
  rw [if_pos rfl]
  refine A3g ?_ (B2n _ _)
  obtain⟨n,hn,h1,h2⟩:=B1R h
  unfold frm
  rw [h,if_pos rfl,hn,Int.toNat_natCast]
  have: ∀n:Nat,n≤29→(10:UInt8)∉(B1M n).word:=by decide
  exact this n h2
theorem C1O(p q:Int):noN (B7B p q):=by
 unfold B7B
 split
 ·exact Q3 p
 ·exact A3g (Q3 p) (G1 (by decide) (Q3 q))
theorem C2I(v:Kst):noN (B0R v):=by
 unfold B0R
 split
 ·split
  ·decide
  ·decide
 ·split
  ·exact C1O _ _
  ·split
   ·exact A4K _
   ·decide
theorem B9I(p:Fn)(path:List UInt8)(hp:noN path):noN (A0b p path):=by
 unfold A0b
 refine A3g (A1z fun x hx=> ?_) (by split<;>decide)
 simp only [List.mem_cons,List.not_mem_nil,or_false]at hx
 rcases hx with rfl|rfl|rfl|rfl|rfl|rfl|rfl|rfl|rfl
 all_goals first
  |decide
  |exact hp
  |exact A4K _
  |exact Q3 _
theorem B7b(i:Nat)(v:Kst):noN (H2 i v):=by
 refine A1z fun x hx=> ?_
 simp only [List.mem_cons,List.not_mem_nil,or_false]at hx
 rcases hx with rfl|rfl|rfl
 ·decide
 ·exact Q3 _
 ·exact C2I v
theorem C4k(i:Nat)(u:Upv):noN (upT i u):=by
 refine A1z fun x hx=> ?_
 simp only [List.mem_cons,List.not_mem_nil,or_false]at hx
 rcases hx with rfl|rfl|rfl|rfl|rfl
 ·decide
 ·exact Q3 _
 ·exact A4K _
 ·split<;>decide
 ·exact Q3 _
theorem C2L(i:Nat)(v:Vr):noN (A1y i v):=by
 unfold A1y
 refine A3g (A1z fun x hx=> ?_) (by
  split
  ·decide
  ·split<;>decide)
 simp only [List.mem_cons,List.not_mem_nil,or_false]at hx
 rcases hx with rfl|rfl|rfl|rfl|rfl|rfl|rfl|rfl|rfl
 all_goals first
  |decide
  |exact A4K _
  |exact Q3 _
theorem B9m(ls:List Int)(i:Nat)(x:Ins):noN (T9 ls i x):=by
 refine A1z fun y hy=> ?_
 simp only [List.mem_cons,List.not_mem_nil,or_false]at hy
 rcases hy with rfl|rfl|rfl
 ·exact Q3 _
 ·unfold B5R
  split
  ·decide
  ·exact Q3 _
 ·exact C0y x
theorem A6h{α:Type}{f:Nat→α→List UInt8}(hf: ∀i x,noN (f i x)){d:Nat}: ∀{l:List α} {i:Nat},∀e∈D4 f d i l,noN e.2
 | [],_,e,h=>by cases h
 |x::r,i,e,h=>by
  rw [D4]at h
  rcases List.mem_cons.1 h with rfl|h
  ·exact hf i x
  ·exact A6h hf e h
theorem C1X(p:Fn){path:List UInt8}(hp:noN path)(d:Nat): ∀e∈B4D p path d,noN e.2:=by
 intro e he
 unfold B4D at he
 rcases List.mem_cons.1 he with rfl|he
 ·exact B9I p path hp
 ·rcases List.mem_append.1 he with he|he
  ·exact A6h B7b e he
  ·rcases List.mem_append.1 he with he|he
   ·exact A6h C4k e he
   ·rcases List.mem_append.1 he with he|he
    ·exact A6h C2L e he
    ·exact A6h (B9m p.lines) e he
mutual
theorem B7w: ∀(p:Fn) {path:List UInt8},noN path→ ∀(d:Nat),∀e∈R2 path d p,noN e.2
 |⟨a,b,c,e,f,g,h,i,l,j,k⟩,path,hp,d=>by
  intro x hx
  rw [R2]at hx
  rcases List.mem_append.1 hx with hx|hx
  ·exact C1X _ hp d x hx
  ·exact linesFs_noN l hp (d+1) 0 x hx
theorem linesFs_noN: ∀(l:List Fn) {path:List UInt8},noN path→ ∀(d i:Nat),∀e∈linesFs path d i l,noN e.2
 | [],_,_,d,i=>by intro x hx;rw [linesFs]at hx;cases hx
 |q::r,path,hp,d,i=>by
  intro x hx
  rw [linesFs]at hx
  rcases List.mem_append.1 hx with hx|hx
  ·exact B7w q (A3g hp (G1 (by decide) (Q3 _))) d x hx
  ·exact linesFs_noN r hp d (i+1) x hx
end
mutual
def B2m:Fn→Nat
 |⟨_,_,_,_,_,code,_,consts,l,ups,vars⟩=>1+consts.length+ups.length+vars.length+code.length+partsFs l
def partsFs:List Fn→Nat
 | []=>0
 |q::r=>B2m q+partsFs r
end
mutual
theorem B2b: ∀(p:Fn) (path:List UInt8) (d:Nat),(R2 path d p).length=B2m p
 |⟨a,b,c,e,f,g,h,i,l,j,k⟩,path,d=>by
  rw [R2,B2m,List.length_append,linesFs_len l]
  unfold B4D
  simp only [List.length_cons,List.length_append,B6c]
  omega
theorem linesFs_len: ∀(l:List Fn) (path:List UInt8) (d i:Nat),(linesFs path d i l).length=partsFs l
 | [],_,_,_=>by rw [linesFs,partsFs];rfl
 |q::r,path,d,i=>by rw [linesFs,partsFs,List.length_append,B2b q,linesFs_len r]
end
theorem B3v: ∀{l:List (Nat×List UInt8)},l≠ []→ ∃a,l.flatMap A3a=a++ [10]
 | [e],_=>⟨List.replicate (2*e.1) 32++e.2,by simp [A3a]⟩
 |e::f::r,_=>by
  obtain⟨a,h⟩:=B3v (l:=f::r) (by simp)
  exact⟨A3a e++a,by rw [List.flatMap_cons,h,List.append_assoc]⟩
theorem B9N(path:List UInt8)(d:Nat)(p:Fn):R2 path d p≠ []:=by
 rw [B3D];simp [B4D]
theorem B7y(p:Fn): ∃a,B2d p=a++ [10]:=B3v (B9N _ _ _)
end Go.Proofs.YtcjgeliglgcflaaGreatDoor
