/-
 The listing of a function, as bytes. No program, no condition.
-/
import Derived.Test.YtflobbpcabopjaaGreatDoorTxt0
import Derived.Test.YtflobbpcabopjaaGreatDoorFn
set_option linter.unusedVariables false set_option maxRecDepth 100000
namespace Go.Proofs.YtflobbpcabopjaaGreatDoor
section
open Go Go.Abs
def F1:List (List UInt8)→List UInt8
 | []=> []
 | [x]=>x
 |x::y::r=>x++32::F1 (y::r)
def H4(c:UInt8):List UInt8:=
 if c.toNat=10 then [92,110]else if c.toNat=9 then [92,116]else if c.toNat=92∨c.toNat=34 then [92,c]
 else if c.toNat<32∨126<c.toNat then [92,UInt8.ofNat (48+c.toNat/100),UInt8.ofNat (48+c.toNat/10%10),UInt8.ofNat (48+c.toNat%10)]else [c]
def D2(s:List UInt8):List UInt8:=34::(s.flatMap H4++ [34])
def Z3(p q:Int):List UInt8:=if q=1 then Lib.itoa p else Lib.itoa p++47::Lib.itoa q
def A2b(v:Kst):List UInt8:=
 if v.kind=1 then(if v.ref=1 then [116,114,117,101]else [102,97,108,115,101])else if v.kind=2 then Z3 v.p v.q
 else if v.kind=3 then D2 v.str else [110,105,108]
def G5(p:Fn)(path:List UInt8):List UInt8:=
 F1 [[102,117,110,99],path,D2 p.name,[108,105,110,101],Lib.itoa p.line,[112,97,114,97,109,115],Lib.itoa p.params,[114,101,103,115],Lib.itoa p.regs]++
  (if p.vararg=true then [32,118,97,114,97,114,103]else [])
def E6(i:Nat)(v:Kst):List UInt8:=F1 [[99,111,110,115,116],Lib.itoa i,A2b v]
def upT(i:Nat)(u:Upv):List UInt8:=F1 [[117,112],Lib.itoa i,D2 u.name,if u.loc=true then [108,111,99,97,108]else [111,117,116,101,114],Lib.itoa u.idx]
def O1(i:Nat)(v:Vr):List UInt8:=
 F1 [[118,97,114],Lib.itoa i,D2 v.name,[114,101,103],Lib.itoa v.reg,[102,114,111,109],Lib.itoa v.lo,[116,111],Lib.itoa v.hi]++
  (if v.attr=1 then [32,99,111,110,115,116]else if v.attr=2 then [32,99,108,111,115,101]else [])
def A9T(ls:List Int)(i:Nat):List UInt8:=if ls.length=0 then [45]else Lib.itoa (ls[i]?.getD 0)
def I2(ls:List Int)(i:Nat)(x:Ins):List UInt8:=F1 [Lib.itoa i,A9T ls i,D3 x]
def C6{α:Type}(f:Nat→α→List UInt8)(d:Nat):Nat→List α→List (Nat×List UInt8)
 |_,[]=> []
 |i,x::r=>(d,f i x)::C6 f d (i+1) r
theorem A2Q{α:Type}(f:Nat→α→List UInt8)(d:Nat): ∀(l:List α) (i:Nat) (x:α),C6 f d i (l++ [x])=C6 f d i l++ [(d,f (i+l.length) x)]
 | [],i,x=>by simp [C6]
 |y::r,i,x=>by
  rw [List.cons_append,C6,C6,A2Q f d r (i+1) x,List.cons_append,List.length_cons]
  congr 5;omega
theorem A9E{α:Type}(f:Nat→α→List UInt8)(d:Nat){l:List α}{k:Nat}{x:α}(h:l[k]? =some x):C6 f d 0 (l.take (k+1))=C6 f d 0 (l.take k)++ [(d,f k x)]:=by
 have hk:=(List.getElem?_eq_some_iff.1 h).1
 rw [List.take_add_one,h,Option.toList_some,A2Q,List.length_take,Nat.zero_add,Nat.min_eq_left zd]
theorem B5C{α:Type}(f:Nat→α→List UInt8)(d:Nat): ∀(l m:List α) (i:Nat),C6 f d i (l++m)=C6 f d i l++C6 f d (i+l.length) m
 | [],m,i=>by simp [C6]
 |y::r,m,i=>by
  rw [List.cons_append,C6,C6,B5C f d r m (i+1),List.cons_append,List.length_cons]
  congr 3;omega
theorem C0e{α:Type}(f:Nat→α→List UInt8)(d:Nat): ∀(l:List α) (i:Nat),(C6 f d i l).length=l.length
 | [],_=>rfl
 |y::r,i=>by rw [C6,List.length_cons,C0e f d r,List.length_cons]
def B2o(p:Fn)(path:List UInt8)(d:Nat):List (Nat×List UInt8):=
 (d,G5 p path)::(C6 E6 (d+1) 0 p.consts++(C6 upT (d+1) 0 p.ups++(C6 O1 (d+1) 0 p.vars++C6 (I2 p.lines) (d+1) 0 p.code)))
mutual
def F4(path:List UInt8)(d:Nat):Fn→List (Nat×List UInt8)
 |⟨a,b,c,e,f,g,h,i,l,j,k⟩=>B2o ⟨a,b,c,e,f,g,h,i,l,j,k⟩ path d++linesFs path (d+1) 0 l
def linesFs(path:List UInt8)(d i:Nat):List Fn→List (Nat×List UInt8)
 | []=> []
 |q::r=>F4 (path++46::Lib.itoa i) d q++linesFs path d (i+1) r
end
theorem I4(path:List UInt8)(d:Nat)(p:Fn):F4 path d p=B2o p path d++linesFs path (d+1) 0 p.protos:=by
 obtain⟨a,b,c,e,f,g,h,i,j,k,l⟩:=p
 rw [F4]
theorem A1O(path:List UInt8)(d:Nat): ∀(l m:List Fn) (i:Nat),linesFs path d i (l++m)=linesFs path d i l++linesFs path d (i+l.length) m
 | [],m,i=>by simp [linesFs]
 |q::r,m,i=>by
  rw [List.cons_append,linesFs,linesFs,A1O path d r m (i+1),List.append_assoc,List.length_cons]
  congr 3;omega
theorem B8q(path:List UInt8)(d:Nat){l:List Fn}{k:Nat}{x:Fn}(h:l[k]? =some x):linesFs path d 0 (l.take (k+1))=linesFs path d 0 (l.take k)++F4 (path++46::Lib.itoa k) d x:=by
 have hk:=(List.getElem?_eq_some_iff.1 h).1
 rw [List.take_add_one,h,Option.toList_some,A1O,List.length_take,Nat.zero_add,Nat.min_eq_left zd,linesFs,linesFs,List.append_nil]
def T2(l:Nat×List UInt8):List UInt8:=List.replicate (2*l.1) 32++(l.2++ [10])
def N4(p:Fn):List UInt8:=(F4 [109,97,105,110] 0 p).flatMap T2
end
section
open Go Go.Abs
def noN(l:List UInt8):Prop:=(10:UInt8)∉l
instance(l:List UInt8):Decidable (noN l):=by unfold noN;infer_instance
theorem A2I{a b:List UInt8}(h1:noN a)(h2:noN b):noN (a++b):=fun h=>(List.mem_append.1 h).elim h1 h2
theorem I3{c:UInt8}{b:List UInt8}(h1:(10:UInt8)≠c)(h2:noN b):noN (c::b):=fun h=>(List.mem_cons.1 h).elim h1 h2
theorem A0w:noN []:=by simp [noN]
theorem S8(n:Int):noN (Lib.itoa n):=by
 exact XY
theorem A2P: ∀{l:List (List UInt8)},(∀x∈l,noN x)→noN (F1 l)
 | [],_=>A0w
 | [x],h=>h x zg
 |x::y::r,h=>A2I (h x zg) (I3 zf (A2P fun z hz=>h z (List.mem_cons_of_mem _ hz)))
theorem C2g(c:UInt8):noN (H4 c):=by
 have ne: ∀x:Nat,x<256→x≠10→(10:UInt8)≠UInt8.ofNat x:=fun x hx hn e=>hn (by
  have:=congrArg UInt8.toNat e
  rw [UInt8.toNat_ofNat']at this
  have h10:(10:UInt8).toNat=10:=rfl
  omega)
 have hc:=c.toNat_lt
 have hself:c.toNat≠10→(10:UInt8)≠c:=fun h e=>h (by rw [←e];rfl)
 unfold H4
 split
 ·exact I3 zf (I3 zf A0w)
 ·rename_i h10
  split
  ·exact I3 zf (I3 zf A0w)
  ·split
   ·exact I3 zf (I3 (hself h10) A0w)
   ·split
    ·exact I3 zf (I3 (ne _ zd zd) (I3 (ne _ zd zd) (I3 (ne _ zd zd) A0w)))
    ·exact I3 (hself h10) A0w
theorem A6F(s:List UInt8):noN (D2 s):=by
 refine I3 zf (A2I ?_ (I3 zf A0w))
 intro h
 obtain⟨c,_,hc⟩:=List.mem_flatMap.1 h
 exact C2g c hc
theorem B5G: ∀(ks xs:List Int),noN (A1P ks xs)
 | [],_=>A0w
 |_::_,[]=>A0w
 |k::ks,x::xs=>by
  rw [A1P]
  refine A2I ?_ (B5G ks xs)
  split
  ·exact A0w
  ·exact I3 zf (S8 x)
theorem C5F(i:Ins):noN (D3 i):=by
 unfold D3
 cases h:A1g i.op with
 |false=>simp [noN]
 |true=>
  rw [if_pos rfl]
  refine A2I ?_ (B5G _ _)
  obtain⟨n,hn,h1,h2⟩:=A5i h
  unfold frm
  rw [h,if_pos rfl,hn,Int.toNat_natCast]
  have: ∀n:Nat,n≤29→(10:UInt8)∉(B3f n).word:=by decide
  exact this n h2
theorem C7b(p q:Int):noN (Z3 p q):=by
 unfold Z3
 split
 ·exact S8 p
 ·exact A2I (S8 p) (I3 zf (S8 q))
theorem C8h(v:Kst):noN (A2b v):=by
 unfold A2b
 split
 ·split
  ·decide
  ·decide
 ·split
  ·exact C7b _ _
  ·split
   ·exact A6F _
   ·decide
theorem C4x(p:Fn)(path:List UInt8)(hp:noN path):noN (G5 p path):=by
 unfold G5
 refine A2I (A2P fun x hx=> ?_) (by split<;>decide)
 simp only [List.mem_cons,List.not_mem_nil,or_false]at hx
 rcases hx with rfl|rfl|rfl|rfl|rfl|rfl|rfl|rfl|rfl
 all_goals first
  |decide
  |exact hp
  |exact A6F _
  |exact S8 _
theorem C1o(i:Nat)(v:Kst):noN (E6 i v):=by
 refine A2P fun x hx=> ?_
 simp only [List.mem_cons,List.not_mem_nil,or_false]at hx
 rcases hx with rfl|rfl|rfl
 ·decide
 ·exact S8 _
 ·exact C8h v
theorem C9Z(i:Nat)(u:Upv):noN (upT i u):=by
 refine A2P fun x hx=> ?_
 simp only [List.mem_cons,List.not_mem_nil,or_false]at hx
 rcases hx with rfl|rfl|rfl|rfl|rfl
 ·decide
 ·exact S8 _
 ·exact A6F _
 ·split<;>decide
 ·exact S8 _
theorem C8k(i:Nat)(v:Vr):noN (O1 i v):=by
 unfold O1
 refine A2I (A2P fun x hx=> ?_) (by
  split
  ·decide
  ·split<;>decide)
 simp only [List.mem_cons,List.not_mem_nil,or_false]at hx
 rcases hx with rfl|rfl|rfl|rfl|rfl|rfl|rfl|rfl|rfl
 all_goals first
  |decide
  |exact A6F _
  |exact S8 _
theorem C3Z(ls:List Int)(i:Nat)(x:Ins):noN (I2 ls i x):=by
 refine A2P fun y hy=> ?_
 simp only [List.mem_cons,List.not_mem_nil,or_false]at hy
 rcases hy with rfl|rfl|rfl
 ·exact S8 _
 ·unfold A9T
  split
  ·decide
  ·exact S8 _
 ·exact C5F x
theorem A8A{α:Type}{f:Nat→α→List UInt8}(hf: ∀i x,noN (f i x)){d:Nat}: ∀{l:List α} {i:Nat},∀e∈C6 f d i l,noN e.2
 | [],_,e,h=>by cases h
 |x::r,i,e,h=>by
  rw [C6]at h
  rcases List.mem_cons.1 h with rfl|h
  ·exact hf i x
  ·exact A8A hf e h
theorem C7l(p:Fn){path:List UInt8}(hp:noN path)(d:Nat): ∀e∈B2o p path d,noN e.2:=by
 intro e he
 unfold B2o at he
 rcases List.mem_cons.1 he with rfl|he
 ·exact C4x p path hp
 ·rcases List.mem_append.1 he with he|he
  ·exact A8A C1o e he
  ·rcases List.mem_append.1 he with he|he
   ·exact A8A C9Z e he
   ·rcases List.mem_append.1 he with he|he
    ·exact A8A C8k e he
    ·exact A8A (C3Z p.lines) e he
mutual
theorem B0P: ∀(p:Fn) {path:List UInt8},noN path→ ∀(d:Nat),∀e∈F4 path d p,noN e.2
 |⟨a,b,c,e,f,g,h,i,l,j,k⟩,path,hp,d=>by
  intro x hx
  rw [F4]at hx
  rcases List.mem_append.1 hx with hx|hx
  ·exact C7l _ hp d x hx
  ·exact linesFs_noN l hp (d+1) 0 x hx
theorem linesFs_noN: ∀(l:List Fn) {path:List UInt8},noN path→ ∀(d i:Nat),∀e∈linesFs path d i l,noN e.2
 | [],_,_,d,i=>by intro x hx;rw [linesFs]at hx;cases hx
 |q::r,path,hp,d,i=>by
  intro x hx
  rw [linesFs]at hx
  rcases List.mem_append.1 hx with hx|hx
  ·exact B0P q (A2I hp (I3 zf (S8 _))) d x hx
  ·exact linesFs_noN r hp d (i+1) x hx
end
mutual
def A0A:Fn→Nat
 |⟨_,_,_,_,_,code,_,consts,l,ups,vars⟩=>1+consts.length+ups.length+vars.length+code.length+partsFs l
def partsFs:List Fn→Nat
 | []=>0
 |q::r=>A0A q+partsFs r
end
theorem B7v(p:Fn):A0A p=1+p.consts.length+p.ups.length+p.vars.length+p.code.length+partsFs p.protos:=by
 obtain⟨a,b,c,e,f,g,h,i,j,k,l⟩:=p
 rw [A0A]
mutual
theorem B0O: ∀(p:Fn) (path:List UInt8) (d:Nat),(F4 path d p).length=A0A p
 |⟨a,b,c,e,f,g,h,i,l,j,k⟩,path,d=>by
  rw [F4,A0A,List.length_append,linesFs_len l]
  unfold B2o
  simp only [List.length_cons,List.length_append,C0e]
  omega
theorem linesFs_len: ∀(l:List Fn) (path:List UInt8) (d i:Nat),(linesFs path d i l).length=partsFs l
 | [],_,_,_=>by rw [linesFs,partsFs];rfl
 |q::r,path,d,i=>by rw [linesFs,partsFs,List.length_append,B0O q,linesFs_len r]
end
theorem D0y: ∀{l:List (Nat×List UInt8)},(∀e∈l,noN e.2)→(l.flatMap T2).count 10=l.length
 | [],_=>rfl
 |e::r,h=>by
  rw [List.flatMap_cons,List.count_append,D0y (l:=r) fun x hx=>h x (List.mem_cons_of_mem _ hx),List.length_cons]
  unfold T2
  rw [List.count_append,List.count_append,List.count_replicate,List.count_eq_zero_of_not_mem (h e List.mem_cons_self)]
  simp;omega
theorem A8r(p:Fn):(N4 p).count 10=A0A p:=by
 unfold N4
 rw [D0y (B0P p zf 0),B0O]
theorem B6V: ∀{l:List (Nat×List UInt8)},l≠ []→ ∃a,l.flatMap T2=a++ [10]
 | [e],_=>⟨List.replicate (2*e.1) 32++e.2,by simp [T2]⟩
 |e::f::r,_=>by
  obtain⟨a,h⟩:=B6V (l:=f::r) zg
  exact⟨T2 e++a,by rw [List.flatMap_cons,h,List.append_assoc]⟩
theorem C4I(path:List UInt8)(d:Nat)(p:Fn):F4 path d p≠ []:=by
 rw [I4];simp [B2o]
theorem C1R(p:Fn): ∃a,N4 p=a++ [10]:=B6V (C4I _ _ _)
end
end Go.Proofs.YtflobbpcabopjaaGreatDoor
