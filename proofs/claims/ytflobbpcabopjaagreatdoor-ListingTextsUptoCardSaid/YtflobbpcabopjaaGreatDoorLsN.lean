/-
 The listing of a function, as bytes. No program, no condition.
-/
import Derived.Test.YtflobbpcabopjaaGreatDoorTxt0
import Derived.Test.YtflobbpcabopjaaGreatDoorFn
set_option linter.unusedVariables false
set_option linter.unusedSimpArgs false
set_option maxRecDepth 100000
namespace Go.Proofs.YtflobbpcabopjaaGreatDoor
open Go.Abs
def F2:List (List UInt8)→List UInt8
 | []=> []
 | [x]=>x
 |x::y::r=>x++32::F2 (y::r)
def C9(c:UInt8):List UInt8:=
 if c.toNat=10 then [92,110]else if c.toNat=9 then [92,116]else if c.toNat=92∨c.toNat=34 then [92,c]
 else if c.toNat<32∨126<c.toNat then [92,UInt8.ofNat (48+c.toNat/100),UInt8.ofNat (48+c.toNat/10%10),UInt8.ofNat (48+c.toNat%10)]else [c]
def F9(s:List UInt8):List UInt8:=34::(s.flatMap C9++ [34])
def B2c(p q:Int):List UInt8:=if q=1 then Lib.itoa p else Lib.itoa p++47::Lib.itoa q
def A0R(v:Kst):List UInt8:=
 if v.kind=1 then(if v.ref=1 then [116,114,117,101]else [102,97,108,115,101])else if v.kind=2 then B2c v.p v.q
 else if v.kind=3 then F9 v.str else [110,105,108]
def D4(p:Fn)(path:List UInt8):List UInt8:=
 F2 [[102,117,110,99],path,F9 p.name,[108,105,110,101],Lib.itoa p.line,[112,97,114,97,109,115],Lib.itoa p.params,[114,101,103,115],Lib.itoa p.regs]++
  (if p.vararg=true then [32,118,97,114,97,114,103]else [])
def B9(i:Nat)(v:Kst):List UInt8:=F2 [[99,111,110,115,116],Lib.itoa i,A0R v]
def upT(i:Nat)(u:Upv):List UInt8:=F2 [[117,112],Lib.itoa i,F9 u.name,if u.loc=true then [108,111,99,97,108]else [111,117,116,101,114],Lib.itoa u.idx]
def I4(i:Nat)(v:Vr):List UInt8:=
 F2 [[118,97,114],Lib.itoa i,F9 v.name,[114,101,103],Lib.itoa v.reg,[102,114,111,109],Lib.itoa v.lo,[116,111],Lib.itoa v.hi]++
  (if v.attr=1 then [32,99,111,110,115,116]else if v.attr=2 then [32,99,108,111,115,101]else [])
def A1u(ls:List Int)(i:Nat):List UInt8:=if ls.length=0 then [45]else Lib.itoa (ls[i]?.getD 0)
def F8(ls:List Int)(i:Nat)(x:Ins):List UInt8:=F2 [Lib.itoa i,A1u ls i,T9 x]
def B0{α:Type}(f:Nat→α→List UInt8)(d:Nat):Nat→List α→List (Nat×List UInt8)
 |_,[]=> []
 |i,x::r=>(d,f i x)::B0 f d (i+1) r
theorem B7d{α:Type}(f:Nat→α→List UInt8)(d:Nat): ∀(l:List α) (i:Nat) (x:α),B0 f d i (l++ [x])=B0 f d i l++ [(d,f (i+l.length) x)]
 | [],i,x=>by simp [B0]
 |y::r,i,x=>by
  rw [List.cons_append,B0,B0,B7d f d r (i+1) x,List.cons_append,List.length_cons]
  congr 5;omega
theorem Y8{α:Type}(f:Nat→α→List UInt8)(d:Nat){l:List α}{k:Nat}{x:α}(h:l[k]? =some x):B0 f d 0 (l.take (k+1))=B0 f d 0 (l.take k)++ [(d,f k x)]:=by
 have hk:=(List.getElem?_eq_some_iff.1 h).1
 rw [List.take_add_one,h,Option.toList_some,B7d,List.length_take,Nat.zero_add,Nat.min_eq_left (by omega)]
theorem B1d{α:Type}(f:Nat→α→List UInt8)(d:Nat): ∀(l m:List α) (i:Nat),B0 f d i (l++m)=B0 f d i l++B0 f d (i+l.length) m
 | [],m,i=>by simp [B0]
 |y::r,m,i=>by
  rw [List.cons_append,B0,B0,B1d f d r m (i+1),List.cons_append,List.length_cons]
  congr 3;omega
theorem B9w{α:Type}(f:Nat→α→List UInt8)(d:Nat): ∀(l:List α) (i:Nat),(B0 f d i l).length=l.length
 | [],_=>rfl
 |y::r,i=>by rw [B0,List.length_cons,B9w f d r,List.length_cons]
def A7Y(p:Fn)(path:List UInt8)(d:Nat):List (Nat×List UInt8):=
 (d,D4 p path)::(B0 B9 (d+1) 0 p.consts++(B0 upT (d+1) 0 p.ups++(B0 I4 (d+1) 0 p.vars++B0 (F8 p.lines) (d+1) 0 p.code)))
mutual
def G4(path:List UInt8)(d:Nat):Fn→List (Nat×List UInt8)
 |⟨a,b,c,e,f,g,h,i,l,j,k⟩=>A7Y ⟨a,b,c,e,f,g,h,i,l,j,k⟩ path d++linesFs path (d+1) 0 l
def linesFs(path:List UInt8)(d i:Nat):List Fn→List (Nat×List UInt8)
 | []=> []
 |q::r=>G4 (path++46::Lib.itoa i) d q++linesFs path d (i+1) r
end
theorem U1(path:List UInt8)(d:Nat)(p:Fn):G4 path d p=A7Y p path d++linesFs path (d+1) 0 p.protos:=by
 obtain⟨a,b,c,e,f,g,h,i,j,k,l⟩:=p
 rw [G4]
theorem A0V(path:List UInt8)(d:Nat): ∀(l m:List Fn) (i:Nat),linesFs path d i (l++m)=linesFs path d i l++linesFs path d (i+l.length) m
 | [],m,i=>by simp [linesFs]
 |q::r,m,i=>by
  rw [List.cons_append,linesFs,linesFs,A0V path d r m (i+1),List.append_assoc,List.length_cons]
  congr 3;omega
theorem B1R(path:List UInt8)(d:Nat){l:List Fn}{k:Nat}{x:Fn}(h:l[k]? =some x):linesFs path d 0 (l.take (k+1))=linesFs path d 0 (l.take k)++G4 (path++46::Lib.itoa k) d x:=by
 have hk:=(List.getElem?_eq_some_iff.1 h).1
 rw [List.take_add_one,h,Option.toList_some,A0V,List.length_take,Nat.zero_add,Nat.min_eq_left (by omega),linesFs,linesFs,List.append_nil]
def S5(l:Nat×List UInt8):List UInt8:=List.replicate (2*l.1) 32++(l.2++ [10])
def Q8(p:Fn):List UInt8:=(G4 [109,97,105,110] 0 p).flatMap S5
def noN(l:List UInt8):Prop:=(10:UInt8)∉l
instance(l:List UInt8):Decidable (noN l):=by unfold noN;infer_instance
theorem A3Y{a b:List UInt8}(h1:noN a)(h2:noN b):noN (a++b):=fun h=>(List.mem_append.1 h).elim h1 h2
theorem H1{c:UInt8}{b:List UInt8}(h1:(10:UInt8)≠c)(h2:noN b):noN (c::b):=fun h=>(List.mem_cons.1 h).elim h1 h2
theorem A0X:noN []:=by simp [noN]
theorem P4(n:Int):noN (Lib.itoa n):=by
 intro hm
 unfold Lib.itoa at hm
 split at hm
 ·rcases List.mem_cons.1 hm with h|h
  ·cases h
  ·have:=Q3 _ _ h;revert this;decide
 ·have:=Q3 _ _ hm;revert this;decide
theorem A2f: ∀{l:List (List UInt8)},(∀x∈l,noN x)→noN (F2 l)
 | [],_=>A0X
 | [x],h=>h x (by simp)
 |x::y::r,h=>A3Y (h x (by simp)) (H1 (by decide) (A2f fun z hz=>h z (List.mem_cons_of_mem _ hz)))
theorem C0W(c:UInt8):noN (C9 c):=by
 have ne: ∀x:Nat,x<256→x≠10→(10:UInt8)≠UInt8.ofNat x:=fun x hx hn e=>hn (by
  have:=congrArg UInt8.toNat e
  rw [UInt8.toNat_ofNat']at this
  have h10:(10:UInt8).toNat=10:=rfl
  omega)
 have hc:=c.toNat_lt
 have hself:c.toNat≠10→(10:UInt8)≠c:=fun h e=>h (by rw [←e];rfl)
 unfold C9
 split
 ·exact H1 (by decide) (H1 (by decide) A0X)
 ·rename_i h10
  split
  ·exact H1 (by decide) (H1 (by decide) A0X)
  ·split
   ·exact H1 (by decide) (H1 (hself h10) A0X)
   ·split
    ·exact H1 (by decide) (H1 (ne _ (by omega) (by omega)) (H1 (ne _ (by omega) (by omega)) (H1 (ne _ (by omega) (by omega)) A0X)))
    ·exact H1 (hself h10) A0X
theorem A6A(s:List UInt8):noN (F9 s):=by
 refine H1 (by decide) (A3Y ?_ (H1 (by decide) A0X))
 intro h
 obtain⟨c,_,hc⟩:=List.mem_flatMap.1 h
 exact C0W c hc
theorem B5K: ∀(ks xs:List Int),noN (E7 ks xs)
 | [],_=>A0X
 |_::_,[]=>A0X
 |k::ks,x::xs=>by
  rw [E7]
  refine A3Y ?_ (B5K ks xs)
  split
  ·exact A0X
  ·exact H1 (by decide) (P4 x)
theorem C4j(i:Ins):noN (T9 i):=by
 unfold T9
 cases h:L3 i.op with
 |false=>simp [noN]
 |true=>
  rw [if_pos rfl]
  refine A3Y ?_ (B5K _ _)
  obtain⟨n,hn,h1,h2⟩:=A2p h
  unfold frm
  rw [h,if_pos rfl,hn,Int.toNat_natCast]
  have: ∀n:Nat,n≤29→(10:UInt8)∉(A8E n).word:=by decide
  exact this n h2
theorem C5u(p q:Int):noN (B2c p q):=by
 unfold B2c
 split
 ·exact P4 p
 ·exact A3Y (P4 p) (H1 (by decide) (P4 q))
theorem C6n(v:Kst):noN (A0R v):=by
 unfold A0R
 split
 ·split
  ·decide
  ·decide
 ·split
  ·exact C5u _ _
  ·split
   ·exact A6A _
   ·decide
theorem C3f(p:Fn)(path:List UInt8)(hp:noN path):noN (D4 p path):=by
 unfold D4
 refine A3Y (A2f fun x hx=> ?_) (by split<;>decide)
 simp only [List.mem_cons,List.not_mem_nil,or_false]at hx
 rcases hx with rfl|rfl|rfl|rfl|rfl|rfl|rfl|rfl|rfl
 all_goals first
  |decide
  |exact hp
  |exact A6A _
  |exact P4 _
theorem C0o(i:Nat)(v:Kst):noN (B9 i v):=by
 refine A2f fun x hx=> ?_
 simp only [List.mem_cons,List.not_mem_nil,or_false]at hx
 rcases hx with rfl|rfl|rfl
 ·decide
 ·exact P4 _
 ·exact C6n v
theorem C7O(i:Nat)(u:Upv):noN (upT i u):=by
 refine A2f fun x hx=> ?_
 simp only [List.mem_cons,List.not_mem_nil,or_false]at hx
 rcases hx with rfl|rfl|rfl|rfl|rfl
 ·decide
 ·exact P4 _
 ·exact A6A _
 ·split<;>decide
 ·exact P4 _
theorem C6p(i:Nat)(v:Vr):noN (I4 i v):=by
 unfold I4
 refine A3Y (A2f fun x hx=> ?_) (by
  split
  ·decide
  ·split<;>decide)
 simp only [List.mem_cons,List.not_mem_nil,or_false]at hx
 rcases hx with rfl|rfl|rfl|rfl|rfl|rfl|rfl|rfl|rfl
 all_goals first
  |decide
  |exact A6A _
  |exact P4 _
theorem C2H(ls:List Int)(i:Nat)(x:Ins):noN (F8 ls i x):=by
 refine A2f fun y hy=> ?_
 simp only [List.mem_cons,List.not_mem_nil,or_false]at hy
 rcases hy with rfl|rfl|rfl
 ·exact P4 _
 ·unfold A1u
  split
  ·decide
  ·exact P4 _
 ·exact C4j x
theorem A8W{α:Type}{f:Nat→α→List UInt8}(hf: ∀i x,noN (f i x)){d:Nat}: ∀{l:List α} {i:Nat},∀e∈B0 f d i l,noN e.2
 | [],_,e,h=>by cases h
 |x::r,i,e,h=>by
  rw [B0]at h
  rcases List.mem_cons.1 h with rfl|h
  ·exact hf i x
  ·exact A8W hf e h
theorem C5D(p:Fn){path:List UInt8}(hp:noN path)(d:Nat): ∀e∈A7Y p path d,noN e.2:=by
 intro e he
 unfold A7Y at he
 rcases List.mem_cons.1 he with rfl|he
 ·exact C3f p path hp
 ·rcases List.mem_append.1 he with he|he
  ·exact A8W C0o e he
  ·rcases List.mem_append.1 he with he|he
   ·exact A8W C7O e he
   ·rcases List.mem_append.1 he with he|he
    ·exact A8W C6p e he
    ·exact A8W (C2H p.lines) e he
mutual
theorem A6n: ∀(p:Fn) {path:List UInt8},noN path→ ∀(d:Nat),∀e∈G4 path d p,noN e.2
 |⟨a,b,c,e,f,g,h,i,l,j,k⟩,path,hp,d=>by
  intro x hx
  rw [G4]at hx
  rcases List.mem_append.1 hx with hx|hx
  ·exact C5D _ hp d x hx
  ·exact linesFs_noN l hp (d+1) 0 x hx
theorem linesFs_noN: ∀(l:List Fn) {path:List UInt8},noN path→ ∀(d i:Nat),∀e∈linesFs path d i l,noN e.2
 | [],_,_,d,i=>by intro x hx;rw [linesFs]at hx;cases hx
 |q::r,path,hp,d,i=>by
  intro x hx
  rw [linesFs]at hx
  rcases List.mem_append.1 hx with hx|hx
  ·exact A6n q (A3Y hp (H1 (by decide) (P4 _))) d x hx
  ·exact linesFs_noN r hp d (i+1) x hx
end
mutual
def p7:Fn→Nat
 |⟨_,_,_,_,_,code,_,consts,l,ups,vars⟩=>1+consts.length+ups.length+vars.length+code.length+partsFs l
def partsFs:List Fn→Nat
 | []=>0
 |q::r=>p7 q+partsFs r
end
theorem C3y(p:Fn):p7 p=1+p.consts.length+p.ups.length+p.vars.length+p.code.length+partsFs p.protos:=by
 obtain⟨a,b,c,e,f,g,h,i,j,k,l⟩:=p
 rw [p7]
mutual
theorem A2s: ∀(p:Fn) (path:List UInt8) (d:Nat),(G4 path d p).length=p7 p
 |⟨a,b,c,e,f,g,h,i,l,j,k⟩,path,d=>by
  rw [G4,p7,List.length_append,linesFs_len l]
  unfold A7Y
  simp only [List.length_cons,List.length_append,B9w]
  omega
theorem linesFs_len: ∀(l:List Fn) (path:List UInt8) (d i:Nat),(linesFs path d i l).length=partsFs l
 | [],_,_,_=>by rw [linesFs,partsFs];rfl
 |q::r,path,d,i=>by rw [linesFs,partsFs,List.length_append,A2s q,linesFs_len r]
end
theorem C8n: ∀{l:List (Nat×List UInt8)},(∀e∈l,noN e.2)→(l.flatMap S5).count 10=l.length
 | [],_=>rfl
 |e::r,h=>by
  rw [List.flatMap_cons,List.count_append,C8n (l:=r) fun x hx=>h x (List.mem_cons_of_mem _ hx),List.length_cons]
  unfold S5
  rw [List.count_append,List.count_append,List.count_replicate,List.count_eq_zero_of_not_mem (h e List.mem_cons_self)]
  simp;omega
theorem B9m(p:Fn):(Q8 p).count 10=p7 p:=by
 unfold Q8
 rw [C8n (A6n p (by decide) 0),A2s]
theorem B6M: ∀{l:List (Nat×List UInt8)},l≠ []→ ∃a,l.flatMap S5=a++ [10]
 | [e],_=>⟨List.replicate (2*e.1) 32++e.2,by simp [S5]⟩
 |e::f::r,_=>by
  obtain⟨a,h⟩:=B6M (l:=f::r) (by simp)
  exact⟨S5 e++a,by rw [List.flatMap_cons,h,List.append_assoc]⟩
theorem C3m(path:List UInt8)(d:Nat)(p:Fn):G4 path d p≠ []:=by
 rw [U1];simp [A7Y]
theorem B5z(p:Fn): ∃a,Q8 p=a++ [10]:=B6M (C3m _ _ _)
end Go.Proofs.YtflobbpcabopjaaGreatDoor
