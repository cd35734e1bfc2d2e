/-
 What listing.Parse answers, as functions of lists: words, numbers, literals, values, lines. No program, no condition.
-/
import Derived.Test.YtflobbpcabopjaaGreatDoorLsS
import Derived.Lib.AtoiAllCases
set_option linter.unusedVariables false set_option linter.unusedSimpArgs false set_option maxRecDepth 100000
set_option maxHeartbeats 0
namespace Go.Proofs.YtflobbpcabopjaaGreatDoor
section
open Go Go.Abs
structure Sc where
 s:List UInt8
 ok:Bool
def Sc.take(x:Sc)(n:Nat):Sc:=
 if n=x.s.length then⟨[],x.ok⟩else if x.s[n]? ≠some 32∨n+1=x.s.length then⟨x.s,false⟩else⟨x.s.drop (n+1),x.ok⟩
def d7:List UInt8→Nat
 | []=>0
 |c::r=>if c=32 then 0 else d7 r+1
def Sc.w(x:Sc):List UInt8:=x.s.take (d7 x.s)
def Sc.word(x:Sc):Sc:=⟨(x.take (d7 x.s)).s,(x.take (d7 x.s)).ok&&decide (x.w≠ [])⟩
def Sc.expect(w:List UInt8)(x:Sc):Sc:=⟨x.word.s,decide (x.w=w)&&x.word.ok⟩
def atN(w:List UInt8):Int:=match Lib.atoiAll w with
 | .ok n=>n
 | .range=>Lib.atoiSat w
 |_=>0
def isN(w:List UInt8):Bool:=match Lib.atoiAll w with
 | .ok n=>decide (Lib.itoa n=w)
 |_=>false
def Sc.num(x:Sc):Sc:=⟨x.word.s,x.word.ok&&isN x.w⟩
def Sc.number(n:Int)(x:Sc):Sc:=⟨x.num.s,decide (atN x.w=n)&&x.num.ok⟩
def A1N(c:UInt8):UInt8:=if c=110 then 10 else if c=116 then 9 else c
def D9:List UInt8→List UInt8×Nat
 | []=>([],0)
 | c ::r=>
  if c=34 then([],0)
  else if c=92 then
   match r with
   | []=>([92],1)
   | e::r2=>
    if 48≤(A1N e).toNat∧(A1N e).toNat≤57 then
     match r2 with
     |a::b::r3=>let q:=D9 r3;(UInt8.ofNat (atN [e,a,b]%256).toNat::q.1,q.2+4)
     |r2=>let q:=D9 r2;(A1N e::q.1,q.2+2)
    else let q:=D9 r2;(A1N e::q.1,q.2+2)
  else let q:=D9 r;(c::q.1,q.2+1)
def Sc.qBad(x:Sc):Bool:=decide (x.s.length≤1+(D9 (x.s.drop 1)).2)||decide (x.s[0]? ≠some 34)||decide (D2 (D9 (x.s.drop 1)).1≠x.s.take ((D9 (x.s.drop 1)).2+2))
def Sc.q(x:Sc):List UInt8:=if x.qBad=true then []else(D9 (x.s.drop 1)).1
def Sc.quoted(x:Sc):Sc:=if x.qBad=true then⟨x.s,false⟩else x.take ((D9 (x.s.drop 1)).2+2)
def D1:List UInt8→List UInt8
 | []=> []
 |c::r=>32::c::r
theorem B4u: ∀s:List UInt8,d7 s≤s.length
 | []=>Nat.le_refl _
 |c::r=>by
  have:=B4u r
  rw [d7]
  split
  ·omega
  ·exact Kz
theorem C3D: ∀s:List UInt8,(32:UInt8)∉s.take (d7 s)
 | []=>by simp [d7]
 | c::r=>by
  have:=C3D r
  rw [d7]
  split
  ·simp
  ·rename_i h
   rw [List.take_succ_cons]
   exact fun hm=>(List.mem_cons.1 hm).elim (fun e=>h e.symm) this
theorem B4t: ∀{w:List UInt8} {r:List UInt8},(32:UInt8)∉w→(r= []∨ ∃x,r=32::x)→d7 (w++r)=w.length
 | [],r,_,h=>by
  rcases h with rfl|⟨x,rfl⟩
  ·rfl
  ·rfl
 |c::w,r,hw,h=>by
  have:=B4t (w:=w) (fun hm=>hw (List.mem_cons_of_mem _ hm)) h
  rw [List.cons_append,d7,if_neg (fun e:c=32=>hw zQ),this,List.length_cons]
theorem B7I{x:Sc}{n:Nat}(hn:n≤x.s.length)(h:(x.take n).ok=true):x.ok=true∧x.s=x.s.take n++D1 (x.take n).s:=by
 unfold Sc.take at h⊢
 by_cases h1:n=x.s.length
 ·rw [if_pos h1]at h⊢
  refine⟨h,?_⟩
  rw [h1,List.take_length]
  simp [D1]
 ·rw [if_neg h1]at h⊢
  by_cases h2:x.s[n]? ≠some 32∨n+1=x.s.length
  ·rw [if_pos h2]at h
   cases h
  ·rw [if_neg h2]at h⊢
   refine⟨h,?_⟩
   have h3:x.s[n]? =some 32:=Classical.not_not.1 fun e=>h2 (.inl e)
   have h4:n+1<x.s.length:=by have:n+1≠x.s.length:=fun e=>h2 (.inr e);omega
   obtain⟨c,r,e⟩: ∃c r,x.s.drop (n+1)=c::r:=by
    cases hd:x.s.drop (n+1)with
    |nil=>rw [List.drop_eq_nil_iff]at hd;omega
    |cons c r=>exact⟨c,r,rfl⟩
   simp only
   rw [e,D1,←e]
   have h5:x.s.drop n=32::x.s.drop (n+1):=by
    rw [List.drop_eq_getElem_cons zd]
    rw [List.getElem?_eq_getElem zd]at h3
    injection h3 with h3
    rw [h3]
   rw [←h5,List.take_append_drop]
theorem C3w{w r:List UInt8}{b:Bool}:(Sc.mk (w++D1 r) b).take w.length=⟨r,b⟩:=by
 unfold Sc.take
 cases r with
 |nil=>simp [D1]
 |cons c r=>
  rw [if_neg (by simp [D1]),if_neg]
  ·simp [D1]
  ·simp [D1]
theorem B7A(r:List UInt8):D1 r= []∨ ∃x,D1 r=32::x:=by
 cases r with
 |nil=>exact .inl rfl
 |cons c r=>exact .inr ⟨_,rfl⟩
theorem A2U{x:Sc}(h:x.word.ok=true):x.ok=true∧x.s=x.w++D1 x.word.s∧x.w≠ []∧(32:UInt8)∉x.w:=by
 unfold Sc.word at h
 simp only [Bool.and_eq_true,decide_eq_true_eq]at h
 obtain⟨h1,h2⟩:=B7I (B4u x.s) h.1
 exact⟨h1,h2,h.2,C3D x.s⟩
theorem B1l{w r:List UInt8}{b:Bool}(h:(32:UInt8)∉w):(Sc.mk (w++D1 r) b).w=w:=by
 unfold Sc.w
 simp only
 rw [B4t h (B7A r),List.take_left]
theorem A6N{w r:List UInt8}{b:Bool}(h:(32:UInt8)∉w)(hn:w≠ []):(Sc.mk (w++D1 r) b).word=⟨r,b⟩:=by
 unfold Sc.word
 rw [B1l h]
 simp only
 rw [B4t h (B7A r),C3w]
 simp [hn]
theorem K2{w:List UInt8}{x:Sc}(h:(x.expect w).ok=true):x.ok=true∧x.s=w++D1 (x.expect w).s:=by
 unfold Sc.expect at h⊢
 simp only [Bool.and_eq_true,decide_eq_true_eq]at h
 obtain⟨h1,h2,_,_⟩:=A2U h.2
 exact⟨h1,by rw [←h.1];exact h2⟩
theorem U1{w r:List UInt8}{b:Bool}(h:(32:UInt8)∉w)(hn:w≠ []):(Sc.mk (w++D1 r) b).expect w=⟨r,b⟩:=by
 unfold Sc.expect
 rw [A6N h hn,B1l h]
 simp
theorem C8W{w:List UInt8}(h:isN w=true):w=Lib.itoa (atN w)∧inB (atN w):=by
 unfold isN at h
 unfold atN
 cases e:Lib.atoiAll w with
 |ok n=>
  rw [e]at h
  simp only [decide_eq_true_eq]at h⊢
  exact⟨h.symm,(Lib.atoiAll_bounds e).1,(Lib.atoiAll_bounds e).2⟩
 |range=>rw [e]at h;cases h
 |_=>rw [e]at h;cases h
theorem A0y{x:Sc}(h:x.num.ok=true):x.ok=true∧x.s=Lib.itoa (atN x.w)++D1 x.num.s∧inB (atN x.w):=by
 unfold Sc.num at h⊢
 simp only [Bool.and_eq_true]at h
 obtain⟨h1,h2,_,_⟩:=A2U h.1
 obtain⟨h3,h4⟩:=C8W h.2
 exact⟨h1,by rw [←h3];exact h2,h4⟩
theorem A4r{n:Int}{x:Sc}(h:(x.number n).ok=true):x.ok=true∧x.s=Lib.itoa n++D1 (x.number n).s:=by
 unfold Sc.number at h⊢
 simp only [Bool.and_eq_true,decide_eq_true_eq]at h
 obtain⟨h1,h2,_⟩:=A0y h.2
 exact⟨h1,by rw [←h.1];exact h2⟩
theorem A4A{x:Sc}(h:x.quoted.ok=true):x.ok=true∧x.s=D2 x.q++D1 x.quoted.s:=by
 unfold Sc.quoted at h⊢
 unfold Sc.q
 cases hb:x.qBad with
 |true=>rw [hb,if_pos rfl]at h;cases h
 |false=>
  rw [hb,if_neg zf]at h
  rw [if_neg zf,if_neg zf]
  unfold Sc.qBad at hb
  simp only [Bool.or_eq_false_iff,decide_eq_false_iff_not,Classical.not_not,Nat.not_le]at hb
  obtain⟨⟨h1,h2⟩,h3⟩:=hb
  obtain⟨h4,h5⟩:=B7I zd h
  exact⟨h4,by rw [h3];exact h5⟩
theorem C9s: ∀(u:Nat),u≤9223372036854775808→ ∀r,Lib.parseUint10 0 (Lib.decDigits u++r)=Lib.parseUint10 u r:=by
 exact JS
theorem C7p{u:Nat}(h:u≤9223372036854775808):Lib.parseMag (Lib.decDigits u)= .ok u:=by
 unfold Lib.parseMag
 rw [if_neg (P5 u)]
 have:=C9s u h []
 rw [List.append_nil]at this
 rw [this];rfl
theorem C3N{n:Int}(hn:inB n):Lib.atoiAll (Lib.itoa n)= .ok n:=by
 obtain⟨h0,h1⟩:=hn
 unfold Lib.itoa
 by_cases h:n<0
 ·rw [if_pos h]
  unfold Lib.atoiAll
  have e:((45:UInt8).toNat=43∨(45:UInt8).toNat=45):=by decide
  simp only [if_pos e,C7p (show n.natAbs≤9223372036854775808 by omega)]
  rw [if_neg zg,if_neg zd,if_pos zf]
  congr 1;omega
 ·rw [if_neg h]
  cases hd:Lib.decDigits n.toNat with
  |nil=>exact absurd hd (P5 _)
  |cons c r=>
   have hc:=H6 n.toNat c (by rw [hd];exact List.mem_cons_self)
   unfold Lib.atoiAll
   have e: ¬(c.toNat=43∨c.toNat=45):=by omega
   simp only [if_neg e]
   rw [←hd,C7p (show n.toNat≤9223372036854775808 by omega)]
   simp only
   rw [if_neg zd,if_neg zd,if_neg zd]
   congr 1;omega
theorem B9a{n:Int}(hn:inB n):atN (Lib.itoa n)=n∧isN (Lib.itoa n)=true:=by
 unfold atN isN
 rw [C3N hn]
 simp
theorem M5(n:Int):Lib.itoa n≠ []:=by
 obtain⟨c,r,h,_⟩:=A5j n
 rw [h];simp
theorem V9{n:Int}{r:List UInt8}{b:Bool}(hn:inB n):(Sc.mk (Lib.itoa n++D1 r) b).num=⟨r,b⟩∧atN (Sc.mk (Lib.itoa n++D1 r) b).w=n:=by
 unfold Sc.num
 rw [A6N (A4e n) (M5 n),B1l (A4e n),(B9a hn).1,(B9a hn).2]
 simp
theorem A9D{n:Int}{r:List UInt8}{b:Bool}(hn:inB n):(Sc.mk (Lib.itoa n++D1 r) b).number n=⟨r,b⟩:=by
 unfold Sc.number
 rw [(V9 hn).1,(V9 hn).2]
 simp
theorem D6E(n:Nat)(hn:n<256):atN [UInt8.ofNat (48+n/100),UInt8.ofNat (48+n/10%10),UInt8.ofNat (48+n%10)]=n:=by
 have: ∀n:Nat,n<256→atN [UInt8.ofNat (48+n/100),UInt8.ofNat (48+n/10%10),UInt8.ofNat (48+n%10)]=n:=by decide+kernel
 exact this n hn
theorem A9l{e c:UInt8}(hl:A1N e=c)(hd: ¬(48≤c.toNat∧c.toNat≤57))(r:List UInt8):D9 (92::e::r)=(c::(D9 r).1,(D9 r).2+2):=by
 rw [D9.eq_def]
 simp only
 rw [if_neg zf,if_pos trivial,hl,if_neg hd]
theorem C7x(c:UInt8)(r:List UInt8):D9 (H4 c++r)=(c::(D9 r).1,(D9 r).2+(H4 c).length):=by
 have hc:=c.toNat_lt
 have ne: ∀{a b:UInt8},a.toNat≠b.toNat→a≠b:=fun h e=>h zm
 unfold H4
 by_cases h1:c.toNat=10
 ·rw [if_pos h1]
  obtain rfl:c=10:=UInt8.toNat_inj.1 h1
  exact A9l zf zf r
 rw [if_neg h1]
 by_cases h2:c.toNat=9
 ·rw [if_pos h2]
  obtain rfl:c=9:=UInt8.toNat_inj.1 h2
  exact A9l zf zf r
 rw [if_neg h2]
 by_cases h3:c.toNat=92∨c.toNat=34
 ·rw [if_pos h3]
  rcases h3 with h3|h3
  ·obtain rfl:c=92:=UInt8.toNat_inj.1 h3
   exact A9l zf zf r
  ·obtain rfl:c=34:=UInt8.toNat_inj.1 h3
   exact A9l zf zf r
 rw [if_neg h3]
 by_cases h4:c.toNat<32∨126<c.toNat
 ·rw [if_pos h4]
  have e1:(UInt8.ofNat (48+c.toNat/100)).toNat=48+c.toNat/100:=W9 zd
  have l1:A1N (UInt8.ofNat (48+c.toNat/100))=UInt8.ofNat (48+c.toNat/100):=by
   unfold A1N
   rw [if_neg (ne (by rw [e1];show _≠110;omega)),if_neg (ne (by rw [e1];show _≠116;omega))]
  simp only [List.cons_append,List.nil_append]
  rw [D9.eq_def]
  simp only
  rw [if_neg zf,if_pos zf,l1,e1,if_pos zd,D6E c.toNat hc]
  have e2:UInt8.ofNat ((c.toNat:Int)%256).toNat=c:=by
   have:((c.toNat:Int)%256).toNat=c.toNat:=by omega
   rw [this,UInt8.ofNat_toNat]
  rw [e2]
  rfl
 ·rw [if_neg h4,List.singleton_append,D9.eq_def]
  simp only
  rw [if_neg (ne (by show _≠34;omega)),if_neg (ne (by show _≠92;omega))]
  rfl
theorem C0C: ∀(b:List UInt8) (r:List UInt8),D9 (b.flatMap H4++34::r)=(b,(b.flatMap H4).length)
 | [],r=>by rw [List.flatMap_nil,List.nil_append,D9.eq_def];simp
 |c::b,r=>by
  rw [List.flatMap_cons,List.append_assoc,C7x,C0C b r,List.length_append]
  simp only [Prod.mk.injEq,true_and]
  omega
theorem A2S{b r:List UInt8}{o:Bool}:(Sc.mk (D2 b++D1 r) o).quoted=⟨r,o⟩∧(Sc.mk (D2 b++D1 r) o).q=b:=by
 have hs:D9 ((D2 b++D1 r).drop 1)=(b,(b.flatMap H4).length):=by
  unfold D2
  rw [List.cons_append,List.drop_succ_cons,List.drop_zero,List.append_assoc,List.singleton_append]
  exact C0C b _
 have hl:(D2 b).length=(b.flatMap H4).length+2:=by unfold D2;simp
 have hb:(Sc.mk (D2 b++D1 r) o).qBad=false:=by
  unfold Sc.qBad
  simp only
  rw [hs]
  simp only [Bool.or_eq_false_iff,decide_eq_false_iff_not,Classical.not_not,Nat.not_le]
  refine⟨⟨by rw [List.length_append,hl];omega,by unfold D2;rfl⟩,?_⟩
  rw [←hl,List.take_left]
 unfold Sc.quoted Sc.q
 rw [hb,if_neg zf,if_neg zf]
 simp only
 rw [hs]
 simp only
 rw [←hl]
 exact⟨C3w,trivial⟩
end
section
open Go Go.Abs
attribute [local irreducible] atN isN D9 d7 Sc.w Sc.q Sc.take Sc.word Sc.num Sc.expect Sc.quoted
theorem E1{s:List UInt8}(h:s≠ []):D1 s=32::s:=by
 cases s with
 |nil=>exact absurd rfl h
 |cons c r=>rfl
theorem J9{a b c:List UInt8}(h:a=b++c)(hb:b≠ []):a≠ []:=fun e=>by
 rw [e]at h
 exact hb (List.append_eq_nil_iff.1 h.symm).1
theorem A9H(s:List UInt8):D2 s≠ []:=by unfold D2;simp
def B6w:List UInt8:= [110,105,108]
def B0v:List UInt8:= [116,114,117,101]
def A4Z:List UInt8:= [102,97,108,115,101]
def Sc.valV(F:List UInt8→Int×Int×Int)(x:Sc):Kst:=
 if x.s[0]? =some 34 then⟨3,0,0,x.q,0⟩else if x.s=B6w then⟨0,0,0,[],0⟩else if x.s=B0v then⟨1,0,0,[],1⟩else if x.s=A4Z then⟨1,0,0,[],0⟩
 else⟨2,(F x.w).1,(F x.w).2.1,[],0⟩
def Sc.val(F:List UInt8→Int×Int×Int)(x:Sc):Sc:=
 if x.s[0]? =some 34 then x.quoted else if x.s=B6w∨x.s=B0v∨x.s=A4Z then⟨[],x.ok⟩
 else⟨x.word.s,x.word.ok&&(decide ((F x.w).2.2=0)&&decide (Z3 (F x.w).1 (F x.w).2.1=x.w))⟩
theorem C8i{F:List UInt8→Int×Int×Int}{x:Sc}(h:(x.val F).ok=true):x.ok=true∧x.s=A2b (x.valV F)++D1 (x.val F).s:=by
 unfold Sc.val at h⊢
 unfold Sc.valV
 by_cases h1:x.s[0]? =some 34
 ·rw [if_pos h1]at h⊢
  rw [if_pos h1]
  exact A4A h
 rw [if_neg h1]at h⊢
 rw [if_neg h1]
 by_cases h2:x.s=B6w
 ·have hd:x.s=B6w∨x.s=B0v∨x.s=A4Z:= .inl h2
  rw [if_pos hd]at h⊢
  rw [if_pos h2]
  exact⟨h,by rw [h2];rfl⟩
 rw [if_neg h2]
 by_cases h3:x.s=B0v
 ·have hd:x.s=B6w∨x.s=B0v∨x.s=A4Z:= .inr (.inl h3)
  rw [if_pos hd]at h⊢
  rw [if_pos h3]
  exact⟨h,by rw [h3];rfl⟩
 rw [if_neg h3]
 by_cases h4:x.s=A4Z
 ·have hd:x.s=B6w∨x.s=B0v∨x.s=A4Z:= .inr (.inr h4)
  rw [if_pos hd]at h⊢
  rw [if_pos h4]
  exact⟨h,by rw [h4];rfl⟩
 rw [if_neg h4]
 have h5: ¬(x.s=B6w∨x.s=B0v∨x.s=A4Z):=fun e=>e.elim h2 fun e=>e.elim h3 h4
 rw [if_neg h5]at h⊢
 simp only [Bool.and_eq_true,decide_eq_true_eq]at h
 obtain⟨g1,g2,_,_⟩:=A2U h.1
 refine⟨g1,?_⟩
 have e:A2b ⟨2,(F x.w).1,(F x.w).2.1,[],0⟩=x.w:=h.2.2
 rw [e]
 exact g2
theorem C3o(p q:Int):(32:UInt8)∉Z3 p q:=by
 unfold Z3
 split
 ·exact A4e p
 ·intro h
  rcases List.mem_append.1 h with h|h
  ·exact A4e p h
  ·rcases List.mem_cons.1 h with h|h
   ·revert h;decide
   ·exact A4e q h
theorem B7s(p q:Int): ∃c r,Z3 p q=c::r∧(c.toNat=45∨(48≤c.toNat∧c.toNat≤57)):=by
 obtain⟨c,r,h1,h2⟩:=A5j p
 unfold Z3
 rw [h1]
 split
 ·exact⟨c,r,rfl,h2⟩
 ·exact⟨c,_,rfl,h2⟩
theorem D3K{F:List UInt8→Int×Int×Int}(hF: ∀p q,H1 p q=true→F (Z3 p q)=(p,q,0)){v:Kst}(hv:I0 v=true){b:Bool}:(Sc.mk (A2b v) b).val F=⟨[],b⟩∧(Sc.mk (A2b v) b).valV F=v:=by
 obtain⟨k,p,q,s,r⟩:=v
 rcases C0X hv with e|e|e|e<;>simp only at e<;>subst e<;>simp [I0]at hv
 ·obtain⟨rfl,rfl,rfl,rfl⟩:=hv
  exact KH
 ·obtain⟨h1,rfl,rfl,rfl⟩:=hv
  rcases h1 with rfl|rfl
  ·exact KH
  ·exact KH
 ·obtain⟨h1,rfl,rfl⟩:=hv
  have e:A2b ⟨2,p,q,[],0⟩=Z3 p q:=rfl
  obtain⟨c,r,hc,hcr⟩:=B7s p q
  have n0: ¬(Z3 p q)[0]? =some 34:=by
   rw [hc]
   simp only [List.getElem?_cons_zero,Option.some.injEq]
   rintro rfl
   revert hcr
   decide
  have n1:Z3 p q≠B6w:=fun h=>by rw [hc]at h;injection h with h _;subst h;revert hcr;decide
  have n2:Z3 p q≠B0v:=fun h=>by rw [hc]at h;injection h with h _;subst h;revert hcr;decide
  have n3:Z3 p q≠A4Z:=fun h=>by rw [hc]at h;injection h with h _;subst h;revert hcr;decide
  have hw:(Sc.mk (Z3 p q) b).w=Z3 p q:=by have:=B1l (r:= []) (b:=b) (C3o p q);rwa [D1,List.append_nil]at this
  have hd:(Sc.mk (Z3 p q) b).word=⟨[],b⟩:=by have:=A6N (r:= []) (b:=b) (C3o p q) (by rw [hc];simp);rwa [D1,List.append_nil]at this
  rw [e]
  unfold Sc.val Sc.valV
  simp only
  rw [if_neg n0,if_neg n0,if_neg n1,if_neg n2,if_neg n3,if_neg (fun h=>h.elim n1 fun h=>h.elim n2 n3),hw,hd,hF p q h1]
  simp
 ·obtain⟨_,rfl,rfl,rfl⟩:=hv
  have e:A2b ⟨3,0,0,s,0⟩=D2 s++D1 []:=by rw [D1,List.append_nil];rfl
  obtain⟨h1,h2⟩:=A2S (b:=s) (r:= []) (o:=b)
  have h0:(D2 s++D1 [])[0]? =some 34:=rfl
  rw [e]
  unfold Sc.val Sc.valV
  simp only
  rw [if_pos h0,if_pos h0,h1,h2]
  exact KH
def A3M:List UInt8:= [102,117,110,99]
def B0u:List UInt8:= [108,105,110,101]
def A1e:List UInt8:= [112,97,114,97,109,115]
def A7J:List UInt8:= [114,101,103,115]
def V2:List UInt8:= [118,97,114,97,114,103]
def hS1(path t:List UInt8):Sc:=(Sc.expect A3M ⟨t,true⟩).expect path
def hS2(path t:List UInt8):Sc:=(hS1 path t).quoted.expect B0u
def hS3(path t:List UInt8):Sc:=(hS2 path t).num.expect A1e
def hS4(path t:List UInt8):Sc:=(hS3 path t).num.expect A7J
def hS5(path t:List UInt8):Sc:=(hS4 path t).num
def B6q(path t:List UInt8):Bool:=(hS5 path t).ok&&decide ((hS5 path t).s≠ [])
def hS6(path t:List UInt8):Sc:=if B6q path t=true then(hS5 path t).expect V2 else hS5 path t
def hFn(path t:List UInt8):Fn:=⟨(hS1 path t).q,atN (hS2 path t).w,atN (hS3 path t).w,B6q path t,atN (hS4 path t).w,[],[],[],[],[],[]⟩
def hOk(path t:List UInt8):Bool:=(hS6 path t).ok&&decide ((hS6 path t).s= [])
theorem B0N(p:Fn)(path:List UInt8):G5 p path=A3M++32::(path++32::(D2 p.name++32::(B0u++32::(Lib.itoa p.line++32::(A1e++32::(Lib.itoa p.params++32::(A7J++32::(Lib.itoa p.regs++D1 (if p.vararg=true then V2 else []))))))))):=by
 unfold G5
 cases p.vararg<;>simp [F1,A3M,B0u,A1e,A7J,V2,D1]
theorem C1D{t path s0 s1 s2 s3 s4 s5 s6 s7 nm v:List UInt8}{l pr rg:Int}(hp:path≠ [])(e00:t=A3M++D1 s0)(e0:s0=path++D1 s1)(e1':s1=D2 nm++D1 s2)(e1:s2=B0u++D1 s3)
  (e2':s3=Lib.itoa l++D1 s4) (e2:s4=A1e++D1 s5) (e3':s5=Lib.itoa pr++D1 s6) (e3:s6=A7J++D1 s7) (e4:s7=Lib.itoa rg++D1 v):
  t=A3M++32::(path++32::(D2 nm++32::(B0u++32::(Lib.itoa l++32::(A1e++32::(Lib.itoa pr++32::(A7J++32::(Lib.itoa rg++D1 v)))))))):=by
 have n4:=J9 e4 (M5 _)
 have n3:=J9 e3 zf
 have n3':=J9 e3' (M5 _)
 have n2:=J9 e2 zf
 have n2':=J9 e2' (M5 _)
 have n1:=J9 e1 zf
 have n1':=J9 e1' (A9H _)
 have n0:=J9 e0 hp
 exact Kx
theorem B6Z{path t:List UInt8}(hp:path≠ [])(h:hOk path t=true):t=G5 (hFn path t) path∧inB (hFn path t).line∧inB (hFn path t).params∧inB (hFn path t).regs:=by
 unfold hOk at h
 simp only [Bool.and_eq_true,decide_eq_true_eq]at h
 obtain⟨h6,h6e⟩:=h
 have key:(hS5 path t).ok=true∧(hS5 path t).s=(if B6q path t=true then V2 else []):=by
  unfold hS6 at h6 h6e
  by_cases hv:B6q path t=true
  ·rw [if_pos hv]at h6 h6e⊢
   obtain⟨g1,g2⟩:=K2 h6
   rw [h6e,D1,List.append_nil]at g2
   exact⟨g1,g2⟩
  ·rw [if_neg hv]at h6 h6e⊢
   exact⟨h6,h6e⟩
 obtain⟨k5,k5e⟩:=key
 obtain⟨k4,e4,b4⟩:=A0y (x:=hS4 path t) k5
 obtain⟨k3,e3⟩:=K2 (x:=(hS3 path t).num) k4
 obtain⟨k3',e3',b3⟩:=A0y k3
 obtain⟨k2,e2⟩:=K2 (x:=(hS2 path t).num) k3'
 obtain⟨k2',e2',b2⟩:=A0y k2
 obtain⟨k1,e1⟩:=K2 (x:=(hS1 path t).quoted) k2'
 obtain⟨k1',e1'⟩:=A4A k1
 obtain⟨k0,e0⟩:=K2 (x:=Sc.expect A3M ⟨t,true⟩) k1'
 obtain⟨_,e00⟩:=K2 (x:=⟨t,true⟩) k0
 have hk5:(hS4 path t).num.s=(if B6q path t=true then V2 else []):=k5e
 rw [hk5]at e4
 have hc:=C1D hp e00 e0 e1' e1 e2' e2 e3' e3 e4
 exact⟨by rw [B0N];exact hc,b2,b3,b4⟩
theorem C8P{path:List UInt8}(hp:(32:UInt8)∉path)(hn:path≠ []){p:Fn}(h1:inB p.line)(h2:inB p.params)(h3:inB p.regs):
  hOk path (G5 p path)=true∧hFn path (G5 p path)=⟨p.name,p.line,p.params,p.vararg,p.regs,[],[],[],[],[],[]⟩:=by
 have w: ∀(a:List UInt8) (r:List UInt8),r≠ []→a++32::r=a++D1 r:=fun a r h=>by rw [E1 h]
 have q1:hS1 path (G5 p path)=⟨D2 p.name++32::(B0u++32::(Lib.itoa p.line++32::(A1e++32::(Lib.itoa p.params++32::(A7J++32::(Lib.itoa p.regs++D1 (if p.vararg=true then V2 else []))))))),true⟩:=by
  unfold hS1
  rw [B0N,w A3M _ zg,U1 zf zf,w path _ zg,U1 hp hn]
 have q2:hS2 path (G5 p path)=⟨Lib.itoa p.line++32::(A1e++32::(Lib.itoa p.params++32::(A7J++32::(Lib.itoa p.regs++D1 (if p.vararg=true then V2 else []))))),true⟩:=by
  unfold hS2
  rw [q1,w (D2 _) _ zg,A2S.1,w B0u _ zg,U1 zf zf]
 have q3:hS3 path (G5 p path)=⟨Lib.itoa p.params++32::(A7J++32::(Lib.itoa p.regs++D1 (if p.vararg=true then V2 else []))),true⟩:=by
  unfold hS3
  rw [q2,w (Lib.itoa _) _ zg,(V9 h1).1,w A1e _ zg,U1 zf zf]
 have q4:hS4 path (G5 p path)=⟨Lib.itoa p.regs++D1 (if p.vararg=true then V2 else []),true⟩:=by
  unfold hS4
  rw [q3,w (Lib.itoa _) _ zg,(V9 h2).1,w A7J _ (J9 rfl (M5 _)),U1 zf zf]
 have q5:hS5 path (G5 p path)=⟨if p.vararg=true then V2 else [],true⟩:=by
  unfold hS5
  rw [q4,(V9 h3).1]
 have qv:B6q path (G5 p path)=p.vararg:=by
  unfold B6q
  rw [q5]
  cases p.vararg<;>simp [V2]
 refine⟨?_,?_⟩
 ·unfold hOk hS6
  rw [qv,q5]
  cases p.vararg with
  |false=>rfl
  |true=>
   have:=U1 (w:=V2) (r:= []) (b:=true) zf zf
   rw [D1,List.append_nil]at this
   simp only [if_true]
   rw [this]
   rfl
 ·simp only [hFn]
  rw [qv,q1,q2,q3,q4,w (D2 _) _ zg,A2S.2,w (Lib.itoa p.line) _ zg,(V9 h1).2,w (Lib.itoa p.params) _ zg,(V9 h2).2,(V9 h3).2]
end
section
open Go Go.Abs
attribute [local irreducible] atN isN D9 d7 Sc.w Sc.q Sc.take Sc.word Sc.num Sc.number Sc.expect Sc.quoted Sc.val Sc.valV
def O3:List UInt8:= [99,111,110,115,116]
def wUp:List UInt8:= [117,112]
def B6h:List UInt8:= [118,97,114]
def M2:List UInt8:= [108,111,99,97,108]
def U4:List UInt8:= [111,117,116,101,114]
def B4c:List UInt8:= [114,101,103]
def A6m:List UInt8:= [102,114,111,109]
def wTo:List UInt8:= [116,111]
def A1J:List UInt8:= [99,108,111,115,101]
def M6(t:List UInt8):Nat:=if t.take 6=O3++ [32]then 1 else if t.take 3=wUp++ [32]then 2 else if t.take 4=B6h++ [32]then 3 else 4
def bX(t:List UInt8):Sc:=(Sc.mk t true).word
theorem C1B{w t r:List UInt8}(ht:t=w++32::r)(hw:(32:UInt8)∉w):(Sc.mk t true).w=w:=by
 unfold Sc.w
 simp only
 rw [ht,B4t hw (.inr ⟨_,rfl⟩),List.take_left]
theorem B7U{w t:List UInt8}(ht:t.take (w.length+1)=w++ [32])(hw:(32:UInt8)∉w)(h:(bX t).ok=true):t=w++D1 (bX t).s:=by
 have e:t=w++32::t.drop (w.length+1):=by
  conv=>lhs;rw [←List.take_append_drop (w.length+1) t,ht]
  simp
 obtain⟨_,h2,_,_⟩:=A2U h
 rw [C1B e hw]at h2
 exact h2
theorem C5S{w r:List UInt8}(hw:(32:UInt8)∉w)(hn:w≠ [])(hr:r≠ []):bX (w++32::r)=⟨r,true⟩:=by
 unfold bX
 rw [←E1 hr,A6N hw hn]
def cS(n:Nat)(t:List UInt8):Sc:=(bX t).number n
def B0F(F:List UInt8→Int×Int×Int)(n:Nat)(t:List UInt8):Kst:=(cS n t).valV F
def cOk(F:List UInt8→Int×Int×Int)(n:Nat)(t:List UInt8):Bool:=((cS n t).val F).ok&&decide (((cS n t).val F).s= [])
theorem C3B(v:Kst):A2b v≠ []:=by
 unfold A2b
 split
 ·split<;>simp
 ·split
  ·obtain⟨c,r,h,_⟩:=B7s v.p v.q
   rw [h];simp
  ·split
   ·exact A9H _
   ·simp
theorem C1q{F:List UInt8→Int×Int×Int}{n:Nat}{t:List UInt8}(hk:t.take 6=O3++ [32])(h:cOk F n t=true):t=E6 n (B0F F n t):=by
 unfold cOk at h
 simp only [Bool.and_eq_true,decide_eq_true_eq]at h
 obtain⟨h1,h2⟩:=h
 obtain⟨k1,e1⟩:=C8i h1
 rw [h2,D1,List.append_nil]at e1
 obtain⟨k0,e0⟩:=A4r (x:=bX t) k1
 have e:=B7U (w:=O3) hk zf k0
 have e0:(bX t).s=Lib.itoa n++D1 (cS n t).s:=e0
 have e1:(cS n t).s=A2b (B0F F n t):=e1
 have n1:(cS n t).s≠ []:=by rw [e1];exact C3B _
 have n0:=J9 e0 (M5 _)
 rw [E1 n0,e0,E1 n1,e1]at e
 have e2: ∀v,E6 n v=O3++32::(Lib.itoa n++32::A2b v):=fun v=>by simp [E6,F1,O3]
 exact e.trans (e2 _).symm
theorem C6i{F:List UInt8→Int×Int×Int}(hF: ∀p q,H1 p q=true→F (Z3 p q)=(p,q,0)){n:Nat}(hn:n≤1000000){v:Kst}(hv:I0 v=true):cOk F n (E6 n v)=true∧B0F F n (E6 n v)=v:=by
 have e:E6 n v=O3++32::(Lib.itoa n++D1 (A2b v)):=by
  rw [E1 (C3B v)]
  simp [E6,F1,O3]
 have hS:cS n (E6 n v)=⟨A2b v,true⟩:=by
  unfold cS
  rw [e,C5S zf zf (by simp [M5]),A9D (by unfold inB;omega)]
 obtain⟨h1,h2⟩:=D3K hF hv (b:=true)
 unfold cOk B0F
 rw [hS,h1,h2]
 exact KH
def uS1(n:Nat)(t:List UInt8):Sc:=(bX t).number n
def uS2(n:Nat)(t:List UInt8):Sc:=(uS1 n t).quoted
def uS3(n:Nat)(t:List UInt8):Sc:=⟨(uS2 n t).word.s,(uS2 n t).word.ok&&(decide ((uS2 n t).w=M2)||decide ((uS2 n t).w=U4))⟩
def B1k(n:Nat)(t:List UInt8):Upv:=⟨(uS1 n t).q,decide ((uS2 n t).w=M2),atN (uS3 n t).w⟩
def uOk(n:Nat)(t:List UInt8):Bool:=(uS3 n t).num.ok&&decide ((uS3 n t).num.s= [])
theorem C0V(n:Nat)(u:Upv):upT n u=wUp++32::(Lib.itoa n++32::(D2 u.name++32::((if u.loc=true then M2 else U4)++32::Lib.itoa u.idx))):=by
 unfold upT
 cases u.loc<;>simp [F1,wUp,M2,U4]
theorem C3z{n:Nat}{t:List UInt8}(hk:t.take 3=wUp++ [32])(h:uOk n t=true):t=upT n (B1k n t)∧inB (B1k n t).idx:=by
 unfold uOk at h
 simp only [Bool.and_eq_true,decide_eq_true_eq]at h
 obtain⟨h1,h2⟩:=h
 obtain⟨k3,e3,b3⟩:=A0y h1
 rw [h2,D1,List.append_nil]at e3
 have k3':(uS2 n t).word.ok=true∧((uS2 n t).w=M2∨(uS2 n t).w=U4):=by
  have:((uS2 n t).word.ok&&(decide ((uS2 n t).w=M2)||decide ((uS2 n t).w=U4)))=true:=k3
  simpa using this
 obtain⟨k2,e2,_,_⟩:=A2U k3'.1
 obtain⟨k1,e1⟩:=A4A (x:=uS1 n t) k2
 obtain⟨k0,e0⟩:=A4r (x:=bX t) k1
 have e:=B7U (w:=wUp) hk zf k0
 have e0:(bX t).s=Lib.itoa n++D1 (uS1 n t).s:=e0
 have e1:(uS1 n t).s=D2 (uS1 n t).q++D1 (uS2 n t).s:=e1
 have e2:(uS2 n t).s=(uS2 n t).w++D1 (uS3 n t).s:=e2
 have n3:(uS3 n t).s≠ []:=by rw [e3];exact M5 _
 have n2:(uS2 n t).s≠ []:=J9 e2 (by rcases k3'.2 with h|h<;>rw [h]<;>decide)
 have n1:=J9 e1 (A9H _)
 have n0:=J9 e0 (M5 _)
 refine⟨?_,b3⟩
 rw [E1 n0,e0,E1 n1,e1,E1 n2,e2,E1 n3,e3]at e
 have hl:(if (B1k n t).loc=true then M2 else U4)=(uS2 n t).w:=by
  have h0:(B1k n t).loc=decide ((uS2 n t).w=M2):=rfl
  rw [h0]
  rcases k3'.2 with h|h
  ·rw [h];decide
  ·rw [h];decide
 rw [C0V,hl]
 exact e
theorem D6F{n:Nat}(hn:n≤1000000){u:Upv}(hu:inB u.idx):uOk n (upT n u)=true∧B1k n (upT n u)=u:=by
 obtain⟨name,loc,idx⟩:=u
 simp only at hu
 have w32:(32:UInt8)∉(if loc=true then M2 else U4):=by cases loc<;>decide
 have wne:(if loc=true then M2 else U4)≠ []:=by cases loc<;>decide
 have e:upT n ⟨name,loc,idx⟩=wUp++32::(Lib.itoa n++D1 (D2 name++D1 ((if loc=true then M2 else U4)++D1 (Lib.itoa idx++D1 [])))):=by
  have n1:Lib.itoa idx++D1 []≠ []:=by simp [D1,M5]
  rw [E1 n1,E1 (s:=(if loc=true then M2 else U4)++32::(Lib.itoa idx++D1 [])) zg,E1 (s:=D2 name++_) zg,C0V]
  simp [D1]
 have h1:uS1 n (upT n ⟨name,loc,idx⟩)=⟨D2 name++D1 ((if loc=true then M2 else U4)++D1 (Lib.itoa idx++D1 [])),true⟩:=by
  unfold uS1
  rw [e,C5S zf zf (by simp [M5]),A9D (by unfold inB;omega)]
 obtain⟨q1,q2⟩:=A2S (b:=name) (r:=(if loc=true then M2 else U4)++D1 (Lib.itoa idx++D1 [])) (o:=true)
 have h2:uS2 n (upT n ⟨name,loc,idx⟩)=⟨(if loc=true then M2 else U4)++D1 (Lib.itoa idx++D1 []),true⟩:=by
  unfold uS2
  rw [h1,q1]
 have hw:=B1l (w:=if loc=true then M2 else U4) (r:=Lib.itoa idx++D1 []) (b:=true) w32
 have hd:=A6N (w:=if loc=true then M2 else U4) (r:=Lib.itoa idx++D1 []) (b:=true) w32 wne
 have h3:uS3 n (upT n ⟨name,loc,idx⟩)=⟨Lib.itoa idx++D1 [],true⟩:=by
  unfold uS3
  rw [h2,hd,hw]
  cases loc<;>rfl
 obtain⟨m1,m2⟩:=V9 (n:=idx) (r:= []) (b:=true) hu
 unfold uOk B1k
 rw [h3,m1,m2,h1,q2,h2,hw]
 refine⟨rfl,?_⟩
 cases loc<;>rfl
def lS1(n:Nat)(t:List UInt8):Sc:=(bX t).number n
def lS2(n:Nat)(t:List UInt8):Sc:=(lS1 n t).quoted.expect B4c
def lS3(n:Nat)(t:List UInt8):Sc:=(lS2 n t).num.expect A6m
def lS4(n:Nat)(t:List UInt8):Sc:=(lS3 n t).num.expect wTo
def lS5(n:Nat)(t:List UInt8):Sc:=(lS4 n t).num
def B7i(n:Nat)(t:List UInt8):Bool:=(lS5 n t).ok&&decide ((lS5 n t).s≠ [])
def A6Q(n:Nat)(t:List UInt8):Int:=if B7i n t=true then(if (lS5 n t).w=O3 then 1 else if (lS5 n t).w=A1J then 2 else 0)else 0
def lS6(n:Nat)(t:List UInt8):Sc:=if B7i n t=true then⟨(lS5 n t).word.s,(lS5 n t).word.ok&&(decide ((lS5 n t).w=O3)||decide ((lS5 n t).w=A1J))⟩else lS5 n t
def A8n(n:Nat)(t:List UInt8):Vr:=⟨(lS1 n t).q,atN (lS2 n t).w,atN (lS3 n t).w,atN (lS4 n t).w,A6Q n t⟩
def lOk(n:Nat)(t:List UInt8):Bool:=(lS6 n t).ok&&decide ((lS6 n t).s= [])
def A7W(a:Int):List UInt8:=if a=1 then O3 else if a=2 then A1J else []
theorem B3v(n:Nat)(v:Vr):O1 n v=B6h++32::(Lib.itoa n++32::(D2 v.name++32::(B4c++32::(Lib.itoa v.reg++32::(A6m++32::(Lib.itoa v.lo++32::(wTo++32::(Lib.itoa v.hi++D1 (A7W v.attr))))))))):=by
 unfold O1 A7W
 by_cases h1:v.attr=1
 ·simp [F1,h1,B6h,B4c,A6m,wTo,O3,D1]
 ·by_cases h2:v.attr=2
  ·simp [F1,h2,B6h,B4c,A6m,wTo,A1J,D1]
  ·simp [F1,h1,h2,B6h,B4c,A6m,wTo,D1]
theorem C5K{t s0 s1 s2 s3 s4 s5 s6 s7 nm v:List UInt8}{n l f o:Int}(e00:t=B6h++D1 s0)(e0:s0=Lib.itoa n++D1 s1)(e1':s1=D2 nm++D1 s2)(e1:s2=B4c++D1 s3)
  (e2':s3=Lib.itoa l++D1 s4) (e2:s4=A6m++D1 s5) (e3':s5=Lib.itoa f++D1 s6) (e3:s6=wTo++D1 s7) (e4:s7=Lib.itoa o++D1 v):
  t=B6h++32::(Lib.itoa n++32::(D2 nm++32::(B4c++32::(Lib.itoa l++32::(A6m++32::(Lib.itoa f++32::(wTo++32::(Lib.itoa o++D1 v)))))))):=by
 have n4:=J9 e4 (M5 _)
 have n3:=J9 e3 zf
 have n3':=J9 e3' (M5 _)
 have n2:=J9 e2 zf
 have n2':=J9 e2' (M5 _)
 have n1:=J9 e1 zf
 have n1':=J9 e1' (A9H _)
 have n0:=J9 e0 (M5 _)
 exact Kx
theorem C0Z{n:Nat}{t:List UInt8}(hk:t.take 4=B6h++ [32])(h:lOk n t=true):t=O1 n (A8n n t)∧inB (A8n n t).reg∧inB (A8n n t).lo∧inB (A8n n t).hi:=by
 unfold lOk at h
 simp only [Bool.and_eq_true,decide_eq_true_eq]at h
 obtain⟨h6,h6e⟩:=h
 have key:(lS5 n t).ok=true∧(lS5 n t).s=A7W (A6Q n t):=by
  unfold lS6 at h6 h6e
  by_cases hv:B7i n t=true
  ·rw [if_pos hv]at h6 h6e
   simp only [Bool.and_eq_true,Bool.or_eq_true,decide_eq_true_eq]at h6 h6e
   obtain⟨g1,g2,_,_⟩:=A2U h6.1
   rw [h6e,D1,List.append_nil]at g2
   refine⟨g1,?_⟩
   unfold A6Q
   rw [if_pos hv]
   rw [g2]
   rcases h6.2 with e|e
   ·rw [if_pos e,e];rfl
   ·rw [e];decide
  ·rw [if_neg hv]at h6 h6e
   refine⟨h6,?_⟩
   unfold A6Q
   rw [if_neg hv,h6e]
   rfl
 obtain⟨k5,k5e⟩:=key
 obtain⟨k4,e4,b4⟩:=A0y (x:=lS4 n t) k5
 obtain⟨k3,e3⟩:=K2 (x:=(lS3 n t).num) k4
 obtain⟨k3',e3',b3⟩:=A0y k3
 obtain⟨k2,e2⟩:=K2 (x:=(lS2 n t).num) k3'
 obtain⟨k2',e2',b2⟩:=A0y k2
 obtain⟨k1,e1⟩:=K2 (x:=(lS1 n t).quoted) k2'
 obtain⟨k1',e1'⟩:=A4A k1
 obtain⟨k0,e0⟩:=A4r (x:=bX t) k1'
 have e00:=B7U (w:=B6h) hk zf k0
 have hk5:(lS4 n t).num.s=A7W (A6Q n t):=k5e
 rw [hk5]at e4
 have hc:=C5K e00 e0 e1' e1 e2' e2 e3' e3 e4
 exact⟨by rw [B3v];exact hc,b2,b3,b4⟩
theorem D3L{n:Nat}(hn:n≤1000000){v:Vr}(h1:inB v.reg)(h2:inB v.lo)(h3:inB v.hi)(ha:0≤v.attr∧v.attr≤2):lOk n (O1 n v)=true∧A8n n (O1 n v)=v:=by
 have w: ∀(a:List UInt8) (r:List UInt8),r≠ []→a++32::r=a++D1 r:=fun a r h=>by rw [E1 h]
 have q1:lS1 n (O1 n v)=⟨D2 v.name++32::(B4c++32::(Lib.itoa v.reg++32::(A6m++32::(Lib.itoa v.lo++32::(wTo++32::(Lib.itoa v.hi++D1 (A7W v.attr))))))),true⟩:=by
  unfold lS1
  rw [B3v,C5S zf zf zg,w (Lib.itoa (n:Int)) _ zg,A9D (by unfold inB;omega)]
 have q2:lS2 n (O1 n v)=⟨Lib.itoa v.reg++32::(A6m++32::(Lib.itoa v.lo++32::(wTo++32::(Lib.itoa v.hi++D1 (A7W v.attr))))),true⟩:=by
  unfold lS2
  rw [q1,w (D2 _) _ zg,A2S.1,w B4c _ zg,U1 zf zf]
 have q3:lS3 n (O1 n v)=⟨Lib.itoa v.lo++32::(wTo++32::(Lib.itoa v.hi++D1 (A7W v.attr))),true⟩:=by
  unfold lS3
  rw [q2,w (Lib.itoa _) _ zg,(V9 h1).1,w A6m _ zg,U1 zf zf]
 have q4:lS4 n (O1 n v)=⟨Lib.itoa v.hi++D1 (A7W v.attr),true⟩:=by
  unfold lS4
  rw [q3,w (Lib.itoa _) _ zg,(V9 h2).1,w wTo _ (J9 rfl (M5 _)),U1 zf zf]
 have q5:lS5 n (O1 n v)=⟨A7W v.attr,true⟩:=by
  unfold lS5
  rw [q4,(V9 h3).1]
 have fin:lS6 n (O1 n v)=⟨[],true⟩∧A6Q n (O1 n v)=v.attr:=by
  have c1:=A6N (w:=O3) (r:= []) (b:=true) zf zf
  have c2:=B1l (w:=O3) (r:= []) (b:=true) zf
  have d1:=A6N (w:=A1J) (r:= []) (b:=true) zf zf
  have d2:=B1l (w:=A1J) (r:= []) (b:=true) zf
  rw [D1,List.append_nil]at c1 c2 d1 d2
  unfold lS6 A6Q B7i
  rw [q5]
  have:v.attr=0∨v.attr=1∨v.attr=2:=by omega
  rcases this with e|e|e
  ·rw [e]
   exact KH
  ·rw [e,show A7W 1=O3 from rfl,c1,c2]
   exact KH
  ·rw [e,show A7W 2=A1J from rfl,d1,d2]
   exact KH
 unfold lOk
 rw [fin.1]
 refine⟨rfl,?_⟩
 simp only [A8n]
 rw [fin.2,q1,q2,q3,q4,w (D2 _) _ zg,A2S.2,w (Lib.itoa v.reg) _ zg,(V9 h1).2,w (Lib.itoa v.lo) _ zg,(V9 h2).2,(V9 h3).2]
def D4(n:Nat)(t:List UInt8):Bool:= !decide (((Sc.mk t true).number n).s.take 2= [45,32])
def kS1(n:Nat)(t:List UInt8):Sc:=(Sc.mk t true).number n
def kS2(n:Nat)(t:List UInt8):Sc:=if D4 n t=true then(kS1 n t).num else(kS1 n t).expect [45]
def S9(n:Nat)(t:List UInt8):Int:=atN (kS1 n t).w
def A4J(G:List UInt8→Ins×Int)(n:Nat)(t:List UInt8):Ins:=(G (kS2 n t).s).1
def kOk(G:List UInt8→Ins×Int)(n:Nat)(t:List UInt8):Bool:=(kS2 n t).ok&&(decide ((G (kS2 n t).s).2=0)&&decide (D3 (A4J G n t)=(kS2 n t).s))
def A0i(b:Bool)(z:Int):List UInt8:=if b=true then Lib.itoa z else [45]
theorem B6H{G:List UInt8→Ins×Int}{n:Nat}{t:List UInt8}(hne: ∀s,(G s).2=0→D3 (G s).1≠ [])(h:kOk G n t=true):t=F1 [Lib.itoa n,A0i (D4 n t) (S9 n t),D3 (A4J G n t)]∧(D4 n t=true→inB (S9 n t)):=by
 unfold kOk at h
 simp only [Bool.and_eq_true,decide_eq_true_eq]at h
 obtain⟨h1,h2,h3⟩:=h
 have n2:(kS2 n t).s≠ []:=by rw [←h3];exact hne _ h2
 have key:(kS1 n t).ok=true∧(kS1 n t).s=A0i (D4 n t) (S9 n t)++D1 (kS2 n t).s∧(D4 n t=true→inB (S9 n t)):=by
  unfold kS2 at h1⊢
  by_cases hl:D4 n t=true
  ·rw [if_pos hl]at h1⊢
   obtain⟨g1,g2,g3⟩:=A0y h1
   exact⟨g1,by unfold A0i;rw [if_pos hl];exact g2,fun _=>g3⟩
  ·rw [if_neg hl]at h1⊢
   obtain⟨g1,g2⟩:=K2 h1
   exact⟨g1,by unfold A0i;rw [if_neg hl];exact g2,fun e=>absurd e hl⟩
 obtain⟨k1,e1,b1⟩:=key
 obtain⟨_,e0⟩:=A4r (x:=⟨t,true⟩) k1
 have e0:t=Lib.itoa n++D1 (kS1 n t).s:=e0
 have n1:(kS1 n t).s≠ []:=J9 e1 (by unfold A0i;split;exact M5 _;decide)
 refine⟨?_,b1⟩
 rw [E1 n1,e1,E1 n2,←h3]at e0
 simp only [F1]
 exact e0
theorem C8I{G:List UInt8→Ins×Int}(hG: ∀x,chk x=0→G (D3 x)=(x,0)){n:Nat}(hn:n≤1000000){x:Ins}(hx:chk x=0)(hne:D3 x≠ []){b:Bool}{z:Int}(hz:b=true→inB z):
  kOk G n (F1 [Lib.itoa n,A0i b z,D3 x])=true∧D4 n (F1 [Lib.itoa n,A0i b z,D3 x])=b∧(b=true→S9 n (F1 [Lib.itoa n,A0i b z,D3 x])=z)∧A4J G n (F1 [Lib.itoa n,A0i b z,D3 x])=x:=by
 have wne:A0i b z≠ []:=by unfold A0i;split;exact M5 _;decide
 have e:F1 [Lib.itoa n,A0i b z,D3 x]=Lib.itoa n++D1 (A0i b z++D1 (D3 x)):=by
  rw [E1 (s:=A0i b z++D1 (D3 x)) (J9 rfl wne),E1 hne]
  rfl
 have h1:kS1 n (F1 [Lib.itoa n,A0i b z,D3 x])=⟨A0i b z++D1 (D3 x),true⟩:=by
  unfold kS1
  rw [e,A9D (by unfold inB;omega)]
 have hl:D4 n (F1 [Lib.itoa n,A0i b z,D3 x])=b:=by
  unfold D4
  have h1':((Sc.mk (F1 [Lib.itoa n,A0i b z,D3 x]) true).number n).s=A0i b z++D1 (D3 x):=congrArg Sc.s h1
  rw [h1',E1 hne]
  cases b with
  |false=>simp [A0i]
  | true=>
   have: ¬(A0i true z++32::D3 x).take 2= [45,32]:=by
    intro h
    have h3:A0i true z=Lib.itoa z:=rfl
    rw [h3]at h
    obtain⟨c,r,hc,hcr⟩:=A5j z
    rw [hc]at h
    cases r with
    |nil=>
     rw [List.cons_append,List.nil_append]at h
     injection h with h4 _
     subst h4
     exact C4D z hc
    |cons d r=>
     rw [List.cons_append,List.cons_append]at h
     injection h with _ h5
     injection h5 with h6 _
     exact A4e z (by rw [hc,h6];simp)
   rw [decide_eq_false this]
   rfl
 have h2:kS2 n (F1 [Lib.itoa n,A0i b z,D3 x])=⟨D3 x,true⟩:=by
  unfold kS2
  rw [hl,h1]
  cases b with
  |false=>
   rw [if_neg zf]
   exact U1 zf zf
  |true=>
   rw [if_pos rfl]
   exact(V9 (hz rfl)).1
 have h3:A4J G n (F1 [Lib.itoa n,A0i b z,D3 x])=x:=by
  unfold A4J
  rw [h2]
  simp only
  rw [hG x hx]
 refine⟨?_,hl,fun hb=> ?_,h3⟩
 ·unfold kOk
  rw [h3,h2]
  simp only
  rw [hG x hx]
  simp
 ·unfold S9
  rw [h1]
  subst hb
  exact(V9 (hz rfl)).2
end
end Go.Proofs.YtflobbpcabopjaaGreatDoor
