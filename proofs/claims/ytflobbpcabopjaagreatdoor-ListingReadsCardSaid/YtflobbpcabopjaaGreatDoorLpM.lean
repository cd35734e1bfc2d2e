/-
 What numeral.Parse answers at any text, as a function of bytes. No program, no condition.
-/
import Derived.Test.YtflobbpcabopjaaGreatDoorLpV
import Derived.Lib.IndexMore
import Derived.Test.YtflobbpcabopjaaGreatDoorLsW
import Derived.Test.YtflobbpcabopjaaGreatDoorFnMa
import Derived.Test.YtflobbpcabopjaaGreatDoorExe
import Derived.Test.YtflobbpcabopjaaGreatDoorCode
set_option linter.unusedVariables false set_option linter.unusedSimpArgs false set_option maxRecDepth 100000
set_option maxHeartbeats 0
namespace Go.Proofs.YtflobbpcabopjaaGreatDoor
section
open Go Go.Abs
def asB(c:UInt8):Bool:=c.toNat==9||c.toNat==10||c.toNat==13||c.toNat==32
def trL:List UInt8→List UInt8
 | []=> []
 |c::r=>if asB c=true then trL r else c::r
def trR(s:List UInt8):List UInt8:=(trL s.reverse).reverse
theorem B8O: ∀s,(trL s).length≤s.length
 | []=>Nat.le_refl _
 |c::r=>by
  have:=B8O r
  rw [trL]
  split
  ·exact Kz
  ·exact Nat.le_refl _
theorem C3x(s:List UInt8):(trR s).length≤s.length:=by
 have:=B8O s.reverse
 unfold trR
 rw [List.length_reverse];rw [List.length_reverse]at this;exact this
theorem C8b: ∀{s:List UInt8},(∀c∈s,asB c=false)→trL s=s
 | [],_=>rfl
 |c::r,h=>by rw [trL,h c List.mem_cons_self];rfl
theorem D3H{s:List UInt8}(h: ∀c∈s,asB c=false):trR s=s:=by
 unfold trR
 rw [C8b fun c hc=>h c (List.mem_reverse.1 hc),List.reverse_reverse]
theorem C8c{s:List UInt8}{k:Nat}{c:UInt8}(hc:s[k]? =some c):trR (s.take (k+1))=if asB c=true then trR (s.take k)else s.take (k+1):=by
 unfold trR
 have e:s.take (k+1)=s.take k++ [c]:=by rw [List.take_add_one,hc];rfl
 rw [e,List.reverse_append,List.reverse_singleton,List.singleton_append,trL]
 split
 ·rfl
 ·rw [List.reverse_cons,List.reverse_reverse]
def A0m(c:UInt8):Int:=if 48≤c.toNat∧c.toNat≤57 then(c.toNat:Int)-48 else if 97≤c.toNat∧c.toNat≤122 then(c.toNat:Int)-87 else if 65≤c.toNat∧c.toNat≤90 then(c.toNat:Int)-55 else -1
theorem B8g(c:UInt8): -1≤A0m c∧A0m c≤35:=by
 unfold A0m
 split
 ·omega
 ·split
  ·omega
  ·split<;>omega
def F8(b:Int):List UInt8→Nat
 | []=>0
 |c::r=>if 0≤A0m c∧A0m c<b then F8 b r+1 else 0
theorem B2C(b:Int): ∀s:List UInt8,F8 b s≤s.length
 | []=>Nat.le_refl _
 |c::r=>by
  have:=B2C b r
  rw [F8]
  split
  ·exact Kz
  ·omega
theorem A9L(b:Int): ∀s:List UInt8,∀c∈s.take (F8 b s),0≤A0m c
 | [],c,h=>by simp [F8]at h
 | a::r,c,h=>by
  rw [F8]at h
  split at h
  ·rename_i ha
   rw [List.take_succ_cons]at h
   rcases List.mem_cons.1 h with rfl|h
   ·exact ha.1
   ·exact A9L b r c h
  ·simp at h
theorem C9G{b:Int}{s:List UInt8}{k:Nat}{c:UInt8}(hc:s[k]? =some c):F8 b (s.drop k)=if 0≤A0m c∧A0m c<b then F8 b (s.drop (k+1))+1 else 0:=by
 obtain⟨h,rfl⟩:=List.getElem?_eq_some_iff.1 hc
 rw [List.drop_eq_getElem_cons h,F8]
theorem B5P{s r:List UInt8}(h: ∀c∈s,48≤c.toNat∧c.toNat≤57)(hr:r= []∨ ∃x y,r=x::y∧A0m x= -1):F8 10 (s++r)=s.length:=by
 induction s with
 |nil=>
  rw [List.nil_append]
  rcases hr with rfl|⟨x,y,rfl,hx⟩
  ·rfl
  ·rw [F8,hx,if_neg zd];rfl
 |cons c s ih=>
  have hc:=h c List.mem_cons_self
  have hd:A0m c=(c.toNat:Int)-48:=by unfold A0m;rw [if_pos hc]
  rw [List.cons_append,F8,hd,if_pos zd,ih fun x hx=>h x (List.mem_cons_of_mem _ hx),List.length_cons]
def A3c(b:Int):List UInt8→Int→Option Int
 | [],n=>some n
 |c::r,n=>if (4611686018427387904-A0m c).tdiv b<n then none else A3c b r (n*b+A0m c)
theorem C8V{b:Int}{s:List UInt8}{k:Nat}{c:UInt8}{n:Int}(hc:s[k]? =some c):A3c b (s.drop k) n=if (4611686018427387904-A0m c).tdiv b<n then none else A3c b (s.drop (k+1)) (n*b+A0m c):=by
 obtain⟨h,rfl⟩:=List.getElem?_eq_some_iff.1 hc
 rw [List.drop_eq_getElem_cons h,A3c]
theorem C3v{b d n:Int}(hb:2≤b)(hd:0≤d)(hd2:d≤35)(hn:0≤n)(h: ¬(4611686018427387904-d).tdiv b<n):0≤n*b+d∧n*b+d≤4611686018427387904∧n*b≤4611686018427387904∧0≤n*b:=by
 rw [Int.tdiv_eq_ediv_of_nonneg zd]at h
 have h1:n≤(4611686018427387904-d)/b:=by omega
 have h2:n*b≤4611686018427387904-d:=(Int.le_ediv_iff_mul_le zd).1 h1
 have h3:0≤n*b:=Int.mul_nonneg hn zd
 omega
theorem B1R{b:Int}(hb:2≤b): ∀{s:List UInt8} {n m:Int},(∀c∈s,0≤A0m c)→0≤n→n≤4611686018427387904→A3c b s n=some m→0≤m∧m≤4611686018427387904
 | [],n,m,_,h0,h1,h=>by injection h with h;omega
 | c::r,n,m,hs,h0,h1,h=>by
  rw [A3c]at h
  split at h
  ·cases h
  ·rename_i hn
   have:=C3v hb (hs c List.mem_cons_self) (B8g c).2 h0 hn
   exact B1R hb (fun x hx=>hs x (List.mem_cons_of_mem _ hx)) this.1 this.2.1 h
def B2S:List UInt8→Nat→Nat
 | [],n=>n
 |c::r,n=>B2S r (10*n+(c.toNat-48))
theorem B3R: ∀(a b:List UInt8) (n:Nat),B2S (a++b) n=B2S b (B2S a n)
 | [],_,_=>rfl
 |c::a,b,n=>B3R a b _
theorem C3A: ∀(a:List UInt8) (n:Nat),n≤B2S a n
 | [],_=>Nat.le_refl _
 |c::a,n=>by rw [B2S];have:=C3A a (10*n+(c.toNat-48));omega
theorem C0W: ∀(u:Nat),B2S (Lib.decDigits u) 0=u:=by
 intro u
 induction u using Nat.strongRecOn with
 | ind u ih=>
  rw [Lib.decDigits]
  by_cases h:u<10
  ·rw [dif_pos h,B2S,B2S,W9 h];omega
  ·rw [dif_neg h,B3R,ih (u/10) zd,B2S,B2S,W9 zd]
   omega
theorem B9I: ∀{s:List UInt8} {n:Nat},(∀c∈s,48≤c.toNat∧c.toNat≤57)→B2S s n≤1000000000000→A3c 10 s n=some (B2S s n:Nat)
 | [],n,_,_=>rfl
 |c::r,n,h,hv=>by
  have hc:=h c List.mem_cons_self
  have hd:A0m c=(c.toNat:Int)-48:=by unfold A0m;rw [if_pos hc]
  rw [B2S]at hv⊢
  have hg:=C3A r (10*n+(c.toNat-48))
  rw [A3c,hd,Int.tdiv_eq_ediv_of_nonneg zd,if_neg zd]
  have e:(n:Int)*10+((c.toNat:Int)-48)=((10*n+(c.toNat-48):Nat):Int):=by omega
  rw [e]
  exact B9I (fun x hx=>h x (List.mem_cons_of_mem _ hx)) hv
theorem B5d(u:Nat)(hu:u≤2147483647):A3c 10 (Lib.decDigits u) 0=some (u:Int):=by
 have:=B9I (s:=Lib.decDigits u) (n:=0) (H6 u) (by rw [C0W];omega)
 rw [C0W]at this
 exact this
def mkV(a b:Nat):Int×Int×Int:=if b=0 then(0,0,7)else if 2147483647<a/Nat.gcd a b∨2147483647<b/Nat.gcd a b then(0,0,6)else((a/Nat.gcd a b:Nat),(b/Nat.gcd a b:Nat),0)
theorem D2F{a b:Nat}(h:(mkV a b).2.2=0):H1 (mkV a b).1 (mkV a b).2.1=true∧0≤(mkV a b).1:=by
 unfold mkV at h⊢
 split at h
 ·cases h
 rename_i hb
 split at h
 ·cases h
 rename_i hs
 rw [if_neg hb,if_neg hs]
 have hg:0<Nat.gcd a b:=Nat.gcd_pos_of_pos_right _ zd
 have h1:1≤b/Nat.gcd a b:=Nat.div_pos (Nat.gcd_le_right _ zd) hg
 have h2:Nat.gcd (a/Nat.gcd a b) (b/Nat.gcd a b)=1:=by rw [Nat.gcd_div (Nat.gcd_dvd_left a b) (Nat.gcd_dvd_right a b),Nat.div_self hg]
 simp only [H1,Bool.and_eq_true,decide_eq_true_eq]
 generalize a/Nat.gcd a b=x at*
 generalize b/Nat.gcd a b=y at*
 refine⟨⟨by omega,by omega,by omega,by omega,?_⟩,by omega⟩
 exact h2
theorem B9X{a b:Nat}(h0:1≤b)(ha:a≤2147483647)(hb:b≤2147483647)(h:Nat.gcd a b=1):mkV a b=((a:Int),(b:Int),0):=by
 unfold mkV
 rw [h,Nat.div_one,Nat.div_one,if_neg zd,if_neg zd]
def A3P(a:Option Int)(b:Option Int):Int×Int×Int:=match a,b with
 |some a,some b=>if (mkV a.toNat b.toNat).2.2=0 then mkV a.toNat b.toNat else(0,0,6)
 |_,_=>(0,0,6)
theorem B8l{a b:Option Int}:((A3P a b).2.2=0→H1 (A3P a b).1 (A3P a b).2.1=true∧0≤(A3P a b).1)∧((A3P a b).2.2≠0→(A3P a b).1=0∧(A3P a b).2.1=0):=by
 unfold A3P
 split
 ·split
  ·rename_i h
   exact⟨fun _=>D2F h,fun e=>absurd h e⟩
  ·exact XS
 ·exact XS
structure Nm where
 hex:Bool
 pt:Int
 en:Nat
 fr:Nat
def A8i(s:List UInt8):Option Nm:=
 if F8 10 s=0 then none
 else if (F8 10 s=1∧s[0]? =some 48∧(s[1]? =some 120∨s[1]? =some 88))∧0<F8 16 (s.drop 2)then some ⟨true, -1,2+F8 16 (s.drop 2),2⟩
 else if s[F8 10 s]? =some 46∧0<F8 10 (s.drop (F8 10 s+1))then some ⟨false,F8 10 s,F8 10 s+1+F8 10 (s.drop (F8 10 s+1)),0⟩
 else some ⟨false, -1,F8 10 s,0⟩
inductive NmOK (s:List UInt8):Nm→Prop
 |whole (hex:Bool) (en fr:Nat) (h:fr≤en) (he:en≤s.length) (hd: ∀c∈(s.take en).drop fr,0≤A0m c):NmOK s ⟨hex, -1,en,fr⟩
 |part (pt en:Nat) (h:pt+1≤en) (he:en≤s.length) (h1: ∀c∈s.take pt,0≤A0m c) (h2: ∀c∈(s.take en).drop (pt+1),0≤A0m c):NmOK s ⟨false,pt,en,0⟩
theorem B4U{α:Type}(s:List α)(a m:Nat):(s.take (a+m)).drop a=(s.drop a).take m:=by
 rw [List.drop_take,Nat.add_sub_cancel_left]
theorem C6t{s:List UInt8}{m:Nm}(h:A8i s=some m):NmOK s m:=by
 have hle:=B2C 10 s
 have hin:=A9L 10 s
 unfold A8i at h
 split at h
 ·cases h
 split at h
 ·rename_i h0 h1
  injection h with h
  subst h
  have hl:=B2C 16 (s.drop 2)
  have hi:=A9L 16 (s.drop 2)
  have:2≤s.length:=by
   rw [List.length_drop]at hl;omega
  refine .whole _ _ _ zd (by rw [List.length_drop]at hl;omega) ?_
  rw [B4U]
  exact hi
 split at h
 ·rename_i h0 h1 h2
  injection h with h
  subst h
  have hl:=B2C 10 (s.drop (F8 10 s+1))
  have hi:=A9L 10 (s.drop (F8 10 s+1))
  rw [List.length_drop]at hl
  have:F8 10 s<s.length:=(List.getElem?_eq_some_iff.1 h2.1).1
  refine .part _ _ zd zd hin ?_
  rw [B4U]
  exact hi
 ·injection h with h
  subst h
  refine .whole _ _ _ zd hle ?_
  rw [List.drop_zero]
  exact hin
def B5z(s:List UInt8)(m:Nm):Int×Int×Int:=
 if m.pt<0 then A3P (A3c (if m.hex=true then 16 else 10) ((s.take m.en).drop m.fr) 0) (some 1)
 else if 9<m.en-(m.pt.toNat+1)then(0,0,6)
 else A3P (A3c 10 (s.take m.pt.toNat++(s.take m.en).drop (m.pt.toNat+1)) 0) (some ((10^(m.en-(m.pt.toNat+1)):Nat):Int))
def B0K(x:UInt8):List UInt8→Option (List UInt8×List UInt8)
 | []=>none
 |c::r=>if c=x then some ([],r)else(B0K x r).map fun p=>(c::p.1,p.2)
def A3a(s:List UInt8):Int×Int×Int:=match B0K 47 s with
 |none=>(0,0,4)
 |some (p,q)=>if p= []∨q= []∨F8 10 p≠p.length∨F8 10 q≠q.length then(0,0,4)else A3P (A3c 10 p 0) (A3c 10 q 0)
def M7(t:List UInt8):Int×Int×Int:=match A8i t with
 |some m=>if m.en=t.length then B5z t m else A3a t
 |none=>A3a t
def A6e(t:List UInt8):Int×Int×Int:=match t with
 |45::r=>if (M7 r).2.2=0 then(-(M7 r).1,(M7 r).2.1,0)else M7 r
 |t=>M7 t
def D8(s:List UInt8):Int×Int×Int:=A6e (trL (trR s))
theorem B9z(t:List UInt8):((A3a t).2.2=0→H1 (A3a t).1 (A3a t).2.1=true∧0≤(A3a t).1)∧((A3a t).2.2≠0→(A3a t).1=0∧(A3a t).2.1=0):=by
 unfold A3a
 split
 ·exact XS
 ·split
  ·exact XS
  ·exact B8l
theorem A5b(t:List UInt8):((M7 t).2.2=0→H1 (M7 t).1 (M7 t).2.1=true∧0≤(M7 t).1)∧((M7 t).2.2≠0→(M7 t).1=0∧(M7 t).2.1=0):=by
 unfold M7
 split
 ·split
  ·unfold B5z
   split
   ·exact B8l
   ·split
    ·exact XS
    ·exact B8l
  ·exact B9z t
 ·exact B9z t
theorem C4O{p q:Int}(h:H1 p q=true):H1 (-p) q=true:=by
 simp only [H1,Bool.and_eq_true,decide_eq_true_eq]at h⊢
 obtain⟨h1,h2,h3,h4,h5⟩:=h
 exact⟨h1,h2,by omega,by omega,by rw [Int.neg_gcd];exact h5⟩
theorem C7C(t:List UInt8):((A6e t).2.2=0→H1 (A6e t).1 (A6e t).2.1=true)∧((A6e t).2.2≠0→(A6e t).1=0∧(A6e t).2.1=0):=by
 unfold A6e
 split
 ·rename_i r
  split
  ·rename_i h
   exact⟨fun _=>C4O ((A5b r).1 h).1,fun e=>absurd rfl e⟩
  ·exact⟨fun e=>((A5b r).1 e).1,(A5b r).2⟩
 ·exact⟨fun e=>((A5b _).1 e).1,(A5b _).2⟩
theorem C0l(s:List UInt8):((D8 s).2.2=0→H1 (D8 s).1 (D8 s).2.1=true)∧((D8 s).2.2≠0→(D8 s).1=0∧(D8 s).2.1=0):=C7C _
theorem C7o(s:List UInt8):inB (D8 s).1∧inB (D8 s).2.1:=by
 obtain⟨h1,h2⟩:=C0l s
 by_cases h:(D8 s).2.2=0
 ·have:=h1 h
  simp only [H1,Bool.and_eq_true,decide_eq_true_eq]at this
  unfold inB
  omega
 ·obtain⟨e1,e2⟩:=h2 h
  rw [e1,e2]
  unfold inB
  omega
theorem C2T(x:UInt8): ∀{t:List UInt8} (r:List UInt8),x∉t→B0K x (t++x::r)=some (t,r)
 | [],r,_=>by rw [List.nil_append,B0K,if_pos rfl]
 |c::t,r,h=>by
  have hc:c≠x:=fun e=>h zQ
  rw [List.cons_append,B0K,if_neg hc,C2T x r fun hm=>h (List.mem_cons_of_mem _ hm)]
  rfl
theorem C1A{s:List UInt8}(h: ∀c∈s,48≤c.toNat∧c.toNat≤57)(hn:s≠ []):A8i s=some ⟨false, -1,s.length,0⟩:=by
 have hr:F8 10 s=s.length:=by have:=B5P (r:= []) h (.inl rfl);rwa [List.append_nil]at this
 have hl:s.length≠0:=fun e=>hn (List.length_eq_zero_iff.1 e)
 unfold A8i
 rw [hr,if_neg hl,if_neg,if_neg]
 ·simp
 ·rintro⟨⟨h1,_,h2⟩,_⟩
  have:s[1]? =none:=by rw [List.getElem?_eq_none_iff];omega
  rw [this]at h2
  simp at h2
theorem C1z{s r:List UInt8}(h: ∀c∈s,48≤c.toNat∧c.toNat≤57)(hn:s≠ []):A8i (s++47::r)=some ⟨false, -1,s.length,0⟩:=by
 have hr:F8 10 (s++47::r)=s.length:=B5P h (.inr ⟨47,r,rfl,by decide⟩)
 have hl:s.length≠0:=fun e=>hn (List.length_eq_zero_iff.1 e)
 have ha:(s++47::r)[s.length]? =some 47:=by simp
 unfold A8i
 rw [hr,if_neg hl,if_neg,if_neg]
 ·rw [ha];simp
 ·rintro⟨⟨h1,_,h2⟩,_⟩
  rw [←h1,ha]at h2
  simp at h2
theorem B4A{u:Nat}(h:u≤2147483647):M7 (Lib.decDigits u)=((u:Int),1,0):=by
 unfold M7
 rw [C1A (H6 u) (P5 u)]
 simp only [if_true]
 unfold B5z
 simp only
 rw [if_pos zf,List.take_length,List.drop_zero,if_neg zf,B5d u h]
 unfold A3P
 simp only
 have:mkV (u:Int).toNat (1:Int).toNat=((u:Int),1,0):=by
  have:=B9X (a:=u) (b:=1) zd h zd (Nat.gcd_one_right u)
  simpa using this
 rw [this]
 rfl
theorem C5i(u:Nat):(47:UInt8)∉Lib.decDigits u:=fun h=>by
 have:=H6 u 47 h
 revert this;decide
theorem C3t(u:Nat):F8 10 (Lib.decDigits u)=(Lib.decDigits u).length:=by
 have:=B5P (r:= []) (H6 u) (.inl rfl)
 rwa [List.append_nil]at this
theorem B6E{u v:Nat}(h:u≤2147483647)(h1:1≤v)(h2:v≤2147483647)(hg:Nat.gcd u v=1):M7 (Lib.decDigits u++47::Lib.decDigits v)=((u:Int),(v:Int),0):=by
 unfold M7
 rw [C1z (H6 u) (P5 u)]
 simp only
 rw [if_neg zg]
 unfold A3a
 rw [C2T 47 _ (C5i u)]
 simp only
 rw [if_neg (by rw [C3t,C3t];rintro(h|h|h|h);exact P5 _ h;exact P5 _ h;exact h rfl;exact h rfl),B5d u h,B5d v h2]
 unfold A3P
 simp only [Int.toNat_natCast]
 rw [B9X h1 h h2 hg]
 rfl
theorem B2H{t:List UInt8}(h:t[0]? ≠some 45):A6e t=M7 t:=by
 unfold A6e
 split
 ·exact absurd rfl h
 ·rfl
theorem C0E{r:List UInt8}(h:(M7 r).2.2=0):A6e (45::r)=(-(M7 r).1,(M7 r).2.1,0):=by
 unfold A6e
 simp only
 rw [if_pos h]
theorem B5y(p q:Int): ∀c∈Z3 p q,asB c=false:=by
 have hd: ∀u,∀c∈Lib.decDigits u,asB c=false:=fun u c hc=>by
  have:=H6 u c hc
  unfold asB
  simp only [Bool.or_eq_false_iff,beq_eq_false_iff_ne]
  omega
 have hi: ∀n:Int,∀c∈Lib.itoa n,asB c=false:=fun n c hc=>by
  unfold Lib.itoa at hc
  split at hc
  ·rcases List.mem_cons.1 hc with rfl|hc
   ·decide
   ·exact hd _ c hc
  ·exact hd _ c hc
 intro c hc
 unfold Z3 at hc
 split at hc
 ·exact hi p c hc
 ·rcases List.mem_append.1 hc with hc|hc
  ·exact hi p c hc
  ·rcases List.mem_cons.1 hc with rfl|hc
   ·decide
   ·exact hi q c hc
theorem B9t(u:Nat)(r:List UInt8):(Lib.decDigits u++r)[0]? ≠some 45:=by
 cases h:Lib.decDigits u with
 |nil=>exact absurd h (P5 u)
 |cons c t=>
  have:=H6 u c Qr
  rw [List.cons_append,List.getElem?_cons_zero]
  intro e
  injection e with e
  subst e
  revert this;decide
theorem C4U{p q:Int}(h:H1 p q=true):D8 (Z3 p q)=(p,q,0):=by
 unfold D8
 rw [D3H (B5y p q),C8b (B5y p q)]
 simp only [H1,Bool.and_eq_true,decide_eq_true_eq]at h
 obtain⟨h1,h2,h3,h4,h5⟩:=h
 have hq:Lib.itoa q=Lib.decDigits q.toNat:=by unfold Lib.itoa;rw [if_neg zd]
 unfold Z3
 by_cases hp:p<0
 ·have hi:Lib.itoa p=45::Lib.decDigits p.natAbs:=by unfold Lib.itoa;rw [if_pos hp]
  rw [hi]
  by_cases q1:q=1
  ·rw [if_pos q1]
   have hb:=B4A (u:=p.natAbs) zd
   rw [C0E (by rw [hb]),hb,q1]
   exact YO
  ·rw [if_neg q1,hq,List.cons_append]
   have hb:=B6E (u:=p.natAbs) (v:=q.toNat) zd zd zd (by
    have:p.gcd q=Nat.gcd p.natAbs q.natAbs:=rfl
    rw [this]at h5
    rw [show q.toNat=q.natAbs by omega]
    exact h5)
   rw [C0E (by rw [hb]),hb]
   exact YO
 ·have hi:Lib.itoa p=Lib.decDigits p.toNat:=by unfold Lib.itoa;rw [if_neg hp]
  rw [hi]
  by_cases q1:q=1
  ·rw [if_pos q1]
   have hb:=B4A (u:=p.toNat) zd
   have hd:=B9t p.toNat []
   rw [List.append_nil]at hd
   rw [B2H hd,hb,q1]
   exact YO
  ·rw [if_neg q1,hq,B2H (B9t _ _)]
   have hb:=B6E (u:=p.toNat) (v:=q.toNat) zd zd zd (by
    have:p.gcd q=Nat.gcd p.natAbs q.natAbs:=rfl
    rw [this]at h5
    rw [show q.toNat=q.natAbs by omega,show p.toNat=p.natAbs by omega]
    exact h5)
   rw [hb]
   exact YO
theorem B7d(x:UInt8): ∀s:List UInt8,Lib.index s [x]=match B0K x s with
  |some p=>(p.1.length:Int)
  |none=> -1
 | []=>rfl
 | c::r=>by
  rw [Lib.index,B0K,B7d x r]
  by_cases h:c=x
  ·subst h
   rw [if_pos zg,if_pos rfl];rfl
  ·rw [if_neg (by simpa using fun e=>h e.symm),if_neg h]
   cases B0K x r with
   |none=>rfl
   |some p=>
    simp only [Option.map_some,List.length_cons]
    rw [if_neg zg]
    rfl
theorem B3b(x:UInt8): ∀{s t r:List UInt8},B0K x s=some (t,r)→s=t++x::r
 | [],t,r,h=>by cases h
 | c::s,t,r,h=>by
  rw [B0K]at h
  split at h
  ·rename_i hc
   injection h with h
   injection h with h1 h2
   subst h1 h2
   rw [hc];rfl
  ·obtain⟨p,h1,h2⟩:=Option.map_eq_some_iff.1 h
   injection h2 with h3 h4
   have e1:=B3b x (t:=p.1) (r:=p.2) h1
   subst h3 h4
   rw [e1];rfl
theorem C3g(x:UInt8)(s:List UInt8):Lib.cut s [x]=match B0K x s with
  |some p=>(p.1,p.2,true)
  |none=>(s,[],false):=by
 unfold Lib.cut
 rw [B7d]
 cases h:B0K x s with
 |none=>rfl
 |some p=>
  have e:=B3b x (t:=p.1) (r:=p.2) h
  simp only
  rw [if_pos zd,Int.toNat_natCast,List.length_singleton]
  conv=>lhs;rw [e]
  simp
end
section
open Go Go.Abs
attribute [local irreducible] A0 Run
def asR:List V:=(List.range 256).map fun i=> .bool (i==9||i==10||i==13||i==32)
theorem C8w:Abs.Pure Tryz.prog 94 [.str [32,9,10,13]] (.tup [.agg asR,.bool true]):=Pure.execB (m:=1000) (d:=4) (fr:=1) B4X B5x zh
theorem D5m(c:UInt8):asR[c.toNat]? =some (.bool (asB c)):=by
 unfold asR
 rw [List.getElem?_map,List.getElem?_range c.toNat_lt]
 rfl
theorem D1u:asR.length=256:=by simp [asR]
abbrev sN:Nat:=(215*10000+5)
-- EV: sN
attribute [local go_sem] sN
theorem B4N(st n:Nat)(c:UInt8):A0 Tryz.prog 148 [.ptr sN st 0 0,.int .u8 c.toNat] [(sN,st,.rows 256 [asR])] n (fun r h' _=>r= .bool (asB c)∧h'= [(sN,st,.rows 256 [asR])]):=by
 refine A0.enterK U0 Jo fun Q hQ=>Run.go 100 ?_
 have h1:=D5m c
 have hlt:=c.toNat_lt
 have h2:((c.toNat:Int)<256)=True:=Jm
 have h3:((0:Int)≤(c.toNat:Int))=True:=Jm
 generalize asB c=r at*
 generalize asR=A at*
 simp -implicitDefEqProofs only [go_sem,A3,h1,h2,h3,Nat.zero_add,Nat.mul_one]
 exact KA
theorem C9X(st n:Nat)(s:List UInt8)(hB:s.length≤100000):A0 Tryz.prog 95 [.str s,.ptr sN st 0 0] [(sN,st,.rows 256 [asR])] n (fun r h' _=>r= .str (trL s)∧h'= [(sN,st,.rows 256 [asR])]):=by
 refine A0.enterK d5 Jo fun Q hQ=>Run.go 100 ?_
 have hcc:=fun c n=>B4N st n c
 generalize asR=A at*
 refine Qz ?_
 refine Run.roundsK (fun(x:List UInt8×Nat)=>⟨[(1,.ptr sN st 0 0),(0,.str x.1)],[(sN,st,.rows 256 [A])],x.2⟩) (fun x=>trL x.1=trL s∧x.1.length≤100000) (fun x=>x.1.length) (s,n) (E8.wk ⟨B0.1 ze,fun _ h=>h,Nat.le_refl _⟩) ⟨rfl,hB⟩ ?_
 rintro⟨t,m⟩ ⟨ht,hB⟩ ih
 simp only at ht hB ih⊢
 refine Run.unf A2J (Run.go 100 ?_)
 cases t with
 |nil=>
  refine Qy ?_
  subst hQ
  exact .is ⟨by rw [←ht];rfl,rfl⟩
 | cons c t=>
  rw [trL]at ht
  refine Qy ?_
  refine⟨fun _=> ?_,fun h=>absurd zd h⟩
  refine(hcc c _).mono ?_
  rintro r h' n' ⟨rfl,rfl⟩
  cases hb:asB c with
  |true=>
   rw [hb,if_pos rfl]at ht
   have e1:(((t.length+1:Nat):Int)-1).toNat=t.length:=by omega
   simp -implicitDefEqProofs only [go_sem,List.drop_succ_cons,List.drop_zero,e1,List.take_length]
   refine⟨by omega,by omega,?_⟩
   refine ih _ (t,n') ⟨ht,by rw [List.length_cons]at hB;simp only;omega⟩ zg ?_
   exact E8.wk ⟨B0.1 ze,fun _ h=>h,Nat.le_refl _⟩
  |false=>
   exact Kn
theorem C9Y(st n:Nat)(s:List UInt8)(hB:s.length≤100000):A0 Tryz.prog 231 [.str s,.ptr sN st 0 0] [(sN,st,.rows 256 [asR])] n (fun r h' _=>r= .str (trR s)∧h'= [(sN,st,.rows 256 [asR])]):=by
 refine A0.enterK Y1 Jo fun Q hQ=>Run.go 100 ?_
 have hcc:=fun c n=>B4N st n c
 generalize asR=A at*
 refine Qz ?_
 refine Run.roundsK (fun(x:Nat×Nat)=>⟨[(1,.ptr sN st 0 0),(0,.str (s.take x.1))],[(sN,st,.rows 256 [A])],x.2⟩) (fun x=>trR (s.take x.1)=trR s∧x.1≤s.length) (fun x=>x.1) (s.length,n) (E8.wk ⟨B0.1 (by simp -implicitDefEqProofs only [go_sem,List.take_length]),fun _ h=>h,Nat.le_refl _⟩) ⟨by simp only;rw [List.take_length],Nat.le_refl _⟩ ?_
 rintro⟨k,m⟩ ⟨ht,hk⟩ ih
 simp only at ht hk ih⊢
 refine Run.unf A2k (Run.go 100 ?_)
 have hl:((s.take k).length:Int)=(k:Int):=by rw [List.length_take,Nat.min_eq_left hk]
 by_cases c:k=0
 ·subst c
  rw [List.take_zero]at ht⊢
  refine Qy ?_
  subst hQ
  exact .is ⟨by rw [←ht];rfl,rfl⟩
 ·obtain⟨j,rfl⟩: ∃j,k=j+1:=⟨k-1,by omega⟩
  obtain⟨y,hy⟩: ∃y,s[j]? =some y:=⟨s[j]' zd,by simp⟩
  have e1:((0:Int)<((j+1:Nat):Int))=True:=Jm
  have e2:(((j+1:Nat):Int)-1).toNat=j:=by omega
  have e3:(s.take (j+1))[j]? =some y:=by rw [List.getElem?_take,if_pos zd];exact hy
  have e4:(((j+1:Nat):Int)-1-0).toNat=j:=by omega
  have e5:(s.take (j+1)).take j=s.take j:=by rw [List.take_take,Nat.min_eq_left zd]
  rw [C8c hy]at ht
  simp -implicitDefEqProofs only [go_sem,hl,e1,e2,e3]
  refine⟨⟨by omega,by omega⟩,by omega,?_⟩
  refine(hcc y _).mono ?_
  rintro r h' n' ⟨rfl,rfl⟩
  cases hb:asB y with
  |true=>
   rw [hb,if_pos rfl]at ht
   simp -implicitDefEqProofs only [go_sem,hl,e1,e2,e3,e4,e5,List.drop_zero]
   exact⟨⟨by omega,by omega⟩,by omega,by omega,ih _ (j,n') ⟨ht,by simp only;omega⟩ zj (E8.wk ⟨B0.1 ze,fun _ h=>h,Nat.le_refl _⟩)⟩
  |false=>
   exact Kn
theorem C5H(s:List UInt8)(hB:s.length≤100000):Abs.Pure Tryz.prog 215 [.str s,.str [32,9,10,13]] (.str (trL (trR s))):=by
 refine Pure.of 0 (A0.enter A7I Jo (Run.go 100 ?_))
 by_cases h0:s= []
 ·subst h0
  refine Qz ?_
  rfl
 have hm:=C8w
 have hlen:=D1u
 have hr:=fun st n=>C9Y st n s hB
 have hl:=fun st n=>C9X st n (trR s) (Nat.le_trans (C3x s) hB)
 generalize trR s=t at*
 generalize trL t=u at*
 generalize asR=A at*
 simp -implicitDefEqProofs only [go_sem,A3,h0]
 refine A0.pureF hm ze ?_
 simp -implicitDefEqProofs only [go_sem,hlen,List.drop_replicate,List.replicate_zero,List.append_nil]
 refine(hr 0 1).mono ?_
 rintro r h' n' ⟨rfl,rfl⟩
 refine Qy ?_
 refine(hl 0 n').mono ?_
 rintro r h' n' ⟨rfl,rfl⟩
 exact ze
theorem C1X(s:List UInt8)(hB:s.length≤100000):Abs.Pure Tryz.prog 188 [.str s] (.str (trL (trR s))):=by
 refine Pure.of 0 (A0.enter A7a Jo (Run.go 100 ?_))
 refine Qz ?_
 refine A0.pureF (C5H s hB) ze ?_
 exact ze
theorem B4Q(c:UInt8):Abs.Pure Tryz.prog 233 [.int .u8 c.toNat] (.int .i64 (A0m c)):=by
 refine Pure.of 0 (A0.enter A5w Jo (Run.go 100 ?_))
 have hlt:=c.toNat_lt
 unfold A0m
 by_cases h1:48≤c.toNat∧c.toNat≤57
 ·have a1:((48:Int)≤(c.toNat:Int))=True:=Jm
  have a2:((c.toNat:Int)≤57)=True:=Jm
  rw [if_pos h1]
  simp -implicitDefEqProofs only [go_sem,A3,a1,a2]
  rw [show IntKind.wrap .u8 ((c.toNat:Int)-48)=(c.toNat:Int)-48 from by show ((c.toNat:Int)-48)%256=_;omega]
  exact B1P zd zd
 rw [if_neg h1]
 by_cases h2:97≤c.toNat∧c.toNat≤122
 ·have a1:((48:Int)≤(c.toNat:Int))=True:=Jm
  have a2:((c.toNat:Int)≤57)=False:=Jn
  have a3:((97:Int)≤(c.toNat:Int))=True:=Jm
  have a4:((c.toNat:Int)≤122)=True:=Jm
  rw [if_pos h2]
  have w1:IntKind.wrap .u8 ((c.toNat:Int)-97)=(c.toNat:Int)-97:=by show ((c.toNat:Int)-97)%256=_;omega
  have w2:IntKind.wrap .i64 ((c.toNat:Int)-97)=(c.toNat:Int)-97:=B1P zd zd
  simp -implicitDefEqProofs only [go_sem,A3,a1,a2,a3,a4,w1,w2]
  exact⟨by omega,by omega⟩
 rw [if_neg h2]
 by_cases h3:65≤c.toNat∧c.toNat≤90
 ·rw [if_pos h3]
  have b1:((48:Int)≤(c.toNat:Int))=True:=Jm
  have b2:((c.toNat:Int)≤57)=False:=Jn
  have b3:((97:Int)≤(c.toNat:Int))=False:=Jn
  have b4:((c.toNat:Int)≤122)=True:=Jm
  have b5:((65:Int)≤(c.toNat:Int))=True:=Jm
  have b6:((c.toNat:Int)≤90)=True:=Jm
  have w1:IntKind.wrap .u8 ((c.toNat:Int)-65)=(c.toNat:Int)-65:=by show ((c.toNat:Int)-65)%256=_;omega
  have w2:IntKind.wrap .i64 ((c.toNat:Int)-65)=(c.toNat:Int)-65:=B1P zd zd
  simp -implicitDefEqProofs only [go_sem,A3,b1,b2,b3,b4,b5,b6,w1,w2]
  exact⟨by omega,by omega⟩
 rw [if_neg h3]
 rcases(by omega:c.toNat<48∨(57<c.toNat∧c.toNat<65)∨(90<c.toNat∧c.toNat<97)∨122<c.toNat)with h|h|h|h
 ·have b1:((48:Int)≤(c.toNat:Int))=False:=Jn
  have b2:((c.toNat:Int)≤57)=True:=Jm
  exact XO
 ·have b1:((48:Int)≤(c.toNat:Int))=True:=Jm
  have b2:((c.toNat:Int)≤57)=False:=Jn
  exact XO
 ·have b1:((48:Int)≤(c.toNat:Int))=True:=Jm
  have b2:((c.toNat:Int)≤57)=False:=Jn
  have b3:((97:Int)≤(c.toNat:Int))=False:=Jn
  have b4:((c.toNat:Int)≤122)=True:=Jm
  exact Kl
 ·have b1:((48:Int)≤(c.toNat:Int))=True:=Jm
  have b2:((c.toNat:Int)≤57)=False:=Jn
  have b3:((97:Int)≤(c.toNat:Int))=True:=Jm
  have b4:((c.toNat:Int)≤122)=False:=Jn
  exact Kl
theorem run_pure(s:List UInt8)(hB:s.length≤100000)(a:Nat)(ha:a≤s.length)(b:Int):Abs.Pure Tryz.prog 217 [.str s,.int .i64 a,.int .i64 b] (.int .i64 (a+F8 b (s.drop a):Nat)):=by
 refine Pure.of 0 (A0.enter A8F Jo (Run.go 100 ?_))
 refine Qz ?_
 refine Run.rounds (fun(k:Nat)=>⟨[(2,.int .i64 b),(1,.int .i64 k),(0,.str s)],[],0⟩) (fun k=>k≤s.length∧k+F8 b (s.drop k)=a+F8 b (s.drop a)) (fun k=>s.length-k) a zJ ⟨ha,rfl⟩ ?_
 rintro k ⟨hk,hr⟩ ih
 refine Run.unf B2h (Run.go 100 ?_)
 by_cases c:(k:Int)<s.length
 ·obtain⟨y,hy⟩: ∃y,s[k]? =some y:=⟨s[k]' zd,by simp⟩
  have hdp:=B4Q y
  have hi:=B8g y
  have k0:((0:Int)≤(k:Int))=True:=Jm
  rw [C9G hy]at hr
  generalize A0m y=d at*
  by_cases d0:0≤d
  ·by_cases d1:d<b
   ·rw [if_pos ⟨d0,d1⟩]at hr
    refine QX ?_
    refine A0.pureF hdp ze ?_
    simp -implicitDefEqProofs only [go_sem,c,k0,hy,d0]
    refine A0.pureF hdp ze ?_
    simp -implicitDefEqProofs only [go_sem,d1]
    exact⟨by omega,ih _ (k+1) ⟨by omega,by omega⟩ zd zJ⟩
   ·rw [if_neg (fun h=>d1 h.2)]at hr
    refine QX ?_
    refine A0.pureF hdp ze ?_
    simp -implicitDefEqProofs only [go_sem,c,k0,hy,d0]
    refine A0.pureF hdp ze ?_
    simp -implicitDefEqProofs only [go_sem,d1]
    omega
  ·rw [if_neg (fun h=>d0 h.1)]at hr
   refine QX ?_
   refine A0.pureF hdp ze ?_
   simp -implicitDefEqProofs only [go_sem,c,k0,hy,d0]
   omega
 ·obtain rfl:k=s.length:=by omega
  rw [List.drop_length]at hr
  refine QN ?_
  have:F8 b []=0:=rfl
  omega
theorem A0n(s:List UInt8)(hB:s.length≤100000)(b:Int)(hb:2≤b)(hb2:b≤36)(hs: ∀c∈s,0≤A0m c):Abs.Pure Tryz.prog 218 [.str s,.int .i64 b] (.tup [.int .i64 ((A3c b s 0).getD 0),.bool (A3c b s 0).isSome]):=by
 refine Pure.of 0 (A0.enter A3u Jo (Run.go 100 ?_))
 refine Qz ?_
 refine Run.rounds (fun(x:Nat×Int)=>⟨[(11,.int .i64 x.1),(10,.int .i64 s.length),(6,.int .i64 x.2),(1,.int .i64 b),(0,.str s)],[],0⟩) (fun x=>x.1≤s.length∧(0≤x.2∧x.2≤4611686018427387904)∧A3c b (s.drop x.1) x.2=A3c b s 0) (fun x=>s.length-x.1) (0,0) zJ ⟨Nat.zero_le _,⟨by omega,by omega⟩,by rw [List.drop_zero]⟩ ?_
 rintro⟨k,n⟩ ⟨hk,hn,hr⟩ ih
 simp only at hk hn hr ih⊢
 refine Run.unf A7S (Run.go 100 ?_)
 by_cases c:(k:Int)<s.length
 ·obtain⟨y,hy⟩: ∃y,s[k]? =some y:=⟨s[k]' zd,by simp⟩
  have hd:=hs y (List.mem_of_getElem? hy)
  have hdp:=B4Q y
  have hi:=B8g y
  have k0:((0:Int)≤(k:Int))=True:=Jm
  have b0:(b=0)=False:=Jn
  rw [C8V hy]at hr
  generalize A0m y=d at*
  have hq0:0≤(4611686018427387904-d).tdiv b:=Int.tdiv_nonneg zd zd
  have hq1:(4611686018427387904-d).tdiv b≤4611686018427387904:=by
   rw [Int.tdiv_eq_ediv_of_nonneg zd]
   exact Int.le_trans (Int.ediv_le_self _ zd) zd
  by_cases hz:(4611686018427387904-d).tdiv b<n
  ·rw [if_pos hz]at hr
   rw [←hr]
   refine QX ?_
   refine A0.pureF hdp ze ?_
   simp -implicitDefEqProofs only [go_sem,b0,hz]
   exact⟨⟨by omega,by omega⟩,⟨by omega,by omega⟩,rfl⟩
  ·rw [if_neg hz]at hr
   have hst:=C3v hb hd hi.2 hn.1 hz
   refine QX ?_
   refine A0.pureF hdp ze ?_
   simp -implicitDefEqProofs only [go_sem,b0,hz]
   exact⟨⟨by omega,by omega⟩,⟨by omega,by omega⟩,⟨by omega,by omega⟩,⟨by omega,by omega⟩,⟨by omega,by omega⟩,ih _ (k+1,n*b+d) ⟨by simp only;omega,⟨by simp only;omega,by simp only;omega⟩,hr⟩ zj zJ⟩
 ·obtain rfl:k=s.length:=by omega
  rw [List.drop_length]at hr
  rw [←hr]
  simp -implicitDefEqProofs only [go_sem,c,A3c]
def nV(x:Int×Int×Int):V:= .tup [.agg [.int .i64 x.1,.int .i64 x.2.1],.int .i64 x.2.2]
theorem C0t(a b:Nat)(ha:a≤4611686018427387904)(hb:b≤4611686018427387904)(h0:b≠0):Abs.Pure Tryz.prog 234 [.int .i64 a,.int .i64 b] (nV (mkV a b)):=by
 refine Pure.of 0 (A0.enter A3z Jo (Run.go 100 ?_))
 have hg:=B9B a b
 have hgp:0<Nat.gcd a b:=Nat.gcd_pos_of_pos_right _ zd
 have hx:a/Nat.gcd a b≤a:=Nat.div_le_self _ _
 have hy:b/Nat.gcd a b≤b:=Nat.div_le_self _ _
 unfold nV mkV
 rw [if_neg h0]
 have e2:(a:Int).tdiv (Nat.gcd a b:Nat)=((a/Nat.gcd a b:Nat):Int):=(Int.ofNat_tdiv _ _).symm
 have e3:(b:Int).tdiv (Nat.gcd a b:Nat)=((b/Nat.gcd a b:Nat):Int):=(Int.ofNat_tdiv _ _).symm
 generalize a/Nat.gcd a b=x at*
 generalize b/Nat.gcd a b=y at*
 generalize Nat.gcd a b=g at*
 have g0:((g:Int)=0)=False:=Jn
 have n0:((b:Int)<0)=False:=Jn
 have m0:(if (0:Int)-a>a then 0-(a:Int)else a)=a:=if_neg zd
 have m1:(if (a:Int)<0-a then 0-(a:Int)else a)=a:=if_neg zd
 have r0:((x:Int)< -2147483647)=False:=Jn
 by_cases hz:2147483647<x∨2147483647<y
 ·rw [if_pos hz]
  by_cases hz1:2147483647<x
  ·have r1:((2147483647:Int)<(x:Int))=True:=Jm
   simp -implicitDefEqProofs only [go_sem,A3,n0,m0,m1]
   refine⟨⟨by omega,by omega⟩,?_⟩
   try rw [m0]
   try rw [m1]
   refine A0.pureF hg ze ?_
   simp -implicitDefEqProofs only [go_sem,g0,e2,e3,r0,r1]
   try exact⟨⟨by omega,by omega⟩,⟨by omega,by omega⟩⟩
  ·have r1:((2147483647:Int)<(x:Int))=False:=Jn
   have r2:((2147483647:Int)<(y:Int))=True:=Jm
   exact Xi
 ·rw [if_neg hz]
  have r1:((2147483647:Int)<(x:Int))=False:=Jn
  have r2:((2147483647:Int)<(y:Int))=False:=Jn
  exact Xi
theorem C4N(a b:Nat)(ha:a≤4611686018427387904)(hb:b≤4611686018427387904):Abs.Pure Tryz.prog 219 [.int .i64 a,.int .i64 b] (nV (mkV a b)):=by
 refine Pure.of 0 (A0.enter A5U Jo (Run.go 100 ?_))
 by_cases h0:b=0
 ·subst h0
  unfold nV mkV
  rw [if_pos rfl]
  simp -implicitDefEqProofs only [go_sem,A3]
 ·have hr:=C0t a b ha hb h0
  have n0:((b:Int)=0)=False:=Jn
  have e3:((a:Int)< -4611686018427387904)=False:=Jn
  have e4:((4611686018427387904:Int)<(a:Int))=False:=Jn
  have e5:((b:Int)< -4611686018427387904)=False:=Jn
  have e6:((4611686018427387904:Int)<(b:Int))=False:=Jn
  unfold nV at*
  generalize mkV a b=M at*
  simp -implicitDefEqProofs only [go_sem,A3,n0,e3,e4,e5,e6]
  refine A0.pureF hr ze ?_
  exact ze
theorem B2c{a b:Int}(ha:0≤a)(ha2:a≤4611686018427387904)(hb:0≤b)(hb2:b≤4611686018427387904):Abs.Pure Tryz.prog 219 [.int .i64 a,.int .i64 b] (nV (mkV a.toNat b.toNat)):=by
 have:=C4N a.toNat b.toNat zd zd
 rw [Int.toNat_of_nonneg ha,Int.toNat_of_nonneg hb]at this
 exact this
def fV(x:Option Nm):V:=match x with
 |none=> .tup [.agg [.bool false,.int .i64 0,.int .i64 0,.int .i64 0],.bool false]
 |some m=> .tup [.agg [.bool m.hex,.int .i64 m.pt,.int .i64 m.en,.int .i64 m.fr],.bool true]
theorem B5Q(s:List UInt8)(hB:s.length≤100000)(a:Nat)(ha:a≤s.length)(b:Int)(z:Int)(hz:z=a):Abs.Pure Tryz.prog 217 [.str s,.int .i64 z,.int .i64 b] (.int .i64 (a+F8 b (s.drop a):Nat)):=by
 subst hz
 exact run_pure s hB a ha b
theorem C4t(s:List UInt8)(hB:s.length≤100000):Abs.Pure Tryz.prog 190 [.str s,.int .i64 0] (fV (A8i s)):=by
 refine Pure.of 0 (A0.enter A6Y Jo (Run.go 100 ?_))
 have hr0:=B5Q s hB 0 (Nat.zero_le _) 10 0 rfl
 have hle:=B2C 10 s
 rw [List.drop_zero,Nat.zero_add]at hr0
 have hr16:=B5Q s hB 2
 have hr10:=B5Q s hB (F8 10 s+1)
 unfold A8i
 generalize F8 10 s=e at*
 by_cases h0:e=0
 ·subst h0
  rw [if_pos rfl]
  unfold fV
  refine Qz ?_
  refine A0.pureF hr0 ze ?_
  exact ze
 have q0:((e:Int)=0)=False:=Jn
 have k0:((0:Int)≤(e:Int))=True:=Jm
 have l0:((0:Int)<(s.length:Int))=True:=Jm
 rw [if_neg h0]
 obtain⟨y0,hy0⟩: ∃y,s[0]? =some y:=⟨s[0]' zd,by simp⟩
 generalize hz10:((e+1+F8 10 (s.drop (e+1)):Nat):Int)=z10 at*
 generalize hz16:((2+F8 16 (s.drop 2):Nat):Int)=z16 at*
 by_cases hc:e<s.length
 rotate_left
 ·have c:((e:Int)<(s.length:Int))=False:=Jn
  have hT: ¬(s[e]? =some 46∧0<F8 10 (s.drop (e+1))):=fun h=>by have:=(List.getElem?_eq_some_iff.1 h.1).1;omega
  by_cases h1:e=1
  rotate_left
  ·have q1:((e:Int)=1)=False:=Jn
   have hX: ¬((e=1∧s[0]? =some 48∧(s[1]? =some 120∨s[1]? =some 88))∧0<F8 16 (s.drop 2)):=fun h=>h1 h.1.1
   rw [if_neg hX]
   rw [if_neg hT]
   unfold fV
   simp -implicitDefEqProofs only [go_sem,A3,q0,l0,hy0,k0,q1,c]
   refine A0.pureF hr0 ze ?_
   simp -implicitDefEqProofs only [go_sem,q0,l0,hy0,k0,q1,c]
   try simp only [z10e,z16e]
   try (refine⟨⟨by omega,by omega⟩,?_⟩)
   try omega
  have q1:((e:Int)=1)=True:=Jm
  by_cases h2:y0=48
  rotate_left
  ·have z0:((y0.toNat:Int)=48)=False:=eq_false (fun h=>h2 (UInt8.toNat_inj.1 Qf))
   have hX: ¬((e=1∧s[0]? =some 48∧(s[1]? =some 120∨s[1]? =some 88))∧0<F8 16 (s.drop 2)):=fun h=>h2 Qg
   rw [if_neg hX]
   rw [if_neg hT]
   unfold fV
   simp -implicitDefEqProofs only [go_sem,A3,q0,l0,hy0,k0,q1,z0,c]
   refine A0.pureF hr0 ze ?_
   simp -implicitDefEqProofs only [go_sem,q0,l0,hy0,k0,q1,z0,c]
   try simp only [z10e,z16e]
   try (refine⟨⟨by omega,by omega⟩,?_⟩)
   try omega
  have z0:((y0.toNat:Int)=48)=True:=eq_true (by rw [h2];rfl)
  have hX: ¬((e=1∧s[0]? =some 48∧(s[1]? =some 120∨s[1]? =some 88))∧0<F8 16 (s.drop 2)):=fun h=>by
   have e1:s[1]? =none:=by rw [List.getElem?_eq_none_iff];omega
   rw [e1]at h
   rcases h.1.2.2 with h|h<;>cases h
  rw [if_neg hX]
  rw [if_neg hT]
  unfold fV
  simp -implicitDefEqProofs only [go_sem,A3,q0,l0,hy0,k0,q1,z0,c]
  refine A0.pureF hr0 ze ?_
  simp -implicitDefEqProofs only [go_sem,q0,l0,hy0,k0,q1,z0,c]
  try simp only [z10e,z16e]
  try (refine⟨⟨by omega,by omega⟩,?_⟩)
  try omega
 have c:((e:Int)<(s.length:Int))=True:=Jm
 obtain⟨y,hy⟩: ∃y,s[e]? =some y:=⟨s[e],by simp [hc]⟩
 have hr10:=hr10 zd 10 ((e:Int)+1) zd
 rw [hz10]at hr10
 by_cases h46:y=46
 rotate_left
 ·have x3:((y.toNat:Int)=46)=False:=eq_false (fun h=>h46 (UInt8.toNat_inj.1 (by show y.toNat=46;omega)))
  have hT: ¬(s[e]? =some 46∧0<F8 10 (s.drop (e+1))):=fun h=>h46 (by have:=h.1;rw [hy]at this;injection this)
  by_cases h1:e=1
  rotate_left
  ·have q1:((e:Int)=1)=False:=Jn
   have hX: ¬((e=1∧s[0]? =some 48∧(s[1]? =some 120∨s[1]? =some 88))∧0<F8 16 (s.drop 2)):=fun h=>h1 h.1.1
   rw [if_neg hX]
   rw [if_neg hT]
   unfold fV
   simp -implicitDefEqProofs only [go_sem,A3,q0,l0,hy0,k0,q1,c,hy,x3]
   refine A0.pureF hr0 ze ?_
   simp -implicitDefEqProofs only [go_sem,q0,l0,hy0,k0,q1,c,hy,x3]
   try simp only [z10e,z16e]
   try (refine⟨⟨by omega,by omega⟩,?_⟩)
   try omega
  have q1:((e:Int)=1)=True:=Jm
  by_cases h2:y0=48
  rotate_left
  ·have z0:((y0.toNat:Int)=48)=False:=eq_false (fun h=>h2 (UInt8.toNat_inj.1 Qf))
   have hX: ¬((e=1∧s[0]? =some 48∧(s[1]? =some 120∨s[1]? =some 88))∧0<F8 16 (s.drop 2)):=fun h=>h2 Qg
   rw [if_neg hX]
   rw [if_neg hT]
   unfold fV
   refine Jk ?_
   refine A0.pureF hr0 ze ?_
   simp -implicitDefEqProofs only [go_sem,q0,l0,hy0,k0,q1,z0,c,hy,x3]
   try simp only [z10e,z16e]
   try (refine⟨⟨by omega,by omega⟩,?_⟩)
   try omega
  have z0:((y0.toNat:Int)=48)=True:=eq_true (by rw [h2];rfl)
  have hy1:s[1]? =some y:=by rw [←h1];exact hy
  by_cases h3:y=120∨y=88
  rotate_left
  ·have x1:((y.toNat:Int)=120)=False:=eq_false (fun h=>h3 (.inl (UInt8.toNat_inj.1 (by show y.toNat=120;omega))))
   have x2:((y.toNat:Int)=88)=False:=eq_false (fun h=>h3 (.inr (UInt8.toNat_inj.1 (by show y.toNat=88;omega))))
   have hX: ¬((e=1∧s[0]? =some 48∧(s[1]? =some 120∨s[1]? =some 88))∧0<F8 16 (s.drop 2)):=fun h=>h3 Qs
   rw [if_neg hX]
   rw [if_neg hT]
   unfold fV
   refine QY ?_
   refine A0.pureF hr0 ze ?_
   simp -implicitDefEqProofs only [go_sem,q0,l0,hy0,k0,q1,z0,x1,x2,c,hy,x3]
   try simp only [z10e,z16e]
   try (refine⟨⟨by omega,by omega⟩,?_⟩)
   try omega
  have hr16:=hr16 zd 16 ((e:Int)+1) zd
  rw [hz16]at hr16
  rcases h3 with h3|h3
  ·have x1:((y.toNat:Int)=120)=True:=eq_true (by rw [h3];rfl)
   by_cases h4:0<F8 16 (s.drop 2)
   ·have g16:((e:Int)+1<z16)=True:=Jm
    have hX:(e=1∧s[0]? =some 48∧(s[1]? =some 120∨s[1]? =some 88))∧0<F8 16 (s.drop 2):=⟨⟨h1,by rw [hy0,h2],by rw [hy1,h3];simp⟩,h4⟩
    rw [if_pos hX]
    unfold fV
    simp -implicitDefEqProofs only [go_sem,A3,q0,l0,hy0,k0,q1,z0,x1,c,hy,x3]
    refine A0.pureF hr0 ze ?_
    simp -implicitDefEqProofs only [go_sem,q0,l0,hy0,k0,q1,z0,x1,c,hy,x3]
    try refine⟨⟨by omega,by omega⟩,?_⟩
    refine A0.pureF hr16 ze ?_
    simp -implicitDefEqProofs only [go_sem,q0,l0,hy0,k0,q1,z0,x1,c,hy,x3,g16]
    try simp only [z10e,z16e]
    try (refine⟨⟨by omega,by omega⟩,?_⟩)
    try omega
   ·have g16:((e:Int)+1<z16)=False:=Jn
    have hX: ¬((e=1∧s[0]? =some 48∧(s[1]? =some 120∨s[1]? =some 88))∧0<F8 16 (s.drop 2)):=fun h=>h4 h.2
    rw [if_neg hX]
    rw [if_neg hT]
    unfold fV
    simp -implicitDefEqProofs only [go_sem,A3,q0,l0,hy0,k0,q1,z0,x1,c,hy,x3]
    refine A0.pureF hr0 ze ?_
    simp -implicitDefEqProofs only [go_sem,q0,l0,hy0,k0,q1,z0,x1,c,hy,x3]
    try refine⟨⟨by omega,by omega⟩,?_⟩
    refine A0.pureF hr16 ze ?_
    simp -implicitDefEqProofs only [go_sem,q0,l0,hy0,k0,q1,z0,x1,c,hy,x3,g16]
    try simp only [z10e,z16e]
    try (refine⟨⟨by omega,by omega⟩,?_⟩)
    try omega
  ·have x1:((y.toNat:Int)=120)=False:=eq_false (by rw [h3];decide)
   have x2:((y.toNat:Int)=88)=True:=eq_true (by rw [h3];rfl)
   by_cases h4:0<F8 16 (s.drop 2)
   ·have g16:((e:Int)+1<z16)=True:=Jm
    have hX:(e=1∧s[0]? =some 48∧(s[1]? =some 120∨s[1]? =some 88))∧0<F8 16 (s.drop 2):=⟨⟨h1,by rw [hy0,h2],by rw [hy1,h3];simp⟩,h4⟩
    rw [if_pos hX]
    unfold fV
    refine QY ?_
    refine A0.pureF hr0 ze ?_
    simp -implicitDefEqProofs only [go_sem,q0,l0,hy0,k0,q1,z0,x1,x2,c,hy,x3]
    try refine⟨⟨by omega,by omega⟩,?_⟩
    refine A0.pureF hr16 ze ?_
    simp -implicitDefEqProofs only [go_sem,q0,l0,hy0,k0,q1,z0,x1,x2,c,hy,x3,g16]
    try simp only [z10e,z16e]
    try (refine⟨⟨by omega,by omega⟩,?_⟩)
    try omega
   ·have g16:((e:Int)+1<z16)=False:=Jn
    have hX: ¬((e=1∧s[0]? =some 48∧(s[1]? =some 120∨s[1]? =some 88))∧0<F8 16 (s.drop 2)):=fun h=>h4 h.2
    rw [if_neg hX]
    rw [if_neg hT]
    unfold fV
    refine QY ?_
    refine A0.pureF hr0 ze ?_
    simp -implicitDefEqProofs only [go_sem,q0,l0,hy0,k0,q1,z0,x1,x2,c,hy,x3]
    try refine⟨⟨by omega,by omega⟩,?_⟩
    refine A0.pureF hr16 ze ?_
    simp -implicitDefEqProofs only [go_sem,q0,l0,hy0,k0,q1,z0,x1,x2,c,hy,x3,g16]
    try simp only [z10e,z16e]
    try (refine⟨⟨by omega,by omega⟩,?_⟩)
    try omega
 have x3:((y.toNat:Int)=46)=True:=eq_true (by rw [h46];rfl)
 by_cases h5:0<F8 10 (s.drop (e+1))
 ·have g10:((e:Int)+1<z10)=True:=Jm
  have hT:s[e]? =some 46∧0<F8 10 (s.drop (e+1)):=⟨by rw [hy,h46],h5⟩
  by_cases h1:e=1
  rotate_left
  ·have q1:((e:Int)=1)=False:=Jn
   have hX: ¬((e=1∧s[0]? =some 48∧(s[1]? =some 120∨s[1]? =some 88))∧0<F8 16 (s.drop 2)):=fun h=>h1 h.1.1
   rw [if_neg hX]
   rw [if_pos hT]
   unfold fV
   simp -implicitDefEqProofs only [go_sem,A3,q0,l0,hy0,k0,q1,c,hy,x3]
   refine A0.pureF hr0 ze ?_
   simp -implicitDefEqProofs only [go_sem,q0,l0,hy0,k0,q1,c,hy,x3]
   try refine⟨⟨by omega,by omega⟩,?_⟩
   refine A0.pureF hr10 ze ?_
   simp -implicitDefEqProofs only [go_sem,q0,l0,hy0,k0,q1,c,hy,x3,g10]
   try simp only [z10e,z16e]
   try (refine⟨⟨by omega,by omega⟩,?_⟩)
   try omega
  have q1:((e:Int)=1)=True:=Jm
  by_cases h2:y0=48
  rotate_left
  ·have z0:((y0.toNat:Int)=48)=False:=eq_false (fun h=>h2 (UInt8.toNat_inj.1 Qf))
   have hX: ¬((e=1∧s[0]? =some 48∧(s[1]? =some 120∨s[1]? =some 88))∧0<F8 16 (s.drop 2)):=fun h=>h2 Qg
   rw [if_neg hX]
   rw [if_pos hT]
   unfold fV
   refine Jk ?_
   refine A0.pureF hr0 ze ?_
   simp -implicitDefEqProofs only [go_sem,q0,l0,hy0,k0,q1,z0,c,hy,x3]
   try refine⟨⟨by omega,by omega⟩,?_⟩
   refine A0.pureF hr10 ze ?_
   simp -implicitDefEqProofs only [go_sem,q0,l0,hy0,k0,q1,z0,c,hy,x3,g10]
   try simp only [z10e,z16e]
   try (refine⟨⟨by omega,by omega⟩,?_⟩)
   try omega
  have z0:((y0.toNat:Int)=48)=True:=eq_true (by rw [h2];rfl)
  have hy1:s[1]? =some y:=by rw [←h1];exact hy
  by_cases h3:y=120∨y=88
  rotate_left
  ·have x1:((y.toNat:Int)=120)=False:=eq_false (fun h=>h3 (.inl (UInt8.toNat_inj.1 (by show y.toNat=120;omega))))
   have x2:((y.toNat:Int)=88)=False:=eq_false (fun h=>h3 (.inr (UInt8.toNat_inj.1 (by show y.toNat=88;omega))))
   have hX: ¬((e=1∧s[0]? =some 48∧(s[1]? =some 120∨s[1]? =some 88))∧0<F8 16 (s.drop 2)):=fun h=>h3 Qs
   rw [if_neg hX]
   rw [if_pos hT]
   unfold fV
   refine QY ?_
   refine A0.pureF hr0 ze ?_
   simp -implicitDefEqProofs only [go_sem,q0,l0,hy0,k0,q1,z0,x1,x2,c,hy,x3]
   try refine⟨⟨by omega,by omega⟩,?_⟩
   refine A0.pureF hr10 ze ?_
   simp -implicitDefEqProofs only [go_sem,q0,l0,hy0,k0,q1,z0,x1,x2,c,hy,x3,g10]
   try simp only [z10e,z16e]
   try (refine⟨⟨by omega,by omega⟩,?_⟩)
   try omega
  exact absurd h3 (by rw [h46];decide)
 ·have g10:((e:Int)+1<z10)=False:=Jn
  have hT: ¬(s[e]? =some 46∧0<F8 10 (s.drop (e+1))):=fun h=>h5 h.2
  by_cases h1:e=1
  rotate_left
  ·have q1:((e:Int)=1)=False:=Jn
   have hX: ¬((e=1∧s[0]? =some 48∧(s[1]? =some 120∨s[1]? =some 88))∧0<F8 16 (s.drop 2)):=fun h=>h1 h.1.1
   rw [if_neg hX]
   rw [if_neg hT]
   unfold fV
   simp -implicitDefEqProofs only [go_sem,A3,q0,l0,hy0,k0,q1,c,hy,x3]
   refine A0.pureF hr0 ze ?_
   simp -implicitDefEqProofs only [go_sem,q0,l0,hy0,k0,q1,c,hy,x3]
   try refine⟨⟨by omega,by omega⟩,?_⟩
   refine A0.pureF hr10 ze ?_
   simp -implicitDefEqProofs only [go_sem,q0,l0,hy0,k0,q1,c,hy,x3,g10]
   try simp only [z10e,z16e]
   try (refine⟨⟨by omega,by omega⟩,?_⟩)
   try omega
  have q1:((e:Int)=1)=True:=Jm
  by_cases h2:y0=48
  rotate_left
  ·have z0:((y0.toNat:Int)=48)=False:=eq_false (fun h=>h2 (UInt8.toNat_inj.1 Qf))
   have hX: ¬((e=1∧s[0]? =some 48∧(s[1]? =some 120∨s[1]? =some 88))∧0<F8 16 (s.drop 2)):=fun h=>h2 Qg
   rw [if_neg hX]
   rw [if_neg hT]
   unfold fV
   refine Jk ?_
   refine A0.pureF hr0 ze ?_
   simp -implicitDefEqProofs only [go_sem,q0,l0,hy0,k0,q1,z0,c,hy,x3]
   try refine⟨⟨by omega,by omega⟩,?_⟩
   refine A0.pureF hr10 ze ?_
   simp -implicitDefEqProofs only [go_sem,q0,l0,hy0,k0,q1,z0,c,hy,x3,g10]
   try simp only [z10e,z16e]
   try (refine⟨⟨by omega,by omega⟩,?_⟩)
   try omega
  have z0:((y0.toNat:Int)=48)=True:=eq_true (by rw [h2];rfl)
  have hy1:s[1]? =some y:=by rw [←h1];exact hy
  by_cases h3:y=120∨y=88
  rotate_left
  ·have x1:((y.toNat:Int)=120)=False:=eq_false (fun h=>h3 (.inl (UInt8.toNat_inj.1 (by show y.toNat=120;omega))))
   have x2:((y.toNat:Int)=88)=False:=eq_false (fun h=>h3 (.inr (UInt8.toNat_inj.1 (by show y.toNat=88;omega))))
   have hX: ¬((e=1∧s[0]? =some 48∧(s[1]? =some 120∨s[1]? =some 88))∧0<F8 16 (s.drop 2)):=fun h=>h3 Qs
   rw [if_neg hX]
   rw [if_neg hT]
   unfold fV
   refine QY ?_
   refine A0.pureF hr0 ze ?_
   simp -implicitDefEqProofs only [go_sem,q0,l0,hy0,k0,q1,z0,x1,x2,c,hy,x3]
   try refine⟨⟨by omega,by omega⟩,?_⟩
   refine A0.pureF hr10 ze ?_
   simp -implicitDefEqProofs only [go_sem,q0,l0,hy0,k0,q1,z0,x1,x2,c,hy,x3,g10]
   try simp only [z10e,z16e]
   try (refine⟨⟨by omega,by omega⟩,?_⟩)
   try omega
  exact absurd h3 (by rw [h46];decide)
end
end Go.Proofs.YtflobbpcabopjaaGreatDoor
