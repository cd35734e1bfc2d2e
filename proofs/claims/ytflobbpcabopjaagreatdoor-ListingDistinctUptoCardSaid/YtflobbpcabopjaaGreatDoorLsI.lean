/-
 Listings tell accepted functions apart. No program, no condition.
-/
import Derived.Test.YtflobbpcabopjaaGreatDoorLsA
set_option linter.unusedVariables false
set_option linter.unusedSimpArgs false
set_option maxRecDepth 100000
set_option maxHeartbeats 0
namespace Go.Proofs.YtflobbpcabopjaaGreatDoor
open Go Go.Abs
theorem B4D{u:Nat}(h:u<10):Lib.decDigits u= [UInt8.ofNat (48+u)]:=by rw [Lib.decDigits,dif_pos h]
theorem B1I{u:Nat}(h: ¬u<10):Lib.decDigits u=Lib.decDigits (u/10)++ [UInt8.ofNat (48+u%10)]:=by rw [Lib.decDigits,dif_neg h]
theorem B6G{u v:Nat}(hu:u<10)(hv:v<10)(h:UInt8.ofNat (48+u)=UInt8.ofNat (48+v)):u=v:=by
 have:=congrArg UInt8.toNat h
 rw [U0 hu,U0 hv]at this
 omega
theorem B5f: ∀(u v:Nat),Lib.decDigits u=Lib.decDigits v→u=v:=by
 intro u
 induction u using Nat.strongRecOn with
 | ind u ih=>
  intro v h
  by_cases hu:u<10
  ·by_cases hv:v<10
   ·rw [B4D hu,B4D hv]at h
    injection h with h
    exact B6G hu hv h
   ·rw [B4D hu,B1I hv]at h
    have h2:=congrArg List.length h
    have h3:(Lib.decDigits (v/10)).length≠0:=fun e=>A2e _ (List.length_eq_zero_iff.1 e)
    rw [List.length_append,List.length_singleton,List.length_singleton]at h2
    omega
  ·by_cases hv:v<10
   ·rw [B1I hu,B4D hv]at h
    have h2:=congrArg List.length h
    have h3:(Lib.decDigits (u/10)).length≠0:=fun e=>A2e _ (List.length_eq_zero_iff.1 e)
    rw [List.length_append,List.length_singleton,List.length_singleton]at h2
    omega
   ·rw [B1I hu,B1I hv]at h
    obtain⟨h1,h2⟩:=List.append_inj' h rfl
    injection h2 with h2
    have e1:=ih (u/10) (by omega) _ h1
    have e2:=B6G (by omega) (by omega) h2
    omega
theorem B5r(n:Int): ∀c∈Lib.itoa n,c.toNat=45∨(48≤c.toNat∧c.toNat≤57):=by
 intro c hc
 unfold Lib.itoa at hc
 split at hc
 ·rcases List.mem_cons.1 hc with rfl|hc
  ·exact .inl rfl
  ·exact .inr (Q3 _ _ hc)
 ·exact .inr (Q3 _ _ hc)
theorem B3h(n:Int): ∃c r,Lib.itoa n=c::r∧(c.toNat=45∨(48≤c.toNat∧c.toNat≤57)):=by
 cases h:Lib.itoa n with
 |nil=>
  unfold Lib.itoa at h
  split at h
  ·cases h
  ·exact absurd h (A2e _)
 |cons c r=>exact⟨c,r,rfl,B5r n c (by rw [h];exact List.mem_cons_self)⟩
theorem S4{m n:Int}(h:Lib.itoa m=Lib.itoa n):m=n:=by
 unfold Lib.itoa at h
 by_cases hm:m<0
 ·by_cases hn:n<0
  ·rw [if_pos hm,if_pos hn]at h
   injection h with _ h
   have:=B5f _ _ h
   omega
  ·rw [if_pos hm,if_neg hn]at h
   exact absurd (Q3 n.toNat 45 (by rw [←h];exact List.mem_cons_self)) (by decide)
 ·by_cases hn:n<0
  ·rw [if_neg hm,if_pos hn]at h
   exact absurd (Q3 m.toNat 45 (by rw [h];exact List.mem_cons_self)) (by decide)
  ·rw [if_neg hm,if_neg hn]at h
   have:=B5f _ _ h
   omega
theorem C6Z{n:Int}{c:UInt8}(h1:c.toNat≠45)(h2: ¬(48≤c.toNat∧c.toNat≤57)):c∉Lib.itoa n:=fun h=>(B5r n c h).elim h1 h2
theorem A4k{c:UInt8}: ∀{a b r s:List UInt8},c∉a→c∉b→a++c::r=b++c::s→a=b∧r=s
 | [],[],r,s,_,_,h=>by injection h with _ h;exact⟨rfl,h⟩
 | [],y::b,r,s,_,hb,h=>by
  injection h with h1 _
  exact absurd (h1 ▸ List.mem_cons_self) hb
 |x::a,[],r,s,ha,_,h=>by
  injection h with h1 _
  exact absurd (h1 ▸ List.mem_cons_self) ha
 |x::a,y::b,r,s,ha,hb,h=>by
  injection h with h1 h2
  obtain⟨e1,e2⟩:=A4k (fun h=>ha (List.mem_cons_of_mem _ h)) (fun h=>hb (List.mem_cons_of_mem _ h)) h2
  exact⟨by rw [h1,e1],e2⟩
theorem C1O{c:UInt8}{a b r s:List UInt8}(ha:c∉a)(hb:c∉b)(hr:r= []∨ ∃x,r=c::x)(hs:s= []∨ ∃x,s=c::x)(h:a++r=b++s):a=b∧r=s:=by
 rcases hr with rfl|⟨x,rfl⟩
 ·rcases hs with rfl|⟨y,rfl⟩
  ·simpa using h
  ·rw [List.append_nil]at h
   exact absurd (by rw [h];simp) ha
 ·rcases hs with rfl|⟨y,rfl⟩
  ·rw [List.append_nil]at h
   exact absurd (by rw [←h];simp) hb
  ·obtain⟨e1,e2⟩:=A4k ha hb h
   exact⟨e1,by rw [e2]⟩
def dq(l:List UInt8):UInt8×List UInt8:=
 if (l.getD 0 0).toNat≠92 then(l.getD 0 0,l.drop 1)
 else if (l.getD 1 0).toNat=110 then(10,l.drop 2)else if (l.getD 1 0).toNat=116 then(9,l.drop 2)
 else if (l.getD 1 0).toNat=92∨(l.getD 1 0).toNat=34 then(l.getD 1 0,l.drop 2)
 else(UInt8.ofNat (((l.getD 1 0).toNat-48)*100+((l.getD 2 0).toNat-48)*10+((l.getD 3 0).toNat-48)),l.drop 4)
theorem C8i(c:UInt8)(x:List UInt8):dq (C9 c++x)=(c,x):=by
 have hc:=c.toNat_lt
 unfold C9
 by_cases h1:c.toNat=10
 ·rw [if_pos h1]
  obtain rfl:c=10:=UInt8.toNat_inj.1 h1
  rfl
 rw [if_neg h1]
 by_cases h2:c.toNat=9
 ·rw [if_pos h2]
  obtain rfl:c=9:=UInt8.toNat_inj.1 h2
  rfl
 rw [if_neg h2]
 by_cases h3:c.toNat=92∨c.toNat=34
 ·rw [if_pos h3]
  rcases h3 with h3|h3
  ·obtain rfl:c=92:=UInt8.toNat_inj.1 h3
   rfl
  ·obtain rfl:c=34:=UInt8.toNat_inj.1 h3
   rfl
 rw [if_neg h3]
 have h92:(92:UInt8).toNat=92:=rfl
 by_cases h4:c.toNat<32∨126<c.toNat
 ·rw [if_pos h4]
  have e1:(UInt8.ofNat (48+c.toNat/100)).toNat=48+c.toNat/100:=U0 (by omega)
  have e2:(UInt8.ofNat (48+c.toNat/10%10)).toNat=48+c.toNat/10%10:=U0 (by omega)
  have e3:(UInt8.ofNat (48+c.toNat%10)).toNat=48+c.toNat%10:=U0 (by omega)
  unfold dq
  simp only [List.cons_append,List.nil_append,List.getD_cons_zero,List.getD_cons_succ,List.drop_succ_cons,List.drop_zero,e1,e2,e3]
  rw [if_neg (fun h=>h h92),if_neg (by omega),if_neg (by omega),if_neg (by omega)]
  rw [show (48+c.toNat/100-48)*100+(48+c.toNat/10%10-48)*10+(48+c.toNat%10-48)=c.toNat by omega,UInt8.ofNat_toNat]
 ·rw [if_neg h4]
  unfold dq
  simp only [List.cons_append,List.nil_append,List.getD_cons_zero,List.drop_succ_cons,List.drop_zero]
  rw [if_pos (by omega)]
theorem B5L(c:UInt8)(x r:List UInt8):C9 c++x≠34::r:=by
 intro h
 have h92: ¬(92:UInt8)=34:=by decide
 unfold C9 at h
 split at h
 ·injection h with h _;exact h92 h
 ·split at h
  ·injection h with h _;exact h92 h
  ·split at h
   ·injection h with h _;exact h92 h
   ·rename_i h3
    split at h
    ·injection h with h _;exact h92 h
    ·injection h with h _
     exact h3 (.inr (by rw [h];rfl))
theorem B7f: ∀{s t r u:List UInt8},s.flatMap C9++34::r=t.flatMap C9++34::u→s=t∧r=u
 | [],[],r,u,h=>by injection h with _ h;exact⟨rfl,h⟩
 | [],d::t,r,u,h=>by
  rw [List.flatMap_cons,List.append_assoc]at h
  exact absurd h.symm (B5L _ _ _)
 |c::s,[],r,u,h=>by
  rw [List.flatMap_cons,List.append_assoc]at h
  exact absurd h (B5L _ _ _)
 |c::s,d::t,r,u,h=>by
  rw [List.flatMap_cons,List.append_assoc,List.flatMap_cons,List.append_assoc]at h
  have h2:=congrArg dq h
  rw [C8i,C8i]at h2
  injection h2 with h3 h4
  obtain⟨e1,e2⟩:=B7f h4
  exact⟨by rw [h3,e1],e2⟩
theorem B0a{s t r u:List UInt8}(h:F9 s++r=F9 t++u):s=t∧r=u:=by
 unfold F9 at h
 rw [List.cons_append,List.cons_append,List.append_assoc,List.append_assoc]at h
 injection h with _ h
 exact B7f h
theorem C7m{p q p' q':Int}(h:B2c p q=B2c p' q'):p=p'∧q=q':=by
 have n47: ∀n:Int,(47:UInt8)∉Lib.itoa n:=fun n=>C6Z (by decide) (by decide)
 unfold B2c at h
 by_cases h1:q=1
 ·by_cases h2:q'=1
  ·rw [if_pos h1,if_pos h2]at h
   exact⟨S4 h,by omega⟩
  ·rw [if_pos h1,if_neg h2]at h
   exact absurd (by rw [h];simp) (n47 p)
 ·by_cases h2:q'=1
  ·rw [if_neg h1,if_pos h2]at h
   exact absurd (by rw [←h];simp) (n47 p')
  ·rw [if_neg h1,if_neg h2]at h
   obtain⟨e1,e2⟩:=A4k (n47 p) (n47 p') h
   exact⟨S4 e1,S4 e2⟩
def B9h(l:List UInt8):Int:=
 let c:=(l.getD 0 0).toNat
 if c=110 then 0 else if c=116∨c=102 then 1 else if c=34 then 3 else 2
theorem B4i{v:Kst}(h:D1 v=true):v.kind=0∨v.kind=1∨v.kind=2∨v.kind=3:=by
 unfold D1 at h
 split at h
 ·omega
 split at h
 ·omega
 split at h
 ·omega
 ·rw [Bool.and_eq_true]at h
  have:=of_decide_eq_true h.1
  omega
theorem C5v(p q:Int):B9h (B2c p q)=2:=by
 have key: ∀x:List UInt8,B9h (Lib.itoa p++x)=2:=fun x=>by
  obtain⟨c,r,e,hc⟩:=B3h p
  rw [e]
  unfold B9h
  simp only [List.cons_append,List.getD_cons_zero]
  rw [if_neg (by omega),if_neg (by omega),if_neg (by omega)]
 unfold B2c
 split
 ·have:=key []
  rwa [List.append_nil]at this
 ·exact key _
theorem C0d{v:Kst}(h:D1 v=true):B9h (A0R v)=v.kind:=by
 rcases B4i h with e|e|e|e
 ·unfold A0R;rw [if_neg (by omega),if_neg (by omega),if_neg (by omega),e];rfl
 ·unfold A0R
  rw [if_pos e,e]
  split<;>rfl
 ·unfold A0R;rw [if_neg (by omega),if_pos e,e];exact C5v _ _
 ·unfold A0R;rw [if_neg (by omega),if_neg (by omega),if_pos e,e];rfl
theorem C7Q{v w:Kst}(hv:D1 v=true)(hw:D1 w=true)(h:A0R v=A0R w):v=w:=by
 have hk:=congrArg B9h h
 rw [C0d hv,C0d hw]at hk
 obtain⟨k,p,q,s,r⟩:=v
 obtain⟨k',p',q',s',r'⟩:=w
 simp only at hk
 subst hk
 rcases B4i hv with e|e|e|e<;>simp only at e<;>subst e<;>simp [D1]at hv hw<;>simp [A0R]at h
 ·obtain⟨rfl,rfl,rfl,rfl⟩:=hv
  obtain⟨rfl,rfl,rfl,rfl⟩:=hw
  rfl
 ·obtain⟨h1,h2,h3,h4⟩:=hv
  obtain⟨g1,g2,g3,g4⟩:=hw
  subst h2 h3 h4 g2 g3 g4
  rcases h1 with rfl|rfl<;>rcases g1 with rfl|rfl<;>first|rfl|(revert h;decide)
 ·obtain⟨_,rfl,rfl⟩:=hv
  obtain⟨_,rfl,rfl⟩:=hw
  obtain⟨rfl,rfl⟩:=C7m h
  rfl
 ·obtain⟨_,rfl,rfl,rfl⟩:=hv
  obtain⟨_,rfl,rfl,rfl⟩:=hw
  rw [(B0a (s:=s) (t:=s') (r:= []) (u:= []) (by rw [h])).1]
theorem C2M{i:Nat}{v w:Kst}(hv:D1 v=true)(hw:D1 w=true)(h:B9 i v=B9 i w):v=w:=by
 simp only [B9,F2]at h
 have h:=List.append_cancel_left h
 injection h with _ h
 have h:=List.append_cancel_left h
 injection h with _ h
 exact C7Q hv hw h
theorem D1g{i:Nat}{v w:Upv}(h:upT i v=upT i w):v=w:=by
 simp only [upT,F2]at h
 have h:=List.append_cancel_left h
 injection h with _ h
 have h:=List.append_cancel_left h
 injection h with _ h
 obtain⟨e1,h⟩:=B0a h
 injection h with _ h
 have n32: ∀b:Bool,(32:UInt8)∉(if b=true then [108,111,99,97,108]else [111,117,116,101,114]:List UInt8):=by decide
 obtain⟨e2,h⟩:=A4k (n32 _) (n32 _) h
 have e3:=S4 h
 have inj: ∀b c:Bool,(if b=true then [108,111,99,97,108]else [111,117,116,101,114]:List UInt8)=(if c=true then [108,111,99,97,108]else [111,117,116,101,114])→b=c:=by decide
 have e2:=inj _ _ e2
 cases v
 cases w
 simp_all
theorem C7R{i:Nat}{v w:Vr}(hv:0≤v.attr∧v.attr≤2)(hw:0≤w.attr∧w.attr≤2)(h:I4 i v=I4 i w):v=w:=by
 simp only [I4,F2,List.append_assoc,List.cons_append,List.nil_append,List.cons.injEq,true_and,List.append_cancel_left_eq]at h
 obtain⟨e1,h⟩:=B0a h
 simp only [List.cons.injEq,true_and]at h
 obtain⟨e2,h⟩:=A4k (Q7 _) (Q7 _) h
 simp only [List.cons.injEq,true_and]at h
 obtain⟨e3,h⟩:=A4k (Q7 _) (Q7 _) h
 simp only [List.cons.injEq,true_and]at h
 have at0: ∀z:Int,(if z=1 then [32,99,111,110,115,116]else if z=2 then [32,99,108,111,115,101]else []:List UInt8)= []∨ ∃x,(if z=1 then [32,99,111,110,115,116]else if z=2 then [32,99,108,111,115,101]else []:List UInt8)=32::x:=fun z=>by
  split
  ·exact .inr ⟨_,rfl⟩
  ·split
   ·exact .inr ⟨_,rfl⟩
   ·exact .inl rfl
 obtain⟨e4,h⟩:=C1O (Q7 _) (Q7 _) (at0 _) (at0 _) h
 have a3: ∀{z:Int},0≤z∧z≤2→z=0∨z=1∨z=2:=fun hz=>by omega
 have e5:v.attr=w.attr:=by
  rcases a3 hv with e|e|e<;>rcases a3 hw with f|f|f<;>rw [e,f]at h⊢ <;>revert h<;>decide
 have e2:=S4 e2
 have e3:=S4 e3
 have e4:=S4 e4
 cases v
 cases w
 simp_all
theorem C6j{x y:Ins}(hx:chk x=0)(hy:chk y=0)(h:T9 x=T9 y):x=y:=by
 have ox:=(B4Z hx).1
 have oy:=(B4Z hy).1
 have bx: ∀z∈x.fs, -1000000≤z∧z≤1000000:=by
  obtain⟨_,⟨b1,b2⟩,⟨c1,c2⟩,⟨d1,d2⟩,⟨e1,e2⟩⟩:=B2Y hx
  simp only [Ins.fs,List.forall_mem_cons,List.not_mem_nil,false_imp_iff,implies_true,and_true]
  omega
 have bY: ∀z∈y.fs, -1000000≤z∧z≤1000000:=by
  obtain⟨_,⟨b1,b2⟩,⟨c1,c2⟩,⟨d1,d2⟩,⟨e1,e2⟩⟩:=B2Y hy
  simp only [Ins.fs,List.forall_mem_cons,List.not_mem_nil,false_imp_iff,implies_true,and_true]
  omega
 have hs:Lib.split (T9 x) [32]=Lib.split (T9 y) [32]:=by rw [h]
 rw [B6c ox,B6c oy]at hs
 injection hs with hw hs
 have hop:x.op=y.op:=by
  obtain⟨m,hm,m1,m2⟩:=A2p ox
  obtain⟨n,hn,n1,n2⟩:=A2p oy
  unfold frm at hw
  rw [ox,oy,if_pos rfl,if_pos rfl,hm,hn,Int.toNat_natCast,Int.toNat_natCast]at hw
  have key: ∀m:Nat,m≤29→ ∀n:Nat,n≤29→1≤m→1≤n→(A8E m).word=(A8E n).word→m=n:=by decide
  rw [hm,hn,key m m2 n n2 m1 n1 hw]
 have hX:=B7q hx bx
 have hY:=B7q hy bY
 rw [hop]at hX hs
 rw [hs,hY]at hX
 injection hX with hX
 injection hX with hX
 simp only [Ins.fs,List.cons.injEq,and_true]at hX
 cases x
 cases y
 simp_all
def A9l(i:Nat)(y:List UInt8×Ins):List UInt8:=F2 [Lib.itoa i,y.1,T9 y.2]
def A4a(ls:List Int):Nat→List Ins→List (List UInt8×Ins)
 |_,[]=> []
 |i,x::r=>(A1u ls i,x)::A4a ls (i+1) r
theorem A6w(ls:List Int)(d:Nat): ∀(l:List Ins) (i:Nat),B0 (F8 ls) d i l=B0 A9l d i (A4a ls i l)
 | [],i=>rfl
 |x::r,i=>by rw [B0,A4a,B0,A6w ls d r (i+1)];rfl
theorem B3w{ls:List Int}: ∀{l:List Ins} {i:Nat} {y},y∈A4a ls i l→(∃k,y.1=A1u ls k)∧y.2∈l
 | [],i,y,h=>by cases h
 | x::r,i,y,h=>by
  rw [A4a]at h
  rcases List.mem_cons.1 h with rfl|h
  ·exact⟨⟨i,rfl⟩,List.mem_cons_self⟩
  ·obtain⟨h1,h2⟩:=B3w h
   exact⟨h1,List.mem_cons_of_mem _ h2⟩
theorem B7e{ls ms:List Int}: ∀{l m:List Ins} {i:Nat},A4a ls i l=A4a ms i m→l=m∧ ∀k<l.length,A1u ls (i+k)=A1u ms (i+k)
 | [],[],i,_=>⟨rfl,fun k hk=>absurd hk (Nat.not_lt_zero _)⟩
 | [],y::m,i,h=>by cases h
 |x::l,[],i,h=>by cases h
 | x::l,y::m,i,h=>by
  rw [A4a,A4a]at h
  injection h with h1 h2
  injection h1 with h1 h3
  obtain⟨e1,e2⟩:=B7e h2
  refine⟨by rw [h3,e1],fun k hk=> ?_⟩
  cases k with
  |zero=>exact h1
  |succ k=>
   have:=e2 k (by rw [List.length_cons]at hk;omega)
   rw [show i+(k+1)=i+1+k by omega]
   exact this
theorem C1X(ls:List Int)(i:Nat):(32:UInt8)∉A1u ls i:=by
 unfold A1u
 split
 ·decide
 ·exact Q7 _
theorem C5F{i:Nat}{x y:List UInt8×Ins}(hx:(32:UInt8)∉x.1∧chk x.2=0)(hy:(32:UInt8)∉y.1∧chk y.2=0)(h:A9l i x=A9l i y):x=y:=by
 simp only [A9l,F2]at h
 have h:=List.append_cancel_left h
 injection h with _ h
 obtain⟨e1,h⟩:=A4k hx.1 hy.1 h
 exact Prod.ext e1 (C6j hx.2 hy.2 h)
theorem B6Q(z:Int):Lib.itoa z≠ [45]:=by
 intro h
 unfold Lib.itoa at h
 split at h
 ·injection h with _ h
  exact A2e _ h
 ·exact absurd (Q3 z.toNat 45 (by rw [h];exact List.mem_cons_self)) (by decide)
theorem C5k{ls ms:List Int}{n:Nat}(h1:ls.length=0∨ls.length=n)(h2:ms.length=0∨ms.length=n)(h: ∀k<n,A1u ls k=A1u ms k):ls=ms:=by
 by_cases hl:ls.length=0
 ·by_cases hm:ms.length=0
  ·rw [List.length_eq_zero_iff.1 hl,List.length_eq_zero_iff.1 hm]
  ·have:=h 0 (by omega)
   unfold A1u at this
   rw [if_pos hl,if_neg hm]at this
   exact absurd this.symm (B6Q _)
 ·by_cases hm:ms.length=0
  ·have:=h 0 (by omega)
   unfold A1u at this
   rw [if_neg hl,if_pos hm]at this
   exact absurd this (B6Q _)
  ·refine List.ext_getElem (by omega) fun k hk hk'=> ?_
   have:=h k (by omega)
   unfold A1u at this
   rw [if_neg hl,if_neg hm,List.getElem?_eq_getElem hk,List.getElem?_eq_getElem hk']at this
   exact S4 this
theorem C4Z{p q:Fn}{path:List UInt8}(h:D4 p path=D4 q path):p.name=q.name∧p.line=q.line∧p.params=q.params∧p.regs=q.regs∧p.vararg=q.vararg:=by
 simp only [D4,F2,List.append_assoc,List.cons_append,List.nil_append,List.cons.injEq,true_and,List.append_cancel_left_eq]at h
 obtain⟨e1,h⟩:=B0a h
 simp only [List.cons.injEq,true_and]at h
 obtain⟨e2,h⟩:=A4k (Q7 _) (Q7 _) h
 simp only [List.cons.injEq,true_and]at h
 obtain⟨e3,h⟩:=A4k (Q7 _) (Q7 _) h
 simp only [List.cons.injEq,true_and]at h
 have at0: ∀b:Bool,(if b=true then [32,118,97,114,97,114,103]else []:List UInt8)= []∨ ∃x,(if b=true then [32,118,97,114,97,114,103]else []:List UInt8)=32::x:=fun b=>by
  cases b
  ·exact .inl rfl
  ·exact .inr ⟨_,rfl⟩
 obtain⟨e4,h⟩:=C1O (Q7 _) (Q7 _) (at0 _) (at0 _) h
 refine⟨e1,S4 e2,S4 e3,S4 e4,?_⟩
 revert h
 cases p.vararg<;>cases q.vararg<;>decide
def rkT(l:List UInt8):Nat:=
 let c:=(l.getD 0 0).toNat
 if c=99 then 1 else if c=117 then 2 else if c=118 then 3 else if c=102 then 5 else 4
def rk(d:Nat)(e:Nat×List UInt8):Nat:=if e.1≤d then 6 else rkT e.2
theorem D0q(l:List UInt8):rkT l≤5:=by
 unfold rkT
 simp only
 repeat' split
 all_goals omega
def Hd(d k:Nat)(r:List (Nat×List UInt8)):Prop:= ∀e,r.head? =some e→k<rk d e
theorem Hd.mono{d k j:Nat}{r:List (Nat×List UInt8)}(h:Hd d k r)(hj:j≤k):Hd d j r:=fun e he=>by have:=h e he;omega
theorem Hd.up{d:Nat}{r:List (Nat×List UInt8)}(h:Hd d 5 r):Hd (d+1) 5 r:=fun e he=>by
 have:=h e he
 have h5:=D0q e.2
 unfold rk at this⊢
 split at this
 ·rw [if_pos (by omega)];omega
 ·omega
theorem C0B{α:Type}{f:Nat→α→List UInt8}{d i j k:Nat}{l:List α}{r:List (Nat×List UInt8)}(hf: ∀i x,rkT (f i x)=j)(hk:k<j)(h:Hd d k r):Hd d k (B0 f (d+1) i l++r):=by
 cases l with
 |nil=>exact h
 |cons x l=>
  intro e he
  rw [B0,List.cons_append,List.head?_cons]at he
  injection he with he
  subst he
  unfold rk
  rw [if_neg (by simp),hf]
  exact hk
theorem A8U{α:Type}{f:Nat→α→List UInt8}{P:α→Prop}{d j:Nat}(hinj: ∀i x y,P x→P y→f i x=f i y→x=y)(hf: ∀i x,rkT (f i x)=j):
  ∀{l m:List α} {i:Nat} {r s:List (Nat×List UInt8)},(∀x∈l,P x)→(∀x∈m,P x)→Hd d j r→Hd d j s→B0 f (d+1) i l++r=B0 f (d+1) i m++s→l=m∧r=s
 | [],[],i,r,s,_,_,_,_,h=>⟨rfl,h⟩
 | [],y::m,i,r,s,_,_,hr,_,h=>by
  rw [B0,List.nil_append,B0,List.cons_append]at h
  have:=hr (d+1,f i y) (by rw [h];rfl)
  unfold rk at this
  rw [if_neg (by simp),hf]at this
  omega
 |x::l,[],i,r,s,_,_,_,hs,h=>by
  rw [B0,B0,List.nil_append,List.cons_append]at h
  have:=hs (d+1,f i x) (by rw [←h];rfl)
  unfold rk at this
  rw [if_neg (by simp),hf]at this
  omega
 |x::l,y::m,i,r,s,hl,hm,hr,hs,h=>by
  rw [B0,B0,List.cons_append,List.cons_append]at h
  injection h with h1 h2
  injection h1 with _ h1
  have e1:=hinj i x y (hl x List.mem_cons_self) (hm y List.mem_cons_self) h1
  obtain⟨e2,e3⟩:=A8U hinj hf (fun x h=>hl x (List.mem_cons_of_mem _ h)) (fun x h=>hm x (List.mem_cons_of_mem _ h)) hr hs h2
  exact⟨by rw [e1,e2],e3⟩
theorem B9K(i:Nat)(v:Kst):rkT (B9 i v)=1:=rfl
theorem C5M(i:Nat)(v:Upv):rkT (upT i v)=2:=rfl
theorem C1e(i:Nat)(v:Vr):rkT (I4 i v)=3:=rfl
theorem B4L(p:Fn)(path:List UInt8):rkT (D4 p path)=5:=rfl
theorem C2l(i:Nat)(y:List UInt8×Ins):rkT (A9l i y)=4:=by
 obtain⟨c,r,e,hc⟩:=B3h (i:Int)
 unfold A9l rkT
 simp only [F2,e,List.cons_append,List.getD_cons_zero]
 rw [if_neg (by omega),if_neg (by omega),if_neg (by omega),if_neg (by omega)]
theorem C6R{path:List UInt8}{d i:Nat}{l:List Fn}{r:List (Nat×List UInt8)}(h:Hd d 5 r):Hd d 4 (linesFs path (d+1) i l++r):=by
 cases l with
 |nil=>rw [linesFs];exact h.mono (by omega)
 |cons q l=>
  intro e he
  rw [linesFs,U1,A7Y]at he
  simp only [List.cons_append,List.head?_cons]at he
  injection he with he
  subst he
  unfold rk
  rw [if_neg (by simp),B4L]
  omega
theorem B9b{path:List UInt8}{d i:Nat}{l:List Fn}{r:List (Nat×List UInt8)}(h:Hd d 5 r):Hd (d+1) 5 (linesFs path (d+1) i l++r):=by
 cases l with
 |nil=>rw [linesFs];exact h.up
 |cons q l=>
  intro e he
  rw [linesFs,U1,A7Y]at he
  simp only [List.cons_append,List.head?_cons]at he
  injection he with he
  subst he
  unfold rk
  rw [if_pos (by simp)]
  omega
theorem B8R{p q:Fn}(h:q∈p.protos): ∀x∈q.each,x∈p.each:=fun x hx=>Fn.each_trans p q (Fn.child_mem p.self_mem h) x hx
theorem C0O(p:Fn): ∀(q:Fn) (path:List UInt8) (d:Nat) (r s:List (Nat×List UInt8)),(∀x∈p.each,x.Okl)→(∀x∈q.each,x.Okl)→Hd d 5 r→Hd d 5 s→G4 path d p++r=G4 path d q++s→p=q∧r=s:=by
 induction p using Fn.ind with
 | h p ih=>
  intro q path d r s hp hq hr hs h
  rw [U1,U1,A7Y,A7Y,A6w,A6w]at h
  simp only [List.cons_append,List.append_assoc]at h
  injection h with h0 h
  injection h0 with _ h0
  obtain⟨a1,a2,a3,a4,a5⟩:=C4Z h0
  have op:=hp p p.self_mem
  have oq:=hq q q.self_mem
  have pP: ∀y∈A4a p.lines 0 p.code,(32:UInt8)∉y.1∧chk y.2=0:=fun y hy=>by
   obtain⟨⟨k,e⟩,h2⟩:=B3w hy
   exact⟨by rw [e];exact C1X _ _,op.code.2 _ h2⟩
  have pQ: ∀y∈A4a q.lines 0 q.code,(32:UInt8)∉y.1∧chk y.2=0:=fun y hy=>by
   obtain⟨⟨k,e⟩,h2⟩:=B3w hy
   exact⟨by rw [e];exact C1X _ _,oq.code.2 _ h2⟩
  have s4: ∀(x:Fn) (t:List (Nat×List UInt8)),Hd d 5 t→Hd d 4 (linesFs path (d+1) 0 x.protos++t):=fun x t ht=>C6R ht
  have s3: ∀(x:Fn) (t:List (Nat×List UInt8)),Hd d 5 t→Hd d 3 (B0 A9l (d+1) 0 (A4a x.lines 0 x.code)++(linesFs path (d+1) 0 x.protos++t)):=fun x t ht=>C0B C2l (by omega) ((s4 x t ht).mono (by omega))
  have s2: ∀(x:Fn) (t:List (Nat×List UInt8)),Hd d 5 t→Hd d 2 (B0 I4 (d+1) 0 x.vars++(B0 A9l (d+1) 0 (A4a x.lines 0 x.code)++(linesFs path (d+1) 0 x.protos++t))):=fun x t ht=>C0B C1e (by omega) ((s3 x t ht).mono (by omega))
  have s1: ∀(x:Fn) (t:List (Nat×List UInt8)),Hd d 5 t→Hd d 1 (B0 upT (d+1) 0 x.ups++(B0 I4 (d+1) 0 x.vars++(B0 A9l (d+1) 0 (A4a x.lines 0 x.code)++(linesFs path (d+1) 0 x.protos++t)))):=fun x t ht=>C0B C5M (by omega) ((s2 x t ht).mono (by omega))
  obtain⟨b1,h⟩:=A8U (f:=B9) (d:=d) (j:=1) (P:=fun v=>D1 v=true) (fun i x y hx hy=>C2M hx hy) B9K (fun v hv=>(op.consts.2 v hv).1) (fun v hv=>(oq.consts.2 v hv).1) (s1 p r hr) (s1 q s hs) h
  obtain⟨b2,h⟩:=A8U (f:=upT) (d:=d) (j:=2) (P:=fun _=>True) (fun i x y _ _=>D1g) C5M (fun _ _=>trivial) (fun _ _=>trivial) (s2 p r hr) (s2 q s hs) h
  obtain⟨b3,h⟩:=A8U (f:=I4) (d:=d) (j:=3) (P:=fun v=>0≤v.attr∧v.attr≤2) (fun i x y hx hy=>C7R hx hy) C1e (fun v hv=>(op.vars.2 v hv).2.2.2.2) (fun v hv=>(oq.vars.2 v hv).2.2.2.2) (s3 p r hr) (s3 q s hs) h
  obtain⟨b4,h⟩:=A8U (f:=A9l) (d:=d) (j:=4) (P:=fun y=>(32:UInt8)∉y.1∧chk y.2=0) (fun i x y hx hy=>C5F hx hy) C2l pP pQ (s4 p r hr) (s4 q s hs) h
  obtain⟨b5,b6⟩:=B7e b4
  have hcl:p.code.length=q.code.length:=by rw [b5]
  have b7:p.lines=q.lines:=C5k op.lines.1 (by have:=oq.lines.1;omega) (fun k hk=>by have:=b6 k hk;rwa [Nat.zero_add]at this)
  have sub: ∀(l m:List Fn) (i:Nat),(∀x∈l,x∈p.protos)→(∀x∈m,x∈q.protos)→linesFs path (d+1) i l++r=linesFs path (d+1) i m++s→l=m∧r=s:=by
   intro l
   induction l with
   | nil=>
    intro m i _ hm h
    cases m with
    |nil=>rw [linesFs]at h;exact⟨rfl,h⟩
    |cons y m=>
     rw [linesFs,linesFs,U1,A7Y,List.nil_append]at h
     have:=hr (d+1,D4 y (path++46::Lib.itoa i)) (by rw [h];rfl)
     unfold rk at this
     rw [if_neg (by simp),B4L]at this
     omega
   | cons x l ihl=>
    intro m i hl hm h
    cases m with
    |nil=>
     rw [linesFs,linesFs,U1,A7Y,List.nil_append]at h
     have:=hs (d+1,D4 x (path++46::Lib.itoa i)) (by rw [←h];rfl)
     unfold rk at this
     rw [if_neg (by simp),B4L]at this
     omega
    |cons y m=>
     rw [linesFs,linesFs,List.append_assoc,List.append_assoc]at h
     have hx:=hl x List.mem_cons_self
     have hy:=hm y List.mem_cons_self
     obtain⟨e1,h⟩:=ih x hx y _ (d+1) _ _ (fun z hz=>hp z (B8R hx z hz)) (fun z hz=>hq z (B8R hy z hz)) (B9b hr) (B9b hs) h
     obtain⟨e2,e3⟩:=ihl m (i+1) (fun z hz=>hl z (List.mem_cons_of_mem _ hz)) (fun z hz=>hm z (List.mem_cons_of_mem _ hz)) h
     exact⟨by rw [e1,e2],e3⟩
  obtain⟨b8,h⟩:=sub _ _ _ (fun _ h=>h) (fun _ h=>h) h
  refine⟨?_,h⟩
  cases p
  cases q
  simp_all
theorem C2k{c c':UInt8}(hc:c≠32)(hc':c'≠32){x x':List UInt8}: ∀{m n:Nat},List.replicate m (32:UInt8)++c::x=List.replicate n 32++c'::x'→m=n∧c::x=c'::x'
 |0,0,h=>⟨rfl,h⟩
 |0,n+1,h=>by
  rw [List.replicate_succ]at h
  injection h with h _
  exact absurd h hc
 |m+1,0,h=>by
  rw [List.replicate_succ]at h
  injection h with h _
  exact absurd h.symm hc'
 |m+1,n+1,h=>by
  rw [List.replicate_succ,List.replicate_succ]at h
  injection h with _ h
  obtain⟨e1,e2⟩:=C2k hc hc' h
  exact⟨by omega,e2⟩
def C8p(e:Nat×List UInt8):Prop:=noN e.2∧ ∃c r,e.2=c::r∧c≠32
theorem B6U: ∀{l m:List (Nat×List UInt8)},(∀e∈l,C8p e)→(∀e∈m,C8p e)→l.flatMap S5=m.flatMap S5→l=m
 | [],[],_,_,_=>rfl
 | [],e::m,_,_,h=>by
  have:=congrArg List.length h
  simp [S5]at this
 |e::l,[],_,_,h=>by
  have:=congrArg List.length h
  simp [S5]at this
 |e::l,f::m,hl,hm,h=>by
  obtain⟨n1,c,x,ex,hc⟩:=hl e List.mem_cons_self
  obtain⟨n2,c',x',ex',hc'⟩:=hm f List.mem_cons_self
  obtain⟨d,t⟩:=e
  obtain⟨d',t'⟩:=f
  simp only at n1 n2 ex ex'
  subst ex ex'
  rw [List.flatMap_cons,List.flatMap_cons]at h
  unfold S5 at h
  simp only [List.append_assoc,List.cons_append,List.nil_append]at h
  obtain⟨h1,h2⟩:=C2k hc hc' h
  obtain⟨h3,h4⟩:=A4k (c:=10) (a:=c::x) (b:=c'::x') n1 n2 (by simpa using h2)
  have h5:=B6U (fun e h=>hl e (List.mem_cons_of_mem _ h)) (fun e h=>hm e (List.mem_cons_of_mem _ h)) h4
  rw [h5,h3,show d=d' by omega]
theorem B4K{t:List UInt8}(h:rkT t≠4): ∃c r,t=c::r∧c≠32:=by
 cases t with
 |nil=>exact absurd rfl h
 |cons c r=>
  refine⟨c,r,rfl,?_⟩
  rintro rfl
  exact h rfl
theorem A8V{α:Type}{f:Nat→α→List UInt8}{d:Nat}: ∀{l:List α} {i:Nat} {e},e∈B0 f d i l→ ∃j x,e.2=f j x
 | [],i,e,h=>by cases h
 |y::r,i,e,h=>by
  rw [B0]at h
  rcases List.mem_cons.1 h with rfl|h
  ·exact⟨i,y,rfl⟩
  ·exact A8V h
theorem C5E(p:Fn)(path:List UInt8)(d:Nat): ∀e∈A7Y p path d,∃c r,e.2=c::r∧c≠32:=by
 intro e he
 rw [A7Y,A6w]at he
 rcases List.mem_cons.1 he with rfl|he
 ·exact B4K (by rw [B4L];decide)
 rcases List.mem_append.1 he with he|he
 ·obtain⟨j,x,e1⟩:=A8V he
  rw [e1];exact B4K (by rw [B9K];decide)
 rcases List.mem_append.1 he with he|he
 ·obtain⟨j,x,e1⟩:=A8V he
  rw [e1];exact B4K (by rw [C5M];decide)
 rcases List.mem_append.1 he with he|he
 ·obtain⟨j,x,e1⟩:=A8V he
  rw [e1];exact B4K (by rw [C1e];decide)
 ·obtain⟨j,x,e1⟩:=A8V he
  rw [e1]
  obtain⟨c,r,e2,hc⟩:=B3h (j:Int)
  refine⟨c,r++32::(x.1++32::T9 x.2),by simp [A9l,F2,e2],?_⟩
  rintro rfl
  revert hc
  decide
mutual
theorem A8K: ∀(p:Fn) (path:List UInt8) (d:Nat),∀e∈G4 path d p,∃c r,e.2=c::r∧c≠32
 |⟨a,b,c,e,f,g,h,i,l,j,k⟩,path,d=>by
  intro x hx
  rw [G4]at hx
  rcases List.mem_append.1 hx with hx|hx
  ·exact C5E _ _ _ x hx
  ·exact linesFs_good l path (d+1) 0 x hx
theorem linesFs_good: ∀(l:List Fn) (path:List UInt8) (d i:Nat),∀e∈linesFs path d i l,∃c r,e.2=c::r∧c≠32
 | [],_,d,i=>by intro x hx;rw [linesFs]at hx;cases hx
 |q::r,path,d,i=>by
  intro x hx
  rw [linesFs]at hx
  rcases List.mem_append.1 hx with hx|hx
  ·exact A8K q _ d x hx
  ·exact linesFs_good r path d (i+1) x hx
end
theorem C3n{p q:Fn}(hp: ∀x∈p.each,x.Okl)(hq: ∀x∈q.each,x.Okl)(h:Q8 p=Q8 q):p=q:=by
 have h2:=B6U (fun e he=>⟨A6n p (by decide) 0 e he,A8K p _ 0 e he⟩) (fun e he=>⟨A6n q (by decide) 0 e he,A8K q _ 0 e he⟩) h
 have nil:Hd 0 5 []:=fun e he=>by cases he
 exact(C0O p q [109,97,105,110] 0 [] [] hp hq nil nil (by rw [List.append_nil,List.append_nil];exact h2)).1
end Go.Proofs.YtflobbpcabopjaaGreatDoor
