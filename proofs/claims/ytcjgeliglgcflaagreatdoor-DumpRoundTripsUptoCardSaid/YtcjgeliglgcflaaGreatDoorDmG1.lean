/-
 What the bytes of a dump say: reading them, plain, and that writing is its inverse. No condition.
-/
import Derived.Test.YtcjgeliglgcflaaGreatDoorDmC
import Derived.Test.YtcjgeliglgcflaaGreatDoorPan
import Derived.Test.YtcjgeliglgcflaaGreatDoorCode
set_option linter.unusedVariables false
set_option linter.unusedSimpArgs false
set_option maxRecDepth 100000
set_option maxHeartbeats 0
namespace Go.Proofs.YtcjgeliglgcflaaGreatDoor
open Go.Abs
attribute [local irreducible] A3 C2 Run
abbrev Rd(α:Type):=Except Int (α×List Int)
def Rd.bind{α β:Type}(x:Rd α)(f:α→List Int→Rd β):Rd β:=
 match x with
 | .ok r=>f r.1 r.2
 | .error e=> .error e
theorem Rd.bind_ok{α β:Type}(a:α)(l:List Int)(f:α→List Int→Rd β):Rd.bind (.ok (a,l)) f=f a l:=rfl
theorem Rd.bind_inv{α β:Type}{x:Rd α}{f:α→List Int→Rd β}{r:β×List Int}(h:x.bind f= .ok r): ∃a l,x= .ok (a,l)∧f a l= .ok r:=by
 cases x with
 |ok y=>exact⟨y.1,y.2,rfl,h⟩
 |error e=>cases h
def A1q(n:Nat)(l:List Int):Rd (List Int):=if n≤l.length then .ok (l.take n,l.drop n)else .error 5
def orN(b:List Int):Nat→Int
 |0=>0
 |k+1=>S2 .or .u64 (orN b k) (shZ true .u64 (IntKind.u64.wrap (b.getD k 0)) (8*k))
def unL(b:List Int):Int:=IntKind.i64.wrap (orN b 8)
def W8(l:List Int):Rd Int:=(A1q 8 l).bind fun b l=> .ok (unL b,l)
def A2C(l:List Int):Rd Bool:=(A1q 1 l).bind fun b l=>if 1<b.getD 0 0 then .error 4 else .ok (decide (b.getD 0 0=1),l)
def B4v(l:List Int):Rd Nat:=(W8 l).bind fun z l=>if z<0 then .error 4 else if (l.length:Int)<z then .error 5 else .ok (z.toNat,l)
def B0d(b:List Int):List UInt8:=b.map fun z=>UInt8.ofNat z.toNat
def B0P(l:List Int):Rd (List UInt8):=(B4v l).bind fun n l=>(A1q n l).bind fun b l=> .ok (B0d b,l)
def B0Q(l:List Int):Rd Kst:=(A1q 1 l).bind fun b l=>
 if b.getD 0 0=0 then .ok (⟨0,0,0,[],0⟩,l)
 else if b.getD 0 0=1 then(A2C l).bind fun t l=> .ok (⟨1,0,0,[],if t then 1 else 0⟩,l)
 else if b.getD 0 0=2 then(W8 l).bind fun p l=>(W8 l).bind fun q l=> .ok (⟨2,p,q,[],0⟩,l)
 else if b.getD 0 0=3 then(B0P l).bind fun s l=> .ok (⟨3,0,0,s,0⟩,l)
 else .error 4
def Q5{α:Type}(f:List Int→Rd α):Nat→List Int→Rd (List α)
 |0,l=> .ok ([],l)
 |n+1,l=>(f l).bind fun x l=>(Q5 f n l).bind fun r l=> .ok (x::r,l)
def B2T(l:List Int):Rd Ins:=(W8 l).bind fun o l=>(W8 l).bind fun a l=>(W8 l).bind fun b l=>(W8 l).bind fun c l=>(W8 l).bind fun d l=> .ok (⟨o,a,b,c,d⟩,l)
def upP(l:List Int):Rd Upv:=(B0P l).bind fun s l=>(A2C l).bind fun t l=>(W8 l).bind fun i l=> .ok (⟨s,t,i⟩,l)
def vrP(l:List Int):Rd Vr:=(B0P l).bind fun s l=>(W8 l).bind fun a l=>(W8 l).bind fun b l=>(W8 l).bind fun c l=>(W8 l).bind fun d l=> .ok (⟨s,a,b,c,d⟩,l)
def L9{α:Type}(f:List Int→Rd α)(l:List Int):Rd (List α):=(B4v l).bind fun n l=>Q5 f n l
def A4D:Nat→List Int→Rd Fn
 |0,_=> .error 3
 |d+1,l=>(B0P l).bind fun name l=>(W8 l).bind fun line l=>(W8 l).bind fun params l=>(A2C l).bind fun vararg l=>(W8 l).bind fun regs l=>
  (L9 B2T l).bind fun code l=>(L9 W8 l).bind fun lines l=>(L9 B0Q l).bind fun consts l=>(L9 (A4D d) l).bind fun protos l=>(L9 upP l).bind fun ups l=>(L9 vrP l).bind fun vars l=>
  .ok (⟨name,line,params,vararg,regs,code,lines,consts,protos,ups,vars⟩,l)
theorem C1U{k m x:Nat}(hx:x<2^k)(hk:k+8≤64)(hm:m<256):S2 .or .u64 (x:Int) ((2^k*m:Nat):Int)=((x+2^k*m:Nat):Int):=by
 have h1:2^k*m+x<2^(k+8):=by
  rw [Nat.pow_add]
  have:2^k*m+2^k≤2^k*2^8:=by rw [←Nat.mul_succ];exact Nat.mul_le_mul_left _ (by omega)
  omega
 have h2:(2:Nat)^(k+8)≤2^64:=Nat.pow_le_pow_right (by decide) hk
 have h3:=Nat.two_pow_add_eq_or_of_lt hx m
 generalize hy:2^k*m=y at*
 unfold S2
 show IntKind.u64.wrap ((BitVec.ofInt 64 (x:Int)|||BitVec.ofInt 64 (y:Int)).toNat:Int)=_
 rw [BitVec.toNat_or,BitVec.toNat_ofInt,BitVec.toNat_ofInt]
 have e1:((x:Int)%((2^64:Nat):Int)).toNat=x:=by omega
 have e2:((y:Int)%((2^64:Nat):Int)).toNat=y:=by omega
 rw [e1,e2,Nat.or_comm,←h3]
 show ((y+x:Nat):Int)%(2^64:Int)=_
 omega
def A2E:List Int→Int
 | []=>0
 |b::r=>b+256*A2E r
def dg:Nat→Int→List Int
 |0,_=> []
 |k+1,y=>y%256::dg k (y/256)
theorem B8t: ∀(k:Nat) (y:Int),dg (k+1) y=dg k y++ [y/256^k%256]
 |0,y=>by simp [dg]
 |k+1,y=>by
  show y%256::dg (k+1) (y/256)=(y%256::dg k (y/256))++ [_]
  rw [B8t k (y/256),Int.ediv_ediv_of_nonneg (by decide),show (256:Int)*256^k=256^(k+1) by rw [Int.pow_succ,Int.mul_comm]]
  rfl
theorem C1b: ∀b:List Int,K4 b→dg b.length (A2E b)=b
 | [],_=>rfl
 |b::r,h=>by
  have h1:=h b List.mem_cons_self
  have h2:=C1b r fun z hz=>h z (List.mem_cons_of_mem _ hz)
  unfold isB at h1
  show (b+256*A2E r)%256::dg r.length ((b+256*A2E r)/256)=_
  rw [show (b+256*A2E r)%256=b by omega,show (b+256*A2E r)/256=A2E r by omega,h2]
theorem C2J: ∀(k:Nat) (y:Int),0≤y→y<256^k→A2E (dg k y)=y
 |0,y,h,h2=>by
  have:y<1:=h2
  show (0:Int)=y
  omega
 |k+1,y,h,h2=>by
  show y%256+256*A2E (dg k (y/256))=y
  rw [Int.pow_succ]at h2
  rw [C2J k (y/256) (by omega) (Int.ediv_lt_of_lt_mul (by decide) h2)]
  omega
theorem B2J: ∀b:List Int,K4 b→0≤A2E b∧A2E b<256^b.length
 | [],_=>by decide
 |b::r,h=>by
  have h1:=h b List.mem_cons_self
  have h2:=B2J r fun z hz=>h z (List.mem_cons_of_mem _ hz)
  unfold isB at h1
  rw [A2E,List.length_cons,Int.pow_succ]
  generalize (256:Int)^r.length=P at*
  omega
theorem C1T{b:List Nat}(hb: ∀x∈b,x<256): ∀k,k≤8→k≤b.length→orN (b.map fun(x:Nat)=>(x:Int)) k=A2E ((b.take k).map fun(x:Nat)=>(x:Int))∧ ∃y:Nat,y<2^(8*k)∧A2E ((b.take k).map fun(x:Nat)=>(x:Int))=y
 |0,_,_=>⟨rfl,0,by decide,rfl⟩
 | k+1,hk,hl=>by
  obtain⟨h1,y,hy,h2⟩:=C1T hb k (by omega) (by omega)
  obtain⟨m,hm⟩: ∃m,b[k]? =some m:=⟨b[k],by simp⟩
  have hm2:=hb m (List.mem_of_getElem? hm)
  have e:(b.take (k+1)).map (fun(x:Nat)=>(x:Int))=(b.take k).map (fun(x:Nat)=>(x:Int))++ [(m:Int)]:=by rw [List.take_add_one,hm];simp
  have hv: ∀(l:List Int) (z:Int),A2E (l++ [z])=A2E l+256^l.length*z:=by
   intro l z
   induction l with
   |nil=>show z+256*0=0+1*z;omega
   |cons a r ih=>
    show a+256*A2E (r++ [z])=a+256*A2E r+256^(r.length+1)*z
    rw [ih,Int.pow_succ,Int.mul_add,Int.mul_comm (256^r.length) 256,Int.mul_assoc,Int.add_assoc]
  have hw:IntKind.u64.wrap (m:Int)=(m:Int):=by show (m:Int)%(2^64:Int)=m;omega
  have hs:shZ true .u64 (m:Int) ((8:Int)*(k:Int))=((2^(8*k)*m:Nat):Int):=by
   obtain rfl|rfl|rfl|rfl|rfl|rfl|rfl|rfl:k=0∨k=1∨k=2∨k=3∨k=4∨k=5∨k=6∨k=7:=by omega
   ·show (((m:Int)*2^0)%(2^64:Int))=((2^0*m:Nat):Int);omega
   ·show (((m:Int)*2^8)%(2^64:Int))=((2^8*m:Nat):Int);omega
   ·show (((m:Int)*2^16)%(2^64:Int))=((2^16*m:Nat):Int);omega
   ·show (((m:Int)*2^24)%(2^64:Int))=((2^24*m:Nat):Int);omega
   ·show (((m:Int)*2^32)%(2^64:Int))=((2^32*m:Nat):Int);omega
   ·show (((m:Int)*2^40)%(2^64:Int))=((2^40*m:Nat):Int);omega
   ·show (((m:Int)*2^48)%(2^64:Int))=((2^48*m:Nat):Int);omega
   ·show (((m:Int)*2^56)%(2^64:Int))=((2^56*m:Nat):Int);omega
  have hg:(b.map fun(x:Nat)=>(x:Int)).getD k 0=(m:Int):=by rw [List.getD_eq_getElem?_getD,List.getElem?_map,hm];rfl
  have hp:(256:Int)^k=((2^(8*k):Nat):Int):=by rw [Nat.pow_mul];simp
  have e2:A2E ((b.take (k+1)).map fun(x:Nat)=>(x:Int))=((y+2^(8*k)*m:Nat):Int):=by
   rw [e,hv,h2,List.length_map,List.length_take,Nat.min_eq_left (by omega),hp]
   simp
  refine⟨?_,y+2^(8*k)*m,?_,e2⟩
  ·rw [orN,h1,h2,hg,hw,hs,C1U hy (by omega) hm2,e2]
  ·rw [show 8*(k+1)=8*k+8 from rfl,Nat.pow_add]
   have:2^(8*k)*m+2^(8*k)≤2^(8*k)*2^8:=by rw [←Nat.mul_succ];exact Nat.mul_le_mul_left _ (by omega)
   omega
theorem B8O{b:List Int}(hb:K4 b)(hl:b.length=8):orN b 8=A2E b:=by
 have e:b=(b.map Int.toNat).map fun(x:Nat)=>(x:Int):=by
  rw [List.map_map]
  conv=>lhs;rw [←List.map_id b]
  refine List.map_congr_left fun z hz=> ?_
  have:=hb z hz
  unfold isB at this
  simp only [Function.comp,id]
  omega
 have h:=(C1T (b:=b.map Int.toNat) (fun x hx=>by
  obtain⟨z,hz,rfl⟩:=List.mem_map.1 hx
  have:=hb z hz
  unfold isB at this
  omega) 8 (Nat.le_refl _) (by simp [hl])).1
 rw [List.take_of_length_le (by simp [hl]),←e]at h
 exact h
theorem C5p(z:Int): ∀k,uN z k=IntKind.u64.wrap z/256^k
 |0=>by rw [uN];simp
 |k+1=>by
  rw [uN,C5p z k]
  show (IntKind.u64.wrap z/256^k).fdiv ((2:Int)^8)=_
  rw [Int.fdiv_eq_ediv_of_nonneg _ (by decide),Int.ediv_ediv_of_nonneg (Int.pow_nonneg (by decide)),Int.pow_succ]
  rfl
theorem B4z(z:Int): ∀k,A7o z k=dg k (IntKind.u64.wrap z)
 |0=>rfl
 |k+1=>by
  rw [A7o,B4z z k,C5p,B8t]
  rfl
theorem B4U(a:Int):IntKind.u64.wrap a=a%18446744073709551616:=rfl
theorem B1j(a:Int):IntKind.i64.wrap a=if 9223372036854775807<a%18446744073709551616 then a%18446744073709551616-18446744073709551616 else a%18446744073709551616:=by
 have e:IntKind.i64.wrap a=(if (true&&decide (a%(2^64:Int)≥(2^63:Int)))=true then a%(2^64:Int)-(2^64:Int)else a%(2^64:Int)):=rfl
 rw [e]
 simp only [Bool.true_and,decide_eq_true_eq]
 split<;>split<;>omega
theorem C3B{b:List Int}(hb:K4 b)(hl:b.length=8):D8 (unL b)=b:=by
 have h:=B2J b hb
 rw [hl]at h
 have h2:A2E b<18446744073709551616:=h.2
 have e:IntKind.u64.wrap (IntKind.i64.wrap (A2E b))=A2E b:=by rw [B4U,B1j];omega
 unfold unL D8
 rw [B8O hb hl,B4z,e,←hl]
 exact C1b b hb
def B1P(z:Int):Prop:= -9223372036854775808≤z∧z<9223372036854775808
theorem C4h{z:Int}(hz:B1P z):unL (D8 z)=z:=by
 unfold B1P at hz
 unfold unL
 rw [B8O (W7 z) (D2 z),D8,B4z,C2J 8 _ (by rw [B4U];omega) (by rw [B4U];show _<(18446744073709551616:Int);omega),B4U,B1j]
 omega
theorem d7{n:Nat}{l b r:List Int}(h:A1q n l= .ok (b,r)):l=b++r∧b.length=n:=by
 unfold A1q at h
 split at h
 ·rename_i hn
  injection h with h
  injection h with h1 h2
  subst h1;subst h2
  exact⟨(List.take_append_drop n l).symm,List.length_take_of_le hn⟩
 ·cases h
theorem K4.left{a b:List Int}(h:K4 (a++b)):K4 a:=fun z hz=>h z (List.mem_append_left _ hz)
theorem K4.right{a b:List Int}(h:K4 (a++b)):K4 b:=fun z hz=>h z (List.mem_append_right _ hz)
theorem C7B(b:List Int):B1P (unL b):=by
 unfold unL B1P
 rw [B1j]
 omega
theorem C9{l r:List Int}{z:Int}(hl:K4 l)(h:W8 l= .ok (z,r)):l=D8 z++r∧B1P z:=by
 obtain⟨b,l1,h1,h2⟩:=Rd.bind_inv h
 obtain⟨rfl,hb⟩:=d7 h1
 injection h2 with h2
 injection h2 with e1 e2
 subst e1;subst e2
 exact⟨by rw [C3B hl.left hb],C7B b⟩
theorem A2D{l r:List Int}{t:Bool}(hl:K4 l)(h:A2C l= .ok (t,r)):l= [if t then 1 else 0]++r:=by
 obtain⟨b,l1,h1,h2⟩:=Rd.bind_inv h
 obtain⟨rfl,hb⟩:=d7 h1
 match b,hb with
 | [c],_=>
  have hc:=hl c (by simp)
  unfold isB at hc
  simp only [List.getD_cons_zero]at h2
  split at h2
  ·cases h2
  ·injection h2 with h2
   injection h2 with e1 e2
   subst e1;subst e2
   by_cases h1:c=1
   ·simp [h1]
   ·have:c=0:=by omega
    simp [this]
theorem A0H{l r:List Int}{n:Nat}(hl:K4 l)(h:B4v l= .ok (n,r)):l=D8 n++r∧n≤r.length∧B1P n:=by
 obtain⟨z,l1,h1,h2⟩:=Rd.bind_inv h
 obtain⟨rfl,hz⟩:=C9 hl h1
 split at h2
 ·cases h2
 split at h2
 ·cases h2
 ·injection h2 with h2
  injection h2 with e1 e2
  subst e1;subst e2
  rename_i c1 c2
  have e:((z.toNat:Nat):Int)=z:=by omega
  rw [e]
  exact⟨rfl,by omega,hz⟩
theorem C2D{b:List Int}(hb:K4 b):(B0d b).map (fun u=>(u.toNat:Int))=b:=by
 unfold B0d
 rw [List.map_map]
 conv=>rhs;rw [←List.map_id b]
 refine List.map_congr_left fun z hz=> ?_
 have:=hb z hz
 unfold isB at this
 simp only [Function.comp,id,UInt8.toNat_ofNat']
 omega
theorem A2B{l r:List Int}{s:List UInt8}(hl:K4 l)(h:B0P l= .ok (s,r)):l=w8 s++r:=by
 obtain⟨n,l1,h1,h2⟩:=Rd.bind_inv h
 obtain⟨rfl,hn,_⟩:=A0H hl h1
 obtain⟨b,l2,h3,h4⟩:=Rd.bind_inv h2
 obtain⟨rfl,hb⟩:=d7 h3
 injection h4 with h4
 injection h4 with e1 e2
 subst e1;subst e2
 have hB:=hl.right.left
 unfold w8
 rw [C2D hB,show (B0d b).length=n from by unfold B0d;rw [List.length_map];exact hb,List.append_assoc]
theorem B6P{l r:List Int}{v:Kst}(hl:K4 l)(h:B0Q l= .ok (v,r)):l=T7 v++r:=by
 obtain⟨b,l1,h1,h2⟩:=Rd.bind_inv h
 obtain⟨rfl,hb⟩:=d7 h1
 match b,hb with
 | [c],_=>
  have hr:=hl.right
  simp only [List.getD_cons_zero]at h2
  split at h2
  ·rename_i c0
   injection h2 with h2
   injection h2 with e1 e2
   subst e1;subst e2
   rw [c0];rfl
  split at h2
  ·rename_i c0 c1
   obtain⟨t,l2,h3,h4⟩:=Rd.bind_inv h2
   obtain rfl:=A2D hr h3
   injection h4 with h4
   injection h4 with e1 e2
   subst e1;subst e2
   rw [c1]
   cases t<;>rfl
  split at h2
  ·rename_i c0 c1 c2
   obtain⟨p,l2,h3,h4⟩:=Rd.bind_inv h2
   obtain⟨rfl,_⟩:=C9 hr h3
   obtain⟨q,l3,h5,h6⟩:=Rd.bind_inv h4
   obtain⟨rfl,_⟩:=C9 hr.right h5
   injection h6 with h6
   injection h6 with e1 e2
   subst e1;subst e2
   rw [c2]
   unfold T7
   simp only [List.append_assoc]
   rfl
  split at h2
  ·rename_i c0 c1 c2 c3
   obtain⟨s,l2,h3,h4⟩:=Rd.bind_inv h2
   obtain rfl:=A2B hr h3
   injection h4 with h4
   injection h4 with e1 e2
   subst e1;subst e2
   rw [c3]
   unfold T7
   simp only [List.append_assoc]
   rfl
  ·cases h2
theorem B3J{α:Type}{f:List Int→Rd α}{w:α→List Int}(hf: ∀l x r,K4 l→f l= .ok (x,r)→l=w x++r): ∀(n:Nat) (l r:List Int) (xs:List α),K4 l→Q5 f n l= .ok (xs,r)→l=xs.flatMap w++r∧xs.length=n
 |0,l,r,xs,_,h=>by
  injection h with h
  injection h with e1 e2
  subst e1;subst e2
  exact⟨rfl,rfl⟩
 |n+1,l,r,xs,hl,h=>by
  obtain⟨x,l1,h1,h2⟩:=Rd.bind_inv h
  obtain rfl:=hf _ _ _ hl h1
  obtain⟨ys,l2,h3,h4⟩:=Rd.bind_inv h2
  obtain⟨rfl,hn⟩:=B3J hf n _ _ _ hl.right h3
  injection h4 with h4
  injection h4 with e1 e2
  subst e1;subst e2
  exact⟨by rw [List.flatMap_cons,List.append_assoc],by simp [hn]⟩
theorem A1B{α:Type}{f:List Int→Rd α}{w:α→List Int}(hf: ∀l x r,K4 l→f l= .ok (x,r)→l=w x++r){l r:List Int}{xs:List α}(hl:K4 l)(h:L9 f l= .ok (xs,r)):l=D8 xs.length++xs.flatMap w++r:=by
 obtain⟨n,l1,h1,h2⟩:=Rd.bind_inv h
 obtain⟨rfl,_,_⟩:=A0H hl h1
 obtain⟨rfl,rfl⟩:=B3J hf _ _ _ _ hl.right h2
 rw [List.append_assoc]
theorem C1x{l r:List Int}{i:Ins}(hl:K4 l)(h:B2T l= .ok (i,r)):l=F4 (F9 i)++r:=by
 obtain⟨z1,l1,h1,g1⟩:=Rd.bind_inv h;clear h
 obtain⟨rfl,_⟩:=C9 hl h1
 obtain⟨z2,l2,h2,g2⟩:=Rd.bind_inv g1;clear g1
 obtain⟨rfl,_⟩:=C9 hl.right h2
 obtain⟨z3,l3,h3,g3⟩:=Rd.bind_inv g2;clear g2
 obtain⟨rfl,_⟩:=C9 hl.right.right h3
 obtain⟨z4,l4,h4,g4⟩:=Rd.bind_inv g3;clear g3
 obtain⟨rfl,_⟩:=C9 hl.right.right.right h4
 obtain⟨z5,l5,h5,g5⟩:=Rd.bind_inv g4;clear g4
 obtain⟨rfl,_⟩:=C9 hl.right.right.right.right h5
 injection g5 with g5
 injection g5 with e1 e2
 subst e1;subst e2
 simp [F4,F9]
theorem C4j{l r:List Int}{u:Upv}(hl:K4 l)(h:upP l= .ok (u,r)):l=upL u++r:=by
 obtain⟨z1,l1,h1,g1⟩:=Rd.bind_inv h;clear h
 obtain rfl:=A2B hl h1
 obtain⟨z2,l2,h2,g2⟩:=Rd.bind_inv g1;clear g1
 obtain rfl:=A2D hl.right h2
 obtain⟨z3,l3,h3,g3⟩:=Rd.bind_inv g2;clear g2
 obtain⟨rfl,_⟩:=C9 hl.right.right h3
 injection g3 with g3
 injection g3 with e1 e2
 subst e1;subst e2
 simp [upL]
theorem C4o{l r:List Int}{u:Vr}(hl:K4 l)(h:vrP l= .ok (u,r)):l=vrL u++r:=by
 obtain⟨z1,l1,h1,g1⟩:=Rd.bind_inv h;clear h
 obtain rfl:=A2B hl h1
 obtain⟨z2,l2,h2,g2⟩:=Rd.bind_inv g1;clear g1
 obtain⟨rfl,_⟩:=C9 hl.right h2
 obtain⟨z3,l3,h3,g3⟩:=Rd.bind_inv g2;clear g2
 obtain⟨rfl,_⟩:=C9 hl.right.right h3
 obtain⟨z4,l4,h4,g4⟩:=Rd.bind_inv g3;clear g3
 obtain⟨rfl,_⟩:=C9 hl.right.right.right h4
 obtain⟨z5,l5,h5,g5⟩:=Rd.bind_inv g4;clear g4
 obtain⟨rfl,_⟩:=C9 hl.right.right.right.right h5
 injection g5 with g5
 injection g5 with e1 e2
 subst e1;subst e2
 simp [vrL,F4,A2F]
theorem B1O: ∀(d:Nat) (l r:List Int) (p:Fn),K4 l→A4D d l= .ok (p,r)→l=W6 p++r
 |0,l,r,p,_,h=>by cases h
 |d+1,l,r,p,hl,h=>by
  obtain⟨name,l1,h1,g1⟩:=Rd.bind_inv h;clear h
  obtain rfl:=A2B hl h1
  replace hl:=hl.right
  obtain⟨line,l2,h2,g2⟩:=Rd.bind_inv g1;clear g1
  obtain⟨rfl,_⟩:=C9 hl h2
  replace hl:=hl.right
  obtain⟨params,l3,h3,g3⟩:=Rd.bind_inv g2;clear g2
  obtain⟨rfl,_⟩:=C9 hl h3
  replace hl:=hl.right
  obtain⟨vararg,l4,h4,g4⟩:=Rd.bind_inv g3;clear g3
  obtain rfl:=A2D hl h4
  replace hl:=hl.right
  obtain⟨regs,l5,h5,g5⟩:=Rd.bind_inv g4;clear g4
  obtain⟨rfl,_⟩:=C9 hl h5
  replace hl:=hl.right
  obtain⟨code,l6,h6,g6⟩:=Rd.bind_inv g5;clear g5
  obtain rfl:=A1B (fun l x r a b=>C1x a b) hl h6
  replace hl:=hl.right
  obtain⟨lines,l7,h7,g7⟩:=Rd.bind_inv g6;clear g6
  obtain rfl:=A1B (fun l x r a b=>(C9 a b).1) hl h7
  replace hl:=hl.right
  obtain⟨consts,l8,h8,g8⟩:=Rd.bind_inv g7;clear g7
  obtain rfl:=A1B (fun l x r a b=>B6P a b) hl h8
  replace hl:=hl.right
  obtain⟨protos,l9,h9,g9⟩:=Rd.bind_inv g8;clear g8
  obtain rfl:=A1B (fun l x r a b=>B1O d l r x a b) hl h9
  replace hl:=hl.right
  obtain⟨ups,l10,h10,g10⟩:=Rd.bind_inv g9;clear g9
  obtain rfl:=A1B (fun l x r a b=>C4j a b) hl h10
  replace hl:=hl.right
  obtain⟨vars,l11,h11,g11⟩:=Rd.bind_inv g10;clear g10
  obtain rfl:=A1B (fun l x r a b=>C4o a b) hl h11
  injection g11 with g11
  injection g11 with e1 e2
  subst e1;subst e2
  rw [A0w,Y8]
  simp only [List.append_assoc,F4]
abbrev rD:Nat:=(20*10000+8)
abbrev vN(k:Nat):Nat:=84*10000+k
-- EV: rD, vN
attribute [local go_sem] rD vN
def rdH(R s:Nat)(l:List Int):A2:= [(R,s,.rows 1 [[.isl (byR l)]])]
def C3l(e:Int):Value:= .iface 91 (.agg #[.int .i64 e])
def B6T{α:Type}(R s:Nat)(G:Rd α)(v:α→V):Res:=fun r h' _=> ∃a l,G= .ok (a,l)∧r=v a∧h'=rdH R s l
def A8r{α:Type}(G:Rd α):H1:=fun x h' _=> ∃e,G= .error e∧x=C3l e∧h'= []
theorem A0q(R s n:Nat)(e:Int):C2 Tryz.prog 46 [.ptr R s 0 0,.int .i64 e] [] n (fun _ _ _=>False) (fun x h' _=>x=C3l e∧h'= []):=by
 refine C2.enterK A0W (Nat.le_of_ble_eq_true rfl) fun Q pk hQ hpk=>Run.go 100 ?_
 simp -implicitDefEqProofs only [go_sem,A8]
 subst hpk
 exact .none ⟨rfl,rfl⟩
theorem A7h(R s n:Nat)(k:Nat)(l:List Int):C2 Tryz.prog 108 [.ptr R s 0 0,.int .i64 k] (rdH R s l) n (B6T R s (A1q k l) fun b=> .isl (byR b)) (A8r (A1q k l)):=by
 have hR:=P5 l
 have hS:=A3s l
 have hT:(byR l).take k=byR (l.take k):=by simp [byR]
 have hD:(byR l).drop k=byR (l.drop k):=by simp [byR]
 refine C2.enterK A0Y (Nat.le_of_ble_eq_true rfl) fun Q pk hQ hpk=>Run.go 100 ?_
 unfold rdH
 by_cases c:(k:Int)>l.length
 ·simp -implicitDefEqProofs only [go_sem,A8,hR,hS,c]
  refine C2.at [] [] (A0q R s _ 5) rfl rfl (fun _ _ _ _ h=>h.elim) ?_
  rintro x h' n' _ ⟨rfl,rfl⟩
  subst hpk
  exact .none ⟨5,if_neg (by omega),rfl,rfl⟩
 ·have c1:(k≤l.length)=True:=eq_true (by omega)
  have c2:((0:Int)≤(k:Int))=True:=eq_true (by omega)
  have c3:((k:Int)≤(l.length:Int))=True:=eq_true (by omega)
  simp -implicitDefEqProofs only [go_sem,A8,hR,hS,c,c1,c2,c3,Int.toNat_natCast]
  subst hQ
  have e0:((k:Int)-0).toNat=k:=by omega
  have e1:((l.length:Int)-k).toNat=l.length-k:=by omega
  refine⟨Int.le_refl _,.is ⟨_,_,if_pos (by omega),?_,?_⟩⟩
  ·dsimp only
   rw [e0,hT]
  ·unfold rdH
   rw [hD,e1,List.take_of_length_le (by rw [P5,List.length_drop];exact Nat.le_refl _)]
theorem B7C(R s n:Nat)(l:List Int):C2 Tryz.prog 81 [.ptr R s 0 0] (rdH R s l) n (B6T R s (W8 l) fun z=> .int .i64 z) (A8r (W8 l)):=by
 have ht:=fun n=>A7h R s n 8 l
 unfold W8
 refine C2.enterK A1I (Nat.le_of_ble_eq_true rfl) fun Q pk hQ hpk=>Run.go 100 ?_
 simp -implicitDefEqProofs only [go_sem,A8]
 refine C2.at [0] [] (ht _) rfl rfl ?_ ?_
 rotate_left
 ·rintro x h' n' _ ⟨e,h1,rfl,rfl⟩
  subst hpk
  exact .none ⟨e,by rw [h1];rfl,rfl,rfl⟩
 rintro r h' n1 _ ⟨b,l1,h1,rfl,rfl⟩
 rw [h1,Rd.bind_ok]at hQ
 have hb:=(d7 h1).2
 have hR:=P5 b
 have hS:=A3s b
 have hrow: ∀k,k<8→(byR b)[k]? =some [.int .u8 (b.getD k 0)]:=fun k hk=>by
  unfold byR
  rw [List.getElem?_map,List.getD_eq_getElem?_getD,List.getElem?_eq_getElem (by omega)]
  rfl
 rw [hb]at hR
 dsimp only
 generalize byR b=BR at*
 simp -implicitDefEqProofs only [go_sem,hR]
 refine Run.rounds (fun(k:Nat)=>⟨[(9,.int .i64 k),(8,.int .i64 8),(7,.isl BR),(3,.int .u64 (orN b k))],rdH R s l1,n1⟩) (fun k=>k≤8) (fun k=>8-k) 0 (by first|(simp -implicitDefEqProofs only [go_sem,rdH,orN];done)|(simp -implicitDefEqProofs only [go_sem,rdH,orN];simp)) (by omega) ?_
 intro k hk ih
 refine Run.unf A5C (Run.go 100 ?_)
 by_cases c:(k:Int)<8
 ·have hr:=hrow k (by omega)
  have k0:((0:Int)≤(k:Int))=True:=eq_true (by omega)
  have k1:(k<8)=True:=eq_true (by omega)
  simp -implicitDefEqProofs only [go_sem,c,hR,hS,hr,k0,k1,Option.some.injEq,forall_eq',Int.toNat_natCast]
  exact⟨⟨by omega,by omega⟩,by omega,⟨by omega,by omega⟩,ih _ (k+1) (by omega) (by omega) (by first|(simp -implicitDefEqProofs only [go_sem,rdH,orN];done)|(simp -implicitDefEqProofs only [go_sem,rdH,orN];simp))⟩
 ·obtain rfl:k=8:=by omega
  simp -implicitDefEqProofs only [go_sem,c]
  subst hQ
  exact .is ⟨_,_,rfl,rfl,rfl⟩
theorem B6N(R s n:Nat)(l:List Int):C2 Tryz.prog 82 [.ptr R s 0 0] (rdH R s l) n (B6T R s (A2C l) fun t=> .bool t) (A8r (A2C l)):=by
 have ht:=fun n=>A7h R s n 1 l
 unfold A2C
 refine C2.enterK A0D (Nat.le_of_ble_eq_true rfl) fun Q pk hQ hpk=>Run.go 100 ?_
 simp -implicitDefEqProofs only [go_sem,A8]
 refine C2.at [0] [] (ht _) rfl rfl ?_ ?_
 rotate_left
 ·rintro x h' n' _ ⟨e,h1,rfl,rfl⟩
  subst hpk
  exact .none ⟨e,by rw [h1];rfl,rfl,rfl⟩
 rintro r h' n1 _ ⟨b,l1,h1,rfl,rfl⟩
 rw [h1,Rd.bind_ok]at hQ hpk
 have hb:=(d7 h1).2
 obtain⟨c,rfl⟩: ∃c,b= [c]:=by match b,hb with| [c],_=>exact⟨c,rfl⟩
 simp only [List.getD_cons_zero]at hQ hpk
 by_cases c1:c>1
 ·simp -implicitDefEqProofs only [go_sem,byR,List.map_cons,List.map_nil,c1]
  refine C2.at [] [] (A0q R s _ 4) rfl rfl (fun _ _ _ _ h=>h.elim) ?_
  rintro x h' n' _ ⟨rfl,rfl⟩
  subst hpk
  exact .none ⟨4,if_pos c1,rfl,rfl⟩
 ·simp -implicitDefEqProofs only [go_sem,byR,List.map_cons,List.map_nil,c1]
  subst hQ
  exact .is ⟨_,_,if_neg c1,rfl,rfl⟩
theorem C1E(R s n:Nat)(l:List Int):C2 Tryz.prog 83 [.ptr R s 0 0] (rdH R s l) n (B6T R s (B4v l) fun k=> .int .i64 k) (A8r (B4v l)):=by
 have ht:=fun n=>B7C R s n l
 unfold B4v
 refine C2.enterK A0a (Nat.le_of_ble_eq_true rfl) fun Q pk hQ hpk=>Run.go 100 ?_
 simp -implicitDefEqProofs only [go_sem,A8]
 refine C2.at [0] [] (ht _) rfl rfl ?_ ?_
 rotate_left
 ·rintro x h' n' _ ⟨e,h1,rfl,rfl⟩
  subst hpk
  exact .none ⟨e,by rw [h1];rfl,rfl,rfl⟩
 rintro r h' n1 _ ⟨z,l1,h1,rfl,rfl⟩
 rw [h1,Rd.bind_ok]at hQ hpk
 have hR:=P5 l1
 by_cases c1:z<0
 ·simp -implicitDefEqProofs only [go_sem,c1]
  refine C2.at [] [] (A0q R s _ 4) rfl rfl (fun _ _ _ _ h=>h.elim) ?_
  rintro x h' n' _ ⟨rfl,rfl⟩
  subst hpk
  exact .none ⟨4,if_pos c1,rfl,rfl⟩
 by_cases c2:z>(l1.length:Int)
 ·simp -implicitDefEqProofs only [go_sem,c1,c2,hR,rdH]
  refine C2.at [] [] (A0q R s _ 5) rfl rfl (fun _ _ _ _ h=>h.elim) ?_
  rintro x h' n' _ ⟨rfl,rfl⟩
  subst hpk
  exact .none ⟨5,by rw [if_neg c1,if_pos c2],rfl,rfl⟩
 ·simp -implicitDefEqProofs only [go_sem,c1,c2,hR,rdH]
  subst hQ
  exact .is ⟨z.toNat,l1,by rw [if_neg c1,if_neg c2],by show V.int .i64 z= .int .i64 ((z.toNat:Nat):Int);rw [Int.toNat_of_nonneg (by omega)],rfl⟩
theorem B3e: ∀b:List Int,B4h (some (byR b))=some (.str (B0d b)):=by
 have key: ∀b:List Int,A8x (byR b)=some (B0d b):=by
  intro b
  induction b with
  |nil=>rfl
  |cons c r ih=>
   show A8x ([.int .u8 c]::byR r)=_
   rw [A8x,ih]
   rfl
 intro b
 rw [B4h,key]
theorem C2v(R s n:Nat)(l:List Int):C2 Tryz.prog 80 [.ptr R s 0 0] (rdH R s l) n (B6T R s (B0P l) fun t=> .str t) (A8r (B0P l)):=by
 have ht:=fun n=>C1E R s n l
 have hk:=fun n k l=>A7h R s n k l
 unfold B0P
 refine C2.enterK A1J (Nat.le_of_ble_eq_true rfl) fun Q pk hQ hpk=>Run.go 100 ?_
 simp -implicitDefEqProofs only [go_sem,A8]
 refine C2.at [0] [] (ht _) rfl rfl ?_ ?_
 rotate_left
 ·rintro x h' n' _ ⟨e,h1,rfl,rfl⟩
  subst hpk
  exact .none ⟨e,by rw [h1];rfl,rfl,rfl⟩
 rintro r h' n1 _ ⟨k,l1,h1,rfl,rfl⟩
 rw [h1,Rd.bind_ok]at hQ hpk
 simp -implicitDefEqProofs only [go_sem]
 refine C2.at [0] [] (hk _ k l1) rfl rfl ?_ ?_
 rotate_left
 ·rintro x h' n' _ ⟨e,h1,rfl,rfl⟩
  subst hpk
  exact .none ⟨e,by rw [h1];rfl,rfl,rfl⟩
 rintro r h' n2 _ ⟨b,l2,h2,rfl,rfl⟩
 rw [h2,Rd.bind_ok]at hQ hpk
 have hbs:=B3e b
 dsimp only
 generalize byR b=BR at*
 simp -implicitDefEqProofs only [go_sem,hbs]
 subst hQ
 exact .is ⟨_,_,rfl,rfl,rfl⟩
theorem C7F(s n:Nat)(l:List Int)(hl:K4 l):C2 Tryz.prog 84 [.ptr rD s 0 0] (rdH rD s l) n (B6T rD s (B0Q l) fun v=> .agg v.row) (A8r (B0Q l)):=by
 have ht:=fun n=>A7h rD s n 1 l
 have htr:=fun n l=>B6N rD s n l
 have hnu:=fun n l=>B7C rD s n l
 have hst:=fun n l=>C2v rD s n l
 unfold B0Q
 refine C2.enterK A0E (Nat.le_of_ble_eq_true rfl) fun Q pk hQ hpk=>Run.go 100 ?_
 unfold rdH
 simp -implicitDefEqProofs only [go_sem,A8]
 refine C2.at [1] [0] (ht _) rfl rfl ?_ ?_
 rotate_left
 ·rintro x h' n' _ ⟨e,h1,rfl,rfl⟩
  subst hpk
  exact .none ⟨e,by rw [h1];rfl,rfl,rfl⟩
 rintro r h' n1 _ ⟨b,l1,h1,rfl,rfl⟩
 rw [h1,Rd.bind_ok]at hQ hpk
 have hb:=(d7 h1).2
 obtain⟨c,rfl⟩: ∃c,b= [c]:=by match b,hb with| [c],_=>exact⟨c,rfl⟩
 simp only [List.getD_cons_zero]at hQ hpk
 obtain⟨rfl,_⟩:=d7 h1
 have hc:=hl c (by simp)
 unfold isB at hc
 have hw:IntKind.i64.wrap c=c:=by rw [B1j];omega
 by_cases c0:c=0
 ·rw [if_pos c0]at hQ hpk
  subst c0
  simp -implicitDefEqProofs only [go_sem,byR,List.map_cons,List.map_nil,hw,rdH]
  subst hQ
  exact .to (h2:=rdH rD s l1) ⟨_,_,rfl,rfl,rfl⟩ (.turn id ⟨.refl _,trivial⟩ (by first|exact .at 2 rfl rfl (.refl _) (.of fun e he=>by cases he)|exact .at 1 rfl rfl (.refl _) (.of fun e he=>by cases he)))
 rw [if_neg c0]at hQ hpk
 by_cases c1:c=1
 ·rw [if_pos c1]at hQ hpk
  subst c1
  simp -implicitDefEqProofs only [go_sem,byR,List.map_cons,List.map_nil,hw,rdH]
  refine C2.at [1] [0,2] (htr _ l1) rfl rfl ?_ ?_
  rotate_left
  ·rintro x h' n' _ ⟨e,h1,rfl,rfl⟩
   subst hpk
   exact .none ⟨e,by rw [h1];rfl,rfl,rfl⟩
  rintro r h' n2 _ ⟨t,l2,h2,rfl,rfl⟩
  rw [h2,Rd.bind_ok]at hQ
  cases t<;>
  ·simp -implicitDefEqProofs only [go_sem,rdH]
   subst hQ
   exact .to (h2:=rdH rD s l2) ⟨_,_,rfl,rfl,rfl⟩ (.turn id ⟨.refl _,trivial⟩ (by first|exact .at 2 rfl rfl (.refl _) (.of fun e he=>by cases he)|exact .at 1 rfl rfl (.refl _) (.of fun e he=>by cases he)))
 rw [if_neg c1]at hQ hpk
 by_cases c2:c=2
 ·rw [if_pos c2]at hQ hpk
  subst c2
  simp -implicitDefEqProofs only [go_sem,byR,List.map_cons,List.map_nil,hw,rdH]
  refine C2.at [1] [0,2] (hnu _ l1) rfl rfl ?_ ?_
  rotate_left
  ·rintro x h' n' _ ⟨e,h1,rfl,rfl⟩
   subst hpk
   exact .none ⟨e,by rw [h1];rfl,rfl,rfl⟩
  rintro r h' n2 _ ⟨p,l2,h2,rfl,rfl⟩
  rw [h2,Rd.bind_ok]at hQ hpk
  simp -implicitDefEqProofs only [go_sem,rdH]
  refine C2.at [1] [0,2] (hnu _ l2) rfl rfl ?_ ?_
  rotate_left
  ·rintro x h' n' _ ⟨e,h1,rfl,rfl⟩
   subst hpk
   exact .none ⟨e,by rw [h1];rfl,rfl,rfl⟩
  rintro r h' n3 _ ⟨q,l3,h3,rfl,rfl⟩
  rw [h3,Rd.bind_ok]at hQ hpk
  simp -implicitDefEqProofs only [go_sem,rdH]
  subst hQ
  exact .to (h2:=rdH rD s l3) ⟨_,_,rfl,rfl,rfl⟩ (.turn id ⟨.refl _,trivial⟩ (by first|exact .at 2 rfl rfl (.refl _) (.of fun e he=>by cases he)|exact .at 1 rfl rfl (.refl _) (.of fun e he=>by cases he)))
 rw [if_neg c2]at hQ hpk
 by_cases c3:c=3
 ·rw [if_pos c3]at hQ hpk
  subst c3
  simp -implicitDefEqProofs only [go_sem,byR,List.map_cons,List.map_nil,hw,rdH]
  refine C2.at [1] [0,2] (hst _ l1) rfl rfl ?_ ?_
  rotate_left
  ·rintro x h' n' _ ⟨e,h1,rfl,rfl⟩
   subst hpk
   exact .none ⟨e,by rw [h1];rfl,rfl,rfl⟩
  rintro r h' n2 _ ⟨p,l2,h2,rfl,rfl⟩
  rw [h2,Rd.bind_ok]at hQ hpk
  simp -implicitDefEqProofs only [go_sem,rdH]
  subst hQ
  exact .to (h2:=rdH rD s l2) ⟨_,_,rfl,rfl,rfl⟩ (.turn id ⟨.refl _,trivial⟩ (by first|exact .at 2 rfl rfl (.refl _) (.of fun e he=>by cases he)|exact .at 1 rfl rfl (.refl _) (.of fun e he=>by cases he)))
 ·rw [if_neg c3]at hQ hpk
  simp -implicitDefEqProofs only [go_sem,byR,List.map_cons,List.map_nil,hw,c0,c1,c2,c3,rdH]
  refine C2.at [] [] (A0q rD s _ 4) rfl rfl (fun _ _ _ _ h=>h.elim) ?_
  rintro x h' n' _ ⟨rfl,rfl⟩
  subst hpk
  exact .none ⟨4,rfl,rfl,rfl⟩
end Go.Proofs.YtcjgeliglgcflaaGreatDoor
