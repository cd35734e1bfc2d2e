/-
 What an accepted function is, as far as its listing needs it. No condition.
-/
import Derived.Test.YtflobbpcabopjaaGreatDoorLsN
import Derived.Test.YtflobbpcabopjaaGreatDoorTxo
import Derived.Test.YtflobbpcabopjaaGreatDoorFnMa
set_option linter.unusedVariables false set_option linter.unusedSimpArgs false set_option maxRecDepth 100000
set_option maxHeartbeats 0
namespace Go.Proofs.YtflobbpcabopjaaGreatDoor
section
open Go Go.Abs
mutual
def n64:V→Prop
 | .int .i64 z=>inB z
 | .isl es=>n64LL es
 | .agg cs=>n64L cs
 |_=>True
def n64L:List V→Prop
 | []=>True
 |c::r=>n64 c∧n64L r
def n64LL:List (List V)→Prop
 | []=>True
 |c::r=>n64L c∧n64LL r
end
theorem B9Y: ∀{a b:List V},n64L a→n64L b→n64L (a++b)
 | [],_,_,h=>h
 |c::r,b,h1,h2=>by
  rw [n64L]at h1
  rw [List.cons_append,n64L]
  exact⟨h1.1,B9Y h1.2 h2⟩
theorem B3l: ∀{l:List (List V)},(∀c∈l,n64L c)→n64L l.flatten
 | [],_=>by rw [List.flatten_nil,n64L];trivial
 |c::r,h=>by
  rw [List.flatten_cons]
  exact B9Y (h c List.mem_cons_self) (B3l fun x hx=>h x (List.mem_cons_of_mem _ hx))
theorem A5s: ∀{l:List (List V)},n64LL l↔ ∀c∈l,n64L c
 | []=>by simp [n64LL]
 |c::r=>by rw [n64LL,A5s,List.forall_mem_cons]
theorem B7K{P:Program}{t:TypeId}{row:List V}(h:A7T P t row):n64L row:=by
 induction h with
 |bool h b=>rw [n64L,n64L];exact⟨by unfold n64;trivial,trivial⟩
 | @int t k h n hn=>
  rw [n64L,n64L]
  refine⟨?_,trivial⟩
  have h:k= .i64→inB n:=fun e=>by
   subst e
   have h:IntKind.i64.min≤n∧n≤IntKind.i64.max:=by simpa [Lit.wf]using hn
   rw [show IntKind.i64.min= -9223372036854775808 from rfl,show IntKind.i64.max=9223372036854775807 from rfl]at h
   exact h
  unfold n64
  cases k<;>first|trivial|exact h rfl
 |str h s hs=>rw [n64L,n64L];exact⟨by unfold n64;trivial,trivial⟩
 |slice h es hl hb he ih=>rw [n64L,n64L,n64];exact⟨A5s.2 ih,trivial⟩
 |struct h cs hl hf ih=>
  refine B3l fun c hc=> ?_
  exact YA
 |array h cs hl hf ih=>exact B3l ih
theorem B2Y{i:Ins}(h:chk i=0):(1≤i.op∧i.op≤29)∧(0≤i.a∧i.a≤4095)∧(-1≤i.b∧i.b≤16383)∧(-1≤i.c∧i.c≤32767)∧(0≤i.d∧i.d≤19):=by
 obtain⟨h1,h2,h3,h4,h5,h6,h7,h8,h9,h10⟩:=B4I h
 have:=of_decide_eq_true (show decide (1≤i.op∧i.op≤29)=true from h1)
 omega
theorem B7Z{i:Ins}(h:chk i=0):inB i.a∧inB i.b∧inB i.c∧inB i.d:=by
 obtain⟨_,⟨b1,b2⟩,⟨c1,c2⟩,⟨d1,d2⟩,⟨e1,e2⟩⟩:=B2Y h
 exact⟨⟨by omega,by omega⟩,⟨by omega,by omega⟩,⟨by omega,by omega⟩,⟨by omega,by omega⟩⟩
structure Fn.Okl(p:Fn):Prop where
 nums:inB p.line∧inB p.params∧inB p.regs
 name:p.name.length≤4096
 consts:p.consts.length≤4096∧ ∀v∈p.consts,I0 v=true∧v.kind≤3
 ups:p.ups.length≤60∧ ∀u∈p.ups,u.name.length≤40∧inB u.idx
 vars:p.vars.length≤16384∧ ∀v∈p.vars,v.name.length≤40∧inB v.reg∧inB v.lo∧inB v.hi∧0≤v.attr∧v.attr≤2
 code:p.code.length≤16384∧ ∀i∈p.code,chk i=0
 lines:(p.lines.length=0∨p.lines.length=p.code.length)∧ ∀z∈p.lines,inB z
 protos:p.protos.length≤1024
end
section
open Go Go.Abs
theorem C2f(c:UInt8):(H4 c).length≤4:=by
 exact Kd
theorem B9w{α β:Type}{f:α→List β}{m:Nat}(hf: ∀x,(f x).length≤m): ∀l:List α,(l.flatMap f).length≤m*l.length
 | []=>by simp
 |x::r=>by
  have h1:=B9w hf r
  have h2:=hf x
  rw [List.flatMap_cons,List.length_append,List.length_cons,Nat.mul_succ];omega
theorem W2(s:List UInt8):(D2 s).length≤4*s.length+2:=by
 have:=B9w C2f s
 unfold D2
 simp only [List.length_cons,List.length_append,List.length_nil];omega
theorem F6{n:Int}(h:inB n):(Lib.itoa n).length≤21:=Y8 h.1 h.2
theorem A0v{n:Nat}(h:n≤1000000):(Lib.itoa (n:Int)).length≤21:=Y8 zd zd
theorem A5u{p q:Int}(h:H1 p q=true):inB p∧inB q:=by
 simp only [H1,Bool.and_eq_true,decide_eq_true_eq]at h
 exact⟨⟨by omega,by omega⟩,⟨by omega,by omega⟩⟩
theorem C0c{p q:Int}(hp:inB p)(hq:inB q):(Z3 p q).length≤43:=by
 have h1:=F6 hp
 have h2:=F6 hq
 unfold Z3
 split
 ·omega
 ·rw [List.length_append,List.length_cons];omega
theorem C8g{v:Kst}(h:I0 v=true)(hk:v.kind≤3):(A2b v).length≤16400:=by
 unfold A2b
 split
 ·split<;>simp
 ·rename_i k1
  split
  ·rename_i k2
   have hn:H1 v.p v.q=true:=by
    unfold I0 at h
    rw [if_neg zd,if_neg zd,if_pos k2]at h
    simp only [Bool.and_eq_true]at h
    exact h.1
   have:=C0c (A5u hn).1 (A5u hn).2
   omega
  ·rename_i k2
   split
   ·rename_i k3
    have:=W2 v.str
    unfold I0 at h
    rw [if_neg zd,if_neg zd,if_neg k2]at h
    simp only [Bool.and_eq_true,decide_eq_true_eq]at h
    omega
   ·simp
theorem B7J{i:Ins}(h:chk i=0):(D3 i).length≤200:=by
 obtain⟨a,b,c,d⟩:=B7Z h
 unfold D3
 split
 ·have:=C0j (k1:=(frm i.op).a) (k2:=(frm i.op).b) (k3:=(frm i.op).c) (k4:=(frm i.op).d) (B1L i.op) a b c d 4
  rw [←C0i]at this
  exact this
 ·simp
theorem B6Y{p:Fn}(h:p.Okl)(path:List UInt8):(G5 p path).length≤path.length+16500:=by
 have h1:=W2 p.name
 have h2:=F6 h.nums.1
 have h3:=F6 h.nums.2.1
 have h4:=F6 h.nums.2.2
 have h5:=h.name
 unfold G5
 exact Kt
theorem B4M{v:Kst}(h:I0 v=true)(hk:v.kind≤3){i:Nat}(hi:i≤1000000):(E6 i v).length≤16500:=by
 have h1:=C8g h hk
 have h2:=A0v hi
 unfold E6
 simp only [F1,List.length_append,List.length_cons,List.length_nil];omega
theorem C3y{u:Upv}(h:u.name.length≤40)(hu:inB u.idx){i:Nat}(hi:i≤1000000):(upT i u).length≤16500:=by
 have h1:=W2 u.name
 have h2:=A0v hi
 have h3:=F6 hu
 unfold upT
 exact Kt
theorem C0Y{v:Vr}(h:v.name.length≤40)(h1:inB v.reg)(h2:inB v.lo)(h3:inB v.hi){i:Nat}(hi:i≤1000000):(O1 i v).length≤16500:=by
 have l1:=W2 v.name
 have l2:=A0v hi
 have l3:=F6 h1
 have l4:=F6 h2
 have l5:=F6 h3
 unfold O1
 simp only [F1,List.length_append,List.length_cons,List.length_nil]
 split
 ·simp;omega
 ·split<;>simp<;>omega
theorem B9Q{ls:List Int}(h: ∀z∈ls,inB z){i:Nat}(hi:ls.length=0∨i<ls.length):(A9T ls i).length≤21:=by
 unfold A9T
 split
 ·simp
 ·rename_i h0
  have hlt:i<ls.length:=by omega
  rw [List.getElem?_eq_getElem hlt,Option.getD_some]
  exact F6 (h _ (List.getElem_mem hlt))
theorem B6G{ls:List Int}(h: ∀z∈ls,inB z){x:Ins}(hx:chk x=0){i:Nat}(hi:i≤1000000)(hl:ls.length=0∨i<ls.length):(I2 ls i x).length≤16500:=by
 have l1:=A0v hi
 have l2:=B7J hx
 have l3:=B9Q h hl
 unfold I2
 simp only [F1,List.length_append,List.length_cons,List.length_nil];omega
theorem A8y{α:Type}{f:Nat→α→List UInt8}{d m:Nat}: ∀{l:List α} {i:Nat},(∀(j:Nat) x,l[j]? =some x→(f (i+j) x).length≤m)→ ∀e∈C6 f d i l,e.1=d∧e.2.length≤m
 | [],_,_,e,h=>by cases h
 |x::r,i,hf,e,h=>by
  rw [C6]at h
  rcases List.mem_cons.1 h with rfl|h
  ·exact⟨rfl,hf 0 x rfl⟩
  ·exact A8y (l:=r) (i:=i+1) (fun j y hy=>by have:=hf (j+1) y (by simpa using hy);rw [show i+1+j=i+(j+1) by omega];exact this) e h
theorem C7k{p:Fn}(h:p.Okl)(path:List UInt8)(d:Nat): ∀e∈B2o p path d,e.1≤d+1∧e.2.length≤path.length+16500:=by
 intro e he
 have lift: ∀{e:Nat×List UInt8},e.1=d+1∧e.2.length≤16500→e.1≤d+1∧e.2.length≤path.length+16500:=fun⟨a,b⟩=>⟨by omega,by omega⟩
 have hi: ∀{α:Type} {l:List α} {j:Nat} {x:α} {m:Nat},l[j]? =some x→l.length≤m→j<m:=fun h hm=>by have:=(List.getElem?_eq_some_iff.1 h).1;omega
 have hmem: ∀{α:Type} {l:List α} {j:Nat} {x:α},l[j]? =some x→x∈l:=fun h=>List.mem_of_getElem? h
 unfold B2o at he
 rcases List.mem_cons.1 he with rfl|he
 ·exact⟨by simp,B6Y h path⟩
 ·rcases List.mem_append.1 he with he|he
  ·exact lift (A8y (fun j x hx=>by
    rw [Nat.zero_add]
    have:=h.consts.2 x (hmem hx)
    exact B4M this.1 this.2 (by have:=hi hx h.consts.1;omega)) e he)
  ·rcases List.mem_append.1 he with he|he
   ·exact lift (A8y (fun j x hx=>by
     rw [Nat.zero_add]
     have:=h.ups.2 x (hmem hx)
     exact C3y this.1 this.2 (by have:=hi hx h.ups.1;omega)) e he)
   ·rcases List.mem_append.1 he with he|he
    ·exact lift (A8y (fun j x hx=>by
      rw [Nat.zero_add]
      have:=h.vars.2 x (hmem hx)
      exact C0Y this.1 this.2.1 this.2.2.1 this.2.2.2.1 (by have:=hi hx h.vars.1;omega)) e he)
    ·exact lift (A8y (fun j x hx=>by
      rw [Nat.zero_add]
      have hj:=(List.getElem?_eq_some_iff.1 hx).1
      exact B6G h.lines.2 (h.code.2 x (hmem hx)) (by have:=h.code.1;omega) Qt) e he)
mutual
theorem B5o: ∀(p:Fn),(∀q∈p.each,q.Okl)→ ∀(path:List UInt8) (d:Nat),path.length≤4+22*d→d+p.depth≤65→ ∀e∈F4 path d p,e.1≤65∧e.2.length≤17934
 | ⟨a,b,c,e,f,g,h,i,l,j,k⟩,hok,path,d,hpath,hd=>by
  intro x hx
  rw [Fn.depth]at hd
  rw [F4]at hx
  rcases List.mem_append.1 hx with hx|hx
  ·have:=C7k (hok _ (Fn.self_mem _)) path d x hx
   omega
  ·have h1:=(hok _ (Fn.self_mem _)).protos
   exact linesFs_all l (fun q hq=>hok q Qu) path (d+1) 0 zd zd (by simp only at h1;omega) x hx
theorem linesFs_all: ∀(l:List Fn),(∀q∈Fn.eachs l,q.Okl)→ ∀(path:List UInt8) (d i:Nat),path.length+22≤4+22*d→d+Fn.depths l≤65→i+l.length≤2000→ ∀e∈linesFs path d i l,e.1≤65∧e.2.length≤17934
 | [],_,_,_,_,_,_,_=>by intro x hx;rw [linesFs]at hx;cases hx
 |q::r,hok,path,d,i,hpath,hd,hi=>by
  intro x hx
  rw [Fn.depths]at hd
  rw [List.length_cons]at hi
  rw [linesFs]at hx
  have h2:=A0v (n:=i) zd
  rcases List.mem_append.1 hx with hx|hx
  ·exact B5o q (fun y hy=>hok y (by rw [Fn.eachs];exact List.mem_append.2 (.inl hy))) _ d Qv zd x hx
  ·exact linesFs_all r (fun y hy=>hok y (by rw [Fn.eachs];exact List.mem_append.2 (.inr hy))) path d (i+1) hpath zd zd x hx
end
mutual
theorem B7w: ∀(p:Fn),(∀q∈p.each,q.Okl)→A0A p≤36925*p.each.length
 |⟨a,b,c,e,f,g,h,i,l,j,k⟩,hok=>by
  have h0:=hok _ (Fn.self_mem _)
  have h1:=h0.consts.1
  have h2:=h0.ups.1
  have h3:=h0.vars.1
  have h4:=h0.code.1
  have h5:=partsFs_le l (fun q hq=>hok q Qu)
  simp only at h1 h2 h3 h4
  rw [A0A,Fn.each,List.length_cons,Nat.mul_succ];omega
theorem partsFs_le: ∀(l:List Fn),(∀q∈Fn.eachs l,q.Okl)→partsFs l≤36925*(Fn.eachs l).length
 | [],_=>by rw [partsFs];omega
 |q::r,hok=>by
  have h1:=B7w q (fun y hy=>hok y (by rw [Fn.eachs];exact List.mem_append.2 (.inl hy)))
  have h2:=partsFs_le r (fun y hy=>hok y (by rw [Fn.eachs];exact List.mem_append.2 (.inr hy)))
  rw [partsFs,Fn.eachs,List.length_append,Nat.mul_add];omega
end
theorem B7j: ∀{l:List (Nat×List UInt8)},(∀e∈l,e.1≤65∧e.2.length≤17934)→(l.flatMap T2).length≤18065*l.length
 | [],_=>by simp
 |e::r,h=>by
  have h1:=B7j (l:=r) fun x hx=>h x (List.mem_cons_of_mem _ hx)
  have h2:=h e List.mem_cons_self
  have h3:(T2 e).length=2*e.1+(e.2.length+1):=by unfold T2;simp
  rw [List.flatMap_cons,List.length_append,List.length_cons,Nat.mul_succ]
  omega
theorem A8q{p:Fn}(hd:p.depth≤64)(hok: ∀q∈p.each,q.Okl): ∀e∈F4 [109,97,105,110] 0 p,e.1≤65∧e.2.length≤17934:=B5o p hok _ 0 zf zd
theorem C4J{p:Fn}(hd:p.depth≤64)(hok: ∀q∈p.each,q.Okl)(hn:p.each.length≤100):(F4 [109,97,105,110] 0 p).length≤3692500∧(N4 p).length≤66705012500:=by
 have h1:=B7j (A8q hd hok)
 have h2:=B7w p hok
 rw [B0O]at h1⊢
 unfold N4
 omega
end
section
open Go Go.Abs
theorem C1M(n:Int): ∀c∈Lib.itoa n,c.toNat=45∨(48≤c.toNat∧c.toNat≤57):=by
 intro c hc
 unfold Lib.itoa at hc
 split at hc
 ·rcases List.mem_cons.1 hc with rfl|hc
  ·exact .inl rfl
  ·exact .inr (H6 _ _ hc)
 ·exact .inr (H6 _ _ hc)
theorem A5j(n:Int): ∃c r,Lib.itoa n=c::r∧(c.toNat=45∨(48≤c.toNat∧c.toNat≤57)):=by
 cases h:Lib.itoa n with
 |nil=>
  unfold Lib.itoa at h
  split at h
  ·cases h
  ·exact absurd h (P5 _)
 |cons c r=>exact⟨c,r,rfl,C1M n c Qr⟩
def dq(l:List UInt8):UInt8×List UInt8:=
 if (l.getD 0 0).toNat≠92 then(l.getD 0 0,l.drop 1)
 else if (l.getD 1 0).toNat=110 then(10,l.drop 2)else if (l.getD 1 0).toNat=116 then(9,l.drop 2)
 else if (l.getD 1 0).toNat=92∨(l.getD 1 0).toNat=34 then(l.getD 1 0,l.drop 2)
 else(UInt8.ofNat (((l.getD 1 0).toNat-48)*100+((l.getD 2 0).toNat-48)*10+((l.getD 3 0).toNat-48)),l.drop 4)
theorem C0X{v:Kst}(h:I0 v=true):v.kind=0∨v.kind=1∨v.kind=2∨v.kind=3:=by
 unfold I0 at h
 split at h
 ·omega
 split at h
 ·omega
 split at h
 ·omega
 ·rw [Bool.and_eq_true]at h
  have:=of_decide_eq_true h.1
  omega
def D0S(i:Nat)(y:List UInt8×Ins):List UInt8:=F1 [Lib.itoa i,y.1,D3 y.2]
def C7n(ls:List Int):Nat→List Ins→List (List UInt8×Ins)
 |_,[]=> []
 |i,x::r=>(A9T ls i,x)::C7n ls (i+1) r
theorem B5B(ls:List Int)(d:Nat): ∀(l:List Ins) (i:Nat),C6 (I2 ls) d i l=C6 D0S d i (C7n ls i l)
 | [],i=>rfl
 |x::r,i=>by rw [C6,C7n,C6,B5B ls d r (i+1)];rfl
theorem C4D(z:Int):Lib.itoa z≠ [45]:=by
 intro h
 unfold Lib.itoa at h
 split at h
 ·injection h with _ h
  exact P5 _ h
 ·exact absurd (H6 z.toNat 45 Qr) zf
def rkT(l:List UInt8):Nat:=
 let c:=(l.getD 0 0).toNat
 if c=99 then 1 else if c=117 then 2 else if c=118 then 3 else if c=102 then 5 else 4
def rk(d:Nat)(e:Nat×List UInt8):Nat:=if e.1≤d then 6 else rkT e.2
theorem D2V(l:List UInt8):rkT l≤5:=by
 unfold rkT
 simp only
 repeat' split
 all_goals omega
def Hd(d k:Nat)(r:List (Nat×List UInt8)):Prop:= ∀e,r.head? =some e→k<rk d e
theorem Hd.mono{d k j:Nat}{r:List (Nat×List UInt8)}(h:Hd d k r)(hj:j≤k):Hd d j r:=fun e he=>by have:=h e he;omega
theorem Hd.up{d:Nat}{r:List (Nat×List UInt8)}(h:Hd d 5 r):Hd (d+1) 5 r:=fun e he=>by
 have:=h e he
 have h5:=D2V e.2
 unfold rk at this⊢
 split at this
 ·rw [if_pos zd];omega
 ·omega
theorem B5L(i:Nat)(v:Kst):rkT (E6 i v)=1:=rfl
theorem C7u(i:Nat)(v:Upv):rkT (upT i v)=2:=rfl
theorem C2k(i:Nat)(v:Vr):rkT (O1 i v)=3:=rfl
theorem C9D(p:Fn)(path:List UInt8):rkT (G5 p path)=5:=rfl
theorem A6I{t:List UInt8}(h:rkT t≠4): ∃c r,t=c::r∧c≠32:=by
 cases t with
 |nil=>exact absurd rfl h
 |cons c r=>
  refine⟨c,r,rfl,?_⟩
  rintro rfl
  exact h rfl
theorem A8z{α:Type}{f:Nat→α→List UInt8}{d:Nat}: ∀{l:List α} {i:Nat} {e},e∈C6 f d i l→ ∃j x,e.2=f j x
 | [],i,e,h=>by cases h
 |y::r,i,e,h=>by
  rw [C6]at h
  rcases List.mem_cons.1 h with rfl|h
  ·exact⟨i,y,rfl⟩
  ·exact A8z h
theorem C7m(p:Fn)(path:List UInt8)(d:Nat): ∀e∈B2o p path d,∃c r,e.2=c::r∧c≠32:=by
 intro e he
 rw [B2o,B5B]at he
 rcases List.mem_cons.1 he with rfl|he
 ·exact A6I (by rw [C9D];decide)
 rcases List.mem_append.1 he with he|he
 ·obtain⟨j,x,e1⟩:=A8z he
  rw [e1];exact A6I (by rw [B5L];decide)
 rcases List.mem_append.1 he with he|he
 ·obtain⟨j,x,e1⟩:=A8z he
  rw [e1];exact A6I (by rw [C7u];decide)
 rcases List.mem_append.1 he with he|he
 ·obtain⟨j,x,e1⟩:=A8z he
  rw [e1];exact A6I (by rw [C2k];decide)
 ·obtain⟨j,x,e1⟩:=A8z he
  rw [e1]
  obtain⟨c,r,e2,hc⟩:=A5j (j:Int)
  refine⟨c,r++32::(x.1++32::D3 x.2),by simp [D0S,F1,e2],?_⟩
  rintro rfl
  revert hc
  decide
mutual
theorem B9S: ∀(p:Fn) (path:List UInt8) (d:Nat),∀e∈F4 path d p,∃c r,e.2=c::r∧c≠32
 |⟨a,b,c,e,f,g,h,i,l,j,k⟩,path,d=>by
  intro x hx
  rw [F4]at hx
  rcases List.mem_append.1 hx with hx|hx
  ·exact C7m _ _ _ x hx
  ·exact linesFs_good l path (d+1) 0 x hx
theorem linesFs_good: ∀(l:List Fn) (path:List UInt8) (d i:Nat),∀e∈linesFs path d i l,∃c r,e.2=c::r∧c≠32
 | [],_,d,i=>by intro x hx;rw [linesFs]at hx;cases hx
 |q::r,path,d,i=>by
  intro x hx
  rw [linesFs]at hx
  rcases List.mem_append.1 hx with hx|hx
  ·exact B9S q _ d x hx
  ·exact linesFs_good r path d (i+1) x hx
end
end
end Go.Proofs.YtflobbpcabopjaaGreatDoor
