/-
 What an accepted function is, as far as its listing needs it. No condition.
-/
import Derived.Test.YtcjgeliglgcflaaGreatDoorLsN
import Derived.Test.YtcjgeliglgcflaaGreatDoorTxo
import Derived.Test.YtcjgeliglgcflaaGreatDoorFnMa
set_option linter.unusedVariables false
set_option linter.unusedSimpArgs false
set_option maxRecDepth 100000
namespace Go.Proofs.YtcjgeliglgcflaaGreatDoor
open Go.Abs
mutual
def n64:V→Prop
 | .int .i64 z=>inB z
 | .isl es=>n64LL es
 | .agg cs=>n64L cs
 |_=>True
def n64L:List V→Prop
 | []=>True
 |c::r=>n64 c∧n64L r
def n64LL:List (List V)→Prop
 | []=>True
 |c::r=>n64L c∧n64LL r
end
theorem B5X: ∀{a b:List V},n64L a→n64L b→n64L (a++b)
 | [],_,_,h=>h
 |c::r,b,h1,h2=>by
  rw [n64L]at h1
  rw [List.cons_append,n64L]
  exact⟨h1.1,B5X h1.2 h2⟩
theorem A9Q: ∀{l:List (List V)},(∀c∈l,n64L c)→n64L l.flatten
 | [],_=>by rw [List.flatten_nil,n64L];trivial
 |c::r,h=>by
  rw [List.flatten_cons]
  exact B5X (h c List.mem_cons_self) (A9Q fun x hx=>h x (List.mem_cons_of_mem _ hx))
theorem A6Z: ∀{l:List (List V)},n64LL l↔ ∀c∈l,n64L c
 | []=>by simp [n64LL]
 |c::r=>by rw [n64LL,A6Z,List.forall_mem_cons]
theorem C0B{P:Program}{t:TypeId}{row:List V}(h:A5K P t row):n64L row:=by
 induction h with
 |bool h b=>rw [n64L,n64L];exact⟨by unfold n64;trivial,trivial⟩
 | @int t k h n hn=>
  rw [n64L,n64L]
  refine⟨?_,trivial⟩
  have h:k= .i64→inB n:=fun e=>by
   subst e
   have h:IntKind.i64.min≤n∧n≤IntKind.i64.max:=by simpa [Lit.wf]using hn
   rw [show IntKind.i64.min= -9223372036854775808 from rfl,show IntKind.i64.max=9223372036854775807 from rfl]at h
   exact h
  unfold n64
  cases k<;>first|trivial|exact h rfl
 |str h s hs=>rw [n64L,n64L];exact⟨by unfold n64;trivial,trivial⟩
 |slice h es hl hb he ih=>rw [n64L,n64L,n64];exact⟨A6Z.2 ih,trivial⟩
 |struct h cs hl hf ih=>
  refine A9Q fun c hc=> ?_
  obtain⟨i,hi,rfl⟩:=List.getElem_of_mem hc
  exact ih i _ _ (List.getElem?_eq_getElem (by omega)) (List.getElem?_eq_getElem hi)
 |array h cs hl hf ih=>exact A9Q ih
theorem B9h{i:Ins}(h:chk i=0):(1≤i.op∧i.op≤29)∧(0≤i.a∧i.a≤4095)∧(-1≤i.b∧i.b≤16383)∧(-1≤i.c∧i.c≤32767)∧(0≤i.d∧i.d≤19):=by
 obtain⟨h1,h2,h3,h4,h5,h6,h7,h8,h9,h10⟩:=B1x h
 have:=of_decide_eq_true (show decide (1≤i.op∧i.op≤29)=true from h1)
 omega
theorem B8m{i:Ins}(h:chk i=0):inB i.a∧inB i.b∧inB i.c∧inB i.d:=by
 obtain⟨_,⟨b1,b2⟩,⟨c1,c2⟩,⟨d1,d2⟩,⟨e1,e2⟩⟩:=B9h h
 exact⟨⟨by omega,by omega⟩,⟨by omega,by omega⟩,⟨by omega,by omega⟩,⟨by omega,by omega⟩⟩
structure Fn.Okl(p:Fn):Prop where
 nums:inB p.line∧inB p.params∧inB p.regs
 name:p.name.length≤4096
 consts:p.consts.length≤4096∧ ∀v∈p.consts,O7 v=true∧v.kind≤3
 ups:p.ups.length≤60∧ ∀u∈p.ups,u.name.length≤40∧inB u.idx
 vars:p.vars.length≤16384∧ ∀v∈p.vars,v.name.length≤40∧inB v.reg∧inB v.lo∧inB v.hi∧0≤v.attr∧v.attr≤2
 code:p.code.length≤16384∧ ∀i∈p.code,chk i=0
 lines:(p.lines.length=0∨p.lines.length=p.code.length)∧ ∀z∈p.lines,inB z
 protos:p.protos.length≤1024
theorem B7E(c:UInt8):(K1 c).length≤4:=by
 unfold K1
 split
 ·simp
 ·split
  ·simp
  ·split
   ·simp
   ·split<;>simp
theorem B5z{α β:Type}{f:α→List β}{m:Nat}(hf: ∀x,(f x).length≤m): ∀l:List α,(l.flatMap f).length≤m*l.length
 | []=>by simp
 |x::r=>by
  have h1:=B5z hf r
  have h2:=hf x
  rw [List.flatMap_cons,List.length_append,List.length_cons,Nat.mul_succ];omega
theorem A4J(s:List UInt8):(R3 s).length≤4*s.length+2:=by
 have:=B5z B7E s
 unfold R3
 simp only [List.length_cons,List.length_append,List.length_nil];omega
theorem K3{n:Int}(h:inB n):(Lib.itoa n).length≤21:=A2a h.1 h.2
theorem A7a{n:Nat}(h:n≤1000000):(Lib.itoa (n:Int)).length≤21:=A2a (by omega) (by omega)
theorem A9R{p q:Int}(h:A0c p q=true):inB p∧inB q:=by
 simp only [A0c,Bool.and_eq_true,decide_eq_true_eq]at h
 exact⟨⟨by omega,by omega⟩,⟨by omega,by omega⟩⟩
theorem C1N{p q:Int}(hp:inB p)(hq:inB q):(B7B p q).length≤43:=by
 have h1:=K3 hp
 have h2:=K3 hq
 unfold B7B
 split
 ·omega
 ·rw [List.length_append,List.length_cons];omega
theorem C2H{v:Kst}(h:O7 v=true)(hk:v.kind≤3):(B0R v).length≤16400:=by
 unfold B0R
 split
 ·split<;>simp
 ·rename_i k1
  split
  ·rename_i k2
   have hn:A0c v.p v.q=true:=by
    unfold O7 at h
    rw [if_neg (by omega),if_neg (by omega),if_pos k2]at h
    simp only [Bool.and_eq_true]at h
    exact h.1
   have:=C1N (A9R hn).1 (A9R hn).2
   omega
  ·rename_i k2
   split
   ·rename_i k3
    have:=A4J v.str
    unfold O7 at h
    rw [if_neg (by omega),if_neg (by omega),if_neg k2]at h
    simp only [Bool.and_eq_true,decide_eq_true_eq]at h
    omega
   ·simp
theorem C0x{i:Ins}(h:chk i=0):(A9z i).length≤200:=by
 obtain⟨a,b,c,d⟩:=B8m h
 unfold A9z
 split
 ·have:=B6g (k1:=(frm i.op).a) (k2:=(frm i.op).b) (k3:=(frm i.op).c) (k4:=(frm i.op).d) (A8K i.op) a b c d 4
  rw [←B6f]at this
  exact this
 ·simp
theorem B3z{p:Fn}(h:p.Okl)(path:List UInt8):(A0b p path).length≤path.length+16500:=by
 have h1:=A4J p.name
 have h2:=K3 h.nums.1
 have h3:=K3 h.nums.2.1
 have h4:=K3 h.nums.2.2
 have h5:=h.name
 unfold A0b
 simp only [Q4,List.length_append,List.length_cons,List.length_nil]
 split<;>simp<;>omega
theorem B1A{v:Kst}(h:O7 v=true)(hk:v.kind≤3){i:Nat}(hi:i≤1000000):(H2 i v).length≤16500:=by
 have h1:=C2H h hk
 have h2:=A7a hi
 unfold H2
 simp only [Q4,List.length_append,List.length_cons,List.length_nil];omega
theorem B8U{u:Upv}(h:u.name.length≤40)(hu:inB u.idx){i:Nat}(hi:i≤1000000):(upT i u).length≤16500:=by
 have h1:=A4J u.name
 have h2:=A7a hi
 have h3:=K3 hu
 unfold upT
 simp only [Q4,List.length_append,List.length_cons,List.length_nil]
 split<;>simp<;>omega
theorem B6Q{v:Vr}(h:v.name.length≤40)(h1:inB v.reg)(h2:inB v.lo)(h3:inB v.hi){i:Nat}(hi:i≤1000000):(A1y i v).length≤16500:=by
 have l1:=A4J v.name
 have l2:=A7a hi
 have l3:=K3 h1
 have l4:=K3 h2
 have l5:=K3 h3
 unfold A1y
 simp only [Q4,List.length_append,List.length_cons,List.length_nil]
 split
 ·simp;omega
 ·split<;>simp<;>omega
theorem C1F{ls:List Int}(h: ∀z∈ls,inB z){i:Nat}(hi:ls.length=0∨i<ls.length):(B5R ls i).length≤21:=by
 unfold B5R
 split
 ·simp
 ·rename_i h0
  have hlt:i<ls.length:=by omega
  rw [List.getElem?_eq_getElem hlt,Option.getD_some]
  exact K3 (h _ (List.getElem_mem hlt))
theorem B3f{ls:List Int}(h: ∀z∈ls,inB z){x:Ins}(hx:chk x=0){i:Nat}(hi:i≤1000000)(hl:ls.length=0∨i<ls.length):(T9 ls i x).length≤16500:=by
 have l1:=A7a hi
 have l2:=C0x hx
 have l3:=C1F h hl
 unfold T9
 simp only [Q4,List.length_append,List.length_cons,List.length_nil];omega
theorem A6g{α:Type}{f:Nat→α→List UInt8}{d m:Nat}: ∀{l:List α} {i:Nat},(∀(j:Nat) x,l[j]? =some x→(f (i+j) x).length≤m)→ ∀e∈D4 f d i l,e.1=d∧e.2.length≤m
 | [],_,_,e,h=>by cases h
 |x::r,i,hf,e,h=>by
  rw [D4]at h
  rcases List.mem_cons.1 h with rfl|h
  ·exact⟨rfl,hf 0 x rfl⟩
  ·exact A6g (l:=r) (i:=i+1) (fun j y hy=>by have:=hf (j+1) y (by simpa using hy);rw [show i+1+j=i+(j+1) by omega];exact this) e h
theorem C1W{p:Fn}(h:p.Okl)(path:List UInt8)(d:Nat): ∀e∈B4D p path d,e.1≤d+1∧e.2.length≤path.length+16500:=by
 intro e he
 have lift: ∀{e:Nat×List UInt8},e.1=d+1∧e.2.length≤16500→e.1≤d+1∧e.2.length≤path.length+16500:=fun⟨a,b⟩=>⟨by omega,by omega⟩
 have hi: ∀{α:Type} {l:List α} {j:Nat} {x:α} {m:Nat},l[j]? =some x→l.length≤m→j<m:=fun h hm=>by have:=(List.getElem?_eq_some_iff.1 h).1;omega
 have hmem: ∀{α:Type} {l:List α} {j:Nat} {x:α},l[j]? =some x→x∈l:=fun h=>List.mem_of_getElem? h
 unfold B4D at he
 rcases List.mem_cons.1 he with rfl|he
 ·exact⟨by simp,B3z h path⟩
 ·rcases List.mem_append.1 he with he|he
  ·exact lift (A6g (fun j x hx=>by
    rw [Nat.zero_add]
    have:=h.consts.2 x (hmem hx)
    exact B1A this.1 this.2 (by have:=hi hx h.consts.1;omega)) e he)
  ·rcases List.mem_append.1 he with he|he
   ·exact lift (A6g (fun j x hx=>by
     rw [Nat.zero_add]
     have:=h.ups.2 x (hmem hx)
     exact B8U this.1 this.2 (by have:=hi hx h.ups.1;omega)) e he)
   ·rcases List.mem_append.1 he with he|he
    ·exact lift (A6g (fun j x hx=>by
      rw [Nat.zero_add]
      have:=h.vars.2 x (hmem hx)
      exact B6Q this.1 this.2.1 this.2.2.1 this.2.2.2.1 (by have:=hi hx h.vars.1;omega)) e he)
    ·exact lift (A6g (fun j x hx=>by
      rw [Nat.zero_add]
      have hj:=(List.getElem?_eq_some_iff.1 hx).1
      exact B3f h.lines.2 (h.code.2 x (hmem hx)) (by have:=h.code.1;omega) (by rcases h.lines.1 with h0|h0<;>omega)) e he)
mutual
theorem B2a: ∀(p:Fn),(∀q∈p.each,q.Okl)→ ∀(path:List UInt8) (d:Nat),path.length≤4+22*d→d+p.depth≤65→ ∀e∈R2 path d p,e.1≤65∧e.2.length≤17934
 | ⟨a,b,c,e,f,g,h,i,l,j,k⟩,hok,path,d,hpath,hd=>by
  intro x hx
  rw [Fn.depth]at hd
  rw [R2]at hx
  rcases List.mem_append.1 hx with hx|hx
  ·have:=C1W (hok _ (Fn.self_mem _)) path d x hx
   omega
  ·have h1:=(hok _ (Fn.self_mem _)).protos
   exact linesFs_all l (fun q hq=>hok q (by rw [Fn.each];exact List.mem_cons_of_mem _ hq)) path (d+1) 0 (by omega) (by omega) (by simp only at h1;omega) x hx
theorem linesFs_all: ∀(l:List Fn),(∀q∈Fn.eachs l,q.Okl)→ ∀(path:List UInt8) (d i:Nat),path.length+22≤4+22*d→d+Fn.depths l≤65→i+l.length≤2000→ ∀e∈linesFs path d i l,e.1≤65∧e.2.length≤17934
 | [],_,_,_,_,_,_,_=>by intro x hx;rw [linesFs]at hx;cases hx
 |q::r,hok,path,d,i,hpath,hd,hi=>by
  intro x hx
  rw [Fn.depths]at hd
  rw [List.length_cons]at hi
  rw [linesFs]at hx
  have h2:=A7a (n:=i) (by omega)
  rcases List.mem_append.1 hx with hx|hx
  ·exact B2a q (fun y hy=>hok y (by rw [Fn.eachs];exact List.mem_append.2 (.inl hy))) _ d (by rw [List.length_append,List.length_cons];omega) (by omega) x hx
  ·exact linesFs_all r (fun y hy=>hok y (by rw [Fn.eachs];exact List.mem_append.2 (.inr hy))) path d (i+1) hpath (by omega) (by omega) x hx
end
mutual
theorem B3Q: ∀(p:Fn),(∀q∈p.each,q.Okl)→B2m p≤36925*p.each.length
 |⟨a,b,c,e,f,g,h,i,l,j,k⟩,hok=>by
  have h0:=hok _ (Fn.self_mem _)
  have h1:=h0.consts.1
  have h2:=h0.ups.1
  have h3:=h0.vars.1
  have h4:=h0.code.1
  have h5:=partsFs_le l (fun q hq=>hok q (by rw [Fn.each];exact List.mem_cons_of_mem _ hq))
  simp only at h1 h2 h3 h4
  rw [B2m,Fn.each,List.length_cons,Nat.mul_succ];omega
theorem partsFs_le: ∀(l:List Fn),(∀q∈Fn.eachs l,q.Okl)→partsFs l≤36925*(Fn.eachs l).length
 | [],_=>by rw [partsFs];omega
 |q::r,hok=>by
  have h1:=B3Q q (fun y hy=>hok y (by rw [Fn.eachs];exact List.mem_append.2 (.inl hy)))
  have h2:=partsFs_le r (fun y hy=>hok y (by rw [Fn.eachs];exact List.mem_append.2 (.inr hy)))
  rw [partsFs,Fn.eachs,List.length_append,Nat.mul_add];omega
end
theorem B3E: ∀{l:List (Nat×List UInt8)},(∀e∈l,e.1≤65∧e.2.length≤17934)→(l.flatMap A3a).length≤18065*l.length
 | [],_=>by simp
 |e::r,h=>by
  have h1:=B3E (l:=r) fun x hx=>h x (List.mem_cons_of_mem _ hx)
  have h2:=h e List.mem_cons_self
  have h3:(A3a e).length=2*e.1+(e.2.length+1):=by unfold A3a;simp
  rw [List.flatMap_cons,List.length_append,List.length_cons,Nat.mul_succ]
  omega
theorem B0s{p:Fn}(hd:p.depth≤64)(hok: ∀q∈p.each,q.Okl): ∀e∈R2 [109,97,105,110] 0 p,e.1≤65∧e.2.length≤17934:=B2a p hok _ 0 (by decide) (by omega)
theorem B9O{p:Fn}(hd:p.depth≤64)(hok: ∀q∈p.each,q.Okl)(hn:p.each.length≤100):(R2 [109,97,105,110] 0 p).length≤3692500∧(B2d p).length≤66705012500:=by
 have h1:=B3E (B0s hd hok)
 have h2:=B3Q p hok
 rw [B2b]at h1⊢
 unfold B2d
 omega
end Go.Proofs.YtcjgeliglgcflaaGreatDoor
