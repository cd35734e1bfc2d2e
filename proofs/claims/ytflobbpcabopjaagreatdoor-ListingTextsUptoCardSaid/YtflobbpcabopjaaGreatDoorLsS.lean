/-
 How long the listing of an accepted function is. No condition.
-/
import Derived.Test.YtflobbpcabopjaaGreatDoorLsA
set_option linter.unusedVariables false
set_option linter.unusedSimpArgs false
set_option maxRecDepth 100000
namespace Go.Proofs.YtflobbpcabopjaaGreatDoor
open Go Go.Abs
theorem C0V(c:UInt8):(C9 c).length≤4:=by
 unfold C9
 split
 ·simp
 ·split
  ·simp
  ·split
   ·simp
   ·split<;>simp
theorem B8U{α β:Type}{f:α→List β}{m:Nat}(hf: ∀x,(f x).length≤m): ∀l:List α,(l.flatMap f).length≤m*l.length
 | []=>by simp
 |x::r=>by
  have h1:=B8U hf r
  have h2:=hf x
  rw [List.flatMap_cons,List.length_append,List.length_cons,Nat.mul_succ];omega
theorem Y4(s:List UInt8):(F9 s).length≤4*s.length+2:=by
 have:=B8U C0V s
 unfold F9
 simp only [List.length_cons,List.length_append,List.length_nil];omega
theorem D3{n:Int}(h:inB n):(Lib.itoa n).length≤21:=A1a h.1 h.2
theorem p6{n:Nat}(h:n≤1000000):(Lib.itoa (n:Int)).length≤21:=A1a (by omega) (by omega)
theorem A9Y{p q:Int}(h:K0 p q=true):inB p∧inB q:=by
 simp only [K0,Bool.and_eq_true,decide_eq_true_eq]at h
 exact⟨⟨by omega,by omega⟩,⟨by omega,by omega⟩⟩
theorem C5t{p q:Int}(hp:inB p)(hq:inB q):(B2c p q).length≤43:=by
 have h1:=D3 hp
 have h2:=D3 hq
 unfold B2c
 split
 ·omega
 ·rw [List.length_append,List.length_cons];omega
theorem C0c{v:Kst}(h:D1 v=true)(hk:v.kind≤3):(A0R v).length≤16400:=by
 unfold A0R
 split
 ·split<;>simp
 ·rename_i k1
  split
  ·rename_i k2
   have hn:K0 v.p v.q=true:=by
    unfold D1 at h
    rw [if_neg (by omega),if_neg (by omega),if_pos k2]at h
    simp only [Bool.and_eq_true]at h
    exact h.1
   have:=C5t (A9Y hn).1 (A9Y hn).2
   omega
  ·rename_i k2
   split
   ·rename_i k3
    have:=Y4 v.str
    unfold D1 at h
    rw [if_neg (by omega),if_neg (by omega),if_neg k2]at h
    simp only [Bool.and_eq_true,decide_eq_true_eq]at h
    omega
   ·simp
theorem B7p{i:Ins}(h:chk i=0):(T9 i).length≤200:=by
 obtain⟨a,b,c,d⟩:=B7D h
 unfold T9
 split
 ·have:=B9y (k1:=(frm i.op).a) (k2:=(frm i.op).b) (k3:=(frm i.op).c) (k4:=(frm i.op).d) (A6i i.op) a b c d 4
  rw [←B9x]at this
  exact this
 ·simp
theorem B3g{p:Fn}(h:p.Okl)(path:List UInt8):(D4 p path).length≤path.length+16500:=by
 have h1:=Y4 p.name
 have h2:=D3 h.nums.1
 have h3:=D3 h.nums.2.1
 have h4:=D3 h.nums.2.2
 have h5:=h.name
 unfold D4
 simp only [F2,List.length_append,List.length_cons,List.length_nil]
 split<;>simp<;>omega
theorem B0W{v:Kst}(h:D1 v=true)(hk:v.kind≤3){i:Nat}(hi:i≤1000000):(B9 i v).length≤16500:=by
 have h1:=C0c h hk
 have h2:=p6 hi
 unfold B9
 simp only [F2,List.length_append,List.length_cons,List.length_nil];omega
theorem B8q{u:Upv}(h:u.name.length≤40)(hu:inB u.idx){i:Nat}(hi:i≤1000000):(upT i u).length≤16500:=by
 have h1:=Y4 u.name
 have h2:=p6 hi
 have h3:=D3 hu
 unfold upT
 simp only [F2,List.length_append,List.length_cons,List.length_nil]
 split<;>simp<;>omega
theorem B6f{v:Vr}(h:v.name.length≤40)(h1:inB v.reg)(h2:inB v.lo)(h3:inB v.hi){i:Nat}(hi:i≤1000000):(I4 i v).length≤16500:=by
 have l1:=Y4 v.name
 have l2:=p6 hi
 have l3:=D3 h1
 have l4:=D3 h2
 have l5:=D3 h3
 unfold I4
 simp only [F2,List.length_append,List.length_cons,List.length_nil]
 split
 ·simp;omega
 ·split<;>simp<;>omega
theorem B9j{ls:List Int}(h: ∀z∈ls,inB z){i:Nat}(hi:ls.length=0∨i<ls.length):(A1u ls i).length≤21:=by
 unfold A1u
 split
 ·simp
 ·rename_i h0
  have hlt:i<ls.length:=by omega
  rw [List.getElem?_eq_getElem hlt,Option.getD_some]
  exact D3 (h _ (List.getElem_mem hlt))
theorem B2Z{ls:List Int}(h: ∀z∈ls,inB z){x:Ins}(hx:chk x=0){i:Nat}(hi:i≤1000000)(hl:ls.length=0∨i<ls.length):(F8 ls i x).length≤16500:=by
 have l1:=p6 hi
 have l2:=B7p hx
 have l3:=B9j h hl
 unfold F8
 simp only [F2,List.length_append,List.length_cons,List.length_nil];omega
theorem A8T{α:Type}{f:Nat→α→List UInt8}{d m:Nat}: ∀{l:List α} {i:Nat},(∀(j:Nat) x,l[j]? =some x→(f (i+j) x).length≤m)→ ∀e∈B0 f d i l,e.1=d∧e.2.length≤m
 | [],_,_,e,h=>by cases h
 |x::r,i,hf,e,h=>by
  rw [B0]at h
  rcases List.mem_cons.1 h with rfl|h
  ·exact⟨rfl,hf 0 x rfl⟩
  ·exact A8T (l:=r) (i:=i+1) (fun j y hy=>by have:=hf (j+1) y (by simpa using hy);rw [show i+1+j=i+(j+1) by omega];exact this) e h
theorem C5C{p:Fn}(h:p.Okl)(path:List UInt8)(d:Nat): ∀e∈A7Y p path d,e.1≤d+1∧e.2.length≤path.length+16500:=by
 intro e he
 have lift: ∀{e:Nat×List UInt8},e.1=d+1∧e.2.length≤16500→e.1≤d+1∧e.2.length≤path.length+16500:=fun⟨a,b⟩=>⟨by omega,by omega⟩
 have hi: ∀{α:Type} {l:List α} {j:Nat} {x:α} {m:Nat},l[j]? =some x→l.length≤m→j<m:=fun h hm=>by have:=(List.getElem?_eq_some_iff.1 h).1;omega
 have hmem: ∀{α:Type} {l:List α} {j:Nat} {x:α},l[j]? =some x→x∈l:=fun h=>List.mem_of_getElem? h
 unfold A7Y at he
 rcases List.mem_cons.1 he with rfl|he
 ·exact⟨by simp,B3g h path⟩
 ·rcases List.mem_append.1 he with he|he
  ·exact lift (A8T (fun j x hx=>by
    rw [Nat.zero_add]
    have:=h.consts.2 x (hmem hx)
    exact B0W this.1 this.2 (by have:=hi hx h.consts.1;omega)) e he)
  ·rcases List.mem_append.1 he with he|he
   ·exact lift (A8T (fun j x hx=>by
     rw [Nat.zero_add]
     have:=h.ups.2 x (hmem hx)
     exact B8q this.1 this.2 (by have:=hi hx h.ups.1;omega)) e he)
   ·rcases List.mem_append.1 he with he|he
    ·exact lift (A8T (fun j x hx=>by
      rw [Nat.zero_add]
      have:=h.vars.2 x (hmem hx)
      exact B6f this.1 this.2.1 this.2.2.1 this.2.2.2.1 (by have:=hi hx h.vars.1;omega)) e he)
    ·exact lift (A8T (fun j x hx=>by
      rw [Nat.zero_add]
      have hj:=(List.getElem?_eq_some_iff.1 hx).1
      exact B2Z h.lines.2 (h.code.2 x (hmem hx)) (by have:=h.code.1;omega) (by rcases h.lines.1 with h0|h0<;>omega)) e he)
mutual
theorem B0Z: ∀(p:Fn),(∀q∈p.each,q.Okl)→ ∀(path:List UInt8) (d:Nat),path.length≤4+22*d→d+p.depth≤65→ ∀e∈G4 path d p,e.1≤65∧e.2.length≤17934
 | ⟨a,b,c,e,f,g,h,i,l,j,k⟩,hok,path,d,hpath,hd=>by
  intro x hx
  rw [Fn.depth]at hd
  rw [G4]at hx
  rcases List.mem_append.1 hx with hx|hx
  ·have:=C5C (hok _ (Fn.self_mem _)) path d x hx
   omega
  ·have h1:=(hok _ (Fn.self_mem _)).protos
   exact linesFs_all l (fun q hq=>hok q (by rw [Fn.each];exact List.mem_cons_of_mem _ hq)) path (d+1) 0 (by omega) (by omega) (by simp only at h1;omega) x hx
theorem linesFs_all: ∀(l:List Fn),(∀q∈Fn.eachs l,q.Okl)→ ∀(path:List UInt8) (d i:Nat),path.length+22≤4+22*d→d+Fn.depths l≤65→i+l.length≤2000→ ∀e∈linesFs path d i l,e.1≤65∧e.2.length≤17934
 | [],_,_,_,_,_,_,_=>by intro x hx;rw [linesFs]at hx;cases hx
 |q::r,hok,path,d,i,hpath,hd,hi=>by
  intro x hx
  rw [Fn.depths]at hd
  rw [List.length_cons]at hi
  rw [linesFs]at hx
  have h2:=p6 (n:=i) (by omega)
  rcases List.mem_append.1 hx with hx|hx
  ·exact B0Z q (fun y hy=>hok y (by rw [Fn.eachs];exact List.mem_append.2 (.inl hy))) _ d (by rw [List.length_append,List.length_cons];omega) (by omega) x hx
  ·exact linesFs_all r (fun y hy=>hok y (by rw [Fn.eachs];exact List.mem_append.2 (.inr hy))) path d (i+1) hpath (by omega) (by omega) x hx
end
mutual
theorem B3x: ∀(p:Fn),(∀q∈p.each,q.Okl)→p7 p≤36925*p.each.length
 |⟨a,b,c,e,f,g,h,i,l,j,k⟩,hok=>by
  have h0:=hok _ (Fn.self_mem _)
  have h1:=h0.consts.1
  have h2:=h0.ups.1
  have h3:=h0.vars.1
  have h4:=h0.code.1
  have h5:=partsFs_le l (fun q hq=>hok q (by rw [Fn.each];exact List.mem_cons_of_mem _ hq))
  simp only at h1 h2 h3 h4
  rw [p7,Fn.each,List.length_cons,Nat.mul_succ];omega
theorem partsFs_le: ∀(l:List Fn),(∀q∈Fn.eachs l,q.Okl)→partsFs l≤36925*(Fn.eachs l).length
 | [],_=>by rw [partsFs];omega
 |q::r,hok=>by
  have h1:=B3x q (fun y hy=>hok y (by rw [Fn.eachs];exact List.mem_append.2 (.inl hy)))
  have h2:=partsFs_le r (fun y hy=>hok y (by rw [Fn.eachs];exact List.mem_append.2 (.inr hy)))
  rw [partsFs,Fn.eachs,List.length_append,Nat.mul_add];omega
end
theorem B3l: ∀{l:List (Nat×List UInt8)},(∀e∈l,e.1≤65∧e.2.length≤17934)→(l.flatMap S5).length≤18065*l.length
 | [],_=>by simp
 |e::r,h=>by
  have h1:=B3l (l:=r) fun x hx=>h x (List.mem_cons_of_mem _ hx)
  have h2:=h e List.mem_cons_self
  have h3:(S5 e).length=2*e.1+(e.2.length+1):=by unfold S5;simp
  rw [List.flatMap_cons,List.length_append,List.length_cons,Nat.mul_succ]
  omega
theorem B3S{p:Fn}(hd:p.depth≤64)(hok: ∀q∈p.each,q.Okl): ∀e∈G4 [109,97,105,110] 0 p,e.1≤65∧e.2.length≤17934:=B0Z p hok _ 0 (by decide) (by omega)
theorem B6V{p:Fn}(hd:p.depth≤64)(hok: ∀q∈p.each,q.Okl)(hn:p.each.length≤100):(G4 [109,97,105,110] 0 p).length≤3692500∧(Q8 p).length≤66705012500:=by
 have h1:=B3l (B3S hd hok)
 have h2:=B3x p hok
 rw [A2s]at h1⊢
 unfold Q8
 omega
end Go.Proofs.YtflobbpcabopjaaGreatDoor
