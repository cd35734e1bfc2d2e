/-
 The reference's verifier: the states as rows. No condition.
-/
import Derived.Test.YtnihmhbcjpcobaaGreatDoorRvC
import Derived.Test.YtnihmhbcjpcobaaGreatDoorVerP2
import Derived.Test.YtnihmhbcjpcobaaGreatDoorVer7
import Derived.Test.YtnihmhbcjpcobaaGreatDoorVerP3
set_option linter.unusedVariables false
set_option linter.unusedSimpArgs false
set_option maxRecDepth 100000
set_option maxHeartbeats 0
namespace Go.Proofs.YtnihmhbcjpcobaaGreatDoor
open Go.Abs
attribute [local irreducible] A2 Run
-- EV: Ins.v, Ins.row
attribute [local go_sem] Ins.v Ins.row
def A1l(N:Nat)(S:Nat→Nat)(M:Nat→Option Stt)(k:Nat):List V:=match M k with|some s=> [.sl (1000000000000+k) (S k) 0 N,.int .i64 s.opn,.isl (s.marks.map zrw)]|none=> [.nils,.int .i64 0,.nils]
def H1(N n:Nat)(S:Nat→Nat)(M:Nat→Option Stt):List (List V):=(List.range n).map (A1l N S M)
def A9u(N:Nat)(o:Option Stt):List V:=match o with|some s=> [.isl (A6 N s.set),.int .i64 s.opn,.isl (s.marks.map zrw)]|none=> [.isl [],.int .i64 0,.isl []]
def rvL(N n:Nat)(M:Nat→Option Stt):List (List V):=(List.range n).map fun k=>A9u N (M k)
theorem C1q(N:Nat)(S:Nat→Nat)(M:Nat→Option Stt)(k:Nat):(A1l N S M k).length=3:=by unfold A1l;cases M k<;>rfl
theorem A3g(N n:Nat)(S:Nat→Nat)(M:Nat→Option Stt):(H1 N n S M).length=n:=by simp [H1]
theorem C1r(N n:Nat)(S:Nat→Nat)(M:Nat→Option Stt):C4 (H1 N n S M) 3=True:=eq_true fun r hr=>by obtain⟨k,_,rfl⟩:=List.mem_map.1 hr;exact C1q N S M k
theorem A5d{N n k:Nat}{S:Nat→Nat}{M:Nat→Option Stt}(h:k<n):(H1 N n S M)[k]? =some (A1l N S M k):=by simp [H1,h]
theorem B3A{N n b:Nat}{S S':Nat→Nat}{M M':Nat→Option Stt}(hj: ∀j,j≠b→A1l N S' M' j=A1l N S M j):(H1 N n S M).set b (A1l N S' M' b)=H1 N n S' M':=by
 refine List.ext_getElem? fun j=> ?_
 rw [List.getElem?_set,A3g]
 by_cases hjn:j<n
 ·rw [A5d hjn,A5d hjn]
  by_cases d:b=j
  ·subst d;simp [hjn]
  ·rw [if_neg d,hj j (Ne.symm d)]
 ·rw [List.getElem?_eq_none (by rw [A3g];omega),List.getElem?_eq_none (by rw [A3g];omega)]
  split
  ·rw [if_neg (by omega)]
  ·rfl
theorem B7B(N n:Nat)(S:Nat→Nat):H1 N n S (fun _=>none)=List.replicate n [.nils,.int .i64 0,.nils]:=by
 unfold H1
 have:A1l N S (fun _=>none)=fun _=> [V.nils,.int .i64 0,.nils]:=funext fun k=>rfl
 rw [this,List.map_const'];simp
theorem B9f{N n:Nat}{S:Nat→Nat}{M:Nat→Option Stt}{h:A0}(hg: ∀k s,M k=some s→A0.get h (1000000000000+k) (S k)=some (.rows 1 (A6 N s.set))):(H1 N n S M).map (fun r=>r.map (frz 1 h))=rvL N n M:=by
 unfold H1 rvL
 rw [List.map_map]
 refine List.map_congr_left fun k hk=> ?_
 simp only [Function.comp]
 unfold A1l A9u
 cases hm:M k with
 |none=>simp only [List.map_cons,List.map_nil,C2x,B5n]
 |some s=>
  have hl:=C2 N s.set
  have ht:((A6 N s.set).drop 0).take N=A6 N s.set:=by rw [List.drop_zero];exact List.take_of_length_le (by omega)
  have hb:Nat.ble (0+N) (A6 N s.set).length=true:=by rw [hl,Nat.zero_add];exact Nat.ble_eq_true_of_le (Nat.le_refl N)
  have hsb:=fun d h=>(D8 (d:=d) (h:=h)).elim fun φ e=>show (A6 N s.set).map (fun r=>r.map (frz d h))=A6 N s.set by rw [e];exact K7 φ _ _
  have hsm:=fun d h=>(D8 (d:=d) (h:=h)).elim fun φ e=>show (s.marks.map zrw).map (fun r=>r.map (frz d h))=s.marks.map zrw by rw [e];exact M5 φ _
  simp only [List.map_cons,List.map_nil,C6S,B5n,C4j,A0i,hg k s hm,hb,cond_true,ht,hsb,hsm]
theorem B4R{N:Nat}{S:Nat→Nat}{M:Nat→Option Stt}{l:List Nat}(hl: ∀k s,M k=some s→k∈l){k:Nat}{s:Stt}(h:M k=some s):A0.get (I4 (G6 N M) S l) (1000000000000+k) (S k)=some (.rows 1 (A6 N s.set)):=by
 rw [B2O (hl k s h)];simp only [G6,h]
theorem B4v{N:Nat}{code:List Ins}{a:Nat}: ∀(l:List Int) {M:Nat→Option Stt},M a=none→(l.map fun(b:Int)=>(a,b)).foldl (D7 N code) M=M
 | [],_,_=>rfl
 |b::l,M,h=>by
  have:D7 N code M (a,b)=M:=by simp only [D7,h]
  rw [List.map_cons,List.foldl_cons,this]
  exact B4v l h
-- EV: Ins.v, Ins.row
attribute [local go_sem] Ins.v Ins.row
theorem B1R{Q:Res}{k:List AItem}(N B st s10 s11 sB:Nat)(f g:Nat→Bool)(o1 m1 o2 m2 v9 v8 v7 v5 v4 v1:V)(ch:Bool)(R:A0)(hN:N≤100000)(hR:A0.del R (1000000000000+B)=R)(n0:Nat)
  (key:Run ⟨Tryz.prog,114,[.t 2,.t 3],A3E Q,none⟩ k ⟨[(9,v9),(8,v8),(7,v7),(6,.bool (ch||(List.range N).any fun r=>f r&& !g r)),(5,v5),(4,v4),(1,v1)],(1000000000000+B,sB,.rows 1 (A6 N fun r=>f r&&g r))::R,n0⟩):
  Run ⟨Tryz.prog,114,[.t 2,.t 3],A3E Q,none⟩ (.code (.loop L3):: .blk 6::k) ⟨[(12,.int .i64 0),(11,.ptr (22*10000+11) s11 0 0),(10,.ptr (22*10000+10) s10 0 0),(9,v9),(8,v8),(7,v7),(6,.bool ch),(5,v5),(4,v4),(1,v1)],
   ((22*10000+11),s11,.rows 3 [[.sl (1000000000000+B) sB 0 N,o1,m1]])::((22*10000+10),s10,.rows 3 [[.sl (102*10000+3) st 0 N,o2,m2]])::((102*10000+3),st,.rows 1 (A6 N g))::(1000000000000+B,sB,.rows 1 (A6 N f))::R,n0⟩:=by
 obtain⟨BB,hB⟩: ∃BB,BB=1000000000000+B:=⟨_,rfl⟩
 have hbq: ∀k:Nat,k<1000000000000→(k=BB)=False:=fun k h=>eq_false (by omega)
 have hbq2: ∀k:Nat,k<1000000000000→(BB=k)=False:=fun k h=>eq_false (by omega)
 rw [←hB]at hR key⊢
 have gl:=C2 N g
 have gz:=E6 N g
 have ga: ∀r,r<N→(A6 N g)[r]? =some [.bool (g r)]:=fun r hr=>E5 hr
 generalize A6 N g=G at*
 refine Run.rounds (fun(x:Nat)=>⟨[(12,.int .i64 x),(11,.ptr (22*10000+11) s11 0 0),(10,.ptr (22*10000+10) s10 0 0),(9,v9),(8,v8),(7,v7),(6,.bool (ch||(List.range x).any fun r=>f r&& !g r)),(5,v5),(4,v4),(1,v1)],
   (BB,sB,.rows 1 (A6 N fun r=>f r&&(g r||decide (x≤r))))::((22*10000+11),s11,.rows 3 [[.sl BB sB 0 N,o1,m1]])::((22*10000+10),s10,.rows 3 [[.sl (102*10000+3) st 0 N,o2,m2]])::((102*10000+3),st,.rows 1 G)::R,n0⟩)
  (fun x=>x≤N) (fun x=>N-x) 0 ?_ (Nat.zero_le _) ?_
 ·have:(A6 N fun r=>f r&&(g r||decide (0≤r)))=A6 N f:=C6 fun r hr=>by simp
  rw [this]
  refine B6.of (by simp -implicitDefEqProofs only [go_sem,List.range_zero,List.any_nil,Bool.or_false]) (fun e he=> ?_) (Nat.le_refl _)
  simp only [List.mem_cons]at he⊢
  rcases he with h|h|h|h|h<;>simp only [h,eq_self,true_or,or_true]
 intro x hx ih
 refine Run.unf A2N ?_
 have hlen:=C2 N fun r=>f r&&(g r||decide (x≤r))
 have hz':=E6 N fun r=>f r&&(g r||decide (x≤r))
 by_cases hlt:x<N
 ·have q0:((x:Int)<(N:Int))=True:=eq_true (by omega)
  have q1:((0:Int)≤(x:Int))=True:=eq_true (by omega)
  have hat:=E5 (f:=fun r=>f r&&(g r||decide (x≤r))) hlt
  have hgk:=ga x hlt
  have hkk:decide (x≤x)=true:=by simp
  rw [hkk,Bool.or_true,Bool.and_true]at hat
  have hany:((List.range (x+1)).any fun r=>f r&& !g r)=(((List.range x).any fun r=>f r&& !g r)||(f x&& !g x)):=by simp [List.range_succ]
  have hset:=K6 (N:=N) (r:=x) (b:=false) (f:=fun r=>f r&&(g r||decide (x≤r))) (fun r=>f r&&(g r||decide (x+1≤r)))
  have hsame:(f x&& !g x)=false→(A6 N fun r=>f r&&(g r||decide (x+1≤r)))=A6 N fun r=>f r&&(g r||decide (x≤r)):=fun h=>C6 fun r hr=>by
   by_cases c:r=x
   ·subst c
    cases hf:f r<;>cases hg:g r<;>simp [hf,hg]at h⊢
   ·have:decide (x+1≤r)=decide (x≤r):=decide_eq_decide.2 (by omega)
    rw [this]
  have hset:=fun h:(f x&& !g x)=true=>hset fun y hy=>by
   by_cases c:y=x
   ·subst c
    cases hf:f y<;>cases hg:g y<;>simp [hf,hg]at h⊢
   ·have:decide (x+1≤y)=decide (x≤y):=decide_eq_decide.2 (by omega)
    rw [if_neg c,this]
  have hzk:((x+1:Nat):Int)=(x:Int)+1:=by omega
  have fin:=fun s=>ih s (x+1) (by omega) (by omega)
  clear ih
  simp only [hany]at fin
  generalize (A6 N fun r=>f r&&(g r||decide (x≤r)))=es at*
  generalize ((List.range x).any fun r=>f r&& !g r)=an at*
  cases hf:f x with
  |false=>
   rw [hf]at hat hsame fin
   have hsame:=hsame rfl
   rw [hsame]at fin
   refine Run.go 100 ?_
   simp -implicitDefEqProofs only [go_sem,q0,q1,hlen,hz',hat,hlt,hR,hbq,hbq2,Option.some.injEq,forall_eq']
   exact⟨⟨by omega,by omega⟩,fin _ (B6.of (by simp -implicitDefEqProofs only [go_sem,hzk,Bool.false_and,Bool.or_false]) (fun e he=>he) (Nat.le_refl _))⟩
  | true=>
   cases hg:g x with
   |true=>
    rw [hf]at hat hsame fin
    rw [hg]at hgk hsame fin
    have hsame:=hsame rfl
    rw [hsame]at fin
    refine Run.go 100 ?_
    simp -implicitDefEqProofs only [go_sem,q0,q1,hlen,hz',hat,hlt,hgk,gl,gz,hR,hbq,hbq2,Option.some.injEq,forall_eq']
    exact⟨⟨by omega,by omega⟩,fin _ (B6.of (by simp -implicitDefEqProofs only [go_sem,hzk,Bool.not_true,Bool.and_false,Bool.or_false]) (fun e he=>he) (Nat.le_refl _))⟩
   | false=>
    rw [hf]at hat hset fin
    rw [hg]at hgk hset fin
    have hset:=hset rfl
    refine Run.go 100 ?_
    simp -implicitDefEqProofs only [go_sem,q0,q1,hlen,hz',hat,hlt,hgk,gl,gz,hR,hbq,hbq2,hset,Option.some.injEq,forall_eq']
    exact⟨⟨by omega,by omega⟩,fin _ (B6.of (by simp -implicitDefEqProofs only [go_sem,hzk,Bool.not_false,Bool.and_true,Bool.or_true]) (fun e he=>by
     simp only [List.mem_cons]at he⊢
     rcases he with h|h|h|h|h<;>simp only [h,eq_self,true_or,or_true]) (Nat.le_refl _))⟩
 ·have e:x=N:=by omega
  subst e
  have:(A6 x fun r=>f r&&(g r||decide (x≤r)))=A6 x fun r=>f r&&g r:=C6 fun r hr=>by
   have:decide (x≤r)=false:=decide_eq_false (by omega)
   rw [this,Bool.or_false]
  rw [this]
  refine Run.go 5 ?_
  simp -implicitDefEqProofs only [go_sem,Int.lt_irrefl,hbq,hbq2]
  refine Run.wk (B6.wk ?_) key
  refine B6.of (by simp -implicitDefEqProofs only [go_sem]) (fun e he=> ?_) (Nat.le_refl _)
  simp only [List.mem_cons]at he⊢
  rcases he with h|h<;>simp only [h,eq_self,true_or,or_true]
end Go.Proofs.YtnihmhbcjpcobaaGreatDoor
