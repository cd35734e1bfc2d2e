/-
 The states of a function: the rounds of 'states'. No condition.
-/
import Derived.Test.YtcaaenddpjepiaaGreatDoorRvB
import Derived.Test.YtcaaenddpjepiaaGreatDoorVerP2
import Derived.Test.YtcaaenddpjepiaaGreatDoorVer7
set_option linter.unusedVariables false
set_option linter.unusedSimpArgs false
set_option maxRecDepth 100000
set_option maxHeartbeats 0
namespace Go.Proofs.YtcaaenddpjepiaaGreatDoor
section
open Go.Abs
attribute [local irreducible] A0 Run
-- EV: Ins.v, Ins.row
attribute [local go_sem] Ins.v Ins.row
def A3l(N:Nat)(S:Nat→Nat)(M:Nat→Option Stt)(k:Nat):List V:=match M k with|some s=> [.sl (1000000000000+k) (S k) 0 N,.int .i64 s.opn,.isl (s.marks.map zrw)]|none=> [.nils,.int .i64 0,.nils]
def L7(N n:Nat)(S:Nat→Nat)(M:Nat→Option Stt):List (List V):=(List.range n).map (A3l N S M)
def B1U(N:Nat)(o:Option Stt):List V:=match o with|some s=> [.isl (B0 N s.set),.int .i64 s.opn,.isl (s.marks.map zrw)]|none=> [.isl [],.int .i64 0,.isl []]
def rvL(N n:Nat)(M:Nat→Option Stt):List (List V):=(List.range n).map fun k=>B1U N (M k)
theorem C7i(N:Nat)(S:Nat→Nat)(M:Nat→Option Stt)(k:Nat):(A3l N S M k).length=3:=by unfold A3l;cases M k<;>rfl
theorem A5s(N n:Nat)(S:Nat→Nat)(M:Nat→Option Stt):(L7 N n S M).length=n:=by simp [L7]
theorem C7j(N n:Nat)(S:Nat→Nat)(M:Nat→Option Stt):C4 (L7 N n S M) 3=True:=eq_true fun r h=>by obtain⟨k,_,rfl⟩:=List.mem_map.1 h;exact C7i N S M k
theorem A7n{N n k:Nat}{S:Nat→Nat}{M:Nat→Option Stt}(h:k<n):(L7 N n S M)[k]? =some (A3l N S M k):=by simp [L7,h]
theorem B6Y{N n b:Nat}{S S':Nat→Nat}{M M':Nat→Option Stt}(a: ∀j,j≠b→A3l N S' M' j=A3l N S M j):(L7 N n S M).set b (A3l N S' M' b)=L7 N n S' M':=by
 refine List.ext_getElem? fun j=> ?_
 rw [List.getElem?_set,A5s]
 by_cases h:j<n
 ·rw [A7n h,A7n h]
  by_cases d:b=j
  ·subst d;simp [h]
  ·rw [if_neg d,a j (Ne.symm d)]
 ·rw [List.getElem?_eq_none (by rw [A5s];omega),List.getElem?_eq_none (by rw [A5s];omega)]
  split
  ·rw [if_neg zd]
  ·rfl
theorem C2t(N n:Nat)(S:Nat→Nat):L7 N n S (fun _=>none)=List.replicate n [.nils,.int .i64 0,.nils]:=by
 unfold L7
 have:A3l N S (fun _=>none)=fun _=> [V.nils,.int .i64 0,.nils]:=funext fun k=>rfl
 rw [this,List.map_const'];simp
theorem C4n{N n:Nat}{S:Nat→Nat}{M:Nat→Option Stt}{h:A2}(c: ∀k s,M k=some s→A2.get h (1000000000000+k) (S k)=some (.rows 1 (B0 N s.set))):(L7 N n S M).map (fun r=>r.map (frz 1 h))=rvL N n M:=by
 unfold L7 rvL
 rw [List.map_map]
 refine List.map_congr_left fun k j=> ?_
 simp only [Function.comp]
 unfold A3l B1U
 cases hm:M k with
 |none=>simp only [List.map_cons,List.map_nil,C8B,B9I]
 |some s=>
  have f:=D6 N s.set
  have i:((B0 N s.set).drop 0).take N=B0 N s.set:=by rw [List.drop_zero];exact List.take_of_length_le zd
  have g:Nat.ble (0+N) (B0 N s.set).length=true:=by rw [f,Nat.zero_add];exact Nat.ble_eq_true_of_le (Nat.le_refl N)
  have b:=fun d h=>(G8 (d:=d) (h:=h)).elim fun φ e=>show (B0 N s.set).map (fun r=>r.map (frz d h))=B0 N s.set by rw [e];exact U1 φ _ _
  have a:=fun d h=>(G8 (d:=d) (h:=h)).elim fun φ e=>show (s.marks.map zrw).map (fun r=>r.map (frz d h))=s.marks.map zrw by rw [e];exact W9 φ _
  simp only [List.map_cons,List.map_nil,D3o,B9I,D0K,A4e,c k s hm,g,cond_true,i,b,a]
theorem B8Q{N:Nat}{S:Nat→Nat}{M:Nat→Option Stt}{l:List Nat}(a: ∀k s,M k=some s→k∈l){k:Nat}{s:Stt}(h:M k=some s):A2.get (O6 (K7 N M) S l) (1000000000000+k) (S k)=some (.rows 1 (B0 N s.set)):=by
 rw [B5Z (a k s h)];simp only [K7,h]
theorem B8p{N:Nat}{code:List Ins}{a:Nat}: ∀(l:List Int) {M:Nat→Option Stt},M a=none→(l.map fun(b:Int)=>(a,b)).foldl (G6 N code) M=M
 | [],_,_=>rfl
 |b::l,M,h=>by
  have:G6 N code M (a,b)=M:=by simp only [G6,h]
  rw [List.map_cons,List.foldl_cons,this]
  exact B8p l h
end
section
open Go.Abs
attribute [local irreducible] A0 Run
-- EV: Ins.v, Ins.row
attribute [local go_sem] Ins.v Ins.row
theorem B4K{Q:Res}{k:List AItem}(N B st p q C:Nat)(f g:Nat→Bool)(X U o2 W T H O M F K:V)(P:Bool)(R:A2)(hN:N≤100000)(E:A2.del R (1000000000000+B)=R)(J:Nat)
  (A:Run ⟨Tryz.prog,114,[.t 2,.t 3],Z2 Q,none⟩ k ⟨[(9,T),(8,H),(7,O),(6,.bool (P||(List.range N).any fun r=>f r&& !g r)),(5,M),(4,F),(1,K)],(1000000000000+B,C,.rows 1 (B0 N fun r=>f r&&g r))::R,J⟩):
  Run ⟨Tryz.prog,114,[.t 2,.t 3],Z2 Q,none⟩ (.code (.loop A1m):: .blk 6::k) ⟨[(12,.int .i64 0),(11,.ptr (92*10000+11) q 0 0),(10,.ptr (92*10000+10) p 0 0),(9,T),(8,H),(7,O),(6,.bool P),(5,M),(4,F),(1,K)],
   ((92*10000+11),q,.rows 3 [[.sl (1000000000000+B) C 0 N,X,U]])::((92*10000+10),p,.rows 3 [[.sl (181*10000+3) st 0 N,o2,W]])::((181*10000+3),st,.rows 1 (B0 N g))::(1000000000000+B,C,.rows 1 (B0 N f))::R,J⟩:=by
 obtain⟨w,hB⟩: ∃w,w=1000000000000+B:=⟨_,rfl⟩
 have t: ∀k:Nat,k<1000000000000→(k=w)=False:=fun k h=>eq_false zd
 have j: ∀k:Nat,k<1000000000000→(w=k)=False:=fun k h=>eq_false zd
 rw [←hB]at E A⊢
 have Z:=D6 N g
 have Y:=H8 N g
 have ga: ∀r,r<N→(B0 N g)[r]? =some [.bool (g r)]:=fun r D=>H7 D
 generalize B0 N g=G at*
 refine Run.rounds (fun(x:Nat)=>⟨[(12,.int .i64 x),(11,.ptr (92*10000+11) q 0 0),(10,.ptr (92*10000+10) p 0 0),(9,T),(8,H),(7,O),(6,.bool (P||(List.range x).any fun r=>f r&& !g r)),(5,M),(4,F),(1,K)],
   (w,C,.rows 1 (B0 N fun r=>f r&&(g r||decide (x≤r))))::((92*10000+11),q,.rows 3 [[.sl w C 0 N,X,U]])::((92*10000+10),p,.rows 3 [[.sl (181*10000+3) st 0 N,o2,W]])::((181*10000+3),st,.rows 1 G)::R,J⟩)
  (fun x=>x≤N) (fun x=>N-x) 0 ?_ (Nat.zero_le _) ?_
 ·have:(B0 N fun r=>f r&&(g r||decide (0≤r)))=B0 N f:=E3 fun r D=>by simp
  rw [this]
  refine C1.of (by simp -implicitDefEqProofs only [go_sem,List.range_zero,List.any_nil,Bool.or_false]) (fun e l=> ?_) (Nat.le_refl _)
  simp only [List.mem_cons]at l⊢
  rcases l with h|h|h|h|h<;>simp only [h,eq_self,true_or,or_true]
 intro x hx ih
 refine Run.unf H2 ?_
 have n:=D6 N fun r=>f r&&(g r||decide (x≤r))
 have u:=H8 N fun r=>f r&&(g r||decide (x≤r))
 by_cases m:x<N
 ·have S:((x:Int)<(N:Int))=True:=Ji
  have I:((0:Int)≤(x:Int))=True:=Ji
  have i:=H7 (f:=fun r=>f r&&(g r||decide (x≤r))) m
  have o:=ga x m
  have L:decide (x≤x)=true:=by simp
  rw [L,Bool.or_true,Bool.and_true]at i
  have z:((List.range (x+1)).any fun r=>f r&& !g r)=(((List.range x).any fun r=>f r&& !g r)||(f x&& !g x)):=by simp [List.range_succ]
  have d:=U0 (N:=N) (r:=x) (b:=false) (f:=fun r=>f r&&(g r||decide (x≤r))) (fun r=>f r&&(g r||decide (x+1≤r)))
  have a:(f x&& !g x)=false→(B0 N fun r=>f r&&(g r||decide (x+1≤r)))=B0 N fun r=>f r&&(g r||decide (x≤r)):=fun h=>E3 fun r D=>by
   by_cases c:r=x
   ·subst c
    cases hf:f r<;>cases hg:g r<;>simp [hf,hg]at h⊢
   ·have:decide (x+1≤r)=decide (x≤r):=decide_eq_decide.2 zd
    rw [this]
  have d:=fun h:(f x&& !g x)=true=>d fun y hy=>by
   by_cases c:y=x
   ·subst c
    cases hf:f y<;>cases hg:g y<;>simp [hf,hg]at h⊢
   ·have:decide (x+1≤y)=decide (x≤y):=decide_eq_decide.2 zd
    rw [if_neg c,this]
  have v:((x+1:Nat):Int)=(x:Int)+1:=by omega
  have fin:=fun s=>ih s (x+1) zd zd
  clear ih
  simp only [z]at fin
  generalize (B0 N fun r=>f r&&(g r||decide (x≤r)))=es at*
  generalize ((List.range x).any fun r=>f r&& !g r)=an at*
  cases hf:f x with
  |false=>
   rw [hf]at i a fin
   have a:=a rfl
   rw [a]at fin
   refine Run.go 100 ?_
   simp -implicitDefEqProofs only [go_sem,S,I,n,u,i,m,E,t,j,Option.some.injEq,forall_eq']
   exact⟨⟨by omega,by omega⟩,fin _ (C1.of (by simp -implicitDefEqProofs only [go_sem,v,Bool.false_and,Bool.or_false]) (fun e l=>l) (Nat.le_refl _))⟩
  | true=>
   cases hg:g x with
   |true=>
    rw [hf]at i a fin
    rw [hg]at o a fin
    have a:=a rfl
    rw [a]at fin
    refine Run.go 100 ?_
    simp -implicitDefEqProofs only [go_sem,S,I,n,u,i,m,o,Z,Y,E,t,j,Option.some.injEq,forall_eq']
    exact⟨⟨by omega,by omega⟩,fin _ (C1.of (by simp -implicitDefEqProofs only [go_sem,v,Bool.not_true,Bool.and_false,Bool.or_false]) (fun e l=>l) (Nat.le_refl _))⟩
   | false=>
    rw [hf]at i d fin
    rw [hg]at o d fin
    have d:=d rfl
    refine Run.go 100 ?_
    simp -implicitDefEqProofs only [go_sem,S,I,n,u,i,m,o,Z,Y,E,t,j,d,Option.some.injEq,forall_eq']
    exact⟨⟨by omega,by omega⟩,fin _ (C1.of (by simp -implicitDefEqProofs only [go_sem,v,Bool.not_false,Bool.and_true,Bool.or_true]) (fun e l=>by
     simp only [List.mem_cons]at l⊢
     rcases l with h|h|h|h|h<;>simp only [h,eq_self,true_or,or_true]) (Nat.le_refl _))⟩
 ·have e:x=N:=by omega
  subst e
  have:(B0 x fun r=>f r&&(g r||decide (x≤r)))=B0 x fun r=>f r&&g r:=E3 fun r D=>by
   have:decide (x≤r)=false:=decide_eq_false zd
   rw [this,Bool.or_false]
  rw [this]
  refine Run.go 5 ?_
  simp -implicitDefEqProofs only [go_sem,Int.lt_irrefl,t,j]
  refine Run.wk (C1.wk ?_) A
  refine C1.of ze (fun e l=> ?_) (Nat.le_refl _)
  simp only [List.mem_cons]at l⊢
  rcases l with h|h<;>simp only [h,eq_self,true_or,or_true]
end
end Go.Proofs.YtcaaenddpjepiaaGreatDoor
