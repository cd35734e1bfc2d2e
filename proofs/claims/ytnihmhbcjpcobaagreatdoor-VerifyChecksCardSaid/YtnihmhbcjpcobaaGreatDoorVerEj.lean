/-
 The rounds come to an end; what is reached. No condition.
-/
import Derived.Test.YtnihmhbcjpcobaaGreatDoorVerP3
set_option linter.unusedVariables false
set_option linter.unusedSimpArgs false
set_option maxRecDepth 100000
set_option maxHeartbeats 0
namespace Go.Proofs.YtnihmhbcjpcobaaGreatDoor
open Go.Abs
def InM(N n:Nat)(M:Nat→Option Stt):Prop:= ∀k s,M k=some s→k<n∧ ∀r,N≤r→s.set r=false
theorem InM.step{N:Nat}{code:List Ins}{M:Nat→Option Stt}{e:Nat×Int}(he:e∈D1 code)(h:InM N code.length M):InM N code.length (D7 N code M e):=by
 obtain⟨_,_,h0,h1⟩:=A7h he
 intro k s hs
 rcases A2a hs with g|⟨o,ho,hk,_,rfl⟩|⟨o,t,ho,hk,ht,rfl⟩
 ·exact h k s g
 ·exact⟨by omega,fun r hr=>A8i hr⟩
 ·exact⟨by omega,fun r hr=>by simp only [G3,(h k t ht).2 r hr,Bool.false_and]⟩
theorem InM.less{N:Nat}{code:List Ins}{M:Nat→Option Stt}{e:Nat×Int}(he:e∈D1 code)(h:InM N code.length M):D7 N code M e=M∨mu N code.length (D7 N code M e)<mu N code.length M:=by
 obtain⟨_,_,h0,h1⟩:=A7h he
 have hb:e.2.toNat<code.length:=by omega
 cases ha:M e.1 with
 |none=>left;simp only [D7,ha]
 | some o=>
  cases hm:M e.2.toNat with
  |none=>right;simp only [D7,ha,hm];exact B8K hb hm
  | some t=>
   simp only [D7,ha,hm]
   generalize B4 N (D3 code e.1) e.1 e.2 o=u
   cases hc:(List.range N).any (fun r=>t.set r&& !u.set r)with
   |false=>
    left
    rw [B2Y (N:=N) (fun r hr ht=> ?_) (h _ t hm).2,B1u hm]
    have:=List.any_eq_false.1 hc r (List.mem_range.2 hr)
    cases hu:u.set r with
    |true=>rfl
    |false=>simp [ht,hu]at this
   |true=>
    right
    obtain⟨r,hr,h2⟩:=List.any_eq_true.1 hc
    rw [Bool.and_eq_true]at h2
    exact B9R hb hm (List.mem_range.1 hr) h2.1 (by simpa using h2.2)
theorem InM.fold{N:Nat}{code:List Ins}: ∀(l:List (Nat×Int)),(∀e∈l,e∈D1 code)→ ∀M,InM N code.length M→(l.foldl (D7 N code) M=M∨mu N code.length (l.foldl (D7 N code) M)<mu N code.length M)∧InM N code.length (l.foldl (D7 N code) M)
 | [],_,M,h=>⟨.inl rfl,h⟩
 |e::l,hl,M,h=>by
  have h1:=h.less (hl e List.mem_cons_self)
  have h2:=InM.fold l (fun x hx=>hl x (List.mem_cons_of_mem _ hx)) _ (h.step (hl e List.mem_cons_self))
  rw [List.foldl_cons]
  refine⟨?_,h2.2⟩
  rcases h1 with h1|h1<;>rcases h2.1 with h3|h3
  ·left;rw [h1]at h3⊢;exact h3
  ·right;rw [h1]at h3⊢;exact h3
  ·right;rw [h3];exact h1
  ·right;omega
theorem C2G{N:Nat}{code:List Ins}{params:Int}(hc:0<code.length): ∀(m k:Nat),mu N code.length (A1k N code params k)≤m→InM N code.length (A1k N code params k)→ ∃M,W9 N code params M:=by
 intro m
 induction m with
 |zero=>
  intro k hk hi
  have:=(InM.fold _ (fun _ h=>h) _ hi).1
  rcases this with h|h
  ·exact⟨_,k,rfl,h⟩
  ·omega
 |succ m ih=>
  intro k hk hi
  have h2:=InM.fold _ (fun _ h=>h) _ hi
  rcases h2.1 with h|h
  ·exact⟨_,k,rfl,h⟩
  ·exact ih (k+1) (by show mu N code.length (i6 N code (A1k N code params k))≤m;have h:mu N code.length (i6 N code (A1k N code params k))<mu N code.length (A1k N code params k):=h;omega) h2.2
theorem C7V{N:Nat}{code:List Ins}{params:Int}(hc:0<code.length):W9 N code params (stM N code params):=by
 obtain⟨M,hM⟩:=C2G (N:=N) (params:=params) hc _ 0 (Nat.le_refl _) (fun k s hs=>by
  simp only [A1k,M0]at hs
  split at hs
  ·rename_i hk
   injection hs with hs
   subst hs
   refine⟨by omega,fun r hr=> ?_⟩
   have: ¬r<N:=by omega
   simp [A1G,this]
  ·cases hs)
 exact B3G hM ▸ hM
theorem InM.still{N:Nat}{code:List Ins}: ∀(l:List (Nat×Int)),(∀e∈l,e∈D1 code)→ ∀M,InM N code.length M→l.foldl (D7 N code) M=M→ ∀e∈l,D7 N code M e=M
 | [],_,_,_,_,_,h=>by cases h
 | e::l,hl,M,h,hf,x,hx=>by
  have h1:=h.less (hl e List.mem_cons_self)
  have h2:=InM.fold l (fun x hx=>hl x (List.mem_cons_of_mem _ hx)) _ (h.step (hl e List.mem_cons_self))
  rw [List.foldl_cons]at hf
  have he:D7 N code M e=M:=by
   rcases h1 with h1|h1
   ·exact h1
   ·rcases h2.1 with h3|h3
    ·rw [hf]at h3;exact h3.symm
    ·rw [hf]at h3;omega
  rw [he]at hf
  rcases List.mem_cons.1 hx with rfl|hx
  ·exact he
  ·exact InM.still l (fun x hx=>hl x (List.mem_cons_of_mem _ hx)) M h hf x hx
theorem W9.first{N:Nat}{code:List Ins}{params:Int}{M:Nat→Option Stt}(h:W9 N code params M): ∃s,M 0=some s∧ ∀r:Nat,s.set r=true→(r:Int)<params:=by
 refine h.ind (P:=fun M=> ∃s,M 0=some s∧ ∀r:Nat,s.set r=true→(r:Int)<params) ⟨A1G N params,rfl,fun r hr=>by simp [A1G]at hr;exact hr.2⟩ ?_
 rintro M e he ⟨o,ho,hm⟩
 have:=A9y (N:=N) (code:=code) (e:=e) (show (M 0).isSome=true by rw [ho];rfl)
 obtain⟨s,hs⟩:=Option.isSome_iff_exists.1 this
 refine⟨s,hs,?_⟩
 rcases A2a hs with h|⟨o2,_,_,hn,rfl⟩|⟨o2,t,_,_,ht,rfl⟩
 ·rw [ho]at h;injection h with h;rw [←h];exact hm
 ·rw [ho]at hn;cases hn
 ·rw [ho]at ht;injection ht with ht
  intro r hr
  simp only [G3,Bool.and_eq_true]at hr
  exact hm r (ht ▸ hr.1)
theorem W9.path{N:Nat}{code:List Ins}{params:Int}{M:Nat→Option Stt}(h:W9 N code params M){a:Nat}(hp:Path code a):a<code.length∧ ∃s,M a=some s:=by
 induction hp with
 |zero h0=>
  obtain⟨o,ho,_⟩:=h.zero
  exact⟨h0,o,ho⟩
 |step hi hj ih=>
  obtain⟨hl,s,hs⟩:=ih
  obtain⟨o,ho⟩:=h.next hl hs hj
  rw [Int.toNat_natCast]at ho
  have:=A4C hj
  exact⟨by omega,o,ho⟩
end Go.Proofs.YtnihmhbcjpcobaaGreatDoor
