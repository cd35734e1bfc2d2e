/-
 The reference's verifier: 'violates', the whole. No condition.
-/
import Derived.Test.YtnihmhbcjpcobaaGreatDoorRvI
import Derived.Test.YtnihmhbcjpcobaaGreatDoorVerL
set_option linter.unusedVariables false
set_option linter.unusedSimpArgs false
set_option maxRecDepth 100000
set_option maxHeartbeats 0
namespace Go.Proofs.YtnihmhbcjpcobaaGreatDoor
open Go.Abs
attribute [local irreducible] A2 Run
-- EV: Ins.v, Ins.row
attribute [local go_sem] Ins.v Ins.row
theorem C0V(i:Ins)(l:List Int):l.any (fun r=>decide (i.op=17)||(decide (i.op=28)&&decide (i.a≤r)))=(decide (i.op=28)&&l.any (fun r=>decide (i.a≤r))||(decide (i.op=17)&&decide (0<l.length))):=by
 by_cases c1:i.op=17
 ·have c2: ¬i.op=28:=by omega
  simp only [c1,decide_true,Bool.true_or,Bool.true_and]
  cases l with
  |nil=>simp
  |cons x r=>simp
 ·by_cases c2:i.op=28
  ·simp [c1,c2]
  ·simp only [c1,c2,decide_false,Bool.false_and,Bool.or_false]
   induction l with
   |nil=>rfl
   |cons x r ih=>rw [List.any_cons,ih];rfl
theorem C5f{p:Fn}{M:Nat→Option Stt}{a:Nat}{s:Stt}(h:M a=some s):A0j p M a=
  ((L5 (D3 p.code a).op&&decide ((a:Int)=(p.code.length:Int)-1))||((!A0q (reads (D3 p.code a)).2 s.opn||((reads (D3 p.code a)).1.any (fun r=> !s.set r.toNat)||(A2B (reads (D3 p.code a)).2 s.opn).any fun r=> !s.set r.toNat))||
    ((B6a p (D3 p.code a)).any (fun r=> !s.set r.toNat)||(s.marks.any (fun r=>decide ((D3 p.code a).op=17)||(decide ((D3 p.code a).op=28)&&decide ((D3 p.code a).a≤r)))||(C7 p.code a).any (B5d p.code M a (D3 p.code a) s))))):=by
 have key: ∀v o a b u x y w:Bool,(v||(!(o&& !((a||b)||u))||(x||(y||w))))=(v||((!o||(a||b))||(u||((x||y)||w)))):=by decide
 unfold A0j
 simp only [h]
 rw [C0V,←key]
 unfold A4m A5S
 rw [List.any_append,List.any_append]
theorem B3B(p:Fn)(hs:Sound p)(hnx: ∀a:Nat,Pure Tryz.prog 37 [.agg p.row,.int .i64 a] (.isl ((C7 p.code a).map zrw)))
  (hS:W9 p.regs.toNat p.code p.params (I1 p)) (hml: ∀k s,I1 p k=some s→s.marks.length≤100000) (hop: ∀k s,I1 p k=some s→ -1≤s.opn) (a:Nat) (ha:a<p.code.length) (s:Stt) (hMa:I1 p a=some s):
  Pure Tryz.prog 23 [.agg p.row,.isl (rvL p.regs.toNat p.code.length (I1 p)),.int .i64 a] (.bool (A0j p (I1 p) a)):=by
 obtain⟨h1,h2⟩:=B5 p
 have hreg:=hs.regs
 have hcl:=hs.code
 have hc0:=hs.code0
 have hc5:p.row[5]? =some (.isl (p.code.map Ins.row)):=by rw [Fn.row_eq];rfl
 have l5:(p.code.map Ins.row).length=p.code.length:=List.length_map ..
 have z5:=A5U Ins.row 5 (fun _=>rfl) p.code
 obtain⟨hi,him⟩:=A1I ha
 have r5:(p.code.map Ins.row)[a]? =some (D3 p.code a).row:=by rw [List.getElem?_map,hi];rfl
 have q0:((a:Int)<(p.code.length:Int))=True:=eq_true (by omega)
 have q1:((0:Int)≤(a:Int))=True:=eq_true (by omega)
 have lL:=B9Y p.regs.toNat p.code.length (I1 p)
 have zL:=C3i p.regs.toNat p.code.length (I1 p)
 have hla:=(C3h (N:=p.regs.toNat) (M:=I1 p) ha).trans (show some (A9u p.regs.toNat (I1 p a))=some [.isl (A6 p.regs.toNat s.set),.int .i64 s.opn,.isl (s.marks.map zrw)] by rw [hMa];rfl)
 have hmz:=hml a s hMa
 have hsf:=K7 H0 p.regs.toNat s.set
 have hsm:=M5 H0 s.marks
 have hrd:=B5V p.regs.toNat (D3 p.code a) s (by omega) (fun r hr=>by have:=hs.reads _ him r hr;omega) (by have:=A8k (D3 p.code a);omega) (A5c (D3 p.code a)).2.1 (by have:=hS.opn hs.fit a s hMa;omega) (hop a s hMa)
 refine Pure.of 0 (A2.enterK T5 (Nat.le_of_ble_eq_true rfl) fun Q hQ=>Run.go 4 ?_)
 rw [C5f hMa]at hQ
 have key: ∀s7 s8 m,Run (A7R Q) [.code (C5 (C5 B9))] (A0u p.row (rvL p.regs.toNat p.code.length (I1 p)) (D3 p.code a) (A6 p.regs.toNat s.set) (s.marks.map zrw) s.opn a s7 s8 m):=fun s7 s8 m=>
  B7D h1 h2 hc5 l5 ⟨hc0,by omega⟩ hrd hsf hsm hQ fun m hQ=>C1t hs him hQ fun m hQ=>B7C (by omega) hQ fun m hQ=>B9h p hs hnx hS hml a ha s hMa s7 s8 m Q hQ
 clear hQ hrd
 unfold A0u at key
 generalize rvL p.regs.toNat p.code.length (I1 p)=RL at*
 generalize A6 p.regs.toNat s.set=FR at*
 generalize s.marks.map zrw=MR at*
 generalize p.code.map Ins.row=CR at*
 simp only [Ins.row]at r5
 generalize D3 p.code a=i at*
 generalize p.row=pr at*
 simp -implicitDefEqProofs only [go_sem,A4,h1,h2,hc5,l5,z5,r5,ha,q0,q1,lL,zL,hla,Option.some.injEq,forall_eq']
 repeat' refine And.intro ?_ ?_
 all_goals first
  |(refine Run.wk (B6.wk ?_) (key 1 2 3);simp -implicitDefEqProofs only [go_sem];done)
  |(refine Run.wk (B6.wk ?_) (key 2 1 3);simp -implicitDefEqProofs only [go_sem];done)
-- EV: Ins.v, Ins.row
attribute [local go_sem] Ins.v Ins.row
theorem W9.marksLe{N:Nat}{code:List Ins}{params:Int}{M:Nat→Option Stt}(hc:0<code.length)(h:W9 N code params M): ∀k s,M k=some s→s.marks.length≤code.length:=by
 obtain⟨L,hL⟩: ∃L,Kn N code.length L M:=h.ind (P:=fun M=> ∃L,Kn N code.length L M) ⟨[0],Kn.zero hc⟩ fun M e he ⟨L,hL⟩=>by
  obtain⟨h1,h2,h3,h4⟩:=A7h he
  unfold D7
  cases hs:M e.1 with
  |none=>exact⟨L,hL⟩
  | some s=>
   simp only
   cases ht:M e.2.toNat with
   |none=>
    refine⟨L++ [e.2.toNat],hL.new ht (by omega) (fun r hr=>A8i hr) ?_⟩
    rw [j6]
    have:=A7i (D3 code e.1) s.marks
    have:=hL.ml _ _ hs
    omega
   |some t=>exact⟨L,hL.join ht⟩
 intro k s hk
 have:=hL.ml k s hk
 have:=hL.len
 omega
theorem W9.opnGe{N:Nat}{code:List Ins}{params:Int}{M:Nat→Option Stt}(h:W9 N code params M): ∀k s,M k=some s→ -1≤s.opn:=by
 refine h.ind (P:=fun M=> ∀k s,M k=some s→ -1≤s.opn) ?_ ?_
 ·intro k s hs
  unfold M0 at hs
  split at hs
  ·injection hs with hs;subst hs;simp only [A1G];omega
  ·cases hs
 ·intro M e he hP k s hs
  rcases A2a hs with h|⟨o,ho,_,_,rfl⟩|⟨o,t,ho,_,ht,rfl⟩
  ·exact hP k s h
  ·rw [A4M];exact(A2R _).2.1
  ·exact hP k t ht
theorem C4M(N n:Nat)(M:Nat→Option Stt):(rvL N n M).map (fun r=>r.map (V.sub H0))=rvL N n M:=by
 unfold rvL
 rw [List.map_map]
 refine List.map_congr_left fun k _=> ?_
 simp only [Function.comp]
 unfold A9u
 cases M k with
 |none=>simp [V.sub,N7]
 |some s=>simp only [List.map_cons,List.map_nil,V.sub,N7,K7,M5]
theorem C3f(p:Fn)(hc:p.code.length≤100000)(a:Int):Pure Tryz.prog 37 [.agg p.row,.int .i64 a] (.isl ((C7 p.code a).map zrw)):=by
 rw [Fn.row_eq]
 exact B8X p.code a hc _ _ _ _ _ _ _ _ _ _
theorem B7w(p:Fn)(hs:Sound p):Pure Tryz.prog 13 [.agg p.row] (.int .i64 (G9 p)):=by
 obtain⟨h1,h2⟩:=B5 p
 have hr:=hs.regs
 have hp:=hs.params
 have hcl:=hs.code
 have hS:W9 p.regs.toNat p.code p.params (I1 p):=C7V hs.code0
 have hml:=hS.marksLe hs.code0
 have hnx:=fun(a:Nat)=>C3f p (by omega) a
 have hps:=Fn.row_sub H0 p
 have hR:=B7x p.regs.toNat p.code p.params p.row h1 h2 (by rw [Fn.row_eq];rfl) (by rw [Int.toNat_of_nonneg hr.1,Fn.row_eq];rfl) (by rw [Fn.row_eq];rfl) hps (fun d h=>(D8 (d:=d) (h:=h)).elim fun φ e=>by rw [e];exact Fn.row_sub φ p) hnx (by omega) hs.code0 (by omega) hp.1 (by omega) hs.fit
 have hV:=fun a ha s hMa=>B3B p hs hnx hS (fun k s h=>by have:=hml k s h;omega) hS.opnGe a ha s hMa
 have hF:=fun k hk h hno=>B0X (p:=p) (k:=k) hk h hno
 have hF0:=A7l (p:=p)
 have hv0: ∀k,I1 p k=none→A0j p (I1 p) k=false:=fun k h=>by unfold A0j;rw [h]
 have h5:p.row[5]? =some (.isl (p.code.map Ins.row)):=by rw [Fn.row_eq];rfl
 have l5:(p.code.map Ins.row).length=p.code.length:=List.length_map ..
 have hls:=C4M p.regs.toNat p.code.length (I1 p)
 have lb:=C2 p.code.length fun k=>(I1 p k).isSome
 have zb:=E6 p.code.length fun k=>(I1 p k).isSome
 have hba:=fun k (hk:k<p.code.length)=>E5 (f:=fun k=>(I1 p k).isSome) hk
 change Pure _ _ _ (.tup [.isl (rvL p.regs.toNat p.code.length (I1 p)),.isl (A6 p.code.length fun k=>(I1 p k).isSome)])at hR
 generalize G9 p=fF at*
 generalize A0j p (I1 p)=vF at*
 generalize p.code.map Ins.row=CR at*
 generalize rvL p.regs.toNat p.code.length (I1 p)=RL at*
 generalize (A6 p.code.length fun k=>(I1 p k).isSome)=BR at*
 generalize p.row=pr at*
 refine Pure.of 0 (A2.enter A0b (Nat.le_of_ble_eq_true rfl) (Run.go 100 ?_))
 simp -implicitDefEqProofs only [go_sem,A4,h1,h2]
 refine A2.pureF hR (by simp -implicitDefEqProofs only [go_sem,hps]) ?_
 simp -implicitDefEqProofs only [go_sem]
 refine Run.keep [5,4,3,1] ?_
 refine Run.rounds (fun(k:Nat)=>⟨[(5,.int .i64 k),(4,.isl BR),(3,.isl RL),(1,.ptr (13*10000+1) 0 0 0)],[((13*10000+1),0,.rows 11 [pr])],1⟩)
  (fun k=>k≤p.code.length∧ ∀j,j<k→vF j=false) (fun k=>p.code.length-k) 0 (by simp -implicitDefEqProofs only [go_sem]) ⟨Nat.zero_le _,fun j hj=>absurd hj (Nat.not_lt_zero _)⟩ ?_
 rintro k ⟨hk,hno⟩ ih
 refine Run.unf A3q (Run.go 100 ?_)
 by_cases hlt:k<p.code.length
 ·have q0:((k:Int)<(p.code.length:Int))=True:=eq_true (by omega)
  have q1:((0:Int)≤(k:Int))=True:=eq_true (by omega)
  have hzk:((k+1:Nat):Int)=(k:Int)+1:=by omega
  have hat:=hba k hlt
  have next:vF k=false→ ∀j,j<k+1→vF j=false:=fun h j hj=>by
   by_cases c:j=k
   ·subst c;exact h
   ·exact hno j (by omega)
  cases hm:I1 p k with
  |none=>
   rw [hm]at hat
   simp -implicitDefEqProofs only [go_sem,h1,h2,h5,l5,q0,q1,lb,zb,hat,hlt,Option.isSome_none,Option.some.injEq,forall_eq']
   exact⟨⟨by omega,by omega⟩,ih _ (k+1) ⟨by omega,next (hv0 k hm)⟩ (by omega) (by simp -implicitDefEqProofs only [go_sem,hzk])⟩
  | some s=>
   rw [hm]at hat
   have hVk:=hV k hlt s hm
   simp -implicitDefEqProofs only [go_sem,h1,h2,h5,l5,q0,q1,lb,zb,hat,hlt,Option.isSome_some,Option.some.injEq,forall_eq']
   refine A2.pureF hVk (by simp -implicitDefEqProofs only [go_sem,hps,hls]) ?_
   cases hv:vF k with
   |true=>
    simp -implicitDefEqProofs only [go_sem,hF k hlt hv hno]
   |false=>
    simp -implicitDefEqProofs only [go_sem]
    exact⟨⟨by omega,by omega⟩,ih _ (k+1) ⟨by omega,next hv⟩ (by omega) (by simp -implicitDefEqProofs only [go_sem,hzk])⟩
 ·have e:k=p.code.length:=by omega
  subst e
  have hf:fF= -1:=hF0.2 hno
  simp -implicitDefEqProofs only [go_sem,h1,h2,h5,l5,Int.lt_irrefl,hf]
end Go.Proofs.YtnihmhbcjpcobaaGreatDoor
