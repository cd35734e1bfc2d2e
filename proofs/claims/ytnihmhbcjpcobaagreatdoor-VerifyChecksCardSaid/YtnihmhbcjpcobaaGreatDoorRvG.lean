/-
 The reference's verifier: which instructions violate an invariant. No condition.
-/
import Derived.Test.YtnihmhbcjpcobaaGreatDoorRvF
set_option linter.unusedVariables false
set_option linter.unusedSimpArgs false
set_option maxRecDepth 100000
set_option maxHeartbeats 0
namespace Go.Proofs.YtnihmhbcjpcobaaGreatDoor
open Go.Abs
attribute [local irreducible] A2 Run
-- EV: Ins.v, Ins.row
attribute [local go_sem] Ins.v Ins.row
@[reducible] noncomputable def A7R (Q:Res):Cf:=⟨Tryz.prog,142,[.t 6],A3E Q,none⟩
def A0u(pr:List V)(RL:List (List V))(i:Ins)(FR MR:List (List V))(o:Int)(a s7 s8 n:Nat):St:=
 ⟨[(8,.ptr (23*10000+8) s8 0 0),(7,.ptr (23*10000+7) s7 0 0),(3,.ptr (23*10000+3) 0 0 0),(2,.int .i64 a),(1,.isl RL)],
  [((23*10000+8),s8,.rows 5 [[.int .i64 i.op,.int .i64 i.a,.int .i64 i.b,.int .i64 i.c,.int .i64 i.d]]),((23*10000+7),s7,.rows 3 [[.isl FR,.int .i64 o,.isl MR]]),((23*10000+3),0,.rows 11 [pr])],n⟩
theorem B9Y(N n:Nat)(M:Nat→Option Stt):(rvL N n M).length=n:=by simp [rvL]
theorem C3i(N n:Nat)(M:Nat→Option Stt):C4 (rvL N n M) 3=True:=eq_true fun r hr=>by obtain⟨k,_,rfl⟩:=List.mem_map.1 hr;unfold A9u;cases M k<;>rfl
theorem C3h{N n k:Nat}{M:Nat→Option Stt}(h:k<n):(rvL N n M)[k]? =some (A9u N (M k)):=by simp [rvL,h]
theorem B9h(p:Fn)(hs:Sound p)(hnx: ∀a:Nat,Pure Tryz.prog 37 [.agg p.row,.int .i64 a] (.isl ((C7 p.code a).map zrw)))
  (hS:W9 p.regs.toNat p.code p.params (I1 p)) (hml: ∀k s,I1 p k=some s→s.marks.length≤100000) (a:Nat) (ha:a<p.code.length) (s:Stt) (hMa:I1 p a=some s) (s7 s8 m:Nat) (Q:Res)
  (hQ:Q=fun r h _=>frz 0 h r= .bool ((C7 p.code a).any (B5d p.code (I1 p) a (D3 p.code a) s))):
  Run (A7R Q) [.code (C5 (C5 (C5 (C5 (C5 B9)))))] (A0u p.row (rvL p.regs.toNat p.code.length (I1 p)) (D3 p.code a) (A6 p.regs.toNat s.set) (s.marks.map zrw) s.opn a s7 s8 m):=by
 unfold A0u
 obtain⟨h1,h2⟩:=B5 p
 have hreg:=hs.regs
 have hcl:=hs.code
 have hc5:p.row[5]? =some (.isl (p.code.map Ins.row)):=by rw [Fn.row_eq];rfl
 have l5:(p.code.map Ins.row).length=p.code.length:=List.length_map ..
 have z5:=A5U Ins.row 5 (fun _=>rfl) p.code
 have r5: ∀(k:Nat) x,p.code[k]? =some x→(p.code.map Ins.row)[k]? =some (Ins.row x):=fun k x hk=>by rw [List.getElem?_map,hk];rfl
 obtain⟨hi,him⟩:=A1I ha
 have hps:=Fn.row_sub H0 p
 have hpl:=fun(b:Int) n=>B0z p.regs.toNat p.code p.row h1 h2 hc5 hps a _ hi (hnx a) b (by omega) s (by omega) (hs.fit _ him) (by have:=hml a s hMa;omega) n
 have hin:=fun x (hx:x∈C7 p.code a)=>A4C hx
 have hnl2:=A3a p.code a
 have hto:=fun t (ht:t∈C7 p.code a)=>hS.next ha hMa ht
 have hla:=fun(B:Nat) o (hB:B<p.code.length) (h:I1 p B=some o)=>(C3h (N:=p.regs.toNat) (M:=I1 p) hB).trans (show some (A9u p.regs.toNat (I1 p B))=some [.isl (A6 p.regs.toNat o.set),.int .i64 o.opn,.isl (o.marks.map zrw)] by rw [h];rfl)
 have lL:=B9Y p.regs.toNat p.code.length (I1 p)
 have zL:=C3i p.regs.toNat p.code.length (I1 p)
 have hnxa:=hnx a
 have hinr: ∀B:Nat,B<p.code.length→(p.code.map Ins.row)[B]? =some (D3 p.code B).row:=fun B h=>r5 B _ (A1I h).1
 generalize rvL p.regs.toNat p.code.length (I1 p)=RL at*
 generalize hbE:B5d p.code (I1 p) a (D3 p.code a) s=bE at*
 generalize hii:D3 p.code a=i at*
 generalize hCR:p.code.map Ins.row=CR at*
 generalize hpr:p.row=pr at*
 have hmz:=hml a s hMa
 obtain⟨f,o,mk⟩:=s
 simp only at hpl hmz⊢
 have hlmk:((F1 i mk).map zrw).length=(F1 i mk).length:=List.length_map ..
 have htmk:((F1 i mk).map zrw).take (F1 i mk).length=(F1 i mk).map zrw:=List.take_of_length_le (by omega)
 have hsm:=fun d h=>(D8 (d:=d) (h:=h)).elim fun φ e=>show ((F1 i mk).map zrw).map (fun r=>r.map (frz d h))=(F1 i mk).map zrw by rw [e];exact M5 φ _
 have hef:=A7i i mk
 generalize hnl:C7 p.code a=nl at*
 have hnls: ∀(k:Nat) (x:Int),nl[k]? =some x→(nl.map zrw)[k]? =some [.int .i64 x]:=fun k x h=>W8 h
 have hnll:(nl.map zrw).length=nl.length:=List.length_map ..
 have hnlz:=F7 nl
 generalize nl.map zrw=nls at*
 refine Run.go 100 ?_
 simp -implicitDefEqProofs only [go_sem,C5,h1,h2]
 refine A2.pureF hnxa (by simp -implicitDefEqProofs only [go_sem,hps]) ?_
 simp -implicitDefEqProofs only [go_sem]
 refine Run.keep [13,12,8,7,3,2,1] ?_
 refine Run.roundsK (fun(x:Nat×Nat)=>⟨[(13,.int .i64 x.1),(12,.isl nls),(8,.ptr (23*10000+8) s8 0 0),(7,.ptr (23*10000+7) s7 0 0),(3,.ptr (23*10000+3) 0 0 0),(2,.int .i64 a),(1,.isl RL)],
   [((23*10000+8),s8,.rows 5 [[.int .i64 i.op,.int .i64 i.a,.int .i64 i.b,.int .i64 i.c,.int .i64 i.d]]),((23*10000+7),s7,.rows 3 [[.isl (A6 p.regs.toNat f),.int .i64 o,.isl (mk.map zrw)]]),((23*10000+3),0,.rows 11 [pr])],x.2⟩)
  (fun x=>x.1≤nl.length∧(nl.take x.1).any bE=false) (fun x=>nl.length-x.1) (0,m) (B6.wk (B6.of (by simp -implicitDefEqProofs only [go_sem]) (fun e he=>he) (Nat.le_refl _))) ⟨Nat.zero_le _,rfl⟩ ?_
 rintro⟨k,m2⟩ ⟨hk,hno⟩ ih
 simp only at hk hno ih⊢
 refine Run.unf A1Z (Run.go 100 ?_)
 by_cases hlt:k<nl.length
 case neg=>
  have e:k=nl.length:=by omega
  subst e
  simp -implicitDefEqProofs only [go_sem,hnll,Int.lt_irrefl]
  rw [F6 hno]at hQ
  subst hQ
  exact .is rfl
 have w0:((k:Int)<(nl.length:Int))=True:=eq_true (by omega)
 have w1:((0:Int)≤(k:Int))=True:=eq_true (by omega)
 obtain⟨t,ht⟩: ∃x,nl[k]? =some x:=⟨nl[k],by simp [hlt]⟩
 have htr:=hnls k t ht
 have hzk:((k+1:Nat):Int)=(k:Int)+1:=by omega
 obtain⟨ht0,htn⟩:=hin t (List.mem_of_getElem? ht)
 obtain⟨q,hq⟩:=hto t (List.mem_of_getElem? ht)
 obtain⟨B,rfl⟩: ∃B:Nat,t=B:=⟨t.toNat,by omega⟩
 rw [Int.toNat_natCast]at hq
 have hBn:B<p.code.length:=by omega
 have u0:((B:Int)<(p.code.length:Int))=True:=eq_true (by omega)
 have u1:((0:Int)≤(B:Int))=True:=eq_true (by omega)
 have hlo:=hla B q hBn hq
 have hiB:=hinr B hBn
 have hbv:bE (B:Int)=(decide ((B7 i).2≠q.opn)||(!decide (F1 i mk=q.marks)||(decide ((B:Int)≤(a:Int))&&decide ((D3 p.code B).op≠29)))):=by
  rw [←hbE];unfold B5d;simp only [Int.toNat_natCast,hq]
 have hcal:=hpl (B:Int)
 have hal: ∀S,Pure Tryz.prog 41 [.agg [.isl S,.int .i64 (B7 i).2,.isl ((F1 i mk).map zrw)],.agg [.isl (A6 p.regs.toNat q.set),.int .i64 q.opn,.isl (q.marks.map zrw)]] (.bool (decide ((B7 i).2=q.opn)&&decide (F1 i mk=q.marks))):=fun S=>B7o S _ _ _ _ _ (by omega)
 have lps:=C2 p.regs.toNat (B4 p.regs.toNat i a (B:Int) ⟨f,o,mk⟩).set
 have hsp:=fun d h=>(D8 (d:=d) (h:=h)).elim fun φ e=>show (A6 p.regs.toNat (B4 p.regs.toNat i a (B:Int) ⟨f,o,mk⟩).set).map (fun r=>r.map (frz d h))=A6 p.regs.toNat (B4 p.regs.toNat i a (B:Int) ⟨f,o,mk⟩).set by rw [e];exact K7 φ _ _
 have hsq:=fun d h=>(D8 (d:=d) (h:=h)).elim fun φ e=>show (A6 p.regs.toNat q.set).map (fun r=>r.map (frz d h))=A6 p.regs.toNat q.set by rw [e];exact K7 φ _ _
 have hsqm:=fun d h=>(D8 (d:=d) (h:=h)).elim fun φ e=>show (q.marks.map zrw).map (fun r=>r.map (frz d h))=q.marks.map zrw by rw [e];exact M5 φ _
 generalize A6 p.regs.toNat (B4 p.regs.toNat i a (B:Int) ⟨f,o,mk⟩).set=PS at*
 have htps:PS.take p.regs.toNat=PS:=List.take_of_length_le (by omega)
 generalize A6 p.regs.toNat q.set=QS at*
 generalize D3 p.code B=ib at*
 simp only [Ins.row]at hiB
 simp -implicitDefEqProofs only [go_sem,w0,w1,hnll,hnlz,htr,hlt,h1,h2,u0,u1,hBn,lL,zL,hlo,Option.some.injEq,forall_eq']
 repeat' refine And.intro ?_ ?_
 all_goals
  refine A2.at [] [0,1,2] (hcal _) rfl rfl ?_
  rintro r h' n3 hn3 ⟨st,st2,rfl,rfl⟩
  simp -implicitDefEqProofs only [go_sem,w0,w1,hnll,hnlz,htr,hlt,h1,h2,u0,u1,hBn,lL,zL,hlo,Option.some.injEq,forall_eq']
  refine A2.view (hal PS) 1 (by simp -implicitDefEqProofs only [go_sem,lps,hlmk,htps,htmk,hsp,hsm,hsq,hsqm]) rfl ?_
  cases hb0:(decide ((B7 i).2=q.opn)&&decide (F1 i mk=q.marks))with
  | false=>
   have hb:bE (B:Int)=true:=by
    rw [hbv]
    by_cases e1:(B7 i).2=q.opn
    ·have e2: ¬F1 i mk=q.marks:=fun e2=>by simp [e1,e2]at hb0
     simp [e2]
    ·simp [e1]
   simp -implicitDefEqProofs only [go_sem]
   rw [H6 ht hb]at hQ
   subst hQ
   exact .is rfl
  | true=>
   rw [Bool.and_eq_true]at hb0
   have e1:=of_decide_eq_true hb0.1
   have e2:=of_decide_eq_true hb0.2
   by_cases e4:(B:Int)≤(a:Int)
   ·by_cases e5:ib.op=29
    ·have hb:bE (B:Int)=false:=by rw [hbv];simp [e1,e2,e5]
     simp -implicitDefEqProofs only [go_sem,hnll,hnlz,htr,hlt,e4,e5,h1,h2,hc5,l5,z5,hBn,hiB,w0,w1,u0,u1,Option.some.injEq,forall_eq']
     exact⟨⟨by omega,by omega⟩,ih _ (k+1,n3) ⟨by simp only;omega,D0 hno ht hb⟩ (by simp only;omega) (B6.wk (B6.of (by simp -implicitDefEqProofs only [go_sem,hzk]) (fun e he=>by
      simp only [List.mem_cons]at he⊢
      rcases he with h|h|h|h<;>simp only [h,eq_self,true_or,or_true]) (Nat.le_refl _)))⟩
    ·have hb:bE (B:Int)=true:=by rw [hbv];simp [e4,e5]
     simp -implicitDefEqProofs only [go_sem,hnll,hnlz,htr,hlt,e4,e5,h1,h2,hc5,l5,z5,hBn,hiB,w0,w1,u0,u1,Option.some.injEq,forall_eq']
     rw [H6 ht hb]at hQ
     subst hQ
     exact .is rfl
   ·have hb:bE (B:Int)=false:=by rw [hbv];simp [e1,e2,e4]
    simp -implicitDefEqProofs only [go_sem,hnll,hnlz,htr,hlt,e4,w0,w1,Option.some.injEq,forall_eq']
    exact⟨⟨by omega,by omega⟩,ih _ (k+1,n3) ⟨by simp only;omega,D0 hno ht hb⟩ (by simp only;omega) (B6.wk (B6.of (by simp -implicitDefEqProofs only [go_sem,hzk]) (fun e he=>by
     simp only [List.mem_cons]at he⊢
     rcases he with h|h|h|h<;>simp only [h,eq_self,true_or,or_true]) (Nat.le_refl _)))⟩
end Go.Proofs.YtnihmhbcjpcobaaGreatDoor
