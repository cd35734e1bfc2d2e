/-
 The reference's verifier: which instructions violate an invariant. No condition.
-/
import Derived.Test.YtcaaenddpjepiaaGreatDoorRvF
import Derived.Test.YtcaaenddpjepiaaGreatDoorVerB
set_option linter.unusedVariables false
set_option linter.unusedSimpArgs false
set_option maxRecDepth 100000
set_option maxHeartbeats 0
namespace Go.Proofs.YtcaaenddpjepiaaGreatDoor
section
open Go.Abs
attribute [local irreducible] A0 Run
-- EV: Ins.v, Ins.row
attribute [local go_sem] Ins.v Ins.row
@[reducible] noncomputable def B0s (Q:Res):Cf:=⟨Tryz.prog,142,[.t 6],Z2 Q,none⟩
def A2H(pr:List V)(RL:List (List V))(i:Ins)(FR MR:List (List V))(o:Int)(a s7 s8 n:Nat):St:=
 ⟨[(8,.ptr (93*10000+8) s8 0 0),(7,.ptr (93*10000+7) s7 0 0),(3,.ptr (93*10000+3) 0 0 0),(2,.int .i64 a),(1,.isl RL)],
  [((93*10000+8),s8,.rows 5 [[.int .i64 i.op,.int .i64 i.a,.int .i64 i.b,.int .i64 i.c,.int .i64 i.d]]),((93*10000+7),s7,.rows 3 [[.isl FR,.int .i64 o,.isl MR]]),((93*10000+3),0,.rows 11 [pr])],n⟩
theorem C5w(N n:Nat)(M:Nat→Option Stt):(rvL N n M).length=n:=by simp [rvL]
theorem C9F(N n:Nat)(M:Nat→Option Stt):C4 (rvL N n M) 3=True:=eq_true fun r h=>by obtain⟨k,_,rfl⟩:=List.mem_map.1 h;unfold B1U;cases M k<;>rfl
theorem C9E{N n k:Nat}{M:Nat→Option Stt}(h:k<n):(rvL N n M)[k]? =some (B1U N (M k)):=by simp [rvL,h]
theorem C4p(p:Fn)(hs:Sound p)(W: ∀a:Nat,Pure Tryz.prog 74 [.agg p.row,.int .i64 a] (.isl ((C5 p.code a).map zrw)))
  (hS:A0T p.regs.toNat p.code p.params (P8 p)) (U: ∀k s,P8 p k=some s→s.marks.length≤100000) (a:Nat) (ha:a<p.code.length) (s:Stt) (E:P8 p a=some s) (s7 s8 m:Nat) (Q:Res)
  (H:Q=fun r h _=>frz 0 h r= .bool ((C5 p.code a).any (B9k p.code (P8 p) a (G5 p.code a) s))):
  Run (B0s Q) [.code (E0 (E0 (E0 (E0 (E0 D5)))))] (A2H p.row (rvL p.regs.toNat p.code.length (P8 p)) (G5 p.code a) (B0 p.regs.toNat s.set) (s.marks.map zrw) s.opn a s7 s8 m):=by
 unfold A2H
 obtain⟨J,I⟩:=B4 p
 have hreg:=hs.regs
 have hcl:=hs.code
 have F:p.row[5]? =some (.isl (p.code.map Ins.row)):=by rw [Fn.row_eq];rfl
 have l5:(p.code.map Ins.row).length=p.code.length:=List.length_map ..
 have z5:=A8v Ins.row 5 (fun _=>rfl) p.code
 have r5: ∀(k:Nat) x,p.code[k]? =some x→(p.code.map Ins.row)[k]? =some (Ins.row x):=fun k x hk=>by rw [List.getElem?_map,hk];rfl
 obtain⟨hi,him⟩:=A3D ha
 have O:=Fn.row_sub C7 p
 have hpl:=fun(b:Int) n=>B3c p.regs.toNat p.code p.row J I F O a _ hi (W a) b zd s zd (hs.fit _ him) (by have:=U a s E;omega) n
 have hin:=fun x (hx:x∈C5 p.code a)=>i2 hx
 have hnl2:=R5 p.code a
 have hto:=fun t (z:t∈C5 p.code a)=>hS.next ha E z
 have hla:=fun(B:Nat) o (hB:B<p.code.length) (h:P8 p B=some o)=>(C9E (N:=p.regs.toNat) (M:=P8 p) hB).trans (show some (B1U p.regs.toNat (P8 p B))=some [.isl (B0 p.regs.toNat o.set),.int .i64 o.opn,.isl (o.marks.map zrw)] by rw [h];rfl)
 have lL:=C5w p.regs.toNat p.code.length (P8 p)
 have zL:=C9F p.regs.toNat p.code.length (P8 p)
 have X:=W a
 have T: ∀B:Nat,B<p.code.length→(p.code.map Ins.row)[B]? =some (G5 p.code B).row:=fun B h=>r5 B _ (A3D h).1
 generalize rvL p.regs.toNat p.code.length (P8 p)=RL at*
 generalize hbE:B9k p.code (P8 p) a (G5 p.code a) s=L at*
 generalize hii:G5 p.code a=i at*
 generalize hCR:p.code.map Ins.row=CR at*
 generalize hpr:p.row=pr at*
 have hmz:=U a s E
 obtain⟨f,o,g⟩:=s
 simp only at hpl hmz⊢
 have R:((I7 i g).map zrw).length=(I7 i g).length:=List.length_map ..
 have Y:((I7 i g).map zrw).take (I7 i g).length=(I7 i g).map zrw:=List.take_of_length_le zd
 have hsm:=fun d h=>(G8 (d:=d) (h:=h)).elim fun φ e=>show ((I7 i g).map zrw).map (fun r=>r.map (frz d h))=(I7 i g).map zrw by rw [e];exact W9 φ _
 have hef:=A9X i g
 generalize hnl:C5 p.code a=l at*
 have P: ∀(k:Nat) (x:Int),l[k]? =some x→(l.map zrw)[k]? =some [.int .i64 x]:=fun k x h=>P9 h
 have c:(l.map zrw).length=l.length:=List.length_map ..
 have j:=H1 l
 generalize l.map zrw=nls at*
 refine Run.go 100 ?_
 simp -implicitDefEqProofs only [go_sem,E0,J,I]
 refine A0.pureF X zM ?_
 refine QL ?_
 refine Run.keep [13,12,8,7,3,2,1] ?_
 refine Run.roundsK (fun(x:Nat×Nat)=>⟨[(13,.int .i64 x.1),(12,.isl nls),(8,.ptr (93*10000+8) s8 0 0),(7,.ptr (93*10000+7) s7 0 0),(3,.ptr (93*10000+3) 0 0 0),(2,.int .i64 a),(1,.isl RL)],
   [((93*10000+8),s8,.rows 5 [[.int .i64 i.op,.int .i64 i.a,.int .i64 i.b,.int .i64 i.c,.int .i64 i.d]]),((93*10000+7),s7,.rows 3 [[.isl (B0 p.regs.toNat f),.int .i64 o,.isl (g.map zrw)]]),((93*10000+3),0,.rows 11 [pr])],x.2⟩)
  (fun x=>x.1≤l.length∧(l.take x.1).any L=false) (fun x=>l.length-x.1) (0,m) (C1.wk (C1.of ze (fun e C=>C) (Nat.le_refl _))) ⟨Nat.zero_le _,rfl⟩ ?_
 rintro⟨k,m2⟩ ⟨hk,y⟩ ih
 simp only at hk y ih⊢
 refine Run.unf F9 (Run.go 100 ?_)
 by_cases v:k<l.length
 case neg=>
  have e:k=l.length:=by omega
  subst e
  simp -implicitDefEqProofs only [go_sem,c,Int.lt_irrefl]
  rw [I4 y]at H
  subst H
  exact .is rfl
 have w0:((k:Int)<(l.length:Int))=True:=Ji
 have Z:((0:Int)≤(k:Int))=True:=Ji
 obtain⟨t,z⟩: ∃x,l[k]? =some x:=⟨l[k],by simp [v]⟩
 have w:=P k t z
 have hzk:((k+1:Nat):Int)=(k:Int)+1:=by omega
 obtain⟨ht0,htn⟩:=hin t (List.mem_of_getElem? z)
 obtain⟨q,hq⟩:=hto t (List.mem_of_getElem? z)
 obtain⟨B,rfl⟩: ∃B:Nat,t=B:=⟨t.toNat,by omega⟩
 rw [Int.toNat_natCast]at hq
 have u:B<p.code.length:=by omega
 have u0:((B:Int)<(p.code.length:Int))=True:=Ji
 have u1:((0:Int)≤(B:Int))=True:=Ji
 have hlo:=hla B q u hq
 have G:=T B u
 have A:L (B:Int)=(decide ((C6 i).2≠q.opn)||(!decide (I7 i g=q.marks)||(decide ((B:Int)≤(a:Int))&&decide ((G5 p.code B).op≠29)))):=by
  rw [←hbE];unfold B9k;simp only [Int.toNat_natCast,hq]
 have V:=hpl (B:Int)
 have hal: ∀S,Pure Tryz.prog 119 [.agg [.isl S,.int .i64 (C6 i).2,.isl ((I7 i g).map zrw)],.agg [.isl (B0 p.regs.toNat q.set),.int .i64 q.opn,.isl (q.marks.map zrw)]] (.bool (decide ((C6 i).2=q.opn)&&decide (I7 i g=q.marks))):=fun S=>C1V S _ _ _ _ _ zd
 have lps:=D6 p.regs.toNat (C9 p.regs.toNat i a (B:Int) ⟨f,o,g⟩).set
 have hsp:=fun d h=>(G8 (d:=d) (h:=h)).elim fun φ e=>show (B0 p.regs.toNat (C9 p.regs.toNat i a (B:Int) ⟨f,o,g⟩).set).map (fun r=>r.map (frz d h))=B0 p.regs.toNat (C9 p.regs.toNat i a (B:Int) ⟨f,o,g⟩).set by rw [e];exact U1 φ _ _
 have hsq:=fun d h=>(G8 (d:=d) (h:=h)).elim fun φ e=>show (B0 p.regs.toNat q.set).map (fun r=>r.map (frz d h))=B0 p.regs.toNat q.set by rw [e];exact U1 φ _ _
 have hsqm:=fun d h=>(G8 (d:=d) (h:=h)).elim fun φ e=>show (q.marks.map zrw).map (fun r=>r.map (frz d h))=q.marks.map zrw by rw [e];exact W9 φ _
 generalize B0 p.regs.toNat (C9 p.regs.toNat i a (B:Int) ⟨f,o,g⟩).set=PS at*
 have htps:PS.take p.regs.toNat=PS:=List.take_of_length_le zd
 generalize B0 p.regs.toNat q.set=QS at*
 generalize G5 p.code B=ib at*
 simp only [Ins.row]at G
 simp -implicitDefEqProofs only [go_sem,w0,Z,c,j,w,v,J,I,u0,u1,u,lL,zL,hlo,Option.some.injEq,forall_eq']
 repeat' refine And.intro ?_ ?_
 all_goals
  refine A0.at [] [0,1,2] (V _) rfl rfl ?_
  rintro r h' n3 hn3 ⟨st,st2,rfl,rfl⟩
  simp -implicitDefEqProofs only [go_sem,w0,Z,c,j,w,v,J,I,u0,u1,u,lL,zL,hlo,Option.some.injEq,forall_eq']
  refine A0.view (hal PS) 1 (by simp -implicitDefEqProofs only [go_sem,lps,R,htps,Y,hsp,hsm,hsq,hsqm]) rfl ?_
  cases hb0:(decide ((C6 i).2=q.opn)&&decide (I7 i g=q.marks))with
  | false=>
   have D:L (B:Int)=true:=by
    rw [A]
    by_cases e1:(C6 i).2=q.opn
    ·have K: ¬I7 i g=q.marks:=fun K=>by simp [e1,K]at hb0
     simp [K]
    ·simp [e1]
   refine QL ?_
   rw [K4 z D]at H
   subst H
   exact .is rfl
  | true=>
   rw [Bool.and_eq_true]at hb0
   have e1:=of_decide_eq_true hb0.1
   have K:=of_decide_eq_true hb0.2
   by_cases e4:(B:Int)≤(a:Int)
   ·by_cases e5:ib.op=29
    ·have D:L (B:Int)=false:=by rw [A];simp [e1,K,e5]
     simp -implicitDefEqProofs only [go_sem,c,j,w,v,e4,e5,J,I,F,l5,z5,u,G,w0,Z,u0,u1,Option.some.injEq,forall_eq']
     exact Xo
    ·have D:L (B:Int)=true:=by rw [A];simp [e4,e5]
     simp -implicitDefEqProofs only [go_sem,c,j,w,v,e4,e5,J,I,F,l5,z5,u,G,w0,Z,u0,u1,Option.some.injEq,forall_eq']
     rw [K4 z D]at H
     subst H
     exact .is rfl
   ·have D:L (B:Int)=false:=by rw [A];simp [e1,K,e4]
    simp -implicitDefEqProofs only [go_sem,c,j,w,v,e4,w0,Z,Option.some.injEq,forall_eq']
    exact Xo
end
section
open Go.Abs
attribute [local irreducible] A0 Run
-- EV: Ins.v, Ins.row
attribute [local go_sem] Ins.v Ins.row
theorem C2u{C:List V}{RL F:List (List V)}{i:Ins}{b:List Int}{o:Int}{a t v m:Nat}(L:b.length≤1000000){I:Bool}{Q:Res}
  (A:Q=fun r h _=>frz 0 h r= .bool (b.any (fun r=>decide (i.op=17)||(decide (i.op=28)&&decide (i.a≤r)))||I))
  (z: ∀m,Q=(fun r h _=>frz 0 h r= .bool I)→Run (B0s Q) [.code (E0 (E0 (E0 (E0 (E0 D5)))))] (A2H C RL i F (b.map zrw) o a t v m)):
  Run (B0s Q) [.code (E0 (E0 (E0 (E0 D5))))] (A2H C RL i F (b.map zrw) o a t v m):=by
 have p:(b.map zrw).length=b.length:=List.length_map ..
 have D:=H1 b
 have K: ∀(k:Nat) x,b[k]? =some x→(b.map zrw)[k]? =some [.int .i64 x]:=fun k x E=>P9 E
 generalize b.map zrw=M at*
 unfold A2H at*
 refine Run.go 5 ?_
 simp -implicitDefEqProofs only [go_sem,E0]
 refine Run.keep [11,8,7,3,2,1] ?_
 refine Run.rounds (fun(k:Nat)=>⟨[(11,.int .i64 k),(8,.ptr (93*10000+8) v 0 0),(7,.ptr (93*10000+7) t 0 0),(3,.ptr (93*10000+3) 0 0 0),(2,.int .i64 a),(1,.isl RL)],[((93*10000+8),v,.rows 5 [[.int .i64 i.op,.int .i64 i.a,.int .i64 i.b,.int .i64 i.c,.int .i64 i.d]]),((93*10000+7),t,.rows 3 [[.isl F,.int .i64 o,.isl M]]),((93*10000+3),0,.rows 11 [C])],m⟩) (fun k=>k≤b.length∧(b.take k).any (fun r=>decide (i.op=17)||(decide (i.op=28)&&decide (i.a≤r)))=false) (fun k=>b.length-k) 0 ze ⟨Nat.zero_le _,rfl⟩ ?_
 rintro k ⟨E,d⟩ H
 refine Run.unf I5 ?_
 by_cases g:k<b.length
 ·have w:((k:Int)<(b.length:Int))=True:=Ji
  have u:((0:Int)≤(k:Int))=True:=Ji
  obtain⟨x,B⟩: ∃x,b[k]? =some x:=⟨b[k],by simp [g]⟩
  have q:=K k x B
  have l:((k+1:Nat):Int)=(k:Int)+1:=by omega
  have y:(decide (i.op=17)||(decide (i.op=28)&&decide (i.a≤x)))=true→Q=fun r h _=>frz 0 h r= .bool true:=fun h=>by
   rw [A,K4 B h];rfl
  have G:=fun h=>E8 (f:=fun r=>decide (i.op=17)||(decide (i.op=28)&&decide (i.a≤r))) d B h
  by_cases n:i.op=17
  ·have j:=y (by simp [n])
   refine Run.go 100 ?_
   simp -implicitDefEqProofs only [go_sem,w,u,p,n]
   subst j
   exact .is rfl
  by_cases e:i.op=28
  ·by_cases s:i.a≤x
   ·have j:=y (by simp [e,s])
    refine Run.go 100 ?_
    simp -implicitDefEqProofs only [go_sem,w,u,p,D,q,g,e,s,ge_iff_le,Option.some.injEq,forall_eq']
    subst j
    exact .is rfl
   ·have c:=G (by simp [n,e,s])
    refine Run.go 100 ?_
    simp -implicitDefEqProofs only [go_sem,w,u,p,D,q,g,e,s,ge_iff_le,Option.some.injEq,forall_eq']
    exact⟨⟨by omega,by omega⟩,H _ (k+1) ⟨by omega,c⟩ zd (by simp -implicitDefEqProofs only [go_sem,l,e])⟩
  ·have c:=G (by simp [n,e])
   refine Run.go 100 ?_
   simp -implicitDefEqProofs only [go_sem,w,u,p,n,e]
   exact⟨⟨by omega,by omega⟩,H _ (k+1) ⟨by omega,c⟩ zd zD⟩
 ·have J:k=b.length:=by omega
  subst J
  have d:=I4 d
  rw [d,Bool.false_or]at A
  refine Run.go 5 ?_
  simp -implicitDefEqProofs only [go_sem,p,Int.lt_irrefl]
  refine Run.wk (C1.wk ?_) (z m A)
  exact ze
theorem D0q(l:List Upv)(f:Int→Bool):((l.filter Upv.loc).map Upv.idx).any f=l.any fun u=>u.loc&&f u.idx:=by
 induction l with
 |nil=>rfl
 |cons u r i=>
  rw [List.filter_cons,List.any_cons]
  cases hu:u.loc with
  |true=>simp only [if_true,List.map_cons,List.any_cons,i,Bool.true_and]
  |false=>simp only [Bool.false_eq_true,if_false,Bool.false_and,Bool.false_or,i]
theorem C7l{p:Fn}(G:Sound p){RL M:List (List V)}{i:Ins}(hi:i∈p.code){f:Nat→Bool}{o:Int}{a E H m:Nat}{Z:Bool}{Q:Res}
  (s:Q=fun r h _=>frz 0 h r= .bool ((C0w p i).any (fun r=> !f r.toNat)||Z))
  (v: ∀m,Q=(fun r h _=>frz 0 h r= .bool Z)→Run (B0s Q) [.code (E0 (E0 (E0 (E0 D5))))] (A2H p.row RL i (B0 p.regs.toNat f) M o a E H m)):
  Run (B0s Q) [.code (E0 (E0 (E0 D5)))] (A2H p.row RL i (B0 p.regs.toNat f) M o a E H m):=by
 obtain⟨h1,h2⟩:=B4 p
 by_cases c:i.op=22
 case neg=>
  have e:C0w p i= []:=if_neg c
  rw [e,List.any_nil,Bool.false_or]at s
  unfold A2H at*
  refine Run.go 5 ?_
  simp -implicitDefEqProofs only [go_sem,E0,c]
  refine Run.wk (C1.wk ?_) (v m s)
  exact ze
 obtain⟨hb0,q,w⟩:=G.proto hi c
 have e:C0w p i=(q.ups.filter Upv.loc).map Upv.idx:=by unfold C0w;rw [if_pos c,w];rfl
 rw [e,D0q]at s
 have z:=List.mem_of_getElem? w
 have O:=fun u (S:u∈q.ups)=>G.ups q z u S
 have hul:=G.upsl q z
 obtain⟨B,J⟩: ∃B:Nat,i.b=B:=⟨i.b.toNat,by omega⟩
 rw [J,Int.toNat_natCast]at w
 have T:B<p.protos.length:=(List.getElem?_eq_some_iff.1 w).1
 have h8:p.row[8]? =some (.isl (p.protos.map Fn.row)):=by rw [Fn.row_eq];rfl
 have l8:(p.protos.map Fn.row).length=p.protos.length:=List.length_map ..
 have z8:=A8v Fn.row 11 Fn.row_len p.protos
 have r8:(p.protos.map Fn.row)[B]? =some q.row:=by rw [List.getElem?_map,w];rfl
 have g9:q.row[9]? =some (.isl (q.ups.map Upv.row)):=by rw [Fn.row_eq];rfl
 obtain⟨g1,g2⟩:=B4 q
 have I:(q.ups.map Upv.row).length=q.ups.length:=List.length_map ..
 have N:=A8v Upv.row 3 (fun _=>rfl) q.ups
 have ru: ∀(k:Nat) u,q.ups[k]? =some u→(q.ups.map Upv.row)[k]? =some [.str u.name,.bool u.loc,.int .i64 u.idx]:=fun k u hk=>by rw [List.getElem?_map,hk];rfl
 have t:=D6 p.regs.toNat f
 have A:=H8 p.regs.toNat f
 have L: ∀r,r<p.regs.toNat→(B0 p.regs.toNat f)[r]? =some [.bool (f r)]:=fun r h=>H7 h
 have U:=G.regs
 have b0:((0:Int)≤(B:Int))=True:=Ji
 have b1:((B:Int)<(p.protos.length:Int))=True:=Ji
 unfold A2H at*
 generalize B0 p.regs.toNat f=FR at*
 generalize q.ups.map Upv.row=UR at*
 generalize p.protos.map Fn.row=PR at*
 generalize p.row=pr at*
 generalize q.row=qr at*
 refine Run.go 9 ?_
 simp -implicitDefEqProofs only [go_sem,E0,c,J,b0,b1,h8,l8,z8,r8,T,g1,g2,g9,h1,h2,Option.some.injEq,forall_eq']
 refine Run.keep [10,9,8,7,3,2,1] ?_
 refine Run.rounds (fun(k:Nat)=>⟨[(10,.int .i64 k),(9,.isl UR),(8,.ptr (93*10000+8) H 0 0),(7,.ptr (93*10000+7) E 0 0),(3,.ptr (93*10000+3) 0 0 0),(2,.int .i64 a),(1,.isl RL)],[((93*10000+8),H,.rows 5 [[.int .i64 22,.int .i64 i.a,.int .i64 B,.int .i64 i.c,.int .i64 i.d]]),((93*10000+7),E,.rows 3 [[.isl FR,.int .i64 o,.isl M]]),((93*10000+3),0,.rows 11 [pr])],m⟩) (fun k=>k≤q.ups.length∧(q.ups.take k).any (fun u=>u.loc&& !f u.idx.toNat)=false) (fun k=>q.ups.length-k) 0 ze ⟨Nat.zero_le _,rfl⟩ ?_
 rintro k ⟨hk,l⟩ ih
 refine Run.unf M9 ?_
 by_cases j:k<q.ups.length
 ·have P:((k:Int)<(q.ups.length:Int))=True:=Ji
  have K:((0:Int)≤(k:Int))=True:=Ji
  obtain⟨u,F⟩: ∃x,q.ups[k]? =some x:=⟨q.ups[k],by simp [j]⟩
  have b:=ru k u F
  have S:=O u (List.mem_of_getElem? F)
  have C:((k+1:Nat):Int)=(k:Int)+1:=by omega
  have D:=fun h=>E8 (f:=fun(u:Upv)=>u.loc&& !f u.idx.toNat) l F h
  have y:(u.loc&& !f u.idx.toNat)=true→Q=fun r h _=>frz 0 h r= .bool true:=fun h=>by
   rw [s,K4 F h];rfl
  cases hloc:u.loc with
  |false=>
   rw [hloc]at b
   have d:=D (by rw [hloc];rfl)
   refine Run.go 100 ?_
   simp -implicitDefEqProofs only [go_sem,P,K,I,N,b,j,Option.some.injEq,forall_eq']
   exact⟨⟨by omega,by omega⟩,ih _ (k+1) ⟨by omega,d⟩ zd zt⟩
  | true=>
   rw [hloc]at b D y
   obtain⟨u0,u1⟩:=S hloc
   obtain⟨X,hX⟩: ∃X:Nat,u.idx=X:=⟨u.idx.toNat,by omega⟩
   rw [hX]at b D y
   rw [Int.toNat_natCast]at D y
   have n:X<p.regs.toNat:=by omega
   have Y:((0:Int)≤(X:Int))=True:=Ji
   have W:((X:Int)<(p.regs.toNat:Int))=True:=Ji
   have g:=L X n
   cases hfx:f X with
   |false=>
    rw [hfx]at g
    have R:=y (by rw [hfx];rfl)
    refine Run.go 100 ?_
    simp -implicitDefEqProofs only [go_sem,P,K,I,N,b,j,Y,W,n,t,A,g,Option.some.injEq,forall_eq']
    subst R
    exact .is rfl
   |true=>
    rw [hfx]at g
    have d:=D (by rw [hfx];rfl)
    refine Run.go 100 ?_
    simp -implicitDefEqProofs only [go_sem,P,K,I,N,b,j,Y,W,n,t,A,g,Option.some.injEq,forall_eq']
    exact⟨⟨by omega,by omega⟩,ih _ (k+1) ⟨by omega,d⟩ zd zt⟩
 ·have ek:k=q.ups.length:=by omega
  subst ek
  have l:=I4 l
  rw [l,Bool.false_or]at s
  refine Run.go 5 ?_
  simp -implicitDefEqProofs only [go_sem,I,Int.lt_irrefl]
  refine Run.wk (C1.wk ?_) (v m s)
  simp -implicitDefEqProofs only [go_sem,c,J]
end
section
open Go.Abs
attribute [local irreducible] A0 Run
-- EV: Ins.v, Ins.row
attribute [local go_sem] Ins.v Ins.row
theorem C2v{p:List V}(z:p.length=11)(h2:p.take 11=p){C:List (List V)}{len:Nat}(t:p[5]? =some (.isl C))(n:C.length=len)(w:0<len∧len≤100000){RL f M:List (List V)}{i:Ins}{o:Int}{a s u m:Nat}{v q:Bool}{Q:Res}
  (c:Pure Tryz.prog 118 [.agg [.isl f,.int .i64 o,.isl M],i.v] (.bool v)) (g:f.map (fun r=>r.map (V.sub C7))=f) (j:M.map (fun r=>r.map (V.sub C7))=M)
  (b:Q=fun r h _=>frz 0 h r= .bool ((V9 i.op&&decide ((a:Int)=(len:Int)-1))||(v||q)))
  (k: ∀m,Q=(fun r h _=>frz 0 h r= .bool q)→Run (B0s Q) [.code (E0 (E0 (E0 D5)))] (A2H p RL i f M o a s u m)):
  Run (B0s Q) [.code (E0 (E0 D5))] (A2H p RL i f M o a s u m):=by
 have d:=B4J i
 simp only [Ins.v,Ins.row]at d c
 unfold A2H at*
 generalize x:V9 i.op=y at*
 refine Run.go 5 ?_
 simp -implicitDefEqProofs only [go_sem,E0]
 refine A0.pureF d ze ?_
 cases y with
 | false=>
  rw [Bool.false_and,Bool.false_or]at b
  refine QL ?_
  refine A0.pureF c (by simp -implicitDefEqProofs only [go_sem,g,j]) ?_
  cases v with
  |true=>
   rw [Bool.true_or]at b
   refine QL ?_
   exact Yf
  |false=>
   rw [Bool.false_or]at b
   refine QL ?_
   refine Run.wk (C1.wk ?_) (k m b)
   exact Xx
 | true=>
  rw [Bool.true_and]at b
  by_cases l:(a:Int)=(len:Int)-1
  ·have e:decide ((a:Int)=(len:Int)-1)=true:=decide_eq_true l
   rw [e,Bool.true_or]at b
   simp -implicitDefEqProofs only [go_sem,t,n,l]
   refine⟨⟨by omega,by omega⟩,?_⟩
   exact Yf
  ·have e:decide ((a:Int)=(len:Int)-1)=false:=decide_eq_false l
   rw [e,Bool.false_or]at b
   simp -implicitDefEqProofs only [go_sem,t,n,l]
   refine⟨⟨by omega,by omega⟩,?_⟩
   refine A0.pureF c (by simp -implicitDefEqProofs only [go_sem,g,j]) ?_
   cases v with
   |true=>
    rw [Bool.true_or]at b
    refine QL ?_
    exact Yf
   |false=>
    rw [Bool.false_or]at b
    refine QL ?_
    refine Run.wk (C1.wk ?_) (k m b)
    exact ze
end
section
open Go.Abs
attribute [local irreducible] A0 Run
-- EV: Ins.v, Ins.row
attribute [local go_sem] Ins.v Ins.row
theorem C6L(i:Ins)(l:List Int):l.any (fun r=>decide (i.op=17)||(decide (i.op=28)&&decide (i.a≤r)))=(decide (i.op=28)&&l.any (fun r=>decide (i.a≤r))||(decide (i.op=17)&&decide (0<l.length))):=by
 by_cases a:i.op=17
 ·have c: ¬i.op=28:=by omega
  simp only [a,decide_true,Bool.true_or,Bool.true_and]
  cases l with
  |nil=>simp
  |cons x r=>simp
 ·by_cases c:i.op=28
  ·simp [a,c]
  ·simp only [a,c,decide_false,Bool.false_and,Bool.or_false]
   induction l with
   |nil=>rfl
   |cons x r b=>rw [List.any_cons,b];rfl
theorem D1H{p:Fn}{M:Nat→Option Stt}{a:Nat}{s:Stt}(h:M a=some s):A3x p M a=
  ((V9 (G5 p.code a).op&&decide ((a:Int)=(p.code.length:Int)-1))||((!A2A (reads (G5 p.code a)).2 s.opn||((reads (G5 p.code a)).1.any (fun r=> !s.set r.toNat)||(A4I (reads (G5 p.code a)).2 s.opn).any fun r=> !s.set r.toNat))||
    ((C0w p (G5 p.code a)).any (fun r=> !s.set r.toNat)||(s.marks.any (fun r=>decide ((G5 p.code a).op=17)||(decide ((G5 p.code a).op=28)&&decide ((G5 p.code a).a≤r)))||(C5 p.code a).any (B9k p.code M a (G5 p.code a) s))))):=by
 have k: ∀v o a b u x y w:Bool,(v||(!(o&& !((a||b)||u))||(x||(y||w))))=(v||((!o||(a||b))||(u||((x||y)||w)))):=by decide
 unfold A3x
 simp only [h]
 rw [C6L,←k]
 unfold A6v A8s
 rw [List.any_append,List.any_append]
theorem B6Z(p:Fn)(d:Sound p)(o: ∀a:Nat,Pure Tryz.prog 74 [.agg p.row,.int .i64 a] (.isl ((C5 p.code a).map zrw)))
  (D:A0T p.regs.toNat p.code p.params (P8 p)) (e: ∀k s,P8 p k=some s→s.marks.length≤100000) (u: ∀k s,P8 p k=some s→ -1≤s.opn) (a:Nat) (l:a<p.code.length) (s:Stt) (h:P8 p a=some s):
  Pure Tryz.prog 93 [.agg p.row,.isl (rvL p.regs.toNat p.code.length (P8 p)),.int .i64 a] (.bool (A3x p (P8 p) a)):=by
 obtain⟨C,B⟩:=B4 p
 have z:=d.regs
 have H:=d.code
 have n:=d.code0
 have j:p.row[5]? =some (.isl (p.code.map Ins.row)):=by rw [Fn.row_eq];rfl
 have y:(p.code.map Ins.row).length=p.code.length:=List.length_map ..
 have O:=A8v Ins.row 5 (fun _=>rfl) p.code
 obtain⟨J,g⟩:=A3D l
 have A:(p.code.map Ins.row)[a]? =some (G5 p.code a).row:=by rw [List.getElem?_map,J];rfl
 have L:((a:Int)<(p.code.length:Int))=True:=Ji
 have F:((0:Int)≤(a:Int))=True:=Ji
 have I:=C5w p.regs.toNat p.code.length (P8 p)
 have E:=C9F p.regs.toNat p.code.length (P8 p)
 have x:=(C9E (N:=p.regs.toNat) (M:=P8 p) l).trans (show some (B1U p.regs.toNat (P8 p a))=some [.isl (B0 p.regs.toNat s.set),.int .i64 s.opn,.isl (s.marks.map zrw)] by rw [h];rfl)
 have K:=e a s h
 have t:=U1 C7 p.regs.toNat s.set
 have w:=W9 C7 s.marks
 have f:=C0o p.regs.toNat (G5 p.code a) s zd (fun r G=>by have:=d.reads _ g r G;omega) (by have:=B0K (G5 p.code a);omega) (A3Y (G5 p.code a)).2.1 (by have:=D.opn d.fit a s h;omega) (u a s h)
 refine Pure.of 0 (A0.enterK A0h Jk fun Q b=>Run.go 4 ?_)
 rw [D1H h]at b
 have c: ∀q v m,Run (B0s Q) [.code (E0 (E0 D5))] (A2H p.row (rvL p.regs.toNat p.code.length (P8 p)) (G5 p.code a) (B0 p.regs.toNat s.set) (s.marks.map zrw) s.opn a q v m):=fun q v m=>
  C2v C B j y ⟨n,by omega⟩ f t w b fun m b=>C7l d g b fun m b=>C2u zd b fun m b=>C4p p d o D e a l s h q v m Q b
 clear b f
 unfold A2H at c
 generalize rvL p.regs.toNat p.code.length (P8 p)=RL at*
 generalize B0 p.regs.toNat s.set=S at*
 generalize s.marks.map zrw=P at*
 generalize p.code.map Ins.row=R at*
 simp only [Ins.row]at A
 generalize G5 p.code a=i at*
 generalize p.row=T at*
 simp -implicitDefEqProofs only [go_sem,A4,C,B,j,y,O,A,l,L,F,I,E,x,Option.some.injEq,forall_eq']
 repeat' refine And.intro ?_ ?_
 all_goals first
  |(refine Run.wk (C1.wk ?_) (c 1 2 3);simp -implicitDefEqProofs only [go_sem];done)
  |(refine Run.wk (C1.wk ?_) (c 2 1 3);simp -implicitDefEqProofs only [go_sem];done)
end
section
open Go.Abs
attribute [local irreducible] A0 Run
-- EV: Ins.v, Ins.row
attribute [local go_sem] Ins.v Ins.row
theorem A0T.marksLe{N:Nat}{code:List Ins}{params:Int}{M:Nat→Option Stt}(d:0<code.length)(h:A0T N code params M): ∀k s,M k=some s→s.marks.length≤code.length:=by
 obtain⟨L,a⟩: ∃L,Kn N code.length L M:=h.ind (P:=fun M=> ∃L,Kn N code.length L M) ⟨[0],Kn.zero d⟩ fun M e f ⟨L,a⟩=>by
  obtain⟨j,g,l,i⟩:=A9W f
  unfold G6
  cases hs:M e.1 with
  |none=>exact⟨L,a⟩
  | some s=>
   simp only
   cases ht:M e.2.toNat with
   |none=>
    refine⟨L++ [e.2.toNat],a.new ht zd (fun r b=>B0I b) ?_⟩
    rw [A1M]
    have:=A9X (G5 code e.1) s.marks
    have:=a.ml _ _ hs
    omega
   |some t=>exact⟨L,a.join ht⟩
 intro k s c
 have:=a.ml k s c
 have:=a.len
 omega
theorem A0T.opnGe{N:Nat}{code:List Ins}{params:Int}{M:Nat→Option Stt}(h:A0T N code params M): ∀k s,M k=some s→ -1≤s.opn:=by
 refine h.ind (P:=fun M=> ∀k s,M k=some s→ -1≤s.opn) ?_ ?_
 ·exact Yx
 ·intro M e f b k s a
  rcases A4a a with h|⟨o,c,_,_,rfl⟩|⟨o,t,c,_,d,rfl⟩
  ·exact b k s h
  ·rw [A7h];exact(A2r _).2.1
  ·exact b k t d
theorem D1r(N n:Nat)(M:Nat→Option Stt):(rvL N n M).map (fun r=>r.map (V.sub C7))=rvL N n M:=by
 unfold rvL
 rw [List.map_map]
 refine List.map_congr_left fun k _=> ?_
 simp only [Function.comp]
 unfold B1U
 cases M k with
 |none=>simp [V.sub,K0]
 |some s=>simp only [List.map_cons,List.map_nil,V.sub,K0,U1,W9]
theorem C9C(p:Fn)(h:p.code.length≤100000)(a:Int):Pure Tryz.prog 74 [.agg p.row,.int .i64 a] (.isl ((C5 p.code a).map zrw)):=by
 rw [Fn.row_eq]
 exact B1R p.code a h _ _ _ _ _ _ _ _ _ _
theorem C2f(p:Fn)(l:Sound p):Pure Tryz.prog 70 [.agg p.row] (.int .i64 (M5 p)):=by
 obtain⟨r,q⟩:=B4 p
 have N:=l.regs
 have T:=l.params
 have Q:=l.code
 have E:A0T p.regs.toNat p.code p.params (P8 p):=D4m l.code0
 have w:=E.marksLe l.code0
 have n:=fun(a:Nat)=>C9C p zd a
 have m:=Fn.row_sub C7 p
 have I:=C2j p.regs.toNat p.code p.params p.row r q Qg (by rw [Int.toNat_of_nonneg N.1,Fn.row_eq];rfl) Qg m (fun d h=>(G8 (d:=d) (h:=h)).elim fun φ e=>by rw [e];exact Fn.row_sub φ p) n zd l.code0 zd T.1 zd l.fit
 have V:=fun a U s C=>B6Z p l n E (fun k s h=>by have:=w k s h;omega) E.opnGe a U s C
 have O:=fun k t h g=>B8n (p:=p) (k:=k) t h g
 have y:=B4t (p:=p)
 have u: ∀k,P8 p k=none→A3x p (P8 p) k=false:=fun k h=>by unfold A3x;rw [h]
 have B:p.row[5]? =some (.isl (p.code.map Ins.row)):=by rw [Fn.row_eq];rfl
 have x:(p.code.map Ins.row).length=p.code.length:=List.length_map ..
 have A:=D1r p.regs.toNat p.code.length (P8 p)
 have J:=D6 p.code.length fun k=>(P8 p k).isSome
 have G:=H8 p.code.length fun k=>(P8 p k).isSome
 have z:=fun k (t:k<p.code.length)=>H7 (f:=fun k=>(P8 p k).isSome) t
 change Pure _ _ _ (.tup [.isl (rvL p.regs.toNat p.code.length (P8 p)),.isl (B0 p.code.length fun k=>(P8 p k).isSome)])at I
 generalize M5 p=M at*
 generalize A3x p (P8 p)=v at*
 generalize p.code.map Ins.row=W at*
 generalize rvL p.regs.toNat p.code.length (P8 p)=RL at*
 generalize (B0 p.code.length fun k=>(P8 p k).isSome)=S at*
 generalize p.row=R at*
 refine Pure.of 0 (A0.enter A2h Jk (Run.go 100 ?_))
 simp -implicitDefEqProofs only [go_sem,A4,r,q]
 refine A0.pureF I (by simp -implicitDefEqProofs only [go_sem,m]) ?_
 refine QL ?_
 refine Run.keep [5,4,3,1] ?_
 refine Run.rounds (fun(k:Nat)=>⟨[(5,.int .i64 k),(4,.isl S),(3,.isl RL),(1,.ptr (70*10000+1) 0 0 0)],[((70*10000+1),0,.rows 11 [R])],1⟩)
  (fun k=>k≤p.code.length∧ ∀j,j<k→v j=false) (fun k=>p.code.length-k) 0 ze ⟨Nat.zero_le _,fun j K=>absurd K (Nat.not_lt_zero _)⟩ ?_
 rintro k ⟨t,g⟩ L
 refine Run.unf A0f (Run.go 100 ?_)
 by_cases b:k<p.code.length
 ·have H:((k:Int)<(p.code.length:Int))=True:=Ji
  have F:((0:Int)≤(k:Int))=True:=Ji
  have o:((k+1:Nat):Int)=(k:Int)+1:=by omega
  have i:=z k b
  have next:v k=false→ ∀j,j<k+1→v j=false:=fun h j K=>by
   by_cases c:j=k
   ·subst c;exact h
   ·exact g j zd
  cases hm:P8 p k with
  |none=>
   rw [hm]at i
   simp -implicitDefEqProofs only [go_sem,r,q,B,x,H,F,J,G,i,b,Option.isSome_none,Option.some.injEq,forall_eq']
   exact⟨⟨by omega,by omega⟩,L _ (k+1) ⟨by omega,next (u k hm)⟩ zd zU⟩
  | some s=>
   rw [hm]at i
   have D:=V k b s hm
   simp -implicitDefEqProofs only [go_sem,r,q,B,x,H,F,J,G,i,b,Option.isSome_some,Option.some.injEq,forall_eq']
   refine A0.pureF D (by simp -implicitDefEqProofs only [go_sem,m,A]) ?_
   cases hv:v k with
   |true=>
    simp -implicitDefEqProofs only [go_sem,O k b hv g]
   |false=>
    refine QL ?_
    exact⟨⟨by omega,by omega⟩,L _ (k+1) ⟨by omega,next hv⟩ zd zU⟩
 ·have e:k=p.code.length:=by omega
  subst e
  have P:M= -1:=y.2 g
  simp -implicitDefEqProofs only [go_sem,r,q,B,x,Int.lt_irrefl,P]
end
end Go.Proofs.YtcaaenddpjepiaaGreatDoor
