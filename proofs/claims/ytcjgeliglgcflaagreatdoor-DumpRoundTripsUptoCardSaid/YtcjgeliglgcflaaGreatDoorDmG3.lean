/-
 What dump.decode answers. No condition.
-/
import Derived.Test.YtcjgeliglgcflaaGreatDoorDmG2
import Derived.Test.YtcjgeliglgcflaaGreatDoorDmP
set_option linter.unusedVariables false
set_option linter.unusedSimpArgs false
set_option maxRecDepth 100000
set_option maxHeartbeats 0
namespace Go.Proofs.YtcjgeliglgcflaaGreatDoor
open Go Go.Abs
attribute [local irreducible] A3 C2 Run
abbrev xN(k:Nat):Nat:=20*10000+k
-- EV: rD, xN
attribute [local go_sem] rD xN
def C2P:List V:= [.str [],.int .i64 0,.int .i64 0,.bool false,.int .i64 0,.nils,.nils,.nils,.nils,.nils,.nils]
theorem B6n(e:Int)(sp se n:Nat)(rp re:List V)(hp:rp.length=11)(he:re.length=1):C0F Tryz.prog 44 [.ptr (xN 2) sp 0 0,.ptr (xN 3) se 0 0] (C3l e) [(xN 3,se,.rows 1 [re]),(xN 2,sp,.rows 11 [rp])] n [(xN 3,se,.rows 1 [[.int .i64 e]]),(xN 2,sp,.rows 11 [C2P])] (n+1):=by
 match rp,hp with
 | [p0,p1,p2,p3,p4,p5,p6,p7,p8,p9,p10],_=>
 match re,he with
 | [r0],_=>
 refine C0F.of (a0:=5) (t0:=2) A3F (Nat.le_of_ble_eq_true rfl) (by kernel_rfl) (Run.go 100 ?_)
 unfold C3l
 simp -implicitDefEqProofs only [go_sem,A8]
 exact A2H.to (r2:= .tup []) ⟨rfl,rfl⟩ (.turn id ⟨.refl _,trivial⟩ (.at 0 rfl rfl (.refl _) (.at 1 rfl rfl (.refl _) (.of fun e he=>by cases he))))
theorem Fn.row_frz'(d:Nat)(h:A2)(p:Fn):p.row.map (frz d h)=p.row:=by
 obtain⟨φ,e⟩:=f8 (d:=d) (h:=h)
 rw [e];exact Fn.row_sub φ p
def B5t(G:Rd Fn):V:=match G with
 | .ok (p,r)=>if r= []then .tup [.agg p.row,.int .i64 0]else .tup [B2N,.int .i64 4]
 | .error e=> .tup [B2N,.int .i64 e]
theorem B5u(l:List Int)(hg:J8 l):Pure Tryz.prog 20 [.isl (byR l)] (B5t (A4D 64 l)):=by
 have hf:=fun s n=>C6j 64 s n 1 l rfl (Nat.le_refl _) hg
 have hR:=P5 l
 generalize hG:A4D 64 l=G at*
 have hrow: ∀p:Fn,p.row.length=11:=Fn.row_len
 refine Pure.of 1 (A3.recoverV (g:=44) [2,3] A5V (Nat.le_of_ble_eq_true rfl) (by kernel_rfl) (by decide) fun Q hQ=> ?_)
 simp -implicitDefEqProofs only [go_sem,A8]
 refine C2.at [0] [1,2] (hf _ _) rfl rfl ?_ ?_
 rotate_left
 ·rintro x h' n' _ ⟨e,rfl,rfl,rfl⟩
  refine⟨_,_,B6n e _ _ _ _ _ rfl rfl,?_⟩
  simp -implicitDefEqProofs only [go_sem,B0i,C2P]
  subst hQ
  exact .is rfl
 rintro r h' n1 _ ⟨p,l1,rfl,rfl,rfl⟩
 have hR1:=P5 l1
 by_cases c:(l1.length:Int)>0
 ·simp -implicitDefEqProofs only [go_sem,rdH,hR1,c,Fn.row_eq]
  refine C2.at [] [2,0] (A0q rD _ _ 4) rfl rfl (fun _ _ _ _ h=>h.elim) ?_
  rintro x h' n' _ ⟨rfl,rfl⟩
  refine⟨_,_,B6n 4 _ _ _ _ _ rfl rfl,?_⟩
  simp -implicitDefEqProofs only [go_sem,B0i,C2P]
  subst hQ
  have hne:l1≠ []:=fun h=>by subst h;exact absurd c (by decide)
  refine .is ?_
  rw [show B5t (.ok (p,l1))= .tup [B2N,.int .i64 4] from if_neg hne]
  rfl
 ·simp -implicitDefEqProofs only [go_sem,rdH,hR1,c,Fn.row_eq]
  subst hQ
  obtain rfl:l1= []:=List.length_eq_zero_iff.1 (by omega)
  refine .is ?_
  have key: ∀H:A2,frz 1 H (.tup [.agg p.row,.int .i64 0])= .tup [.agg p.row,.int .i64 0]:=fun H=>by simp -implicitDefEqProofs only [go_sem,Fn.row_frz']
  have e:B5t (.ok (p,[]))= .tup [.agg p.row,.int .i64 0]:=by simp [B5t]
  rw [e]
  rw [Fn.row_eq]at key⊢
  exact key _
end Go.Proofs.YtcjgeliglgcflaaGreatDoor
