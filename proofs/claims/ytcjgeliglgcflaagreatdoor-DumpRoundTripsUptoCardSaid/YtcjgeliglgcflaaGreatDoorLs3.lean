/-
 listing.Text. No condition.
-/
import Derived.Test.YtcjgeliglgcflaaGreatDoorLs2
import Derived.Test.YtcjgeliglgcflaaGreatDoorLsA2
import Derived.Test.YtcjgeliglgcflaaGreatDoorBldP
set_option linter.unusedVariables false
set_option linter.unusedSimpArgs false
set_option maxRecDepth 100000
set_option maxHeartbeats 0
namespace Go.Proofs.YtcjgeliglgcflaaGreatDoor
open Go Go.Abs
attribute [local irreducible] A3 Run J0
abbrev nB:Nat:=(9*10000+5)
abbrev nT:Nat:=(9*10000+9015)
-- EV: nB, nT
attribute [local go_sem] nB nT
noncomputable def C2B (p:Fn):V:=if A3E p=0 then .tup [.str (B2d p),.int .i64 0]else .tup [.str [],.int .i64 (A3E p)]
theorem A5O{b st:Nat}{l:List UInt8}{h:A2}(hb:bH b st l h){x:Nat}(h1:b≠x)(h2:nWS≠x)(h3:nWB≠x):G7 h x:=by
 obtain⟨a,_,⟨_,rfl⟩|⟨nb,sb,hnb,rfl⟩⟩:=hb
 ·intro e he;rw [List.mem_singleton.1 he];exact h1
 ·intro e he
  rcases List.mem_cons.1 he with rfl|he
  ·exact h1
  ·rw [List.mem_singleton.1 he]
   rcases hnb with rfl|rfl
   ·exact h2
   ·exact h3
theorem B2V(p:Fn)(hp:p.bd)(hd:p.depth≤1000000)(hv:n64L p.row)(hn:p.each.length≤100):Abs.Pure Tryz.prog 9 [.agg p.row] (C2B p):=by
 have hck:=A0K p hp hd
 obtain⟨h1,h2⟩:=C7 p
 have hps:=Fn.row_sub G6 p
 unfold C2B
 by_cases hc: ¬A3E p=0
 ·rw [if_neg hc]
  generalize p.row=pr at*
  refine Pure.of 0 (A3.enter A0S (Nat.le_of_ble_eq_true rfl) (Run.go 100 ?_))
  simp -implicitDefEqProofs only [go_sem,A8,h1,h2]
  refine A3.pureF hck (by simp -implicitDefEqProofs only [go_sem,hps]) ?_
  simp -implicitDefEqProofs only [go_sem,hc]
 have hc:A3E p=0:=Classical.not_not.1 hc
 rw [if_pos hc]
 rw [hc]at hck
 obtain⟨hdep,hok⟩:=C6D hc hv
 obtain⟨_,hlen⟩:=B9O hdep hok hn
 have hall:=B0s hdep hok
 have hlc:=fun n=>B2c p [109,97,105,110] 0 n
 have hl1:=fun nm st whole J hR pre post h n hw hJ=>B5S p hok [109,97,105,110] 0 (by decide) (by omega) nm st whole J hR pre post h n hw hJ
 have hne:B2d p≠ []:=by obtain⟨a,ha⟩:=B7y p;rw [ha];simp
 unfold B2d at hlen hne⊢
 generalize R2 [109,97,105,110] 0 p=whole at*
 generalize p.row=pr at*
 refine Pure.of 0 (A3.enter A0S (Nat.le_of_ble_eq_true rfl) (Run.go 100 ?_))
 simp -implicitDefEqProofs only [go_sem,A8,h1,h2]
 refine A3.pureF hck (by simp -implicitDefEqProofs only [go_sem,hps]) ?_
 simp -implicitDefEqProofs only [go_sem,h1,h2]
 refine A3.out (hlc _) ?_
 rintro r h' n' hn' ⟨rfl,rfl,rfl⟩
 simp -implicitDefEqProofs only [go_sem]
 refine⟨by kernel_rfl,?_⟩
 generalize hB:Blk.loop 24 _ _ _ _ _=B
 have hlw: ∀pre l rest,whole=pre++l::rest→(pre.flatMap A3a).length+(List.replicate (2*l.1) (32:UInt8)++(l.2++ [10])).length≤66705012500:=by
  intro pre l rest hw
  rw [hw,List.flatMap_append,List.flatMap_cons,List.length_append,List.length_append]at hlen
  unfold A3a at hlen⊢
  omega
 have hR:LRd nT 2 0 whole (fun pre h n=> ∃hb,bH nB 1 (pre.flatMap A3a) hb∧h=(nT,2,B)::hb):=by
  refine⟨?_,?_,?_⟩
  ·rintro pre l rest h n hw ⟨hb,hbH,rfl⟩
   have hl:=hall l (by rw [hw];simp)
   have hlw:=hlw pre l rest hw
   rw [List.length_append,List.length_append,List.length_singleton]at hlw
   have hfl:(pre++ [l]).flatMap A3a=(pre.flatMap A3a++List.replicate (2*l.1) 32)++l.2++ [10]:=by
    rw [List.flatMap_append,List.flatMap_singleton]
    unfold A3a
    simp only [List.append_assoc]
   subst hB
   have hrep:=B6p l.1 (by omega)
   refine J0.enterU A7m A7n (B5D _ _ _ _) rfl fun Q hQ=>Run.go 100 ?_
   have a0:=A5O hbH (x:=nT) (by decide) (by decide) (by decide)
   have c0:=a0.del
   simp -implicitDefEqProofs only [go_sem,c0]
   refine A3.pureF hrep (by simp -implicitDefEqProofs only [go_sem]) ?_
   simp -implicitDefEqProofs only [go_sem]
   refine A3.use (rest:= [_]) (A4u nB 1 (by decide) (by decide) _ _ (by omega) hb hbH n) rfl (fun e he e' he'=> ?_) ?_
   ·rw [List.mem_singleton.1 he]
    exact a0 e' he'
   rintro r hb1 n1 hn1 ⟨rfl,hbH1⟩
   have a1:=A5O hbH1 (x:=nT) (by decide) (by decide) (by decide)
   have c1:=a1.del
   simp -implicitDefEqProofs only [go_sem,c1]
   refine A3.use (rest:= [_]) (A4u nB 1 (by decide) (by decide) _ _ (by rw [List.length_append];omega) hb1 hbH1 n1) rfl (fun e he e' he'=> ?_) ?_
   ·rw [List.mem_singleton.1 he]
    exact a1 e' he'
   rintro r hb2 n2 hn2 ⟨rfl,hbH2⟩
   have a2:=A5O hbH2 (x:=nT) (by decide) (by decide) (by decide)
   have c2:=a2.del
   simp -implicitDefEqProofs only [go_sem,c2]
   refine A3.use (rest:= [_]) (B2M nB 1 (by decide) (by decide) _ 10 (by rw [List.length_append,List.length_append];omega) hb2 hbH2 n2) rfl (fun e he e' he'=> ?_) ?_
   ·rw [List.mem_singleton.1 he]
    exact a2 e' he'
   rintro r hb3 n3 hn3 ⟨rfl,hbH3⟩
   have a3:=A5O hbH3 (x:=nT) (by decide) (by decide) (by decide)
   have c3:=a3.del
   simp -implicitDefEqProofs only [go_sem,c3]
   subst hQ
   exact .is ⟨rfl,hb3,by rw [hfl];exact hbH3,rfl⟩
  ·exact fun _ _ _ _ _ h=>h
  ·rintro pre h n ⟨hb,hbH,rfl⟩
   refine⟨?_,?_,?_,?_,?_,fun k _=> ?_⟩
   ·exact G7.cons (by decide) (A5O hbH (by decide) (by decide) (by decide))
   ·exact G7.cons (by decide) (A5O hbH (by decide) (by decide) (by decide))
   ·exact G7.cons (by decide) (A5O hbH (by decide) (by decide) (by decide))
   ·exact G7.cons (by decide) (A5O hbH (by decide) (by decide) (by decide))
   ·exact G7.cons (by decide) (A5O hbH (by decide) (by decide) (by decide))
   ·have hk:nT<1000000000000∧nB<1000000000000∧nWS<1000000000000∧nWB<1000000000000:=by decide
    exact G7.cons (by unfold lK;omega) (A5O hbH (by unfold lK;omega) (by unfold lK;omega) (by unfold lK;omega))
 refine A3.pre (xs':= [.yld nT 2,.iptr [[.int .i64 ((0:Nat):Int)]] 0 0,.iptr [pr] 0 0,.iptr [[.str [109,97,105,110]]] 0 0]) (h':= [(nT,2,B),(nB,1,.tb tB 2 [[.nilp,.nils]])]) (n':=3) (O8.wk ⟨D3.1 (by simp -implicitDefEqProofs only [go_sem,A8]),fun e he=> ?_,Nat.le_refl _⟩) rfl ?_
 ·rcases List.mem_cons.1 he with rfl|he
  ·exact List.mem_cons_self
  ·exact List.mem_cons_of_mem _ (List.mem_cons.2 (.inl (List.mem_singleton.1 he)))
 refine A3.mono (hl1 nT 2 whole _ hR [] [] _ 3 (by simp) ⟨_,⟨.nilp,.inl rfl,.inl ⟨rfl,rfl⟩⟩,rfl⟩) ?_
 rintro r h' n' ⟨rfl,hb,hbH,rfl⟩
 have c0:=(A5O hbH (x:=nT) (by decide) (by decide) (by decide)).del
 subst hB
 simp -implicitDefEqProofs only [go_sem,c0]
 rw [List.nil_append]at hbH
 obtain⟨a,ha,⟨h0,_⟩|⟨nb,sb,hnb,rfl⟩⟩:=hbH
 ·exact absurd h0 hne
 generalize List.flatMap A3a whole=l at*
 have hq:nb≠nB:=by rcases hnb with rfl|rfl<;>decide
 refine A3.at [1,0] [] (C3e nB 1 nb sb _ a l hq hne (by omega)) rfl rfl ?_
 rintro r h' n2 hn2 ⟨rfl,rfl,rfl⟩
 simp -implicitDefEqProofs only [go_sem]
end Go.Proofs.YtcjgeliglgcflaaGreatDoor
