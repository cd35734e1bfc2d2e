/-
 The scanner of listing.Parse: value. No condition.
-/
import Derived.Test.YtflobbpcabopjaaGreatDoorLpB
import Derived.Test.YtflobbpcabopjaaGreatDoorLpQ
import Derived.Test.YtflobbpcabopjaaGreatDoorLpV
import Derived.Test.YtflobbpcabopjaaGreatDoorLs2
set_option linter.unusedVariables false set_option linter.unusedSimpArgs false set_option maxRecDepth 100000
set_option maxHeartbeats 0
namespace Go.Proofs.YtflobbpcabopjaaGreatDoor
section
open Go Go.Abs
attribute [local irreducible] A0 Run
theorem F2{f:FuncId}{xs:List V}{b st n:Nat}{x y:Sc}{v:V}{rest:A2}{k:Res}(hc:A0 Tryz.prog f xs (scH b st x) n (fun r h' _=>r=v∧h'=scH b st y))(ha:B4 rest b)
  (hk: ∀n',n≤n'→k v ((b,st,.rows 2 [[.str y.s,.bool y.ok]])::rest) n'):A0 Tryz.prog f xs ((b,st,.rows 2 [[.str x.s,.bool x.ok]])::rest) n k:=by
 refine A0.frame (rest:=rest) hc (fun e he=>by rw [List.mem_singleton.1 he];exact List.mem_cons_self) (fun e he=>⟨List.mem_cons_of_mem _ he,fun e' he'=>by rw [List.mem_singleton.1 he'];exact Ne.symm (ha e he)⟩) ?_
 exact Ky
theorem A6l(x:Sc)(n:Nat):(x.take n).s.length≤x.s.length:=by
 unfold Sc.take
 split
 ·exact Nat.zero_le _
 ·split
  ·exact Nat.le_refl _
  ·simp
theorem A9R(x:Sc):x.word.s.length≤x.s.length:=A6l x _
theorem N3(w:List UInt8)(x:Sc):(x.expect w).s.length≤x.s.length:=A6l x _
theorem A3r(x:Sc):x.num.s.length≤x.s.length:=A6l x _
theorem A4s(m:Int)(x:Sc):(x.number m).s.length≤x.s.length:=A6l x _
theorem A9i(x:Sc):x.quoted.s.length≤x.s.length:=by
 unfold Sc.quoted
 split
 ·exact Nat.le_refl _
 ·exact A6l x _
theorem D6a(s:List UInt8):Lib.hasPrefix s [34]=decide (s[0]? =some 34):=by
 unfold Lib.hasPrefix
 cases s with
 |nil=>rfl
 |cons c r=>
  simp only [List.isPrefixOf,List.getElem?_cons_zero,Option.some.injEq,Bool.and_true]
  rw [Bool.eq_iff_iff,beq_iff_eq,decide_eq_true_iff]
  exact eq_comm
abbrev nSc:Nat:=(67*10000+9)
-- EV: nSc
attribute [local go_sem] nSc
theorem C2D(st n:Nat)(x:Sc)(hB:x.s.length≤100000):
  A0 Tryz.prog 103 [.ptr nSc st 0 0] (scH nSc st x) n (fun r h' _=>r= .agg (x.valV D8).row∧h'=scH nSc st (x.val D8)):=by
 have hq:=fun n=>A4z nSc st n zf zf zf x hB
 have hw:=fun n=>A0h nSc st n x hB
 have hwl:=Nat.le_trans (D1n x) hB
 have hp:=B8t x.w hwl
 have hok:=C0l x.w
 have hpre:=C7 x.s [34]
 rw [D6a]at hpre
 unfold Sc.valV Sc.val
 generalize D8 x.w=F at*
 generalize x.w=w at*
 generalize x.word=y at*
 generalize x.q=q at*
 generalize x.quoted=z at*
 obtain⟨s,ok⟩:=x
 obtain⟨ys,yo⟩:=y
 obtain⟨zs,zo⟩:=z
 obtain⟨p,q',e⟩:=F
 unfold nV at hp
 unfold scH at*
 simp only at*
 refine A0.enterK Z2 Jo fun Q hQ=>Run.go 100 ?_
 by_cases h1:s[0]? =some 34
 ·rw [if_pos h1,if_pos h1]at hQ
  rw [decide_eq_true h1]at hpre
  refine Qz ?_
  refine A0.pureF hpre ze ?_
  refine Qy ?_
  refine A0.at [1] [0] (hq _) rfl rfl ?_
  rintro r h' n' hn ⟨rfl,rfl⟩
  refine Qy ?_
  exact XT
 rw [if_neg h1,if_neg h1]at hQ
 rw [decide_eq_false h1]at hpre
 by_cases h2:s=B6w
 ·subst h2
  rw [if_pos rfl,if_pos (.inl rfl)]at hQ
  refine Qz ?_
  refine A0.pureF hpre ze ?_
  simp -implicitDefEqProofs only [go_sem,B6w]
  exact XT
 rw [if_neg h2]at hQ
 by_cases h3:s=B0v
 ·subst h3
  rw [if_pos rfl,if_pos (.inr (.inl rfl))]at hQ
  refine Qz ?_
  refine A0.pureF hpre ze ?_
  simp -implicitDefEqProofs only [go_sem,B0v]
  exact XT
 rw [if_neg h3]at hQ
 by_cases h4:s=A4Z
 ·subst h4
  rw [if_pos rfl,if_pos (.inr (.inr rfl))]at hQ
  refine Qz ?_
  refine A0.pureF hpre ze ?_
  simp -implicitDefEqProofs only [go_sem,A4Z]
  exact XT
 rw [if_neg h4,if_neg (fun h=>h.elim h2 fun h=>h.elim h3 h4)]at hQ
 have g2:(s= [110,105,108])=False:=eq_false h2
 have g3:(s= [116,114,117,101])=False:=eq_false h3
 have g4:(s= [102,97,108,115,101])=False:=eq_false h4
 by_cases he:e=0
 ·subst he
  have hn:=hok.1 rfl
  have ht:=B2g p q' hn
  by_cases hw2:Z3 p q'=w<;>cases yo
  all_goals
   refine Qz ?_
   refine A0.pureF hpre ze ?_
   simp -implicitDefEqProofs only [go_sem,g2,g3,g4]
   refine A0.at [1] [0] (hw _) rfl rfl ?_
   rintro r h' n' hn ⟨rfl,rfl⟩
   refine Qy ?_
   refine A0.pureF hp ze ?_
   simp -implicitDefEqProofs only [go_sem]
   try (refine A0.pureF ht ze ?_;simp -implicitDefEqProofs only [go_sem,hw2])
   simp only [hw2,Bool.false_and,Bool.true_and,Bool.and_true,Bool.and_false,decide_true,decide_false,Bool.and_self]at hQ
   exact XT
 ·have f0:(e=0)=False:=eq_false he
  cases yo
  all_goals
   refine Qz ?_
   refine A0.pureF hpre ze ?_
   simp -implicitDefEqProofs only [go_sem,g2,g3,g4]
   refine A0.at [1] [0] (hw _) rfl rfl ?_
   rintro r h' n' hn ⟨rfl,rfl⟩
   refine Qy ?_
   refine A0.pureF hp ze ?_
   simp -implicitDefEqProofs only [go_sem,f0]
   simp only [he,Bool.false_and,Bool.true_and,Bool.and_true,Bool.and_false,decide_true,decide_false,Bool.and_self]at hQ
   exact XT
end
section
open Go Go.Abs
attribute [local irreducible] A0 Run
def SlH(nm sz:Nat)(l:List (List V))(v:V)(h:A2):Prop:=(l= []∧v= .nils∧h= [])∨ ∃st,v= .sl nm st 0 l.length∧h= [(nm,st,.rows sz l)]
theorem SlH.ap{nm sz:Nat}{l:List (List V)}{v:V}{h:A2}(hs:SlH nm sz l v h){x:Nat}(hx:nm≠x):B4 h x:=by
 rcases hs with⟨_,_,rfl⟩|⟨st,_,rfl⟩
 ·exact B4.nil
 ·exact B4.cons hx B4.nil
abbrev nUp:Nat:=(104*10000+48)
abbrev nUx:Nat:=(104*10000+4)
abbrev nVa:Nat:=(105*10000+63)
abbrev nVx:Nat:=(105*10000+4)
abbrev nLi:Nat:=(106*10000+31)
abbrev nCo:Nat:=(106*10000+98)
abbrev nCx:Nat:=(106*10000+5)
abbrev nNd:Nat:=(66*10000+104)
-- EV: nUp, nUx, nVa, nVx, nLi, nCo, nCx, nSc, nNd
attribute [local go_sem] nUp nUx nVa nVx nLi nCo nCx nSc nNd
theorem P4{f:FuncId}{xs:List V}{b st n:Nat}{x y:Sc}{v:V}{e:Nat×Nat×Blk}{rest:A2}{k:Res}(hc:A0 Tryz.prog f xs (scH b st x) n (fun r h' _=>r=v∧h'=scH b st y))(he:e.1≠b)(ha:B4 rest b)
  (hk: ∀n',n≤n'→k v ((b,st,.rows 2 [[.str y.s,.bool y.ok]])::e::rest) n'):A0 Tryz.prog f xs (e::(b,st,.rows 2 [[.str x.s,.bool x.ok]])::rest) n k:=by
 have ha':=Abs.B4.cons he ha
 refine A0.frame (rest:=e::rest) hc (fun e he=>by rw [List.mem_singleton.1 he];exact List.mem_cons_of_mem _ List.mem_cons_self) (fun e' he'=>⟨?_,fun e2 he2=>by rw [List.mem_singleton.1 he2];exact Ne.symm (ha' e' he')⟩) ?_
 ·rcases List.mem_cons.1 he' with rfl|h
  ·exact List.mem_cons_self
  ·exact List.mem_cons_of_mem _ (List.mem_cons_of_mem _ h)
 exact Ky
theorem D0b(st sb n:Nat)(x:Sc)(hB:x.s.length≤100000)(c0 c1 c2 c3 c4 c5 c6 c7 c8 c10 c11 c12 c13 vU:V)(us:List Upv)(hus:us.length≤100000000)(hU:A2)(hs:SlH nUp 3 (us.map Upv.row) vU hU)
  (x1 x2 x3 x4:Sc) (h1:x.number us.length=x1) (h2:x1.quoted=x2) (h3:Sc.mk x2.word.s (x2.word.ok&&(decide (x2.w=M2)||decide (x2.w=U4)))=x3) (h4:x3.num=x4):
  A0 Tryz.prog 104 [.ptr nNd sb 0 0,.ptr nSc st 0 0] ((nSc,st,.rows 2 [[.str x.s,.bool x.ok]])::(nNd,sb,.rows 14 [[c0,c1,c2,c3,c4,c5,c6,c7,c8,vU,c10,c11,c12,c13]])::hU) n
   (fun r h' _=>r= .tup []∧ ∃vU' hU',SlH nUp 3 ((us++ [Upv.mk x1.q (decide (x2.w=M2)) (atN x3.w)]).map Upv.row) vU' hU'∧h'=(nSc,st,.rows 2 [[.str x4.s,.bool x4.ok]])::(nNd,sb,.rows 14 [[c0,c1,c2,c3,c4,c5,c6,c7,c8,vU',c10,c11,c12,c13]])::hU'):=by
 have l1:x1.s.length≤100000:=by rw [←h1];exact Nat.le_trans (A4s _ _) hB
 have l2:x2.s.length≤100000:=by rw [←h2];exact Nat.le_trans (A9i _) l1
 have l3:x3.s.length≤100000:=by rw [←h3];exact Nat.le_trans (A9R _) l2
 have k1:=fun n=>A4q nSc st n x us.length hB
 have k2:=fun n=>A4z nSc st n zf zf zf x1 l1
 have k3:=fun n=>A0h nSc st n x2 l2
 have k4:=fun n=>A0x nSc st n x3 l3
 rw [h1]at k1
 rw [h2]at k2
 rw [h4]at k4
 clear h1 h2 h4
 generalize x1.q=nm at*
 generalize x2.w=w at*
 generalize x2.word=y at*
 generalize atN x3.w=z at*
 obtain⟨ys,yo⟩:=y
 obtain⟨s3,o3⟩:=x3
 injection h3 with h3a h3b
 simp only at h3a h3b
 subst h3a
 have fin: ∀(u:Upv) (vU':V) (hU' h':A2) (m:Nat),u=Upv.mk nm (decide (w=M2)) z→SlH nUp 3 ((us++ [u]).map Upv.row) vU' hU'→(∀e∈(nSc,st,.rows 2 [[.str x4.s,.bool x4.ok]])::(nNd,sb,.rows 14 [[c0,c1,c2,c3,c4,c5,c6,c7,c8,vU',c10,c11,c12,c13]])::hU',e∈h')→P2 (fun r h' _=>r= .tup []∧ ∃vU' hU',SlH nUp 3 ((us++ [Upv.mk nm (decide (w=M2)) z]).map Upv.row) vU' hU'∧h'=(nSc,st,.rows 2 [[.str x4.s,.bool x4.ok]])::(nNd,sb,.rows 14 [[c0,c1,c2,c3,c4,c5,c6,c7,c8,vU',c10,c11,c12,c13]])::hU') (.tup []) h' m:=by
  rintro u vU' hU' h' m rfl hs' hm
  exact .to (h2:=(nSc,st,.rows 2 [[.str x4.s,.bool x4.ok]])::(nNd,sb,.rows 14 [[c0,c1,c2,c3,c4,c5,c6,c7,c8,vU',c10,c11,c12,c13]])::hU') ⟨rfl,vU',hU',hs',rfl⟩ (.sub (C0.2 hm))
 have ml:(us.map Upv.row).length=us.length:=List.length_map ..
 refine A0.enterK A3n Jo fun Q hQ=>Run.go 100 ?_
 rcases hs with⟨hnil,rfl,rfl⟩|⟨s1,rfl,rfl⟩
 ·obtain rfl:us= []:=List.map_eq_nil_iff.1 hnil
  by_cases w1:w=M2
  ·have f1:(w= [108,111,99,97,108])=True:=eq_true w1
   cases yo
   ·obtain rfl:o3=false:=by rw [←h3b];simp [w1]
    exact Jy
   ·obtain rfl:o3=true:=by rw [←h3b];simp [w1]
    exact Jy
  ·have f1:(w= [108,111,99,97,108])=False:=eq_false w1
   by_cases w2:w=U4
   ·have f2:(w= [111,117,116,101,114])=True:=eq_true w2
    cases yo
    ·exact YD
    ·obtain rfl:o3=true:=by rw [←h3b];simp [w1,w2]
     exact Jq
   ·have f2:(w= [111,117,116,101,114])=False:=eq_false w2
    cases yo
    ·exact YD
    ·exact YD
 ·by_cases w1:w=M2
  ·have f1:(w= [108,111,99,97,108])=True:=eq_true w1
   cases yo
   ·obtain rfl:o3=false:=by rw [←h3b];simp [w1]
    exact Jv
   ·obtain rfl:o3=true:=by rw [←h3b];simp [w1]
    exact Jv
  ·have f1:(w= [108,111,99,97,108])=False:=eq_false w1
   by_cases w2:w=U4
   ·have f2:(w= [111,117,116,101,114])=True:=eq_true w2
    cases yo
    ·exact YE
    ·obtain rfl:o3=true:=by rw [←h3b];simp [w1,w2]
     exact Jp
   ·have f2:(w= [111,117,116,101,114])=False:=eq_false w2
    cases yo
    ·exact YE
    ·exact YE
end
end Go.Proofs.YtflobbpcabopjaaGreatDoor
