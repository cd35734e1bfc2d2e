/-
 ListingLines: the walk. No condition.
-/
import Derived.Test.YtflobbpcabopjaaGreatDoorLs0
import Derived.Test.YtflobbpcabopjaaGreatDoorLs4
import Derived.Test.YtflobbpcabopjaaGreatDoorLsV
set_option linter.unusedVariables false
set_option linter.unusedSimpArgs false
set_option maxRecDepth 100000
set_option maxHeartbeats 0
namespace Go.Proofs.YtflobbpcabopjaaGreatDoor
open Go Go.Abs
attribute [local irreducible] A0 Run
theorem C0p(l:List UInt8)(k:Nat)(c:UInt8)(h:l[k]? =some c):(l.take (k+1)).count 10=(l.take k).count 10+if c=10 then 1 else 0:=by
 rw [List.take_add_one,h,List.count_append,Option.toList_some,List.count_singleton]
 simp
theorem C5l(p:Fn)(hp:p.bd)(hv:n64L p.row)(hc:p.each.length≤1000000):Abs.Pure Tryz.prog 5 [.agg p.row] (.bool true):=by
 have aw:=B0Q
 have hlg:=A6m p hp hc
 obtain⟨g1,g2⟩:=B5 p
 have hps:=Fn.row_sub E8 p
 have hd:p.depth≤1000000:=Nat.le_trans (Fn.depth_each p) (by omega)
 by_cases hl:(p.each.length:Int)>60∨A1n p.each>2000
 ·rw [decide_eq_true hl]at hlg
  generalize p.row=pr at*
  refine Pure.of 0 (A0.enter E1 (Nat.le_of_ble_eq_true rfl) (Run.go 100 ?_))
  simp -implicitDefEqProofs only [go_sem,A3,g1,g2]
  refine A0.pureF hlg (by simp -implicitDefEqProofs only [go_sem,hps]) ?_
  simp -implicitDefEqProofs only [go_sem]
  refine A0.pureF aw rfl ?_
  simp -implicitDefEqProofs only [go_sem]
 rw [decide_eq_false hl]at hlg
 have htx:=V6 p hp hd hv (by omega)
 unfold B4h at htx
 by_cases hk: ¬A6d p=0
 ·rw [if_neg hk]at htx
  generalize p.row=pr at*
  refine Pure.of 0 (A0.enter E1 (Nat.le_of_ble_eq_true rfl) (Run.go 100 ?_))
  simp -implicitDefEqProofs only [go_sem,A3,g1,g2]
  refine A0.pureF hlg (by simp -implicitDefEqProofs only [go_sem,hps]) ?_
  simp -implicitDefEqProofs only [go_sem,g1,g2]
  refine A0.pureF htx (by simp -implicitDefEqProofs only [go_sem,hps]) ?_
  simp -implicitDefEqProofs only [go_sem,hk]
  refine A0.pureF aw rfl ?_
  simp -implicitDefEqProofs only [go_sem]
 have hk:A6d p=0:=Classical.not_not.1 hk
 rw [if_pos hk]at htx
 obtain⟨hdep,hok⟩:=B5I hk hv
 obtain⟨hl1,hl2⟩:=B6V hdep hok (by omega)
 rw [A2s]at hl1
 have hpt:=C0U p hp (by omega)
 have hfd:=B9m p
 obtain⟨s0,hs0⟩:=B5z p
 generalize Q8 p=s at*
 generalize p.row=pr at*
 refine Pure.of 0 (A0.enter E1 (Nat.le_of_ble_eq_true rfl) (Run.go 100 ?_))
 simp -implicitDefEqProofs only [go_sem,A3,g1,g2]
 refine A0.pureF hlg (by simp -implicitDefEqProofs only [go_sem,hps]) ?_
 simp -implicitDefEqProofs only [go_sem,g1,g2]
 refine A0.pureF htx (by simp -implicitDefEqProofs only [go_sem,hps]) ?_
 simp -implicitDefEqProofs only [go_sem]
 refine Run.roundsK (fun(x:Nat×Nat)=>⟨[(6,.int .i64 x.1),(5,.int .i64 ((s.take x.1).count 10:Nat)),(3,.str s),(1,.ptr (5*10000+1) 0 0 0)],[((5*10000+1),0,.rows 11 [pr])],x.2⟩)
  (fun x=>x.1≤s.length) (fun x=>s.length-x.1) (0,1) ?_ (Nat.zero_le _) ?_
 ·exact F7.wk ⟨B3.1 (by simp -implicitDefEqProofs only [go_sem,List.take_zero,List.count_nil]),fun e he=>he,Nat.le_refl _⟩
 rintro⟨k,m⟩ hle ihl
 simp only at hle ihl⊢
 have hcl:=List.count_le_length (a:=(10:UInt8)) (l:=s.take k)
 rw [List.length_take]at hcl
 refine Run.unf o6 (Run.go 100 ?_)
 by_cases hlt:k<s.length
 ·have q0:((k:Int)<(s.length:Int))=True:=eq_true (by omega)
  have q1:((0:Int)≤(k:Int))=True:=eq_true (by omega)
  obtain⟨c,hx⟩: ∃c,s[k]? =some c:=⟨s[k],by simp [hlt]⟩
  have hzk:((k+1:Nat):Int)=(k:Int)+1:=by omega
  have hct:=C0p s k c hx
  by_cases h10:c=10
  ·subst h10
   rw [if_pos rfl]at hct
   have t10:(((10:UInt8).toNat:Nat):Int)=10:=by decide
   simp -implicitDefEqProofs only [go_sem,q0,q1,hx,hlt,t10]
   refine⟨by omega,by omega,?_⟩
   exact ihl _ (k+1,m) (by simp only;omega) (by simp only;omega) (F7.wk ⟨B3.1 (by simp -implicitDefEqProofs only [go_sem,hzk,hct,Int.natCast_add,Int.cast_ofNat_Int]),fun e he=>he,Nat.le_refl _⟩)
  ·rw [if_neg h10,Nat.add_zero]at hct
   have hne: ¬(c.toNat:Int)=10:=fun h=>h10 (UInt8.toNat_inj.1 ((by omega:c.toNat=10).trans (by decide)))
   simp -implicitDefEqProofs only [go_sem,q0,q1,hx,hlt,hne]
   refine⟨by omega,?_⟩
   exact ihl _ (k+1,m) (by simp only;omega) (by simp only;omega) (F7.wk ⟨B3.1 (by simp -implicitDefEqProofs only [go_sem,hzk,hct]),fun e he=>he,Nat.le_refl _⟩)
 have e:k=s.length:=by omega
 subst e
 rw [List.take_length,hfd]
 simp -implicitDefEqProofs only [go_sem,Int.lt_irrefl,g1,g2]
 have hsl:s.length=s0.length+1:=by rw [hs0];simp
 have hsn:(s= [])=False:=eq_false (by rw [hs0];simp)
 have hsx:s[s0.length]? =some 10:=by rw [hs0];simp
 have hlz:(s.length:Int)-1=(s0.length:Int):=by omega
 have q0:((0:Int)≤(s0.length:Int))=True:=eq_true (by omega)
 have q1:(s0.length<s.length)=True:=eq_true (by omega)
 have t10:(((10:UInt8).toNat:Nat):Int)=10:=by decide
 refine A0.pureF hpt (by simp -implicitDefEqProofs only [go_sem,hps]) ?_
 simp -implicitDefEqProofs only [go_sem,hsn,hlz,hsx,q0,q1,t10]
 refine⟨by omega,?_⟩
 refine A0.pureF aw rfl ?_
 simp -implicitDefEqProofs only [go_sem]
theorem B1S(n0:List V)(w0:A4J Tryz.prog 29 n0)(hsm:bkL [.agg n0]≤1048576):Abs.Pure Tryz.prog 5 [.agg n0] (.bool true):=by
 have v0:=B0g w0
 obtain⟨p,rfl,hp,hb⟩:=B1N w0
 simp only [bkL,bkV]at hsm
 exact C5l p hb v0 (by have:=B4E p;omega)
end Go.Proofs.YtflobbpcabopjaaGreatDoor
