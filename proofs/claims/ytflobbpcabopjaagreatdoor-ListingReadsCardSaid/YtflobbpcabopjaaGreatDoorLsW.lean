/-
 strings.HasPrefix, IndexByte, Index, TrimLeft, Cut, by the shelf's contracts. No condition.
-/
import Derived.Test.YtflobbpcabopjaaGreatDoorLsL
import Derived.Test.YtflobbpcabopjaaGreatDoorLib32
set_option linter.unusedVariables false namespace Go.Proofs.YtflobbpcabopjaaGreatDoor
open Go Go.Abs Go.Shelf Go.RowKit
theorem C7(s p:List UInt8):Abs.Pure Tryz.prog 52 [.str s,.str p] (.bool (Lib.hasPrefix s p)):=by
 refine n7 fun w O cargs hR=> ?_
 obtain⟨hl,hR⟩:=hR
 obtain⟨cs⟩:=cargs
 match cs,hl with
 | [a,b],_=>
  have ha:=(hR 0 _ a rfl rfl).str_inv
  have hb:=(hR 1 _ b rfl rfl).str_inv
  subst ha
  subst hb
  refine(Tryz.strings_HasPrefix ⟨⟨s⟩⟩ ⟨⟨p⟩⟩ w).mono ?_
  rintro e w' ⟨rfl,rfl⟩
  exact⟨_,rfl,.bool _,.refl _ _⟩
theorem A8m(s:List UInt8)(c:UInt8):Abs.Pure Tryz.prog 154 [.str s,.int .u8 c.toNat] (.int .i64 (Lib.indexByte s c)):=by
 refine n7 fun w O cargs hR=> ?_
 obtain⟨hl,hR⟩:=hR
 obtain⟨cs⟩:=cargs
 match cs,hl with
 | [a,b],_=>
  have ha:=(hR 0 _ a rfl rfl).str_inv
  have hb:=(hR 1 _ b rfl rfl).int_inv
  subst ha
  subst hb
  refine(Tryz.strings_IndexByte ⟨⟨s⟩⟩ c.toNat w).mono ?_
  rintro e w' ⟨rfl,rfl⟩
  refine⟨_,rfl,?_,.refl _ _⟩
  rw [show ((c.toNat:Int)).toNat.toUInt8=c by simp]
  exact .int _ _
theorem B0r(s:List UInt8):Abs.Pure Tryz.prog 65 [.str s,.str [32]] (.str (Lib.trimLeftB s 32)):=by
 refine n7 fun w O cargs hR=> ?_
 obtain⟨hl,hR⟩:=hR
 obtain⟨cs⟩:=cargs
 match cs,hl with
 | [a,b],_=>
  have ha:=(hR 0 _ a rfl rfl).str_inv
  have hb:=(hR 1 _ b rfl rfl).str_inv
  subst ha
  subst hb
  refine(Tryz.strings_TrimLeft_one ⟨⟨s⟩⟩ 32 zf w).mono ?_
  rintro e w' ⟨rfl,rfl⟩
  exact⟨_,rfl,R.str _,.refl _ _⟩
theorem A8c(s p:List UInt8):Abs.Pure Tryz.prog 189 [.str s,.str p] (.tup [.str (Lib.trimPrefix s p),.bool (Lib.hasPrefix s p)]):=by
 refine n7 fun w O cargs hR=> ?_
 obtain⟨hl,hR⟩:=hR
 obtain⟨cs⟩:=cargs
 match cs,hl with
 | [a,b],_=>
  have ha:=(hR 0 _ a rfl rfl).str_inv
  have hb:=(hR 1 _ b rfl rfl).str_inv
  subst ha
  subst hb
  refine(Tryz.strings_CutPrefix ⟨⟨s⟩⟩ ⟨⟨p⟩⟩ w).mono ?_
  rintro e w' ⟨rfl,rfl⟩
  refine⟨_,rfl,.tup _ _ rfl fun i c v hc hv=> ?_,.refl _ _⟩
  match i with
  |0=>simp at hc hv;subst hc;subst hv;exact R.str _
  |1=>simp at hc hv;subst hc;subst hv;exact .bool _
  |i+2=>simp at hc
theorem B4O(s p:List UInt8)(hs:s.length≤1000000000):Abs.Pure Tryz.prog 28 [.str s,.str p] (.tup [.str (Lib.cut s p).1,.str (Lib.cut s p).2.1,.bool (Lib.cut s p).2.2]):=by
 intro w O cargs hO hgl hR
 obtain⟨hl,hR⟩:=hR
 obtain⟨cs⟩:=cargs
 match cs,hl with
 | [a,b],_=>
  have ha:=(hR 0 _ a rfl rfl).str_inv
  have hb:=(hR 1 _ b rfl rfl).str_inv
  subst ha;subst hb
  obtain⟨x,hx,hxr⟩:=B1M hgl (g:=0) (c:= [.anyi .i64]) zh 0 (.anyi .i64) rfl
  obtain⟨m,rfl⟩: ∃m,x= .int .i64 m:=by cases hxr;exact⟨_,rfl⟩
  refine(Tryz.strings_Cut ⟨⟨s⟩⟩ ⟨⟨p⟩⟩ m w (by show s.length<_;omega) hx).mono ?_
  rintro e w' ⟨rfl,n,rfl⟩
  refine⟨_,rfl,.tup _ _ rfl fun i c v hc hv=> ?_,⟨Nat.le_refl _,rfl,rfl⟩,fun _ _=>rfl⟩
  match i with
  |0=>simp at hc hv;subst hc;subst hv;exact R.str _
  |1=>simp at hc hv;subst hc;subst hv;exact R.str _
  |2=>simp at hc hv;subst hc;subst hv;exact .bool _
  |i+3=>simp at hc
end Go.Proofs.YtflobbpcabopjaaGreatDoor
