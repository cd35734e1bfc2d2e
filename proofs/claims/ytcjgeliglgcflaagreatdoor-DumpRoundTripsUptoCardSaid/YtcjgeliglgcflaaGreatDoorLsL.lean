/-
 strings.Join, strings.Repeat and strconv.FormatBool, by the shelf's contracts. No condition.
-/
import Derived.Test.YtcjgeliglgcflaaGreatDoorShelf
import Derived.Test.YtcjgeliglgcflaaGreatDoorLsN
import Derived.Test.YtcjgeliglgcflaaGreatDoorExe
set_option linter.unusedVariables false
set_option linter.unusedSimpArgs false
namespace Go.Proofs.YtcjgeliglgcflaaGreatDoor
open Go Go.Abs Go.Shelf Go.RowKit
theorem A8g{P:Program}{f:FuncId}{xs:List V}{r:V}
  (h: ∀(w:World) O cargs,RL (A3u w O) xs cargs→Calls P f cargs w fun e w'=> ∃v,e= .returned v∧R (A3u w' O) r v∧Below w.heap.size w w'):Abs.Pure P f xs r:=by
 intro w O cargs _ _ hR
 refine(h w O cargs hR).mono ?_
 rintro e w' ⟨v,h1,h2,h3⟩
 exact⟨v,h1,h2,⟨h3.size,h3.os,h3.output⟩,h3.block⟩
theorem B1U: ∀xs:List (List UInt8),Lib.join xs [32]=Q4 xs
 | []=>rfl
 | [x]=>by rw [Lib.join_one];rfl
 |x::y::r=>by
  rw [Lib.join_cons,Q4,←B1U (y::r),Lib.join_cons]
  simp [Lib.joinTail]
theorem B9L(xs:List (List UInt8))(h0:xs≠ [])(hN:xs.length≤100000)(hlen:(Q4 xs).length≤140737488355328):Abs.Pure Tryz.prog 86 [.isl (xs.map fun x=> [.str x]),.str [32]] (.str (Q4 xs)):=by
 refine A8g fun w O cargs hR=> ?_
 obtain⟨hl,hR⟩:=hR
 obtain⟨cs⟩:=cargs
 match cs,hl with
 | [a,b],_=>
  have ha:=hR 0 _ a rfl rfl
  have hb:b= .string ⟨⟨[32]⟩⟩:=(hR 1 _ b rfl rfl).str_inv
  subst hb
  generalize hes:(xs.map fun x=> [V.str x])=es at ha
  have hel:es.length=xs.length:=by rw [←hes,List.length_map]
  cases ha with
  |isl0=>exact absurd (by simpa using hes) h0
  | isl _ p cap sz f hp hcap hrow hcell hRf=>
   have hget: ∀(j:Nat) x,xs[j]? =some x→es[j]? =some [V.str x]:=fun j x hj=>by rw [←hes,List.getElem?_map,hj];rfl
   have hsz:sz=1:=by
    obtain⟨x,r,rfl⟩:=List.exists_cons_of_ne_nil h0
    have:=hrow 0 _ (hget 0 x rfl)
    simpa using this.symm
   subst hsz
   have hc: ∀(j:Nat) x,xs[j]? =some x→w.cell? ⟨p.block,p.off+j,none⟩=some (.string ⟨⟨x⟩⟩)∧p.block<w.heap.size:=fun j x hj=>by
    obtain⟨h1,_⟩:=hcell j _ 0 _ (hget j x hj) rfl
    have h2:=(hRf j _ 0 _ (hget j x hj) rfl).str_inv
    rw [h2,Nat.mul_one,Nat.add_zero]at h1
    exact⟨h1,World.block_lt_of_cell? w ⟨p.block,p.off+j,none⟩ h1⟩
   have hbk:p.block<w.heap.size:=by
    obtain⟨x,r,rfl⟩:=List.exists_cons_of_ne_nil h0
    exact(hc 0 x rfl).2
   have hp':p=⟨p.block,p.off,none⟩:=by obtain⟨a,b,c⟩:=p;simp only at hp;rw [hp]
   have hmap:(xs.map fun x=>(⟨⟨x⟩⟩:ByteArray)).map (·.data.toList)=xs:=by rw [List.map_map];exact List.map_id' xs
   have hln:(xs.map fun x=>(⟨⟨x⟩⟩:ByteArray)).length=es.length:=by rw [hel,List.length_map]
   have key:=Tryz.strings_Join p.block p.off cap (xs.map fun x=>(⟨⟨x⟩⟩:ByteArray)) ⟨⟨[32]⟩⟩ w (fun j x hj=>by
    rw [List.getElem?_map,Option.map_eq_some_iff]at hj
    obtain⟨y,hy,rfl⟩:=hj
    exact(hc j y hy).1) hbk (by rw [List.length_map];omega) (by rw [hln];exact hcap) (by rw [hmap];show (Lib.join xs [32]).length≤_;rw [B1U];exact hlen)
   rw [hln,←hp']at key
   refine key.mono ?_
   rintro e w' ⟨rfl,hb⟩
   refine⟨_,rfl,?_,hb⟩
   rw [hmap]
   show R _ _ (.string ⟨(Lib.join xs [32]).toArray⟩)
   rw [B1U]
   exact R.str _
theorem B0C: ∀c:Nat,Lib.repeatL [32,32] c=List.replicate (2*c) (32:UInt8)
 |0=>rfl
 |c+1=>by
  rw [show 2*(c+1)=(2*c+1)+1 by omega,List.replicate_succ,List.replicate_succ,←B0C c];rfl
theorem B6p(c:Nat)(hc:c≤1000000):Abs.Pure Tryz.prog 23 [.str [32,32],.int .i64 c] (.str (List.replicate (2*c) 32)):=by
 refine A8g fun w O cargs hR=> ?_
 obtain⟨hl,hR⟩:=hR
 obtain⟨cs⟩:=cargs
 match cs,hl with
 | [a,b],_=>
  have ha:=(hR 0 _ a rfl rfl).str_inv
  have hb:=(hR 1 _ b rfl rfl).int_inv
  subst ha
  subst hb
  refine(Tryz.strings_Repeat ⟨⟨[32,32]⟩⟩ c w (by omega) (by show 2*c≤_;omega)).mono ?_
  rintro e w' ⟨rfl,hb⟩
  refine⟨_,rfl,?_,hb⟩
  show R _ _ (.string ⟨(Lib.repeatL [32,32] c).toArray⟩)
  rw [B0C]
  exact R.str _
theorem B0J(b:Bool):Abs.Pure Tryz.prog 88 [.bool b] (.str (if b=true then [116,114,117,101]else [102,97,108,115,101])):=by
 refine A8g fun w O cargs hR=> ?_
 obtain⟨hl,hR⟩:=hR
 obtain⟨cs⟩:=cargs
 match cs,hl with
 | [a],_=>
  have ha:=(hR 0 _ a rfl rfl).bool_inv
  subst ha
  refine(Tryz.strconv_FormatBool b w).mono ?_
  rintro e w' ⟨rfl,rfl⟩
  refine⟨_,rfl,?_,Below.refl _ _⟩
  have:Lib.formatBool b=(if b=true then [116,114,117,101]else [102,97,108,115,101]):=by cases b<;>decide
  rw [this]
  exact R.str _
end Go.Proofs.YtcjgeliglgcflaaGreatDoor
