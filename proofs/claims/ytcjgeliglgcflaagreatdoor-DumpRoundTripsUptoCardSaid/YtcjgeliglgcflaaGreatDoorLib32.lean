/-
 Functions of the library, by the shelf's contracts: strings.Split, strconv.Itoa, strconv.Atoi. No condition.
-/
import Derived.Test.YtcjgeliglgcflaaGreatDoorExe
import Derived.Test.YtcjgeliglgcflaaGreatDoorShelf
import Derived.Test.YtcjgeliglgcflaaGreatDoorOpcM
import Derived.Lib.LaidTab
import Derived.ChangeBears2
set_option linter.unusedVariables false
set_option linter.unusedSimpArgs false
namespace Go.Proofs.YtcjgeliglgcflaaGreatDoor
open Go Go.Abs
theorem B7l{E:Env}(h:GlR E){g:Nat}{k:IntKind}{zs:List Int}{name:String}(hg:B0t B0q g=some (zs.map (V.int k)))(hn:Tryz.prog.globalNamed name=some g):Lib.TabIs Tryz.prog E.w name k zs:=by
 have hm:=A9O hg
 obtain⟨cs,t,z,hh,hl,_,_⟩:=(h _ hm).1
 simp only [List.length_map]at hl hh
 have:cs=(zs.map fun z=>Value.int k z).toArray:=by
  refine Array.ext (by simpa using hl) fun i h1 h2=> ?_
  have hi:i<zs.length:=by omega
  obtain⟨x,q1,_,_,_,q2⟩:=(h _ hm).2 i (.int k zs[i]) (by simp [hi])
  have e:=q2.int_inv
  subst e
  have hc:E.w.cell? ⟨g,i,none⟩=cs[i]? :=by
   have hv:E.w.var? Tryz.prog name=some cs:=by unfold World.var?;rw [hn];simp [hh]
   exact var?_cell hn hv i
  simp only at q1
  rw [hc,Array.getElem?_eq_getElem h1]at q1
  injection q1 with q1
  rw [q1];simp
 unfold Lib.TabIs World.var?
 rw [hn,←this]
 simp [hh]
theorem E0(n:Int)(h0: -9223372036854775808≤n)(h1:n≤9223372036854775807):Abs.Pure Tryz.prog 50 [.int .i64 n] (.str (Lib.itoa n)):=by
 intro w O cargs hO hgl hR
 obtain⟨hl,hR⟩:=hR
 obtain⟨cs⟩:=cargs
 match cs,hl with
 | [a],_=>
  have ha:=(hR 0 _ a rfl rfl).int_inv
  subst ha
  refine(Tryz.strconv_Itoa n h0 h1 w (B7l hgl (g:=2) (by kernel_rfl) (by kernel_rfl))).mono ?_
  rintro e w' ⟨rfl,k,os,rfl⟩
  exact⟨_,rfl,.str _,⟨by simp [Sort.grow,World.drewN],by simp [Sort.grow,World.drewN],by simp [Sort.grow,World.drewN]⟩,fun x hx=>by simp [Sort.grow,World.drewN,Array.getElem?_append_left hx]⟩
end Go.Proofs.YtcjgeliglgcflaaGreatDoor
