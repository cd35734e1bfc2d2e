/-
 lexer.Quote. No condition.
-/
import Derived.Test.YtflobbpcabopjaaGreatDoorLsN
import Derived.Test.YtflobbpcabopjaaGreatDoorCode
import Derived.Test.YtflobbpcabopjaaGreatDoorShelf
import Derived.Test.YtflobbpcabopjaaGreatDoorExe
set_option linter.unusedSimpArgs false set_option linter.unusedVariables false set_option maxRecDepth 100000
set_option maxHeartbeats 0
namespace Go.Proofs.YtflobbpcabopjaaGreatDoor
section
open Go Go.Abs
attribute [local irreducible] A0 Run
abbrev nQ:Nat:=(74*10000+6)
-- EV: nQ
attribute [local go_sem] nQ
theorem A0d(l:List UInt8):(C2 l).length=l.length:=List.length_map ..
theorem B6c(l:List UInt8):D5 (C2 l) 1=True:=eq_true (fun r hr=>by obtain⟨y,_,rfl⟩:=List.mem_map.1 hr;rfl)
theorem A4D(a b:List UInt8):C2 (a++b)=C2 a++C2 b:=by simp [C2]
theorem B8L(l:List UInt8):(C2 l).take l.length=C2 l:=List.take_of_length_le (by rw [A0d];exact Nat.le_refl _)
def qS(s:List UInt8)(k:Nat):List UInt8:=34::(s.take k).flatMap H4
theorem C9v{s:List UInt8}{k:Nat}{c:UInt8}(h:s[k]? =some c):qS s (k+1)=qS s k++H4 c:=by
 unfold qS
 rw [List.take_add_one,h,List.flatMap_append,Option.toList_some,List.flatMap_cons,List.flatMap_nil,List.append_nil,List.cons_append]
theorem D2Q(s:List UInt8):qS s s.length++ [34]=D2 s:=by
 unfold qS D2
 rw [List.take_length,List.cons_append]
theorem D2R(s:List UInt8)(k:Nat):(qS s k).length≤4*s.length+1:=by
 have h1: ∀l:List UInt8,(l.flatMap H4).length≤4*l.length:=by
  intro l
  induction l with
  |nil=>simp
  | cons c r ih=>
   have:(H4 c).length≤4:=by
    exact Kd
   rw [List.flatMap_cons,List.length_append,List.length_cons];omega
 have:=h1 (s.take k)
 rw [List.length_take]at this
 unfold qS
 exact Kz
theorem C9w: ∀n:Nat,n<256→IntKind.u8.wrap (48+IntKind.u8.wrap ((n:Int).tdiv 100))=((UInt8.ofNat (48+n/100)).toNat:Int):=by decide+kernel
theorem C9x: ∀n:Nat,n<256→IntKind.u8.wrap (48+(IntKind.u8.wrap ((n:Int).tdiv 10)).tmod 10)=((UInt8.ofNat (48+n/10%10)).toNat:Int):=by decide+kernel
theorem C9y: ∀n:Nat,n<256→IntKind.u8.wrap (48+(n:Int).tmod 10)=((UInt8.ofNat (48+n%10)).toNat:Int):=by decide+kernel
theorem A1C(s:List UInt8)(hs:s.length≤1000000000):Abs.Pure Tryz.prog 74 [.str s] (.str (D2 s)):=by
 refine Pure.of 0 (A0.enter A8p Jo (Run.go 100 ?_))
 refine Qz ?_
 refine Run.rounds (fun(k:Nat)=>⟨[(4,.int .i64 k),(3,.sl nQ k 0 (qS s k).length),(0,.str s)],[(nQ,k,.rows 1 (C2 (qS s k)))],k+1⟩) (fun k=>k≤s.length) (fun k=>s.length-k) 0 (by simp -implicitDefEqProofs only [go_sem,qS,C2,List.take_zero,List.flatMap_nil,List.map_cons,List.map_nil];try simp) (Nat.zero_le _) ?_
 intro k hk ih
 refine Run.unf B1U (Run.go 100 ?_)
 have hB:=D2R s k
 have hR:=A0d (qS s k)
 have hS:=B6c (qS s k)
 have hT:=B8L (qS s k)
 by_cases hlt:k<s.length
 ·obtain⟨c,hc⟩: ∃c,s[k]? =some c:=⟨s[k],by simp [hlt]⟩
  have q0:((k:Int)<(s.length:Int))=True:=Jm
  have q1:((0:Int)≤(k:Int))=True:=Jm
  have hzk:((k:Int)+1)=((k+1:Nat):Int):=by omega
  have nx:=C9v hc
  have nl:(qS s (k+1)).length=(qS s k).length+(H4 c).length:=by rw [nx,List.length_append]
  have nr:C2 (qS s (k+1))=C2 (qS s k)++C2 (H4 c):=by rw [nx,A4D]
  have fin:=fun s'=>ih s' (k+1) zd zd
  rw [nl,nr]at fin
  have hcl:=c.toNat_lt
  generalize C2 (qS s k)=BR at*
  generalize (qS s k).length=L at*
  have f1:(L≤L)=True:=eq_true (Nat.le_refl _)
  by_cases c10:c.toNat=10
  ·have e:(c.toNat:Int)=10:=by omega
   have hq:H4 c= [92,110]:=by unfold H4;rw [if_pos c10]
   exact Yr
  have n10: ¬(c.toNat:Int)=10:=by omega
  by_cases c9:c.toNat=9
  ·have e:(c.toNat:Int)=9:=by omega
   have hq:H4 c= [92,116]:=by unfold H4;rw [if_neg c10,if_pos c9]
   exact Yr
  have n9: ¬(c.toNat:Int)=9:=by omega
  by_cases c92:c.toNat=92∨c.toNat=34
  ·have hq:H4 c= [92,c]:=by unfold H4;rw [if_neg c10,if_neg c9,if_pos c92]
   rw [hq]at fin
   simp only [C2,List.map_cons,List.map_nil,List.length_cons,List.length_nil,show ((92:UInt8).toNat:Int)=92 from rfl]at fin
   rcases c92 with c92|c34
   ·have e:(c.toNat:Int)=92:=by omega
    simp only [e]at fin
    refine Jj ?_
    exact Xo
   ·have e:(c.toNat:Int)=34:=by omega
    simp only [e]at fin
    refine Jj ?_
    exact Xo
  have n92: ¬(c.toNat:Int)=92:=by omega
  have n34: ¬(c.toNat:Int)=34:=by omega
  by_cases cx:c.toNat<32∨126<c.toNat
  ·have hq:H4 c= [92,UInt8.ofNat (48+c.toNat/100),UInt8.ofNat (48+c.toNat/10%10),UInt8.ofNat (48+c.toNat%10)]:=by unfold H4;rw [if_neg c10,if_neg c9,if_neg c92,if_pos cx]
   rw [hq]at fin
   have w1:=C9w c.toNat zd
   have w2:=C9x c.toNat zd
   have w3:=C9y c.toNat zd
   simp only [C2,List.map_cons,List.map_nil,List.length_cons,List.length_nil,show ((92:UInt8).toNat:Int)=92 from rfl]at fin
   by_cases cl:c.toNat<32
   ·have e:((c.toNat:Int)<32)=True:=Jm
    simp -implicitDefEqProofs only [go_sem,q0,q1,hc,hR,hS,hT,f1,n10,n9,n92,n34,e,w1,w2,w3]
    exact Xo
   ·have e:((c.toNat:Int)<32)=False:=Jn
    have e2:((126:Int)<(c.toNat:Int))=True:=Jm
    simp -implicitDefEqProofs only [go_sem,q0,q1,hc,hR,hS,hT,f1,n10,n9,n92,n34,e,e2,w1,w2,w3]
    exact Xo
  ·have hq:H4 c= [c]:=by unfold H4;rw [if_neg c10,if_neg c9,if_neg c92,if_neg cx]
   rw [hq]at fin
   simp only [C2,List.map_cons,List.map_nil,List.length_cons,List.length_nil]at fin
   have e:((c.toNat:Int)<32)=False:=Jn
   have e2:((126:Int)<(c.toNat:Int))=False:=Jn
   simp -implicitDefEqProofs only [go_sem,q0,q1,hc,hR,hS,hT,f1,n10,n9,n92,n34,e,e2]
   exact Xo
 ·have e:k=s.length:=by omega
  subst e
  have ft:(C2 (qS s s.length)++ [[V.int .u8 34]]).take ((qS s s.length).length+1)=C2 (D2 s):=by
   rw [List.take_of_length_le (by rw [List.length_append,hR];exact Nat.le_refl _),←D2Q,A4D];rfl
  have hbst:C1k (some (C2 (D2 s)))=some (.str (D2 s)):=B7Y
  generalize C2 (D2 s)=Y at ft hbst
  generalize C2 (qS s s.length)=BR at*
  generalize (qS s s.length).length=L at*
  have f1:(L≤L)=True:=eq_true (Nat.le_refl _)
  simp -implicitDefEqProofs only [go_sem,Int.lt_irrefl,hR,hS,hT,f1,ft,hbst]
  omega
end
section
open Go Go.Abs Go.Shelf Go.RowKit
theorem n7{P:Program}{f:FuncId}{xs:List V}{r:V}
  (h: ∀(w:World) O cargs,RL (A2Y w O) xs cargs→Calls P f cargs w fun e w'=> ∃v,e= .returned v∧R (A2Y w' O) r v∧Below w.heap.size w w'):Abs.Pure P f xs r:=by
 intro w O cargs _ _ hR
 refine(h w O cargs hR).mono ?_
 rintro e w' ⟨v,h1,h2,h3⟩
 exact⟨v,h1,h2,⟨h3.size,h3.os,h3.output⟩,h3.block⟩
theorem B5h: ∀xs:List (List UInt8),Lib.join xs [32]=F1 xs
 | []=>rfl
 | [x]=>by rw [Lib.join_one];rfl
 |x::y::r=>by
  rw [Lib.join_cons,F1,←B5h (y::r),Lib.join_cons]
  simp [Lib.joinTail]
theorem C4E(xs:List (List UInt8))(h0:xs≠ [])(hN:xs.length≤100000)(hlen:(F1 xs).length≤140737488355328):Abs.Pure Tryz.prog 75 [.isl (xs.map fun x=> [.str x]),.str [32]] (.str (F1 xs)):=by
 refine n7 fun w O cargs hR=> ?_
 obtain⟨hl,hR⟩:=hR
 obtain⟨cs⟩:=cargs
 match cs,hl with
 | [a,b],_=>
  have ha:=hR 0 _ a rfl rfl
  have hb:b= .string ⟨⟨[32]⟩⟩:=(hR 1 _ b rfl rfl).str_inv
  subst hb
  generalize hes:(xs.map fun x=> [V.str x])=es at ha
  have hel:es.length=xs.length:=by rw [←hes,List.length_map]
  cases ha with
  |isl0=>exact absurd (by simpa using hes) h0
  | isl _ p cap sz f hp hcap hrow hcell hRf=>
   have hget: ∀(j:Nat) x,xs[j]? =some x→es[j]? =some [V.str x]:=fun j x hj=>by rw [←hes,List.getElem?_map,hj];rfl
   have hsz:sz=1:=by
    obtain⟨x,r,rfl⟩:=List.exists_cons_of_ne_nil h0
    have:=hrow 0 _ (hget 0 x rfl)
    simpa using this.symm
   subst hsz
   have hc: ∀(j:Nat) x,xs[j]? =some x→w.cell? ⟨p.block,p.off+j,none⟩=some (.string ⟨⟨x⟩⟩)∧p.block<w.heap.size:=fun j x hj=>by
    obtain⟨h1,_⟩:=hcell j _ 0 _ (hget j x hj) rfl
    have h2:=(hRf j _ 0 _ (hget j x hj) rfl).str_inv
    rw [h2,Nat.mul_one,Nat.add_zero]at h1
    exact⟨h1,World.block_lt_of_cell? w ⟨p.block,p.off+j,none⟩ h1⟩
   have hbk:p.block<w.heap.size:=by
    obtain⟨x,r,rfl⟩:=List.exists_cons_of_ne_nil h0
    exact(hc 0 x rfl).2
   have hp':p=⟨p.block,p.off,none⟩:=by obtain⟨a,b,c⟩:=p;simp only at hp;rw [hp]
   have hmap:(xs.map fun x=>(⟨⟨x⟩⟩:ByteArray)).map (·.data.toList)=xs:=by rw [List.map_map];exact List.map_id' xs
   have hln:(xs.map fun x=>(⟨⟨x⟩⟩:ByteArray)).length=es.length:=by rw [hel,List.length_map]
   have key:=Tryz.strings_Join p.block p.off cap (xs.map fun x=>(⟨⟨x⟩⟩:ByteArray)) ⟨⟨[32]⟩⟩ w (fun j x hj=>by
    rw [List.getElem?_map,Option.map_eq_some_iff]at hj
    obtain⟨y,hy,rfl⟩:=hj
    exact(hc j y hy).1) hbk (by rw [List.length_map];omega) (by rw [hln];exact hcap) (by rw [hmap];show (Lib.join xs [32]).length≤_;rw [B5h];exact hlen)
   rw [hln,←hp']at key
   refine key.mono ?_
   rintro e w' ⟨rfl,hb⟩
   refine⟨_,rfl,?_,hb⟩
   rw [hmap]
   show R _ _ (.string ⟨(Lib.join xs [32]).toArray⟩)
   rw [B5h]
   exact R.str _
theorem B3M: ∀c:Nat,Lib.repeatL [32,32] c=List.replicate (2*c) (32:UInt8)
 |0=>rfl
 |c+1=>by
  rw [show 2*(c+1)=(2*c+1)+1 by omega,List.replicate_succ,List.replicate_succ,←B3M c];rfl
theorem C0v(c:Nat)(hc:c≤1000000):Abs.Pure Tryz.prog 23 [.str [32,32],.int .i64 c] (.str (List.replicate (2*c) 32)):=by
 refine n7 fun w O cargs hR=> ?_
 obtain⟨hl,hR⟩:=hR
 obtain⟨cs⟩:=cargs
 match cs,hl with
 | [a,b],_=>
  have ha:=(hR 0 _ a rfl rfl).str_inv
  have hb:=(hR 1 _ b rfl rfl).int_inv
  subst ha
  subst hb
  refine(Tryz.strings_Repeat ⟨⟨[32,32]⟩⟩ c w zd (by show 2*c≤_;omega)).mono ?_
  rintro e w' ⟨rfl,hb⟩
  refine⟨_,rfl,?_,hb⟩
  show R _ _ (.string ⟨(Lib.repeatL [32,32] c).toArray⟩)
  rw [B3M]
  exact R.str _
theorem B3X(b:Bool):Abs.Pure Tryz.prog 77 [.bool b] (.str (if b=true then [116,114,117,101]else [102,97,108,115,101])):=by
 refine n7 fun w O cargs hR=> ?_
 obtain⟨hl,hR⟩:=hR
 obtain⟨cs⟩:=cargs
 match cs,hl with
 | [a],_=>
  have ha:=(hR 0 _ a rfl rfl).bool_inv
  subst ha
  refine(Tryz.strconv_FormatBool b w).mono ?_
  rintro e w' ⟨rfl,rfl⟩
  refine⟨_,rfl,?_,Below.refl _ _⟩
  have:Lib.formatBool b=(if b=true then [116,114,117,101]else [102,97,108,115,101]):=by cases b<;>decide
  rw [this]
  exact R.str _
end
end Go.Proofs.YtflobbpcabopjaaGreatDoor
