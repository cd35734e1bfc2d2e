/-
 lexer.Quote. No condition.
-/
import Derived.Test.YtcjgeliglgcflaaGreatDoorLsN
import Derived.Test.YtcjgeliglgcflaaGreatDoorCode
set_option linter.unusedVariables false
set_option linter.unusedSimpArgs false
set_option maxRecDepth 100000
set_option maxHeartbeats 0
namespace Go.Proofs.YtcjgeliglgcflaaGreatDoor
open Go Go.Abs
attribute [local irreducible] A3 Run
abbrev nQ:Nat:=(85*10000+6)
-- EV: nQ
attribute [local go_sem] nQ
theorem d5(l:List UInt8):(C1 l).length=l.length:=List.length_map ..
theorem B2E(l:List UInt8):C4 (C1 l) 1=True:=eq_true (fun r hr=>by obtain⟨y,_,rfl⟩:=List.mem_map.1 hr;rfl)
theorem A3p(a b:List UInt8):C1 (a++b)=C1 a++C1 b:=by simp [C1]
theorem B4R(l:List UInt8):(C1 l).take l.length=C1 l:=List.take_of_length_le (by rw [d5];exact Nat.le_refl _)
def qS(s:List UInt8)(k:Nat):List UInt8:=34::(s.take k).flatMap K1
theorem C3H{s:List UInt8}{k:Nat}{c:UInt8}(h:s[k]? =some c):qS s (k+1)=qS s k++K1 c:=by
 unfold qS
 rw [List.take_add_one,h,List.flatMap_append,Option.toList_some,List.flatMap_cons,List.flatMap_nil,List.append_nil,List.cons_append]
theorem C6K(s:List UInt8):qS s s.length++ [34]=R3 s:=by
 unfold qS R3
 rw [List.take_length,List.cons_append]
theorem C6L(s:List UInt8)(k:Nat):(qS s k).length≤4*s.length+1:=by
 have h1: ∀l:List UInt8,(l.flatMap K1).length≤4*l.length:=by
  intro l
  induction l with
  |nil=>simp
  | cons c r ih=>
   have:(K1 c).length≤4:=by
    unfold K1
    split
    ·simp
    ·split
     ·simp
     ·split
      ·simp
      ·split<;>simp
   rw [List.flatMap_cons,List.length_append,List.length_cons];omega
 have:=h1 (s.take k)
 rw [List.length_take]at this
 unfold qS
 rw [List.length_cons];omega
theorem C3I: ∀n:Nat,n<256→IntKind.u8.wrap (48+IntKind.u8.wrap ((n:Int).tdiv 100))=((UInt8.ofNat (48+n/100)).toNat:Int):=by decide+kernel
theorem C3J: ∀n:Nat,n<256→IntKind.u8.wrap (48+(IntKind.u8.wrap ((n:Int).tdiv 10)).tmod 10)=((UInt8.ofNat (48+n/10%10)).toNat:Int):=by decide+kernel
theorem C3K: ∀n:Nat,n<256→IntKind.u8.wrap (48+(n:Int).tmod 10)=((UInt8.ofNat (48+n%10)).toNat:Int):=by decide+kernel
theorem A4L(s:List UInt8)(hs:s.length≤1000000000):Abs.Pure Tryz.prog 85 [.str s] (.str (R3 s)):=by
 refine Pure.of 0 (A3.enter A5Z (Nat.le_of_ble_eq_true rfl) (Run.go 100 ?_))
 simp -implicitDefEqProofs only [go_sem,A8]
 refine Run.rounds (fun(k:Nat)=>⟨[(4,.int .i64 k),(3,.sl nQ k 0 (qS s k).length),(0,.str s)],[(nQ,k,.rows 1 (C1 (qS s k)))],k+1⟩) (fun k=>k≤s.length) (fun k=>s.length-k) 0 (by simp -implicitDefEqProofs only [go_sem,qS,C1,List.take_zero,List.flatMap_nil,List.map_cons,List.map_nil];try simp) (Nat.zero_le _) ?_
 intro k hk ih
 refine Run.unf A8O (Run.go 100 ?_)
 have hB:=C6L s k
 have hR:=d5 (qS s k)
 have hS:=B2E (qS s k)
 have hT:=B4R (qS s k)
 by_cases hlt:k<s.length
 ·obtain⟨c,hc⟩: ∃c,s[k]? =some c:=⟨s[k],by simp [hlt]⟩
  have q0:((k:Int)<(s.length:Int))=True:=eq_true (by omega)
  have q1:((0:Int)≤(k:Int))=True:=eq_true (by omega)
  have hzk:((k:Int)+1)=((k+1:Nat):Int):=by omega
  have nx:=C3H hc
  have nl:(qS s (k+1)).length=(qS s k).length+(K1 c).length:=by rw [nx,List.length_append]
  have nr:C1 (qS s (k+1))=C1 (qS s k)++C1 (K1 c):=by rw [nx,A3p]
  have fin:=fun s'=>ih s' (k+1) (by omega) (by omega)
  rw [nl,nr]at fin
  have hcl:=c.toNat_lt
  generalize C1 (qS s k)=BR at*
  generalize (qS s k).length=L at*
  have f1:(L≤L)=True:=eq_true (Nat.le_refl _)
  by_cases c10:c.toNat=10
  ·have e:(c.toNat:Int)=10:=by omega
   have hq:K1 c= [92,110]:=by unfold K1;rw [if_pos c10]
   rw [hq]at fin
   simp only [C1,List.map_cons,List.map_nil,List.length_cons,List.length_nil]at fin
   simp -implicitDefEqProofs only [go_sem,q0,q1,hc,hR,hS,hT,f1,e]
   exact⟨by omega,⟨by omega,by omega⟩,fin _ (by simp -implicitDefEqProofs only [go_sem,hzk])⟩
  have n10: ¬(c.toNat:Int)=10:=by omega
  by_cases c9:c.toNat=9
  ·have e:(c.toNat:Int)=9:=by omega
   have hq:K1 c= [92,116]:=by unfold K1;rw [if_neg c10,if_pos c9]
   rw [hq]at fin
   simp only [C1,List.map_cons,List.map_nil,List.length_cons,List.length_nil]at fin
   simp -implicitDefEqProofs only [go_sem,q0,q1,hc,hR,hS,hT,f1,e]
   exact⟨by omega,⟨by omega,by omega⟩,fin _ (by simp -implicitDefEqProofs only [go_sem,hzk])⟩
  have n9: ¬(c.toNat:Int)=9:=by omega
  by_cases c92:c.toNat=92∨c.toNat=34
  ·have hq:K1 c= [92,c]:=by unfold K1;rw [if_neg c10,if_neg c9,if_pos c92]
   rw [hq]at fin
   simp only [C1,List.map_cons,List.map_nil,List.length_cons,List.length_nil,show ((92:UInt8).toNat:Int)=92 from rfl]at fin
   rcases c92 with c92|c34
   ·have e:(c.toNat:Int)=92:=by omega
    simp only [e]at fin
    simp -implicitDefEqProofs only [go_sem,q0,q1,hc,hR,hS,hT,f1,e]
    exact⟨by omega,⟨by omega,by omega⟩,fin _ (by simp -implicitDefEqProofs only [go_sem,hzk])⟩
   ·have e:(c.toNat:Int)=34:=by omega
    simp only [e]at fin
    simp -implicitDefEqProofs only [go_sem,q0,q1,hc,hR,hS,hT,f1,e]
    exact⟨by omega,⟨by omega,by omega⟩,fin _ (by simp -implicitDefEqProofs only [go_sem,hzk])⟩
  have n92: ¬(c.toNat:Int)=92:=by omega
  have n34: ¬(c.toNat:Int)=34:=by omega
  by_cases cx:c.toNat<32∨126<c.toNat
  ·have hq:K1 c= [92,UInt8.ofNat (48+c.toNat/100),UInt8.ofNat (48+c.toNat/10%10),UInt8.ofNat (48+c.toNat%10)]:=by unfold K1;rw [if_neg c10,if_neg c9,if_neg c92,if_pos cx]
   rw [hq]at fin
   have w1:=C3I c.toNat (by omega)
   have w2:=C3J c.toNat (by omega)
   have w3:=C3K c.toNat (by omega)
   simp only [C1,List.map_cons,List.map_nil,List.length_cons,List.length_nil,show ((92:UInt8).toNat:Int)=92 from rfl]at fin
   by_cases cl:c.toNat<32
   ·have e:((c.toNat:Int)<32)=True:=eq_true (by omega)
    simp -implicitDefEqProofs only [go_sem,q0,q1,hc,hR,hS,hT,f1,n10,n9,n92,n34,e,w1,w2,w3]
    exact⟨by omega,⟨by omega,by omega⟩,fin _ (by simp -implicitDefEqProofs only [go_sem,hzk])⟩
   ·have e:((c.toNat:Int)<32)=False:=eq_false (by omega)
    have e2:((126:Int)<(c.toNat:Int))=True:=eq_true (by omega)
    simp -implicitDefEqProofs only [go_sem,q0,q1,hc,hR,hS,hT,f1,n10,n9,n92,n34,e,e2,w1,w2,w3]
    exact⟨by omega,⟨by omega,by omega⟩,fin _ (by simp -implicitDefEqProofs only [go_sem,hzk])⟩
  ·have hq:K1 c= [c]:=by unfold K1;rw [if_neg c10,if_neg c9,if_neg c92,if_neg cx]
   rw [hq]at fin
   simp only [C1,List.map_cons,List.map_nil,List.length_cons,List.length_nil]at fin
   have e:((c.toNat:Int)<32)=False:=eq_false (by omega)
   have e2:((126:Int)<(c.toNat:Int))=False:=eq_false (by omega)
   simp -implicitDefEqProofs only [go_sem,q0,q1,hc,hR,hS,hT,f1,n10,n9,n92,n34,e,e2]
   exact⟨by omega,⟨by omega,by omega⟩,fin _ (by simp -implicitDefEqProofs only [go_sem,hzk])⟩
 ·have e:k=s.length:=by omega
  subst e
  have ft:(C1 (qS s s.length)++ [[V.int .u8 34]]).take ((qS s s.length).length+1)=C1 (R3 s):=by
   rw [List.take_of_length_le (by rw [List.length_append,hR];exact Nat.le_refl _),←C6K,A3p];rfl
  have hbst:B4h (some (C1 (R3 s)))=some (.str (R3 s)):=B4i
  generalize C1 (R3 s)=Y at ft hbst
  generalize C1 (qS s s.length)=BR at*
  generalize (qS s s.length).length=L at*
  have f1:(L≤L)=True:=eq_true (Nat.le_refl _)
  simp -implicitDefEqProofs only [go_sem,Int.lt_irrefl,hR,hS,hT,f1,ft,hbst]
  omega
end Go.Proofs.YtcjgeliglgcflaaGreatDoor
