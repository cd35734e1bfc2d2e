/-
 The reference's Valid. No condition.
-/
import Derived.Test.YtcaaenddpjepiaaGreatDoorFnMa
set_option linter.unusedVariables false
set_option linter.unusedSimpArgs false
set_option maxRecDepth 100000
set_option maxHeartbeats 0
namespace Go.Proofs.YtcaaenddpjepiaaGreatDoor
open Go.Abs
attribute [local irreducible] A0 Run V5
theorem C7c(a b:Nat):Pure Tryz.prog 194 [.int .i64 a,.int .i64 b] (.int .i64 (Nat.gcd a b)):=by
 refine Pure.of 0 (A0.enter A3n Jk (Run.go 100 ?_))
 refine QM ?_
 refine Run.rounds (fun(x:Nat×Nat)=>⟨[(1,.int .i64 x.2),(0,.int .i64 x.1)],[],0⟩) (fun x=>Nat.gcd x.1 x.2=Nat.gcd a b) (fun x=>x.2) (a,b) ze rfl ?_
 rintro⟨x,y⟩ h i
 simp only at h i⊢
 refine Run.unf A0Z (Run.go 100 ?_)
 exact JU
theorem C6U(z:Int)(h: -2147483647≤z):Pure Tryz.prog 195 [.int .i64 z] (.int .i64 z.natAbs):=by
 refine Pure.of 0 (A0.enter A3m Jk (Run.go 100 ?_))
 by_cases c:z<0
 ·have e:((z.natAbs:Nat):Int)=0-z:=by omega
  have a:((z.natAbs:Nat):Int)= -z:=by omega
  simp -implicitDefEqProofs only [go_sem,A4,c]
  omega
 ·have e:((z.natAbs:Nat):Int)=z:=by omega
  simp -implicitDefEqProofs only [go_sem,A4,c,e]
theorem C4o(p q:Int):Pure Tryz.prog 179 [.agg [.int .i64 p,.int .i64 q]] (.bool (n9 p q)):=by
 refine Pure.of 0 (A0.enter A1R Jk (Run.go 100 ?_))
 by_cases h:1≤q
 case neg=>
  have:n9 p q=false:=by simp [n9,h]
  simp -implicitDefEqProofs only [go_sem,A4,h,this,ge_iff_le]
 by_cases a:q≤2147483647
 case neg=>
  have:n9 p q=false:=by simp [n9,a]
  simp -implicitDefEqProofs only [go_sem,A4,h,a,this,ge_iff_le]
 by_cases c:p≤2147483647
 case neg=>
  have:n9 p q=false:=by simp [n9,c]
  simp -implicitDefEqProofs only [go_sem,A4,h,a,c,this,ge_iff_le]
 by_cases d: -2147483647≤p
 case neg=>
  have:n9 p q=false:=by simp [n9,d]
  simp -implicitDefEqProofs only [go_sem,A4,h,a,d,c,this,ge_iff_le]
 have b:n9 p q=decide (Int.gcd p q=1):=by simp [n9,h,a,d,c]
 have f:=C6U p d
 have e:=C7c p.natAbs q.natAbs
 have j:((q.natAbs:Nat):Int)=q:=by omega
 have g:Nat.gcd p.natAbs q.natAbs=Int.gcd p q:=rfl
 rw [j,g]at e
 have k:(((p.gcd q:Nat):Int)=1)=(p.gcd q=1):=propext zd
 simp -implicitDefEqProofs only [go_sem,A4,h,a,d,c,ge_iff_le]
 repeat' first|refine And.intro ?_ ?_|(refine A0.pureF f ze ?_;simp -implicitDefEqProofs only [go_sem];refine A0.pureF e ze ?_;simp -implicitDefEqProofs only [go_sem,b,g,k];done)|(refine A0.pureF f ze ?_;simp -implicitDefEqProofs only [go_sem])
theorem C7k(v:Kst): ∃b,(v.kind≤3→b=A0w v)∧Pure Tryz.prog 157 [.agg v.row] (.bool b):=by
 obtain⟨k,p,q,s,r⟩:=v
 have t:=C4o p q
 simp only
 by_cases i:k=0
 ·subst i
  refine⟨_,fun _=>rfl,Pure.of 0 (A0.enter E7 Jk (Run.go 100 ?_))⟩
  refine QR ?_
  simp only [Bool.and_assoc]
 by_cases l:k=1
 ·subst l
  refine⟨_,fun _=>rfl,Pure.of 0 (A0.enter E7 Jk (Run.go 100 ?_))⟩
  refine QR ?_
  by_cases e:r=0<;>by_cases d:r=1<;>simp [e,d,Bool.and_assoc]
 by_cases j:k=2
 ·subst j
  refine⟨_,fun _=>rfl,Pure.of 0 (A0.enter E7 Jk (Run.go 100 ?_))⟩
  refine QR ?_
  cases(decide (s= [])&&decide (r=0))
  ·exact⟨fun h=>absurd h zh,fun _=>(Bool.and_false _).symm⟩
  ·refine⟨fun _=> ?_,fun h=>absurd h zh⟩
   refine A0.pureF t ze ?_
   simp -implicitDefEqProofs only [go_sem,Bool.and_true]
 by_cases g:k=3
 ·subst g
  refine⟨_,fun _=>rfl,Pure.of 0 (A0.enter E7 Jk (Run.go 100 ?_))⟩
  refine QR ?_
  by_cases e:(s.length:Int)≤4096
  ·have d:s.length≤4096:=by omega
   simp [e,d,Bool.and_assoc]
  ·have d: ¬s.length≤4096:=by omega
   simp [e,d]
 by_cases n:k=6
 ·subst n
  refine⟨decide (1≤s.length)&&(decide (s.length≤4096)&&(decide (p=0)&&(decide (q=0)&&decide (r=0)))),fun h=>absurd h zd,Pure.of 0 (A0.enter E7 Jk (Run.go 100 ?_))⟩
  simp -implicitDefEqProofs only [go_sem,A4,Kst.row,ge_iff_le]
  by_cases m:(1:Int)≤(s.length:Int)
  ·have f:1≤s.length:=by omega
   by_cases e:(s.length:Int)≤4096
   ·have d:s.length≤4096:=by omega
    simp [m,f,e,d,Bool.and_assoc]
   ·have d: ¬s.length≤4096:=by omega
    simp [m,f,e,d]
  ·have f: ¬1≤s.length:=by omega
   simp [m,f]
 have u: ∀z:Int,z=4∨z=5∨z=7∨z=8→Pure Tryz.prog 157 [.agg (Kst.row ⟨z,p,q,s,r⟩)] (.bool (decide (p=0)&&(decide (q=0)&&(decide (s= [])&&decide (1≤r))))):=by
  rintro z (rfl|rfl|rfl|rfl)<;>
  (refine Pure.of 0 (A0.enter E7 Jk (Run.go 100 ?_))
   simp -implicitDefEqProofs only [go_sem,A4,Kst.row,ge_iff_le]
   by_cases a:p=0<;>by_cases b:q=0<;>by_cases c:s= []<;>simp [a,b,c])
 by_cases w:k=4∨k=5∨k=7∨k=8
 ·exact⟨_,fun h=>absurd h zd,u k w⟩
 have o:(k=4)=False:=Jj
 have A:(k=5)=False:=Jj
 have y:(k=7)=False:=Jj
 have x:(k=8)=False:=Jj
 refine⟨false,fun _=>by simp [A0w,i,l,j,g],Pure.of 0 (A0.enter E7 Jk (Run.go 100 ?_))⟩
 simp -implicitDefEqProofs only [go_sem,A4,Kst.row,i,l,j,g,n,o,A,y,x]
end Go.Proofs.YtcaaenddpjepiaaGreatDoor
