/-
 The reference's Valid. No condition.
-/
import Derived.Test.YtcaaenddpjepiaaGreatDoorFnCk
import Derived.Test.YtcaaenddpjepiaaGreatDoorTsub
import Derived.Test.YtcaaenddpjepiaaGreatDoorChecked
import Derived.Test.YtcaaenddpjepiaaGreatDoorFlowN
import Derived.Test.YtcaaenddpjepiaaGreatDoorRr
set_option linter.unusedVariables false
set_option linter.unusedSimpArgs false
set_option maxRecDepth 100000
set_option maxHeartbeats 0
namespace Go.Proofs.YtcaaenddpjepiaaGreatDoor
section
open Go.Abs
structure Pro where
 name:List UInt8
 line:Int
 params:Int
 vararg:Bool
 regs:Int
 code:List Ins
 lines:List Int
 consts:List (List V)
 protos:List Pro
 ups:List (List UInt8×Bool×Int)
 vars:List (List V)
def C5I(z:Int):List V:= [.int .i64 z]
def A6m(u:List UInt8×Bool×Int):List V:= [.str u.1,.bool u.2.1,.int .i64 u.2.2]
mutual
def Pro.row:Pro→List V
 |⟨name,line,params,vararg,regs,code,lines,consts,protos,ups,vars⟩=>
  [.str name,.int .i64 line,.int .i64 params,.bool vararg,.int .i64 regs,.isl (code.map Ins.row),.isl (lines.map C5I),.isl consts,.isl (Pro.rows protos),.isl (ups.map A6m),.isl vars]
def Pro.rows:List Pro→List (List V)
 | []=> []
 |p::r=>Pro.row p::Pro.rows r
end
theorem Pro.rows_map: ∀l:List Pro,Pro.rows l=l.map Pro.row
 | []=>rfl
 |p::r=>by rw [Pro.rows,Pro.rows_map r];rfl
theorem Pro.row_eq(p:Pro):p.row= [.str p.name,.int .i64 p.line,.int .i64 p.params,.bool p.vararg,.int .i64 p.regs,.isl (p.code.map Ins.row),.isl (p.lines.map C5I),.isl p.consts,.isl (p.protos.map Pro.row),.isl (p.ups.map A6m),.isl p.vars]:=by
 obtain⟨a,b,c,d,e,f,g,h,i,j,k⟩:=p
 rw [Pro.row,Pro.rows_map]
end
section
open Go.Abs
attribute [local irreducible] A0 Run
-- EV: Ins.v, Ins.row
attribute [local go_sem] Ins.v Ins.row
end
section
open Go.Abs
attribute [local irreducible] A0 Run
-- EV: Ins.v, Ins.row
attribute [local go_sem] Ins.v Ins.row
theorem X8(z:List Int)(h:z.length≤1000)(b st n:Nat):A0 Tryz.prog 121 [.sl b st 0 z.length] [(b,st,.rows 1 (z.map zrw))] n fun r h' _=>r= .isl ((F7 z).map zrw)∧h'= []:=
 A0.pre (xs':= [.isl (z.map zrw)]) (h':= []) (n':=n) (.freeze (b:=b) (st:=st) (sz:=1) (rs:=z.map zrw) List.mem_cons_self ⟨Frz.all (List.length_map ..).symm,trivial⟩ trivial) rfl
  (A0.pureF (C7h z h) (by simp only [List.map_cons,List.map_nil,V.sub,K0,B7k]) ⟨rfl,rfl⟩)
theorem C1J(a:Int):F7 [a,a+1,a+2]=G3 a 3:=by
 have e:G3 a 3= [a,a+1,a+2]:=by simp [G3,List.range_succ]
 rw [←e];exact B8E (B3t a 3)
theorem B6C(a b:Int)(h:a<b):F7 [a,b]= [a,b]:=by rw [B8F,if_neg zd,if_pos h]
theorem B0q(i:Ins):Pure Tryz.prog 94 [i.v] (.tup [.isl ((reads i).1.map zrw),.int .i64 (reads i).2]):=by
 refine Pure.of 1 (A0.enter A1U Jk ?_)
 refine Run.go 100 ?_
 refine QM ?_
 refine A0.pureF (B0n i) ze ?_
 by_cases c:chk i=0
 rotate_left
 ·rw [show reads i=([], -1) from if_neg c]
  simp -implicitDefEqProofs only [go_sem,c,List.map_nil]
 ·rw [show reads i=rds i from if_pos c,c]
  have d:=A4g c
  refine QL ?_
  repeat' (first|refine And.intro ?_ ?_|refine fun h=> ?_)
  all_goals first
   |omega
   |(simp [rds,zrw, *];done)
   | (rw [show rds i=(F7 [i.b], -1) by simp [rds,N4, *]]
      refine A0.at [0] [] (X8 [i.b] zf _ _ _) rfl rfl ?_
      rintro r a n b ⟨rfl,rfl⟩
      simp -implicitDefEqProofs only [go_sem,O7]
      done)
   | (rw [show rds i=(F7 [i.a], -1) by simp [rds,N4, *]]
      refine A0.at [0] [] (X8 [i.a] zf _ _ _) rfl rfl ?_
      rintro r a n b ⟨rfl,rfl⟩
      simp -implicitDefEqProofs only [go_sem,O7]
      done)
   | (rw [show rds i=(F7 [i.a+3], -1) by simp [rds,N4, *]]
      refine A0.at [0] [] (X8 [i.a+3] zf _ _ _) rfl rfl ?_
      rintro r a n b ⟨rfl,rfl⟩
      simp -implicitDefEqProofs only [go_sem,O7]
      done)
   | (rw [show rds i=(F7 [i.b,i.c], -1) by simp [rds, *]]
      refine A0.at [0] [] (X8 [i.b,i.c] zf _ _ _) rfl rfl ?_
      rintro r a n b ⟨rfl,rfl⟩
      simp -implicitDefEqProofs only [go_sem,O7]
      done)
   | (rw [show rds i=(F7 [i.a,i.b,i.c], -1) by simp [rds, *]]
      refine A0.at [0] [] (X8 [i.a,i.b,i.c] zf _ _ _) rfl rfl ?_
      rintro r a n b ⟨rfl,rfl⟩
      simp -implicitDefEqProofs only [go_sem,O7]
      done)
   | (rw [show rds i=(F7 [i.a,i.a+1,i.a+2], -1) by(rw [C1J];simp [rds,I1, *])]
      refine A0.at [0] [] (X8 [i.a,i.a+1,i.a+2] zf _ _ _) rfl rfl ?_
      rintro r a n b ⟨rfl,rfl⟩
      simp -implicitDefEqProofs only [go_sem,O7]
      done)
   | (rw [show rds i=(i.a::(I1 (i.a+1) i.b).1,(I1 (i.a+1) i.b).2) by simp [rds, *]]
      refine A0.at [0] [] (C4f i.a (i.a+1) i.b ⟨by omega,by omega⟩ zd _ _ _) rfl rfl ?_
      rintro r a n b ⟨s,rfl,rfl⟩
      refine QL ?_
      exact⟨rfl,O7 _ _ _⟩)
   | (rw [show rds i=I1 (i.a) i.b by simp [rds, *]]
      refine A0.at [] [] (B3U (i.a) i.b ⟨by omega,by omega⟩ zd _) rfl rfl ?_
      rintro r a n b ⟨rfl,rfl⟩
      simp -implicitDefEqProofs only [go_sem,O7]
      done)
theorem A8w(i:Ins):Pure Tryz.prog 98 [i.v] (.tup [.isl ((C6 i).1.map zrw),.int .i64 (C6 i).2]):=by
 refine Pure.of 1 (A0.enter A1b Jk ?_)
 refine Run.go 100 ?_
 refine QM ?_
 refine A0.pureF (B0n i) ze ?_
 by_cases c:chk i=0
 rotate_left
 ·rw [show C6 i=([], -1) from if_neg c]
  simp -implicitDefEqProofs only [go_sem,c,List.map_nil]
 ·rw [show C6 i=wrs i from if_pos c,c]
  have d:=A4g c
  have e:=C0G c
  refine QL ?_
  repeat' (first|refine And.intro ?_ ?_|refine fun h=> ?_)
  all_goals first
   |omega
   |(simp [wrs,zrw, *];done)
   | (rw [show wrs i=(F7 [i.a], -1) by simp [wrs,N4, *]]
      refine A0.at [0] [] (X8 [i.a] zf _ _ _) rfl rfl ?_
      rintro r a n b ⟨rfl,rfl⟩
      simp -implicitDefEqProofs only [go_sem,O7]
      done)
   | (rw [show wrs i=(F7 [i.a+3], -1) by simp [wrs,N4, *]]
      refine A0.at [0] [] (X8 [i.a+3] zf _ _ _) rfl rfl ?_
      rintro r a n b ⟨rfl,rfl⟩
      simp -implicitDefEqProofs only [go_sem,O7]
      done)
   | (rw [show wrs i=(F7 [i.a+2], -1) by simp [wrs,N4, *]]
      refine A0.at [0] [] (X8 [i.a+2] zf _ _ _) rfl rfl ?_
      rintro r a n b ⟨rfl,rfl⟩
      simp -implicitDefEqProofs only [go_sem,O7]
      done)
   | (rw [show wrs i=(F7 [i.a,i.a+1], -1) by(rw [B6C _ _ zd];simp [wrs, *])]
      refine A0.at [0] [] (X8 [i.a,i.a+1] zf _ _ _) rfl rfl ?_
      rintro r a n b ⟨rfl,rfl⟩
      simp -implicitDefEqProofs only [go_sem,O7]
      done)
   | (rw [show wrs i=(F7 [i.a,i.a+3], -1) by(rw [B6C _ _ zd];simp [wrs, *])]
      refine A0.at [0] [] (X8 [i.a,i.a+3] zf _ _ _) rfl rfl ?_
      rintro r a n b ⟨rfl,rfl⟩
      simp -implicitDefEqProofs only [go_sem,O7]
      done)
   | (rw [show wrs i=(G3 (i.a) (i.b-i.a+1).toNat, -1) by simp [wrs, *];exact A7R zd]
      refine A0.at [] [] (B3Z (i.a) (i.b-i.a+1) ⟨by omega,by omega⟩ zd _) rfl rfl ?_
      rintro r a n b ⟨rfl,rfl⟩
      simp -implicitDefEqProofs only [go_sem,O7]
      done)
   | (rw [show wrs i=(G3 (i.a+3) (i.c).toNat, -1) by simp [wrs, *];exact A7R zd]
      refine A0.at [] [] (B3Z (i.a+3) (i.c) ⟨by omega,by omega⟩ zd _) rfl rfl ?_
      rintro r a n b ⟨rfl,rfl⟩
      simp -implicitDefEqProofs only [go_sem,O7]
      done)
   | (rw [show wrs i=I1 (i.a) (i.c) by simp [wrs, *]]
      refine A0.at [] [] (B3U (i.a) (i.c) ⟨by omega,by omega⟩ zd _) rfl rfl ?_
      rintro r a n b ⟨rfl,rfl⟩
      simp -implicitDefEqProofs only [go_sem,O7]
      done)
   | (rw [show wrs i=I1 (i.a) (i.b) by simp [wrs, *]]
      refine A0.at [] [] (B3U (i.a) (i.b) ⟨by omega,by omega⟩ zd _) rfl rfl ?_
      rintro r a n b ⟨rfl,rfl⟩
      simp -implicitDefEqProofs only [go_sem,O7]
      done)
end
end Go.Proofs.YtcaaenddpjepiaaGreatDoor
