/-
 What Get and Load answer where the checksum does not fit. No condition.
-/
import Derived.Test.YtcjgeliglgcflaaGreatDoorDmC
import Derived.Test.YtcjgeliglgcflaaGreatDoorFnMb
set_option linter.unusedVariables false
set_option linter.unusedSimpArgs false
set_option maxRecDepth 100000
set_option maxHeartbeats 0
namespace Go.Proofs.YtcjgeliglgcflaaGreatDoor
open Go.Abs
attribute [local irreducible] A3 Run
theorem A8w(l:List Int):(byR l).map (fun r=>r.map (V.sub G6))=byR l:=by simp [byR,V.sub]
def B2N:V:= .agg [.str [],.int .i64 0,.int .i64 0,.bool false,.int .i64 0,.isl [],.isl [],.isl [],.isl [],.isl [],.isl []]
theorem C3n(M:List Int)(a b c d:Int)(h5:5≤M.length)(hl:M.length≤10000000000)(hne:V4 a b c d≠A1x M):Pure Tryz.prog 8 [.isl (byR (M++ [a,b,c,d]))] (.tup [B2N,.int .i64 20]):=by
 have hs:=B2G M (by have:10000000000≤reachBytes:=(by decide);omega)
 have hR:(byR (M++ [a,b,c,d])).length=M.length+4:=by rw [P5];simp
 have hS:=A3s (M++ [a,b,c,d])
 have ha:(byR (M++ [a,b,c,d]))[M.length]? =some [.int .u8 a]:=by simp [byR]
 have hb:(byR (M++ [a,b,c,d]))[M.length+1]? =some [.int .u8 b]:=by simp [byR]
 have hc:(byR (M++ [a,b,c,d]))[M.length+2]? =some [.int .u8 c]:=by simp [byR]
 have hd:(byR (M++ [a,b,c,d]))[M.length+3]? =some [.int .u8 d]:=by simp [byR]
 have ht:(byR (M++ [a,b,c,d])).take M.length=byR M:=by simp [byR]
 generalize byR (M++ [a,b,c,d])=BR at*
 generalize M.length=L at*
 refine Pure.of 0 (A3.enterK A5U (Nat.le_of_ble_eq_true rfl) fun Q hQ=>Run.go 100 ?_)
 have e0:(L:Int)+4-4=(L:Int):=by omega
 have e1:((L+4:Nat):Int)=(L:Int)+4:=by omega
 have c5:((L:Int)<5)=False:=eq_false (by omega)
 have t1:((L:Int)+1).toNat=L+1:=by omega
 have t2:((L:Int)+2).toNat=L+2:=by omega
 have t3:((L:Int)+3).toNat=L+3:=by omega
 have q0:((0:Int)≤(L:Int))=True:=eq_true (by omega)
 have q1:((L:Int)<(L:Int)+4)=True:=eq_true (by omega)
 have u0:(L<L+4)=True:=eq_true (by omega)
 have u1:(L+1<L+4)=True:=eq_true (by omega)
 have u2:(L+2<L+4)=True:=eq_true (by omega)
 have u3:(L+3<L+4)=True:=eq_true (by omega)
 have v1:((L:Int)+1<(L:Int)+4)=True:=eq_true (by omega)
 have v2:((L:Int)+2<(L:Int)+4)=True:=eq_true (by omega)
 have v3:((L:Int)+3<(L:Int)+4)=True:=eq_true (by omega)
 have p1:((0:Int)≤(L:Int)+1)=True:=eq_true (by omega)
 have p2:((0:Int)≤(L:Int)+2)=True:=eq_true (by omega)
 have p3:((0:Int)≤(L:Int)+3)=True:=eq_true (by omega)
 simp -implicitDefEqProofs only [go_sem,A8,hR,hS,e0,e1,c5,t1,t2,t3,q0,q1,u0,u1,u2,u3,v1,v2,v3,p1,p2,p3,ha,hb,hc,hd,Option.some.injEq,forall_eq',Int.toNat_natCast]
 have hsub:((L:Int)-0).toNat=L:=by omega
 rw [hsub,ht]
 refine⟨by omega,by omega,by omega,by omega,by omega,A3.pureF hs (by simp -implicitDefEqProofs only [go_sem,A8w]) ?_⟩
 have hne':=eq_false hne
 unfold V4 at hne'
 simp -implicitDefEqProofs only [go_sem,hne']
 subst hQ
 exact .is rfl
-- EV: dW, dB
attribute [local go_sem] dW dB
theorem B8k(l:List Int)(d:Nat)(h:A2):(byR l).map (fun r=>r.map (frz d h))=byR l:=by
 have e: ∀a:Int,frz d h (.int .u8 a)= .int .u8 a:=fun a=>by cases d<;>rfl
 simp [byR,e]
def C6J(p:Fn):V:=if A3E p=0 then .tup [.isl (byR (B5y p)),.int .i64 0]else .tup [.isl [],.int .i64 (A3E p)]
theorem C1Z(p:Fn)(hp:p.bd)(hd:p.depth≤1000000)(hl:(W6 p).length≤10000000000):Pure Tryz.prog 6 [.agg p.row] (C6J p):=by
 have hc:=A0K p hp hd
 have hps:=Fn.row_sub G6 p
 obtain⟨g1,g2⟩:=C7 p
 have hf:=fun s n=>A1w (B9G p 2 s n [83,67,82,66,1] (by simp;omega))
 have hsum:=B2G (A2S p) (by unfold A2S;have:10000000010≤reachBytes:=(by decide);simp;omega)
 generalize p.row=pr at*
 refine Pure.of 1 (A3.enterK B0k (Nat.le_of_ble_eq_true rfl) fun Q hQ=>Run.go 100 ?_)
 simp -implicitDefEqProofs only [go_sem,A8,g1,g2]
 refine A3.pureF hc (by simp -implicitDefEqProofs only [go_sem,hps]) ?_
 unfold C6J at hQ
 by_cases c:A3E p=0
 ·rw [if_pos c]at hQ
  simp -implicitDefEqProofs only [go_sem,c,g1,g2]
  refine A3.at [0,1] [2] (hf _ _) rfl rfl ?_
  rintro r h' n1 hn1 ⟨rfl,s1,L,e1,k1,rfl⟩
  have e2:L=A2S p:=e1
  rw [←e2]at hsum
  have hR:=P5 L
  have hS:=A3s L
  have hT:=A5Q L
  have hB:=fun h=>B8k L 0 h
  have hB2:=fun h=>B8k L 2 h
  have k2:L.length≤10000000005:=by rw [k1];simp;omega
  have hW:byR (B5y p)=byR L++ [[.int .u8 (IntKind.u8.wrap (A1x L))],[.int .u8 (IntKind.u8.wrap (shZ false .u32 (A1x L) 8))],[.int .u8 (IntKind.u8.wrap (shZ false .u32 (A1x L) 16))],[.int .u8 (IntKind.u8.wrap (shZ false .u32 (A1x L) 24))]]:=by
   unfold B5y
   rw [←e2,B8j]
   rfl
  rw [hW]at hQ
  rw [show (L.map fun z=> [V.int .u8 z])=byR L from rfl]at hsum
  unfold wrH
  generalize byR L=BR at*
  generalize A1x L=z at*
  generalize L.length=m at*
  have f1:(m≤m)=True:=eq_true (Nat.le_refl _)
  simp -implicitDefEqProofs only [go_sem,hR,hS,hT,f1]
  refine A3.view hsum 3 (by simp -implicitDefEqProofs only [go_sem,hR,hT,hB2,List.drop_zero]) rfl ?_
  simp -implicitDefEqProofs only [go_sem,hR,hS,hT,f1]
  subst hQ
  refine⟨by omega,.is ?_⟩
  have f2:(m+4≤m+4)=True:=eq_true (Nat.le_refl _)
  have hT2: ∀a b c d:List V,(BR++ [a,b,c,d]).take (m+4)=BR++ [a,b,c,d]:=fun a b c d=>List.take_of_length_le (by simp [hR])
  simp -implicitDefEqProofs only [go_sem,hR,hT2,hB,List.drop_zero,f2,List.map_append]
 ·rw [if_neg c]at hQ
  simp -implicitDefEqProofs only [go_sem,c]
  subst hQ
  exact .is rfl
end Go.Proofs.YtcjgeliglgcflaaGreatDoor
