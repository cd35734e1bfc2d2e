/-
 A further line of a function: node.body. No condition.
-/
import Derived.Test.YtflobbpcabopjaaGreatDoorLpG
import Derived.Test.YtflobbpcabopjaaGreatDoorLpR
set_option linter.unusedVariables false set_option linter.unusedSimpArgs false set_option maxRecDepth 100000
set_option maxHeartbeats 0
namespace Go.Proofs.YtflobbpcabopjaaGreatDoor
section
open Go Go.Abs
attribute [local irreducible] A0 Run
abbrev nKc:Nat:=(67*10000+56)
-- EV: nUp, nUx, nVa, nVx, nLi, nCo, nCx, nSc, nNd, nKc
attribute [local go_sem] nUp nUx nVa nVx nLi nCo nCx nSc nNd nKc
theorem A5a(t:List UInt8):M6 t=if t.take 6= [99,111,110,115,116,32]then 1 else if t.take 3= [117,112,32]then 2 else if t.take 4= [118,97,114,32]then 3 else 4:=rfl
theorem B0H{f:FuncId}{xs:List V}{h1 R:A2}{n:Nat}{k k1:Res}(hc:A0 Tryz.prog f xs h1 n k1)(ha: ∀e∈h1,B4 R e.1)(hk: ∀r h' n',n≤n'→k1 r h' n'→k r (h'++R) n'):A0 Tryz.prog f xs (h1++R) n k:=
 A0.frame (rest:=R) hc (fun e he=>List.mem_append.2 (.inl he)) (fun e he=>⟨List.mem_append.2 (.inr he),fun e' he'=>Ne.symm (ha e' he' e he)⟩) hk
theorem B1u{f:FuncId}{xs:List V}{b st n:Nat}{x y:Sc}{v:V}{h h2:A2}{k:Res}(hc:A0 Tryz.prog f xs (scH b st x) n (fun r h' _=>r=v∧h'=scH b st y))(hm:(b,st,.rows 2 [[.str x.s,.bool x.ok]])∈h)(ha:B4 h2 b)(h2h: ∀e∈h2,e∈h)
  (hk: ∀n',n≤n'→k v ((b,st,.rows 2 [[.str y.s,.bool y.ok]])::h2) n'):A0 Tryz.prog f xs h n k:=by
 refine A0.frame (rest:=h2) hc (fun e he=>by rw [List.mem_singleton.1 he];exact hm) (fun e he=>⟨h2h e he,fun e' he'=>by rw [List.mem_singleton.1 he'];exact Ne.symm (ha e he)⟩) ?_
 exact Ky
theorem C6N(n:Nat)(t:List UInt8):(if (lS5 n t).ok=true∧(lS5 n t).s≠ []then(if (lS5 n t).w=O3 then(1:Int)else if (lS5 n t).w=A1J then 2 else 0)else 0)=A6Q n t:=by
 unfold A6Q B7i
 simp only [Bool.and_eq_true,decide_eq_true_eq]
theorem D2A(n:Nat)(t:List UInt8):(if (lS5 n t).ok=true∧(lS5 n t).s≠ []then Sc.mk (lS5 n t).word.s ((lS5 n t).word.ok&&(decide ((lS5 n t).w=O3)||decide ((lS5 n t).w=A1J)))else lS5 n t)=lS6 n t:=by
 unfold lS6 B7i
 simp only [Bool.and_eq_true,decide_eq_true_eq]
theorem B1v{f:FuncId}{xs:List V}{h h1 R:A2}{n:Nat}{k k1:Res}(hc:A0 Tryz.prog f xs h1 n k1)(m1: ∀e∈h1,e∈h)(m2: ∀e∈R,e∈h)(ha: ∀e∈h1,B4 R e.1)(hk: ∀r h' n',n≤n'→k1 r h' n'→k r (h'++R) n'):A0 Tryz.prog f xs h n k:=
 A0.frame (rest:=R) hc m1 (fun e he=>⟨m2 e he,fun e' he'=>Ne.symm (ha e' he' e he)⟩) hk
theorem C8F(sb n:Nat)(t:List UInt8)(R:A2)(hR:B4 R nNd)(c0 c1 c2 c3 c4 c5 c6 c7 c8 c9 c10 c11 c13:V)(kd:Nat)(hlt:M6 t<kd)(hd:A2.del R nSc=R):
  A0 Tryz.prog 67 [.ptr nNd sb 0 0,.str t] ((nNd,sb,.rows 14 [[c0,c1,c2,c3,c4,c5,c6,c7,c8,c9,c10,c11,.int .i64 kd,c13]])::R) n (fun r _ _=>r= .bool false):=by
 have p1:=C7 t [99,111,110,115,116,32]
 have p2:=C7 t [117,112,32]
 have p3:=C7 t [118,97,114,32]
 rw [A2O]at p1 p2 p3
 simp only [List.length_cons,List.length_nil,Nat.zero_add,Nat.reduceAdd]at p1 p2 p3
 rw [A5a]at hlt
 refine A0.enterK G6 Jo fun Q hQ=>Run.go 100 ?_
 by_cases c1':t.take 6= [99,111,110,115,116,32]
 ·rw [decide_eq_true c1']at p1
  rw [if_pos c1']at hlt
  have q1:((1:Int)<(kd:Int))=True:=Jm
  simp -implicitDefEqProofs only [go_sem,A3,hd]
  refine A0.pureF p1 ze ?_
  exact KN
 rw [decide_eq_false c1']at p1
 rw [if_neg c1']at hlt
 by_cases c2':t.take 3= [117,112,32]
 ·rw [decide_eq_true c2']at p2
  rw [if_pos c2']at hlt
  have q1:((2:Int)<(kd:Int))=True:=Jm
  simp -implicitDefEqProofs only [go_sem,A3,hd]
  refine A0.pureF p1 ze ?_
  refine QW ?_
  refine A0.pureF p2 ze ?_
  exact KN
 rw [decide_eq_false c2']at p2
 rw [if_neg c2']at hlt
 by_cases c3':t.take 4= [118,97,114,32]
 ·rw [decide_eq_true c3']at p3
  rw [if_pos c3']at hlt
  have q1:((3:Int)<(kd:Int))=True:=Jm
  exact XC
 rw [decide_eq_false c3']at p3
 rw [if_neg c3']at hlt
 have q1:((4:Int)<(kd:Int))=True:=Jm
 exact XC
theorem D1G(sb n:Nat)(t:List UInt8)(hB:t.length≤100000)(hi:M6 t=1)(R:A2)(hR:B4 R nSc∧B4 R nNd∧B4 R nKc)(c0 c1 c2 c3 c4 c5 c6 c8 c9 c10 c11 c13 vK:V)(kd:Nat)(hlt:kd≤1)(xs:List Kst)(hxs:xs.length≤100000000)(hX:A2)(hs:SlH nKc 5 (xs.map Kst.row) vK hX):
  A0 Tryz.prog 67 [.ptr nNd sb 0 0,.str t] ((nNd,sb,.rows 14 [[c0,c1,c2,c3,c4,c5,c6,vK,c8,c9,c10,c11,.int .i64 kd,c13]])::(hX++R)) n
   (fun r h' _=>r= .bool (cOk D8 xs.length t)∧ ∃vK' hX',SlH nKc 5 ((xs++ [B0F D8 xs.length t]).map Kst.row) vK' hX'∧h'=(nNd,sb,.rows 14 [[c0,c1,c2,c3,c4,c5,c6,vK',c8,c9,c10,c11,.int .i64 ((1:Nat):Int),c13]])::(hX'++R)):=by
 have HX:=hs.ap (x:=nSc) zf
 have HN:=hs.ap (x:=nNd) zf
 have p1:=C7 t [99,111,110,115,116,32]
 have p2:=C7 t [117,112,32]
 have p3:=C7 t [118,97,114,32]
 rw [A2O]at p1 p2 p3
 simp only [List.length_cons,List.length_nil,Nat.zero_add,Nat.reduceAdd]at p1 p2 p3
 rw [A5a]at hi
 have g1:t.take 6= [99,111,110,115,116,32]:=Classical.byContradiction fun g=>by
  rw [if_neg g]at hi
  exact YQ
 rw [decide_eq_true g1]at p1
 have d1:=(HX.append hR.1).del
 have d2:=(HN.append hR.2.1).del
 have bw:bX t=(Sc.mk t true).word:=rfl
 have kw:=fun st n=>A0h nSc st n ⟨t,true⟩ hB
 rw [←bw]at kw
 have lw:(bX t).s.length≤100000:=Nat.le_trans (A9R _) hB
 have q1:((1:Int)<(kd:Int))=False:=Jn
 have e1:cS xs.length t=(bX t).number xs.length:=rfl
 have k1:=fun st n=>A4q nSc st n (bX t) xs.length lw
 rw [←e1]at k1
 have l1:(cS xs.length t).s.length≤100000:=Nat.le_trans (A4s _ _) lw
 have k2:=fun st n=>C2D st n (cS xs.length t) l1
 have k3:=fun st n=>A8e nSc st n ((cS xs.length t).val D8)
 unfold cOk B0F
 generalize (cS xs.length t).valV D8=v at*
 generalize (cS xs.length t).val D8=z at*
 generalize cS xs.length t=y at*
 generalize bX t=x0 at*
 clear e1 bw
 have ml:(xs.map Kst.row).length=xs.length:=List.length_map ..
 refine A0.enterK G6 Jo fun Q hQ=>Run.go 100 ?_
 simp -implicitDefEqProofs only [go_sem,A3,d1,d2]
 refine A0.pureF p1 ze ?_
 simp -implicitDefEqProofs only [go_sem,q1,d1,d2]
 refine P4 (kw _ _) zg (HX.append hR.1) fun m1 hm1=> ?_
 obtain⟨vk,vp,vq,vs,vr⟩:=v
 unfold Kst.row at k2
 have e1:=hR.1.del
 have e2:=hR.2.1.del
 have e3:=hR.2.2.del
 have fin: ∀(u:Kst) (vK':V) (hX' h':A2) (m:Nat),SlH nKc 5 ((xs++ [u]).map Kst.row) vK' hX'→u=Kst.mk vk vp vq vs vr→(∀e∈(nNd,sb,.rows 14 [[c0,c1,c2,c3,c4,c5,c6,vK',c8,c9,c10,c11,.int .i64 ((1:Nat):Int),c13]])::(hX'++R),e∈h')→P2 Q (.bool (z.ok&&decide (z.s= []))) h' m:=by
  rintro u vK' hX' h' m h1 rfl h3
  rw [hQ]
  exact .to (h2:=(nNd,sb,.rows 14 [[c0,c1,c2,c3,c4,c5,c6,vK',c8,c9,c10,c11,.int .i64 ((1:Nat):Int),c13]])::(hX'++R)) ⟨rfl,vK',hX',h1,rfl⟩ (.sub (C0.2 h3))
 clear hQ
 rcases hs with⟨hnil,rfl,rfl⟩|⟨s1,rfl,rfl⟩
 ·obtain rfl:xs= []:=List.map_eq_nil_iff.1 hnil
  simp -implicitDefEqProofs only [go_sem,List.nil_append,e1,e2,e3]
  refine F2 (k1 _ _) (B4.cons (show nNd≠nSc by decide) hR.1) fun m2 hm2=> ?_
  simp -implicitDefEqProofs only [go_sem,e1,e2,e3]
  refine⟨F2 (k2 _ _) (B4.cons (show nNd≠nSc by decide) hR.1) fun m3 hm3=> ?_,F2 (k2 _ _) (B4.cons (show nNd≠nSc by decide) hR.1) fun m3 hm3=> ?_⟩
  all_goals
   simp -implicitDefEqProofs only [go_sem,e1,e2,e3]
   refine B1u (h2:=(nNd,sb,.rows 14 [[c0,c1,c2,c3,c4,c5,c6,.sl nKc m3 0 1,c8,c9,c10,c11,.int .i64 1,c13]])::(nKc,m3,.rows 5 [[.int .i64 vk,.int .i64 vp,.int .i64 vq,.str vs,.int .i64 vr]])::R) (k3 _ _) zg (B4.cons (show nNd≠nSc by decide) (B4.cons (show nKc≠nSc by decide) hR.1)) (fun e he=>by simp only [List.mem_cons]at he⊢;rcases he with h|h|h<;>simp [h]) fun m4 hm4=> ?_
   refine Qy ?_
   refine fin ⟨vk,vp,vq,vs,vr⟩ (.sl nKc m3 0 1) [(nKc,m3,.rows 5 [[.int .i64 vk,.int .i64 vp,.int .i64 vq,.str vs,.int .i64 vr]])] _ _ (.inr ⟨_,rfl,rfl⟩) rfl fun e he=> ?_
   exact Ka
 ·simp -implicitDefEqProofs only [go_sem,List.cons_append,List.nil_append,ml,e1,e2,e3]
  refine F2 (k1 _ _) (B4.cons (show nNd≠nSc by decide) (B4.cons (show nKc≠nSc by decide) hR.1)) fun m2 hm2=> ?_
  simp -implicitDefEqProofs only [go_sem,ml,e1,e2,e3]
  refine⟨F2 (k2 _ _) (B4.cons (show nNd≠nSc by decide) (B4.cons (show nKc≠nSc by decide) hR.1)) fun m3 hm3=> ?_,F2 (k2 _ _) (B4.cons (show nNd≠nSc by decide) (B4.cons (show nKc≠nSc by decide) hR.1)) fun m3 hm3=> ?_⟩
  all_goals
   simp -implicitDefEqProofs only [go_sem,ml,e1,e2,e3]
   refine⟨by omega,?_⟩
   refine B1u (h2:=(nNd,sb,.rows 14 [[c0,c1,c2,c3,c4,c5,c6,.sl nKc m3 0 (xs.length+1),c8,c9,c10,c11,.int .i64 1,c13]])::(nKc,m3,.rows 5 (xs.map Kst.row++ [[.int .i64 vk,.int .i64 vp,.int .i64 vq,.str vs,.int .i64 vr]]))::R) (k3 _ _) zg (B4.cons (show nNd≠nSc by decide) (B4.cons (show nKc≠nSc by decide) hR.1)) (fun e he=>by simp only [List.mem_cons]at he⊢;rcases he with h|h|h<;>simp [h]) fun m4 hm4=> ?_
   refine Qy ?_
   refine fin ⟨vk,vp,vq,vs,vr⟩ (.sl nKc m3 0 (xs.length+1)) [(nKc,m3,.rows 5 (xs.map Kst.row++ [[.int .i64 vk,.int .i64 vp,.int .i64 vq,.str vs,.int .i64 vr]]))] _ _ (.inr ⟨_,by rw [List.length_map,List.length_append];rfl,by rw [List.map_append];rfl⟩) rfl fun e he=> ?_
   exact Ka
theorem D1H(sb n:Nat)(t:List UInt8)(hB:t.length≤100000)(hi:M6 t=2)(R:A2)(hR:B4 R nSc∧B4 R nNd∧B4 R nUp)(c0 c1 c2 c3 c4 c5 c6 c7 c8 c10 c11 c13 vU:V)(kd:Nat)(hlt:kd≤2)(xs:List Upv)(hxs:xs.length≤100000000)(hX:A2)(hs:SlH nUp 3 (xs.map Upv.row) vU hX):
  A0 Tryz.prog 67 [.ptr nNd sb 0 0,.str t] ((nNd,sb,.rows 14 [[c0,c1,c2,c3,c4,c5,c6,c7,c8,vU,c10,c11,.int .i64 kd,c13]])::(hX++R)) n
   (fun r h' _=>r= .bool (uOk xs.length t)∧ ∃vU' hX',SlH nUp 3 ((xs++ [B1k xs.length t]).map Upv.row) vU' hX'∧h'=(nNd,sb,.rows 14 [[c0,c1,c2,c3,c4,c5,c6,c7,c8,vU',c10,c11,.int .i64 ((2:Nat):Int),c13]])::(hX'++R)):=by
 have HX:=hs.ap (x:=nSc) zf
 have HN:=hs.ap (x:=nNd) zf
 have p1:=C7 t [99,111,110,115,116,32]
 have p2:=C7 t [117,112,32]
 have p3:=C7 t [118,97,114,32]
 rw [A2O]at p1 p2 p3
 simp only [List.length_cons,List.length_nil,Nat.zero_add,Nat.reduceAdd]at p1 p2 p3
 rw [A5a]at hi
 by_cases g1:t.take 6= [99,111,110,115,116,32]
 ·rw [if_pos g1]at hi
  omega
 rw [decide_eq_false g1]at p1
 have g2:t.take 3= [117,112,32]:=Classical.byContradiction fun g=>by
  rw [if_neg g1,if_neg g]at hi
  exact YQ
 rw [decide_eq_true g2]at p2
 have d1:=(HX.append hR.1).del
 have d2:=(HN.append hR.2.1).del
 have bw:bX t=(Sc.mk t true).word:=rfl
 have kw:=fun st n=>A0h nSc st n ⟨t,true⟩ hB
 rw [←bw]at kw
 have lw:(bX t).s.length≤100000:=Nat.le_trans (A9R _) hB
 have q1:((2:Int)<(kd:Int))=False:=Jn
 refine A0.enterK G6 Jo fun Q hQ=>Run.go 100 ?_
 have k3:=fun st n=>A8e nSc st n ((uS3 xs.length t).num)
 unfold uOk at*
 have fin: ∀(vU':V) (hX' h':A2) (m:Nat),SlH nUp 3 ((xs++ [B1k xs.length t]).map Upv.row) vU' hX'→(∀e∈(nNd,sb,.rows 14 [[c0,c1,c2,c3,c4,c5,c6,c7,c8,vU',c10,c11,.int .i64 ((2:Nat):Int),c13]])::(hX'++R),e∈h')→P2 Q (.bool (((uS3 xs.length t).num).ok&&decide (((uS3 xs.length t).num).s= []))) h' m:=by
  rintro vU' hX' h' m h1 h3
  rw [hQ]
  exact .to (h2:=(nNd,sb,.rows 14 [[c0,c1,c2,c3,c4,c5,c6,c7,c8,vU',c10,c11,.int .i64 ((2:Nat):Int),c13]])::(hX'++R)) ⟨rfl,vU',hX',h1,rfl⟩ (.sub (C0.2 h3))
 clear hQ
 simp -implicitDefEqProofs only [go_sem,A3,d1,d2]
 refine A0.pureF p1 ze ?_
 refine QB ?_
 refine A0.pureF p2 ze ?_
 simp -implicitDefEqProofs only [go_sem,q1,d1,d2]
 refine P4 (kw _ _) zg (HX.append hR.1) fun m1 hm1=> ?_
 refine QB ?_
 refine B0H (h1:=(nSc,n,.rows 2 [[.str (bX t).s,.bool (bX t).ok]])::(nNd,sb,.rows 14 [[c0,c1,c2,c3,c4,c5,c6,c7,c8,vU,c10,c11,.int .i64 ((2:Nat):Int),c13]])::hX) (R:=R) (D0b n sb _ (bX t) lw c0 c1 c2 c3 c4 c5 c6 c7 c8 c10 c11 (.int .i64 ((2:Nat):Int)) c13 vU xs hxs hX hs _ _ _ _ rfl rfl rfl rfl) (fun e he=> ?_) ?_
 ·exact XH
 rintro r h' m2 hm2 ⟨rfl,vU',hX',hs',rfl⟩
 simp -implicitDefEqProofs only [go_sem,List.cons_append]
 have HX':=hs'.ap (x:=nSc) zf
 refine F2 (k3 _ _) (B4.cons (show nNd≠nSc by decide) (HX'.append hR.1)) fun m4 hm4=> ?_
 refine Qy ?_
 exact fin vU' hX' _ _ hs' (fun e he=>List.mem_cons_of_mem _ he)
theorem D1I(sb n:Nat)(t:List UInt8)(hB:t.length≤100000)(hi:M6 t=3)(R:A2)(hR:B4 R nSc∧B4 R nNd∧B4 R nVa)(c0 c1 c2 c3 c4 c5 c6 c7 c8 c9 c11 c13 vV:V)(kd:Nat)(hlt:kd≤3)(xs:List Vr)(hxs:xs.length≤100000000)(hX:A2)(hs:SlH nVa 5 (xs.map Vr.row) vV hX):
  A0 Tryz.prog 67 [.ptr nNd sb 0 0,.str t] ((nNd,sb,.rows 14 [[c0,c1,c2,c3,c4,c5,c6,c7,c8,c9,vV,c11,.int .i64 kd,c13]])::(hX++R)) n
   (fun r h' _=>r= .bool (lOk xs.length t)∧ ∃vV' hX',SlH nVa 5 ((xs++ [A8n xs.length t]).map Vr.row) vV' hX'∧h'=(nNd,sb,.rows 14 [[c0,c1,c2,c3,c4,c5,c6,c7,c8,c9,vV',c11,.int .i64 ((3:Nat):Int),c13]])::(hX'++R)):=by
 have HX:=hs.ap (x:=nSc) zf
 have HN:=hs.ap (x:=nNd) zf
 have p1:=C7 t [99,111,110,115,116,32]
 have p2:=C7 t [117,112,32]
 have p3:=C7 t [118,97,114,32]
 rw [A2O]at p1 p2 p3
 simp only [List.length_cons,List.length_nil,Nat.zero_add,Nat.reduceAdd]at p1 p2 p3
 rw [A5a]at hi
 by_cases g1:t.take 6= [99,111,110,115,116,32]
 ·rw [if_pos g1]at hi
  omega
 rw [decide_eq_false g1]at p1
 by_cases g2:t.take 3= [117,112,32]
 ·rw [if_neg g1]at hi
  rw [if_pos g2]at hi
  omega
 rw [decide_eq_false g2]at p2
 have g3:t.take 4= [118,97,114,32]:=Classical.byContradiction fun g=>by
  rw [if_neg g1,if_neg g2,if_neg g]at hi
  exact YQ
 rw [decide_eq_true g3]at p3
 have d1:=(HX.append hR.1).del
 have d2:=(HN.append hR.2.1).del
 have bw:bX t=(Sc.mk t true).word:=rfl
 have kw:=fun st n=>A0h nSc st n ⟨t,true⟩ hB
 rw [←bw]at kw
 have lw:(bX t).s.length≤100000:=Nat.le_trans (A9R _) hB
 have q1:((3:Int)<(kd:Int))=False:=Jn
 refine A0.enterK G6 Jo fun Q hQ=>Run.go 100 ?_
 have k3:=fun st n=>A8e nSc st n (lS6 xs.length t)
 unfold lOk at*
 have fin: ∀(vV':V) (hX' h':A2) (m:Nat),SlH nVa 5 ((xs++ [A8n xs.length t]).map Vr.row) vV' hX'→(∀e∈(nNd,sb,.rows 14 [[c0,c1,c2,c3,c4,c5,c6,c7,c8,c9,vV',c11,.int .i64 ((3:Nat):Int),c13]])::(hX'++R),e∈h')→P2 Q (.bool ((lS6 xs.length t).ok&&decide ((lS6 xs.length t).s= []))) h' m:=by
  rintro vV' hX' h' m h1 h3
  rw [hQ]
  exact .to (h2:=(nNd,sb,.rows 14 [[c0,c1,c2,c3,c4,c5,c6,c7,c8,c9,vV',c11,.int .i64 ((3:Nat):Int),c13]])::(hX'++R)) ⟨rfl,vV',hX',h1,rfl⟩ (.sub (C0.2 h3))
 clear hQ
 simp -implicitDefEqProofs only [go_sem,A3,d1,d2]
 refine A0.pureF p1 ze ?_
 refine QB ?_
 refine A0.pureF p2 ze ?_
 refine QB ?_
 refine A0.pureF p3 ze ?_
 simp -implicitDefEqProofs only [go_sem,q1,d1,d2]
 refine P4 (kw _ _) zg (HX.append hR.1) fun m1 hm1=> ?_
 refine QB ?_
 refine B0H (h1:=(nSc,n,.rows 2 [[.str (bX t).s,.bool (bX t).ok]])::(nNd,sb,.rows 14 [[c0,c1,c2,c3,c4,c5,c6,c7,c8,c9,vV,c11,.int .i64 ((3:Nat):Int),c13]])::hX) (R:=R) (C1T n sb _ (bX t) lw c0 c1 c2 c3 c4 c5 c6 c7 c8 c9 c11 (.int .i64 ((3:Nat):Int)) c13 vV xs hxs hX hs _ _ _ _ _ _ _ _ _ _ rfl rfl rfl rfl rfl rfl rfl rfl (C6N _ _) (D2A _ _)) (fun e he=> ?_) ?_
 ·exact XH
 rintro r h' m2 hm2 ⟨rfl,vV',hX',hs',rfl⟩
 simp -implicitDefEqProofs only [go_sem,List.cons_append]
 have HX':=hs'.ap (x:=nSc) zf
 refine F2 (k3 _ _) (B4.cons (show nNd≠nSc by decide) (HX'.append hR.1)) fun m4 hm4=> ?_
 refine Qy ?_
 exact fin vV' hX' _ _ hs' (fun e he=>List.mem_cons_of_mem _ he)
theorem D1J(sb n:Nat)(t:List UInt8)(hB:t.length≤100000)(hi:M6 t=4)(R:A2)(hR:B4 R nSc∧B4 R nNd∧B4 R nCo∧B4 R nLi)(c0 c1 c2 c3 c4 c7 c8 c9 c10 c11 vC vL:V)(b0:Bool)(kd:Nat)(hlt:kd≤4)(is:List Ins)(ls:List Int)(his:is.length≤100000000)(hls:ls.length≤100000000)(hC hL:A2)(hs:SlH nCo 5 (is.map Ins.row) vC hC)(hz:is= []→hC= [])(ht:SlH nLi 1 (ls.map E9) vL hL):
  A0 Tryz.prog 67 [.ptr nNd sb 0 0,.str t] ((nNd,sb,.rows 14 [[c0,c1,c2,c3,c4,vC,vL,c7,c8,c9,c10,c11,.int .i64 kd,.bool b0]])::((hC++hL)++R)) n
   (fun r h' _=>r= .bool (kOk F3 is.length t&&decide (is.length=0∨D4 is.length t=b0))∧ ∃vC' hC' vL' hL',SlH nCo 5 ((is++ [A4J F3 is.length t]).map Ins.row) vC' hC'∧SlH nLi 1 ((if D4 is.length t=true then ls++ [S9 is.length t]else ls).map E9) vL' hL'∧h'=(nNd,sb,.rows 14 [[c0,c1,c2,c3,c4,vC',vL',c7,c8,c9,c10,c11,.int .i64 ((4:Nat):Int),.bool (D4 is.length t)]])::((hC'++hL')++R)):=by
 have HX:=(hs.ap (x:=nSc) zf).append (ht.ap (x:=nSc) zf)
 have HN:=(hs.ap (x:=nNd) zf).append (ht.ap (x:=nNd) zf)
 have p1:=C7 t [99,111,110,115,116,32]
 have p2:=C7 t [117,112,32]
 have p3:=C7 t [118,97,114,32]
 rw [A2O]at p1 p2 p3
 simp only [List.length_cons,List.length_nil,Nat.zero_add,Nat.reduceAdd]at p1 p2 p3
 rw [A5a]at hi
 by_cases g1:t.take 6= [99,111,110,115,116,32]
 ·rw [if_pos g1]at hi
  omega
 rw [decide_eq_false g1]at p1
 by_cases g2:t.take 3= [117,112,32]
 ·rw [if_neg g1]at hi
  rw [if_pos g2]at hi
  omega
 rw [decide_eq_false g2]at p2
 by_cases g3:t.take 4= [118,97,114,32]
 ·rw [if_neg g1,if_neg g2]at hi
  rw [if_pos g3]at hi
  omega
 rw [decide_eq_false g3]at p3
 have d1:=(HX.append hR.1).del
 have d2:=(HN.append hR.2.1).del
 have q1:((4:Int)<(kd:Int))=False:=Jn
 have hok:((kS2 is.length t).ok&&decide (is.length=0∨D4 is.length t=b0)&&(decide ((F3 (kS2 is.length t).s).2=0)&&decide (D3 (F3 (kS2 is.length t).s).1=(kS2 is.length t).s)))=(kOk F3 is.length t&&decide (is.length=0∨D4 is.length t=b0)):=by
  unfold kOk A4J
  generalize (kS2 is.length t).ok=a
  generalize decide (is.length=0∨D4 is.length t=b0)=b
  cases a<;>cases b<;>simp
 have cc:=fun n st=>C4b st sb n ⟨t,true⟩ hB c0 c1 c2 c3 c4 c7 c8 c9 c10 c11 (.int .i64 ((4:Nat):Int)) vC vL b0 is ls his hls hC hL hs hz ht (kS1 is.length t) (kS2 is.length t) (D4 is.length t) _ rfl rfl rfl hok
 have k3:=fun st n=>A8e nSc st n ⟨[],kOk F3 is.length t&&decide (is.length=0∨D4 is.length t=b0)⟩
 have fin: ∀{Q:Res},Q=(fun r h' _=>r= .bool (kOk F3 is.length t&&decide (is.length=0∨D4 is.length t=b0))∧ ∃vC' hC' vL' hL',SlH nCo 5 ((is++ [A4J F3 is.length t]).map Ins.row) vC' hC'∧SlH nLi 1 ((if D4 is.length t=true then ls++ [S9 is.length t]else ls).map E9) vL' hL'∧h'=(nNd,sb,.rows 14 [[c0,c1,c2,c3,c4,vC',vL',c7,c8,c9,c10,c11,.int .i64 ((4:Nat):Int),.bool (D4 is.length t)]])::((hC'++hL')++R))→ ∀(vC' vL':V) (hC' hL' h':A2) (m:Nat),SlH nCo 5 ((is++ [A4J F3 is.length t]).map Ins.row) vC' hC'→SlH nLi 1 ((if D4 is.length t=true then ls++ [S9 is.length t]else ls).map E9) vL' hL'→(∀e∈(nNd,sb,.rows 14 [[c0,c1,c2,c3,c4,vC',vL',c7,c8,c9,c10,c11,.int .i64 ((4:Nat):Int),.bool (D4 is.length t)]])::((hC'++hL')++R),e∈h')→P2 Q (.bool (kOk F3 is.length t&&decide (is.length=0∨D4 is.length t=b0))) h' m:=by
  rintro Q rfl vC' vL' hC' hL' h' m h1 h2 h3
  exact .to (h2:=(nNd,sb,.rows 14 [[c0,c1,c2,c3,c4,vC',vL',c7,c8,c9,c10,c11,.int .i64 ((4:Nat):Int),.bool (D4 is.length t)]])::((hC'++hL')++R)) ⟨rfl,vC',hC',vL',hL',h1,h2,rfl⟩ (.sub (C0.2 h3))
 refine A0.enterK G6 Jo fun Q hQ=>Run.go 100 ?_
 have fin:=fin hQ
 clear hQ hok
 unfold A4J S9 at fin
 generalize (kOk F3 is.length t&&decide (is.length=0∨D4 is.length t=b0))=ok at*
 simp -implicitDefEqProofs only [go_sem,A3,d1,d2]
 refine A0.pureF p1 ze ?_
 refine QB ?_
 refine A0.pureF p2 ze ?_
 refine QB ?_
 refine A0.pureF p3 ze ?_
 simp -implicitDefEqProofs only [go_sem,q1,d1,d2]
 refine B1v (h1:=(nSc,n,.rows 2 [[.str t,.bool true]])::(nNd,sb,.rows 14 [[c0,c1,c2,c3,c4,vC,vL,c7,c8,c9,c10,c11,.int .i64 ((4:Nat):Int),.bool b0]])::(hC++hL)) (R:=R) (cc _ _) (fun e he=> ?_) (fun e he=>by simp [he]) (fun e he=> ?_) ?_
 ·exact Ku
 ·simp only [List.mem_cons,List.mem_append]at he
  rcases he with h|h|h|h
  ·rw [h];exact hR.1
  ·rw [h];exact hR.2.1
  ·rcases hs with⟨_,_,rfl⟩|⟨s1,_,rfl⟩
   ·cases h
   ·rw [List.mem_singleton.1 h];exact hR.2.2.1
  ·rcases ht with⟨_,_,rfl⟩|⟨s1,_,rfl⟩
   ·cases h
   ·rw [List.mem_singleton.1 h];exact hR.2.2.2
 rintro r h' m2 hm2 ⟨rfl,vC',hC',vL',hL',hs',ht',rfl⟩
 simp -implicitDefEqProofs only [go_sem,List.cons_append]
 have HX':=(hs'.ap (x:=nSc) zf).append (ht'.ap (x:=nSc) zf)
 refine F2 (k3 _ _) (B4.cons (show nNd≠nSc by decide) (HX'.append hR.1)) fun m4 hm4=> ?_
 simp only [decide_true,Bool.and_true]
 refine Qy ?_
 exact fin vC' vL' hC' hL' _ _ hs' ht' (fun e he=>List.mem_cons_of_mem _ he)
end
section
open Go Go.Abs
attribute [local irreducible] A0 Run
-- EV: nUp, nUx, nVa, nVx, nLi, nCo, nCx, nSc, nNd, nKc
attribute [local go_sem] nUp nUx nVa nVx nLi nCo nCx nSc nNd nKc
structure NdB(n:Nd) where
 vC:V
 vL:V
 vK:V
 vU:V
 vV:V
 hC:A2
 hL:A2
 hK:A2
 hU:A2
 hV:A2
 sC:SlH nCo 5 (n.p.code.map Ins.row) vC hC
 sL:SlH nLi 1 (n.p.lines.map E9) vL hL
 sK:SlH nKc 5 (n.p.consts.map Kst.row) vK hK
 sU:SlH nUp 3 (n.p.ups.map Upv.row) vU hU
 sV:SlH nVa 5 (n.p.vars.map Vr.row) vV hV
 zC:n.p.code= []→hC= []
def A5t(n:Nd)(vC vL vK vP vU vV:V):List V:= [.str n.p.name,.int .i64 n.p.line,.int .i64 n.p.params,.bool n.p.vararg,.int .i64 n.p.regs,vC,vL,vK,vP,vU,vV,.str n.path,.int .i64 n.kind,.bool n.lined]
def NdB.row{n:Nd}(b:NdB n):List V:=A5t n b.vC b.vL b.vK .nils b.vU b.vV
def NdB.rest{n:Nd}(b:NdB n):A2:=b.hC++(b.hL++(b.hK++(b.hU++b.hV)))
def NdH(nb sb:Nat)(n:Nd)(h:A2):Prop:= ∃b:NdB n,h=(nb,sb,.rows 14 [b.row])::b.rest
def Few(k:Nat)(n:Nd):Prop:=n.p.code.length≤k∧n.p.lines.length≤k∧n.p.consts.length≤k∧n.p.ups.length≤k∧n.p.vars.length≤k∧n.p.protos.length≤k∧n.kind≤4
def D0n(nb sb:Nat)(n:Nd)(t:List UInt8):Res:=fun r h' _=>(∃n',V6 D8 F3 n t=some n'∧r= .bool true∧NdH nb sb n' h')∨(V6 D8 F3 n t=none∧r= .bool false)
theorem B1w{f:FuncId}{xs:List V}{h h':A2}{n:Nat}{k:Res}(hm: ∀e∈h',e∈h)(hc:A0 Tryz.prog f xs h' n k):A0 Tryz.prog f xs h n k:=
 A0.frame (rest:= []) hc hm zg fun r h' n' _ hk=>by rw [List.append_nil];exact hk
theorem B4Z{F:List UInt8→Int×Int×Int}{G:List UInt8→Ins×Int}{n n':Nd}{t:List UInt8}{k:Nat}(h:V6 F G n t=some n')(hf:Few k n):Few (k+1) n'∧n'.p.protos=n.p.protos:=by
 obtain⟨f1,f2,f3,f4,f5,f6,f7⟩:=hf
 unfold V6 at h
 split at h
 ·cases h
 split at h
 ·split at h
  ·injection h with h;subst h
   refine⟨⟨by simp only;omega,by simp only;omega,by simp only [List.length_append,List.length_singleton];omega,by simp only;omega,by simp only;omega,by simp only;omega,by simp only;omega⟩,rfl⟩
  ·cases h
 split at h
 ·split at h
  ·injection h with h;subst h
   refine⟨⟨by simp only;omega,by simp only;omega,by simp only;omega,by simp only [List.length_append,List.length_singleton];omega,by simp only;omega,by simp only;omega,by simp only;omega⟩,rfl⟩
  ·cases h
 split at h
 ·split at h
  ·injection h with h;subst h
   refine⟨⟨by simp only;omega,by simp only;omega,by simp only;omega,by simp only;omega,by simp only [List.length_append,List.length_singleton];omega,by simp only;omega,by simp only;omega⟩,rfl⟩
  ·cases h
 split at h
 ·injection h with h;subst h
  refine⟨⟨by simp only [List.length_append,List.length_singleton];omega,?_,by simp only;omega,by simp only;omega,by simp only;omega,by simp only;omega,by simp only;omega⟩,rfl⟩
  simp only
  split
  ·simp only [List.length_append,List.length_singleton];omega
  ·omega
 ·cases h
theorem B9c(t:List UInt8):M6 t=1∨M6 t=2∨M6 t=3∨M6 t=4:=by
 rw [A5a]
 repeat' split
 all_goals omega
theorem C3S(sb n:Nat)(nd:Nd)(h:A2)(hn:NdH nNd sb nd h)(k:Nat)(hk:k≤100000000)(hf:Few k nd)(t:List UInt8)(hB:t.length≤100000):
  A0 Tryz.prog 67 [.ptr nNd sb 0 0,.str t] h n (D0n nNd sb nd t):=by
 obtain⟨b,rfl⟩:=hn
 obtain⟨f1,f2,f3,f4,f5,_⟩:=hf
 have aC:=fun{x} hx=>b.sC.ap (x:=x) hx
 have aL:=fun{x} hx=>b.sL.ap (x:=x) hx
 have aK:=fun{x} hx=>b.sK.ap (x:=x) hx
 have aU:=fun{x} hx=>b.sU.ap (x:=x) hx
 have aV:=fun{x} hx=>b.sV.ap (x:=x) hx
 by_cases hlt:M6 t<nd.kind
 ·have a1:B4 b.rest nNd:=(aC zf).append ((aL zf).append ((aK zf).append ((aU zf).append (aV zf))))
  have a2:B4 b.rest nSc:=(aC zf).append ((aL zf).append ((aK zf).append ((aU zf).append (aV zf))))
  refine A0.mono (C8F sb n t b.rest a1 _ _ _ _ _ _ _ _ _ _ _ _ _ nd.kind hlt a2.del) ?_
  rintro r h' m rfl
  exact .inr ⟨by unfold V6;rw [if_pos hlt],rfl⟩
 obtain⟨vC,vL,vK,vU,vV,hC,hL,hK,hU,hV,sC,sL,sK,sU,sV,zC⟩:=b
 simp only at aC aL aK aU aV
 unfold NdB.row NdB.rest A5t
 simp only
 have b0:V6 D8 F3 nd t=(if M6 t=1 then(if cOk D8 nd.p.consts.length t=true then some {nd with p:={nd.p with consts:=nd.p.consts++ [B0F D8 nd.p.consts.length t]},kind:=1}else none)
   else if M6 t=2 then(if uOk nd.p.ups.length t=true then some {nd with p:={nd.p with ups:=nd.p.ups++ [B1k nd.p.ups.length t]},kind:=2}else none)
   else if M6 t=3 then(if lOk nd.p.vars.length t=true then some {nd with p:={nd.p with vars:=nd.p.vars++ [A8n nd.p.vars.length t]},kind:=3}else none)
   else if kOk F3 nd.p.code.length t=true∧(nd.p.code.length=0∨D4 nd.p.code.length t=nd.lined)then
    some {nd with p:={nd.p with code:=nd.p.code++ [A4J F3 nd.p.code.length t],lines:=if D4 nd.p.code.length t=true then nd.p.lines++ [S9 nd.p.code.length t]else nd.p.lines},kind:=4,lined:=D4 nd.p.code.length t}
   else none):=by unfold V6;rw [if_neg hlt]
 rcases B9c t with e|e|e|e
 ·rw [e]at hlt
  rw [if_pos e]at b0
  have hb:=D1G sb n t hB e (hC++(hL++(hU++hV))) ⟨(aC zf).append ((aL zf).append ((aU zf).append (aV zf))),(aC zf).append ((aL zf).append ((aU zf).append (aV zf))),(aC zf).append ((aL zf).append ((aU zf).append (aV zf)))⟩ (.str nd.p.name) (.int .i64 nd.p.line) (.int .i64 nd.p.params) (.bool nd.p.vararg) (.int .i64 nd.p.regs) vC vL .nils vU vV (.str nd.path) (.bool nd.lined) vK nd.kind zd nd.p.consts zd hK sK
  refine A0.wk (B1w (fun x hx=> ?_) hb) ?_
  ·exact JG
  ·rintro r h' m ⟨rfl,vK',hK',s',rfl⟩
   cases hb:cOk D8 nd.p.consts.length t with
   |false=>rw [hb,if_neg zf]at b0;exact⟨_,_,_,.refl _,.inr ⟨b0,rfl⟩⟩
   |true=>
    rw [hb,if_pos rfl]at b0
    refine⟨_,_,_,.sub (C0.2 fun x hx=> ?_),.inl ⟨_,b0,rfl,⟨vC,vL,vK',vU,vV,hC,hL,hK',hU,hV,sC,sL,s',sU,sV,zC⟩,rfl⟩⟩
    exact Yw
 ·rw [e]at hlt
  rw [if_neg zd,if_pos e]at b0
  have hb:=D1H sb n t hB e (hC++(hL++(hK++hV))) ⟨(aC zf).append ((aL zf).append ((aK zf).append (aV zf))),(aC zf).append ((aL zf).append ((aK zf).append (aV zf))),(aC zf).append ((aL zf).append ((aK zf).append (aV zf)))⟩ (.str nd.p.name) (.int .i64 nd.p.line) (.int .i64 nd.p.params) (.bool nd.p.vararg) (.int .i64 nd.p.regs) vC vL vK .nils vV (.str nd.path) (.bool nd.lined) vU nd.kind zd nd.p.ups zd hU sU
  refine A0.wk (B1w (fun x hx=> ?_) hb) ?_
  ·exact JG
  ·rintro r h' m ⟨rfl,vU',hU',s',rfl⟩
   cases hb:uOk nd.p.ups.length t with
   |false=>rw [hb,if_neg zf]at b0;exact⟨_,_,_,.refl _,.inr ⟨b0,rfl⟩⟩
   |true=>
    rw [hb,if_pos rfl]at b0
    refine⟨_,_,_,.sub (C0.2 fun x hx=> ?_),.inl ⟨_,b0,rfl,⟨vC,vL,vK,vU',vV,hC,hL,hK,hU',hV,sC,sL,sK,s',sV,zC⟩,rfl⟩⟩
    exact Yw
 ·rw [e]at hlt
  rw [if_neg zd,if_neg zd,if_pos e]at b0
  have hb:=D1I sb n t hB e (hC++(hL++(hK++hU))) ⟨(aC zf).append ((aL zf).append ((aK zf).append (aU zf))),(aC zf).append ((aL zf).append ((aK zf).append (aU zf))),(aC zf).append ((aL zf).append ((aK zf).append (aU zf)))⟩ (.str nd.p.name) (.int .i64 nd.p.line) (.int .i64 nd.p.params) (.bool nd.p.vararg) (.int .i64 nd.p.regs) vC vL vK .nils vU (.str nd.path) (.bool nd.lined) vV nd.kind zd nd.p.vars zd hV sV
  refine A0.wk (B1w (fun x hx=> ?_) hb) ?_
  ·exact JG
  ·rintro r h' m ⟨rfl,vV',hV',s',rfl⟩
   cases hb:lOk nd.p.vars.length t with
   |false=>rw [hb,if_neg zf]at b0;exact⟨_,_,_,.refl _,.inr ⟨b0,rfl⟩⟩
   |true=>
    rw [hb,if_pos rfl]at b0
    refine⟨_,_,_,.sub (C0.2 fun x hx=> ?_),.inl ⟨_,b0,rfl,⟨vC,vL,vK,vU,vV',hC,hL,hK,hU,hV',sC,sL,sK,sU,s',zC⟩,rfl⟩⟩
    exact Yw
 ·rw [e]at hlt
  rw [if_neg zd,if_neg zd,if_neg zd]at b0
  have hb:=D1J sb n t hB e (hK++(hU++hV)) ⟨(aK zf).append ((aU zf).append (aV zf)),(aK zf).append ((aU zf).append (aV zf)),(aK zf).append ((aU zf).append (aV zf)),(aK zf).append ((aU zf).append (aV zf))⟩ (.str nd.p.name) (.int .i64 nd.p.line) (.int .i64 nd.p.params) (.bool nd.p.vararg) (.int .i64 nd.p.regs) vK .nils vU vV (.str nd.path) vC vL nd.lined nd.kind zd nd.p.code nd.p.lines zd zd hC hL sC zC sL
  refine A0.wk (B1w (fun x hx=> ?_) hb) ?_
  ·simp only [List.mem_cons,List.mem_append]at hx⊢
   rcases hx with h|(h|h)|h|h|h<;>simp [h]
  ·rintro r h' m ⟨rfl,vC',hC',vL',hL',s',s2',rfl⟩
   by_cases hb:kOk F3 nd.p.code.length t=true∧(nd.p.code.length=0∨D4 nd.p.code.length t=nd.lined)
   ·rw [if_pos hb]at b0
    have eb:(kOk F3 nd.p.code.length t&&decide (nd.p.code.length=0∨D4 nd.p.code.length t=nd.lined))=true:=by rw [hb.1,decide_eq_true hb.2];rfl
    rw [eb]
    refine⟨_,_,_,.sub (C0.2 fun x hx=> ?_),.inl ⟨_,b0,rfl,⟨vC',vL',vK,vU,vV,hC',hL',hK,hU,hV,s',s2',sK,sU,sV,fun h=>absurd h zg⟩,rfl⟩⟩
    exact Yw
   ·rw [if_neg hb]at b0
    have eb:(kOk F3 nd.p.code.length t&&decide (nd.p.code.length=0∨D4 nd.p.code.length t=nd.lined))=false:=by
     rw [Bool.eq_false_iff]
     intro h
     simp only [Bool.and_eq_true,decide_eq_true_eq]at h
     exact hb h
    rw [eb]
    exact⟨_,_,_,.refl _,.inr ⟨b0,rfl⟩⟩
end
section
open Go Go.Abs
attribute [local irreducible] A0 Run
abbrev nRd:Nat:=(13*10000+13)
abbrev nOp:Nat:=(66*10000+106)
abbrev nPp:Nat:=(30*10000+35)
abbrev nPa:Nat:=77
-- EV: nNd, nRd, nOp, nPp, nPa
attribute [local go_sem] nNd nRd nOp nPp nPa
theorem C7y{α:Type}(l:List α)(x y:α):(l++ [x]).set l.length y=l++ [y]:=by
 rw [List.set_append_right _ _ (Nat.le_refl _),Nat.sub_self];rfl
theorem C7B(sr so s0 s1 n j:Nat)(hj:j≤100000000)(rs:List (List V))(h0:rs[j]? =some [.ptr nPa s1 0 0])(h1:rs[j+1]? =some [.ptr nNd s0 0 0])(q0 q1 q2 q3 q4 q5 q6 q7 q8 q9 q10 x11 x12 x13 c0 c1 c2 c3 c4 c5 c6 c7 vP c9 c10 c11 c12 c13:V)(l:List (List V))(hl:l.length≤100000000)(hP:A2)(hs:SlH nPp 11 l vP hP):
  A0 Tryz.prog 30 [.ptr nRd sr 0 0] ((nRd,sr,.rows 1 [[.sl nOp so 0 (j+2)]])::(nOp,so,.rows 1 rs)::(nNd,s0,.rows 14 [[q0,q1,q2,q3,q4,q5,q6,q7,q8,q9,q10,x11,x12,x13]])::(nPa,s1,.rows 14 [[c0,c1,c2,c3,c4,c5,c6,c7,vP,c9,c10,c11,c12,c13]])::hP) n
   (fun r h' _=>r= .tup []∧ ∃vP' hP',SlH nPp 11 (l++ [[q0,q1,q2,q3,q4,q5,q6,q7,q8,q9,q10]]) vP' hP'∧h'=(nRd,sr,.rows 1 [[.sl nOp so 0 (j+1)]])::(nOp,so,.rows 1 rs)::(nPa,s1,.rows 14 [[c0,c1,c2,c3,c4,c5,c6,c7,vP',c9,c10,c11,c12,c13]])::hP'):=by
 have hlen:j+2≤rs.length:=by have:=(List.getElem?_eq_some_iff.1 h1).1;omega
 have z2:((j+2:Nat):Int)-2=(j:Int):=by omega
 have z1:((j+2:Nat):Int)-1=((j+1:Nat):Int):=by omega
 have i1:((0:Int)≤(j:Int))=True:=Jm
 have i2:((j:Int)<((j+2:Nat):Int))=True:=Jm
 have i3:((0:Int)≤((j+1:Nat):Int))=True:=Jm
 have i4:(((j+1:Nat):Int)<((j+2:Nat):Int))=True:=Jm
 have i5:(j<rs.length)=True:=Jm
 have i6:(j+1<rs.length)=True:=Jm
 have i7:(((j+1:Nat):Int)-0).toNat=j+1:=by omega
 have fin: ∀{Q:Res},Q=(fun r h' _=>r= .tup []∧ ∃vP' hP',SlH nPp 11 (l++ [[q0,q1,q2,q3,q4,q5,q6,q7,q8,q9,q10]]) vP' hP'∧h'=(nRd,sr,.rows 1 [[.sl nOp so 0 (j+1)]])::(nOp,so,.rows 1 rs)::(nPa,s1,.rows 14 [[c0,c1,c2,c3,c4,c5,c6,c7,vP',c9,c10,c11,c12,c13]])::hP')→ ∀(vP':V) (hP' h':A2) (m:Nat),SlH nPp 11 (l++ [[q0,q1,q2,q3,q4,q5,q6,q7,q8,q9,q10]]) vP' hP'→(∀e∈(nRd,sr,.rows 1 [[.sl nOp so 0 (j+1)]])::(nOp,so,.rows 1 rs)::(nPa,s1,.rows 14 [[c0,c1,c2,c3,c4,c5,c6,c7,vP',c9,c10,c11,c12,c13]])::hP',e∈h')→P2 Q (.tup []) h' m:=by
  rintro Q rfl vP' hP' h' m h1 h2
  exact .to (h2:=(nRd,sr,.rows 1 [[.sl nOp so 0 (j+1)]])::(nOp,so,.rows 1 rs)::(nPa,s1,.rows 14 [[c0,c1,c2,c3,c4,c5,c6,c7,vP',c9,c10,c11,c12,c13]])::hP') ⟨rfl,vP',hP',h1,rfl⟩ (.sub (C0.2 h2))
 refine A0.enterK A0r Jo fun Q hQ=>Run.go 100 ?_
 have fin:=fin hQ
 rcases hs with⟨rfl,rfl,rfl⟩|⟨s2,rfl,rfl⟩
 ·simp -implicitDefEqProofs only [go_sem,A3,z1,z2,i1,i2,i3,i4,i5,i6,i7,h0,h1,Nat.zero_add,Option.some.injEq,forall_eq']
  have key: ∀{h':A2} {m:Nat},(∀e∈(nRd,sr,.rows 1 [[.sl nOp so 0 (j+1)]])::(nOp,so,.rows 1 rs)::(nPa,s1,.rows 14 [[c0,c1,c2,c3,c4,c5,c6,c7,.sl nPp n 0 1,c9,c10,c11,c12,c13]]):: [(nPp,n,.rows 11 [[q0,q1,q2,q3,q4,q5,q6,q7,q8,q9,q10]])],e∈h')→P2 Q (.tup []) h' m:=fun{h' m} h2=>fin (.sl nPp n 0 1) [(nPp,n,.rows 11 [[q0,q1,q2,q3,q4,q5,q6,q7,q8,q9,q10]])] h' m (.inr ⟨_,rfl,rfl⟩) h2
  refine⟨by omega,⟨by omega,by omega,by omega,key (C0.1 ze)⟩,by omega,by omega,by omega,key (C0.1 ze)⟩
 ·have y1:((0:Int)≤(l.length:Int))=True:=Jm
  have y2:((l.length:Int)<((l.length+1:Nat):Int))=True:=Jm
  have y3: ∀z:List V,(l++ [z])[l.length]? =some z:=fun z=>by simp
  have y4: ∀z:List V,(l.length<(l++ [z]).length)=True:=fun z=>eq_true zg
  simp -implicitDefEqProofs only [go_sem,A3,z1,z2,i1,i2,i3,i4,i5,i6,i7,h0,h1,Nat.zero_add,Option.some.injEq,forall_eq',y1,y2,y3,y4,C7y]
  have key: ∀{h':A2} {m:Nat},(∀e∈(nRd,sr,.rows 1 [[.sl nOp so 0 (j+1)]])::(nOp,so,.rows 1 rs)::(nPa,s1,.rows 14 [[c0,c1,c2,c3,c4,c5,c6,c7,.sl nPp n 0 (l.length+1),c9,c10,c11,c12,c13]]):: [(nPp,n,.rows 11 (l++ [[q0,q1,q2,q3,q4,q5,q6,q7,q8,q9,q10]]))],e∈h')→P2 Q (.tup []) h' m:=fun{h' m} h2=>fin (.sl nPp n 0 (l.length+1)) [(nPp,n,.rows 11 (l++ [[q0,q1,q2,q3,q4,q5,q6,q7,q8,q9,q10]]))] h' m (.inr ⟨_,by rw [List.length_append];rfl,rfl⟩) h2
  refine⟨by omega,⟨by omega,by omega,by omega,by omega,by omega,key (C0.1 ze)⟩,by omega,by omega,by omega,by omega,by omega,key (C0.1 ze)⟩
end
section
open Go Go.Abs
attribute [local irreducible] A0 Run
-- EV: nNd, nRd, nOp, nPp, nPa
attribute [local go_sem] nNd nRd nOp nPp nPa
def B6k(sl:List (Nat×V)):Prop:= ∀p∈sl,E0 sl p.1=p.2
theorem B6k.same{sl:List (Nat×V)}(h:B6k sl):B1n sl sl:=by
 have key: ∀l:List (Nat×V),(∀p∈l,p∈sl)→B1n sl l:=by
  intro l
  induction l with
  |nil=>intro _;trivial
  |cons p r ih=>exact fun hm=>⟨.of_eq (h p (hm p List.mem_cons_self)),ih fun x hx=>hm x (List.mem_cons_of_mem _ hx)⟩
 exact key sl fun _ h=>h
theorem B6k.frz{sl:List (Nat×V)}(h:B6k sl)(st:Nat)(rs:List (List V)):C1d st rs sl sl:=by
 have key: ∀l:List (Nat×V),(∀p∈l,p∈sl)→C1d st rs sl l:=by
  intro l
  induction l with
  |nil=>intro _;trivial
  |cons p r ih=>exact fun hm=>⟨.of (.of_eq (h p (hm p List.mem_cons_self))),ih fun x hx=>hm x (List.mem_cons_of_mem _ hx)⟩
 exact key sl fun _ h=>h
theorem B4p{v v2:V}(h:K0 v v2)(post:List V): ∀pre:List V,A2V (pre++v::post) (pre++v2::post)
 | []=>⟨h,A2V.refl post⟩
 |c::r=>⟨.refl c,B4p h post r⟩
theorem C6B{st:Nat}{rs:List (List V)}{v v2:V}(h:Frz st rs v v2)(post:List V): ∀pre:List V,B3V st rs (pre++v::post) (pre++v2::post)
 | []=>⟨h,B3V.same post⟩
 |c::r=>⟨.of (.refl c),C6B h post r⟩
theorem C9o{r r2:List V}{P:List V→List V→Prop}(h:P r r2): ∀(i:Nat) x,([r2]:List (List V))[i]? =some x→ ∃y,([r]:List (List V))[i]? =some y∧P y x
 |0,x,hx=>by simp at hx;subst hx;exact⟨r,rfl,h⟩
 |i+1,x,hx=>by simp at hx
theorem j9{nm sz nb s n:Nat}{l:List (List V)}{v:V}{hX H:A2}{sl:List (Nat×V)}{pre post:List V}(hst:B6k sl)(hs:SlH nm sz l v hX)(hb:nb≠nm)(hH:B4 H nm):
  Wk ⟨sl,(nb,s,.rows 14 [pre++v::post])::(hX++H),n⟩ ⟨sl,(nb,s,.rows 14 [pre++ .isl l::post])::H,n⟩:=by
 rcases hs with⟨rfl,rfl,rfl⟩|⟨st,rfl,rfl⟩
 ·refine Wk.turn id hst.same ⟨⟨_,List.mem_cons_self,rfl,rfl,S6.row (B4p .nilI post pre)⟩,Q6.of fun e he=>⟨e,List.mem_cons_of_mem _ he,rfl,rfl,.refl _⟩⟩
 ·have hm:(nm,st,Blk.rows sz l)∈(nb,s,Blk.rows 14 [pre++V.sl nm st 0 l.length::post])::([(nm,st,Blk.rows sz l)]++H):=List.mem_cons_of_mem _ List.mem_cons_self
  have key: ∀H2:A2,(∀e∈H2,e∈H)→B7Q nm st l ((nb,s,Blk.rows 14 [pre++V.sl nm st 0 l.length::post])::([(nm,st,Blk.rows sz l)]++H)) H2:=by
   intro H2
   induction H2 with
   |nil=>intro _;trivial
   |cons e r ih=>exact fun hm=>⟨⟨e.2.2,List.mem_cons_of_mem _ (List.mem_cons_of_mem _ (hm e List.mem_cons_self)),hH e (hm e List.mem_cons_self),.of (.refl _)⟩,ih fun x hx=>hm x (List.mem_cons_of_mem _ hx)⟩
  refine Wk.freeze hm (hst.frz _ _) ⟨⟨_,List.mem_cons_self,hb,B8Z.rows (Nat.le_refl _) (C9o (C6B (Frz.all rfl) post pre))⟩,key H fun _ h=>h⟩
def NB(i:Nat):Nat:=10000000000000+10*i
def NP(i:Nat):Nat:=10000000000005+10*i
def I5(n:Nd)(vP:V):List V:=A5t n (.isl (n.p.code.map Ins.row)) (.isl (n.p.lines.map E9)) (.isl (n.p.consts.map Kst.row)) vP (.isl (n.p.ups.map Upv.row)) (.isl (n.p.vars.map Vr.row))
inductive OutS:List Nd→List V→A2→Prop
 |nil:OutS [] [] []
 | cons {n:Nd} {r:List Nd} {s:Nat} {vP:V} {hP:A2} {ps:List V} {hr:A2} (h1:SlH (NP r.length) 11 (n.p.protos.map Fn.row) vP hP) (h2:OutS r ps hr):
   OutS (n::r) (.ptr (NB r.length) s 0 0::ps) ((NB r.length,s,.rows 14 [I5 n vP])::(hP++hr))
theorem OutS.len{st:List Nd}{ps:List V}{h:A2}(ho:OutS st ps h):ps.length=st.length:=by
 induction ho with
 |nil=>rfl
 |cons _ _ ih=>rw [List.length_cons,List.length_cons,ih]
theorem OutS.ap{st:List Nd}{ps:List V}{h:A2}(ho:OutS st ps h):(∀x,x<10000000000000→B4 h x)∧ ∀i,st.length≤i→B4 h (NB i)∧B4 h (NP i):=by
 induction ho with
 |nil=>exact⟨fun _ _=> .nil,fun _ _=>⟨.nil,.nil⟩⟩
 | @cons n r s vP hP ps hr h1 h2 ih=>
  refine⟨fun x hx=>B4.cons ?_ ((h1.ap ?_).append (ih.1 x hx)),fun i hi=>⟨B4.cons ?_ ((h1.ap ?_).append (ih.2 i ?_).1),B4.cons ?_ ((h1.ap ?_).append (ih.2 i ?_).2)⟩⟩
  all_goals (simp only [NB,NP,List.length_cons,ne_eq]at*;omega)
def OpH(ps:List V)(vO:V)(hO:A2):Prop:=(ps= []∧vO= .nils∧hO= [])∨ ∃(so:Nat) (rs:List (List V)),ps≠ []∧vO= .sl nOp so 0 ps.length∧hO= [(nOp,so,.rows 1 rs)]∧ ∀(i:Nat) (p:V),ps.reverse[i]? =some p→rs[i]? =some [p]
def RdH(sr:Nat)(st:List Nd)(h:A2):Prop:= ∃ps vO hO hS,OutS st ps hS∧OpH ps vO hO∧h=(nRd,sr,.rows 1 [[vO]])::(hO++hS)
theorem D3b(n:Nd):I5 n (.isl (n.p.protos.map Fn.row))=n.p.row++ [.str n.path,.int .i64 n.kind,.bool n.lined]:=by
 rw [Fn.row_eq];rfl
def D2I(n:Nd):List V:= [.str n.p.name,.int .i64 n.p.line,.int .i64 n.p.params,.bool n.p.vararg,.int .i64 n.p.regs,.isl (n.p.code.map Ins.row),.isl (n.p.lines.map E9),.isl (n.p.consts.map Kst.row)]
def C7g(n:Nd):List V:= [.isl (n.p.ups.map Upv.row),.isl (n.p.vars.map Vr.row),.str n.path,.int .i64 n.kind,.bool n.lined]
theorem A2R(n:Nd)(vP:V):I5 n vP=D2I n++vP::C7g n:=rfl
theorem C7U(a:V):B6k (A3 0 [a]):=by
 intro p hp
 have hp:p=(0,a):=by simpa [A3]using hp
 rw [hp];rfl
theorem SlH.name{nm sz:Nat}{l:List (List V)}{v:V}{h:A2}(hs:SlH nm sz l v h)(nm2:Nat): ∃v2 h2,SlH nm2 sz l v2 h2∧K0 v v2∧ ∀e2∈h2,∃e∈h,e.1=nm∧e2.1=nm2∧e2.2=e.2:=by
 rcases hs with⟨h1,rfl,rfl⟩|⟨st,rfl,rfl⟩
 ·exact⟨.nils,[],.inl ⟨h1,rfl,rfl⟩,.refl _,fun e he=>by cases he⟩
 ·refine⟨.sl nm2 st 0 l.length,[(nm2,st,.rows sz l)],.inr ⟨st,rfl,rfl⟩,.sl,fun e he=> ?_⟩
  rw [List.mem_singleton.1 he]
  exact⟨_,List.mem_singleton.2 rfl,rfl,rfl,rfl⟩
theorem SlH.lab{nm sz:Nat}{l:List (List V)}{v:V}{h:A2}(hs:SlH nm sz l v h): ∀e∈h,e.1=nm:=by
 rcases hs with⟨_,_,rfl⟩|⟨s1,_,rfl⟩
 ·intro e h;cases h
 ·intro e h;rw [List.mem_singleton.1 h]
theorem B7B(sr nn:Nat)(n m:Nd)(r:List Nd)(h:A2)(hr:RdH sr (n::m::r) h)(hl:r.length≤100000000)(hm:m.p.protos.length≤100000000):
  A0 Tryz.prog 30 [.ptr nRd sr 0 0] h nn (fun x h' _=>x= .tup []∧RdH sr ({m with p:=A2W m.p n.p}::r) h'):=by
 obtain⟨ps,vO,hO,hS,ho,hp,rfl⟩:=hr
 cases ho with
 | @cons _ _ s0 vPc hPc ps1 hr1 hc ho1=>
 cases ho1 with
 | @cons _ _ s1 vPp hPp ps2 hr2 hpp ho2=>
 have hpl:=ho2.len
 obtain⟨ap1,ap2⟩:=ho2.ap
 rcases hp with⟨h0,_⟩|⟨so,rs,_,rfl,rfl,hrs⟩
 ·cases h0
 simp only [List.length_cons]at*
 have r0:rs[r.length]? =some [.ptr (NB r.length) s1 0 0]:=hrs _ _ (by simp [←hpl])
 have r1:rs[r.length+1]? =some [.ptr (NB (r.length+1)) s0 0 0]:=hrs _ _ (by simp [←hpl])
 have rO: ∀(i:Nat) (p:V),ps2.reverse[i]? =some p→rs[i]? =some [p]:=fun i p hi=>hrs i p (by
  have:i<ps2.reverse.length:=(List.getElem?_eq_some_iff.1 hi).1
  simp only [List.reverse_cons,List.append_assoc]
  rw [List.getElem?_append_left this]
  exact hi)
 clear hrs
 have hlen:r.length+1<rs.length:=(List.getElem?_eq_some_iff.1 r1).1
 generalize hj:r.length=j at*
 -- the child's functions are frozen
 have lc: ∀e∈hPc,e.1=NP (j+1):=hc.lab
 have lp: ∀e∈hPp,e.1=NP j:=hpp.lab
 have w1:Wk ⟨A3 0 [.ptr nRd sr 0 0],(nRd,sr,.rows 1 [[.sl nOp so 0 (ps2.length+1+1)]])::([(nOp,so,.rows 1 rs)]++((NB (j+1),s0,.rows 14 [I5 n vPc])::(hPc++((NB j,s1,.rows 14 [I5 m vPp])::(hPp++hr2))))),nn⟩
   ⟨A3 0 [.ptr nRd sr 0 0],(NB (j+1),s0,.rows 14 [I5 n vPc])::(hPc++((nRd,sr,.rows 1 [[.sl nOp so 0 (ps2.length+1+1)]])::(nOp,so,.rows 1 rs)::(NB j,s1,.rows 14 [I5 m vPp])::(hPp++hr2))),nn⟩:=
  E8.wk ⟨fun p hp=>(C7U _ p hp).symm,fun e he=>by
   simp only [List.mem_cons,List.mem_append]at he⊢
   rcases he with h|h|h|h|h|h|h<;>simp [h],Nat.le_refl _⟩
 have w2:Wk ⟨A3 0 [.ptr nRd sr 0 0],(NB (j+1),s0,.rows 14 [I5 n vPc])::(hPc++((nRd,sr,.rows 1 [[.sl nOp so 0 (ps2.length+1+1)]])::(nOp,so,.rows 1 rs)::(NB j,s1,.rows 14 [I5 m vPp])::(hPp++hr2))),nn⟩
   ⟨A3 0 [.ptr nRd sr 0 0],(NB (j+1),s0,.rows 14 [I5 n (.isl (n.p.protos.map Fn.row))])::(nRd,sr,.rows 1 [[.sl nOp so 0 (ps2.length+1+1)]])::(nOp,so,.rows 1 rs)::(NB j,s1,.rows 14 [I5 m vPp])::(hPp++hr2),nn⟩:=by
  rw [A2R,A2R]
  refine j9 (C7U _) hc Qd ?_
  refine B4.cons (by simp only [nRd,NP];omega) (B4.cons (by simp only [nOp,NP];omega) (B4.cons Qd (B4.append (fun e he=> ?_) (ap2 _ zd).2)))
  rw [lp e he];simp only [NP];omega
 -- names of their own
 obtain⟨vP2,hP2,hs2,sv2,lab2⟩:=hpp.name nPp
 obtain⟨g,gdef⟩: ∃g:Nat→Nat,g=fun x=>if x=NB (j+1)then nNd else if x=NB j then nPa else if x=NP j then nPp else x:=⟨_,rfl⟩
 have g1:g (NB (j+1))=nNd:=by rw [gdef];exact if_pos rfl
 have g2:g (NB j)=nPa:=by rw [gdef];simp only;rw [if_neg (by simp only [NB];omega),if_pos trivial]
 have g3:g (NP j)=nPp:=by rw [gdef];simp only;rw [if_neg Qd,if_neg Qd,if_pos trivial]
 have g0: ∀x,x≠NB (j+1)→x≠NB j→x≠NP j→g x=x:=fun x h1 h2 h3=>by rw [gdef];simp only;rw [if_neg h1,if_neg h2,if_neg h3]
 have gR:g nRd=nRd:=g0 _ Qb Qb (by simp only [nRd,NP];omega)
 have gO:g nOp=nOp:=g0 _ Qc Qc (by simp only [nOp,NP];omega)
 have gH: ∀e∈hr2,g e.1=e.1:=fun e he=>g0 _ ((ap2 _ zd).1 e he) ((ap2 _ zd).1 e he) ((ap2 _ zd).2 e he)
 clear gdef g0
 have w3:Wk ⟨A3 0 [.ptr nRd sr 0 0],(NB (j+1),s0,.rows 14 [I5 n (.isl (n.p.protos.map Fn.row))])::(nRd,sr,.rows 1 [[.sl nOp so 0 (ps2.length+1+1)]])::(nOp,so,.rows 1 rs)::(NB j,s1,.rows 14 [I5 m vPp])::(hPp++hr2),nn⟩
   ⟨A3 0 [.ptr nRd sr 0 0],((nRd,sr,.rows 1 [[.sl nOp so 0 (j+2)]])::(nOp,so,.rows 1 ((rs.set j [.ptr nPa s1 0 0]).set (j+1) [.ptr nNd s0 0 0]))::(nNd,s0,.rows 14 [I5 n (.isl (n.p.protos.map Fn.row))])::(nPa,s1,.rows 14 [I5 m vP2])::hP2)++hr2,nn⟩:=by
  refine Wk.turn g (C7U _).same ⟨⟨_,List.mem_cons_of_mem _ List.mem_cons_self,gR.symm,rfl,.of_eq (by rw [hpl])⟩,⟨_,List.mem_cons_of_mem _ (List.mem_cons_of_mem _ List.mem_cons_self),gO.symm,rfl,?_⟩,⟨_,List.mem_cons_self,g1.symm,rfl,.refl _⟩,⟨_,List.mem_cons_of_mem _ (List.mem_cons_of_mem _ (List.mem_cons_of_mem _ List.mem_cons_self)),g2.symm,rfl,?_⟩,?_⟩
  ·refine S6.rows zg fun i r2 hi=> ?_
   rw [List.getElem?_set]at hi
   split at hi
   ·rename_i e
    split at hi
    ·injection hi with hi
     subst hi e
     exact⟨_,r1,.ptr,trivial⟩
    ·cases hi
   ·rw [List.getElem?_set]at hi
    split at hi
    ·rename_i e
     split at hi
     ·injection hi with hi
      subst hi e
      exact⟨_,r0,.ptr,trivial⟩
     ·cases hi
    ·exact⟨r2,hi,.refl _⟩
  ·rw [A2R,A2R]
   exact S6.row (B4p sv2 _ _)
  ·refine Q6.append (Q6.of fun e2 he2=> ?_) (Q6.of fun e he=>⟨e,by simp [he],(gH e he).symm,rfl,.refl _⟩)
   obtain⟨e,he,e1,e3,e4⟩:=lab2 e2 he2
   exact⟨e,by simp [he],by rw [e3,e1,g3],by rw [e4],by rw [e4];exact .refl _⟩
 have hb:=C7B sr so s0 s1 nn j hl ((rs.set j [.ptr nPa s1 0 0]).set (j+1) [.ptr nNd s0 0 0]) (by rw [List.getElem?_set_ne zd,List.getElem?_set_self zd]) (by rw [List.getElem?_set_self (by rw [List.length_set];omega)])
  (.str n.p.name) (.int .i64 n.p.line) (.int .i64 n.p.params) (.bool n.p.vararg) (.int .i64 n.p.regs) (.isl (n.p.code.map Ins.row)) (.isl (n.p.lines.map E9)) (.isl (n.p.consts.map Kst.row)) (.isl (n.p.protos.map Fn.row)) (.isl (n.p.ups.map Upv.row)) (.isl (n.p.vars.map Vr.row)) (.str n.path) (.int .i64 n.kind) (.bool n.lined)
  (.str m.p.name) (.int .i64 m.p.line) (.int .i64 m.p.params) (.bool m.p.vararg) (.int .i64 m.p.regs) (.isl (m.p.code.map Ins.row)) (.isl (m.p.lines.map E9)) (.isl (m.p.consts.map Kst.row)) vP2 (.isl (m.p.ups.map Upv.row)) (.isl (m.p.vars.map Vr.row)) (.str m.path) (.int .i64 m.kind) (.bool m.lined) (m.p.protos.map Fn.row) (by rw [List.length_map];exact hm) hP2 hs2
 refine A0.pre (Wk.trans (Wk.trans w1 w2) w3) rfl ?_
 have hb2:A0 Tryz.prog 30 [.ptr nRd sr 0 0] ((nRd,sr,.rows 1 [[.sl nOp so 0 (j+2)]])::(nOp,so,.rows 1 ((rs.set j [.ptr nPa s1 0 0]).set (j+1) [.ptr nNd s0 0 0]))::(nNd,s0,.rows 14 [I5 n (.isl (n.p.protos.map Fn.row))])::(nPa,s1,.rows 14 [I5 m vP2])::hP2) nn
   (fun x h' _=>x= .tup []∧ ∃vP3 hP3,SlH (NP j) 11 ((A2W m.p n.p).protos.map Fn.row) vP3 hP3∧h'=(nRd,sr,.rows 1 [[.sl nOp so 0 (j+1)]])::(nOp,so,.rows 1 (((rs.set j [.ptr nPa s1 0 0]).set (j+1) [.ptr nNd s0 0 0]).set j [.ptr (NB j) s1 0 0]))::(NB j,s1,.rows 14 [I5 {m with p:=A2W m.p n.p} vP3])::hP3):=by
  refine A0.wk hb ?_
  rintro x h' m' ⟨rfl,vP',hP',hs',rfl⟩
  obtain⟨vP3,hP3,hs3,sv3,lab3⟩:=hs'.name (NP j)
  have lab':=hs'.lab
  refine⟨.tup [],_,m',Wk.turn (fun y=>if y=nPa then NB j else if y=nPp then NP j else y) ⟨.refl _,trivial⟩ ?_,rfl,vP3,hP3,?_,rfl⟩
  ·refine⟨⟨_,List.mem_cons_self,rfl,rfl,.refl _⟩,⟨_,List.mem_cons_of_mem _ List.mem_cons_self,rfl,rfl,?_⟩,⟨_,List.mem_cons_of_mem _ (List.mem_cons_of_mem _ List.mem_cons_self),rfl,rfl,?_⟩,Q6.of fun e2 he2=> ?_⟩
   ·refine S6.rows zg fun i r2 hi=> ?_
    rw [List.getElem?_set]at hi
    split at hi
    ·rename_i e
     split at hi
     ·injection hi with hi
      subst hi e
      exact⟨[.ptr nPa s1 0 0],by rw [List.getElem?_set_ne zd,List.getElem?_set_self zd],.ptr,trivial⟩
     ·cases hi
    ·exact⟨r2,hi,.refl _⟩
   ·exact S6.row (B4p sv3 (C7g m) (D2I m))
   ·obtain⟨e,he,e1,e3,e4⟩:=lab3 e2 he2
    exact⟨e,by simp [he],by rw [e3,e1];rfl,by rw [e4],by rw [e4];exact .refl _⟩
  ·have e:(A2W m.p n.p).protos.map Fn.row=m.p.protos.map Fn.row++ [n.p.row]:=by
    show (m.p.protos++ [n.p]).map Fn.row=_
    rw [List.map_append];rfl
   rw [e,Fn.row_eq n.p]
   exact hs3
 refine B0H hb2 (fun e he=> ?_) ?_
 ·simp only [List.mem_cons]at he
  rcases he with h|h|h|h|h
  ·rw [h];exact ap1 _ (by simp only [nRd];omega)
  ·rw [h];exact ap1 _ (by simp only [nOp];omega)
  ·rw [h];exact ap1 _ (by simp only [nNd];omega)
  ·rw [h];exact ap1 _ (by simp only [nPa];omega)
  ·rw [hs2.lab e h];exact ap1 _ (by simp only [nPp];omega)
 ·rintro x h' n' _ ⟨rfl,vP3,hP3,hs3,rfl⟩
  refine⟨rfl,.ptr (NB j) s1 0 0::ps2,.sl nOp so 0 (j+1),[(nOp,so,.rows 1 (((rs.set j [.ptr nPa s1 0 0]).set (j+1) [.ptr nNd s0 0 0]).set j [.ptr (NB j) s1 0 0]))],_,?_,.inr ⟨so,_,by simp,by rw [List.length_cons,hpl],rfl,fun i p hi=> ?_⟩,rfl⟩
  ·have:=OutS.cons (n:={m with p:=A2W m.p n.p}) (r:=r) (s:=s1) (by rw [hj];exact hs3) ho2
   rw [hj]at this
   exact this
  ·rw [List.reverse_cons]at hi
   by_cases hij:i=j
   ·subst hij
    rw [List.getElem?_append_right Qa,List.length_reverse,hpl,Nat.sub_self]at hi
    injection hi with hi
    rw [←hi,List.getElem?_set_self (by rw [List.length_set,List.length_set];omega)]
   ·have hlt:i<ps2.reverse.length:=by
     have:=(List.getElem?_eq_some_iff.1 hi).1
     rw [List.length_append,List.length_singleton,List.length_reverse]at this
     rw [List.length_reverse];omega
    rw [List.getElem?_append_left hlt]at hi
    rw [List.length_reverse]at hlt
    rw [List.getElem?_set_ne zd,List.getElem?_set_ne zd,List.getElem?_set_ne zd]
    exact rO i p hi
end
end Go.Proofs.YtflobbpcabopjaaGreatDoor
