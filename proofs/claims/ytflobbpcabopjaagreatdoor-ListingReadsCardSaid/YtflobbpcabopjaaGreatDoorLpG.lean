/-
 The lines of variables: node.local. No condition.
-/
import Derived.Test.YtflobbpcabopjaaGreatDoorLpE
import Derived.Test.YtflobbpcabopjaaGreatDoorLpS
set_option linter.unusedVariables false set_option linter.unusedSimpArgs false set_option maxRecDepth 100000
set_option maxHeartbeats 0
namespace Go.Proofs.YtflobbpcabopjaaGreatDoor
section
open Go Go.Abs
attribute [local irreducible] A0 Run
-- EV: nUp, nUx, nVa, nVx, nLi, nCo, nCx, nSc, nNd
attribute [local go_sem] nUp nUx nVa nVx nLi nCo nCx nSc nNd
theorem C1T(st sb n:Nat)(x:Sc)(hB:x.s.length≤100000)(c0 c1 c2 c3 c4 c5 c6 c7 c8 c9 c11 c12 c13 vV:V)(vs:List Vr)(hvs:vs.length≤100000000)(hV:A2)(hs:SlH nVa 5 (vs.map Vr.row) vV hV)
  (x1 y1 x2 y2 x3 y3 x4 x5 x6:Sc) (at':Int) (h1:x.number vs.length=x1) (h1':x1.quoted=y1) (h2:y1.expect B4c=x2) (h2':x2.num=y2) (h3:y2.expect A6m=x3) (h3':x3.num=y3) (h4:y3.expect wTo=x4) (h5:x4.num=x5)
  (ha:(if x5.ok=true∧x5.s≠ []then(if x5.w=O3 then(1:Int)else if x5.w=A1J then 2 else 0)else 0)=at') (h6:(if x5.ok=true∧x5.s≠ []then Sc.mk x5.word.s (x5.word.ok&&(decide (x5.w=O3)||decide (x5.w=A1J)))else x5)=x6):
  A0 Tryz.prog 105 [.ptr nNd sb 0 0,.ptr nSc st 0 0] ((nSc,st,.rows 2 [[.str x.s,.bool x.ok]])::(nNd,sb,.rows 14 [[c0,c1,c2,c3,c4,c5,c6,c7,c8,c9,vV,c11,c12,c13]])::hV) n
   (fun r h' _=>r= .tup []∧ ∃vV' hV',SlH nVa 5 ((vs++ [Vr.mk x1.q (atN x2.w) (atN x3.w) (atN x4.w) at']).map Vr.row) vV' hV'∧h'=(nSc,st,.rows 2 [[.str x6.s,.bool x6.ok]])::(nNd,sb,.rows 14 [[c0,c1,c2,c3,c4,c5,c6,c7,c8,c9,vV',c11,c12,c13]])::hV'):=by
 have l1:x1.s.length≤100000:=by rw [←h1];exact Nat.le_trans (A4s _ _) hB
 have m1:y1.s.length≤100000:=by rw [←h1'];exact Nat.le_trans (A9i _) l1
 have l2:x2.s.length≤100000:=by rw [←h2];exact Nat.le_trans (N3 _ _) m1
 have m2:y2.s.length≤100000:=by rw [←h2'];exact Nat.le_trans (A3r _) l2
 have l3:x3.s.length≤100000:=by rw [←h3];exact Nat.le_trans (N3 _ _) m2
 have m3:y3.s.length≤100000:=by rw [←h3'];exact Nat.le_trans (A3r _) l3
 have l4:x4.s.length≤100000:=by rw [←h4];exact Nat.le_trans (N3 _ _) m3
 have l5:x5.s.length≤100000:=by rw [←h5];exact Nat.le_trans (A3r _) l4
 have k1:=fun n=>A4q nSc st n x vs.length hB
 have k2:=fun n=>A4z nSc st n zf zf zf x1 l1
 have k3:=fun n=>K1 nSc st n y1 B4c m1
 have k4:=fun n=>A0x nSc st n x2 l2
 have k5:=fun n=>K1 nSc st n y2 A6m m2
 have k6:=fun n=>A0x nSc st n x3 l3
 have k7:=fun n=>K1 nSc st n y3 wTo m3
 have k8:=fun n=>A0x nSc st n x4 l4
 have k9:=fun n=>A0h nSc st n x5 l5
 rw [h1]at k1
 rw [h1']at k2
 rw [h2]at k3
 rw [h2']at k4
 rw [h3]at k5
 rw [h3']at k6
 rw [h4]at k7
 rw [h5]at k8
 clear h1 h1' h2 h2' h3 h3' h4 h5
 unfold B4c at k3
 unfold A6m at k5
 unfold wTo at k7
 generalize x1.q=nm at*
 generalize atN x2.w=z1 at*
 generalize atN x3.w=z2 at*
 generalize atN x4.w=z3 at*
 generalize x5.w=w at*
 generalize x5.word=y at*
 obtain⟨ys,yo⟩:=y
 obtain⟨s5,o5⟩:=x5
 simp only at ha h6 k8 k9
 have fin: ∀(u:Vr) (vV':V) (hV' h':A2) (m:Nat),u=Vr.mk nm z1 z2 z3 at'→SlH nVa 5 ((vs++ [u]).map Vr.row) vV' hV'→(∀e∈(nSc,st,.rows 2 [[.str x6.s,.bool x6.ok]])::(nNd,sb,.rows 14 [[c0,c1,c2,c3,c4,c5,c6,c7,c8,c9,vV',c11,c12,c13]])::hV',e∈h')→P2 (fun r h' _=>r= .tup []∧ ∃vV' hV',SlH nVa 5 ((vs++ [Vr.mk nm z1 z2 z3 at']).map Vr.row) vV' hV'∧h'=(nSc,st,.rows 2 [[.str x6.s,.bool x6.ok]])::(nNd,sb,.rows 14 [[c0,c1,c2,c3,c4,c5,c6,c7,c8,c9,vV',c11,c12,c13]])::hV') (.tup []) h' m:=by
  rintro u vV' hV' h' m rfl hs' hm
  exact .to (h2:=(nSc,st,.rows 2 [[.str x6.s,.bool x6.ok]])::(nNd,sb,.rows 14 [[c0,c1,c2,c3,c4,c5,c6,c7,c8,c9,vV',c11,c12,c13]])::hV') ⟨rfl,vV',hV',hs',rfl⟩ (.sub (C0.2 hm))
 have ml:(vs.map Vr.row).length=vs.length:=List.length_map ..
 refine A0.enterK A1i Jo fun Q hQ=>Run.go 100 ?_
 rcases hs with⟨hnil,rfl,rfl⟩|⟨s1,rfl,rfl⟩
 ·obtain rfl:vs= []:=List.map_eq_nil_iff.1 hnil
  refine Qz ?_
  refine A0.at [0] [1] (k1 _) rfl rfl ?_
  rintro r h' mk1 hmk1 ⟨rfl,rfl⟩
  refine QA ?_
  refine A0.at [0] [1] (k2 _) rfl rfl ?_
  rintro r h' mk2 hmk2 ⟨rfl,rfl⟩
  refine QA ?_
  refine A0.at [1] [0,2] (k3 _) rfl rfl ?_
  rintro r h' mk3 hmk3 ⟨rfl,rfl⟩
  refine QA ?_
  refine A0.at [0] [1,2] (k4 _) rfl rfl ?_
  rintro r h' mk4 hmk4 ⟨rfl,rfl⟩
  refine QA ?_
  refine A0.at [1] [0,2] (k5 _) rfl rfl ?_
  rintro r h' mk5 hmk5 ⟨rfl,rfl⟩
  refine QA ?_
  refine A0.at [0] [1,2] (k6 _) rfl rfl ?_
  rintro r h' mk6 hmk6 ⟨rfl,rfl⟩
  refine QA ?_
  refine A0.at [1] [0,2] (k7 _) rfl rfl ?_
  rintro r h' mk7 hmk7 ⟨rfl,rfl⟩
  refine QA ?_
  refine A0.at [0] [1,2] (k8 _) rfl rfl ?_
  rintro r h' mk8 hmk8 ⟨rfl,rfl⟩
  cases o5
  ·exact Xv
  by_cases hs5:s5= []
  ·subst hs5
   exact Xv
  have f5:(s5= [])=False:=eq_false hs5
  rw [if_pos (by simp [hs5])]at ha h6
  simp -implicitDefEqProofs only [go_sem,scH,f5]
  refine A0.at [1] [0,2] (k9 _) rfl rfl ?_
  rintro r h' mk9 hmk9 ⟨rfl,rfl⟩
  by_cases w1:w=O3
  ·have g1:(w= [99,111,110,115,116])=True:=eq_true w1
   rw [if_pos w1]at ha
   obtain rfl:x6=⟨ys,yo⟩:=by rw [←h6];simp [w1]
   subst ha
   simp -implicitDefEqProofs only [go_sem,scH,g1]
   subst hQ
   exact fin ⟨nm,z1,z2,z3,1⟩ (.sl nVa mk9 0 1) [(nVa,mk9,.rows 5 [[.str nm,.int .i64 z1,.int .i64 z2,.int .i64 z3,.int .i64 1]])] _ _ rfl (.inr ⟨_,rfl,rfl⟩) (C0.1 ze)
  have g1:(w= [99,111,110,115,116])=False:=eq_false w1
  rw [if_neg w1]at ha
  by_cases w2:w=A1J
  ·have g2:(w= [99,108,111,115,101])=True:=eq_true w2
   rw [if_pos w2]at ha
   obtain rfl:x6=⟨ys,yo⟩:=by rw [←h6];simp [w2]
   subst ha
   refine Jd ?_
   subst hQ
   exact fin ⟨nm,z1,z2,z3,2⟩ (.sl nVa mk9 0 1) [(nVa,mk9,.rows 5 [[.str nm,.int .i64 z1,.int .i64 z2,.int .i64 z3,.int .i64 2]])] _ _ rfl (.inr ⟨_,rfl,rfl⟩) (C0.1 ze)
  have g2:(w= [99,108,111,115,101])=False:=eq_false w2
  rw [if_neg w2]at ha
  obtain rfl:x6=⟨ys,false⟩:=by rw [←h6];simp [w1,w2]
  subst ha
  refine Jd ?_
  subst hQ
  exact fin ⟨nm,z1,z2,z3,0⟩ (.sl nVa mk9 0 1) [(nVa,mk9,.rows 5 [[.str nm,.int .i64 z1,.int .i64 z2,.int .i64 z3,.int .i64 0]])] _ _ rfl (.inr ⟨_,rfl,rfl⟩) (C0.1 ze)
 ·refine QM ?_
  refine A0.at [0] [1,2] (k1 _) rfl rfl ?_
  rintro r h' mk1 hmk1 ⟨rfl,rfl⟩
  refine QA ?_
  refine A0.at [0] [1,2] (k2 _) rfl rfl ?_
  rintro r h' mk2 hmk2 ⟨rfl,rfl⟩
  refine QA ?_
  refine A0.at [1] [0,2,3] (k3 _) rfl rfl ?_
  rintro r h' mk3 hmk3 ⟨rfl,rfl⟩
  refine QA ?_
  refine A0.at [0] [1,2,3] (k4 _) rfl rfl ?_
  rintro r h' mk4 hmk4 ⟨rfl,rfl⟩
  refine QA ?_
  refine A0.at [1] [0,2,3] (k5 _) rfl rfl ?_
  rintro r h' mk5 hmk5 ⟨rfl,rfl⟩
  refine QA ?_
  refine A0.at [0] [1,2,3] (k6 _) rfl rfl ?_
  rintro r h' mk6 hmk6 ⟨rfl,rfl⟩
  refine QA ?_
  refine A0.at [1] [0,2,3] (k7 _) rfl rfl ?_
  rintro r h' mk7 hmk7 ⟨rfl,rfl⟩
  refine QA ?_
  refine A0.at [0] [1,2,3] (k8 _) rfl rfl ?_
  rintro r h' mk8 hmk8 ⟨rfl,rfl⟩
  cases o5
  ·exact JP
  by_cases hs5:s5= []
  ·subst hs5
   exact JP
  have f5:(s5= [])=False:=eq_false hs5
  rw [if_pos (by simp [hs5])]at ha h6
  simp -implicitDefEqProofs only [go_sem,scH,f5]
  refine A0.at [1] [0,2,3] (k9 _) rfl rfl ?_
  rintro r h' mk9 hmk9 ⟨rfl,rfl⟩
  by_cases w1:w=O3
  ·have g1:(w= [99,111,110,115,116])=True:=eq_true w1
   rw [if_pos w1]at ha
   obtain rfl:x6=⟨ys,yo⟩:=by rw [←h6];simp [w1]
   subst ha
   simp -implicitDefEqProofs only [go_sem,scH,g1]
   refine⟨by omega,?_⟩
   subst hQ
   exact fin ⟨nm,z1,z2,z3,1⟩ (.sl nVa mk9 0 (vs.length+1)) [(nVa,mk9,.rows 5 (vs.map Vr.row++ [[.str nm,.int .i64 z1,.int .i64 z2,.int .i64 z3,.int .i64 1]]))] _ _ rfl (.inr ⟨_,by rw [List.length_map,List.length_append];rfl,by rw [List.map_append];rfl⟩) (C0.1 ze)
  have g1:(w= [99,111,110,115,116])=False:=eq_false w1
  rw [if_neg w1]at ha
  by_cases w2:w=A1J
  ·have g2:(w= [99,108,111,115,101])=True:=eq_true w2
   rw [if_pos w2]at ha
   obtain rfl:x6=⟨ys,yo⟩:=by rw [←h6];simp [w2]
   subst ha
   refine Jd ?_
   refine⟨by omega,?_⟩
   subst hQ
   exact fin ⟨nm,z1,z2,z3,2⟩ (.sl nVa mk9 0 (vs.length+1)) [(nVa,mk9,.rows 5 (vs.map Vr.row++ [[.str nm,.int .i64 z1,.int .i64 z2,.int .i64 z3,.int .i64 2]]))] _ _ rfl (.inr ⟨_,by rw [List.length_map,List.length_append];rfl,by rw [List.map_append];rfl⟩) (C0.1 ze)
  have g2:(w= [99,108,111,115,101])=False:=eq_false w2
  rw [if_neg w2]at ha
  obtain rfl:x6=⟨ys,false⟩:=by rw [←h6];simp [w1,w2]
  subst ha
  refine Jd ?_
  refine⟨by omega,?_⟩
  subst hQ
  exact fin ⟨nm,z1,z2,z3,0⟩ (.sl nVa mk9 0 (vs.length+1)) [(nVa,mk9,.rows 5 (vs.map Vr.row++ [[.str nm,.int .i64 z1,.int .i64 z2,.int .i64 z3,.int .i64 0]]))] _ _ rfl (.inr ⟨_,by rw [List.length_map,List.length_append];rfl,by rw [List.map_append];rfl⟩) (C0.1 ze)
end
section
open Go Go.Abs
attribute [local irreducible] A0 Run
-- EV: nUp, nUx, nVa, nVx, nLi, nCo, nCx, nSc, nNd
attribute [local go_sem] nUp nUx nVa nVx nLi nCo nCx nSc nNd
def _root_.Go.Abs.AC.snd:AC→AC
 | .seq _ b=>b
 |a=>a
noncomputable def A4b:AC:=Y5.snd.snd.snd
noncomputable def B1A:AC:=A4b.snd.snd
noncomputable def B9j:AC:=B1A.snd.snd
noncomputable abbrev cCf (Q:Res):Cf:=⟨Tryz.prog,102,[],P2 Q,none,none⟩
theorem D1X(Q:Res)(st sb sx n:Nat)(s:List UInt8)(ok:Bool)(c0 c1 c2 c3 c4 c6 c7 c8 c9 c10 c11 c12 c13 vC:V)(is:List Ins)(his:is.length≤100000000)(hC hL:A2)(hs:SlH nCo 5 (is.map Ins.row) vC hC)(i:Ins)
  (hL':A2.del hL nSc=hL∧A2.del hL nNd=hL∧A2.del hL nCo=hL)
  (fin: ∀vC' hC' m,SlH nCo 5 ((is++ [i]).map Ins.row) vC' hC'→P2 Q (.tup []) ((nSc,st,.rows 2 [[.str [],.bool ok]])::(nNd,sb,.rows 14 [[c0,c1,c2,c3,c4,vC',c6,c7,c8,c9,c10,c11,c12,c13]])::(hC'++hL)) m):
  Run (cCf Q) [.code B9j] ⟨[(5,.ptr nCx sx 0 0),(1,.ptr nSc st 0 0),(0,.ptr nNd sb 0 0)],(nSc,st,.rows 2 [[.str s,.bool ok]])::(nCx,sx,.rows 5 [i.row])::(nNd,sb,.rows 14 [[c0,c1,c2,c3,c4,vC,c6,c7,c8,c9,c10,c11,c12,c13]])::(hC++hL),n⟩:=by
 obtain⟨gop,ga,gb,gc,gd⟩:=i
 obtain⟨d1,d2,d3⟩:=hL'
 have ml:(is.map Ins.row).length=is.length:=List.length_map ..
 have go1: ∀{r:V} {h h2:A2} {m:Nat},P2 Q r h2 m→(∀e∈h2,e∈h)→P2 Q r h m:=fun h1 h2=>P2.wk (.sub (C0.2 h2)) h1
 refine Run.go 100 ?_
 unfold Ins.row
 rcases hs with⟨hnil,rfl,rfl⟩|⟨s1,rfl,rfl⟩
 ·obtain rfl:is= []:=List.map_eq_nil_iff.1 hnil
  simp -implicitDefEqProofs only [go_sem,B9j,B1A,A4b,AC.snd,d1,d2,d3,List.nil_append,List.cons_append]
  refine go1 (fin (.sl nCo n 0 1) [(nCo,n,.rows 5 [[.int .i64 gop,.int .i64 ga,.int .i64 gb,.int .i64 gc,.int .i64 gd]])] _ (.inr ⟨_,rfl,rfl⟩)) fun e he=> ?_
  exact XK
 ·simp -implicitDefEqProofs only [go_sem,B9j,B1A,A4b,AC.snd,d1,d2,d3,ml,List.nil_append,List.cons_append]
  refine⟨by omega,?_⟩
  refine go1 (fin (.sl nCo n 0 (is.length+1)) [(nCo,n,.rows 5 (is.map Ins.row++ [[.int .i64 gop,.int .i64 ga,.int .i64 gb,.int .i64 gc,.int .i64 gd]]))] _ (.inr ⟨_,by rw [List.length_map,List.length_append];rfl,by rw [List.map_append];rfl⟩)) fun e he=> ?_
  exact XK
theorem D1W(Q:Res)(st sb n:Nat)(s2 T:List UInt8)(o2 okF:Bool)(i:Ins)(ge:Int)(hR:A2)(hd:A2.del hR nSc=hR∧A2.del hR nCx=hR)
  (hpg:Abs.Pure Tryz.prog 156 [.str s2] (.tup [i.v,.int .i64 ge])) (htx:Abs.Pure Tryz.prog 79 [i.v] (.str T)) (hf:(o2&&(decide (ge=0)&&decide (T=s2)))=okF)
  (next: ∀sx m,Run (cCf Q) [.code B9j] ⟨[(5,.ptr nCx sx 0 0),(1,.ptr nSc st 0 0),(0,.ptr nNd sb 0 0)],(nSc,st,.rows 2 [[.str s2,.bool okF]])::(nCx,sx,.rows 5 [i.row])::hR,m⟩):
  Run (cCf Q) [.code B1A] ⟨[(1,.ptr nSc st 0 0),(0,.ptr nNd sb 0 0)],(nSc,st,.rows 2 [[.str s2,.bool o2]])::hR,n⟩:=by
 obtain⟨d1,d2⟩:=hd
 obtain⟨gop,ga,gb,gc,gd⟩:=i
 have go1: ∀{sl:List (Nat×V)} {h:A2} {m sx:Nat},A1a sl [(5,.ptr nCx sx 0 0),(1,.ptr nSc st 0 0),(0,.ptr nNd sb 0 0)]→(∀e∈(nSc,st,.rows 2 [[.str s2,.bool okF]])::(nCx,sx,.rows 5 [Ins.row ⟨gop,ga,gb,gc,gd⟩])::hR,e∈h)→Run (cCf Q) [.code B9j] ⟨sl,h,m⟩:=
  by
  intro sl h m sx h1 h2
  refine Run.wk ?_ (next sx m)
  exact YT
 unfold Ins.v at hpg htx
 unfold Ins.row at*
 simp only at hpg htx go1
 refine Run.go 4 ?_
 cases o2
 ·obtain rfl:okF=false:=by rw [←hf];rfl
  simp -implicitDefEqProofs only [go_sem,B1A,A4b,AC.snd,d1,d2]
  refine A0.pureF hpg ze ?_
  refine QB ?_
  exact JH
 by_cases he:ge=0
 rotate_left
 ·obtain rfl:okF=false:=by rw [←hf];simp [he]
  have e0:(ge=0)=False:=eq_false he
  simp -implicitDefEqProofs only [go_sem,B1A,A4b,AC.snd,d1,d2]
  refine A0.pureF hpg ze ?_
  simp -implicitDefEqProofs only [go_sem,d1,d2,e0]
  exact JH
 subst he
 simp -implicitDefEqProofs only [go_sem,B1A,A4b,AC.snd,d1,d2]
 refine A0.pureF hpg ze ?_
 refine QB ?_
 by_cases ht:T=s2
 ·obtain rfl:okF=true:=by rw [←hf];simp [ht]
  exact Yu
 ·obtain rfl:okF=false:=by rw [←hf];simp [ht]
  exact Yu
theorem D1V(Q:Res)(st sb n:Nat)(s2:List UInt8)(o2 o3 ld b0:Bool)(c0 c1 c2 c3 c4 c6 c7 c8 c9 c10 c11 c12 vC:V)(is:List Ins)(his:is.length≤100000000)(hC:A2)(hs:SlH nCo 5 (is.map Ins.row) vC hC)(hz:is= []→hC= [])(hR:A2)(hd:A2.del hR nSc=hR∧A2.del hR nNd=hR)
  (hf:(o2&&decide (is.length=0∨ld=b0))=o3)
  (next: ∀m,Run (cCf Q) [.code B1A] ⟨[(1,.ptr nSc st 0 0),(0,.ptr nNd sb 0 0)],(nSc,st,.rows 2 [[.str s2,.bool o3]])::(nNd,sb,.rows 14 [[c0,c1,c2,c3,c4,vC,c6,c7,c8,c9,c10,c11,c12,.bool ld]])::hR,m⟩):
  Run (cCf Q) [.code A4b] ⟨[(4,.bool ld),(1,.ptr nSc st 0 0),(0,.ptr nNd sb 0 0)],(nSc,st,.rows 2 [[.str s2,.bool o2]])::(nNd,sb,.rows 14 [[c0,c1,c2,c3,c4,vC,c6,c7,c8,c9,c10,c11,c12,.bool b0]])::hR,n⟩:=by
 obtain⟨d1,d2⟩:=hd
 have ml:(is.map Ins.row).length=is.length:=List.length_map ..
 have go1: ∀{sl:List (Nat×V)} {h:A2} {m:Nat},A1a sl [(1,.ptr nSc st 0 0),(0,.ptr nNd sb 0 0)]→(∀e∈(nSc,st,.rows 2 [[.str s2,.bool o3]])::(nNd,sb,.rows 14 [[c0,c1,c2,c3,c4,vC,c6,c7,c8,c9,c10,c11,c12,.bool ld]])::hR,e∈h)→Run (cCf Q) [.code B1A] ⟨sl,h,m⟩:=
  by
  intro sl h m h1 h2
  refine Run.wk ?_ (next m)
  exact YT
 have two: ∀{h:A2},∀e∈(nSc,st,.rows 2 [[.str s2,.bool o3]])::(nNd,sb,.rows 14 [[c0,c1,c2,c3,c4,vC,c6,c7,c8,c9,c10,c11,c12,.bool ld]])::hR,e∈(nNd,sb,.rows 14 [[c0,c1,c2,c3,c4,vC,c6,c7,c8,c9,c10,c11,c12,.bool ld]])::(nSc,st,.rows 2 [[.str s2,.bool o3]])::hR:=fun{h} e he=>by
  simp only [List.mem_cons]at he⊢
  rcases he with h|h|h
  ·exact .inr (.inl h)
  ·exact .inl h
  ·exact .inr (.inr h)
 refine Run.go 7 ?_
 rcases hs with⟨hnil,rfl,rfl⟩|⟨s1,rfl,rfl⟩
 ·obtain rfl:is= []:=List.map_eq_nil_iff.1 hnil
  obtain rfl:o2=o3:=by rw [←hf];simp
  simp -implicitDefEqProofs only [go_sem,A4b,AC.snd,d1,d2]
  exact go1 ze (two (h:= []))
 ·have hz: ¬is.length=0:=fun h=>by have:=hz (List.length_eq_zero_iff.1 h);cases this
  have q0:((0:Int)<(is.length:Int))=True:=Jm
  simp only [ml]at go1 two⊢
  cases ld<;>cases b0
  ·obtain rfl:o2=o3:=by rw [←hf];simp
   exact YP
  ·obtain rfl:o3=false:=by rw [←hf];simp [hz]
   exact YP
  ·obtain rfl:o3=false:=by rw [←hf];simp [hz]
   exact YP
  ·obtain rfl:o2=o3:=by rw [←hf];simp
   exact YP
theorem SlH.del{nm sz:Nat}{l:List (List V)}{v:V}{h:A2}(hs:SlH nm sz l v h){x:Nat}(hx:nm≠x):A2.del h x=h:=(hs.ap hx).del
theorem A9y(a b:A2)(x:Nat):A2.del (a++b) x=A2.del a x++A2.del b x:=List.filter_append ..
theorem C4b(st sb n:Nat)(x:Sc)(hB:x.s.length≤100000)(c0 c1 c2 c3 c4 c7 c8 c9 c10 c11 c12 vC vL:V)(b0:Bool)(is:List Ins)(ls:List Int)(his:is.length≤100000000)(hls:ls.length≤100000000)(hC hL:A2)(hs:SlH nCo 5 (is.map Ins.row) vC hC)(hz:is= []→hC= [])(ht:SlH nLi 1 (ls.map E9) vL hL)
  (x1 x2:Sc) (ld okF:Bool) (h1:x.number is.length=x1) (hl:(!decide (x1.s.take 2= [45,32]))=ld) (h2:(if ld=true then x1.num else x1.expect [45])=x2)
  (hf:(x2.ok&&decide (is.length=0∨ld=b0)&&(decide ((F3 x2.s).2=0)&&decide (D3 (F3 x2.s).1=x2.s)))=okF):
  A0 Tryz.prog 106 [.ptr nNd sb 0 0,.ptr nSc st 0 0] ((nSc,st,.rows 2 [[.str x.s,.bool x.ok]])::(nNd,sb,.rows 14 [[c0,c1,c2,c3,c4,vC,vL,c7,c8,c9,c10,c11,c12,.bool b0]])::(hC++hL)) n
   (fun r h' _=>r= .tup []∧ ∃vC' hC' vL' hL',SlH nCo 5 ((is++ [(F3 x2.s).1]).map Ins.row) vC' hC'∧SlH nLi 1 ((if ld=true then ls++ [atN x1.w]else ls).map E9) vL' hL'∧h'=(nSc,st,.rows 2 [[.str [],.bool okF]])::(nNd,sb,.rows 14 [[c0,c1,c2,c3,c4,vC',vL',c7,c8,c9,c10,c11,c12,.bool ld]])::(hC'++hL')):=by
 have l1:x1.s.length≤100000:=by rw [←h1];exact Nat.le_trans (A4s _ _) hB
 have l2:x2.s.length≤100000:=by
  rw [←h2]
  split
  ·exact Nat.le_trans (A3r _) l1
  ·exact Nat.le_trans (N3 _ _) l1
 have k1:=fun n=>A4q nSc st n x is.length hB
 have k2:=fun n=>A0x nSc st n x1 l1
 have k3:=fun n=>K1 nSc st n x1 [45] l1
 rw [h1]at k1
 have hpre:=C7 x1.s [45,32]
 have hpe:Lib.hasPrefix x1.s [45,32]= !ld:=by
  rw [←hl,Bool.not_not]
  exact Yt
 rw [hpe]at hpre
 have hpg:=C0m x2.s l2
 have htx:=B3u (F3 x2.s).1 (B4j x2.s).2.2.1
 clear h1 hl hpe
 generalize atN x1.w=z at*
 generalize F3 x2.s=g at*
 obtain⟨i,ge⟩:=g
 obtain⟨s2,o2⟩:=x2
 simp only at hpg htx hf
 generalize D3 i=T at*
 have hCa:=hs.del (x:=nSc) zf
 have hCb:=hs.del (x:=nNd) zf
 have hCc:=hs.del (x:=nCx) zf
 -- what stands behind the lines
 have rest: ∀(lf:List Int) (vL':V) (hL':A2) (m:Nat),lf=(if ld=true then ls++ [z]else ls)→SlH nLi 1 (lf.map E9) vL' hL'→
   Run (cCf (fun r h' _=>r= .tup []∧ ∃vC' hC' vL' hL',SlH nCo 5 ((is++ [i]).map Ins.row) vC' hC'∧SlH nLi 1 ((if ld=true then ls++ [z]else ls).map E9) vL' hL'∧h'=(nSc,st,.rows 2 [[.str [],.bool okF]])::(nNd,sb,.rows 14 [[c0,c1,c2,c3,c4,vC',vL',c7,c8,c9,c10,c11,c12,.bool ld]])::(hC'++hL'))) [.code A4b]
    ⟨[(4,.bool ld),(1,.ptr nSc st 0 0),(0,.ptr nNd sb 0 0)],(nSc,st,.rows 2 [[.str s2,.bool o2]])::(nNd,sb,.rows 14 [[c0,c1,c2,c3,c4,vC,vL',c7,c8,c9,c10,c11,c12,.bool b0]])::(hC++hL'),m⟩:=by
  intro lf vL' hL' m hlf ht'
  have hLa:=ht'.del (x:=nSc) zf
  have hLb:=ht'.del (x:=nNd) zf
  have hLc:=ht'.del (x:=nCx) zf
  have hLd:=ht'.del (x:=nCo) zf
  refine D1V _ st sb m s2 o2 _ ld b0 c0 c1 c2 c3 c4 vL' c7 c8 c9 c10 c11 c12 vC is his hC hs hz (hC++hL') ⟨by rw [A9y,hCa,hLa],by rw [A9y,hCb,hLb]⟩ rfl fun m2=> ?_
  refine D1W _ st sb m2 s2 T _ okF i ge _ ⟨?_,?_⟩ hpg htx hf fun sx m3=> ?_
  ·show A2.del ([_]++(hC++hL')) _=_
   rw [A9y,A9y,hCa,hLa];rfl
  ·show A2.del ([_]++(hC++hL')) _=_
   rw [A9y,A9y,hCc,hLc];rfl
  ·exact D1X _ st sb sx m3 s2 okF c0 c1 c2 c3 c4 vL' c7 c8 c9 c10 c11 c12 (.bool ld) vC is his hC hL' hs i ⟨hLa,hLb,hLd⟩ fun vC' hC' m4 hs'=> .is ⟨rfl,vC',hC',vL',hL',hs',hlf ▸ ht',rfl⟩
 refine A0.enterK A1U Jo fun Q hQ=> ?_
 rw [←hQ]at rest
 clear hQ hpg htx hf
 have ml:(is.map Ins.row).length=is.length:=List.length_map ..
 have mm:(ls.map E9).length=ls.length:=List.length_map ..
 have go1: ∀{lf:List Int} {vL':V} {hL':A2} {sl:List (Nat×V)} {h:A2} {m:Nat},lf=(if ld=true then ls++ [z]else ls)→SlH nLi 1 (lf.map E9) vL' hL'→A1a sl [(4,.bool ld),(1,.ptr nSc st 0 0),(0,.ptr nNd sb 0 0)]→(∀e∈(nSc,st,.rows 2 [[.str s2,.bool o2]])::(nNd,sb,.rows 14 [[c0,c1,c2,c3,c4,vC,vL',c7,c8,c9,c10,c11,c12,.bool b0]])::(hC++hL'),e∈h)→Run (cCf Q) [.code A4b] ⟨sl,h,m⟩:=by
  intro lf vL' hL' sl h m e1 e2 h1 h2
  refine Run.wk ?_ (rest lf vL' hL' m e1 e2)
  exact YT
 refine Run.go 9 ?_
 cases ld with
 | false=>
  simp only [Bool.not_false]at hpre
  rw [if_neg zf]at h2
  rw [h2]at k3
  clear k2
  have hap: ∀e∈hL,e.1=nLi:=by
   rcases ht with⟨_,_,rfl⟩|⟨s3,_,rfl⟩
   ·intro e he;cases he
   ·intro e he;rw [List.mem_singleton.1 he]
  have apL: ∀x,nLi≠x→B4 hL x:=fun x hx e he=>by rw [hap e he];exact hx
  rcases hs with⟨hnil,rfl,rfl⟩|⟨s1,rfl,rfl⟩
  ·obtain rfl:is= []:=List.map_eq_nil_iff.1 hnil
   simp -implicitDefEqProofs only [go_sem,A3,List.nil_append]
   refine F2 (k1 _) (B4.cons (show nNd≠nSc by decide) (apL _ zf)) fun m1 hm1=> ?_
   refine Qy ?_
   refine A0.pureF hpre ze ?_
   refine Qy ?_
   refine F2 (k3 _) (B4.cons (show nNd≠nSc by decide) (apL _ zf)) fun m2 hm2=> ?_
   refine Qy ?_
   exact go1 rfl ht ze fun e he=>he
  ·simp -implicitDefEqProofs only [go_sem,A3,List.cons_append,List.nil_append,ml]
   refine F2 (k1 _) (B4.cons (show nNd≠nSc by decide) (B4.cons (show nCo≠nSc by decide) (apL _ zf))) fun m1 hm1=> ?_
   simp -implicitDefEqProofs only [go_sem,ml]
   refine A0.pureF hpre ze ?_
   simp -implicitDefEqProofs only [go_sem,ml]
   refine F2 (k3 _) (B4.cons (show nNd≠nSc by decide) (B4.cons (show nCo≠nSc by decide) (apL _ zf))) fun m2 hm2=> ?_
   simp -implicitDefEqProofs only [go_sem,ml]
   simp only [ml]at go1
   exact go1 rfl ht ze fun e he=>he
 | true=>
  simp only [Bool.not_true]at hpre
  rw [if_pos rfl]at h2
  rw [h2]at k2
  clear k3
  simp only [if_true]at go1
  have two: ∀{A B C:Nat×Nat×Blk} {R R':A2},(∀e∈R,e∈R')→ ∀e∈A::B::R,e∈B::A::R':=fun{A B C R R'} hR e he=>by
   simp only [List.mem_cons]at he⊢
   rcases he with h|h|h
   ·exact .inr (.inl h)
   ·exact .inl h
   ·exact .inr (.inr (hR e h))
  rcases hs with⟨hnil,rfl,rfl⟩|⟨s1,rfl,rfl⟩<;>rcases ht with⟨tnil,rfl,rfl⟩|⟨s3,rfl,rfl⟩
  ·obtain rfl:is= []:=List.map_eq_nil_iff.1 hnil
   obtain rfl:ls= []:=List.map_eq_nil_iff.1 tnil
   refine Qz ?_
   refine A0.at [0] [1] (k1 _) rfl rfl ?_
   rintro r h' m1 hm1 ⟨rfl,rfl⟩
   refine QA ?_
   refine A0.pureF hpre ze ?_
   refine Qy ?_
   refine⟨?_,?_⟩
   all_goals
    refine A0.at [0] [1] (k2 _) rfl rfl ?_
    rintro r h' m2 hm2 ⟨rfl,rfl⟩
    refine QA ?_
    exact go1 (hL':= [(nLi,m2,.rows 1 [[.int .i64 z]])]) rfl (.inr ⟨_,rfl,rfl⟩) ze (C0.1 (by simp -implicitDefEqProofs only [go_sem,List.nil_append]))
  ·obtain rfl:is= []:=List.map_eq_nil_iff.1 hnil
   simp -implicitDefEqProofs only [go_sem,A3,mm]
   refine A0.at [0] [1,2] (k1 _) rfl rfl ?_
   rintro r h' m1 hm1 ⟨rfl,rfl⟩
   refine QA ?_
   refine A0.pureF hpre ze ?_
   refine Qy ?_
   refine⟨?_,?_⟩
   all_goals
    refine A0.at [0] [1,2] (k2 _) rfl rfl ?_
    rintro r h' m2 hm2 ⟨rfl,rfl⟩
    simp -implicitDefEqProofs only [go_sem,scH,mm]
    refine⟨by omega,?_⟩
    exact go1 (vL':= .sl nLi m2 0 (ls.length+1)) (hL':= [(nLi,m2,.rows 1 (ls.map E9++ [[.int .i64 z]]))]) rfl (.inr ⟨_,by rw [List.length_map,List.length_append];rfl,by rw [List.map_append];rfl⟩) ze (C0.1 (by simp -implicitDefEqProofs only [go_sem,List.nil_append]))
  ·obtain rfl:ls= []:=List.map_eq_nil_iff.1 tnil
   simp -implicitDefEqProofs only [go_sem,A3,ml,List.append_nil]
   refine A0.at [0] [1,2] (k1 _) rfl rfl ?_
   rintro r h' m1 hm1 ⟨rfl,rfl⟩
   refine QI ?_
   refine A0.pureF hpre ze ?_
   simp -implicitDefEqProofs only [go_sem,ml]
   refine⟨?_,?_⟩
   all_goals
    refine A0.at [0] [1,2] (k2 _) rfl rfl ?_
    rintro r h' m2 hm2 ⟨rfl,rfl⟩
    refine QI ?_
    exact go1 (hL':= [(nLi,m2,.rows 1 [[.int .i64 z]])]) rfl (.inr ⟨_,rfl,rfl⟩) ze (C0.1 (by simp -implicitDefEqProofs only [go_sem,ml,List.cons_append,List.nil_append]))
  ·simp -implicitDefEqProofs only [go_sem,A3,ml,mm,List.cons_append,List.nil_append]
   refine A0.at [0] [1,2,3] (k1 _) rfl rfl ?_
   rintro r h' m1 hm1 ⟨rfl,rfl⟩
   simp -implicitDefEqProofs only [go_sem,scH,ml,mm]
   refine A0.pureF hpre ze ?_
   simp -implicitDefEqProofs only [go_sem,ml,mm]
   refine⟨?_,?_⟩
   all_goals
    refine A0.at [0] [1,2,3] (k2 _) rfl rfl ?_
    rintro r h' m2 hm2 ⟨rfl,rfl⟩
    simp -implicitDefEqProofs only [go_sem,scH,ml,mm]
    refine⟨by omega,?_⟩
    exact go1 (vL':= .sl nLi m2 0 (ls.length+1)) (hL':= [(nLi,m2,.rows 1 (ls.map E9++ [[.int .i64 z]]))]) rfl (.inr ⟨_,by rw [List.length_map,List.length_append];rfl,by rw [List.map_append];rfl⟩) ze (C0.1 (by simp -implicitDefEqProofs only [go_sem,ml,List.cons_append,List.nil_append]))
end
end Go.Proofs.YtflobbpcabopjaaGreatDoor
