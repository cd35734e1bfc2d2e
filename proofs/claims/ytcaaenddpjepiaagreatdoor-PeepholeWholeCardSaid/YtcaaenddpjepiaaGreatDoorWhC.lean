/-
 What scriptingref41.Moves answers. No condition.
-/
import Derived.Test.YtcaaenddpjepiaaGreatDoorWhB
import Derived.Test.YtcaaenddpjepiaaGreatDoorFlowR
import Derived.Test.YtcaaenddpjepiaaGreatDoorFnT
import Derived.Test.YtcaaenddpjepiaaGreatDoorLiveP
import Derived.Test.YtcaaenddpjepiaaGreatDoorRLv2
set_option linter.unusedVariables false
set_option linter.unusedSimpArgs false
set_option maxRecDepth 100000
set_option maxHeartbeats 0
namespace Go.Proofs.YtcaaenddpjepiaaGreatDoor
open Go.Abs
attribute [local irreducible] A0 Run
theorem C2h(p:Fn)(c:p.code.length≤10000)(b: ∀q∈p.protos,q.ups.length≤100000):Pure Tryz.prog 46 [.agg p.row] (.isl ((List.range p.code.length).map fun a=> [.isl ((lvF p a).map zrw)])):=by
 have h:=C4d (A5B p) (by rw [A9b];exact c) (by rw [B0S];exact Fn.row_sub C7 p) (B8W b)
 rw [B0S]at h
 unfold B4x at h
 rw [A9b]at h
 exact h
theorem C6F(p:Fn)(r:Int):B4v p r=(B6P p r||C7X p r):=by
 unfold B4v B6P C7X
 rw [Bool.or_assoc]
 rfl
noncomputable def gnP (p:Fn) (k:Nat):List (List V):=U6 (fun i=>decide (i<k)&&I9 p i) p.code.length
theorem C8F(p:Fn):gnP p 0=List.replicate p.code.length [.bool false]:=by
 unfold gnP U6
 rw [List.eq_replicate_iff]
 exact⟨by simp,fun r h=>by obtain⟨y,_,rfl⟩:=List.mem_map.1 h;simp⟩
theorem B5v(p:Fn)(k:Nat):(gnP p k).length=p.code.length:=by simp [gnP,U6]
theorem D3q(p:Fn)(k:Nat):C4 (gnP p k) 1=True:=eq_true fun r h=>by obtain⟨y,_,rfl⟩:=List.mem_map.1 h;rfl
theorem D3p{p:Fn}{k:Nat}(h:k<p.code.length):(gnP p k)[k]? =some [.bool false]:=by simp [gnP,U6,h]
theorem C8E{p:Fn}{k:Nat}(h:I9 p k=false):gnP p (k+1)=gnP p k:=by
 unfold gnP U6
 refine List.map_congr_left fun i _=> ?_
 by_cases e:i=k
 ·subst e;simp [h]
 ·exact Kp
theorem D0M{p:Fn}{k:Nat}(h:I9 p k=true):gnP p (k+1)=(gnP p k).set k [.bool true]:=by
 refine List.ext_getElem? fun i=> ?_
 rw [List.getElem?_set,B5v]
 rcases Nat.lt_or_ge i p.code.length with a|a
 ·simp only [gnP,U6,List.getElem?_map,List.getElem?_range a,Option.map_some]
  by_cases e:k=i
  ·subst e;rw [if_pos rfl,if_pos a];simp [h]
  ·rw [if_neg e]
   exact Kp
 ·rw [List.getElem?_eq_none (by rw [B5v];exact a)]
  split
  ·rw [if_neg zd]
  ·rw [List.getElem?_eq_none (by rw [B5v];exact a)]
theorem D0L{p:Fn}{k:Nat}(h:p.code.length≤k+1):gnP p k=U6 (I9 p) p.code.length:=by
 unfold gnP U6
 refine List.map_congr_left fun i a=> ?_
 have a:=List.mem_range.1 a
 by_cases e:i<k
 ·simp [e]
 ·have:I9 p i=false:=by
   cases hg:I9 p i with
   |false=>rfl
   | true=>
    unfold I9 at hg
    split at hg
    ·simp only [Bool.and_eq_true]at hg
     have:=B6H hg.2.1
     omega
    ·cases hg
  simp [this]
abbrev mvN(k:Nat):Nat:=17*10000+k
-- EV: mvN, cpN, Ins.v, Ins.row
attribute [local go_sem] mvN cpN Ins.v Ins.row
theorem C2i(P:Fn→Prop)(hch: ∀p,P p→ ∀q∈p.protos,P q)(hso: ∀p,P p→Pure Tryz.prog 45 [.agg p.row] (.bool (decide (L5 (G1 p)=0))))(u: ∀p,P p→D0n p)(A: ∀p,P p→ ∀q∈p.protos,q.ups.length≤100000)
  (hin: ∀p,P p→L5 (G1 p)=0→RemOK p∧p.code.length≤10000∧p.regs≤4096∧(∀i∈p.code,i.op=26→0≤i.a)∧ ∀i∈p.code,i.op=1→i.a≤1000000) (p:Fn) (C:P p):Pure Tryz.prog 17 [.agg p.row] (.agg (C0 E4 p).row):=by
 induction p using Fn.ind with
 |h p ih'=>
 have ih: ∀q∈p.protos,Pure Tryz.prog 17 [.agg q.row] (.agg (C0 E4 q).row):=fun q v=>ih' q v (hch p C q v)
 clear ih'
 have cp:=fun n=>A6k p (u p C) n
 have so:=hso p C
 have b4:p.protos.length≤1000000:=(u p C).2.2.2.1
 have H:=hin p C
 have l:=Fn.row_sub C7 p
 have D:=X0 E4 p
 have A: ∀q∈p.protos,q.ups.length≤100000:=fun q v=>(A p C) q v
 have rl:=fun h=>C2h p h A
 have rq:=fun a T h2=>C2o p a T h2
 have rk:=fun r T h2=>C4c p (Nat.le_trans (u p C).2.2.2.2.2 zh) (Nat.le_trans (u p C).1 zh) r T h2
 have rc:=fun r=>B6I p b4 (fun q v=>Nat.le_trans (A q v) zh) r
 have rm:=fun h n=>B3d p h (u p C) (I9 p) n
 have hrw:=Fn.row_eq p
 have o:(p.code.map Ins.row).length=p.code.length:=List.length_map ..
 have hrC: ∀(k:Nat) x,p.code[k]? =some x→(p.code.map Ins.row)[k]? =some x.row:=fun k x h=>by rw [List.getElem?_map,h];rfl
 have hzC:C4 (p.code.map Ins.row) 5=True:=eq_true fun r Y=>by obtain⟨y,_,rfl⟩:=List.mem_map.1 Y;rfl
 have G:(p.protos.map Fn.row).length=p.protos.length:=List.length_map ..
 have hzP:C4 (p.protos.map Fn.row) 11=True:=eq_true (fun r Y=>by obtain⟨y,_,rfl⟩:=List.mem_map.1 Y;exact Fn.row_len y)
 have hrP: ∀(k:Nat) x,p.protos[k]? =some x→(p.protos.map Fn.row)[k]? =some x.row:=fun k x h=>by rw [List.getElem?_map,h];rfl
 rw [hrw]at cp so l rl rq rk rc rm⊢
 generalize hCR:p.code.map Ins.row=J at*
 generalize hLR:p.lines.map D1=LR at*
 generalize hVR:p.vars.map Vr.row=Z at*
 generalize hKR:p.consts.map Kst.row=K at*
 generalize hPR:p.protos.map Fn.row=M at*
 generalize hUR:p.ups.map Upv.row=U at*
 refine Pure.of 0 (A0.enterK A2l Jk fun Q hQ=>Run.go 100 ?_)
 refine QM ?_
 refine A0.at [] [0,1] (cp 2) rfl rfl ?_
 rintro r h' s hn ⟨a,d,rfl,rfl⟩
 refine QL ?_
 refine A0.pureF so zD ?_
 apply C3y (X:=(fun(c:Cf) (k:List AItem)=> ∀(d m:Nat),Run c k ⟨[(8,.int .i64 0),(3,.ptr (mvN 3) s 0 0),(2,.ptr (mvN 2) 1 0 0),(1,.ptr (mvN 1) 0 0 0)],
   [(mvN 3,s,.rows 11 [[.str p.name,.int .i64 p.line,.int .i64 p.params,.bool p.vararg,.int .i64 p.regs,.isl ((C0 E4 p).code.map Ins.row),.isl ((C0 E4 p).lines.map D1),.isl K,.sl (cpN 28) d 0 p.protos.length,.isl U,.isl ((C0 E4 p).vars.map Vr.row)]]),(cpN 28,d,.rows 11 M),(mvN 2,1,.rows 11 [[.str [],.int .i64 0,.int .i64 0,.bool false,.int .i64 0,.nils,.nils,.nils,.nils,.nils,.nils]]),(mvN 1,0,.rows 11 [[.str p.name,.int .i64 p.line,.int .i64 p.params,.bool p.vararg,.int .i64 p.regs,.isl J,.isl LR,.isl K,.isl M,.isl U,.isl Z]])],m⟩) _ _)
 ·intro t
  by_cases S:L5 (G1 p)=0
  rotate_left
  ·rw [if_neg S]at D
   rw [decide_eq_false S]
   refine QL ?_
   rw [show (C0 E4 p).code=p.code by rw [D],show (C0 E4 p).lines=p.lines by rw [D],show (C0 E4 p).vars=p.vars by rw [D],hCR,hLR,hVR]at t
   refine Run.wk ?_ (t d (s+1))
   exact .freeze (b:=cpN 3) (st:=a) (sz:=5) (rs:=J) (List.mem_of_getElem? (i:=2) rfl) ⟨.of (.refl _),.of (.refl _),.of (.refl _),.of (.refl _),trivial⟩ (.at 0 rfl zh (A4D.snoc (R:= []) ⟨.of (.refl _),.of (.refl _),.of (.refl _),.of (.refl _),.of (.refl _),Frz.all o.symm,.of (.refl _),.of (.refl _),.of (.refl _),.of (.refl _),.of (.refl _),trivial⟩) (.at 1 rfl zh (.of (.refl _)) (.at 3 rfl zh (.of (.refl _)) (.at 4 rfl zh (.of (.refl _)) trivial))))
  ·rw [if_pos S]at D
   rw [decide_eq_true S]
   rw [show (C0 E4 p).code=(E6 (I9 p) p).code by rw [D];rfl,show (C0 E4 p).lines=(E6 (I9 p) p).lines by rw [D];rfl,show (C0 E4 p).vars=(E6 (I9 p) p).vars by rw [D];rfl]at t
   refine QL ?_
   obtain⟨T,h2,h3,h4,h5⟩:=H S
   refine A0.pureF (rl h2) zD ?_
   have rm:=rm T
   simp -implicitDefEqProofs only [go_sem,o]
   refine⟨by omega,by omega,?_⟩
   rw [←C8F p]
   have hBl:((List.range p.code.length).map fun a=> [V.isl ((lvF p a).map zrw)]).length=p.code.length:=by simp
   have hBz:C4 ((List.range p.code.length).map fun a=> [V.isl ((lvF p a).map zrw)]) 1=True:=eq_true (fun r Y=>by obtain⟨y,_,rfl⟩:=List.mem_map.1 Y;rfl)
   have hB: ∀i,i<p.code.length→((List.range p.code.length).map fun a=> [V.isl ((lvF p a).map zrw)])[i]? =some [.isl ((lvF p i).map zrw)]:=fun i H=>by simp [H]
   generalize ((List.range p.code.length).map fun a=> [V.isl ((lvF p a).map zrw)])=B at*
   refine Run.rounds (fun(x:Nat×Nat)=>⟨[(6,.int .i64 x.1),(5,.sl (mvN 18) (s+1) 0 p.code.length),(4,.isl B),(3,.ptr (mvN 3) s 0 0),(2,.ptr (mvN 2) 1 0 0),(1,.ptr (mvN 1) 0 0 0)],
    [(mvN 18,s+1,.rows 1 (gnP p x.1)),(mvN 3,s,.rows 11 [[.str p.name,.int .i64 p.line,.int .i64 p.params,.bool p.vararg,.int .i64 p.regs,.sl (cpN 3) a 0 p.code.length,.isl LR,.isl K,.sl (cpN 28) d 0 p.protos.length,.isl U,.isl Z]]),(cpN 28,d,.rows 11 M),(cpN 3,a,.rows 5 J),(mvN 2,1,.rows 11 [[.str [],.int .i64 0,.int .i64 0,.bool false,.int .i64 0,.nils,.nils,.nils,.nils,.nils,.nils]]),(mvN 1,0,.rows 11 [[.str p.name,.int .i64 p.line,.int .i64 p.params,.bool p.vararg,.int .i64 p.regs,.isl J,.isl LR,.isl K,.isl M,.isl U,.isl Z]])],x.2⟩)
    (fun x=>x.1≤p.code.length) (fun x=>p.code.length-x.1) (0,s+2) ze (Nat.zero_le _) ?_
   rintro⟨k,m⟩ hk w
   dsimp only at hk w⊢
   refine Run.unf A0j (Run.go 100 ?_)
   by_cases c:(k:Int)+1<p.code.length
   ·have F:((0:Int)≤(k:Int))=True:=Ji
    have I:(k<p.code.length)=True:=Ji
    have k2:((k:Int)<(p.code.length:Int))=True:=Ji
    have g:((k+1:Nat):Int)=(k:Int)+1:=by omega
    obtain⟨i,H⟩: ∃i,p.code[k]? =some i:=⟨p.code[k]' zd,by simp⟩
    have W:=hrC k i H
    have e:I9 p k=(decide (i.op=1)&&(A4o p.code k&&(decide (i.a=i.b)||(!((lvF p (k+1)).any fun y=>decide (i.a=y))&& !B4v p i.a)))):=by unfold I9;rw [H]
    have z:=B5v p k
    have O:=D3q p k
    have hGa:=D3p (p:=p) (k:=k) zd
    have fin:=fun s' m=>w s' (k+1,m) zk zk
    dsimp only at fin
    have j:I9 p k=false→_:=fun h=>by have fin:=fin;rw [C8E h]at fin;exact fin
    have E:I9 p k=true→_:=fun h=>by have fin:=fin;rw [D0M h]at fin;exact fin
    by_cases L:i.op=1
    ·have qq:=rq k zd zd
     simp -implicitDefEqProofs only [go_sem,c,F,I,k2,o,hzC,W,L,Option.some.injEq,forall_eq']
     refine⟨⟨by omega,by omega⟩,A0.pureF qq zD ?_⟩
     cases hqt:A4o p.code k with
     |false=>
      refine QL ?_
      exact⟨⟨by omega,by omega⟩,j (by rw [e,hqt];simp) _ (m+1) zn⟩
     | true=>
      by_cases N:i.a=i.b
      ·simp -implicitDefEqProofs only [go_sem,N,F,I,k2,z,O,hGa,Option.some.injEq,forall_eq',List.drop_one,List.tail_cons]
       exact⟨⟨by omega,by omega⟩,E (by rw [e,hqt,L];simp [N]) _ (m+1) zn⟩
      ·have a4:=eq_false N
       have q0:((0:Int)≤(k:Int)+1)=True:=Ji
       have q1:(((k:Int)+1).toNat)=k+1:=by omega
       have q2:(k+1<p.code.length)=True:=Ji
       have hBk:=hB (k+1) zd
       have ri:=C9A (lvF p (k+1)) i.a (C5k p h3 _)
       have hi5:=h5 i (List.mem_of_getElem? H) L
       have rk:=rk i.a hi5 h4
       have rc:=rc i.a
       rw [show ((lvF p (k+1)).any fun y=>decide (i.a=y))=(lvF p (k+1)).any fun x=>decide (x=i.a) from by congr 1;funext y;simp [eq_comm],C6F]at e
       generalize ((lvF p (k+1)).any fun x=>decide (x=i.a))=v1 at*
       generalize B6P p i.a=v2 at*
       generalize C7X p i.a=v3 at*
       simp -implicitDefEqProofs only [go_sem,a4,hBl,hBz,hBk,q0,q1,q2,Option.some.injEq,forall_eq']
       have hsZ:((lvF p (k+1)).map zrw).map (fun r=>r.map (V.sub C7))=(lvF p (k+1)).map zrw:=by rw [List.map_map];rfl
       refine⟨⟨by omega,by omega⟩,by omega,A0.pureF ri (by simp -implicitDefEqProofs only [go_sem,hsZ]) ?_⟩
       rw [hqt,L]at e
       cases v1 with
       |true=>
        exact XL
       |false=>
       refine QL ?_
       refine A0.pureF rk zD ?_
       cases v2 with
       |true=>
        exact XL
       |false=>
       refine QL ?_
       refine A0.pureF rc zD ?_
       cases v3 with
       |true=>
        exact XL
       |false=>
       simp -implicitDefEqProofs only [go_sem,F,I,k2,z,O,hGa,Option.some.injEq,forall_eq',List.drop_one,List.tail_cons]
       exact⟨⟨by omega,by omega⟩,E (by rw [e];simp) _ (m+1) zn⟩
    ·have a2:=eq_false L
     simp -implicitDefEqProofs only [go_sem,c,F,I,k2,o,hzC,W,a2,Option.some.injEq,forall_eq']
     exact⟨⟨by omega,by omega⟩,⟨by omega,by omega⟩,j (by rw [e];simp [L]) _ (m+1) zn⟩
   ·rw [D0L (k:=k) zd]
    have hGs:(U6 (I9 p) p.code.length).map (fun r=>r.map (V.sub C7))=U6 (I9 p) p.code.length:=by
     exact Kl
    have z:(U6 (I9 p) p.code.length).length=p.code.length:=by simp [U6]
    generalize U6 (I9 p) p.code.length=GR at*
    simp -implicitDefEqProofs only [go_sem,c,o]
    refine⟨⟨by omega,by omega⟩,?_⟩
    refine A0.pre (xs':= [.agg [.str p.name,.int .i64 p.line,.int .i64 p.params,.bool p.vararg,.int .i64 p.regs,.isl J,.isl LR,.isl K,.isl M,.isl U,.isl Z],.isl GR])
     (.freeze (b:=mvN 18) (st:=s+1) (sz:=1) (rs:=GR) (List.mem_of_getElem? (i:=0) rfl) ⟨Frz.all z.symm,.of (.refl _),trivial⟩ (.at 1 rfl zh (.of (.refl _)) (.at 4 rfl zh (.of (.refl _)) (.at 5 rfl zh (.of (.refl _)) (show A4E _ _ _ _ [] from trivial))))) rfl ?_
    refine A0.at [] [0,1,2] (rm _) rfl rfl ?_
    exact YS
 ·intro d m
  show Run _ _ _
  have hEr:(C0 E4 p).row= [.str p.name,.int .i64 p.line,.int .i64 p.params,.bool p.vararg,.int .i64 p.regs,.isl ((C0 E4 p).code.map Ins.row),.isl ((C0 E4 p).lines.map D1),.isl K,.isl (p.protos.map fun q=>(C0 E4 q).row),.isl U,.isl ((C0 E4 p).vars.map Vr.row)]:=by
   rw [Fn.row_eq,←hKR,←hUR,D];dsimp only;split<;>simp [E4,E6]
  have hEs:=Fn.row_sub C7 (C0 E4 p)
  generalize (C0 E4 p).code.map Ins.row=C2 at*
  generalize (C0 E4 p).lines.map D1=L2 at*
  generalize (C0 E4 p).vars.map Vr.row=V2 at*
  refine Run.rounds (fun(k:Nat)=>⟨[(8,.int .i64 k),(3,.ptr (mvN 3) s 0 0),(2,.ptr (mvN 2) 1 0 0),(1,.ptr (mvN 1) 0 0 0)],
   [(mvN 3,s,.rows 11 [[.str p.name,.int .i64 p.line,.int .i64 p.params,.bool p.vararg,.int .i64 p.regs,.isl C2,.isl L2,.isl K,.sl (cpN 28) d 0 p.protos.length,.isl U,.isl V2]]),(cpN 28,d,.rows 11 (tuP (C0 E4) p.protos k)),(mvN 2,1,.rows 11 [[.str [],.int .i64 0,.int .i64 0,.bool false,.int .i64 0,.nils,.nils,.nils,.nils,.nils,.nils]]),(mvN 1,0,.rows 11 [[.str p.name,.int .i64 p.line,.int .i64 p.params,.bool p.vararg,.int .i64 p.regs,.isl J,.isl LR,.isl K,.isl M,.isl U,.isl Z]])],m⟩)
   (fun k=>k≤p.protos.length) (fun k=>p.protos.length-k) 0 QK (Nat.zero_le _) ?_
  intro k hk w
  refine Run.unf S3 (Run.go 100 ?_)
  by_cases c:(k:Int)<p.protos.length
  ·obtain⟨q,v⟩: ∃q,p.protos[k]? =some q:=⟨p.protos[k]' zd,by simp⟩
   have hqr:=hrP k q v
   have hqp:=ih q (List.mem_of_getElem? v)
   have hqs:=Fn.row_sub C7 q
   obtain⟨q1,q2⟩:=B4 q
   obtain⟨o1,o2⟩:=B4 (C0 E4 q)
   have F:((0:Int)≤(k:Int))=True:=Ji
   have I:(k<p.protos.length)=True:=Ji
   have g:((k+1:Nat):Int)=(k:Int)+1:=by omega
   have hTl:=C0v (C0 E4) p.protos k
   have hTz:=C4B (C0 E4) p.protos k
   have fin:=fun s'=>w s' (k+1) zd zd
   have hTa:=C4A (f:=C0 E4) v
   have q3:q.row.drop 11= []:=List.drop_of_length_le zd
   rw [B7o v]at fin
   generalize q.row=qr at*
   generalize (C0 E4 q).row=out at*
   simp -implicitDefEqProofs only [go_sem,c,F,I,G,hzP,hqr,q1,q2,Nat.reduceDiv,Option.some.injEq,forall_eq']
   refine⟨?_,?_⟩<;>refine A0.pureF hqp Qv ?_<;>simp -implicitDefEqProofs only [go_sem,c,F,I,hTl,hTz,hTa,o1,o2,q1,q2,q3,List.append_nil,G,hzP,hqr,Nat.reduceDiv,Option.some.injEq,forall_eq']
   all_goals exact⟨⟨by omega,by omega⟩,fin _ zn⟩
  ·obtain rfl:k=p.protos.length:=by omega
   rw [C0u]
   simp -implicitDefEqProofs only [go_sem,c,G]
   subst hQ
   refine Z2.to (r2:= .agg (C0 E4 p).row) (h2:= []) (n2:=m) ?_ ?_
   ·generalize (C0 E4 p).row=ER at*
    refine QL ?_
    exact hEs
   ·exact YL
end Go.Proofs.YtcaaenddpjepiaaGreatDoor
