/-
 listing.Parse. No condition.
-/
import Derived.Test.YtflobbpcabopjaaGreatDoorLpBd
import Derived.Test.YtflobbpcabopjaaGreatDoorLs0
import Derived.Test.YtflobbpcabopjaaGreatDoorLsV
set_option linter.unusedVariables false set_option linter.unusedSimpArgs false set_option maxRecDepth 100000
set_option maxHeartbeats 0
namespace Go.Proofs.YtflobbpcabopjaaGreatDoor
section
open Go Go.Abs
attribute [local irreducible] A0 Run
abbrev nPr:Nat:=(13*10000+2)
abbrev nPq:Nat:=(13*10000+10)
-- EV: nRd, nOp, nPr, nPq
attribute [local go_sem] nRd nOp nPr nPq
theorem C8T{sr:Nat}{st:List Nd}{h:A2}(hi:InH sr st h){sl:List (Nat×V)}(hst:B6k sl)(nn:Nat)(X:Nat×Nat×Blk)(hX:X.1=nPr): ∃h2,Wk ⟨sl,X::h,nn⟩ ⟨sl,X::h2,nn⟩∧RdH sr st h2:=by
 cases st with
 |nil=>exact⟨h,.refl _,hi⟩
 | cons n r=>
  obtain⟨hp,s,so,rs,ps,hN,hr,⟨⟨vC,vL,vK,vU,vV,hC,hL,hK,hU,hV,sC,sL,sK,sU,sV,zC⟩,rfl⟩,ho,hrs,rfl⟩:=hi
  obtain⟨ap1,ap2⟩:=ho.ap
  have hpl:=ho.len
  generalize hH0:X::(nRd,sr,Blk.rows 1 [[V.sl nOp so 0 (r.length+1)]])::(nOp,so,Blk.rows 1 rs)::hr=H0
  have a0: ∀x,x<10000000000000→nRd≠x→nOp≠x→nPr≠x→B4 H0 x:=fun x h1 h2 h3 h4=>by rw [←hH0];exact B4.cons (by rw [hX];exact h4) (B4.cons h2 (B4.cons h3 (ap1 x h1)))
  have nb: ∀x,x<10000000000000→NB r.length≠x:=fun x hx=>by simp only [NB];omega
  refine⟨(nRd,sr,.rows 1 [[.sl nOp so 0 (r.length+1)]])::([(nOp,so,.rows 1 rs)]++((NB r.length,s,.rows 14 [I5 n .nils])::([]++hr))),?_,.ptr (NB r.length) s 0 0::ps,.sl nOp so 0 (r.length+1),[(nOp,so,.rows 1 rs)],_,.cons (.inl ⟨by rw [hp];rfl,rfl,rfl⟩) ho,.inr ⟨so,rs,by simp,by rw [List.length_cons,hpl],rfl,hrs⟩,rfl⟩
  have w0:Wk ⟨sl,X::(nRd,sr,.rows 1 [[.sl nOp so 0 (r.length+1)]])::(nOp,so,.rows 1 rs)::(((NB r.length,s,.rows 14 [A5t n vC vL vK .nils vU vV])::(hC++(hL++(hK++(hU++hV)))))++hr),nn⟩ ⟨sl,(NB r.length,s,.rows 14 [A5t n vC vL vK .nils vU vV])::(hC++(hL++(hK++(hU++(hV++H0))))),nn⟩:=
   E8.wk ⟨fun p hp=>(hst p hp).symm,fun e he=>by
    rw [←hH0]at he
    simp only [List.mem_cons,List.mem_append,List.cons_append]at he⊢
    rcases he with h|h|h|h|h|h|h|h|h|h<;>simp [h],Nat.le_refl _⟩
  have w1:=j9 (n:=nn) (nb:=NB r.length) (s:=s) (pre:= [.str n.p.name,.int .i64 n.p.line,.int .i64 n.p.params,.bool n.p.vararg,.int .i64 n.p.regs]) (post:= [vL,vK,.nils,vU,vV,.str n.path,.int .i64 n.kind,.bool n.lined]) hst sC (nb _ zf) (H:=hL++(hK++(hU++(hV++H0)))) ((sL.ap zf).append ((sK.ap zf).append ((sU.ap zf).append ((sV.ap zf).append (a0 _ zf zf zf zf)))))
  have w2:=j9 (n:=nn) (nb:=NB r.length) (s:=s) (pre:= [.str n.p.name,.int .i64 n.p.line,.int .i64 n.p.params,.bool n.p.vararg,.int .i64 n.p.regs,.isl (n.p.code.map Ins.row)]) (post:= [vK,.nils,vU,vV,.str n.path,.int .i64 n.kind,.bool n.lined]) hst sL (nb _ zf) (H:=hK++(hU++(hV++H0))) ((sK.ap zf).append ((sU.ap zf).append ((sV.ap zf).append (a0 _ zf zf zf zf))))
  have w3:=j9 (n:=nn) (nb:=NB r.length) (s:=s) (pre:= [.str n.p.name,.int .i64 n.p.line,.int .i64 n.p.params,.bool n.p.vararg,.int .i64 n.p.regs,.isl (n.p.code.map Ins.row),.isl (n.p.lines.map E9)]) (post:= [.nils,vU,vV,.str n.path,.int .i64 n.kind,.bool n.lined]) hst sK (nb _ zf) (H:=hU++(hV++H0)) ((sU.ap zf).append ((sV.ap zf).append (a0 _ zf zf zf zf)))
  have w4:=j9 (n:=nn) (nb:=NB r.length) (s:=s) (pre:= [.str n.p.name,.int .i64 n.p.line,.int .i64 n.p.params,.bool n.p.vararg,.int .i64 n.p.regs,.isl (n.p.code.map Ins.row),.isl (n.p.lines.map E9),.isl (n.p.consts.map Kst.row),.nils]) (post:= [vV,.str n.path,.int .i64 n.kind,.bool n.lined]) hst sU (nb _ zf) (H:=hV++H0) ((sV.ap zf).append (a0 _ zf zf zf zf))
  have w5:=j9 (n:=nn) (nb:=NB r.length) (s:=s) (pre:= [.str n.p.name,.int .i64 n.p.line,.int .i64 n.p.params,.bool n.p.vararg,.int .i64 n.p.regs,.isl (n.p.code.map Ins.row),.isl (n.p.lines.map E9),.isl (n.p.consts.map Kst.row),.nils,.isl (n.p.ups.map Upv.row)]) (post:= [.str n.path,.int .i64 n.kind,.bool n.lined]) hst sV (nb _ zf) (H:=H0) (a0 _ zf zf zf zf)
  have w6:Wk ⟨sl,(NB r.length,s,.rows 14 [I5 n .nils])::H0,nn⟩ ⟨sl,X::(nRd,sr,.rows 1 [[.sl nOp so 0 (r.length+1)]])::([(nOp,so,.rows 1 rs)]++((NB r.length,s,.rows 14 [I5 n .nils])::([]++hr))),nn⟩:=
   E8.wk ⟨fun p hp=>(hst p hp).symm,fun e he=>by
    rw [←hH0]
    simp only [List.mem_cons,List.mem_append,List.nil_append,List.cons_append]at he⊢
    rcases he with h|h|h|h|h<;>simp [h],Nat.le_refl _⟩
  exact w0.trans (w1.trans (w2.trans (w3.trans (w4.trans (w5.trans w6)))))
def B3w:List V:= [.str [],.int .i64 0,.int .i64 0,.bool false,.int .i64 0,.nils,.nils,.nils,.nils,.nils,.nils]
def zFn:Fn:=⟨[],0,0,false,0,[],[],[],[],[],[]⟩
noncomputable def P7 (s:List UInt8):V:=match U6 D8 F3 [] s with
 |none=> .tup [.agg zFn.row,.int .i64 (A2y D8 F3 [] s:Nat),.int .i64 4]
 |some st=>match C5 1 st with
  |n::_=>if A1f n.p=0 then .tup [.agg n.p.row,.int .i64 0,.int .i64 0]else .tup [.agg zFn.row,.int .i64 0,.int .i64 (A1f n.p)]
  | []=> .undef
noncomputable def B5F:AC:=A2e.snd.snd.snd.snd
theorem C6O{x:Nat}(h:Lab x):nPr≠x:=by
 rcases h with h|h|h|h
 ·rw [h];decide
 ·rw [h];decide
 ·exact Kb
 ·intro e
  have:nPr<10000000000000:=by decide
  rw [e]at this
  omega
attribute [local irreducible] NB NP hFn hOk hS6 P7
noncomputable abbrev pCf (s:List UInt8):Cf:=⟨Tryz.prog,59,[.c 2 11 true,.t 3,.t 4],fun r h _=>frz 0 h r=P7 s,none,none⟩
theorem C0n{s:List UInt8}(h:U6 D8 F3 [] s=none):P7 s= .tup [.agg zFn.row,.int .i64 (A2y D8 F3 [] s:Nat),.int .i64 4]:=by
 unfold P7;rw [h]
theorem C2c(s:List UInt8)(hlen:s.length≤1000000000)(hLB:LB s)(hct:s.count 10≤1000000)
  (next: ∀st h m,U6 D8 F3 [] s=some st→InH 1 st h→Inv (s.count 10) st→(∀n∈st,Bx (s.count 10) n.p)→Run (pCf s) [.code B5F] ⟨[(5,.ptr nRd 1 0 0),(2,.ptr nPr 0 0 0)],(nPr,0,.rows 11 [B3w])::h,m⟩):
  Abs.Pure Tryz.prog 13 [.str s] (P7 s):=by
 refine Pure.of 0 (A0.enter A5m Jo (Run.go 100 ?_))
 refine Qz ?_
 have bad: ∀{k:Nat},U6 D8 F3 [] s=none→A2y D8 F3 [] s=k+1→ .tup [.agg [.str [],.int .i64 0,.int .i64 0,.bool false,.int .i64 0,.isl [],.isl [],.isl [],.isl [],.isl [],.isl []],.int .i64 ((k:Int)+1),.int .i64 4]=P7 s:=by
  intro k h0 h1
  rw [C0n h0,h1,show ((k+1:Nat):Int)=(k:Int)+1 by omega]
  rfl
 refine Run.roundsK (fun(y:List Nd×List UInt8×Nat×A2×Nat)=>⟨[(6,.int .i64 y.2.2.1),(5,.ptr nRd 1 0 0),(2,.ptr nPr 0 0 0),(0,.str y.2.1)],(nPr,0,.rows 11 [B3w])::y.2.2.2.1,y.2.2.2.2⟩)
  (fun y=>InH 1 y.1 y.2.2.2.1∧Inv y.2.2.1 y.1∧(∀n∈y.1,Bx y.2.2.1 n.p)∧LB y.2.1∧y.2.1.length≤1000000000∧y.2.2.1+y.2.1.count 10=s.count 10∧U6 D8 F3 [] s=U6 D8 F3 y.1 y.2.1∧A2y D8 F3 [] s=y.2.2.1+A2y D8 F3 y.1 y.2.1)
  (fun y=>y.2.1.length) ([],s,0,[(nRd,1,.rows 1 [[.nils]])],2) (E8.wk ⟨B0.1 ze,C0.1 (by simp -implicitDefEqProofs only [go_sem,B3w]),Nat.le_refl _⟩) ⟨⟨[],.nils,[],[],.nil,.inl ⟨rfl,rfl,rfl⟩,rfl⟩,⟨Nat.le_refl _,fun n h=>(by cases h),fun n h=>(by cases h)⟩,fun n h=>(by cases h),hLB,hlen,by simp only;omega,rfl,by simp only;omega⟩ ?_
 rintro⟨st,s1,k,h,m⟩ ⟨j1,j2,j3,j4,j5,j6,j7,j8⟩ ih
 simp only at j1 j2 j3 j4 j5 j6 j7 j8 ih⊢
 have hcut:=B4O s1 [10] j5
 rw [C3g,C2U]at hcut
 have hk:k≤1000000:=by omega
 unfold B3w at*
 cases hc:A7L s1 with
 |none=>
  rw [hc]at hcut
  have e1:U6 D8 F3 [] s=none:=j7.trans (B0R hc)
  have e2:A2y D8 F3 [] s=k+1:=by rw [j8,B3i (.inl hc)]
  refine Run.unf Y4 (Run.go 100 ?_)
  refine Qy ?_
  refine⟨by omega,?_⟩
  refine A0.pureF hcut ze ?_
  refine Qy ?_
  exact bad e1 e2
 | some p=>
  obtain⟨t,r⟩:=p
  rw [hc]at hcut
  obtain⟨lb1,lb2⟩:=j4.cut hc
  obtain⟨es,hn⟩:=A5d hc
  have hless:=A9w hc
  have hct2:s1.count 10=r.count 10+1:=by
   rw [es,List.count_append,List.count_cons,List.count_eq_zero_of_not_mem hn];simp
  have hlc:=fun nn=>C4G 1 nn st h j1 k zd j2 t lb1
  have hlab:=j1.lab
  have fr: ∀{nn:Nat} {K:Res},(∀r h' n',nn≤n'→C6S 1 st t r h' n'→K r ((nPr,0,.rows 11 [[.str [],.int .i64 0,.int .i64 0,.bool false,.int .i64 0,.nils,.nils,.nils,.nils,.nils,.nils]])::h') n')→A0 Tryz.prog 29 [.ptr nRd 1 0 0,.str t] ((nPr,0,.rows 11 [[.str [],.int .i64 0,.int .i64 0,.bool false,.int .i64 0,.nils,.nils,.nils,.nils,.nils,.nils]])::h) nn K:=by
   intro nn K hK
   refine A0.sub (B1v (R:= [(nPr,0,.rows 11 [[.str [],.int .i64 0,.int .i64 0,.bool false,.int .i64 0,.nils,.nils,.nils,.nils,.nils,.nils]])]) (k:=fun r h2 n'=>nn≤n'∧ ∃h',h2=h'++ [(nPr,0,.rows 11 [[.str [],.int .i64 0,.int .i64 0,.bool false,.int .i64 0,.nils,.nils,.nils,.nils,.nils,.nils]])]∧C6S 1 st t r h' n') (hlc nn) (fun e he=>List.mem_cons_of_mem _ he) (fun e he=>by rw [List.mem_singleton.1 he];exact List.mem_cons_self) (fun e he=>B4.cons (C6O (hlab e he)) .nil) fun r h' n' hn hq=>⟨hn,h',rfl,hq⟩) ?_
   rintro r h2 n' ⟨hn,h',rfl,hq⟩
   exact⟨_,fun e he=>by simp only [List.mem_cons,List.mem_append]at he⊢;rcases he with h|h<;>simp [h],hK r h' n' hn hq⟩
  have hls:U6 D8 F3 [] s=(P6 D8 F3 st t).bind fun st'=>if r= []then some st' else U6 D8 F3 st' r:=j7.trans (A6A hc)
  by_cases hr:r= []
  ·have fr0:(r= [])=True:=eq_true hr
   refine Run.unf Y4 (Run.go 16 ?_)
   refine Qy ?_
   refine⟨by omega,?_⟩
   refine A0.pureF hcut ze ?_
   refine Qy ?_
   refine fr ?_
   rintro x h' m' hm (⟨st',q1,rfl,q2⟩|⟨q1,rfl⟩)
   ·simp -implicitDefEqProofs only [go_sem,fr0]
    have hl2:=q2.lab
    refine Run.wk ?_ (next st' h' m' (by rw [hls,q1];simp [hr]) q2 ?_ ?_)
    ·exact E8.wk ⟨B0.1 ze,fun e he=>he,Nat.le_refl _⟩
    ·have:=B9J q1 j2 zd
     rw [show s.count 10=k+1 by rw [hr]at hct2;simp at hct2;omega];exact this
    ·have:=C2L q1 j2 j3
     rw [show s.count 10=k+1 by rw [hr]at hct2;simp at hct2;omega];exact this
   ·exact Ye
  ·have fr0:(r= [])=False:=eq_false hr
   refine Run.unf Y4 (Run.go 100 ?_)
   refine Qy ?_
   refine⟨by omega,?_⟩
   refine A0.pureF hcut ze ?_
   refine Qy ?_
   refine fr ?_
   rintro x h' m' hm (⟨st',q1,rfl,q2⟩|⟨q1,rfl⟩)
   ·simp -implicitDefEqProofs only [go_sem,fr0]
    have hz:((k+1:Nat):Int)=(k:Int)+1:=by omega
    refine ih _ (st',r,k+1,h',m') ⟨q2,B9J q1 j2 zd,C2L q1 j2 j3,lb2,by simp only;omega,by simp only;omega,by rw [hls,q1];simp [hr],by rw [j8,C1U hc q1 hr];simp only;omega⟩ zj (E8.wk ⟨B0.1 (by simp -implicitDefEqProofs only [go_sem,hz]),fun e he=>he,Nat.le_refl _⟩)
   ·exact Ye
end
section
open Go Go.Abs
attribute [local irreducible] A0 Run
-- EV: nRd, nOp, nPr, nPq
attribute [local go_sem] nRd nOp nPr nPq
noncomputable def C2a:AC:=B5F.snd
attribute [local irreducible] NB NP hFn hOk hS6 P7
theorem C9t(s:List UInt8)(n:Nd)(so s0 m:Nat)(rs:List (List V))(hrs:rs[0]? =some [.ptr (NB 0) s0 0 0])(hck:Abs.Pure Tryz.prog 14 [.agg n.p.row] (.int .i64 (A1f n.p)))
  (hp:P7 s=if A1f n.p=0 then .tup [.agg n.p.row,.int .i64 0,.int .i64 0]else .tup [.agg zFn.row,.int .i64 0,.int .i64 (A1f n.p)]):
  Run (pCf s) [.code C2a] ⟨[(5,.ptr nRd 1 0 0),(2,.ptr nPr 0 0 0)],[(nPr,0,.rows 11 [B3w]),(nRd,1,.rows 1 [[.sl nOp so 0 1]]),(nOp,so,.rows 1 rs),(NB 0,s0,.rows 14 [I5 n (.isl (n.p.protos.map Fn.row))])],m⟩:=by
 have b1:(nRd=NB 0)=False:=eq_false Qb
 have b2:(nOp=NB 0)=False:=eq_false Qc
 have b3:(nPr=NB 0)=False:=eq_false (by simp only [nPr,NB];omega)
 have b4:(nPq=NB 0)=False:=eq_false (by simp only [nPq,NB];omega)
 have b5:(NB 0=nPr)=False:=eq_false (by simp only [nPr,NB];omega)
 have b6:(NB 0=nPq)=False:=eq_false (by simp only [nPq,NB];omega)
 have i3:(0<rs.length)=True:=eq_true (List.getElem?_eq_some_iff.1 hrs).1
 obtain⟨g1,g2⟩:=C9 n.p
 have hps:=Fn.row_sub I6 n.p
 have hR:=D3b n
 have hR1:(n.p.row++ [V.str n.path,V.int .i64 n.kind,V.bool n.lined]).length=14:=by rw [List.length_append,g1];rfl
 have hR2:(n.p.row++ [V.str n.path,V.int .i64 n.kind,V.bool n.lined]).take 11=n.p.row:=by rw [List.take_append_of_le_length (by rw [g1];exact Nat.le_refl _)];exact g2
 have hfr: ∀(h:A2),n.p.row.map (frz 0 h)=n.p.row:=by
  intro h
  obtain⟨φ,e⟩: ∃φ,frz 0 h=V.sub φ:=⟨_,rfl⟩
  rw [e]
  exact Fn.row_sub φ n.p
 rw [hR]
 generalize n.p.row++ [V.str n.path,V.int .i64 n.kind,V.bool n.lined]=R14 at*
 unfold B3w
 refine Run.go 100 ?_
 by_cases h0:A1f n.p=0
 ·rw [if_pos h0]at hp
  rw [h0]at hck
  generalize n.p.row=pr at*
  simp -implicitDefEqProofs only [go_sem,C2a,B5F,AC.snd,b1,b2,b3,b4,b5,b6,i3,hrs,hR1,hR2,g1,g2,Nat.zero_add,Option.some.injEq,forall_eq']
  refine A0.pureF hck zl ?_
  simp -implicitDefEqProofs only [go_sem,g1,g2,hR1,hR2]
  rw [hfr,hp]
 ·rw [if_neg h0]at hp
  generalize A1f n.p=c at*
  generalize n.p.row=pr at*
  simp -implicitDefEqProofs only [go_sem,C2a,B5F,AC.snd,b1,b2,b3,b4,b5,b6,i3,hrs,hR1,hR2,g1,g2,Nat.zero_add,Option.some.injEq,forall_eq']
  refine A0.pureF hck zl ?_
  simp -implicitDefEqProofs only [go_sem,g1,g2,hR1,hR2,h0]
  rw [hp]
  rfl
theorem D0Y:B6k [(5,.ptr nRd 1 0 0),(2,.ptr nPr 0 0 0)]:=by
 intro p hp
 simp only [List.mem_cons,List.not_mem_nil,or_false]at hp
 rcases hp with rfl|rfl<;>rfl
theorem C5E{i:Ins}(h:chk i=0):D3 i≠ []:=by
 have ho:=(B1y h).1
 have hw:=(C3E ho).1
 unfold D3
 rw [if_pos (by simpa using ho)]
 intro e
 exact hw (List.append_eq_nil_iff.1 e).1
theorem D2p: ∀s,(F3 s).2=0→D3 (F3 s).1≠ []:=fun s h=>C5E ((B4j s).2.1 h).1
theorem A8T(s:List UInt8)(hlen:s.length≤1000000000)(hLB:LB s)(hct:s.count 10≤1000000):Abs.Pure Tryz.prog 13 [.str s] (P7 s):=by
 refine C2c s hlen hLB hct fun st h m hls hin hinv hbx=> ?_
 obtain⟨n,hn⟩:=B9U hls
 have hlist:=B2a D2p hls hn
 have hbn:Bx (s.count 10) n.p:=C2M _ 1 _ st (Nat.le_refl _) hinv.cnt hbx n (by rw [hn];exact List.mem_singleton.2 rfl)
 have hdep:n.p.depth≤1000000:=by
  have h1:=Fn.depth_each n.p
  have h2:=B4V n.p
  have h3:=A8r n.p
  rw [hlist]at h3
  omega
 have hck:=A1W n.p (hbn.bd zd) hdep
 have hp:P7 s=if A1f n.p=0 then .tup [.agg n.p.row,.int .i64 0,.int .i64 0]else .tup [.agg zFn.row,.int .i64 0,.int .i64 (A1f n.p)]:=by
  unfold P7;rw [hls];simp only;rw [hn]
 have hst:1≤st.length:=by
  cases st with
  |nil=>rw [C5]at hn;cases hn
  |cons a r=>simp
 have hcl:=A6s st
 have hcs:=hinv.cnt
 obtain⟨h2,w,hr⟩:=C8T hin D0Y m (nPr,0,.rows 11 [B3w]) rfl
 refine Run.wk w ?_
 refine Run.go 100 ?_
 simp -implicitDefEqProofs only [go_sem,B5F,AC.snd]
 refine Run.roundsK (fun(y:List Nd×A2×Nat)=>⟨[(5,.ptr nRd 1 0 0),(2,.ptr nPr 0 0 0)],(nPr,0,.rows 11 [B3w])::y.2.1,y.2.2⟩) (fun y=>RdH 1 y.1 y.2.1∧C5 1 y.1=C5 1 st∧1≤y.1.length∧cnt y.1≤1000000) (fun y=>y.1.length) (st,h2,m) (E8.wk ⟨B0.1 ze,fun _ h=>h,Nat.le_refl _⟩) ⟨hr,rfl,hst,by simp only;omega⟩ ?_
 clear hr hst hcl hcs hin hinv hbx w
 rintro⟨st1,h1,m1⟩ ⟨hr1,hs1,hd1,hc1⟩ ih
 simp only at hr1 hs1 hd1 hc1 ih⊢
 have hl1:=A6s st1
 obtain⟨ps,vO,hO,hS,ho,hp1,hh⟩:=id hr1
 have hpl:=ho.len
 rcases hp1 with⟨h0,rfl,rfl⟩|⟨so,rs,hne,rfl,rfl,hrs⟩
 ·exact YV
 by_cases hlt:1<st1.length
 ·have q1:((1:Int)<(ps.length:Int))=True:=Jm
  match st1,hlt with
  | [n],hlt=>simp only [List.length_cons,List.length_nil]at hlt;omega
  |n::k::r,hlt=>
   have hsc:=fun nn=>B7B 1 nn n k r h1 hr1 (by simp only [List.length_cons]at hl1;omega) (by simp only [cnt]at hc1;omega)
   have hlab:=hr1.lab
   subst hh
   refine Run.unf A2n (Run.go 100 ?_)
   simp -implicitDefEqProofs only [go_sem,q1]
   refine A0.sub (B1v (R:= [(nPr,0,.rows 11 [B3w])]) (k:=fun x h2 n'=>m1≤n'∧ ∃h',h2=h'++ [(nPr,0,.rows 11 [B3w])]∧x= .tup []∧RdH 1 ({k with p:=A2W k.p n.p}::r) h') (hsc _) (fun e he=>List.mem_cons_of_mem _ he) (fun e he=>by rw [List.mem_singleton.1 he];exact List.mem_cons_self) (fun e he=>B4.cons (C6O (hlab e he)) .nil) fun x h' n' hn hq=>⟨hn,h',rfl,hq⟩) ?_
   rintro x h2 n' ⟨hn',h',rfl,rfl,hr2⟩
   refine⟨(nPr,0,.rows 11 [B3w])::h',fun e he=>by simp only [List.mem_cons,List.mem_append]at he⊢;rcases he with h|h<;>simp [h],?_⟩
   refine Qy ?_
   refine ih _ ({k with p:=A2W k.p n.p}::r,h',n') ⟨hr2,?_,by simp,?_⟩ zg (E8.wk ⟨B0.1 ze,fun _ h=>h,Nat.le_refl _⟩)
   ·rw [←hs1,C5.eq_3 1 n k r,if_pos zd]
   ·exact Nat.le_trans (B1z n k r) hc1
 ·have q1:((1:Int)<(ps.length:Int))=False:=Jn
  match st1,hd1,ho with
  | [],hd1,_=>simp only [List.length_nil]at hd1;omega
  | k::r,hd1,.cons (s:=s0) (vP:=vP) (hP:=hP) (ps:=ps1) (hr:=hr2) hpp ho1=>
   have hr0:r= []:=List.length_eq_zero_iff.1 (by simp only [List.length_cons]at hlt;omega)
   subst hr0
   cases ho1
   have hkn:k=n:=by
    rw [C5]at hs1
    rw [hn]at hs1
    injection hs1
   subst hkn
   have r0:rs[0]? =some [.ptr (NB 0) s0 0 0]:=hrs _ _ zg
   have lp:=hpp.lab
   subst hh
   refine Run.unf A2n (Run.go 5 ?_)
   refine Jf ?_
   have hX:B4 [(nPr,0,.rows 11 [B3w]),(nRd,1,.rows 1 [[.sl nOp so 0 1]]),(nOp,so,.rows 1 rs)] (NP 0):=by
    have h1:=(C3i 0).2
    have h2:nPr<10000000000000:=by decide
    have h3:nRd<10000000000000:=by decide
    have h4:nOp<10000000000000:=by decide
    exact B4.cons (by show nPr≠_;omega) (B4.cons (by show nRd≠_;omega) (B4.cons (by show nOp≠_;omega) .nil))
   have hb:NB 0≠NP 0:=by unfold NB NP;omega
   have w2:=j9 (n:=m1) (s:=s0) (pre:=D2I k) (post:=C7g k) D0Y (hpp:SlH (NP 0) 11 _ vP hP) hb hX
   rw [←A2R,←A2R]at w2
   refine Run.wk ?_ (C9t s k so s0 m1 rs r0 hck hp)
   refine Wk.trans (b:=⟨[(5,.ptr nRd 1 0 0),(2,.ptr nPr 0 0 0)],(NB 0,s0,.rows 14 [I5 k vP])::(hP++ [(nPr,0,.rows 11 [B3w]),(nRd,1,.rows 1 [[.sl nOp so 0 1]]),(nOp,so,.rows 1 rs)]),m1⟩) ?_ (Wk.trans w2 ?_)
   ·refine E8.wk ⟨B0.1 ze,fun e he=> ?_,Nat.le_refl _⟩
    simp only [List.mem_cons,List.mem_append,List.not_mem_nil,or_false,List.nil_append,List.append_nil,List.length_nil]at he⊢
    rcases he with h|h|h|h|h<;>simp [h]
   ·refine E8.wk ⟨B0.1 ze,fun e he=> ?_,Nat.le_refl _⟩
    simp only [List.mem_cons,List.mem_append,List.not_mem_nil,or_false]at he⊢
    rcases he with h|h|h|h<;>simp [h]
end
section
open Go Go.Abs
attribute [local irreducible] A0 Run NB NP hFn hOk hS6 P7
theorem D7p:Ans D8 F3:=⟨C7o,fun s=>(B4j s).2.2.2⟩
theorem B5H(s:List UInt8)(hct:s.count 10≤1000000):(∃k:Nat,1≤k∧P7 s= .tup [.agg zFn.row,.int .i64 k,.int .i64 4])∨(∃c:Int,c≠0∧P7 s= .tup [.agg zFn.row,.int .i64 0,.int .i64 c])∨
  ∃p:Fn,A1f p=0∧N4 p=s∧n64L p.row∧P7 s= .tup [.agg p.row,.int .i64 0,.int .i64 0]:=by
 unfold P7
 cases h:U6 D8 F3 [] s with
 |none=>exact .inl ⟨_,C4K _ _,rfl⟩
 | some st=>
  obtain⟨n,hn⟩:=B9U h
  simp only
  rw [hn]
  simp only
  by_cases hc:A1f n.p=0
  ·rw [if_pos hc]
   exact .inr (.inr ⟨n.p,hc,B2a D2p h hn,C4M D7p D2p h hn,rfl⟩)
  ·rw [if_neg hc]
   exact .inr (.inl ⟨_,hc,rfl⟩)
theorem C1Y{p:Fn}(h: ∀q∈p.each,q.Okl):p.bd:=fun q hq=>by
 have o:=h q hq
 have h1:=o.code.1
 have h2:=o.consts.1
 have h3:=o.ups.1
 have h4:=o.vars.1
 have h5:=o.protos
 have h6:=o.lines.1
 exact XV
theorem C7s(s:List UInt8)(hs:s.length≤1000000000):Abs.Pure Tryz.prog 4 [.str s] (.bool true):=by
 have aw:=B0C
 by_cases hl:20000<s.length
 ·have q1:((20000:Int)<(s.length:Int))=True:=Jm
  refine Pure.of 0 (A0.enter D6 Jo (Run.go 100 ?_))
  refine QQ ?_
  exact JM
 have q1:((20000:Int)<(s.length:Int))=False:=Jn
 have hct:s.count 10≤1000000:=Nat.le_trans List.count_le_length zd
 have hp:=A8T s hs (LB.small zd) hct
 rcases B5H s hct with⟨k,hk,e⟩|⟨c,hc,e⟩|⟨p,hc,hls,hnm,e⟩
 ·rw [e]at hp
  have k1:((0:Int)<(k:Int))=True:=Jm
  have k2:((0:Int)≤(k:Int))=True:=Jm
  have hz:zFn.row= [.str [],.int .i64 0,.int .i64 0,.bool false,.int .i64 0,.isl [],.isl [],.isl [],.isl [],.isl [],.isl []]:=rfl
  rw [hz]at hp
  refine Pure.of 0 (A0.enter D6 Jo (Run.go 100 ?_))
  refine QQ ?_
  refine A0.pureF hp ze ?_
  simp -implicitDefEqProofs only [go_sem,k1,k2]
  exact JM
 ·rw [e]at hp
  have hz:zFn.row= [.str [],.int .i64 0,.int .i64 0,.bool false,.int .i64 0,.isl [],.isl [],.isl [],.isl [],.isl [],.isl []]:=rfl
  rw [hz]at hp
  have q2:(c=0)=False:=eq_false hc
  by_cases h4:c=4
  ·subst h4
   refine Pure.of 0 (A0.enter D6 Jo (Run.go 100 ?_))
   refine QQ ?_
   refine A0.pureF hp ze ?_
   exact YL
  ·have q3:(c=4)=False:=eq_false h4
   refine Pure.of 0 (A0.enter D6 Jo (Run.go 100 ?_))
   refine QQ ?_
   refine A0.pureF hp ze ?_
   simp -implicitDefEqProofs only [go_sem,q2,q3]
   exact JM
 ·rw [e]at hp
  obtain⟨hdep,hok⟩:=B3m hc hnm
  have hck:=A1W p (C1Y hok) zd
  have htx:=B1V p (C1Y hok) zd hnm (fun _=>by rw [hls];omega)
  unfold B6e at htx
  rw [if_pos hc,hls]at htx
  rw [hc]at hck
  obtain⟨g1,g2⟩:=C9 p
  have hps:=Fn.row_sub I6 p
  generalize p.row=pr at*
  refine Pure.of 0 (A0.enter D6 Jo (Run.go 100 ?_))
  refine QQ ?_
  refine A0.pureF hp ze ?_
  refine QC ?_
  refine A0.pureF htx zl ?_
  refine QC ?_
  refine A0.pureF hck zl ?_
  exact YL
theorem B1W(n0:List UInt8)(w0:n0.length≤reachBytes)(hsm:bkL [.str n0]≤1048576):Abs.Pure Tryz.prog 4 [.str n0] (.bool true):=by
 simp only [bkL,bkV]at hsm
 exact C7s n0 zd
end
end Go.Proofs.YtflobbpcabopjaaGreatDoor
