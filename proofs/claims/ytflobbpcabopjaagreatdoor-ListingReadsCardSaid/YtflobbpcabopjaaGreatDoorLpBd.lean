/-
 The first line of a function: reader.head. No condition.
-/
import Derived.Test.YtflobbpcabopjaaGreatDoorLpK
set_option linter.unusedVariables false set_option linter.unusedSimpArgs false set_option maxRecDepth 100000
set_option maxHeartbeats 0
namespace Go.Proofs.YtflobbpcabopjaaGreatDoor
section
open Go Go.Abs
attribute [local irreducible] A0 Run
abbrev nXh:Nat:=(66*10000+58)
abbrev nPb:Nat:=(66*10000+10)
-- EV: nNd, nRd, nOp, nPp, nPa, nXh, nPb
attribute [local go_sem] nNd nRd nOp nPp nPa nXh nPb
noncomputable def hdB:AC:=U3.snd.snd.snd
noncomputable def B9G:AC:=hdB.snd.snd.snd.snd.snd.snd.snd.snd.snd.snd.snd
noncomputable abbrev hCf (Q:Res):Cf:=⟨Tryz.prog,111,[.t 6],P2 Q,none,none⟩
theorem D2m(Q:Res)(sr sx sp n:Nat)(y:Sc)(path name:List UInt8)(line params regs:Int)(va:Bool)(ps:List V)(hps:ps.length≤100000000)(vO:V)(hO hS:A2)(ho:OpH ps vO hO)(hd: ∀x,x<10000000000000→B4 hS x)
  (fin: ∀so rs s m,(∀(i:Nat) (p:V),(.ptr nNd s 0 0::ps).reverse[i]? =some p→rs[i]? =some [p])→P2 Q (.bool (y.ok&&decide (y.s= []))) ((nRd,sr,.rows 1 [[.sl nOp so 0 (ps.length+1)]])::(nOp,so,.rows 1 rs)::(nNd,s,.rows 14 [[.str name,.int .i64 line,.int .i64 params,.bool va,.int .i64 regs,.nils,.nils,.nils,.nils,.nils,.nils,.str path,.int .i64 0,.bool false]])::hS) m):
  Run (hCf Q) [.code B9G] ⟨[(10,.ptr nPb sp 0 0),(9,.ptr nXh sx 0 0),(7,.str path),(0,.ptr nRd sr 0 0)],(nPb,sp,.rows 11 [[.str name,.int .i64 line,.int .i64 params,.bool va,.int .i64 regs,.nils,.nils,.nils,.nils,.nils,.nils]])::(nXh,sx,.rows 2 [[.str y.s,.bool y.ok]])::(nRd,sr,.rows 1 [[vO]])::(hO++hS),n⟩:=by
 have d1:=(hd nRd zf).del
 have d2:=(hd nOp zf).del
 have d3:=(hd nNd zf).del
 have ke:=fun n=>A8e nXh sx n y
 have aX:=hd nXh zf
 have sub: ∀{r:V} {h h2:A2} {m:Nat},P2 Q r h2 m→(∀e∈h2,e∈h)→P2 Q r h m:=fun h1 h2=>P2.wk (.sub (C0.2 h2)) h1
 refine Run.go 100 ?_
 rcases ho with⟨rfl,rfl,rfl⟩|⟨so,rs,hne,rfl,rfl,hrs⟩
 ·simp -implicitDefEqProofs only [go_sem,B9G,hdB,AC.snd,d1,d2,d3,List.nil_append]
  refine B1u (h2:=(nRd,sr,.rows 1 [[.sl nOp (n+1) 0 1]])::(nOp,n+1,.rows 1 [[.ptr nNd n 0 0]])::(nNd,n,.rows 14 [[.str name,.int .i64 line,.int .i64 params,.bool va,.int .i64 regs,.nils,.nils,.nils,.nils,.nils,.nils,.str path,.int .i64 0,.bool false]])::hS) (ke _) zg (B4.cons (show nRd≠nXh by decide) (B4.cons (show nOp≠nXh by decide) (B4.cons (show nNd≠nXh by decide) aX))) (fun e he=>by simp only [List.mem_cons]at he⊢;rcases he with h|h|h|h<;>simp [h]) fun m hm=> ?_
  refine Qy ?_
  exact sub (fin (n+1) [[.ptr nNd n 0 0]] n m fun i p hi=>by
   rcases i with _|i
   ·simp at hi⊢;exact hi
   ·simp at hi) fun e he=>List.mem_cons_of_mem _ he
 ·have hlen:ps.length≤rs.length:=by
   have h1:0<ps.length:=List.length_pos_iff.2 hne
   have h2:ps.length-1<ps.reverse.length:=by rw [List.length_reverse];omega
   have h3:=hrs (ps.length-1) _ (List.getElem?_eq_getElem h2)
   have:=(List.getElem?_eq_some_iff.1 h3).1
   omega
  simp -implicitDefEqProofs only [go_sem,B9G,hdB,AC.snd,d1,d2,d3,List.nil_append,List.cons_append]
  refine⟨hlen,by omega,?_⟩
  refine B1u (h2:=(nRd,sr,.rows 1 [[.sl nOp (n+1) 0 (ps.length+1)]])::(nOp,n+1,.rows 1 (rs.take ps.length++ [[.ptr nNd n 0 0]]))::(nNd,n,.rows 14 [[.str name,.int .i64 line,.int .i64 params,.bool va,.int .i64 regs,.nils,.nils,.nils,.nils,.nils,.nils,.str path,.int .i64 0,.bool false]])::hS) (ke _) zg (B4.cons (show nRd≠nXh by decide) (B4.cons (show nOp≠nXh by decide) (B4.cons (show nNd≠nXh by decide) aX))) (fun e he=>by simp only [List.mem_cons]at he⊢;rcases he with h|h|h|h<;>simp [h]) fun m hm=> ?_
  refine Qy ?_
  refine sub (fin (n+1) (rs.take ps.length++ [[.ptr nNd n 0 0]]) n m fun i p hi=> ?_) fun e he=>List.mem_cons_of_mem _ he
  rw [List.reverse_cons]at hi
  by_cases hlt:i<ps.length
  ·rw [List.getElem?_append_left (by rw [List.length_reverse];exact hlt)]at hi
   rw [List.getElem?_append_left (by rw [List.length_take];omega),List.getElem?_take,if_pos hlt]
   exact hrs i p hi
  ·have:i=ps.length:=by
    exact Yn
   subst this
   rw [List.getElem?_append_right Qa,List.length_reverse,Nat.sub_self]at hi
   injection hi with hi
   rw [←hi,List.getElem?_append_right (by rw [List.length_take];omega),List.length_take,Nat.min_eq_left hlen,Nat.sub_self]
   rfl
theorem D2l(Q:Res)(sr n:Nat)(t path:List UInt8)(hB:t.length≤100000)(R:A2)(hR:B4 R nXh∧B4 R nPb)
  (next: ∀sx sp m,Run (hCf Q) [.code B9G] ⟨[(10,.ptr nPb sp 0 0),(9,.ptr nXh sx 0 0),(7,.str path),(0,.ptr nRd sr 0 0)],(nPb,sp,.rows 11 [[.str (hFn path t).name,.int .i64 (hFn path t).line,.int .i64 (hFn path t).params,.bool (hFn path t).vararg,.int .i64 (hFn path t).regs,.nils,.nils,.nils,.nils,.nils,.nils]])::(nXh,sx,.rows 2 [[.str (hS6 path t).s,.bool (hS6 path t).ok]])::R,m⟩):
  Run (hCf Q) [.code hdB] ⟨[(7,.str path),(1,.str t),(0,.ptr nRd sr 0 0)],R,n⟩:=by
 have a1:=hR.1
 have d1:=hR.1.del
 have d2:=hR.2.del
 have u0:Sc.expect A3M ⟨t,true⟩=Sc.expect [102,117,110,99] ⟨t,true⟩:=rfl
 have l0:(Sc.expect A3M ⟨t,true⟩).s.length≤100000:=Nat.le_trans (N3 _ _) hB
 have l1:(hS1 path t).s.length≤100000:=Nat.le_trans (N3 _ _) l0
 have m1:(hS1 path t).quoted.s.length≤100000:=Nat.le_trans (A9i _) l1
 have l2:(hS2 path t).s.length≤100000:=Nat.le_trans (N3 _ _) m1
 have m2:(hS2 path t).num.s.length≤100000:=Nat.le_trans (A3r _) l2
 have l3:(hS3 path t).s.length≤100000:=Nat.le_trans (N3 _ _) m2
 have m3:(hS3 path t).num.s.length≤100000:=Nat.le_trans (A3r _) l3
 have l4:(hS4 path t).s.length≤100000:=Nat.le_trans (N3 _ _) m3
 have l5:(hS5 path t).s.length≤100000:=Nat.le_trans (A3r _) l4
 have k0:=fun st n=>K1 nXh st n ⟨t,true⟩ A3M hB
 have k1:=fun st n=>K1 nXh st n (Sc.expect A3M ⟨t,true⟩) path l0
 have k2:=fun st n=>A4z nXh st n zf zf zf (hS1 path t) l1
 have k3:=fun st n=>K1 nXh st n (hS1 path t).quoted B0u m1
 have k4:=fun st n=>A0x nXh st n (hS2 path t) l2
 have k5:=fun st n=>K1 nXh st n (hS2 path t).num A1e m2
 have k6:=fun st n=>A0x nXh st n (hS3 path t) l3
 have k7:=fun st n=>K1 nXh st n (hS3 path t).num A7J m3
 have k8:=fun st n=>A0x nXh st n (hS4 path t) l4
 have k9:=fun st n=>K1 nXh st n (hS5 path t) V2 l5
 rw [show (Sc.expect A3M ⟨t,true⟩).expect path=hS1 path t from rfl]at k1
 rw [show (hS1 path t).quoted.expect B0u=hS2 path t from rfl]at k3
 rw [show (hS2 path t).num.expect A1e=hS3 path t from rfl]at k5
 rw [show (hS3 path t).num.expect A7J=hS4 path t from rfl]at k7
 rw [show (hS4 path t).num=hS5 path t from rfl]at k8
 unfold A3M at k0 k1
 unfold B0u at k3
 unfold A1e at k5
 unfold A7J at k7
 unfold V2 at k9
 have e6:hS6 path t=if (hS5 path t).ok=true∧(hS5 path t).s≠ []then(hS5 path t).expect [118,97,114,97,114,103]else hS5 path t:=by
  unfold hS6 B6q
  simp only [Bool.and_eq_true,decide_eq_true_eq]
  rfl
 have eV:B6q path t=decide ((hS5 path t).ok=true∧(hS5 path t).s≠ []):=by
  unfold B6q
  rw [Bool.eq_iff_iff]
  simp
 unfold hFn at next
 simp only at next
 rw [e6,eV]at next
 clear e6 eV l0 l1 m1 l2 m2 l3 m3 l4 l5 u0
 generalize (hS1 path t).q=nm at*
 generalize atN (hS2 path t).w=z1 at*
 generalize atN (hS3 path t).w=z2 at*
 generalize atN (hS4 path t).w=z3 at*
 generalize hS5 path t=y5 at*
 generalize (hS4 path t)=y4 at*
 generalize (hS3 path t).num=y3b at*
 generalize (hS3 path t)=y3 at*
 generalize (hS2 path t).num=y2b at*
 generalize (hS2 path t)=y2 at*
 generalize (hS1 path t).quoted=y1b at*
 generalize (hS1 path t)=y1 at*
 generalize Sc.expect [102,117,110,99] ⟨t,true⟩=y0 at*
 generalize Sc.expect [118,97,114,97,114,103] y5=y6 at*
 obtain⟨s5,o5⟩:=y5
 simp only at next
 have go1: ∀{sl:List (Nat×V)} {h:A2} {m sx sp:Nat} {va:Bool} {y:Sc},decide (o5=true∧s5≠ [])=va→(if o5=true∧s5≠ []then y6 else⟨s5,o5⟩)=y→A1a sl [(10,.ptr nPb sp 0 0),(9,.ptr nXh sx 0 0),(7,.str path),(0,.ptr nRd sr 0 0)]→(∀e∈(nPb,sp,.rows 11 [[.str nm,.int .i64 z1,.int .i64 z2,.bool va,.int .i64 z3,.nils,.nils,.nils,.nils,.nils,.nils]])::(nXh,sx,.rows 2 [[.str y.s,.bool y.ok]])::R,e∈h)→Run (hCf Q) [.code B9G] ⟨sl,h,m⟩:=by
  intro sl h m sx sp va y e1 e2 h1 h2
  have nx:=next sx sp m
  rw [e1,e2]at nx
  refine Run.wk ?_ nx
  exact YT
 have aP: ∀{x:Blk} {sp:Nat},B4 ((nPb,sp,x)::R) nXh:=fun{x sp}=>B4.cons (show nPb≠nXh by decide) a1
 cases o5 with
 |false=>
  exact XL
 | true=>
  by_cases hs5:s5= []
  ·subst hs5
   exact XL
  ·have f5:(s5= [])=False:=eq_false hs5
   refine Run.go 27 ?_
   simp -implicitDefEqProofs only [go_sem,hdB,AC.snd,d1,d2]
   refine F2 (k0 _ _) a1 fun m0 hm0=> ?_
   refine QB ?_
   refine F2 (k1 _ _) a1 fun m1 hm1=> ?_
   refine QB ?_
   refine F2 (k2 _ _) a1 fun m2 hm2=> ?_
   refine QB ?_
   refine P4 (k3 _ _) (show nPb≠nXh by decide) a1 fun m3 hm3=> ?_
   refine QB ?_
   refine F2 (k4 _ _) aP fun m4 hm4=> ?_
   refine QB ?_
   refine P4 (k5 _ _) (show nPb≠nXh by decide) a1 fun m5 hm5=> ?_
   refine QB ?_
   refine F2 (k6 _ _) aP fun m6 hm6=> ?_
   refine QB ?_
   refine P4 (k7 _ _) (show nPb≠nXh by decide) a1 fun m7 hm7=> ?_
   refine QB ?_
   refine F2 (k8 _ _) aP fun m8 hm8=> ?_
   simp -implicitDefEqProofs only [go_sem,d1,d2,f5]
   refine P4 (k9 _ _) (show nPb≠nXh by decide) a1 fun m9 hm9=> ?_
   refine QB ?_
   exact go1 (sx:=n) (sp:=m2) (va:=true) (by simp [hs5]) (by rw [if_pos ⟨rfl,hs5⟩]) ze fun e he=>he
end
section
open Go Go.Abs
attribute [local irreducible] A0 Run
-- EV: nNd, nRd, nOp, nPp, nPa, nXh, nPb
attribute [local go_sem] nNd nRd nOp nPp nPa nXh nPb
def InH(sr:Nat):List Nd→A2→Prop
 | [],h=>RdH sr [] h
 |n::r,h=>n.p.protos= []∧ ∃(s so:Nat) (rs:List (List V)) (ps:List V) (hN hr:A2),NdH (NB r.length) s n hN∧OutS r ps hr∧(∀(i:Nat) (p:V),(.ptr (NB r.length) s 0 0::ps).reverse[i]? =some p→rs[i]? =some [p])∧h=(nRd,sr,.rows 1 [[.sl nOp so 0 (r.length+1)]])::(nOp,so,.rows 1 rs)::(hN++hr)
theorem D2v{sr:Nat}{st:List Nd}{h:A2}(hi:InH sr st h){sl:List (Nat×V)}(hst:B6k sl)(nn:Nat): ∃h2,Wk ⟨sl,h,nn⟩ ⟨sl,h2,nn⟩∧RdH sr st h2:=by
 cases st with
 |nil=>exact⟨h,.refl _,hi⟩
 | cons n r=>
  obtain⟨hp,s,so,rs,ps,hN,hr,⟨⟨vC,vL,vK,vU,vV,hC,hL,hK,hU,hV,sC,sL,sK,sU,sV,zC⟩,rfl⟩,ho,hrs,rfl⟩:=hi
  obtain⟨ap1,ap2⟩:=ho.ap
  have hpl:=ho.len
  generalize hH0:(nRd,sr,Blk.rows 1 [[V.sl nOp so 0 (r.length+1)]])::(nOp,so,Blk.rows 1 rs)::hr=H0
  have a0: ∀x,x<10000000000000→nRd≠x→nOp≠x→B4 H0 x:=fun x h1 h2 h3=>by rw [←hH0];exact B4.cons h2 (B4.cons h3 (ap1 x h1))
  have nb: ∀x,x<10000000000000→NB r.length≠x:=fun x hx=>by simp only [NB];omega
  refine⟨(nRd,sr,.rows 1 [[.sl nOp so 0 (r.length+1)]])::([(nOp,so,.rows 1 rs)]++((NB r.length,s,.rows 14 [I5 n .nils])::([]++hr))),?_,.ptr (NB r.length) s 0 0::ps,.sl nOp so 0 (r.length+1),[(nOp,so,.rows 1 rs)],_,.cons (.inl ⟨by rw [hp];rfl,rfl,rfl⟩) ho,.inr ⟨so,rs,by simp,by rw [List.length_cons,hpl],rfl,hrs⟩,rfl⟩
  have w0:Wk ⟨sl,(nRd,sr,.rows 1 [[.sl nOp so 0 (r.length+1)]])::(nOp,so,.rows 1 rs)::(((NB r.length,s,.rows 14 [A5t n vC vL vK .nils vU vV])::(hC++(hL++(hK++(hU++hV)))))++hr),nn⟩ ⟨sl,(NB r.length,s,.rows 14 [A5t n vC vL vK .nils vU vV])::(hC++(hL++(hK++(hU++(hV++H0))))),nn⟩:=
   E8.wk ⟨fun p hp=>(hst p hp).symm,fun e he=>by
    rw [←hH0]at he
    simp only [List.mem_cons,List.mem_append,List.cons_append]at he⊢
    rcases he with h|h|h|h|h|h|h|h|h<;>simp [h],Nat.le_refl _⟩
  have w1:=j9 (n:=nn) (nb:=NB r.length) (s:=s) (pre:= [.str n.p.name,.int .i64 n.p.line,.int .i64 n.p.params,.bool n.p.vararg,.int .i64 n.p.regs]) (post:= [vL,vK,.nils,vU,vV,.str n.path,.int .i64 n.kind,.bool n.lined]) hst sC (nb _ zf) (H:=hL++(hK++(hU++(hV++H0)))) ((sL.ap zf).append ((sK.ap zf).append ((sU.ap zf).append ((sV.ap zf).append (a0 _ zf zf zf)))))
  have w2:=j9 (n:=nn) (nb:=NB r.length) (s:=s) (pre:= [.str n.p.name,.int .i64 n.p.line,.int .i64 n.p.params,.bool n.p.vararg,.int .i64 n.p.regs,.isl (n.p.code.map Ins.row)]) (post:= [vK,.nils,vU,vV,.str n.path,.int .i64 n.kind,.bool n.lined]) hst sL (nb _ zf) (H:=hK++(hU++(hV++H0))) ((sK.ap zf).append ((sU.ap zf).append ((sV.ap zf).append (a0 _ zf zf zf))))
  have w3:=j9 (n:=nn) (nb:=NB r.length) (s:=s) (pre:= [.str n.p.name,.int .i64 n.p.line,.int .i64 n.p.params,.bool n.p.vararg,.int .i64 n.p.regs,.isl (n.p.code.map Ins.row),.isl (n.p.lines.map E9)]) (post:= [.nils,vU,vV,.str n.path,.int .i64 n.kind,.bool n.lined]) hst sK (nb _ zf) (H:=hU++(hV++H0)) ((sU.ap zf).append ((sV.ap zf).append (a0 _ zf zf zf)))
  have w4:=j9 (n:=nn) (nb:=NB r.length) (s:=s) (pre:= [.str n.p.name,.int .i64 n.p.line,.int .i64 n.p.params,.bool n.p.vararg,.int .i64 n.p.regs,.isl (n.p.code.map Ins.row),.isl (n.p.lines.map E9),.isl (n.p.consts.map Kst.row),.nils]) (post:= [vV,.str n.path,.int .i64 n.kind,.bool n.lined]) hst sU (nb _ zf) (H:=hV++H0) ((sV.ap zf).append (a0 _ zf zf zf))
  have w5:=j9 (n:=nn) (nb:=NB r.length) (s:=s) (pre:= [.str n.p.name,.int .i64 n.p.line,.int .i64 n.p.params,.bool n.p.vararg,.int .i64 n.p.regs,.isl (n.p.code.map Ins.row),.isl (n.p.lines.map E9),.isl (n.p.consts.map Kst.row),.nils,.isl (n.p.ups.map Upv.row)]) (post:= [.str n.path,.int .i64 n.kind,.bool n.lined]) hst sV (nb _ zf) (H:=H0) (a0 _ zf zf zf)
  have w6:Wk ⟨sl,(NB r.length,s,.rows 14 [I5 n .nils])::H0,nn⟩ ⟨sl,(nRd,sr,.rows 1 [[.sl nOp so 0 (r.length+1)]])::([(nOp,so,.rows 1 rs)]++((NB r.length,s,.rows 14 [I5 n .nils])::([]++hr))),nn⟩:=
   E8.wk ⟨fun p hp=>(hst p hp).symm,fun e he=>by
    rw [←hH0]
    simp only [List.mem_cons,List.mem_append,List.nil_append,List.cons_append]at he⊢
    rcases he with h|h|h|h<;>simp [h],Nat.le_refl _⟩
  exact w0.trans (w1.trans (w2.trans (w3.trans (w4.trans (w5.trans w6)))))
def cnt:List Nd→Nat
 | []=>0
 |n::r=>n.p.protos.length+cnt r+1
theorem A6s: ∀st:List Nd,st.length≤cnt st
 | []=>Nat.le_refl _
 |n::r=>by have:=A6s r;rw [cnt,List.length_cons];omega
theorem B1z(n m:Nd)(r:List Nd):cnt ({m with p:=A2W m.p n.p}::r)≤cnt (n::m::r):=by
 simp only [cnt,A2W,List.length_append,List.length_singleton]
 omega
theorem B1O(path t:List UInt8):(hFn path t).code= []∧(hFn path t).lines= []∧(hFn path t).consts= []∧(hFn path t).protos= []∧(hFn path t).ups= []∧(hFn path t).vars= []:=⟨rfl,rfl,rfl,rfl,rfl,rfl⟩
theorem D2k(path t:List UInt8):((hS6 path t).ok&&decide ((hS6 path t).s= []))=hOk path t:=rfl
attribute [local irreducible] hFn hOk hS6 NB NP
def D0E(sr:Nat)(st:List Nd)(t:List UInt8)(d:Nat):Res:=fun x h' _=>(∃st',S0 st t d=some st'∧x= .bool true∧InH sr st' h')∨(S0 st t d=none∧x= .bool false)
theorem C6G(sr n:Nat)(st st0:List Nd)(t path:List UInt8)(d:Nat)(hB:t.length≤100000)(h:A2)(hr:RdH sr st0 h)(hl:st0.length≤100000000)
  (he:S0 st t d=if hOk path t=true then some (⟨hFn path t,path,0,false⟩::st0)else none):
  Run (hCf (D0E sr st t d)) [.code hdB] ⟨[(7,.str path),(1,.str t),(0,.ptr nRd sr 0 0)],h,n⟩:=by
 obtain⟨ps,vO,hO,hS,ho,hp,rfl⟩:=hr
 obtain⟨ap1,ap2⟩:=ho.ap
 have hpl:=ho.len
 have aO: ∀x,nOp≠x→B4 hO x:=fun x hx=>by
  rcases hp with⟨_,_,rfl⟩|⟨so,rs,_,_,rfl,_⟩
  ·exact .nil
  ·exact B4.cons hx .nil
 refine D2l _ sr n t path hB _ ⟨B4.cons (show nRd≠nXh by decide) ((aO _ zf).append (ap1 _ zf)),B4.cons (show nRd≠nPb by decide) ((aO _ zf).append (ap1 _ zf))⟩ fun sx sp m=> ?_
 refine D2m _ sr sx sp m (hS6 path t) path _ _ _ _ _ ps zd vO hO hS hp ap1 fun so rs s m2 hrs=> ?_
 rw [D2k]
 cases hk:hOk path t with
 |false=>
  rw [hk,if_neg zf]at he
  exact .is (.inr ⟨he,rfl⟩)
 | true=>
  rw [hk,if_pos rfl]at he
  have hlen:st0.length<rs.length:=by
   have h1:=hrs ps.length (.ptr nNd s 0 0) (by rw [List.reverse_cons,List.getElem?_append_right Qa,List.length_reverse,Nat.sub_self];rfl)
   have:=(List.getElem?_eq_some_iff.1 h1).1
   omega
  have gH: ∀e∈hS,(if e.1=nNd then NB st0.length else e.1)=e.1:=fun e he=>if_neg (ap1 nNd zf e he)
  refine .to (h2:=(nRd,sr,.rows 1 [[.sl nOp so 0 (st0.length+1)]])::(nOp,so,.rows 1 (rs.set st0.length [.ptr (NB st0.length) s 0 0]))::([(NB st0.length,s,.rows 14 [A5t ⟨hFn path t,path,0,false⟩ .nils .nils .nils .nils .nils .nils])]++hS)) (.inl ⟨_,he,rfl,?_⟩) (Wk.turn (fun x=>if x=nNd then NB st0.length else x) ⟨.refl _,trivial⟩ ?_)
  ·unfold InH
   obtain⟨z1,z2,z3,z4,z5,z6⟩:=B1O path t
   refine⟨z4,s,so,rs.set st0.length [.ptr (NB st0.length) s 0 0],ps,_,hS,⟨⟨.nils,.nils,.nils,.nils,.nils,[],[],[],[],[],.inl ⟨List.map_eq_nil_iff.2 z1,rfl,rfl⟩,.inl ⟨List.map_eq_nil_iff.2 z2,rfl,rfl⟩,.inl ⟨List.map_eq_nil_iff.2 z3,rfl,rfl⟩,.inl ⟨List.map_eq_nil_iff.2 z5,rfl,rfl⟩,.inl ⟨List.map_eq_nil_iff.2 z6,rfl,rfl⟩,fun _=>rfl⟩,rfl⟩,ho,fun i p hi=> ?_,rfl⟩
   rw [List.reverse_cons]at hi
   have hrs2:=hrs i
   rw [List.reverse_cons]at hrs2
   by_cases hlt:i<ps.length
   ·rw [List.getElem?_append_left (by rw [List.length_reverse];exact hlt)]at hi
    rw [List.getElem?_set_ne zd]
    exact hrs2 p (by rw [List.getElem?_append_left (by rw [List.length_reverse];exact hlt)];exact hi)
   ·have:i=st0.length:=by
     exact Yn
    subst this
    rw [List.getElem?_append_right Qa,List.length_reverse,hpl,Nat.sub_self]at hi
    injection hi with hi
    rw [←hi,List.getElem?_set_self hlen]
  ·refine⟨⟨_,List.mem_cons_self,rfl,rfl,.of_eq (by rw [hpl])⟩,⟨_,List.mem_cons_of_mem _ List.mem_cons_self,rfl,rfl,?_⟩,⟨_,List.mem_cons_of_mem _ (List.mem_cons_of_mem _ List.mem_cons_self),rfl,rfl,.refl _⟩,Q6.of fun e he=>⟨e,List.mem_cons_of_mem _ (List.mem_cons_of_mem _ (List.mem_cons_of_mem _ (show e∈hS from he))),(gH e he).symm,rfl,.refl _⟩⟩
   refine S6.rows zg fun i r2 hi=> ?_
   rw [List.getElem?_set]at hi
   split at hi
   ·rename_i e
    have hi:some [V.ptr (NB st0.length) s 0 0]=some r2:=by
     first
      |exact hi
      |(rw [if_pos zd]at hi;exact hi)
    injection hi with hi
    subst hi
    refine⟨[.ptr nNd s 0 0],hrs i _ ?_,.ptr,trivial⟩
    rw [List.reverse_cons,List.getElem?_append_right Qa,List.length_reverse,hpl,←e,Nat.sub_self];rfl
   ·exact⟨r2,hi,.refl _⟩
theorem C4y(sr nn:Nat)(st:List Nd)(h:A2)(hr:RdH sr st h)(hc:cnt st≤100000000)(hpt: ∀n∈st,n.path.length≤100000000000)(t:List UInt8)(hB:t.length≤100000)(d:Nat)(hd:d≤100000):
  A0 Tryz.prog 66 [.ptr nRd sr 0 0,.str t,.int .i64 d] h nn (D0E sr st t d):=by
 have hl:=A6s st
 refine A0.enterK A0p Jo fun Q hQ=> ?_
 have no:S0 st t d=none→ ∀{h':A2} {m:Nat},P2 Q (.bool false) h' m:=fun hn=>fun{h' m}=>by rw [hQ];exact .is (.inr ⟨hn,rfl⟩)
 have go1: ∀{st0:List Nd} {path:List UInt8} {sl:List (Nat×V)} {h2:A2} {m:Nat},RdH sr st0 h2→st0.length≤100000000→(S0 st t d=if hOk path t=true then some (⟨hFn path t,path,0,false⟩::st0)else none)→A1a sl [(7,.str path),(1,.str t),(0,.ptr nRd sr 0 0)]→Run (hCf Q) [.code hdB] ⟨sl,h2,m⟩:=by
  intro st0 path sl h2 m e1 e2 e3 h1
  rw [hQ]
  refine Run.wk ?_ (C6G sr m st st0 t path d hB h2 e1 e2 e3)
  exact E8.wk ⟨B0.1 h1,fun _ h=>h,Nat.le_refl _⟩
 clear hQ
 by_cases hd0:d=0
 ·subst hd0
  obtain⟨ps,vO,hO,hS,ho,hp,rfl⟩:=id hr
  have hpl:=ho.len
  rcases hp with⟨h0,rfl,rfl⟩|⟨so,rs,hne,rfl,rfl,hrs⟩
  ·have hst:st= []:=List.length_eq_zero_iff.1 (by rw [←hpl,h0];rfl)
   subst hst
   refine Run.go 12 ?_
   refine Qz ?_
   refine go1 (st0:= []) (path:=A2z) hr (Nat.zero_le _) ?_ (by simp -implicitDefEqProofs only [go_sem,A2z])
   unfold S0
   rw [if_pos rfl]
   simp only [true_and]
  ·have hst:st≠ []:=fun e=>by rw [e]at hpl;exact hne (List.length_eq_zero_iff.1 hpl)
   have q1:((0:Int)<(ps.length:Int))=True:=eq_true (by have:=List.length_pos_iff.2 hne;omega)
   refine Run.go 100 ?_
   refine QQ ?_
   exact no (by unfold S0;rw [if_pos rfl,if_neg (fun e=>hst e.1)])
 have q0:((0:Int)<(d:Int))=True:=Jm
 by_cases hsd:st.length<d
 ·obtain⟨ps,vO,hO,hS,ho,hp,rfl⟩:=id hr
  have hpl:=ho.len
  have hn:S0 st t d=none:=by unfold S0;rw [if_neg hd0,if_pos hsd]
  rcases hp with⟨h0,rfl,rfl⟩|⟨so,rs,hne,rfl,rfl,hrs⟩
  ·refine Run.go 100 ?_
   simp -implicitDefEqProofs only [go_sem,A3,q0]
   exact no hn
  ·have q1:((ps.length:Int)<(d:Int))=True:=Jm
   refine Run.go 100 ?_
   simp -implicitDefEqProofs only [go_sem,A3,q0,q1]
   exact no hn
 have hlen0:0<st.length:=by omega
 obtain⟨ps,vO,hO,hS,ho,hp,hh⟩:=id hr
 have hpl:=ho.len
 rcases hp with⟨h0,rfl,rfl⟩|⟨so,rs,hne,rfl,rfl,hrs⟩
 ·exact YV
 have q1:((ps.length:Int)<(d:Int))=False:=Jn
 subst hh
 refine Run.go 100 ?_
 simp -implicitDefEqProofs only [go_sem,A3,q0,q1]
 refine Run.roundsK (fun(y:List Nd×A2×Nat)=>⟨[(2,.int .i64 d),(1,.str t),(0,.ptr nRd sr 0 0)],y.2.1,y.2.2⟩) (fun y=>RdH sr y.1 y.2.1∧C5 d y.1=C5 d st∧d≤y.1.length∧cnt y.1≤100000000∧ ∀n∈y.1,n.path.length≤100000000000) (fun y=>y.1.length) (st,_,nn) (E8.wk ⟨B0.1 ze,fun _ h=>h,Nat.le_refl _⟩) ⟨hr,rfl,by simp only;omega,hc,hpt⟩ ?_
 clear hr ho hpl hne hrs q1
 rintro⟨st1,h1,m1⟩ ⟨hr1,hs1,hd1,hc1,hpt1⟩ ih
 simp only at hr1 hs1 hd1 hc1 hpt1 ih⊢
 have hl1:=A6s st1
 obtain⟨ps,vO,hO,hS,ho,hp,hh⟩:=id hr1
 have hpl:=ho.len
 rcases hp with⟨h0,rfl,rfl⟩|⟨so,rs,hne,rfl,rfl,hrs⟩
 ·exact YV
 by_cases hlt:d<st1.length
 ·have q1:((d:Int)<(ps.length:Int))=True:=Jm
  match st1,hlt with
  | [n],hlt=>simp only [List.length_cons,List.length_nil]at hlt;omega
  | n::m::r,hlt=>
   have hsc:=fun nn=>B7B sr nn n m r h1 hr1 (by simp only [List.length_cons]at hl1;omega) (by have:=A6s r;simp only [cnt]at hc1;omega)
   subst hh
   refine Run.unf X1 (Run.go 100 ?_)
   simp -implicitDefEqProofs only [go_sem,q1]
   refine A0.mono (hsc _) ?_
   rintro x h' m2 ⟨rfl,hr2⟩
   refine Qy ?_
   refine ih _ ({m with p:=A2W m.p n.p}::r,h',m2) ⟨hr2,?_,?_,?_,?_⟩ zg (E8.wk ⟨B0.1 ze,fun _ h=>h,Nat.le_refl _⟩)
   ·rw [←hs1,C5.eq_3 d n m r,if_pos (by simp only [List.length_cons]at hlt;omega)]
   ·simp only [List.length_cons]at hlt⊢;omega
   ·exact Nat.le_trans (B1z n m r) hc1
   ·intro x hx
    rcases List.mem_cons.1 hx with rfl|hx
    ·exact hpt1 m zg
    ·exact hpt1 x (by simp [hx])
 ·have q1:((d:Int)<(ps.length:Int))=False:=Jn
  have hid:=B8H (d:=d) (st:=st1) zd
  match st1,hd1,ho with
  | [],hd1,_=>simp only [List.length_nil]at hd1;omega
  | m ::r,hd1,.cons (s:=s) (vP:=vP) (hP:=hP) (ps:=ps1) (hr:=hr2) hpp ho1=>
   have hdr:d=r.length+1:=by simp only [List.length_cons]at hlt hd1;omega
   have r0:rs[r.length]? =some [.ptr (NB r.length) s 0 0]:=hrs _ _ (by have:=ho1.len;simp [←this])
   have hps:ps1.length=r.length:=ho1.len
   have q1:((d:Int)<((ps1.length+1:Nat):Int))=False:=Jn
   have hml2:=hpt1 m List.mem_cons_self
   have z1:(d:Int)-1=(r.length:Int):=by omega
   have i1:((0:Int)≤(r.length:Int))=True:=Jm
   have i2:((r.length:Int)<((ps1.length+1:Nat):Int))=True:=Jm
   have i3:(r.length<rs.length)=True:=eq_true (List.getElem?_eq_some_iff.1 r0).1
   have b1:(nRd=NB r.length)=False:=eq_false Qb
   have b2:(nOp=NB r.length)=False:=eq_false Qc
   have hml:(m.p.protos.map Fn.row).length=m.p.protos.length:=List.length_map ..
   have hpc:m.p.protos.length≤100000000:=by simp only [cnt]at hc1;omega
   have hit:=D7 (m.p.protos.length:Int) zd zd
   have hil:(Lib.itoa (m.p.protos.length:Int)).length≤21:=Y8 zd zd
   have hil0:(Lib.itoa 0).length≤21:=Y8 zd zd
   have hfin:S0 st t d=if hOk (A4Y m) t=true then some (⟨hFn (A4Y m) t,A4Y m,0,false⟩::m::r)else none:=by
    unfold S0
    rw [if_neg hd0,if_neg hsd,←hs1,hid]
   have hsub:(m.path++ [46])++Lib.itoa (m.p.protos.length:Int)=A4Y m:=by unfold A4Y;simp
   subst hh
   have go2:=fun{sl} {mm} (h1:A1a sl [(7,.str (A4Y m)),(1,.str t),(0,.ptr nRd sr 0 0)])=>go1 (st0:=m::r) (path:=A4Y m) (sl:=sl) (m:=mm) hr1 (by simp only [List.length_cons]at hl1⊢;omega) hfin h1
   rw [←hsub]at go2
   refine Run.unf X1 (Run.go 8 ?_)
   unfold I5 A5t at*
   rcases hpp with⟨hnil,rfl,rfl⟩|⟨s2,rfl,rfl⟩
   ·have hp0:m.p.protos.length=0:=by rw [←hml,hnil];rfl
    rw [hp0]at hit go2
    simp -implicitDefEqProofs only [go_sem,q1,z1,i1,i2,i3,b1,b2,r0,Nat.zero_add,Option.some.injEq,forall_eq',List.length_cons]
    exact JR
   ·simp only [hml]at go2
    simp -implicitDefEqProofs only [go_sem,q1,z1,i1,i2,i3,b1,b2,r0,hml,Nat.zero_add,Option.some.injEq,forall_eq',List.length_cons]
    exact JR
end
section
open Go Go.Abs
attribute [local irreducible] A0 Run
-- EV: nNd, nRd, nOp, nPp, nPa, nXh, nPb
attribute [local go_sem] nNd nRd nOp nPp nPa nXh nPb
theorem D6w(a b c:V):B6k (A3 0 [a,b,c]):=by
 intro p hp
 have hp:p=(2,c)∨p=(1,b)∨p=(0,a):=by simpa [A3]using hp
 rcases hp with rfl|rfl|rfl<;>rfl
theorem NdB.lab{n:Nd}(b:NdB n): ∀e∈b.rest,e.1<10000000000000:=by
 intro e he
 unfold NdB.rest at he
 simp only [List.mem_append]at he
 rcases he with h|h|h|h|h
 ·rw [b.sC.lab e h];decide
 ·rw [b.sL.lab e h];decide
 ·rw [b.sK.lab e h];decide
 ·rw [b.sU.lab e h];decide
 ·rw [b.sV.lab e h];decide
theorem NdH.lab{i s:Nat}{n:Nd}{h:A2}(hn:NdH (NB i) s n h): ∀e∈h,e.1=NB i∨e.1∈ [nCo,nLi,nKc,nUp,nVa]:=by
 obtain⟨b,rfl⟩:=hn
 intro e he
 rcases List.mem_cons.1 he with rfl|he
 ·exact .inl rfl
 ·unfold NdB.rest at he
  simp only [List.mem_append]at he
  refine .inr ?_
  rcases he with h|h|h|h|h
  ·rw [b.sC.lab e h];simp
  ·rw [b.sL.lab e h];simp
  ·rw [b.sK.lab e h];simp
  ·rw [b.sU.lab e h];simp
  ·rw [b.sV.lab e h];simp
attribute [local irreducible] NB NP NdB.row NdB.rest hFn hOk hS6
theorem C8E(i s nn:Nat)(hi:10000000000000≤NB i)(nd:Nd)(h:A2)(hn:NdH (NB i) s nd h)(k:Nat)(hk:k≤100000000)(hf:Few k nd)(t:List UInt8)(hB:t.length≤100000):
  A0 Tryz.prog 67 [.ptr (NB i) s 0 0,.str t] h nn (D0n (NB i) s nd t):=by
 obtain⟨b,rfl⟩:=hn
 have lb:=b.lab
 have hc:=C3S s nn nd _ ⟨b,rfl⟩ k hk hf t hB
 refine A0.pre (xs':= [.ptr nNd s 0 0,.str t]) (h':=(nNd,s,.rows 14 [b.row])::b.rest) (n':=nn) (Wk.turn (fun x=>if x=NB i then nNd else x) ⟨.refl _,.ptr,trivial⟩ ⟨⟨_,List.mem_cons_self,(if_pos rfl).symm,rfl,.refl _⟩,Q6.of fun e he=>⟨e,List.mem_cons_of_mem _ he,(if_neg (by have:=lb e he;omega)).symm,rfl,.refl _⟩⟩) rfl ?_
 refine A0.wk hc ?_
 rintro r h' m (⟨n',h1,rfl,b',rfl⟩|⟨h1,rfl⟩)
 ·have lb':=b'.lab
  have ne: ∀e∈b'.rest,e.1≠nNd:=by
   intro e he
   rcases NdH.lab (i:=i) (s:=s) (n:=n') (h:=(NB i,s,.rows 14 [b'.row])::b'.rest) ⟨b',rfl⟩ e (List.mem_cons_of_mem _ he)with h|h
   ·have:=lb' e he;omega
   ·exact Kb
  exact⟨.bool true,(NB i,s,.rows 14 [b'.row])::b'.rest,m,Wk.turn (fun x=>if x=nNd then NB i else x) ⟨.refl _,trivial⟩ ⟨⟨_,List.mem_cons_self,(if_pos rfl).symm,rfl,.refl _⟩,Q6.of fun e he=>⟨e,List.mem_cons_of_mem _ he,(if_neg (ne e he)).symm,rfl,.refl _⟩⟩,.inl ⟨n',h1,rfl,b',rfl⟩⟩
 ·exact⟨_,_,_,.refl _,.inr ⟨h1,rfl⟩⟩
structure Inv(k:Nat)(st:List Nd):Prop where
 cnt:cnt st≤k
 path: ∀n∈st,n.path.length≤4+22*k
 few: ∀n,st.head? =some n→Few k n
theorem B8G(d:Nat): ∀(k:Nat) (st:List Nd),st.length≤k→Go.Proofs.YtflobbpcabopjaaGreatDoor.cnt (C5 d st)≤Go.Proofs.YtflobbpcabopjaaGreatDoor.cnt st∧ ∀n∈C5 d st,∃m∈st,m.path=n.path:=by
 intro k
 induction k with
 |zero=>intro st hk;have:=List.length_eq_zero_iff.1 (Nat.le_zero.1 hk);subst this;rw [C5];exact⟨Nat.le_refl _,fun n h=>⟨n,h,rfl⟩⟩
 | succ k ih=>
  intro st hk
  match st with
  | []=>rw [C5];exact⟨Nat.le_refl _,fun n h=>⟨n,h,rfl⟩⟩
  | [n]=>rw [C5];exact⟨Nat.le_refl _,fun n h=>⟨n,h,rfl⟩⟩
  | n::m::r=>
   rw [C5]
   simp only [List.length_cons]at hk
   split
   ·obtain⟨h1,h2⟩:=ih ({m with p:=A2W m.p n.p}::r) zD
    refine⟨Nat.le_trans h1 (B1z n m r),fun x hx=> ?_⟩
    obtain⟨y,hy,e⟩:=h2 x hx
    rcases List.mem_cons.1 hy with rfl|hy
    ·exact⟨m,by simp,e⟩
    ·exact⟨y,by simp [hy],e⟩
   ·exact⟨Nat.le_refl _,fun n h=>⟨n,h,rfl⟩⟩
theorem C2X(path t:List UInt8)(k:Nat):Few k ⟨hFn path t,path,0,false⟩:=by
 obtain⟨z1,z2,z3,z4,z5,z6⟩:=B1O path t
 unfold Few
 simp only [z1,z2,z3,z4,z5,z6,List.length_nil]
 omega
theorem B9J{st st':List Nd}{l:List UInt8}{k:Nat}(h:P6 D8 F3 st l=some st')(hi:Inv k st)(hk:k≤100000000):Inv (k+1) st':=by
 obtain⟨i1,i2,i3⟩:=hi
 unfold P6 at h
 split at h
 ·cases h
 split at h
 ·unfold S0 at h
  split at h
  ·split at h
   ·injection h with h
    subst h
    refine⟨by simp only [cnt,(B1O A2z _).2.2.2.1,List.length_nil];omega,fun n hn=> ?_,fun n hn=> ?_⟩
    ·rw [List.mem_singleton.1 hn]
     show A2z.length≤_
     simp only [A2z,List.length_cons,List.length_nil];omega
    ·injection hn with hn
     subst hn
     exact C2X _ _ _
   ·cases h
  ·split at h
   ·cases h
   split at h
   ·cases h
   ·rename_i m r hsh
    split at h
    ·injection h with h
     subst h
     obtain⟨s1,s2⟩:=B8G (spN l/2) _ st (Nat.le_refl _)
     rw [hsh]at s1 s2
     have hm: ∀n∈m::r,n.path.length≤4+22*k:=fun n hn=>by
      obtain⟨y,hy,e⟩:=s2 n hn
      rw [←e];exact i2 y hy
     have hmp:m.p.protos.length≤100000000:=by simp only [Go.Proofs.YtflobbpcabopjaaGreatDoor.cnt]at s1;omega
     have hil:(Lib.itoa (m.p.protos.length:Int)).length≤21:=Y8 zd zd
     refine⟨by simp only [Go.Proofs.YtflobbpcabopjaaGreatDoor.cnt,(B1O _ _).2.2.2.1,List.length_nil]at s1⊢;omega,fun n hn=> ?_,fun n hn=> ?_⟩
     ·rcases List.mem_cons.1 hn with rfl|hn
      ·show (A4Y m).length≤_
       have:=hm m List.mem_cons_self
       unfold A4Y
       rw [List.length_append,List.length_cons]
       omega
      ·have:=hm n hn;omega
     ·injection hn with hn
      subst hn
      exact C2X _ _ _
    ·cases h
 ·split at h
  ·cases h
  ·rename_i n r
   split at h
   ·cases h
   obtain⟨n',hb,h⟩:=Option.map_eq_some_iff.1 h
   subst h
   obtain⟨f1,f2⟩:=B4Z hb (i3 n rfl)
   have hp:n'.path=n.path:=by
    unfold V6 at hb
    repeat' split at hb
    all_goals first
     |(cases hb;done)
     |(cases hb;rfl)
   refine⟨by simp only [Go.Proofs.YtflobbpcabopjaaGreatDoor.cnt,f2]at i1⊢;omega,fun x hx=> ?_,fun x hx=> ?_⟩
   ·rcases List.mem_cons.1 hx with rfl|hx
    ·rw [hp];have:=i2 n List.mem_cons_self;omega
    ·have:=i2 x (List.mem_cons_of_mem _ hx);omega
   ·injection hx with hx
    subst hx
    exact f1
theorem C6T(st:List Nd)(l:List UInt8):P6 D8 F3 st l=(if spN l%2≠0 then none
   else if (l.drop (spN l)).take 5= [102,117,110,99,32]then S0 st (l.drop (spN l)) (spN l/2)
   else match st with
    | []=>none
    |n::r=>if spN l≠2*(r.length+1)then none else(V6 D8 F3 n (l.drop (spN l))).map fun n'=>n'::r):=rfl
def C6S(sr:Nat)(st:List Nd)(l:List UInt8):Res:=fun x h' _=>(∃st',P6 D8 F3 st l=some st'∧x= .bool true∧InH sr st' h')∨(P6 D8 F3 st l=none∧x= .bool false)
theorem C4G(sr nn:Nat)(st:List Nd)(h:A2)(hi:InH sr st h)(k:Nat)(hk:k≤100000000)(hv:Inv k st)(l:List UInt8)(hB:l.length≤100000):
  A0 Tryz.prog 29 [.ptr nRd sr 0 0,.str l] h nn (C6S sr st l):=by
 have htr:=B0r l
 rw [B3Q]at htr
 have hsl:=C7R l
 have hpre:=C7 (l.drop (spN l)) [102,117,110,99,32]
 rw [A2O]at hpre
 simp only [List.length_cons,List.length_nil,Nat.zero_add,Nat.reduceAdd]at hpre
 have htl:((l.drop (spN l)).length:Int)=(l.length:Int)-(spN l:Int):=by rw [List.length_drop];omega
 have hsp:(l.length:Int)-((l.length:Int)-(spN l:Int))=(spN l:Int):=by omega
 have hlt:(l.drop (spN l)).length≤100000:=by rw [List.length_drop];omega
 have hcl:=A6s st
 obtain⟨v1,v2,v3⟩:=hv
 have hdef:=C6T st l
 have hrem:(spN l:Int).tmod 2=((spN l%2:Nat):Int):=(Int.ofNat_tmod (spN l) 2).symm
 have hquo:(spN l:Int).tdiv 2=((spN l/2:Nat):Int):=(Int.ofNat_tdiv (spN l) 2).symm
 refine A0.enterK A0q Jo fun Q hQ=> ?_
 have no:P6 D8 F3 st l=none→ ∀{h':A2} {m:Nat},P2 Q (.bool false) h' m:=fun hn=>fun{h' m}=>by rw [hQ];exact .is (.inr ⟨hn,rfl⟩)
 have yes: ∀{st':List Nd} {h':A2} {m:Nat},P6 D8 F3 st l=some st'→InH sr st' h'→P2 Q (.bool true) h' m:=fun h1 h2=>by rw [hQ];exact .is (.inl ⟨_,h1,rfl,h2⟩)
 clear hQ
 generalize hs:spN l=s at*
 generalize l.drop s=t at*
 refine Run.go 100 ?_
 by_cases c1: ¬s%2=0
 ·have q1:(((s%2:Nat):Int)=0)=False:=Jn
  refine Qz ?_
  refine A0.pureF htr ze ?_
  refine QV ?_
  refine⟨by omega,?_⟩
  exact no (by rw [hdef,if_pos c1])
 have q1:(((s%2:Nat):Int)=0)=True:=Jm
 rw [if_neg (by simpa using c1)]at hdef
 by_cases c2:t.take 5= [102,117,110,99,32]
 ·rw [decide_eq_true c2]at hpre
  rw [if_pos c2]at hdef
  refine Qz ?_
  refine A0.pureF htr ze ?_
  refine QV ?_
  refine⟨by omega,?_⟩
  refine A0.pureF hpre ze ?_
  simp -implicitDefEqProofs only [go_sem,hquo]
  refine⟨⟨by omega,by omega⟩,?_⟩
  obtain⟨h2,w,hr⟩:=D2v hi (D6w (.ptr nRd sr 0 0) (.str t) (.int .i64 ((s/2:Nat):Int))) nn
  refine A0.pre w rfl (A0.mono (C4y sr nn st h2 hr zd (fun n hn=>by have:=v2 n hn;omega) t hlt (s/2) zd) ?_)
  rintro x h' m (⟨st',e1,rfl,e2⟩|⟨e1,rfl⟩)
  ·refine Qy ?_
   exact yes (by rw [hdef];exact e1) e2
  ·refine Qy ?_
   exact no (by rw [hdef];exact e1)
 rw [decide_eq_false c2]at hpre
 rw [if_neg c2]at hdef
 cases st with
 | nil=>
  obtain⟨ps,vO,hO,hS,ho,hp,rfl⟩:=hi
  have hpl:=ho.len
  rcases hp with⟨h0,rfl,rfl⟩|⟨so,rs,hne,rfl,rfl,hrs⟩
  ·refine Qz ?_
   refine A0.pureF htr ze ?_
   refine QV ?_
   refine⟨by omega,?_⟩
   refine A0.pureF hpre ze ?_
   refine Qy ?_
   exact no hdef
  ·exact absurd (List.length_eq_zero_iff.1 hpl) hne
 | cons n r=>
  obtain⟨hp,sb,so,rs,ps,hN,hr,hn,ho,hrs,rfl⟩:=hi
  simp only at hdef
  obtain⟨ap1,ap2⟩:=ho.ap
  have hpl:=ho.len
  have q2:(((r.length+1:Nat):Int)=0)=False:=Jn
  have hrl:r.length+1≤100000000:=by simp only [List.length_cons]at hcl;omega
  by_cases c3: ¬s=2*(r.length+1)
  ·have q3:((s:Int)=2*((r.length+1:Nat):Int))=False:=Jn
   rw [if_pos c3]at hdef
   refine Qz ?_
   refine A0.pureF htr ze ?_
   refine QV ?_
   refine⟨by omega,?_⟩
   refine A0.pureF hpre ze ?_
   simp -implicitDefEqProofs only [go_sem,q2,q3]
   refine⟨by omega,?_⟩
   exact no hdef
  have q3:((s:Int)=2*((r.length+1:Nat):Int))=True:=Jm
  rw [if_neg c3]at hdef
  have r0:rs[r.length]? =some [.ptr (NB r.length) sb 0 0]:=hrs _ _ (by simp [←hpl])
  have z1:((r.length+1:Nat):Int)-1=(r.length:Int):=by omega
  have i1:((0:Int)≤(r.length:Int))=True:=Jm
  have i2:((r.length:Int)<((r.length+1:Nat):Int))=True:=Jm
  have i3:(r.length<rs.length)=True:=eq_true (List.getElem?_eq_some_iff.1 r0).1
  have hbd:=fun nn=>C8E r.length sb nn (by unfold NB;omega) n hN hn k hk (v3 n rfl) t hlt
  have hlab:=hn.lab
  refine Qz ?_
  refine A0.pureF htr ze ?_
  refine QV ?_
  refine⟨by omega,?_⟩
  refine A0.pureF hpre ze ?_
  simp -implicitDefEqProofs only [go_sem,q2,q3,z1,i1,i2,i3,r0,Nat.zero_add,Option.some.injEq,forall_eq']
  refine⟨⟨by omega,by omega⟩,⟨by omega,by omega⟩,?_⟩
  refine B1v (R:=(nRd,sr,.rows 1 [[.sl nOp so 0 (r.length+1)]])::(nOp,so,.rows 1 rs)::hr) (hbd _) (fun e he=>by simp [he]) (fun e he=>by simp only [List.mem_cons,List.mem_append]at he⊢;rcases he with h|h|h<;>simp [h]) (fun e he=> ?_) ?_
  ·have nbl:10000000000000≤NB r.length:=by unfold NB;omega
   rcases hlab e he with h|h
   ·rw [h]
    exact B4.cons (by have:nRd<10000000000000:=zf;show nRd≠_;omega) (B4.cons (by have:nOp<10000000000000:=zf;show nOp≠_;omega) (ap2 _ (Nat.le_refl _)).1)
   ·simp only [List.mem_cons,List.not_mem_nil,or_false]at h
    rcases h with h|h|h|h|h<;>rw [h]
    ·exact B4.cons (show nRd≠nCo by decide) (B4.cons (show nOp≠nCo by decide) (ap1 _ zf))
    ·exact B4.cons (show nRd≠nLi by decide) (B4.cons (show nOp≠nLi by decide) (ap1 _ zf))
    ·exact B4.cons (show nRd≠nKc by decide) (B4.cons (show nOp≠nKc by decide) (ap1 _ zf))
    ·exact B4.cons (show nRd≠nUp by decide) (B4.cons (show nOp≠nUp by decide) (ap1 _ zf))
    ·exact B4.cons (show nRd≠nVa by decide) (B4.cons (show nOp≠nVa by decide) (ap1 _ zf))
  rintro x h' m hm (⟨n',e1,rfl,e2⟩|⟨e1,rfl⟩)
  ·refine Qy ?_
   have hf:=B4Z e1 (v3 n rfl)
   have hfin:InH sr (n'::r) ((nRd,sr,.rows 1 [[.sl nOp so 0 (r.length+1)]])::(nOp,so,.rows 1 rs)::(h'++hr)):=⟨hf.2.trans hp,sb,so,rs,ps,h',hr,e2,ho,hrs,rfl⟩
   refine P2.wk (.sub (C0.2 fun e he=> ?_)) (yes (by rw [hdef,e1];rfl) hfin)
   exact Ku
  ·refine Qy ?_
   exact no (by rw [hdef,e1];rfl)
end
section
open Go Go.Abs
attribute [local irreducible] hFn hOk hS6 NB NP
def C3I(k:Nat)(q:Fn):Prop:=q.code.length≤k∧q.lines.length≤k∧q.consts.length≤k∧q.protos.length≤k∧q.ups.length≤k∧q.vars.length≤k
def Bx(k:Nat)(p:Fn):Prop:= ∀q∈p.each,C3I k q
theorem B3c{q:Fn}: ∀{l:List Fn},q∈Fn.eachs l↔ ∃c∈l,q∈c.each
 | []=>by simp [Fn.eachs]
 |p::r=>by
  rw [Fn.eachs,List.mem_append,B3c (l:=r)]
  simp
theorem C3I.mono{k k':Nat}{q:Fn}(h:C3I k q)(hk:k≤k'):C3I k' q:=by
 obtain⟨h1,h2,h3,h4,h5,h6⟩:=h
 exact XV
theorem Bx.mono{k k':Nat}{p:Fn}(h:Bx k p)(hk:k≤k'):Bx k' p:=fun q hq=>(h q hq).mono hk
theorem Bx.of{k:Nat}{p:Fn}(h1:C3I k p)(h2: ∀c∈p.protos,Bx k c):Bx k p:=by
 intro q hq
 rw [Fn.each_eq]at hq
 rcases List.mem_cons.1 hq with rfl|hq
 ·exact h1
 ·obtain⟨c,hc,hqc⟩:=B3c.1 hq
  exact h2 c hc q hqc
theorem Bx.self{k:Nat}{p:Fn}(h:Bx k p):C3I k p:=h p p.self_mem
theorem Bx.child{k:Nat}{p c:Fn}(h:Bx k p)(hc:c∈p.protos):Bx k c:=fun q hq=>h q (by
 rw [Fn.each_eq]
 exact List.mem_cons_of_mem _ (B3c.2 ⟨c,hc,hq⟩))
theorem Bx.add{k:Nat}{m q:Fn}(hm:Bx k m)(hq:Bx k q)(hl:m.protos.length+1≤k):Bx k (A2W m q):=by
 refine Bx.of ?_ fun c hc=> ?_
 ·obtain⟨h1,h2,h3,h4,h5,h6⟩:=hm.self
  refine⟨h1,h2,h3,?_,h5,h6⟩
  show (m.protos++ [q]).length≤k
  rw [List.length_append,List.length_singleton];exact hl
 ·rcases List.mem_append.1 (show c∈m.protos++ [q] from hc)with h|h
  ·exact hm.child h
  ·rw [List.mem_singleton.1 h];exact hq
theorem C2M(K d:Nat): ∀(k:Nat) (st:List Nd),st.length≤k→cnt st≤K→(∀n∈st,Bx K n.p)→ ∀n∈C5 d st,Bx K n.p:=by
 intro k
 induction k with
 |zero=>intro st hk _ hb;have:=List.length_eq_zero_iff.1 (Nat.le_zero.1 hk);subst this;rw [C5];exact hb
 | succ k ih=>
  intro st hk hc hb
  match st with
  | []=>rw [C5];exact hb
  | [n]=>rw [C5];exact hb
  | n::m::r=>
   rw [C5]
   simp only [List.length_cons]at hk
   split
   ·refine ih _ zD (Nat.le_trans (B1z n m r) hc) fun x hx=> ?_
    rcases List.mem_cons.1 hx with rfl|hx
    ·exact(hb m zg).add (hb n zg) (by simp only [cnt]at hc;omega)
    ·exact hb x (by simp [hx])
   ·exact hb
theorem C2L{st st':List Nd}{l:List UInt8}{k:Nat}(h:P6 D8 F3 st l=some st')(hi:Inv k st)(hb: ∀n∈st,Bx k n.p): ∀n∈st',Bx (k+1) n.p:=by
 have new: ∀path t:List UInt8,Bx (k+1) (hFn path t):=fun path t=>by
  obtain⟨z1,z2,z3,z4,z5,z6⟩:=B1O path t
  refine Bx.of ⟨by rw [z1];exact Nat.zero_le _,by rw [z2];exact Nat.zero_le _,by rw [z3];exact Nat.zero_le _,by rw [z4];exact Nat.zero_le _,by rw [z5];exact Nat.zero_le _,by rw [z6];exact Nat.zero_le _⟩ fun c hc=> ?_
  rw [z4]at hc;cases hc
 obtain⟨i1,i2,i3⟩:=hi
 unfold P6 at h
 split at h
 ·cases h
 split at h
 ·unfold S0 at h
  split at h
  ·split at h
   ·injection h with h
    subst h
    intro n hn
    rw [List.mem_singleton.1 hn]
    exact new _ _
   ·cases h
  ·split at h
   ·cases h
   split at h
   ·cases h
   ·rename_i m r hsh
    split at h
    ·injection h with h
     subst h
     have:=C2M k (spN l/2) _ st (Nat.le_refl _) i1 hb
     rw [hsh]at this
     intro n hn
     rcases List.mem_cons.1 hn with rfl|hn
     ·exact new _ _
     ·exact(this n hn).mono zd
    ·cases h
 ·split at h
  ·cases h
  ·rename_i n r
   split at h
   ·cases h
   obtain⟨n',hb2,h⟩:=Option.map_eq_some_iff.1 h
   subst h
   obtain⟨⟨f1,f2,f3,f4,f5,f6,_⟩,fp⟩:=B4Z hb2 (i3 n rfl)
   intro x hx
   rcases List.mem_cons.1 hx with rfl|hx
   ·refine Bx.of ⟨f1,f2,f3,f6,f4,f5⟩ fun c hc=> ?_
    rw [fp]at hc
    exact((hb n List.mem_cons_self).child hc).mono zd
   ·exact(hb x (List.mem_cons_of_mem _ hx)).mono zd
theorem Bx.bd{k:Nat}{p:Fn}(h:Bx k p)(hk:k≤100000000):p.bd:=fun q hq=>by
 obtain⟨h1,h2,h3,h4,h5,h6⟩:=h q hq
 exact XV
theorem B4V(p:Fn):p.each.length≤A0A p:=by
 induction p using Fn.ind with
 | h p ih=>
  rw [Fn.each_eq,B7v,List.length_cons]
  have: ∀l:List Fn,(∀q∈l,q.each.length≤A0A q)→(Fn.eachs l).length≤partsFs l:=by
   intro l
   induction l with
   |nil=>intro _;simp [Fn.eachs]
   |cons q r ihr=>
    intro h
    have h1:=h q List.mem_cons_self
    have h2:=ihr fun x hx=>h x (List.mem_cons_of_mem _ hx)
    rw [Fn.eachs,partsFs,List.length_append];omega
  have:=this p.protos ih
  omega
def Lab(x:Nat):Prop:=x=nRd∨x=nOp∨x∈ [nCo,nLi,nKc,nUp,nVa]∨10000000000000≤x
theorem C3i(i:Nat):10000000000000≤NB i∧10000000000000≤NP i:=by unfold NB NP;omega
theorem OutS.lab{st:List Nd}{ps:List V}{h:A2}(ho:OutS st ps h): ∀e∈h,10000000000000≤e.1:=by
 induction ho with
 |nil=>intro e he;cases he
 | @cons n r s vP hP ps hr h1 h2 ih=>
  intro e he
  simp only [List.mem_cons,List.mem_append]at he
  rcases he with h|h|h
  ·rw [h];exact(C3i _).1
  ·rw [h1.lab e h];exact(C3i _).2
  ·exact ih e h
theorem RdH.lab{sr:Nat}{st:List Nd}{h:A2}(hr:RdH sr st h): ∀e∈h,Lab e.1:=by
 obtain⟨ps,vO,hO,hS,ho,hp,rfl⟩:=hr
 intro e he
 simp only [List.mem_cons,List.mem_append]at he
 rcases he with h|h|h
 ·rw [h];exact .inl rfl
 ·rcases hp with⟨_,_,rfl⟩|⟨so,rs,_,_,rfl,_⟩
  ·cases h
  ·rw [List.mem_singleton.1 h];exact .inr (.inl rfl)
 ·exact .inr (.inr (.inr (ho.lab e h)))
theorem InH.lab{sr:Nat}{st:List Nd}{h:A2}(hi:InH sr st h): ∀e∈h,Lab e.1:=by
 cases st with
 |nil=>exact RdH.lab hi
 | cons n r=>
  obtain⟨_,s,so,rs,ps,hN,hr,hn,ho,_,rfl⟩:=hi
  intro e he
  simp only [List.mem_cons,List.mem_append]at he
  rcases he with h|h|h|h
  ·rw [h];exact .inl rfl
  ·rw [h];exact .inr (.inl rfl)
  ·rcases hn.lab e h with h|h
   ·rw [h];exact .inr (.inr (.inr (C3i _).1))
   ·exact .inr (.inr (.inl h))
  ·exact .inr (.inr (.inr (ho.lab e h)))
end
end Go.Proofs.YtflobbpcabopjaaGreatDoor
