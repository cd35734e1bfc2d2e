/-
 An abstract view of the model's memory: abstract values and blocks, and the relation between them and a world. No condition.
-/
import Derived.WalkKit
import Derived.Laws.IdiomCopy
import Derived.RangeFuncRecord
import Derived.Recover
namespace Go
theorem zd{p:Prop}(h:p:=by omega):p:=h
theorem ze{p:Prop}(h:p:=by simp -implicitDefEqProofs only [go_sem]):p:=h
theorem zf{p:Prop}(h:p:=by decide):p:=h
theorem zg{p:Prop}(h:p:=by simp):p:=h
theorem zh{p:Prop}(h:p:=by kernel_rfl):p:=h
theorem zj{p:Prop}(h:p:=by simp only;omega):p:=h
theorem zk{p:Prop}(h:p:=by simp -implicitDefEqProofs only [go_sem,hzk]):p:=h
theorem zl{p:Prop}(h:p:=by simp -implicitDefEqProofs only [go_sem,hps]):p:=h
theorem zm{p:Prop}(h:p:=by rw [e]):p:=h
theorem zn{p:Prop}(h:p:=by simp [hlt]):p:=h
theorem zp{p:Prop}(h:p:=by simpa using h):p:=h
theorem zr{p:Prop}(h:p:=by simp;omega):p:=h
theorem zt{p:Prop}(h:p:=by simpa using hv):p:=h
theorem zw{p:Prop}(h:p:=by simp [w1]):p:=h
theorem zx{p:Prop}(h:p:=by simp [isAgg,hu]):p:=h
theorem zy{p:Prop}(h:p:=by simpa using hl):p:=h
theorem zz{p:Prop}(h:p:=by rw [ho,hop]):p:=h
theorem zA{p:Prop}(h:p:=by simpa using hc):p:=h
theorem zD{p:Prop}(h:p:=by simp only [List.length_cons];omega):p:=h
theorem zG{p:Prop}(h:p:=by simp -implicitDefEqProofs only [go_sem,List.map_cons,List.map_nil]):p:=h
theorem zH{p:Prop}(h:p:=by simp -implicitDefEqProofs only [go_sem,hl']):p:=h
theorem zJ{p:Prop}(h:p:=by first|(simp -implicitDefEqProofs only [go_sem];done)|(simp -implicitDefEqProofs only [go_sem];simp)):p:=h
theorem zK{p:Prop}(h:p:=by simp [binOp,Op.intArith]):p:=h
theorem zL{p:Prop}(h:p:=by simpa using hj):p:=h
theorem zM{p:Prop}(h:p:=by subst e;rw [Tryz.underlying29]at h;cases h):p:=h
theorem zN{p:Prop}(h:p:=by subst e;rw [Tryz.underlying25]at h;cases h):p:=h
theorem zO{p:Prop}(h:p:=by simp -implicitDefEqProofs only [go_sem,Int.lt_irrefl,A2Z hl heq]):p:=h
theorem zP{p:Prop}(h:p:=by simp -implicitDefEqProofs only [go_sem,A3,la,lb,hl',hne]):p:=h
theorem zQ{p:Prop}(h:p:=by rw [e];exact List.mem_cons_self):p:=h
theorem zR{p:Prop}(h:p:=by rw [hll];omega):p:=h
theorem zS{p:Prop}(h:p:=by simpa using hk):p:=h
theorem zU{p:Prop}(h:p:=by rw [hw,hat];simp):p:=h
theorem zW{p:Prop}(h:p:=by simpa using hi):p:=h
theorem zX{p:Prop}(h:p:=by simp [B0B,A5F,x1,x2,x3,x4]):p:=h
theorem zY{p:Prop}(h:p:=by simp -implicitDefEqProofs only [go_sem,l9]):p:=h
theorem zZ{p:Prop}(h:p:=by simp [ByteArray.size];omega):p:=h
theorem Qa{p:Prop}(h:p:=by rw [List.length_reverse];omega):p:=h
theorem Qb{p:Prop}(h:p:=by simp only [nRd,NB];omega):p:=h
theorem Qc{p:Prop}(h:p:=by simp only [nOp,NB];omega):p:=h
theorem Qd{p:Prop}(h:p:=by simp only [NB,NP];omega):p:=h
theorem Qe{p:Prop}(h:p:=by simp -implicitDefEqProofs only [go_sem,A3,b1,b2,b3,b4,b5,b6]):p:=h
theorem Qf{p:Prop}(h:p:=by show y0.toNat=48;omega):p:=h
theorem Qg{p:Prop}(h:p:=by have:=h.1.2.1;rw [hy0]at this;injection this):p:=h
theorem Qh{p:Prop}(h:p:=by simpa [B7V]using hbu):p:=h
theorem Qi{p:Prop}(h:p:=by rw [e1,e2];exact hb):p:=h
theorem Qj{p:Prop}(h:p:=by simp [binOp,Op.intCmp]):p:=h
theorem Qk{p:Prop}(h:p:=by rw [e1,e2];simp [binOp,Op.intBits,A2c]):p:=h
theorem Ql{p:Prop}(h:p:=by rw [hv];exact hrun):p:=h
theorem Qm{p:Prop}(h:p:=by simp -implicitDefEqProofs only [go_sem,l8]):p:=h
theorem Qn{p:Prop}(h:p:=by simp -implicitDefEqProofs only [go_sem,Int.lt_irrefl]):p:=h
theorem Qo{p:Prop}(h:p:=by simp -implicitDefEqProofs only [go_sem,hqs]):p:=h
theorem Qp{p:Prop}(h:p:=by simp -implicitDefEqProofs only [go_sem,hs]):p:=h
theorem Qq{p:Prop}(h:p:=by simp -implicitDefEqProofs only [go_sem,z2]):p:=h
theorem Qr{p:Prop}(h:p:=by rw [h];exact List.mem_cons_self):p:=h
theorem Qs{p:Prop}(h:p:=by have:=h.1.2.2;rw [hy1]at this;simpa using this):p:=h
theorem Qt{p:Prop}(h:p:=by rcases h.lines.1 with h0|h0<;>omega):p:=h
theorem Qu{p:Prop}(h:p:=by rw [Fn.each];exact List.mem_cons_of_mem _ hq):p:=h
theorem Qv{p:Prop}(h:p:=by rw [List.length_append,List.length_cons];omega):p:=h
theorem Qw{p:Prop}(h:p:=by simp -implicitDefEqProofs only [go_sem,hvs]):p:=h
theorem Qx{p:Prop}(h:p:=by rw [ha,hb];exact O2 (by simp) (by simp)):p:=h
inductive zE(p:Prop):Prop→Prop|r:zE p p
theorem Qy{p q:Prop}(k:q)(h:zE p q:=by simp -implicitDefEqProofs only [go_sem];exact .r):p:=by cases h;exact k
theorem Qz{p q:Prop}(k:q)(h:zE p q:=by simp -implicitDefEqProofs only [go_sem,A3];exact .r):p:=by cases h;exact k
theorem QA{p q:Prop}(k:q)(h:zE p q:=by simp -implicitDefEqProofs only [go_sem,scH];exact .r):p:=by cases h;exact k
theorem QB{p q:Prop}(k:q)(h:zE p q:=by simp -implicitDefEqProofs only [go_sem,d1,d2];exact .r):p:=by cases h;exact k
theorem QC{p q:Prop}(k:q)(h:zE p q:=by simp -implicitDefEqProofs only [go_sem,g1,g2];exact .r):p:=by cases h;exact k
theorem QD{p q:Prop}(k:q)(h:zE p q:=by simp -implicitDefEqProofs only [go_sem,h1,h2];exact .r):p:=by cases h;exact k
theorem QE{p q:Prop}(k:q)(h:zE p q:=by simp -implicitDefEqProofs only [go_sem,c1];exact .r):p:=by cases h;exact k
theorem QF{p q:Prop}(k:q)(h:zE p q:=by simp -implicitDefEqProofs only [go_sem,A3,h1,h2];exact .r):p:=by cases h;exact k
theorem QG{p q:Prop}(k:q)(h:zE p q:=by simp -implicitDefEqProofs only [go_sem,A3,g1,g2];exact .r):p:=by cases h;exact k
theorem QH{p q:Prop}(k:q)(h:zE p q:=by simp -implicitDefEqProofs only [go_sem,scH,f1,f2];exact .r):p:=by cases h;exact k
theorem QI{p q:Prop}(k:q)(h:zE p q:=by simp -implicitDefEqProofs only [go_sem,scH,ml];exact .r):p:=by cases h;exact k
theorem QJ{p q:Prop}(k:q)(h:zE p q:=by simp -implicitDefEqProofs only [go_sem,hz0,List.map_cons,hz,hll,hq1,hq3,Option.some.injEq,forall_eq'];exact .r):p:=by cases h;exact k
theorem QK{p q:Prop}(k:q)(h:zE p q:=by simp -implicitDefEqProofs only [go_sem,Int.lt_irrefl];exact .r):p:=by cases h;exact k
theorem QL{p q:Prop}(k:q)(h:zE p q:=by simp -implicitDefEqProofs only [go_sem,hz];exact .r):p:=by cases h;exact k
theorem QM{p q:Prop}(k:q)(h:zE p q:=by simp -implicitDefEqProofs only [go_sem,A3,ml];exact .r):p:=by cases h;exact k
theorem QN{p q:Prop}(k:q)(h:zE p q:=by simp -implicitDefEqProofs only [go_sem,c];exact .r):p:=by cases h;exact k
theorem QO{p q:Prop}(k:q)(h:zE p q:=by simp -implicitDefEqProofs only [go_sem,hfx];exact .r):p:=by cases h;exact k
theorem QP{p q:Prop}(k:q)(h:zE p q:=by simp -implicitDefEqProofs only [go_sem,A3,la,lb,hl'];exact .r):p:=by cases h;exact k
theorem QQ{p q:Prop}(k:q)(h:zE p q:=by simp -implicitDefEqProofs only [go_sem,A3,q1];exact .r):p:=by cases h;exact k
theorem QR{p q:Prop}(k:q)(h:zE p q:=by simp -implicitDefEqProofs only [go_sem,A3,e1,e1b];exact .r):p:=by cases h;exact k
theorem QS{p q:Prop}(k:q)(h:zE p q:=by simp -implicitDefEqProofs only [go_sem,B3Y];exact .r):p:=by cases h;exact k
theorem QT{p q:Prop}(k:q)(h:zE p q:=by simp -implicitDefEqProofs only [go_sem,A3,hz',hl'];exact .r):p:=by cases h;exact k
theorem QU{p q:Prop}(k:q)(h:zE p q:=by simp -implicitDefEqProofs only [go_sem,cp.g6,cp.g7,cp.g8,cp.g9,cp.g10,cq.g6,cq.g7,cq.g8,cq.g9,cq.g10];exact .r):p:=by cases h;exact k
theorem QV{p q:Prop}(k:q)(h:zE p q:=by simp -implicitDefEqProofs only [go_sem,htl,hsp,hrem,q1];exact .r):p:=by cases h;exact k
theorem QW{p q:Prop}(k:q)(h:zE p q:=by simp -implicitDefEqProofs only [go_sem,hd];exact .r):p:=by cases h;exact k
theorem QX{p q:Prop}(k:q)(h:zE p q:=by simp -implicitDefEqProofs only [go_sem,c,k0,hy];exact .r):p:=by cases h;exact k
theorem QY{p q:Prop}(k:q)(h:zE p q:=by simp -implicitDefEqProofs only [go_sem,A3,q0,l0,hy0,k0,q1,z0,x1,x2,c,hy,x3];exact .r):p:=by cases h;exact k
theorem QZ{p q:Prop}(k:q)(h:zE p q:=by simp -implicitDefEqProofs only [go_sem,q0,l0,hy0,k0,q1,z0,x1,x2,c,hy,x3];exact .r):p:=by cases h;exact k
theorem Ja{p q:Prop}(k:q)(h:zE p q:=by simp -implicitDefEqProofs only [go_sem,h3];exact .r):p:=by cases h;exact k
theorem Jb{p q:Prop}(k:q)(h:zE p q:=by simp -implicitDefEqProofs only [go_sem,A3,Upv.row];exact .r):p:=by cases h;exact k
theorem Jc{p q:Prop}(k:q)(h:zE p q:=by simp -implicitDefEqProofs only [go_sem,A3,Kst.row,I0];exact .r):p:=by cases h;exact k
theorem Jd{p q:Prop}(k:q)(h:zE p q:=by simp -implicitDefEqProofs only [go_sem,scH,g1,g2];exact .r):p:=by cases h;exact k
theorem Je{p q:Prop}(k:q)(h:zE p q:=by simp -implicitDefEqProofs only [go_sem,A4b,AC.snd,d1,d2,ml,q0];exact .r):p:=by cases h;exact k
theorem Jf{p q:Prop}(k:q)(h:zE p q:=by simp -implicitDefEqProofs only [go_sem,List.length_cons,List.length_nil];exact .r):p:=by cases h;exact k
theorem Jg{p q:Prop}(k:q)(h:zE p q:=by simp -implicitDefEqProofs only [go_sem,Option.some.injEq,forall_eq'];exact .r):p:=by cases h;exact k
theorem Jh{p q:Prop}(k:q)(h:zE p q:=by simp -implicitDefEqProofs only [go_sem,hz0,List.map_nil,Option.some.injEq,forall_eq'];exact .r):p:=by cases h;exact k
theorem Ji{p q:Prop}(k:q)(h:zE p q:=by simp -implicitDefEqProofs only [go_sem,hz,hll,hq2,htk,Option.some.injEq,forall_eq'];exact .r):p:=by cases h;exact k
theorem Jj{p q:Prop}(k:q)(h:zE p q:=by simp -implicitDefEqProofs only [go_sem,q0,q1,hc,hR,hS,hT,f1,e];exact .r):p:=by cases h;exact k
theorem Jk{p q:Prop}(k:q)(h:zE p q:=by simp -implicitDefEqProofs only [go_sem,A3,q0,l0,hy0,k0,q1,z0,c,hy,x3];exact .r):p:=by cases h;exact k
theorem Jl{p q:Prop}(k:q)(h:zE p q:=by simp -implicitDefEqProofs only [go_sem,c5,c6,c7,hi,q0,q1,g1,g2,Option.some.injEq,forall_eq'];exact .r):p:=by cases h;exact k
theorem Jm{p:Prop}(h:p:=by omega):p=True:=eq_true h
theorem Jn{p:Prop}(h:¬p:=by omega):p=False:=eq_false h
theorem Jo{a b:Nat}(h:Nat.ble a b=true:=by exact rfl):a≤b:=Nat.le_of_ble_eq_true h
theorem Jp{p:Prop}(h:p:=by
 refine QM ?_
 refine A0.at [0] [1,2] (k1 _) rfl rfl ?_
 rintro r h' mk1 hmk1 ⟨rfl,rfl⟩
 refine QA ?_
 refine A0.at [0] [1,2] (k2 _) rfl rfl ?_
 rintro r h' mk2 hmk2 ⟨rfl,rfl⟩
 refine QA ?_
 refine A0.at [1] [0,2,3] (k3 _) rfl rfl ?_
 rintro r h' mk3 hmk3 ⟨rfl,rfl⟩
 refine QH ?_
 refine A0.at [0] [1,2,3] (k4 _) rfl rfl ?_
 rintro r h' mk4 hmk4 ⟨rfl,rfl⟩
 refine QI ?_
 refine⟨by omega,?_⟩
 subst hQ
 exact fin ⟨nm,false,z⟩ (.sl nUp mk4 0 (us.length+1)) [(nUp,mk4,.rows 3 (us.map Upv.row++ [[.str nm,.bool false,.int .i64 z]]))] _ _ zw (.inr ⟨mk4,by rw [List.length_map,List.length_append];rfl,by rw [List.map_append];rfl⟩) (C0.1 ze)):p:=h
theorem Jq{p:Prop}(h:p:=by
 refine Qz ?_
 refine A0.at [0] [1] (k1 _) rfl rfl ?_
 rintro r h' mk1 hmk1 ⟨rfl,rfl⟩
 refine QA ?_
 refine A0.at [0] [1] (k2 _) rfl rfl ?_
 rintro r h' mk2 hmk2 ⟨rfl,rfl⟩
 refine QA ?_
 refine A0.at [1] [0,2] (k3 _) rfl rfl ?_
 rintro r h' mk3 hmk3 ⟨rfl,rfl⟩
 refine QH ?_
 refine A0.at [0] [1,2] (k4 _) rfl rfl ?_
 rintro r h' mk4 hmk4 ⟨rfl,rfl⟩
 refine QA ?_
 subst hQ
 exact fin ⟨nm,false,z⟩ (.sl nUp mk4 0 1) [(nUp,mk4,.rows 3 [[.str nm,.bool false,.int .i64 z]])] _ _ zw (.inr ⟨mk4,rfl,rfl⟩) (C0.1 ze)):p:=h
theorem Jr{p:Prop}(h:p:=by
 try simp only [z10e,z16e]
 try (refine⟨⟨by omega,by omega⟩,?_⟩)
 try omega):p:=h
theorem Js{p:Prop}(h:p:=by
 repeat refine And.intro zd ?_
 refine⟨hg,?_⟩
 refine(hc m).mono ?_
 rintro r h' n' ⟨rfl,rfl⟩
 by_cases hfx:f x=true
 ·refine QO ?_
  subst hQ
  have:decide ((0:Int)≤k)=true:=decide_eq_true zd
  exact .is ⟨⟨k,rfl,by rw [this,A6p hx hfx]⟩,rfl⟩
 ·have hfx:f x=false:=by simpa using hfx
  refine QO ?_
  refine⟨by omega,?_⟩
  exact ih _ (k+1,n') ⟨by simp only;omega,Y7 hno hx hfx⟩ zj (E8.wk ⟨B0.1 zk,fun _ h=>h,Nat.le_refl _⟩)):p:=h
theorem Jt{p:Prop}(h:p:=by
 by_cases v5:x.lo<0
 case pos=>
  obtain rfl:=bad (by simp [A2G,v5])
  simp -implicitDefEqProofs only [go_sem,q0,q1,k5,zv,hxr,Vr.row,Option.some.injEq,forall_eq',hlt,v1,v2,v3,v4,v5]
 by_cases v6:x.hi<x.lo
 case pos=>
  obtain rfl:=bad (by simp [A2G,v6])
  simp -implicitDefEqProofs only [go_sem,q0,q1,k5,zv,hxr,Vr.row,Option.some.injEq,forall_eq',hlt,v1,v2,v3,v4,v5,v6]
 by_cases v7:(code.length:Int)<x.hi
 case pos=>
  obtain rfl:=bad (by simp [A2G,v7])
  simp -implicitDefEqProofs only [go_sem,q0,q1,k5,zv,hxr,Vr.row,Option.some.injEq,forall_eq',hlt,v1,v2,v3,v4,v5,v6,v7]
 have hbk:A2G regs code.length x=false:=by simp [A2G,v1,v2,v3,v4,v5,v6,v7]
 simp -implicitDefEqProofs only [go_sem,q0,q1,k5,zv,hxr,Vr.row,Option.some.injEq,forall_eq',hlt,v1,v2,v3,v4,v5,v6,v7]
 refine⟨by omega,?_⟩
 exact ih _ (k+1,m+1) ⟨by simp only;omega,Y7 hno hx hbk⟩ zj zk):p:=h
theorem Ju{p:Prop}(h:p:=by
 have hxr:=rc k x hx
 simp -implicitDefEqProofs only [go_sem,q0,q1,k2,zc,hxr,Kst.row,Option.some.injEq,forall_eq']
 have bad:B1q x=true→4=z:=fun hb=>(hl ▸ if_neg (fun h=>by simp [A6p hx hb]at h):z=4).symm
 have hzk:((k+1:Nat):Int)=(k:Int)+1:=by omega
 refine⟨hlt,fun hkx=> ?_,fun hkx=>bad (by simp [B1q,hkx])⟩
 have hv:=B6g x zd
 simp only [Kst.row]at hv
 refine A0.pureF hv ze ?_
 by_cases hx2:I0 x=true
 ·have hbk:B1q x=false:=by simp only [B1q,hx2,decide_eq_false hkx];rfl
  simp -implicitDefEqProofs only [go_sem,hx2]
  refine⟨by omega,?_⟩
  exact ih _ (k+1,m+1) ⟨by simp only;omega,Y7 hno hx hbk⟩ zj zk
 ·have hx2:I0 x=false:=by simpa only [Bool.not_eq_true]using hx2
  have:=bad (by simp [B1q,hx2])
  simp -implicitDefEqProofs only [go_sem,hx2,this]):p:=h
theorem Jv{p:Prop}(h:p:=by
 refine QM ?_
 refine A0.at [0] [1,2] (k1 _) rfl rfl ?_
 rintro r h' mk1 hmk1 ⟨rfl,rfl⟩
 refine QA ?_
 refine A0.at [0] [1,2] (k2 _) rfl rfl ?_
 rintro r h' mk2 hmk2 ⟨rfl,rfl⟩
 refine QA ?_
 refine A0.at [1] [0,2,3] (k3 _) rfl rfl ?_
 rintro r h' mk3 hmk3 ⟨rfl,rfl⟩
 simp -implicitDefEqProofs only [go_sem,scH,f1]
 refine A0.at [0] [1,2,3] (k4 _) rfl rfl ?_
 rintro r h' mk4 hmk4 ⟨rfl,rfl⟩
 refine QI ?_
 refine⟨by omega,?_⟩
 subst hQ
 exact fin ⟨nm,true,z⟩ (.sl nUp mk4 0 (us.length+1)) [(nUp,mk4,.rows 3 (us.map Upv.row++ [[.str nm,.bool true,.int .i64 z]]))] _ _ zw (.inr ⟨mk4,by rw [List.length_map,List.length_append];rfl,by rw [List.map_append];rfl⟩) (C0.1 ze)):p:=h
theorem Jw{p:Prop}(h:p:=by
 refine c0 rfl ?_
 have e0: ∀h n,(⟨s.sl,h,n⟩:St).ev x=s.ev x:=fun h n=>D0.ev fun _ _=>rfl
 simp only [A8,e0]
 exact G7 _):p:=h
theorem Jx{p:Prop}(h:p:=by
 have hok: ∀n,Lib.atoiAll w≠ .ok n:=fun n hn=>hok ⟨n,hn⟩
 obtain⟨z,hz2⟩:=B1p hok
 rw [hz2]at hat
 rw [A9I hz0 hok]at hI
 refine QJ ?_
 refine A0.pureF hat ze ?_
 refine Qy ?_
 rw [hI];rfl):p:=h
theorem Jy{p:Prop}(h:p:=by
 refine Qz ?_
 refine A0.at [0] [1] (k1 _) rfl rfl ?_
 rintro r h' mk1 hmk1 ⟨rfl,rfl⟩
 refine QA ?_
 refine A0.at [0] [1] (k2 _) rfl rfl ?_
 rintro r h' mk2 hmk2 ⟨rfl,rfl⟩
 refine QA ?_
 refine A0.at [1] [0,2] (k3 _) rfl rfl ?_
 rintro r h' mk3 hmk3 ⟨rfl,rfl⟩
 simp -implicitDefEqProofs only [go_sem,scH,f1]
 refine A0.at [0] [1,2] (k4 _) rfl rfl ?_
 rintro r h' mk4 hmk4 ⟨rfl,rfl⟩
 refine QA ?_
 subst hQ
 exact fin ⟨nm,true,z⟩ (.sl nUp mk4 0 1) [(nUp,mk4,.rows 3 [[.str nm,.bool true,.int .i64 z]])] _ _ zw (.inr ⟨mk4,rfl,rfl⟩) (C0.1 ze)):p:=h
theorem Jz{p:Prop}(h:p:=by
 intro e he e' he' hne hc hc'
 rcases List.mem_append.1 he with he|he<;>rcases List.mem_append.1 he' with he'|he'
 ·exact hr'.inj e he e' he' hne hc hc'
 ·rw [hρ e' he']at hc'⊢
  intro heq
  have ho:Own ρ rest (ρ e'.2.1).blk:=⟨e',he',hc',rfl⟩
  exact(hx.blk _ (hreal _ ho) (hnot1 _ ho)).2 ⟨e,he,hc,heq⟩
 ·rw [hρ e he]at hc⊢
  intro heq
  have ho:Own ρ rest (ρ e.2.1).blk:=⟨e,he,hc,rfl⟩
  exact(hx.blk _ (hreal _ ho) (hnot1 _ ho)).2 ⟨e',he',hc',heq.symm⟩
 ·rw [hρ e he]at hc⊢
  rw [hρ e' he']at hc'⊢
  exact hr.inj e (hs2 e he).1 e' (hs2 e' he').1 hne hc hc'):p:=h
theorem JA{p:Prop}(h:p:=by
 by_cases v2:regs≤x.reg
 case pos=>
  obtain rfl:=bad (by simp [A2G,v2])
  simp -implicitDefEqProofs only [go_sem,q0,q1,k5,zv,hxr,Vr.row,Option.some.injEq,forall_eq',hlt,v1,v2]
 by_cases v3:x.attr<0
 case pos=>
  obtain rfl:=bad (by simp [A2G,v3])
  simp -implicitDefEqProofs only [go_sem,q0,q1,k5,zv,hxr,Vr.row,Option.some.injEq,forall_eq',hlt,v1,v2,v3]
 by_cases v4:2<x.attr
 case pos=>
  obtain rfl:=bad (by simp [A2G,v4])
  simp -implicitDefEqProofs only [go_sem,q0,q1,k5,zv,hxr,Vr.row,Option.some.injEq,forall_eq',hlt,v1,v2,v3,v4]
 exact Jt):p:=h
theorem JB{p:Prop}(h:p:=by
 refine QB ?_
 refine F2 (k2 _ _) a1 fun m2 hm2=> ?_
 refine QB ?_
 refine P4 (k3 _ _) (show nPb≠nXh by decide) a1 fun m3 hm3=> ?_
 refine QB ?_
 refine F2 (k4 _ _) aP fun m4 hm4=> ?_
 refine QB ?_
 refine P4 (k5 _ _) (show nPb≠nXh by decide) a1 fun m5 hm5=> ?_
 refine QB ?_
 refine F2 (k6 _ _) aP fun m6 hm6=> ?_
 refine QB ?_
 refine P4 (k7 _ _) (show nPb≠nXh by decide) a1 fun m7 hm7=> ?_
 refine QB ?_
 refine F2 (k8 _ _) aP fun m8 hm8=> ?_
 refine QB ?_
 exact go1 (sx:=n) (sp:=m2) (va:=false) zg (by rw [if_neg zg]) ze fun e he=>he):p:=h
theorem JC{p:Prop}(h:p:=by
 simp only
 by_cases h1:cs.length=m
 ·by_cases h2:j+m≤row.length
  ·rw [h1,Nat.beq_refl,Nat.ble_eq_true_of_le h2];simp [A5h,h2]
  ·have:Nat.ble (j+m) row.length=false:=by
    cases hb:Nat.ble (j+m) row.length with
    |false=>rfl
    |true=>exact(h2 (Nat.le_of_ble_eq_true hb)).elim
   rw [this];simp [A5h,h2]
 ·have:Nat.beq cs.length m=false:=by
   cases hb:Nat.beq cs.length m with
   |false=>rfl
   |true=>exact(h1 (Nat.eq_of_beq_eq_true hb)).elim
  rw [this];simp [A5h,h1]):p:=h
theorem JD{p:Prop}(h:p:=by
 cases hj:row[j]? with
 |none=>exact⟨Go.undef,fun row' c h h'=>by injection h with h;subst h;rw [hj]at h';cases h'⟩
 |some c=>
  obtain⟨y,h1,h2,h3⟩:=(hrows (i+q) row (get hq)).2 j c hj
  refine⟨y,fun row' c' e1 e2=> ?_⟩
  injection e1 with e1
  subst e1
  rw [hj]at e2
  injection e2 with e2
  subst e2
  refine⟨?_,h2,h3⟩
  rw [Nat.add_mul,←Nat.add_assoc]at h1
  rw [hsz']
  exact h1):p:=h
theorem JE{p:Prop}(h:p:=by
 exact⟨⟨false,by first|exact A0D hd _|exact S2 hd _|exact A0C hd _,by cases neg<;>simpa using h1.symm⟩,⟨_,rfl⟩,⟨_,rfl⟩⟩):p:=h
theorem JF{p:Prop}(h:p:=by
 have q0:((k:Int)<(vars.length:Int))=True:=Jm
 have q1:((0:Int)≤(k:Int))=True:=Jm
 obtain⟨x,hx⟩: ∃x,vars[k]? =some x:=⟨vars[k],by simp [hlt]⟩
 have hxr:=rv k x hx
 have bad:A2G regs code.length x=true→z=4:=fun hb=>hl ▸ if_neg (fun h=>by simp [A6p hx hb]at h)
 have hzk:((k+1:Nat):Int)=(k:Int)+1:=by omega
 by_cases v1:x.reg<0
 case pos=>
  obtain rfl:=bad (by simp [A2G,v1])
  simp -implicitDefEqProofs only [go_sem,q0,q1,k5,zv,hxr,Vr.row,Option.some.injEq,forall_eq',hlt,v1]
 exact JA):p:=h
theorem JG{p:Prop}(h:p:=by
 simp only [List.mem_cons,List.mem_append]at hx⊢
 rcases hx with h|h|h|h|h|h<;>simp [h]):p:=h
theorem JH{p:Prop}(h:p:=by
 refine go1 (sx:=n) ze fun e he=> ?_
 simp only [List.mem_cons]at he⊢
 rcases he with h|h|h
 ·exact .inl h
 ·exact .inr (.inl h)
 ·exact .inr (.inr h)):p:=h
theorem JI{p:Prop}(h:p:=by
 have c1:=(B0D hbH' (x:=b) (Ne.symm hb3) (Ne.symm hb1) (Ne.symm hb2)).del
 refine QE ?_
 exact ih _ (i+2,l++ [d],hb',m') ⟨A5T hq zd zd hs,hbH',fun h=>absurd h zg⟩ zj (E8.wk ⟨B0.1 Qq,fun _ h=>h,Nat.le_refl _⟩)):p:=h
theorem JJ{p:Prop}(h:p:=by
 exact hg.no.elim):p:=h
theorem JK{p:Prop}(h:p:=by
 refine c0 rfl ?_
 have e0: ∀h n,(⟨s.sl,h,n⟩:St).ev x=s.ev x:=fun h n=>D0.ev fun _ _=>rfl
 have e1: ∀h n,(⟨s.sl,h,n⟩:St).ev y=s.ev y:=fun h n=>D0.ev fun _ _=>rfl
 simp only [A8,e0,e1]
 exact G7 _):p:=h
theorem JL{p:Prop}(h:p:=by
 obtain⟨hl,hR⟩:=hrows i row hrow
 obtain⟨v,hv,hRv⟩:=A5X (P:=P) hR ht h1
 obtain⟨_,hp⟩:=hx.ptr_inv
 have hsz':(ρ st).sz=sz:=hsz
 have hv':(loadVar t ⟨(ρ st).blk,(ρ st).off+i*sz+j,none⟩).run P w= .ok v w:=hv
 have:(execOp η o).run P w= .ok (.value v) w:=by
  simp [execOp,ho,Instr.loadAt,hp,Instr.sureAddr,hsz',hv']
 rw [this]
 exact C4.val hr h2 hRv):p:=h
theorem JM{p:Prop}(h:p:=by
 refine A0.pureF aw rfl ?_
 exact ze):p:=h
theorem JN{p:Prop}(h:p:=by
 have l10:=A2F hno
 subst hB
 simp -implicitDefEqProofs only [go_sem,Int.lt_irrefl,h1,h2,k5]
 refine Run.keep [75,74,73,3,1] ?_
 refine Run.rounds (fun(x:Nat×Nat)=>⟨[(75,.int .i64 x.1),(74,.int .i64 vars.length),(73,.isl rvars),(3,.int .i64 code.length),(1,.ptr (72*10000+1) 0 0 0)],[((72*10000+1),0,.rows 11 ([[V.str name,.int .i64 line,.int .i64 params,.bool vararg,.int .i64 regs,.isl rcode,.isl rlines,.isl rconsts,.isl rprotos,.isl rups,.isl rvars]]:List (List V)))],x.2⟩) (fun x=>x.1≤vars.length∧(vars.take x.1).any (A2G regs code.length)=false) (fun x=>vars.length-x.1) (0,m) ze ⟨Nat.zero_le _,rfl⟩ ?_
 clear hno hlt hk ih m
 rintro⟨k,m⟩ ⟨hk,hno⟩ ih
 simp only at hk hno ih⊢
 refine Run.unf A5L (Run.go 100 ?_)
 by_cases hlt:k<vars.length
 ·exact JF
 have e:k=vars.length:=by omega
 subst e
 have l11:=A2F hno
 obtain rfl:z=0:=hl ▸ if_pos ⟨l1,l2,l3,l4,l5,l6d,l8,l9,l10,l11⟩
 exact Qn):p:=h
theorem JO{p:Prop}(h:p:=by
 unfold fV
 simp -implicitDefEqProofs only [go_sem,A3,q0,l0,hy0,k0,q1,z0,x1,c,hy,x3]
 refine A0.pureF hr0 ze ?_
 simp -implicitDefEqProofs only [go_sem,q0,l0,hy0,k0,q1,z0,x1,c,hy,x3]
 try refine⟨⟨by omega,by omega⟩,?_⟩
 refine A0.pureF hr16 ze ?_
 simp -implicitDefEqProofs only [go_sem,q0,l0,hy0,k0,q1,z0,x1,c,hy,x3,g16]
 exact Jr):p:=h
theorem JP{p:Prop}(h:p:=by
 rw [if_neg zg]at ha h6
 subst ha h6
 refine QA ?_
 refine⟨by omega,?_⟩
 subst hQ
 exact fin ⟨nm,z1,z2,z3,0⟩ (.sl nVa mk8 0 (vs.length+1)) [(nVa,mk8,.rows 5 (vs.map Vr.row++ [[.str nm,.int .i64 z1,.int .i64 z2,.int .i64 z3,.int .i64 0]]))] _ _ rfl (.inr ⟨_,by rw [List.length_map,List.length_append];rfl,by rw [List.map_append];rfl⟩) (C0.1 ze)):p:=h
theorem JQ{p:Prop}(h:p:=by
 rw [Bool.eq_false_iff]
 intro hc
 simp only [Bool.and_eq_true,decide_eq_true_eq]at hc
 obtain⟨_⟩:=x;obtain⟨_⟩:=y
 simp_all):p:=h
theorem JR{p:Prop}(h:p:=by
 refine⟨⟨by omega,by omega⟩,⟨by omega,A0.pureF hit ze ?_⟩,A0.pureF hit ze ?_⟩
 all_goals
  simp -implicitDefEqProofs only [go_sem,b1,b2]
  first
   |(refine⟨by omega,by omega,?_⟩;refine go2 ?_;simp -implicitDefEqProofs only [go_sem];done)
   |(refine⟨by omega,?_⟩;refine go2 ?_;simp -implicitDefEqProofs only [go_sem];done)):p:=h
theorem JS{p:Prop}(h:p:=by
 intro u
 induction u using Nat.strongRecOn with
 | ind u ih=>
  intro hu r
  rw [Lib.decDigits]
  by_cases h:u<10
  ·rw [dif_pos h,List.singleton_append,Lib.parseUint10,W9 h,if_pos zd,if_neg zd,if_neg zd]
   congr 1;omega
  ·rw [dif_neg h,List.append_assoc,ih (u/10) zd zd,List.singleton_append,Lib.parseUint10,W9 zd,if_pos zd,if_neg zd,if_neg zd]
   congr 1;omega):p:=h
theorem JT{p:Prop}(h:p:=by
 rename_i hcond
 obtain⟨rfl,hb⟩:=hcond
 split at hc
 ·rename_i z hz
  split at hc
  ·rename_i zs hzs
   split at hc
   ·rename_i hl
    injection hc with hc
    subst hc
    obtain⟨hR,hone⟩:=B0G hzs
    exact C0L ho rfl h1 h2 hz hb hR hone hl rfl hr he hk
   ·cases hc
  ·cases hc
 ·cases hc):p:=h
theorem JU{p:Prop}(h:p:=by
 have hl':((a.length:Int)=(b.length:Int))=False:=Jn
 have hne: ¬a=b:=fun e=>hl zm
 exact zP):p:=h
theorem JV{p:Prop}(h:p:=by
 have l9:ups.any (fun u=>decide (u.idx<0))=false:=by simpa only [Bool.not_eq_true]using l9
 simp -implicitDefEqProofs only [go_sem,l9,h1,h2,k1,k2,k3,k5]
 refine Run.keep [59,58,57,3,1] ?_
 generalize hB:([[V.str name,.int .i64 line,.int .i64 params,.bool vararg,.int .i64 regs,.isl rcode,.isl rlines,.isl rconsts,.isl rprotos,.isl rups,.isl rvars]]:List (List V))=B at*
 refine Run.rounds (fun(x:Nat×Nat)=>⟨[(59,.int .i64 x.1),(58,.int .i64 consts.length),(57,.isl rconsts),(3,.int .i64 code.length),(1,.ptr (72*10000+1) 0 0 0)],[((72*10000+1),0,.rows 11 B)],x.2⟩) (fun x=>x.1≤consts.length∧(consts.take x.1).any B1q=false) (fun x=>consts.length-x.1) (0,n') ze ⟨Nat.zero_le _,rfl⟩ ?_
 rintro⟨k,m⟩ ⟨hk,hno⟩ ih
 simp only at hk hno ih⊢
 refine Run.unf A5K (Run.go 100 ?_)
 by_cases hlt:k<consts.length
 ·have q0:((k:Int)<(consts.length:Int))=True:=Jm
  have q1:((0:Int)≤(k:Int))=True:=Jm
  obtain⟨x,hx⟩: ∃x,consts[k]? =some x:=⟨consts[k],by simp [hlt]⟩
  exact Ju
 have e:k=consts.length:=by omega
 subst e
 exact JN):p:=h
theorem JW{p:Prop}(h:p:=by
 unfold fV
 simp -implicitDefEqProofs only [go_sem,A3,q0,l0,hy0,k0,q1,c,hy,x3]
 refine A0.pureF hr0 ze ?_
 simp -implicitDefEqProofs only [go_sem,q0,l0,hy0,k0,q1,c,hy,x3]
 try refine⟨⟨by omega,by omega⟩,?_⟩
 refine A0.pureF hr10 ze ?_
 simp -implicitDefEqProofs only [go_sem,q0,l0,hy0,k0,q1,c,hy,x3,g10]
 exact Jr):p:=h
theorem JX{p:Prop}(h:p:=by
 exact ih _ (k+1) ⟨by omega,Q5 heq hx hy⟩ zd zk):p:=h
theorem JY{p:Prop}(h:p:=by
 unfold A3P nV
 refine Qz ?_
 refine A0.pureF hc ze ?_
 refine QD ?_
 refine A0.pureF hrp ze ?_
 refine Ja ?_
 refine A0.pureF hrq ze ?_
 simp -implicitDefEqProofs only [go_sem,h4]
 refine A0.pureF hip ze ?_
 refine Qy ?_
 refine A0.pureF hiq ze ?_
 simp -implicitDefEqProofs only [go_sem]):p:=h
theorem JZ{p:Prop}(h:p:=by
 split at h
 ·rename_i z
  cases hd:decide (0≤z∧z<256)with
  |false=>rw [hd]at h;cases h
  |true=>
   rw [hd,cond_true]at h
   injection h with h
   obtain⟨h1,h2⟩:=of_decide_eq_true hd
   rw [←h]
   congr 1
   rw [show z.toNat.toUInt8.toNat=z.toNat from by rw [Nat.toUInt8,UInt8.toNat_ofNat'];omega]
   omega
 ·cases h):p:=h
theorem Xa{p:Prop}(h:p:=by
 rintro e w' ⟨v,r,h',n',ρ',rfl,hk1,hr',hRv,hx⟩
 obtain⟨r2,h2,n2,hw,hk2⟩:=hk r h' n' hk1
 obtain⟨ρ2,hr2,hx2,hv⟩:=hw w' O ρ' hr'
 refine⟨v,r2,h2,n2,ρ2,rfl,hk2,hr2,?_,hx.trans hx2⟩
 have:=hv (fun i=>if i=0 then v else Go.undef) (fun i=>by
  cases i with
  |zero=>exact hRv
  |succ i=>exact .undef _) 0
 exact this):p:=h
theorem Xb{p:Prop}(h:p:=by
 rename_i z
 cases hd:decide (0≤z∧z<256)with
 |false=>rw [hd]at h;cases h
 |true=>
  rw [hd,cond_true]at h
  injection h with h
  obtain⟨h1,h2⟩:=of_decide_eq_true hd
  rw [←h]
  congr 1
  rw [show z.toNat.toUInt8.toNat=z.toNat from by rw [Nat.toUInt8,UInt8.toNat_ofNat'];omega]
  omega):p:=h
theorem Xc{p:Prop}(h:p:=by
 injection hc with hc
 subst hc
 have e:=h.cst_inv
 subst e
 exact⟨⟨rfl,fun i c u hi hu=>by cases i with|zero=>(simp [Value.cells]at hi hu;subst hi;subst hu;exact .cst _)|succ i=>simp at hi⟩,fun i u hu=>by cases i with|zero=>(simp [Value.cells]at hu;subst hu;rfl)|succ i=>simp [Value.cells]at hu⟩):p:=h
theorem Xd{p:Prop}(h:p:=by
 refine(cl _ zh (fun x _ m=>B9Z x _ m) _).mono ?_
 rintro r h' n' ⟨rfl,rfl⟩
 by_cases l8:lines.any (fun z=>decide (z<0))=true
 ·obtain rfl:z=4:=hl ▸ if_neg (fun h=>by simp [l8]at h)
  exact Qm
 have l8:lines.any (fun z=>decide (z<0))=false:=by simpa only [Bool.not_eq_true]using l8
 simp -implicitDefEqProofs only [go_sem,l8,h1,h2]
 refine(cu _ zh (fun u _ m=>C6Z u _ m) _).mono ?_
 rintro r h' n' ⟨rfl,rfl⟩
 by_cases l9:ups.any (fun u=>decide (u.idx<0))=true
 ·obtain rfl:z=4:=hl ▸ if_neg (fun h=>by simp [l9]at h)
  exact zY
 exact JV):p:=h
theorem Xe{p:Prop}(h:p:=by
 unfold fV
 refine Jk ?_
 refine A0.pureF hr0 ze ?_
 simp -implicitDefEqProofs only [go_sem,q0,l0,hy0,k0,q1,z0,c,hy,x3]
 try refine⟨⟨by omega,by omega⟩,?_⟩
 refine A0.pureF hr10 ze ?_
 simp -implicitDefEqProofs only [go_sem,q0,l0,hy0,k0,q1,z0,c,hy,x3,g10]
 exact Jr):p:=h
theorem Xf{p:Prop}(h:p:=by
 rintro e w' ⟨N,rfl,_,_,hB⟩
 refine⟨_,rfl,.tup _ _ rfl (fun i c v hc hv=> ?_),⟨hB.size,hB.os,hB.output⟩,fun x hx=>hB.block x hx⟩
 match i with
 |0=>simp at hc hv;subst hc;subst hv;exact .int _ _
 |1=>simp at hc hv;subst hc;subst hv;exact .err _ _
 |i+2=>simp at hc):p:=h
theorem Xg{p:Prop}(h:p:=by
 generalize hm:l.length=m at q3 hpos
 cases q3 with
 |sl _ _ _ _ cap hs hn hc=>exact⟨cap,by simp [hoff1],hn,by simpa using hc⟩
 |sl0=>omega):p:=h
theorem Xh{p:Prop}(h:p:=by
 intro e he
 rcases List.mem_append.1 he with he|he
 ·exact(hr'.blk e he).monoI hi2 (hr'.lt e he) fun _=>rfl
 ·refine(hr.blk e (hs2 e he).1).monoI hxall.imm (hlt e he) fun hc=> ?_
  have ho:Own ρ rest (ρ e.2.1).blk:=⟨e,he,hc,rfl⟩
  exact(hx.blk _ (hreal _ ho) (hnot1 _ ho)).1):p:=h
theorem Xi{p:Prop}(h:p:=by
 simp -implicitDefEqProofs only [go_sem,A3,n0,m0,m1]
 refine⟨⟨by omega,by omega⟩,?_⟩
 try rw [m0]
 try rw [m1]
 refine A0.pureF hg ze ?_
 simp -implicitDefEqProofs only [go_sem,g0,e2,e3,r0,r1,r2]
 try exact⟨⟨by omega,by omega⟩,⟨by omega,by omega⟩⟩):p:=h
theorem Xj{p:Prop}(h:p:=by
 simp -implicitDefEqProofs only [go_sem,q2,q3,j3,zu,hur,Upv.row,hltj,h1,h2,h4,h9,k3,d1,ge_iff_le,Option.some.injEq,forall_eq']
 refine⟨by omega,?_⟩
 exact ihj _ (j+1,m+1) ⟨by simp only;omega,Y7 hnj hu hbu'⟩ zj (by simp -implicitDefEqProofs only [go_sem,hzj])):p:=h
theorem Xk{p:Prop}(h:p:=by
 by_cases hc:cs.length=P.cellsOf t
 ·simp only [hc,if_true,Option.map_eq_some_iff]at h
  obtain⟨xs,hxs,rfl⟩:=h
  exact⟨hc,xs,hxs,fun n hn=>hwt n (by simpa only [DataW.weights,hu]using hn),rfl⟩
 ·simp only [hc,if_false]at h
  cases h):p:=h
theorem Xl{p:Prop}(h:p:=by
 have hi2:Imm (A4 w' O' ρ' n' h') (A4 w' O ρ' n' (h'++rest)):=⟨Nat.le_refl _,fun _ _=>rfl,Nat.le_refl _,fun x _ ho hO=>⟨rfl,fun h=>(hown x h).elim ho fun h=>hO (.inr h),fun h=>hO (.inl h)⟩⟩
 refine⟨v,r,h'++rest,n',ρ',rfl,hk r h' n' hx.n hk1,⟨?_,?_,fun x hx'=>Nat.lt_of_lt_of_le (hr.out x hx') hx.size,?_,?_,hr'.gl.mono hi2⟩,hRv.monoI hi2,hxall⟩
 ·intro e he
  rcases List.mem_append.1 he with he|he
  ·exact hr'.lt e he
  ·exact Nat.lt_of_lt_of_le (hlt e he) hx.n
 ·exact Jz
 ·intro e he hc hO
  rcases List.mem_append.1 he with he|he
  ·exact hr'.notO e he hc (.inl hO)
  ·rw [hρ e he]at hc hO
   exact hr.notO e (hs2 e he).1 hc hO
 ·exact Xh):p:=h
theorem Xm{p:Prop}(h:p:=by
 rw [e];simp -implicitDefEqProofs only [go_sem]):p:=h
theorem Xn{p:Prop}(h:p:=by
 obtain⟨⟨c,hc,hrc⟩,⟨a,ha⟩,⟨b,hb⟩⟩:=hcase
 refine fin c hc Qx ?_ hrc
 rw [ha,hb]at hc⊢
 cases neg<;>simp [binOp,hc]):p:=h
theorem Xo{p:Prop}(h:p:=by
 exact⟨by omega,⟨by omega,by omega⟩,fin _ zk⟩):p:=h
theorem Xp{p:Prop}(h:p:=by
 unfold fV
 refine QY ?_
 refine A0.pureF hr0 ze ?_
 refine QZ ?_
 try refine⟨⟨by omega,by omega⟩,?_⟩
 refine A0.pureF hr16 ze ?_
 simp -implicitDefEqProofs only [go_sem,q0,l0,hy0,k0,q1,z0,x1,x2,c,hy,x3,g16]
 exact Jr):p:=h
theorem Xq{p:Prop}(h:p:=by
 refine Qy ?_
 refine A0.pureF hk ze ?_
 simp -implicitDefEqProofs only [go_sem,f0]):p:=h
theorem Xr{p:Prop}(h:p:=by
 obtain⟨a,_,⟨_,rfl⟩|⟨nb,sb,hnb,rfl⟩⟩:=hb
 ·intro e he;rw [List.mem_singleton.1 he];exact h1
 ·intro e he
  rcases List.mem_cons.1 he with rfl|he
  ·exact h1
  ·rw [List.mem_singleton.1 he]
   rcases hnb with rfl|rfl
   ·exact h2
   ·exact h3):p:=h
theorem Xs{p:Prop}(h:p:=by
 unfold fV
 refine QY ?_
 refine A0.pureF hr0 ze ?_
 refine QZ ?_
 try refine⟨⟨by omega,by omega⟩,?_⟩
 refine A0.pureF hr10 ze ?_
 simp -implicitDefEqProofs only [go_sem,q0,l0,hy0,k0,q1,z0,x1,x2,c,hy,x3,g10]
 exact Jr):p:=h
theorem Xt{p:Prop}(h:p:=by
 have hreal: ∀x,Own ρ rest x→x<w.heap.size:=fun x h=>hr.real (hsub2 x h)
 have hown: ∀x,Own ρ' (h'++rest) x→Own ρ' h' x∨Own ρ rest x:=by
  rintro x ⟨e,he,hc,hb⟩
  rcases List.mem_append.1 he with he|he
  ·exact .inl ⟨e,he,hc,hb⟩
  ·rw [hρ e he]at hc hb
   exact .inr ⟨e,he,hc,hb⟩
 have hxall:Ext (A4 w O ρ n h) (A4 w' O ρ' n' (h'++rest)):=by
  refine⟨rfl,hx.n,hx.ρ,hx.wd,fun x hx' ho=> ?_⟩
  have ho1: ¬Own ρ h1 x:=fun h=>ho (hsub x h)
  refine⟨(hx.blk x hx' ho1).1,fun h=> ?_⟩
  rcases hown x h with h|h
  ·exact(hx.blk x hx' ho1).2 h
  ·exact ho (hsub2 x h)
 exact Xl):p:=h
theorem Xu{p:Prop}(h:p:=by
 refine⟨by kernel_rfl,?_⟩
 refine(B7m _ _ _).mono ?_
 rintro r h' n' ⟨rfl,rfl⟩
 refine Qy ?_
 subst hQ
 exact .to (r2:= .bool _) (n2:=n') ⟨rfl,rfl⟩ (.turn id ⟨.refl _,trivial⟩ (.at 1 rfl rfl (.refl _) (.at 2 rfl rfl (.refl _) trivial)))):p:=h
theorem Xv{p:Prop}(h:p:=by
 rw [if_neg zg]at ha h6
 subst ha h6
 refine QA ?_
 subst hQ
 exact fin ⟨nm,z1,z2,z3,0⟩ (.sl nVa mk8 0 1) [(nVa,mk8,.rows 5 [[.str nm,.int .i64 z1,.int .i64 z2,.int .i64 z3,.int .i64 0]])] _ _ rfl (.inr ⟨_,rfl,rfl⟩) (C0.1 ze)):p:=h
theorem Xw{p:Prop}(h:p:=by
 have e:k=l.length:=by omega
 subst e
 refine QK ?_
 subst hQ
 exact .is ⟨⟨-1,rfl,by rw [A2F hno];rfl⟩,rfl⟩):p:=h
theorem Xx{p:Prop}(h:p:=by
 refine Qz ?_
 refine(key n).mono ?_
 rintro r h' n' ⟨⟨z,rfl,hz⟩,rfl⟩
 refine QL ?_
 subst hQ
 exact .is ⟨rfl,rfl⟩):p:=h
theorem Xy{p:Prop}(h:p:=by
 split at h
 ·exact⟨h.1,hk _ _ _ h.2⟩
 ·exact h):p:=h
theorem Xz{p:Prop}(h:p:=by
 obtain⟨n2,rfl,_⟩:=h2.int_inv Tryz.underlying3
 obtain⟨n3,rfl,_⟩:=h3.int_inv Tryz.underlying3
 obtain⟨n4,rfl,_⟩:=h4.int_inv Tryz.underlying3
 obtain⟨n5,rfl,_⟩:=h5.int_inv Tryz.underlying3
 exact⟨⟨n1,n2,n3,n4,n5⟩,rfl⟩):p:=h
theorem XA{p:Prop}(h:p:=by
 refine⟨rfl,hx.n,hx.ρ,hx.wd,fun x hx' ho=> ?_⟩
 have ho1: ¬Own ρ h1 x:=fun h=>ho (hsub x h)
 refine⟨(hx.blk x hx' ho1).1,fun h=> ?_⟩
 rcases hown x h with h|h
 ·exact(hx.blk x hx' ho1).2 h
 ·exact ho (hsub2 x h)):p:=h
theorem XB{p:Prop}(h:p:=by
 rintro e w' ⟨v,r,h',n',ρ',rfl,hk1,hr',hRv,hx⟩
 have hlt: ∀e∈rest,e.2.1<n:=fun e he=>hr.lt e (hs2 e he).1
 have hρ: ∀e∈rest,ρ' e.2.1=ρ e.2.1:=fun e he=>hx.ρ _ (hlt e he)
 have hnot1: ∀x,Own ρ rest x→ ¬Own ρ h1 x:=by
  rintro x hx' ⟨e,he,hc,rfl⟩
  exact hdis e he hc hx'
 exact Xt):p:=h
theorem XC{p:Prop}(h:p:=by
 simp -implicitDefEqProofs only [go_sem,A3,hd]
 refine A0.pureF p1 ze ?_
 refine QW ?_
 refine A0.pureF p2 ze ?_
 refine QW ?_
 refine A0.pureF p3 ze ?_
 simp -implicitDefEqProofs only [go_sem,q1,hd]
 subst hQ
 exact .is rfl):p:=h
theorem XD{p:Prop}(h:p:=by
 obtain⟨hl,hR⟩:=hrows i row hrow
 obtain⟨v,hv,hRv⟩:=A5X (P:=P) hR ht h1
 obtain⟨_,hp⟩:=hx.ptr_inv
 have hsz':(ρ st).sz=sz:=hsz
 refine⟨_,v,hp,?_,hRv⟩
 simp only [hsz']
 exact hv):p:=h
theorem XE{p:Prop}(h:p:=by
 split at hg
 ·exact hg.one
 ·simp only
  split at hg
  ·rename_i he
   obtain⟨h1,hg⟩:=hg.g
   simp only [Bool.and_eq_true,B2e,Nat.ble_eq]at h1
   rw [he]
   exact⟨h1.1,h1.2,hg.one⟩
  ·exact JJ
 ·exact JJ):p:=h
theorem XF{p:Prop}(h:p:=by
 rw [if_neg hX]
 rw [if_neg hT]
 unfold fV
 simp -implicitDefEqProofs only [go_sem,A3,q0,l0,hy0,k0,q1,z0,c]
 refine A0.pureF hr0 ze ?_
 simp -implicitDefEqProofs only [go_sem,q0,l0,hy0,k0,q1,z0,c]
 exact Jr):p:=h
theorem XG{p:Prop}(h:p:=by
 refine A0.at [0] [] (ht _ _ zd) rfl rfl ?_
 rintro r h' n' hn ⟨rfl,rfl⟩
 by_cases hw:w= []<;>cases yo<;>simp -implicitDefEqProofs only [go_sem,hw]
 all_goals (subst hQ;exact .is ⟨by simp [hw],by simp [hw]⟩)):p:=h
theorem XH{p:Prop}(h:p:=by
 simp only [List.mem_cons]at he
 rcases he with h|h|h
 ·rw [h];exact hR.1
 ·rw [h];exact hR.2.1
 ·rcases hs with⟨_,_,rfl⟩|⟨s1,_,rfl⟩
  ·cases h
  ·rw [List.mem_singleton.1 h];exact hR.2.2):p:=h
theorem XI{p:Prop}(h:p:=by
 refine Qy ?_
 try (refine⟨⟨by omega,by omega⟩,by omega⟩)
 try exact⟨by omega,by omega⟩):p:=h
theorem XJ{p:Prop}(h:p:=by
 exact hk.elim):p:=h
theorem XK{p:Prop}(h:p:=by
 simp only [List.mem_cons,List.cons_append,List.nil_append]at he⊢
 rcases he with h|h|h|h
 ·exact .inr (.inr (.inl h))
 ·exact .inl h
 ·exact .inr (.inl h)
 ·exact .inr (.inr (.inr (.inr h)))):p:=h
theorem XL{p:Prop}(h:p:=by
 refine Run.go 25 ?_
 simp -implicitDefEqProofs only [go_sem,hdB,AC.snd,d1,d2]
 refine F2 (k0 _ _) a1 fun m0 hm0=> ?_
 refine QB ?_
 refine F2 (k1 _ _) a1 fun m1 hm1=> ?_
 exact JB):p:=h
theorem XM{p:Prop}(h:p:=by
 rw [e2]at hg
 simp -implicitDefEqProofs only [go_sem,A3,h1,h2,h3,h4,h5,gt_iff_lt]
 refine⟨by omega,?_⟩
 refine A0.pureF hg ze ?_
 simp -implicitDefEqProofs only [go_sem,hnum,e3,e4]):p:=h
theorem XN{p:Prop}(h:p:=by
 have h3:(execOp η o).run P w= .ok (.value (.bool neg)) w:=by
  have:=B2E (w:=w) hd a v
  cases neg<;>simp [execOp,ho,e,hc,eqGuard,binOp,this]
 rw [h3]
 exact C4.val hr h2 (.bool _)):p:=h
theorem XO{p:Prop}(h:p:=by
 have b3:((97:Int)≤(c.toNat:Int))=False:=Jn
 have b4:((c.toNat:Int)≤122)=True:=Jm
 have b5:((65:Int)≤(c.toNat:Int))=False:=Jn
 have b6:((c.toNat:Int)≤90)=True:=Jm
 exact Qe):p:=h
theorem XP{p:Prop}(h:p:=by
 intro r h' n' hn h1
 refine⟨rest++h',fun e he=> ?_,hk r h' n' hn h1⟩
 rcases List.mem_append.1 he with h|h
 ·exact List.mem_append.2 (.inr h)
 ·exact List.mem_append.2 (.inl h)):p:=h
theorem XQ{p:Prop}(h:p:=by
 simp only [Op.eqFields,if_pos hname,Sem.run_bind,ha,hb,hab,Result.andThen_ok,ne_eq]
 cases x with
 |true=>simpa using ih y es' hy1 h3
 |false=>simp):p:=h
theorem XR{p:Prop}(h:p:=by
 have e:k=a.length:=by omega
 subst e
 exact zO):p:=h
theorem XS{p:Prop}(h:p:=by
 exact⟨fun e=>(by cases e),fun _=>⟨rfl,rfl⟩⟩):p:=h
theorem XT{p:Prop}(h:p:=by
 subst hQ;exact .to ⟨rfl,rfl⟩ (.sub ze)):p:=h
theorem XU{p:Prop}(h:p:=by
 simp [Builtin.append_,run_underlying ht,run_underlying hu,sizeOf,typeInfo,zeroValue,hi,hz,h3,hn,h63',h48',Question.forced,h1,h2,newRow,grownCap]
 congr 2;apply Array.ext';simp):p:=h
theorem XV{p:Prop}(h:p:=by
 exact⟨by omega,by omega,by omega,by omega,by omega,by omega⟩):p:=h
theorem XW{p:Prop}(h:p:=by
 obtain rfl:z=4:=hz ▸ if_neg (fun h=>by simp at h)
 exact ze):p:=h
theorem XX{p:Prop}(h:p:=by
 rw [hv]at ha hQ
 simp only at ha hQ
 refine A0.pureF ha rfl ?_
 cases yo<;>simp -implicitDefEqProofs only [go_sem]
 all_goals (subst hQ;exact .is ⟨rfl,by simp⟩)):p:=h
theorem XY{p:Prop}(h:p:=by
 intro hm
 unfold Lib.itoa at hm
 split at hm
 ·rcases List.mem_cons.1 hm with h|h
  ·cases h
  ·have:=H6 _ _ h;revert this;decide
 ·have:=H6 _ _ hm;revert this;decide):p:=h
theorem XZ{p:Prop}(h:p:=by
 exact⟨False,.undef,fun _ _=>by simp⟩):p:=h
theorem Ya{p:Prop}(h:p:=by
 unfold Addr.add
 split
 ·rename_i h0;subst h0;rfl
 ·simp [Nat.add_assoc]):p:=h
theorem Yb{p:Prop}(h:p:=by
 have:=List.getElem?_eq_none_iff.1 hy
 rw [List.getElem?_eq_none zd]
 rfl):p:=h
theorem Yc{p:Prop}(h:p:=by
 simp -implicitDefEqProofs only [go_sem]):p:=h
theorem Yd{p:Prop}(h:p:=by
 refine Qy ?_
 refine A0.pureF hk ze ?_
 exact ze):p:=h
theorem Ye{p:Prop}(h:p:=by
 have e1:U6 D8 F3 [] s=none:=by rw [hls,q1];rfl
 have e2:A2y D8 F3 [] s=k+1:=by rw [j8,B3i (.inr ⟨t,r,hc,q1⟩)]
 refine Qy ?_
 exact bad e1 e2):p:=h
theorem Yf{p:Prop}(h:p:=by
 simp only [List.getElem?_take,List.getElem?_drop,List.getElem?_cons_zero,Nat.add_zero]at this
 split at this
 ·exact this
 ·cases this):p:=h
theorem Yg{p:Prop}(h:p:=by
 rcases List.mem_cons.1 he with rfl|he
 ·exact A2.mem_of_get hy
 ·rw [List.mem_singleton.1 he];exact A2.mem_of_get hx):p:=h
theorem Yh{p:Prop}(h:p:=by
 refine QT ?_
 exact⟨S7 hs,fun e=>e.symm⟩):p:=h
theorem Yi{p:Prop}(h:p:=by
 unfold M6 at k3
 split at k3
 ·omega
 ·split at k3
  ·omega
  ·split at k3
   ·assumption
   ·omega):p:=h
theorem Yj{p:Prop}(h:p:=by
 repeat refine And.intro zd ?_
 exact JX):p:=h
theorem Yk{p:Prop}(h:p:=by
 simp only [wpOpsIn,ho,A2N hg,if_true]
 refine⟨fun _ _=>trivial,?_⟩
 rw [show (Fr none).round=none from rfl,Oper.semAt_none,hr]
 exact h):p:=h
theorem Yl{p:Prop}(h:p:=by
 intro y hy
 unfold World.freeze
 split
 ·rfl
 ·simp only [Array.getElem?_modify]
  rw [if_neg (fun h=>hy h.symm)];rfl):p:=h
theorem Ym{p:Prop}(h:p:=by
 refine⟨by simp [h1],fun i c2 hi=> ?_⟩
 cases i with
 |zero=>simp at hi;subst hi;exact⟨a,rfl,h.1⟩
 |succ i=>exact h2 i c2 zW):p:=h
theorem Yn{p:Prop}(h:p:=by
 have:=(List.getElem?_eq_some_iff.1 hi).1
 rw [List.length_append,List.length_reverse,List.length_singleton]at this
 omega):p:=h
theorem Yo{p:Prop}(h:p:=by
 refine⟨hlt,by omega,by omega,?_⟩
 exact JX):p:=h
theorem Yp{p:Prop}(h:p:=by
 split at hk
 ·rename_i hj;subst hj;exact ar _ zK hk
 ·exact XJ):p:=h
theorem Yq{p:Prop}(h:p:=by
 rw [A9J hz0]at hI
 refine Jh ?_
 rw [hI];rfl):p:=h
theorem Yr{p:Prop}(h:p:=by
 rw [hq]at fin
 simp only [C2,List.map_cons,List.map_nil,List.length_cons,List.length_nil]at fin
 refine Jj ?_
 exact Xo):p:=h
theorem Ys{p:Prop}(h:p:=by
 have e1: ∀h n,(⟨s.sl,h,n⟩:St).ev x=s.ev x:=fun h n=>D0.ev fun _ _=>rfl
 refine c1 rfl ?_
 simp only [A8,e1]
 exact o1 _):p:=h
theorem Yt{p:Prop}(h:p:=by
 unfold Lib.hasPrefix
 rw [Bool.eq_iff_iff,List.isPrefixOf_iff_prefix,decide_eq_true_iff,List.prefix_iff_eq_take]
 exact eq_comm):p:=h
theorem Yu{p:Prop}(h:p:=by
 refine⟨A0.pureF htx ze ?_,A0.pureF htx ze ?_⟩
 all_goals
  simp -implicitDefEqProofs only [go_sem,d1,d2,ht]
  exact JH):p:=h
theorem Yv{p:Prop}(h:p:=by
 rename_i hu;injection hsh with hsh;exact leaf _ _ hsh.symm hu zg zg):p:=h
theorem Yw{p:Prop}(h:p:=by
 unfold NdB.row NdB.rest A5t at hx
 exact JG):p:=h
theorem Yx{p:Prop}(h:p:=by
 simp -implicitDefEqProofs only [go_sem,q2,q3,j3,zu,hur,Upv.row,hltj,h1,h2,h4,h9,k3,d1,ge_iff_le,Option.some.injEq,forall_eq']):p:=h
theorem Yy{p:Prop}(h:p:=by
 subst hQ
 refine .is ⟨rfl,.ptr b st 0 0,.inr rfl,.inr ⟨nWS,n',.inl rfl,?_⟩⟩
 rw [hap,List.length_append];rfl):p:=h
theorem Yz{p:Prop}(h:p:=by
 subst hQ
 refine .is ⟨rfl,.ptr b st 0 0,.inr rfl,.inr ⟨nWB,n',.inr rfl,?_⟩⟩
 rw [hap,List.length_append];rfl):p:=h
theorem YA{p:Prop}(h:p:=by
 obtain⟨i,hi,rfl⟩:=List.getElem_of_mem hc
 exact ih i _ _ (List.getElem?_eq_getElem zd) (List.getElem?_eq_getElem hi)):p:=h
theorem YB{p:Prop}(h:p:=by
 unfold M6 at k2
 split at k2
 ·omega
 ·split at k2
  ·assumption
  ·split at k2<;>omega):p:=h
theorem YC{p:Prop}(h:p:=by
 obtain⟨a,b,c⟩:=h4 i p m hp hm
 exact⟨a.inCells (E:=A4 w O ρ n h) hcell,b.inCells (E:=A4 w O ρ n h) hcell,c⟩):p:=h
theorem YD{p:Prop}(h:p:=by
 obtain rfl:o3=false:=by rw [←h3b];simp [w1,w2]
 exact Jq):p:=h
theorem YE{p:Prop}(h:p:=by
 obtain rfl:o3=false:=by rw [←h3b];simp [w1,w2]
 exact Jp):p:=h
theorem YF{p:Prop}(h:p:=by
 exact⟨h.1,h.2.1,h.2.2.1,hk _ _ _ h.2.2.2⟩):p:=h
theorem YG{p:Prop}(h:p:=by
 exact⟨True,_,fun k h n=>by rw [true_and]⟩):p:=h
theorem YH{p:Prop}(h:p:=by
 rintro e he hc ⟨e',he',hc',hb⟩
 exact hr.inj e (hs1 e he) e' (hs2 e' he').1 ((hs2 e' he').2 e he) hc hc' hb.symm):p:=h
theorem YI{p:Prop}(h:p:=by
 exact⟨⟨true,by first|exact S2 hd _|exact B2F hd _,by cases neg<;>simpa using h1.symm⟩,⟨_,rfl⟩,⟨_,rfl⟩⟩):p:=h
theorem YJ{p:Prop}(h:p:=by
 simp -implicitDefEqProofs only [go_sem,f0]
 exact end2 h0):p:=h
theorem YK{p:Prop}(h:p:=by
 rw [List.getElem?_map]at h
 obtain⟨r,h1,h2⟩:=Option.map_eq_some_iff.1 h
 exact⟨r,h1,h2 ▸ renL_same f r⟩):p:=h
theorem YL{p:Prop}(h:p:=by
 refine Qy ?_
 exact JM):p:=h
theorem YM{p:Prop}(h:p:=by
 exact B4.cons zf (A7X hbH zf zf zf)):p:=h
theorem YN{p:Prop}(h:p:=by
 cases hq:id'==id with
 |false=>rfl
 |true=>have:=eq_of_beq hq;subst this;rw [Nat.beq_refl]at hb;cases hb):p:=h
theorem YO{p:Prop}(h:p:=by
 simp only [Prod.mk.injEq,and_true]
 omega):p:=h
theorem YP{p:Prop}(h:p:=by
 refine Je ?_
 exact go1 ze (two (h:= []))):p:=h
theorem YQ{p:Prop}(h:p:=by
 first|omega|(split at hi<;>first|omega|(split at hi<;>omega))):p:=h
theorem YR{p:Prop}(h:p:=by
 split<;>simp only [List.length_cons,List.length_nil]<;>omega):p:=h
theorem YS{p:Prop}(h:p:=by
 rintro r h' n' _ ⟨rfl,rfl,rfl⟩
 exact hg.one):p:=h
theorem YT{p:Prop}(h:p:=by
 exact E8.wk ⟨B0.1 h1,h2,Nat.le_refl _⟩):p:=h
theorem YU{p:Prop}(h:p:=by
 cases x<;>simp only [V.beq,Bool.false_eq_true,Bool.and_eq_true,B2e]at h
 obtain⟨rfl,rfl,rfl,rfl⟩:=h;rfl):p:=h
theorem YV{p:Prop}(h:p:=by
 rw [h0]at hpl
 simp only [List.length_nil]at hpl
 omega):p:=h
theorem YW{p:Prop}(h:p:=by
 exact C4.val hr hk (.bool _)):p:=h
theorem YX{p:Prop}(h:p:=by
 obtain⟨c0,hc0,rfl⟩:=cell hc
 exact ih i c0 v hc0 hv):p:=h
theorem YY{p:Prop}(h:p:=by
 intro v w' h
 simp [execOp,ho,resolve,invoke,builtin,h]):p:=h
theorem YZ{p:Prop}(h:p:=by
 unfold N4
 rw [List.flatMap_map]
 congr 1
 funext e
 unfold T2 N0
 rw [List.append_assoc]):p:=h
theorem Ka{p:Prop}(h:p:=by
 simp only [List.mem_cons,List.cons_append,List.nil_append]at he⊢
 rcases he with h|h|h<;>simp [h]):p:=h
theorem Kb{p:Prop}(h:p:=by
 simp only [List.mem_cons,List.not_mem_nil,or_false]at h
 rcases h with h|h|h|h|h<;>(rw [h];decide)):p:=h
theorem Kc{p:Prop}(h:p:=by
 obtain⟨h1,hg⟩:=hg.g
 simp only [Bool.and_eq_true,V3,A9S]at h1
 exact⟨h1.1,h1.2,hg.one⟩):p:=h
theorem Kd{p:Prop}(h:p:=by
 unfold H4
 split
 ·simp
 ·split
  ·simp
  ·split
   ·simp
   ·split<;>simp):p:=h
theorem Ke{p:Prop}(h:p:=by
 simp only [List.cons_append,List.append_assoc]
 rfl):p:=h
theorem Kf{p:Prop}(h:p:=by
 rw [List.getElem?_eq_getElem hlt']at a1
 injection a1 with a1
 rw [←a1]
 exact hput):p:=h
theorem Kg{p:Prop}(h:p:=by
 have:rs= []:=List.eq_nil_of_length_eq_zero hl
 subst this
 exact .isl0 _ _):p:=h
theorem Kh{p:Prop}(h:p:=by
 exact⟨vs,⟨f1,fun y' hy'=>by rw [hy1]at hy';injection hy' with hy';rw [←hy'];exact f2⟩,f3⟩):p:=h
theorem Ki{p:Prop}(h:p:=by
 intro h;injection h with h _;subst h;revert hc;decide):p:=h
theorem Kj{p:Prop}(h:p:=by
 exact A5f hd hs hnext hk hr' hR hx rfl):p:=h
theorem Kk{p:Prop}(h:p:=by
 rw [e]at hc
 rcases List.mem_append.1 hc with hc|hc
 ·exact h4 c hc
 ·exact q4 c hc):p:=h
theorem Kl{p:Prop}(h:p:=by
 have b5:((65:Int)≤(c.toNat:Int))=True:=Jm
 have b6:((c.toNat:Int)≤90)=False:=Jn
 exact Qe):p:=h
theorem Km{p:Prop}(h:p:=by
 simp [Builtin.append_,run_underlying ht,run_underlying hu,sizeOf,typeInfo,hi,h3,hg,h2,A2E,hst]):p:=h
theorem Kn{p:Prop}(h:p:=by
 rw [hb,if_neg zf]at ht
 refine Qy ?_
 subst hQ
 exact .is ⟨by rw [←ht],rfl⟩):p:=h
theorem Ko{p:Prop}(h:p:=by
 rename_i a b d' e i hs
 obtain⟨h1,h2⟩:=J3 hs
 split at hc
 ·exact JT
 ·cases hc):p:=h
theorem Kp{p:Prop}(h:p:=by
 exact C4.val hr hk (.int _ _)):p:=h
theorem Kq{p:Prop}(h:p:=by
 rw [List.mem_singleton.1 he]
 exact a0 e' he'):p:=h
theorem Kr{p:Prop}(h:p:=by
 rw [Nat.add_mul,Nat.one_mul]at this
 omega):p:=h
theorem Ks{p:Prop}(h:p:=by
 exact⟨h.1,h.2.1,hk _ _ _ h.2.2⟩):p:=h
theorem Kt{p:Prop}(h:p:=by
 simp only [F1,List.length_append,List.length_cons,List.length_nil]
 split<;>simp<;>omega):p:=h
theorem Ku{p:Prop}(h:p:=by
 simp only [List.mem_cons,List.mem_append]at he⊢
 rcases he with h|h|h|h<;>simp [h]):p:=h
theorem Kv{p:Prop}(h:p:=by
 have:=(hi.mem i).1 h
 rw [←hi.size]
 exact(Array.getElem?_eq_some_iff.1 this).1):p:=h
theorem Kw{p:Prop}(h:p:=by
 rw [←c1];exact((hR ⟨default,fun _=>False,fun _=>False,fun _=>default,0⟩).1).symm):p:=h
theorem Kx{p:Prop}(h:p:=by
 rw [e00,E1 n0,e0,E1 n1',e1',E1 n1,e1,E1 n2',e2',E1 n2,e2,E1 n3',e3',E1 n3,e3,E1 n4,e4]):p:=h
theorem Ky{p:Prop}(h:p:=by
 rintro r h' n' hn ⟨rfl,rfl⟩
 exact hk n' hn):p:=h
theorem Kz{p:Prop}(h:p:=by
 rw [List.length_cons];omega):p:=h
theorem KA{p:Prop}(h:p:=by
 subst hQ
 exact .is ⟨rfl,rfl⟩):p:=h
theorem KB{p:Prop}(h:p:=by
 simp only
 cases rs[i]? with
 |none=>rfl
 | some row=>
  exact JC):p:=h
theorem KC{p:Prop}(h:p:=by
 injection hg with hg;exact A9A (x:=(.cst Go.undef,s.h,s.n)) (by rw [hg];exact hK)):p:=h
theorem KD{p:Prop}(h:p:=by
 subst hQ;exact .is ⟨rfl,rfl⟩):p:=h
theorem KE{p:Prop}(h:p:=by
 split at h
 ·exact hk _ _ _ h
 ·exact h):p:=h
theorem KF{p:Prop}(h:p:=by
 exact(hK O ρ' _ _ _ b cs' hr4 hsim hd4 (.code (B:=0) rfl hk)).step sall' hxall):p:=h
theorem KG{p:Prop}(h:p:=by
 split at c
 ·rename_i s hs;rw [hs,Nat.eq_of_beq_eq_true c]
 ·cases c):p:=h
theorem KH{p:Prop}(h:p:=by
 exact⟨rfl,rfl⟩):p:=h
theorem KI{p:Prop}(h:p:=by
 split at hg
 ·exact⟨Nat.eq_of_beq_eq_true hg.g.1,hg.g.2.one⟩
 ·exact JJ):p:=h
theorem KJ{p:Prop}(h:p:=by
 simp -implicitDefEqProofs only [go_sem,c1,c2,k2,k3,k4,h1,h2]
 exact B5J hl):p:=h
theorem KK{p:Prop}(h:p:=by
 rw [if_pos c0]at hz
 subst hz
 simp -implicitDefEqProofs only [go_sem,c0]):p:=h
theorem KL{p:Prop}(h:p:=by
 split at hq
 ·rwa [List.getElem?_drop]at hq
 ·cases hq):p:=h
theorem KM{p:Prop}(h:p:=by
 unfold World.freeze
 split
 ·rfl
 ·exact Array.size_modify ..):p:=h
theorem KN{p:Prop}(h:p:=by
 simp -implicitDefEqProofs only [go_sem,q1,hd]
 subst hQ
 exact .is rfl):p:=h
end Go
namespace Go.Abs
inductive V where
 |undef
 |bool (b:Bool)
 |int (k:IntKind) (n:Int)
 |str (s:List UInt8)
 |agg (cs:List V)
 |tup (vs:List V)
 |nilp
 |ptr (b st i j:Nat)
 |nils
 |sl (b st i n:Nat)
 |isl (es:List (List V))
 |iptr (es:List (List V)) (i j:Nat)
 |nilm
 |mp (b st:Nat)
 |fn (f:FuncId) (cap:List V)
 |yld (b st:Nat)
 |cst (v:Value)
 |err
 |anyi (k:IntKind)
 deriving Inhabited
structure Loc where
 blk:Nat
 off:Nat
 sz:Nat
 cap:Nat
 deriving Inhabited
structure Env where
 w:World
 own:Nat→Prop
 O:Nat→Prop
 ρ:Nat→Loc
 n:Nat
inductive R (E:Env):V→Value→Prop
 |undef (v:Value):R E .undef v
 |bool (b:Bool):R E (.bool b) (.bool b)
 |int (k:IntKind) (n:Int):R E (.int k n) (.int k n)
 |str (s:List UInt8):R E (.str s) (.string ⟨⟨s⟩⟩)
 | agg (cs:List V) (vs:Array Value) (hl:cs.length=vs.size) (h1: ∀(i:Nat) v,vs[i]? =some v→v.oneCell'=true)
   (hR: ∀(i:Nat) c v,cs[i]? =some c→vs[i]? =some v→R E c v):R E (.agg cs) (.agg vs)
 | tup (cs:List V) (vs:Array Value) (hl:cs.length=vs.size)
   (hR: ∀(i:Nat) c v,cs[i]? =some c→vs[i]? =some v→R E c v):R E (.tup cs) (.tuple vs)
 |nilp:R E .nilp (.pointer none)
 |ptr (b st i j:Nat) (h:st<E.n):R E (.ptr b st i j) (.pointer (some ⟨(E.ρ st).blk,(E.ρ st).off+i*(E.ρ st).sz+j,none⟩))
 |nils:R E .nils (.slice none 0 0)
 | sl (b st i n cap:Nat) (h:st<E.n) (hn:n≤cap) (hc:i+cap≤(E.ρ st).cap):
   R E (.sl b st i n) (.slice (some ⟨(E.ρ st).blk,(E.ρ st).off+i*(E.ρ st).sz,none⟩) n cap)
 |sl0 (b st i:Nat) (a:Option Addr):R E (.sl b st i 0) (.slice a 0 0)
 | isl (es:List (List V)) (p:Addr) (cap sz:Nat) (f:Nat→Nat→Value) (hp:p.spot=none) (hcap:es.length≤cap)
   (hrow: ∀(i:Nat) row,es[i]? =some row→row.length=sz)
   (hcell: ∀(i:Nat) row (j:Nat) c,es[i]? =some row→row[j]? =some c→
     E.w.cell? ⟨p.block,p.off+i*sz+j,none⟩=some (f i j)∧(f i j).oneCell'=true∧ ¬E.own p.block∧ ¬E.O p.block)
   (hR: ∀(i:Nat) row (j:Nat) c,es[i]? =some row→row[j]? =some c→R E c (f i j)):R E (.isl es) (.slice (some p) es.length cap)
 |isl0 (a:Option Addr) (cap:Nat):R E (.isl []) (.slice a 0 cap)
 | iptr (es:List (List V)) (i0 j0:Nat) (p:Addr) (sz:Nat) (f:Nat→Nat→Value) (hp:p.spot=none)
   (hrow: ∀(i:Nat) row,es[i]? =some row→row.length=sz)
   (hcell: ∀(i:Nat) row (j:Nat) c,es[i]? =some row→row[j]? =some c→
     E.w.cell? ⟨p.block,p.off+i*sz+j,none⟩=some (f i j)∧(f i j).oneCell'=true∧ ¬E.own p.block∧ ¬E.O p.block)
   (hR: ∀(i:Nat) row (j:Nat) c,es[i]? =some row→row[j]? =some c→R E c (f i j)):
   R E (.iptr es i0 j0) (.pointer (some ⟨p.block,p.off+i0*sz+j0,none⟩))
 |nilm:R E .nilm (.map none)
 |mp (b st:Nat) (h:st<E.n):R E (.mp b st) (.map (some (E.ρ st).blk))
 | fn (f:FuncId) (cs:List V) (vs:Array Value) (hl:cs.length=vs.size)
   (hR: ∀(i:Nat) c v,cs[i]? =some c→vs[i]? =some v→R E c v):R E (.fn f cs) (.func (.func f) #[] vs)
 |yld (b st:Nat) (h:st<E.n):R E (.yld b st) (.func (.yield (E.ρ st).blk) #[] #[])
 |cst (v:Value):R E (.cst v) v
 |err (t:TypeId) (v:Value):R E .err (.iface t v)
 |anyi (k:IntKind) (n:Int):R E (.anyi k) (.int k n)
structure Wd(w w':World):Prop where
 size:w.heap.size≤w'.heap.size
 os:w'.os=w.os
 out:w'.output=w.output
theorem Wd.refl(w:World):Wd w w:=⟨Nat.le_refl _,rfl,rfl⟩
theorem Wd.trans{w w' w'':World}(h:Wd w w')(h':Wd w' w''):Wd w w'':=⟨Nat.le_trans h.size h'.size,h'.os.trans h.os,h'.out.trans h.out⟩
theorem Wd.alloc(w:World)(ob:Obj):Wd w (w.alloc ob):=⟨by simp,rfl,rfl⟩
theorem Wd.drew(w:World):Wd w w.drew:=⟨Nat.le_refl _,rfl,rfl⟩
theorem Wd.setObj(w:World)(b:Nat)(ob:Obj):Wd w {w with heap:=w.heap.setIfInBounds b ob}:=⟨by simp,rfl,rfl⟩
structure Ext(E E':Env):Prop where
 O:E'.O=E.O
 n:E.n≤E'.n
 ρ: ∀st,st<E.n→E'.ρ st=E.ρ st
 wd:Wd E.w E'.w
 blk: ∀x,x<E.w.heap.size→ ¬E.own x→E'.w.heap[x]? =E.w.heap[x]? ∧ ¬E'.own x
theorem Ext.size{E E':Env}(h:Ext E E'):E.w.heap.size≤E'.w.heap.size:=h.wd.size
theorem Ext.refl(E:Env):Ext E E:=⟨rfl,Nat.le_refl _,fun _ _=>rfl,Wd.refl _,fun _ _ h=>⟨rfl,h⟩⟩
theorem Ext.trans{E E' E'':Env}(h:Ext E E')(h':Ext E' E''):Ext E E'':=
 ⟨h'.O.trans h.O,Nat.le_trans h.n h'.n,fun st hs=>(h'.ρ st (Nat.lt_of_lt_of_le hs h.n)).trans (h.ρ st hs),h.wd.trans h'.wd,
  fun x hx ho=>⟨(h'.blk x (Nat.lt_of_lt_of_le hx h.size) (h.blk x hx ho).2).1.trans (h.blk x hx ho).1,(h'.blk x (Nat.lt_of_lt_of_le hx h.size) (h.blk x hx ho).2).2⟩⟩
structure Imm(E E':Env):Prop where
 n:E.n≤E'.n
 ρ: ∀st,st<E.n→E'.ρ st=E.ρ st
 size:E.w.heap.size≤E'.w.heap.size
 blk: ∀x,x<E.w.heap.size→ ¬E.own x→ ¬E.O x→E'.w.heap[x]? =E.w.heap[x]? ∧ ¬E'.own x∧ ¬E'.O x
theorem Ext.imm{E E':Env}(h:Ext E E'):Imm E E':=⟨h.n,h.ρ,h.size,fun x hx ho hO=>⟨(h.blk x hx ho).1,(h.blk x hx ho).2,by rw [h.O];exact hO⟩⟩
theorem R.monoI{E E':Env}(hx:Imm E E'){v:V}{x:Value}(h:R E v x):R E' v x:=by
 induction h with
 |undef v=>exact .undef v
 |bool b=>exact .bool b
 |int k n=>exact .int k n
 |str s=>exact .str s
 |agg cs vs hl h1 _ ih=>exact .agg cs vs hl h1 ih
 |tup cs vs hl _ ih=>exact .tup cs vs hl ih
 |nilp=>exact .nilp
 |ptr b st i j h=>rw [←hx.ρ st h];exact .ptr b st i j (Nat.lt_of_lt_of_le h hx.n)
 |nils=>exact .nils
 |sl b st i n cap h hn hc=>
  rw [←hx.ρ st h]
  rw [←hx.ρ st h]at hc
  exact .sl b st i n cap (Nat.lt_of_lt_of_le h hx.n) hn hc
 |sl0 b st i a=>exact .sl0 b st i a
 |isl es p cap sz f hp hcap hrow hcell _ ih=>
  refine .isl es p cap sz f hp hcap hrow (fun i row j c h1 h2=> ?_) ih
  obtain⟨hc,h1c,ho,hO⟩:=hcell i row j c h1 h2
  have hb:=hx.blk p.block (World.block_lt_of_cell? E.w ⟨p.block,p.off+i*sz+j,none⟩ hc) ho hO
  exact⟨(World.cell?_of_block (a:=⟨p.block,p.off+i*sz+j,none⟩) hb.1).trans hc,h1c,hb.2⟩
 |isl0 a cap=>exact .isl0 a cap
 |iptr es i0 j0 p sz f hp hrow hcell _ ih=>
  refine .iptr es i0 j0 p sz f hp hrow (fun i row j c h1 h2=> ?_) ih
  obtain⟨hc,h1c,ho,hO⟩:=hcell i row j c h1 h2
  have hb:=hx.blk p.block (World.block_lt_of_cell? E.w ⟨p.block,p.off+i*sz+j,none⟩ hc) ho hO
  exact⟨(World.cell?_of_block (a:=⟨p.block,p.off+i*sz+j,none⟩) hb.1).trans hc,h1c,hb.2⟩
 |nilm=>exact .nilm
 |mp b st h=>rw [←hx.ρ st h];exact .mp b st (Nat.lt_of_lt_of_le h hx.n)
 |yld b st h=>rw [←hx.ρ st h];exact .yld b st (Nat.lt_of_lt_of_le h hx.n)
 |fn f cs vs hl _ ih=>exact .fn f cs vs hl ih
 |cst v=>exact .cst v
 |err t v=>exact .err t v
 |anyi k n=>exact .anyi k n
theorem R.mono{E E':Env}(hx:Ext E E'){v:V}{x:Value}(h:R E v x):R E' v x:=h.monoI hx.imm
abbrev A2Y(w:World)(O:Nat→Prop):Env:=⟨w,fun _=>False,O,fun _=>default,0⟩
theorem R.back{E:Env}{w:World}{O':Nat→Prop}(hw:E.w=w)(hO: ∀x,¬O' x→ ¬E.own x∧ ¬E.O x){v:V}{x:Value}(h:R (A2Y w O') v x):R E v x:=by
 subst hw
 induction h with
 |undef v=>exact .undef v
 |bool b=>exact .bool b
 |int k n=>exact .int k n
 |str s=>exact .str s
 |agg cs vs hl h1 _ ih=>exact .agg cs vs hl h1 ih
 |tup cs vs hl _ ih=>exact .tup cs vs hl ih
 |nilp=>exact .nilp
 |ptr b st i j h=>exact absurd h (Nat.not_lt_zero _)
 |nils=>exact .nils
 |sl b st i n cap h hn hc=>exact absurd h (Nat.not_lt_zero _)
 |sl0 b st i a=>exact .sl0 b st i a
 | isl es p cap sz f hp hcap hrow hcell _ ih=>
  exact .isl es p cap sz f hp hcap hrow (fun i row j c h1 h2=>by
   obtain⟨q1,q2,_,q4⟩:=hcell i row j c h1 h2
   exact⟨q1,q2,hO _ q4⟩) ih
 |isl0 a cap=>exact .isl0 a cap
 | iptr es i0 j0 p sz f hp hrow hcell _ ih=>
  exact .iptr es i0 j0 p sz f hp hrow (fun i row j c h1 h2=>by
   obtain⟨q1,q2,_,q4⟩:=hcell i row j c h1 h2
   exact⟨q1,q2,hO _ q4⟩) ih
 |nilm=>exact .nilm
 |mp b st h=>exact absurd h (Nat.not_lt_zero _)
 |yld b st h=>exact absurd h (Nat.not_lt_zero _)
 |fn f cs vs hl _ ih=>exact .fn f cs vs hl ih
 |cst v=>exact .cst v
 |err t v=>exact .err t v
 |anyi k n=>exact .anyi k n
def B1N:List (Nat×List V):= [(2,[.int .u8 0,.int .u8 0,.int .u8 0,.int .u8 0,.int .u8 0,.int .u8 0,.int .u8 0,.int .u8 0,.int .u8 0,.int .u8 1,.int .u8 1,.int .u8 1,.int .u8 1,.int .u8 1,.int .u8 0,.int .u8 0,.int .u8 0,.int .u8 0,.int .u8 0,.int .u8 0,.int .u8 0,.int .u8 0,.int .u8 0,.int .u8 0,.int .u8 0,.int .u8 0,.int .u8 0,.int .u8 0,.int .u8 0,.int .u8 0,.int .u8 0,.int .u8 0,.int .u8 1,.int .u8 0,.int .u8 0,.int .u8 0,.int .u8 0,.int .u8 0,.int .u8 0,.int .u8 0,.int .u8 0,.int .u8 0,.int .u8 0,.int .u8 0,.int .u8 0,.int .u8 0,.int .u8 0,.int .u8 0,.int .u8 0,.int .u8 0,.int .u8 0,.int .u8 0,.int .u8 0,.int .u8 0,.int .u8 0,.int .u8 0,.int .u8 0,.int .u8 0,.int .u8 0,.int .u8 0,.int .u8 0,.int .u8 0,.int .u8 0,.int .u8 0,.int .u8 0,.int .u8 0,.int .u8 0,.int .u8 0,.int .u8 0,.int .u8 0,.int .u8 0,.int .u8 0,.int .u8 0,.int .u8 0,.int .u8 0,.int .u8 0,.int .u8 0,.int .u8 0,.int .u8 0,.int .u8 0,.int .u8 0,.int .u8 0,.int .u8 0,.int .u8 0,.int .u8 0,.int .u8 0,.int .u8 0,.int .u8 0,.int .u8 0,.int .u8 0,.int .u8 0,.int .u8 0,.int .u8 0,.int .u8 0,.int .u8 0,.int .u8 0,.int .u8 0,.int .u8 0,.int .u8 0,.int .u8 0,.int .u8 0,.int .u8 0,.int .u8 0,.int .u8 0,.int .u8 0,.int .u8 0,.int .u8 0,.int .u8 0,.int .u8 0,.int .u8 0,.int .u8 0,.int .u8 0,.int .u8 0,.int .u8 0,.int .u8 0,.int .u8 0,.int .u8 0,.int .u8 0,.int .u8 0,.int .u8 0,.int .u8 0,.int .u8 0,.int .u8 0,.int .u8 0,.int .u8 0,.int .u8 0,.int .u8 0,.int .u8 0,.int .u8 0,.int .u8 0,.int .u8 0,.int .u8 0,.int .u8 0,.int .u8 0,.int .u8 0,.int .u8 0,.int .u8 0,.int .u8 0,.int .u8 0,.int .u8 0,.int .u8 0,.int .u8 0,.int .u8 0,.int .u8 0,.int .u8 0,.int .u8 0,.int .u8 0,.int .u8 0,.int .u8 0,.int .u8 0,.int .u8 0,.int .u8 0,.int .u8 0,.int .u8 0,.int .u8 0,.int .u8 0,.int .u8 0,.int .u8 0,.int .u8 0,.int .u8 0,.int .u8 0,.int .u8 0,.int .u8 0,.int .u8 0,.int .u8 0,.int .u8 0,.int .u8 0,.int .u8 0,.int .u8 0,.int .u8 0,.int .u8 0,.int .u8 0,.int .u8 0,.int .u8 0,.int .u8 0,.int .u8 0,.int .u8 0,.int .u8 0,.int .u8 0,.int .u8 0,.int .u8 0,.int .u8 0,.int .u8 0,.int .u8 0,.int .u8 0,.int .u8 0,.int .u8 0,.int .u8 0,.int .u8 0,.int .u8 0,.int .u8 0,.int .u8 0,.int .u8 0,.int .u8 0,.int .u8 0,.int .u8 0,.int .u8 0,.int .u8 0,.int .u8 0,.int .u8 0,.int .u8 0,.int .u8 0,.int .u8 0,.int .u8 0,.int .u8 0,.int .u8 0,.int .u8 0,.int .u8 0,.int .u8 0,.int .u8 0,.int .u8 0,.int .u8 0,.int .u8 0,.int .u8 0,.int .u8 0,.int .u8 0,.int .u8 0,.int .u8 0,.int .u8 0,.int .u8 0,.int .u8 0,.int .u8 0,.int .u8 0,.int .u8 0,.int .u8 0,.int .u8 0,.int .u8 0,.int .u8 0,.int .u8 0,.int .u8 0,.int .u8 0,.int .u8 0,.int .u8 0,.int .u8 0,.int .u8 0,.int .u8 0,.int .u8 0,.int .u8 0,.int .u8 0,.int .u8 0,.int .u8 0,.int .u8 0,.int .u8 0,.int .u8 0,.int .u8 0,.int .u8 0,.int .u8 0,.int .u8 0,.int .u8 0,.int .u8 0,.int .u8 0,.int .u8 0,.int .u8 0,.int .u8 0,.int .u8 0,.int .u8 0]),(1,[.int .u64 1,.int .u64 10,.int .u64 100,.int .u64 1000,.int .u64 10000,.int .u64 100000,.int .u64 1000000,.int .u64 10000000,.int .u64 100000000,.int .u64 1000000000,.int .u64 10000000000,.int .u64 100000000000,.int .u64 1000000000000,.int .u64 10000000000000,.int .u64 100000000000000,.int .u64 1000000000000000,.int .u64 10000000000000000,.int .u64 100000000000000000,.int .u64 1000000000000000000,.int .u64 10000000000000000000]),(0,[.anyi .i64]),(6,[.err]),(7,[.err])]
def B1Y:List (Nat×List V)→Nat→Option (List V)
 | [],_=>none
 |e::r,g=>bif Nat.beq e.1 g then some e.2 else B1Y r g
theorem A9C{g:Nat}{c:List V}: ∀{l:List (Nat×List V)},B1Y l g=some c→(g,c)∈l
 | [],h=>by cases h
 | e::r,h=>by
  simp only [B1Y]at h
  cases hb:Nat.beq e.1 g with
  |true=>
   rw [hb]at h;injection h with h
   rw [←Nat.eq_of_beq_eq_true hb,←h];exact List.mem_cons_self
  |false=>rw [hb]at h;exact List.mem_cons_of_mem _ (A9C h)
def D0D(g:Nat):V:=match B1Y B1N g with
 |some c=> .iptr [c] 0 0
 |none=> .undef
def GlR(E:Env):Prop:= ∀e∈B1N,(∃cs t z,E.w.heap[e.1]? =some (.cells cs t z)∧cs.size=e.2.length∧ ¬E.own e.1∧ ¬E.O e.1)∧ ∀(j:Nat) c,e.2[j]? =some c→
 ∃x,E.w.cell? ⟨e.1,j,none⟩=some x∧x.oneCell'=true∧ ¬E.own e.1∧ ¬E.O e.1∧R (A2Y E.w fun x=>E.own x∨E.O x) c x
theorem GlR.to{E E':Env}(h:GlR E)(hs:E.w.heap.size≤E'.w.heap.size)(hb: ∀x,x<E.w.heap.size→ ¬E.own x→ ¬E.O x→E'.w.heap[x]? =E.w.heap[x]? ∧ ¬E'.own x∧ ¬E'.O x):GlR E':=by
 intro e he
 obtain⟨⟨cs,t,z,hh1,hh2,hh3,hh4⟩,h⟩:=h e he
 have hh:=hb e.1 (Array.getElem?_eq_some_iff.1 hh1).1 hh3 hh4
 refine⟨⟨cs,t,z,hh.1.trans hh1,hh2,hh.2.1,hh.2.2⟩,fun j c hj=> ?_⟩
 obtain⟨x,h1,h2,h3,h4,h5⟩:=h j c hj
 obtain⟨b1,b2,b3⟩:=hb e.1 (World.block_lt_of_cell? E.w ⟨e.1,j,none⟩ h1) h3 h4
 refine⟨x,(World.cell?_of_block (a:=⟨e.1,j,none⟩) b1).trans h1,h2,b2,b3,R.monoI (E:=A2Y E.w fun x=>E.own x∨E.O x) (E':=A2Y E'.w fun x=>E'.own x∨E'.O x) ⟨Nat.le_refl _,fun st h=>absurd h (Nat.not_lt_zero _),hs,fun y hy _ hO=> ?_⟩ h5⟩
 obtain⟨q1,q2,q3⟩:=hb y hy (fun h=>hO (.inl h)) (fun h=>hO (.inr h))
 exact⟨q1,fun h=>h,fun h=>h.elim q2 q3⟩
theorem GlR.mono{E E':Env}(hx:Imm E E')(h:GlR E):GlR E':=h.to hx.size hx.blk
theorem GlR.val{E:Env}(h:GlR E){g:Nat}{c:List V}(hg:B1Y B1N g=some c):R E (.iptr [c] 0 0) (.pointer (some ⟨g,0,none⟩)):=by
 have hm:=A9C hg
 have one: ∀(i:Nat) row,[c][i]? =some row→i=0∧row=c:=fun i row hi=>by
  cases i with
  |zero=>simp at hi;exact⟨rfl,hi.symm⟩
  |succ i=>simp at hi
 have key:=R.iptr (E:=E) [c] 0 0 ⟨g,0,none⟩ c.length (fun _ j=>(E.w.cell? ⟨g,j,none⟩).getD Go.undef) rfl (fun i row hi=>by rw [(one i row hi).2]) (fun i row j c' hi hj=>by
  obtain⟨rfl,rfl⟩:=one i row hi
  obtain⟨x,h1,h2,h3,h4,_⟩:=(h _ hm).2 j c' hj
  have e:(⟨g,0+0*row.length+j,none⟩:Addr)=⟨g,j,none⟩:=by simp
  simp only [e]
  simp only at h1
  rw [h1]
  exact⟨rfl,h2,h3,h4⟩) (fun i row j c' hi hj=>by
  obtain⟨rfl,rfl⟩:=one i row hi
  obtain⟨x,h1,h2,h3,h4,h5⟩:=(h _ hm).2 j c' hj
  simp only at h1
  rw [h1]
  exact R.back rfl (fun y hy=>⟨fun h=>hy (.inl h),fun h=>hy (.inr h)⟩) h5)
 simpa using key
def E0:List (Nat×V)→Nat→V
 | [],_=> .undef
 |p::r,i=>bif Nat.beq p.1 i then p.2 else E0 r i
inductive Blk where
 |rows (sz:Nat) (rs:List (List V))
 |map (es:List (V×V))
 |loop (N:Nat) (sl:List (Nat×V)) (ps:List Nat) (p:Code→Code→Prop) (s:LoopState) (pend:Option Code)
 |mapb (es:List (V×V)) (bs:List Nat) (ck:Nat)
 |iter (mst:Nat) (es:List (V×V)) (bs:List Nat) (ck:Nat) (left:List (Nat×V×V)) (last:Option (V×V))
 |raw (rs:List (List V))
 |tb (T:TypeId) (sz:Nat) (rs:List (List V))
 |fz (T:TypeId) (l:List Value)
 deriving Inhabited
abbrev A2:=List (Nat×Nat×Blk)
def Own(ρ:Nat→Loc)(h:A2)(x:Nat):Prop:= ∃e∈h,(ρ e.2.1).cap≠0∧(ρ e.2.1).blk=x
abbrev A4(w:World)(O:Nat→Prop)(ρ:Nat→Loc)(n:Nat)(h:A2):Env:=⟨w,Own ρ h,O,ρ,n⟩
def A2D(E:Env)(blk off:Nat)(row:List V):Prop:=
 ∀(j:Nat) c,row[j]? =some c→ ∃x,E.w.cell? ⟨blk,off+j,none⟩=some x∧x.oneCell'=true∧R E c x
def A9X(E:Env)(st sz:Nat)(rs:List (List V)):Prop:=
 (E.ρ st).sz=sz∧rs.length≤(E.ρ st).cap∧
   ((E.ρ st).cap≠0→(∀j,j<(E.ρ st).cap*sz→(E.w.cell? ⟨(E.ρ st).blk,(E.ρ st).off+j,none⟩).isSome=true∧E.w.frozen? ⟨(E.ρ st).blk,(E.ρ st).off+j,none⟩=false)∧(E.ρ st).blk<E.w.heap.size)∧
   ∀(i:Nat) row,rs[i]? =some row→row.length=sz∧A2D E (E.ρ st).blk ((E.ρ st).off+i*sz) row
def B0x(E:Env)(st:Nat):Blk→Prop
 | .rows sz rs=>(E.ρ st).sz=sz∧rs.length≤(E.ρ st).cap∧
   ((E.ρ st).cap≠0→(∀j,j<(E.ρ st).cap*sz→(E.w.cell? ⟨(E.ρ st).blk,(E.ρ st).off+j,none⟩).isSome=true∧E.w.frozen? ⟨(E.ρ st).blk,(E.ρ st).off+j,none⟩=false)∧(E.ρ st).blk<E.w.heap.size)∧
   ∀(i:Nat) row,rs[i]? =some row→row.length=sz∧A2D E (E.ρ st).blk ((E.ρ st).off+i*sz) row
 | .map es=>(E.ρ st).cap≠0∧ ∃(mes:Array MapEntry) (clock:Nat),E.w.heap[(E.ρ st).blk]? =some (.map mes clock)∧mes.size=es.length∧
   (∀(i:Nat) p m,es[i]? =some p→mes[i]? =some m→R E p.1 m.key∧R E p.2 m.val∧m.born<clock)∧
   (∀(i j:Nat) m m',mes[i]? =some m→mes[j]? =some m'→m.born=m'.born→i=j)
 | .loop N sl ps p s pend=>(E.ρ st).cap≠0∧(∀i∈ps,i<N)∧ ∃r:Loop,E.w.heap[(E.ρ st).blk]? =some (.loop r)∧r.state=s∧r.pending=pend∧r.params.toList=ps∧r.tmps.size=N∧
   (∀i,R E (E0 sl i) (r.tmps.getD i Go.undef))∧p r.assign r.body
 | .mapb es bs ck=>(E.ρ st).cap≠0∧ ∃(mes:Array MapEntry),E.w.heap[(E.ρ st).blk]? =some (.map mes ck)∧mes.size=es.length∧bs=mes.toList.map (·.born)∧
   (∀(i:Nat) p m,es[i]? =some p→mes[i]? =some m→R E p.1 m.key∧R E p.2 m.val∧m.born<ck)∧
   (∀(i j:Nat) m m',mes[i]? =some m→mes[j]? =some m'→m.born=m'.born→i=j)
 | .iter mst es bs ck left last=>(E.ρ st).cap≠0∧(E.ρ st).off=0∧mst<E.n∧ ∃sn:Array Nat,E.w.heap[(E.ρ st).blk]? =some (.mapIter (some (E.ρ mst).blk) ck sn ck)∧
   left=(bs.zip es).filter (fun e=> !sn.contains e.1)∧ ∀p,last=some p→ ∃(i:Nat) (c:Nat),es[i]? =some p∧bs[i]? =some c∧sn.back? =some c
 | .raw rs=>(E.ρ st).cap≠0∧((E.ρ st).off=0∧(E.ρ st).sz=1∧rs.length=(E.ρ st).cap)∧(∃cs el,E.w.heap[(E.ρ st).blk]? =some (.cells cs el)∧cs.size=(E.ρ st).cap)∧
   ∀(i:Nat) row,rs[i]? =some row→row.length=1∧A2D E (E.ρ st).blk ((E.ρ st).off+i*1) row
 | .tb T sz rs=>A9X E st sz rs∧(E.ρ st).off=0∧((E.ρ st).cap≠0→ ∃c,E.w.shape? (E.ρ st).blk=some (T,c)∧(E.ρ st).cap*sz≤c∧(sz≠1→c=rs.length*sz))
 | .fz T l=>(E.ρ st).cap≠0∧(E.ρ st).off=0∧ ∃cs hi,E.w.heap[(E.ρ st).blk]? =some (.cells cs T (0,hi))∧(E.ρ st).cap≤cs.size∧l.length≤hi∧ ∀(j:Nat) x,l[j]? =some x→cs[j]? =some x
structure HeapR(w:World)(O:Nat→Prop)(ρ:Nat→Loc)(n:Nat)(h:A2):Prop where
 lt: ∀e∈h,e.2.1<n
 inj: ∀e∈h,∀e'∈h,e.1≠e'.1→(ρ e.2.1).cap≠0→(ρ e'.2.1).cap≠0→(ρ e.2.1).blk≠(ρ e'.2.1).blk
 out: ∀x,O x→x<w.heap.size
 notO: ∀e∈h,(ρ e.2.1).cap≠0→ ¬O (ρ e.2.1).blk
 blk: ∀e∈h,B0x (A4 w O ρ n h) e.2.1 e.2.2
 gl:GlR (A4 w O ρ n h)
theorem A9X.monoI{E E':Env}(hx:Imm E E'){st sz:Nat}{rs:List (List V)}(hst:st<E.n)(hb:(E.ρ st).cap≠0→E'.w.heap[(E.ρ st).blk]? =E.w.heap[(E.ρ st).blk]?)(h:A9X E st sz rs):A9X E' st sz rs:=by
 have hρ:=hx.ρ st hst
 obtain⟨h1,h2,h3,h4⟩:=h
 refine⟨by rw [hρ];exact h1,by rw [hρ];exact h2,?_,?_⟩
 ·rw [hρ]
  intro hc
  obtain⟨h5,h6⟩:=h3 hc
  refine⟨fun j hj=> ?_,Nat.lt_of_lt_of_le h6 hx.size⟩
  rw [World.cell?_of_block (a:=⟨(E.ρ st).blk,(E.ρ st).off+j,none⟩) (hb hc),World.frozen?_of_block (a:=⟨(E.ρ st).blk,(E.ρ st).off+j,none⟩) (hb hc)]
  exact h5 j hj
 ·intro i row hi
  obtain⟨h5,h6⟩:=h4 i row hi
  refine⟨h5,fun j c hj=> ?_⟩
  obtain⟨x,hx1,hx2,hx3⟩:=h6 j c hj
  refine⟨x,?_,hx2,hx3.monoI hx⟩
  rw [hρ]
  have hc:(E.ρ st).cap≠0:=by
   have:=(List.getElem?_eq_some_iff.1 hi).1
   omega
  rw [World.cell?_of_block (a:=⟨(E.ρ st).blk,(E.ρ st).off+i*sz+j,none⟩) (hb hc)]
  exact hx1
theorem B0x.monoI{E E':Env}(hx:Imm E E'){st:Nat}{b:Blk}(hst:st<E.n)(hb:(E.ρ st).cap≠0→E'.w.heap[(E.ρ st).blk]? =E.w.heap[(E.ρ st).blk]?)(h:B0x E st b):B0x E' st b:=by
 have hρ:=hx.ρ st hst
 cases b with
 |rows sz rs=>exact A9X.monoI hx hst hb h
 |fz T l=>obtain⟨h1,h2,cs,hi,h3,h4⟩:=h;exact⟨by rw [hρ];exact h1,by rw [hρ];exact h2,cs,hi,by rw [hρ,hb h1];exact h3,by rw [hρ];exact h4⟩
 |tb T sz rs=>exact⟨A9X.monoI hx hst hb h.1,by rw [hρ];exact h.2.1,fun hc=>by rw [hρ]at hc⊢;simp only [World.shape?,hb hc];exact h.2.2 hc⟩
 |map es=>
  obtain⟨h1,mes,clock,h2,h3,h4,h5⟩:=h
  refine⟨by rw [hρ];exact h1,mes,clock,by rw [hρ,hb h1];exact h2,h3,fun i p m hp hm=> ?_,h5⟩
  obtain⟨a,b,c⟩:=h4 i p m hp hm
  exact⟨a.monoI hx,b.monoI hx,c⟩
 |loop N sl ps p s pend=>
  obtain⟨h1,h0,r,h2,h3,h4,h5,h6,h7,h8⟩:=h
  exact⟨by rw [hρ];exact h1,h0,r,by rw [hρ,hb h1];exact h2,h3,h4,h5,h6,fun i=>(h7 i).monoI hx,h8⟩
 |mapb es bs ck=>
  obtain⟨h1,mes,h2,h3,h0,h4,h5⟩:=h
  refine⟨by rw [hρ];exact h1,mes,by rw [hρ,hb h1];exact h2,h3,h0,fun i p m hp hm=> ?_,h5⟩
  obtain⟨a,b,c⟩:=h4 i p m hp hm
  exact⟨a.monoI hx,b.monoI hx,c⟩
 |iter mst es bs ck left last=>
  obtain⟨h1,h2,h3,sn,h4,h5⟩:=h
  exact⟨by rw [hρ];exact h1,by rw [hρ];exact h2,Nat.lt_of_lt_of_le h3 hx.n,sn,by rw [hρ,hb h1,hx.ρ mst h3];exact h4,h5⟩
 |raw rs=>
  obtain⟨h1,h2,⟨cs,el,h3,h4⟩,h5⟩:=h
  refine⟨by rw [hρ];exact h1,by rw [hρ];exact h2,⟨cs,el,by rw [hρ,hb h1];exact h3,by rw [hρ];exact h4⟩,fun i row hi=> ?_⟩
  obtain⟨h6,h7⟩:=h5 i row hi
  refine⟨h6,fun j c hj=> ?_⟩
  obtain⟨x,hx1,hx2,hx3⟩:=h7 j c hj
  refine⟨x,?_,hx2,hx3.monoI hx⟩
  rw [hρ,World.cell?_of_block (a:=⟨(E.ρ st).blk,(E.ρ st).off+i*1+j,none⟩) (hb h1)]
  exact hx1
theorem B0x.mono{E E':Env}(hx:Ext E E'){st:Nat}{b:Blk}(hst:st<E.n)(hb:(E.ρ st).cap≠0→E'.w.heap[(E.ρ st).blk]? =E.w.heap[(E.ρ st).blk]?)(h:B0x E st b):B0x E' st b:=h.monoI hx.imm hst hb
theorem HeapR.drop{w:World}{O:Nat→Prop}{ρ:Nat→Loc}{n:Nat}{h h':A2}(hr:HeapR w O ρ n h)(hs: ∀e∈h',e∈h):HeapR w O ρ n h'∧Ext (A4 w O ρ n h) (A4 w O ρ n h'):=by
 have hx:Ext (A4 w O ρ n h) (A4 w O ρ n h'):=
  ⟨rfl,Nat.le_refl _,fun _ _=>rfl,Wd.refl _,fun x _ ho=>⟨rfl,fun⟨e,he,hc⟩=>ho ⟨e,hs e he,hc⟩⟩⟩
 exact⟨⟨fun e he=>hr.lt e (hs e he),fun e he e' he'=>hr.inj e (hs e he) e' (hs e' he'),hr.out,fun e he=>hr.notO e (hs e he),fun e he=>(hr.blk e (hs e he)).mono hx (hr.lt e (hs e he)) fun _=>rfl,hr.gl.mono hx.imm⟩,hx⟩
def A2.del(h:A2)(b:Nat):A2:=h.filter fun e=> !(Nat.beq e.1 b)
def A2.put(h:A2)(b st:Nat)(x:Blk):A2:=(b,st,x)::A2.del h b
def A2.get(h:A2)(b st:Nat):Option Blk:=
 match h with
 | []=>none
 |e::r=>bif Nat.beq e.1 b then(if e.2.1=st then some e.2.2 else none)else A2.get r b st
theorem A2.mem_del{h:A2}{b:Nat}{e:Nat×Nat×Blk}:e∈A2.del h b↔e∈h∧e.1≠b:=by
 simp only [A2.del,List.mem_filter,Bool.not_eq_true']
 refine and_congr_right fun _=> ?_
 constructor
 ·intro h1 h2;rw [h2,Nat.beq_refl]at h1;cases h1
 ·intro h1;cases h2:Nat.beq e.1 b with
  |false=>rfl
  |true=>exact(h1 (Nat.eq_of_beq_eq_true h2)).elim
theorem A2.mem_of_get{h:A2}{b st:Nat}{x:Blk}(hg:A2.get h b st=some x):(b,st,x)∈h:=by
 induction h with
 |nil=>cases hg
 | cons e r ih=>
  simp only [A2.get]at hg
  cases hb:Nat.beq e.1 b with
  | true=>
   simp only [hb,cond_true]at hg
   split at hg
   ·rename_i h1
    injection hg with h2
    have h3:=Nat.eq_of_beq_eq_true hb
    obtain⟨a,b',c⟩:=e
    subst h1;subst h2;subst h3
    exact List.mem_cons_self ..
   ·cases hg
  |false=>
   simp only [hb,cond_false]at hg
   exact List.mem_cons_of_mem _ (ih hg)
theorem HeapR.step{w w':World}{O:Nat→Prop}{ρ ρ':Nat→Loc}{n n':Nat}{h:A2}{b st:Nat}{x:Blk}(hr:HeapR w O ρ n h)
  (hn:n≤n') (hρ: ∀st,st<n→ρ' st=ρ st) (hst:st<n')
  (hwd:Wd w w')
  (hkeep: ∀y,y<w.heap.size→(y=(ρ' st).blk→(ρ' st).cap=0)→w'.heap[y]? =w.heap[y]?)
  (hloc:(ρ' st).cap=0∨w.heap.size≤(ρ' st).blk∨ ∃e∈h,e.1=b∧(ρ e.2.1).cap≠0∧(ρ e.2.1).blk=(ρ' st).blk)
  (hb:Ext (A4 w O ρ n h) (A4 w' O ρ' n' (A2.put h b st x))→B0x (A4 w' O ρ' n' (A2.put h b st x)) st x):
  HeapR w' O ρ' n' (A2.put h b st x)∧Ext (A4 w O ρ n h) (A4 w' O ρ' n' (A2.put h b st x)):=by
 have hsize:=hwd.size
 have hreal: ∀e∈h,(ρ e.2.1).cap≠0→(ρ e.2.1).blk<w.heap.size:=by
  intro e he hc
  have:=hr.blk e he
  cases hx:e.2.2 with
  |rows sz rs=>rw [hx]at this;exact(this.2.2.1 hc).2
  |map es=>rw [hx]at this;obtain⟨_,mes,clock,h2,_⟩:=this;exact(Array.getElem?_eq_some_iff.1 h2).1
  |loop N sl ps p s pend=>rw [hx]at this;obtain⟨_,_,r,h2,_⟩:=this;exact(Array.getElem?_eq_some_iff.1 h2).1
  |mapb es bs ck=>rw [hx]at this;obtain⟨_,mes,h2,_⟩:=this;exact(Array.getElem?_eq_some_iff.1 h2).1
  |iter mst es bs ck left last=>rw [hx]at this;obtain⟨_,_,_,sn,h2,_⟩:=this;exact(Array.getElem?_eq_some_iff.1 h2).1
  |raw rs=>rw [hx]at this;obtain⟨_,_,⟨cs,el,h2,_⟩,_⟩:=this;exact(Array.getElem?_eq_some_iff.1 h2).1
  |tb T sz rs=>rw [hx]at this;exact(this.1.2.2.1 hc).2
  |fz T l=>rw [hx]at this;obtain⟨_,_,cs,hi,h2,_⟩:=this;exact(Array.getElem?_eq_some_iff.1 h2).1
 have hother: ∀e∈h,e.1≠b→(ρ e.2.1).cap≠0→(ρ' st).cap≠0→(ρ e.2.1).blk≠(ρ' st).blk:=by
  intro e he hne hc hc' heq
  rcases hloc with h1|h1|⟨e',he',hb',hc2,hbk⟩
  ·exact hc' h1
  ·have:=hreal e he hc;omega
  ·exact(hr.inj e he e' he' (fun h=>hne (h.trans hb'))) hc hc2 (heq.trans hbk.symm)
 have hx:Ext (A4 w O ρ n h) (A4 w' O ρ' n' (A2.put h b st x)):=by
  refine⟨rfl,hn,hρ,hwd,fun y hy ho=>⟨hkeep y hy (fun hyb=> ?_),?_⟩⟩
  ·rcases hloc with h1|h1|⟨e',he',_,hc2,hbk⟩
   ·exact h1
   ·have hy':y<w.heap.size:=hy;omega
   ·exact(ho ⟨e',he',hc2,hbk.trans hyb.symm⟩).elim
  ·rintro⟨e,he,hc,hbk⟩
   rcases List.mem_cons.1 he with rfl|he
   ·rcases hloc with h1|h1|⟨e',he',_,hc2,hbk'⟩
    ·exact hc h1
    ·have hy':y<w.heap.size:=hy
     simp only at hbk
     omega
    ·exact ho ⟨e',he',hc2,hbk'.trans hbk⟩
   ·obtain⟨he,hne⟩:=A2.mem_del.1 he
    have hl:=hr.lt e he
    have hc':(ρ e.2.1).cap≠0:=by rw [←hρ _ hl];exact hc
    have hbk':(ρ e.2.1).blk=y:=by rw [←hρ _ hl];exact hbk
    exact ho ⟨e,he,hc',hbk'⟩
 refine⟨⟨?_,?_,fun x hx=>Nat.lt_of_lt_of_le (hr.out x hx) hsize,?_,?_,hr.gl.mono hx.imm⟩,hx⟩
 ·intro e he
  rcases List.mem_cons.1 he with rfl|he
  ·exact hst
  ·exact Nat.lt_of_lt_of_le (hr.lt e (A2.mem_del.1 he).1) hn
 ·intro e he e' he' hne
  rcases List.mem_cons.1 he with rfl|he<;>rcases List.mem_cons.1 he' with rfl|he'
  ·exact(hne rfl).elim
  ·obtain⟨he',hne'⟩:=A2.mem_del.1 he'
   intro hc hc'
   rw [hρ _ (hr.lt e' he')]at hc'⊢
   exact fun h=>hother e' he' hne' hc' hc h.symm
  ·obtain⟨he,hne'⟩:=A2.mem_del.1 he
   intro hc hc'
   rw [hρ _ (hr.lt e he)]at hc⊢
   exact hother e he hne' hc hc'
  ·obtain⟨he,_⟩:=A2.mem_del.1 he
   obtain⟨he',_⟩:=A2.mem_del.1 he'
   rw [hρ _ (hr.lt e he),hρ _ (hr.lt e' he')]
   exact hr.inj e he e' he' hne
 ·intro e he
  rcases List.mem_cons.1 he with rfl|he
  ·intro hc hO
   rcases hloc with h1|h1|⟨e',he',_,hc2,hbk⟩
   ·exact hc h1
   ·exact absurd (hr.out _ hO) (Nat.not_lt.2 h1)
   ·exact hr.notO e' he' hc2 (hbk ▸ hO)
  ·obtain⟨he,_⟩:=A2.mem_del.1 he
   rw [hρ _ (hr.lt e he)]
   exact hr.notO e he
 ·intro e he
  rcases List.mem_cons.1 he with rfl|he
  ·exact hb hx
  ·obtain⟨he,hne⟩:=A2.mem_del.1 he
   refine(hr.blk e he).mono hx (hr.lt e he) fun hc=> ?_
   refine hkeep _ (hreal e he hc) fun heq=> ?_
   by_cases hc':(ρ' st).cap=0
   ·exact hc'
   ·exact(hother e he hne hc hc' heq).elim
end Go.Abs
