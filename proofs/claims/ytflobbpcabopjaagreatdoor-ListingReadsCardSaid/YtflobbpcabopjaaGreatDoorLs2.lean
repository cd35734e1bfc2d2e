/-
 The lines of a listing: what the program's functions write. No condition.
-/
import Derived.Test.YtflobbpcabopjaaGreatDoorLsL
import Derived.Test.YtflobbpcabopjaaGreatDoorLsS
import Derived.Test.YtflobbpcabopjaaGreatDoorFnMa
set_option linter.unusedVariables false set_option linter.unusedSimpArgs false set_option maxRecDepth 100000
set_option maxHeartbeats 0
namespace Go.Proofs.YtflobbpcabopjaaGreatDoor
section
open Go Go.Abs
attribute [local irreducible] A0 Run
theorem A3d(xs:List (List UInt8))(h0:xs≠ [])(hN:xs.length≤100000)(hlen:(F1 xs).length≤140737488355328):Abs.Pure Tryz.prog 44 [.isl (xs.map fun x=> [.str x])] (.str (F1 xs)):=by
 have hj:=C4E xs h0 hN hlen
 have hsub:(xs.map fun x=> [V.str x]).map (fun r=>r.map (V.sub I6))=xs.map fun x=> [V.str x]:=by simp [V.sub]
 generalize F1 xs=r at*
 generalize (xs.map fun x=> [V.str x])=es at*
 refine Pure.of 0 (A0.enter A6S Jo (Run.go 100 ?_))
 refine Qz ?_
 refine A0.pureF hj (by simp -implicitDefEqProofs only [go_sem,hsub]) ?_
 exact ze
theorem B2g(p q:Int)(h:H1 p q=true):Abs.Pure Tryz.prog 78 [.agg [.int .i64 p,.int .i64 q]] (.str (Z3 p q)):=by
 have hv:=B7L p q
 rw [h]at hv
 obtain⟨hp,hq⟩:=A5u h
 have ip:=D7 p hp.1 hp.2
 have iq:=D7 q hq.1 hq.2
 have lp:=F6 hp
 have lq:=F6 hq
 unfold Z3
 refine Pure.of 0 (A0.enter A6W Jo (Run.go 100 ?_))
 refine Qz ?_
 refine A0.pureF hv ze ?_
 by_cases h1:q=1
 ·subst h1
  refine Qy ?_
  refine A0.pureF ip ze ?_
  exact ze
 ·simp -implicitDefEqProofs only [go_sem,h1]
  refine A0.pureF ip ze ?_
  refine Qy ?_
  refine⟨by omega,?_⟩
  refine A0.pureF iq ze ?_
  simp -implicitDefEqProofs only [go_sem,List.length_append,List.length_cons,List.length_nil,List.append_assoc,List.cons_append,List.nil_append]
  omega
theorem C8j(v:Kst)(h:I0 v=true)(hk:v.kind≤3):Abs.Pure Tryz.prog 46 [.agg v.row] (.str (A2b v)):=by
 obtain⟨kind,p,q,str,ref⟩:=v
 simp only at hk
 refine Pure.of 0 (A0.enter A6U Jo (Run.go 100 ?_))
 by_cases k1:kind=1
 ·subst k1
  have hb:=B3X (decide (ref=1))
  simp only [decide_eq_true_eq]at hb
  simp -implicitDefEqProofs only [go_sem,A3,Kst.row,A2b]
  refine A0.pureF hb ze ?_
  exact ze
 by_cases k2:kind=2
 ·subst k2
  have hn:H1 p q=true:=by simp [I0]at h;exact h.1
  simp -implicitDefEqProofs only [go_sem,A3,Kst.row,A2b]
  refine A0.pureF (B2g p q hn) ze ?_
  exact ze
 by_cases k3:kind=3
 ·subst k3
  have hl:str.length≤4096:=by simp [I0]at h;exact h.1
  simp -implicitDefEqProofs only [go_sem,A3,Kst.row,A2b]
  refine A0.pureF (A1C str zd) ze ?_
  exact ze
 simp -implicitDefEqProofs only [go_sem,A3,Kst.row,A2b,k1,k2,k3]
theorem C4z(p:Fn)(h:p.Okl)(path:List UInt8)(hpl:path.length≤1000000):Abs.Pure Tryz.prog 43 [.agg p.row,.str path] (.str (G5 p path)):=by
 have hq:=A1C p.name (by have:=h.name;omega)
 have i1:=D7 p.line h.nums.1.1 h.nums.1.2
 have i2:=D7 p.params h.nums.2.1.1 h.nums.2.1.2
 have i3:=D7 p.regs h.nums.2.2.1 h.nums.2.2.2
 have hl:=B6Y h path
 unfold G5 at hl⊢
 rw [List.length_append]at hl
 have hj:=A3d [[102,117,110,99],path,D2 p.name,[108,105,110,101],Lib.itoa p.line,[112,97,114,97,109,115],Lib.itoa p.params,[114,101,103,115],Lib.itoa p.regs] zg zg zd
 rw [Fn.row_eq]
 obtain⟨name,line,params,vararg,regs,code,lines,consts,protos,ups,vars⟩:=p
 simp only at*
 generalize F1 [[102,117,110,99],path,D2 name,[108,105,110,101],Lib.itoa line,[112,97,114,97,109,115],Lib.itoa params,[114,101,103,115],Lib.itoa regs]=J at*
 generalize code.map Ins.row=r1 at*
 generalize lines.map E9=r2 at*
 generalize consts.map Kst.row=r3 at*
 generalize protos.map Fn.row=r4 at*
 generalize ups.map Upv.row=r5 at*
 generalize vars.map Vr.row=r6 at*
 refine Pure.of 0 (A0.enter A2p Jo (Run.go 100 ?_))
 refine Qz ?_
 refine A0.pureF hq ze ?_
 refine Qy ?_
 refine A0.pureF i1 ze ?_
 refine Qy ?_
 refine A0.pureF i2 ze ?_
 refine Qy ?_
 refine A0.pureF i3 ze ?_
 refine Qy ?_
 refine A0.pureF hj zG ?_
 cases vararg with
 |false=>simp -implicitDefEqProofs only [go_sem,List.append_nil]
 |true=>
  simp only [if_true,List.length_cons,List.length_nil]at hl
  refine Jf ?_
  omega
theorem D0c(u:Upv)(i:Nat)(hi:i≤1000000)(h:u.name.length≤40)(hu:inB u.idx):Abs.Pure Tryz.prog 47 [.int .i64 i,.agg u.row] (.str (upT i u)):=by
 have hq:=A1C u.name zd
 have i1:=D7 i zd zd
 have i2:=D7 u.idx hu.1 hu.2
 have hl:=C3y h hu hi
 unfold upT at hl⊢
 have hj:=A3d [[117,112],Lib.itoa i,D2 u.name,if u.loc=true then [108,111,99,97,108]else [111,117,116,101,114],Lib.itoa u.idx] zg zg zd
 obtain⟨name,loc,idx⟩:=u
 simp only at*
 clear hl
 refine Pure.of 0 (A0.enter A4m Jo (Run.go 100 ?_))
 cases loc with
 |false=>
  simp only [Bool.false_eq_true,if_false]at hj⊢
  generalize F1 _=J at hj⊢
  refine Jb ?_
  refine A0.pureF i1 ze ?_
  refine Qy ?_
  refine A0.pureF hq ze ?_
  refine Qy ?_
  refine A0.pureF i2 ze ?_
  refine Qy ?_
  refine A0.pureF hj zG ?_
  exact Yc
 |true=>
  simp only [if_true]at hj⊢
  generalize F1 _=J at hj⊢
  refine Jb ?_
  refine A0.pureF i1 ze ?_
  refine Qy ?_
  refine A0.pureF hq ze ?_
  refine Qy ?_
  refine A0.pureF i2 ze ?_
  refine Qy ?_
  refine A0.pureF hj zG ?_
  exact ze
theorem C8m(v:Vr)(i:Nat)(hi:i≤1000000)(h:v.name.length≤40)(h1:inB v.reg)(h2:inB v.lo)(h3:inB v.hi):Abs.Pure Tryz.prog 48 [.int .i64 i,.agg v.row] (.str (O1 i v)):=by
 have hq:=A1C v.name zd
 have i0:=D7 i zd zd
 have i1:=D7 v.reg h1.1 h1.2
 have i2:=D7 v.lo h2.1 h2.2
 have i3:=D7 v.hi h3.1 h3.2
 have hl:=C0Y h h1 h2 h3 hi
 unfold O1 at hl⊢
 rw [List.length_append]at hl
 have hj:=A3d [[118,97,114],Lib.itoa i,D2 v.name,[114,101,103],Lib.itoa v.reg,[102,114,111,109],Lib.itoa v.lo,[116,111],Lib.itoa v.hi] zg zg zd
 obtain⟨name,reg,lo,hi',attr⟩:=v
 simp only at*
 generalize F1 _=J at hj hl⊢
 refine Pure.of 0 (A0.enter A3o Jo (Run.go 100 ?_))
 simp -implicitDefEqProofs only [go_sem,A3,Vr.row]
 refine A0.pureF i0 ze ?_
 refine Qy ?_
 refine A0.pureF hq ze ?_
 refine Qy ?_
 refine A0.pureF i1 ze ?_
 refine Qy ?_
 refine A0.pureF i2 ze ?_
 refine Qy ?_
 refine A0.pureF i3 ze ?_
 refine Qy ?_
 refine A0.pureF hj zG ?_
 by_cases a1:attr=1
 ·subst a1
  refine Jf ?_
  omega
 by_cases a2:attr=2
 ·subst a2
  refine Jf ?_
  omega
 simp -implicitDefEqProofs only [go_sem,a1,a2,List.append_nil]
theorem C4c(p:Fn)(h:p.Okl)(i:Nat)(x:Ins)(hx:p.code[i]? =some x):Abs.Pure Tryz.prog 49 [.agg p.row,.int .i64 i] (.str (I2 p.lines i x)):=by
 have hi:=(List.getElem?_eq_some_iff.1 hx).1
 have hcl:=h.code.1
 have i1:=D7 i zd zd
 have hck:=h.code.2 x (List.mem_of_getElem? hx)
 have ht:Abs.Pure Tryz.prog 79 [.agg x.row] (.str (D3 x)):=B3u x (B7Z hck)
 have g1:x.row.length=5:=rfl
 have g2:x.row.take 5=x.row:=rfl
 have g3:=Ins.row_sub I6 x
 have hl:=B6G h.lines.2 hck (i:=i) zd Qt
 unfold I2 at hl⊢
 have hj:=A3d [Lib.itoa i,A9T p.lines i,D3 x] zg zg zd
 have hll:=h.lines
 rw [Fn.row_eq]
 obtain⟨name,line,params,vararg,regs,code,lines,consts,protos,ups,vars⟩:=p
 simp only at*
 have c5:(code.map Ins.row)[i]? =some x.row:=by rw [List.getElem?_map,hx];rfl
 have c6:(code.map Ins.row).length=code.length:=List.length_map ..
 have c7:=eq_true (C1 Ins.row 5 (fun _=>rfl) code)
 have l6:(lines.map E9).length=lines.length:=List.length_map ..
 have l7:=eq_true (C1 E9 1 (fun _=>rfl) lines)
 have q0:((i:Int)<(code.length:Int))=True:=Jm
 have q1:((0:Int)≤(i:Int))=True:=Jm
 generalize F1 _=J at hj hl⊢
 refine Pure.of 0 (A0.enter A2o Jo (Run.go 100 ?_))
 by_cases hz:lines.length=0
 ·have e0:A9T lines i= [45]:=if_pos hz
  rw [e0]at hj
  have z0:((0:Int)<(lines.length:Int))=False:=Jn
  generalize code.map Ins.row=r1 at*
  generalize lines.map E9=r2 at*
  generalize consts.map Kst.row=r3 at*
  generalize protos.map Fn.row=r4 at*
  generalize ups.map Upv.row=r5 at*
  generalize vars.map Vr.row=r6 at*
  simp -implicitDefEqProofs only [go_sem,A3,l6,z0,q0,q1,c5,c6,c7,Option.some.injEq,forall_eq',hi,g1,g2]
  repeat' refine And.intro ?_ ?_
  all_goals (
   refine A0.pureF i1 ze ?_
   refine Jl ?_
   refine A0.pureF ht (by simp -implicitDefEqProofs only [go_sem,g3]) ?_
   refine Qy ?_
   refine A0.pureF hj zG ?_
   simp -implicitDefEqProofs only [go_sem])
 ·have hli:i<lines.length:=by rcases hll.1 with h0|h0<;>omega
  obtain⟨z,hzz⟩: ∃z,lines[i]? =some z:=⟨lines[i],by simp [hli]⟩
  have e0:A9T lines i=Lib.itoa z:=by unfold A9T;rw [if_neg hz,hzz];rfl
  rw [e0]at hj
  have z0:((0:Int)<(lines.length:Int))=True:=Jm
  have z1:((i:Int)<(lines.length:Int))=True:=Jm
  have l5:(lines.map E9)[i]? =some (E9 z):=by rw [List.getElem?_map,hzz];rfl
  have hzb:=hll.2 z (List.mem_of_getElem? hzz)
  have i2:=D7 z hzb.1 hzb.2
  generalize code.map Ins.row=r1 at*
  generalize lines.map E9=r2 at*
  generalize consts.map Kst.row=r3 at*
  generalize protos.map Fn.row=r4 at*
  generalize ups.map Upv.row=r5 at*
  generalize vars.map Vr.row=r6 at*
  simp -implicitDefEqProofs only [go_sem,A3,l5,l6,l7,z0,z1,q0,q1,hli,E9,Option.some.injEq,forall_eq']
  refine A0.pureF i2 ze ?_
  refine Jl ?_
  repeat' refine And.intro ?_ ?_
  all_goals (
   refine A0.pureF i1 ze ?_
   refine Jl ?_
   refine A0.pureF ht (by simp -implicitDefEqProofs only [go_sem,g3]) ?_
   refine Qy ?_
   refine A0.pureF hj zG ?_
   simp -implicitDefEqProofs only [go_sem])
end
section
open Go Go.Abs
attribute [local irreducible] A0 Run J4
abbrev l6:Nat:=(42*10000+6)
abbrev l8:Nat:=(42*10000+8)
abbrev l10:Nat:=(42*10000+10)
abbrev l13:Nat:=(42*10000+13)
abbrev lL:Nat:=(42*10000+9109)
abbrev lK(d:Nat):Nat:=1000000000000+d
-- EV: l6, l8, l10, l13, lL
attribute [local go_sem] l6 l8 l10 l13 lL
theorem B5q(p:Fn)(path:List UInt8)(d:Int)(n:Nat):A0 Tryz.prog 21 [.agg p.row,.str path,.int .i64 d] [] n
  fun r h' n'=>r= .fn 42 [.iptr [[.int .i64 d]] 0 0,.iptr [p.row] 0 0,.iptr [[.str path]] 0 0]∧h'= []∧n'=n:=by
 obtain⟨h1,h2⟩:=C9 p
 generalize p.row=pr at*
 refine A0.enterK A5q Jo fun Q hQ=>Run.go 100 ?_
 simp -implicitDefEqProofs only [go_sem,A3,h1]
 subst hQ
 exact .is ⟨rfl,rfl,rfl⟩
structure LRd(nm st d:Nat)(whole:List (Nat×List UInt8))(J:List (Nat×List UInt8)→A2→Nat→Prop):Prop where
 round: ∀pre l rest h n,whole=pre++l::rest→J pre h n→J4 Tryz.prog nm st [.int .i64 l.1,.str l.2] h n fun r h' n'=>r= .bool true∧J (pre++ [l]) h' n'
 up: ∀pre h n n',n≤n'→J pre h n→J pre h n'
 ap: ∀pre h n,J pre h n→B4 h l6∧B4 h l8∧B4 h l10∧B4 h l13∧B4 h lL∧ ∀k,d≤k→B4 h (lK k)
theorem B9C(b st:Nat)(B:Blk)(h:A2):A2.get ((b,st,B)::h) b st=some B:=by simp [A2.get]
theorem B6O: ∀{l:List Fn} {q:Fn},q∈l→q.depth≤Fn.depths l
 | [],_,h=>by cases h
 |x::r,q,h=>by
  rw [Fn.depths]
  rcases List.mem_cons.1 h with rfl|h
  ·exact Nat.le_max_left _ _
  ·exact Nat.le_trans (B6O h) (Nat.le_max_right _ _)
theorem C1Q(path:List UInt8)(d:Nat){l:List Fn}{k:Nat}{x:Fn}(h:l[k]? =some x):linesFs path d 0 l=linesFs path d 0 (l.take k)++(F4 (path++46::Lib.itoa k) d x++linesFs path d (k+1) (l.drop (k+1))):=by
 obtain⟨hk,e⟩:=List.getElem?_eq_some_iff.1 h
 have hs:l=l.take k++x::l.drop (k+1):=by rw [←e,List.getElem_cons_drop];simp
 conv=>lhs;rw [hs]
 rw [A1O,linesFs,List.length_take,Nat.zero_add,Nat.min_eq_left zd]
theorem B4m{α:Type}(f:Nat→α→List UInt8)(d:Nat){l:List α}{k:Nat}{x:α}(h:l[k]? =some x):C6 f d 0 l=C6 f d 0 (l.take k)++(d,f k x)::C6 f d (k+1) (l.drop (k+1)):=by
 obtain⟨hk,e⟩:=List.getElem?_eq_some_iff.1 h
 have hs:l=l.take k++x::l.drop (k+1):=by rw [←e,List.getElem_cons_drop];simp
 conv=>lhs;rw [hs]
 rw [B5C,C6,List.length_take,Nat.zero_add,Nat.min_eq_left zd]
theorem Wk.ren{b b' st:Nat}{B:Blk}{h:A2}{n:Nat}{sl sl':List (Nat×V)}(hs:B1n sl sl')(ha:B4 h b)(rest:A2):Wk ⟨sl,(b,st,B)::(rest++h),n⟩ ⟨sl',(b',st,B)::h,n⟩:=
 .turn (fun x=>if x=b then b' else x) hs ⟨⟨_,List.mem_cons_self,(if_pos rfl).symm,rfl,.refl _⟩,Q6.of fun e he=>⟨e,List.mem_cons_of_mem _ (List.mem_append.2 (.inr he)),(if_neg (ha e he)).symm,rfl,.refl _⟩⟩
theorem B4.cons{b nm st:Nat}{B:Blk}{h:A2}(hn:nm≠b)(h1:B4 h b):B4 ((nm,st,B)::h) b:=fun e he=>(List.mem_cons.1 he).elim (fun e1=>by rw [e1];exact hn) (h1 e)
theorem B9R(p:Fn):(∀q∈p.each,q.Okl)→ ∀(path:List UInt8) (d:Nat),path.length≤4+22*d→d+p.depth≤65→
  ∀(nm st:Nat) (whole:List (Nat×List UInt8)) (J:List (Nat×List UInt8)→A2→Nat→Prop),LRd nm st d whole J→ ∀pre post h n,whole=pre++F4 path d p++post→J pre h n→
  A0 Tryz.prog 42 [.yld nm st,.iptr [[.int .i64 d]] 0 0,.iptr [p.row] 0 0,.iptr [[.str path]] 0 0] h n fun r h' n'=>r= .tup []∧J (pre++F4 path d p) h' n':=by
 induction p using Fn.ind with
 | h p ih'=>
  intro hok path d hpath hdep nm st whole J hR pre post h n hw hJ
  have ho:=hok p p.self_mem
  have hps:=Fn.row_sub I6 p
  obtain⟨h1,h2⟩:=C9 p
  have hhead:=C4z p ho path zd
  have hcode:=C4c p ho
  have heq:=p.row_eq
  have h5:p.row[5]? =some (.isl (p.code.map Ins.row)):=by rw [heq];rfl
  have h7:p.row[7]? =some (.isl (p.consts.map Kst.row)):=by rw [heq];rfl
  have h8:p.row[8]? =some (.isl (p.protos.map Fn.row)):=by rw [heq];rfl
  have h9:p.row[9]? =some (.isl (p.ups.map Upv.row)):=by rw [heq];rfl
  have h10:p.row[10]? =some (.isl (p.vars.map Vr.row)):=by rw [heq];rfl
  clear heq
  rw [I4]at hw⊢
  unfold B2o at hw⊢
  have k5:(p.code.map Ins.row).length=p.code.length:=List.length_map ..
  have k7:(p.consts.map Kst.row).length=p.consts.length:=List.length_map ..
  have k8:(p.protos.map Fn.row).length=p.protos.length:=List.length_map ..
  have k9:(p.ups.map Upv.row).length=p.ups.length:=List.length_map ..
  have k10:(p.vars.map Vr.row).length=p.vars.length:=List.length_map ..
  have z7:=eq_true (C1 Kst.row 5 (fun _=>rfl) p.consts)
  have z8:=eq_true (C1 Fn.row 11 Fn.row_len p.protos)
  have z9:=eq_true (C1 Upv.row 3 (fun _=>rfl) p.ups)
  have z10:=eq_true (C1 Vr.row 5 (fun _=>rfl) p.vars)
  have r7: ∀(k:Nat) v,p.consts[k]? =some v→(p.consts.map Kst.row)[k]? =some v.row:=fun k v hk=>by rw [List.getElem?_map,hk];rfl
  have r8: ∀(k:Nat) v,p.protos[k]? =some v→(p.protos.map Fn.row)[k]? =some v.row:=fun k v hk=>by rw [List.getElem?_map,hk];rfl
  have r9: ∀(k:Nat) v,p.ups[k]? =some v→(p.ups.map Upv.row)[k]? =some v.row:=fun k v hk=>by rw [List.getElem?_map,hk];rfl
  have r10: ∀(k:Nat) v,p.vars[k]? =some v→(p.vars.map Vr.row)[k]? =some v.row:=fun k v hk=>by rw [List.getElem?_map,hk];rfl
  have b5:=ho.code.1
  have b7:=ho.consts.1
  have b8:=ho.protos
  have b9:=ho.ups.1
  have b10:=ho.vars.1
  generalize p.code.map Ins.row=e5 at*
  generalize p.consts.map Kst.row=e7 at*
  generalize p.protos.map Fn.row=e8 at*
  generalize p.ups.map Upv.row=e9 at*
  generalize p.vars.map Vr.row=e10 at*
  generalize p.row=pr at*
  have hr0:=hR.round pre (d,G5 p path) ((C6 E6 (d+1) 0 p.consts++(C6 upT (d+1) 0 p.ups++(C6 O1 (d+1) 0 p.vars++C6 (I2 p.lines) (d+1) 0 p.code)))++linesFs path (d+1) 0 p.protos++post) h
  refine A0.enterK A3m Jo fun Q hQ=>Run.go 100 ?_
  refine QF ?_
  refine A0.pureF hhead zl ?_
  refine Qy ?_
  refine J4.use (rest:= []) (hr0 _ (by rw [hw];simp) (hR.up _ _ _ _ zd hJ)) rfl zg ?_
  rintro r h' n' hn ⟨rfl,hJ'⟩
  simp -implicitDefEqProofs only [go_sem,h7]
  refine Run.roundsK (fun(x:Nat×A2×Nat)=>⟨[(26,.int .i64 x.1),(25,.int .i64 p.consts.length),(24,.isl e7),(4,.iptr [[.yld nm st]] 0 0),(3,.iptr [[.str path]] 0 0),(2,.iptr [pr] 0 0),(1,.iptr [[.int .i64 d]] 0 0)],x.2.1,x.2.2⟩)
   (fun x=>x.1≤p.consts.length∧J (pre++ [(d,G5 p path)]++C6 E6 (d+1) 0 (p.consts.take x.1)) x.2.1 x.2.2) (fun x=>p.consts.length-x.1) (0,_,_) ?_ ⟨Nat.zero_le _,by simpa [C6]using hJ'⟩ ?_
  ·refine E8.wk ⟨B0.1 (by simp -implicitDefEqProofs only [go_sem,k7]),fun e he=> ?_,Nat.le_refl _⟩
   simpa using he
  clear hJ' hn
  rintro⟨k,h3,n3⟩ ⟨hk,hJ3⟩ ih
  simp only at hk hJ3 ih⊢
  refine Run.unf A7N (Run.go 100 ?_)
  by_cases hlt:k<p.consts.length
  ·obtain⟨a6,a8,a10,a13,aL,aK⟩:=hR.ap _ _ _ hJ3
   have c0:=a6.del
   have q0:((k:Int)<(p.consts.length:Int))=True:=Jm
   have q1:((0:Int)≤(k:Int))=True:=Jm
   have hzk:((k:Int)+1)=((k+1:Nat):Int):=by omega
   obtain⟨v,hv⟩: ∃v,p.consts[k]? =some v:=⟨p.consts[k],by simp [hlt]⟩
   have hvm:=List.mem_of_getElem? hv
   have ik:=D7 k zd zd
   have hvr:=r7 k v hv
   have hvv:=ho.consts.2 v hvm
   have hval:=C8j v hvv.1 hvv.2
   have hvs:=Kst.row_sub I6 v
   have hl:=B4M hvv.1 hvv.2 (i:=k) zd
   unfold E6 at hl
   have hj:=A3d [[99,111,110,115,116],Lib.itoa k,A2b v] zg zg zd
   rw [show F1 [[99,111,110,115,116],Lib.itoa k,A2b v]=E6 k v from rfl]at hj
   have hat:C6 E6 (d+1) 0 p.consts=C6 E6 (d+1) 0 (p.consts.take k)++(d+1,E6 k v)::C6 E6 (d+1) (k+1) (p.consts.drop (k+1)):=B4m E6 (d+1) hv
   have hrd:=hR.round (pre++ [(d,G5 p path)]++C6 E6 (d+1) 0 (p.consts.take k)) (d+1,E6 k v) (C6 E6 (d+1) (k+1) (p.consts.drop (k+1))++(C6 upT (d+1) 0 p.ups++(C6 O1 (d+1) 0 p.vars++C6 (I2 p.lines) (d+1) 0 p.code))++linesFs path (d+1) 0 p.protos++post) h3
   have hnx:=A9E E6 (d+1) hv
   simp only at hrd
   rw [show (((d+1:Nat):Int))=(d:Int)+1 by omega]at hrd
   have g1:v.row.length=5:=rfl
   have g2:v.row.take 5=v.row:=rfl
   generalize v.row=vr at*
   simp -implicitDefEqProofs only [go_sem,q0,q1,k7,z7,hvr,Option.some.injEq,forall_eq',g1,g2,c0]
   repeat' first|omega|refine And.intro ?_ ?_
   all_goals (
    refine A0.pureF ik ze ?_
    refine QC ?_
    repeat' first|omega|refine And.intro ?_ ?_
    all_goals (
     refine A0.pureF hval Qw ?_
     refine QC ?_
     repeat' first|omega|refine And.intro ?_ ?_
     all_goals (
      refine A0.pureF hj zG ?_
      refine QC ?_
      refine J4.use (rest:= [_]) (hrd _ zU (hR.up _ _ _ _ zd hJ3)) rfl (fun e he e' he'=> ?_) ?_
      ·rw [List.mem_singleton.1 he];exact a6 e' he'
      rintro r h4 n4 hn4 ⟨rfl,hJ4⟩
      refine QC ?_
      refine⟨by omega,?_⟩
      exact ih _ (k+1,h4,n4) ⟨by simp only;omega,by simp only [hnx];rw [←List.append_assoc];exact hJ4⟩ zj (E8.wk ⟨B0.1 zk,fun e he=>List.mem_cons_of_mem _ he,Nat.le_refl _⟩))))
  have e:k=p.consts.length:=by omega
  subst e
  rw [List.take_length]at hJ3
  have hJ':=hJ3
  have hn:n≤n:=Nat.le_refl _
  clear ih hJ3 hlt hk
  simp -implicitDefEqProofs only [go_sem,h9,Int.lt_irrefl]
  refine Run.roundsK (fun(x:Nat×A2×Nat)=>⟨[(46,.int .i64 x.1),(45,.int .i64 p.ups.length),(44,.isl e9),(4,.iptr [[.yld nm st]] 0 0),(3,.iptr [[.str path]] 0 0),(2,.iptr [pr] 0 0),(1,.iptr [[.int .i64 d]] 0 0)],x.2.1,x.2.2⟩)
   (fun x=>x.1≤p.ups.length∧J (pre++ [(d,G5 p path)]++C6 E6 (d+1) 0 p.consts++C6 upT (d+1) 0 (p.ups.take x.1)) x.2.1 x.2.2) (fun x=>p.ups.length-x.1) (0,_,_) ?_ ⟨Nat.zero_le _,by simpa [C6]using hJ'⟩ ?_
  ·refine E8.wk ⟨B0.1 (by simp -implicitDefEqProofs only [go_sem,k9]),fun e he=> ?_,Nat.le_refl _⟩
   simpa using he
  clear hJ' hn
  rintro⟨k,h3,n3⟩ ⟨hk,hJ3⟩ ih
  simp only at hk hJ3 ih⊢
  refine Run.unf A7O (Run.go 100 ?_)
  by_cases hlt:k<p.ups.length
  ·obtain⟨a6,a8,a10,a13,aL,aK⟩:=hR.ap _ _ _ hJ3
   have c0:=a8.del
   have q0:((k:Int)<(p.ups.length:Int))=True:=Jm
   have q1:((0:Int)≤(k:Int))=True:=Jm
   have hzk:((k:Int)+1)=((k+1:Nat):Int):=by omega
   obtain⟨v,hv⟩: ∃v,p.ups[k]? =some v:=⟨p.ups[k],by simp [hlt]⟩
   have hvm:=List.mem_of_getElem? hv
   have ik:=D7 k zd zd
   have hvr:=r9 k v hv
   have hvv:=ho.ups.2 v hvm
   have hup:=D0c v k zd hvv.1 hvv.2
   have hvs:=Upv.row_sub I6 v
   have hat:C6 upT (d+1) 0 p.ups=C6 upT (d+1) 0 (p.ups.take k)++(d+1,upT k v)::C6 upT (d+1) (k+1) (p.ups.drop (k+1)):=B4m upT (d+1) hv
   have hrd:=hR.round (pre++ [(d,G5 p path)]++C6 E6 (d+1) 0 p.consts++C6 upT (d+1) 0 (p.ups.take k)) (d+1,upT k v) (C6 upT (d+1) (k+1) (p.ups.drop (k+1))++(C6 O1 (d+1) 0 p.vars++C6 (I2 p.lines) (d+1) 0 p.code)++linesFs path (d+1) 0 p.protos++post) h3
   have hnx:=A9E upT (d+1) hv
   simp only at hrd
   rw [show (((d+1:Nat):Int))=(d:Int)+1 by omega]at hrd
   have g1:v.row.length=3:=rfl
   have g2:v.row.take 3=v.row:=rfl
   generalize v.row=vr at*
   simp -implicitDefEqProofs only [go_sem,q0,q1,k9,z9,hvr,Option.some.injEq,forall_eq',g1,g2,c0]
   repeat' first|omega|refine And.intro ?_ ?_
   all_goals (
    refine A0.pureF hup Qw ?_
    refine QC ?_
    refine J4.use (rest:= [_]) (hrd _ zU (hR.up _ _ _ _ zd hJ3)) rfl (fun e he e' he'=> ?_) ?_
    ·rw [List.mem_singleton.1 he];exact a8 e' he'
    rintro r h4 n4 hn4 ⟨rfl,hJ4⟩
    refine QC ?_
    refine⟨by omega,?_⟩
    exact ih _ (k+1,h4,n4) ⟨by simp only;omega,by simp only [hnx];rw [←List.append_assoc];exact hJ4⟩ zj (E8.wk ⟨B0.1 zk,fun e he=>List.mem_cons_of_mem _ he,Nat.le_refl _⟩))
  have e:k=p.ups.length:=by omega
  subst e
  rw [List.take_length]at hJ3
  have hJ':=hJ3
  have hn:n≤n:=Nat.le_refl _
  clear ih hJ3 hlt hk
  simp -implicitDefEqProofs only [go_sem,h10,Int.lt_irrefl]
  refine Run.roundsK (fun(x:Nat×A2×Nat)=>⟨[(63,.int .i64 x.1),(62,.int .i64 p.vars.length),(61,.isl e10),(4,.iptr [[.yld nm st]] 0 0),(3,.iptr [[.str path]] 0 0),(2,.iptr [pr] 0 0),(1,.iptr [[.int .i64 d]] 0 0)],x.2.1,x.2.2⟩)
   (fun x=>x.1≤p.vars.length∧J (pre++ [(d,G5 p path)]++C6 E6 (d+1) 0 p.consts++C6 upT (d+1) 0 p.ups++C6 O1 (d+1) 0 (p.vars.take x.1)) x.2.1 x.2.2) (fun x=>p.vars.length-x.1) (0,_,_) ?_ ⟨Nat.zero_le _,by simpa [C6]using hJ'⟩ ?_
  ·refine E8.wk ⟨B0.1 (by simp -implicitDefEqProofs only [go_sem,k10]),fun e he=> ?_,Nat.le_refl _⟩
   simpa using he
  clear hJ' hn
  rintro⟨k,h3,n3⟩ ⟨hk,hJ3⟩ ih
  simp only at hk hJ3 ih⊢
  refine Run.unf A7P (Run.go 100 ?_)
  by_cases hlt:k<p.vars.length
  ·obtain⟨a6,a8,a10,a13,aL,aK⟩:=hR.ap _ _ _ hJ3
   have c0:=a10.del
   have q0:((k:Int)<(p.vars.length:Int))=True:=Jm
   have q1:((0:Int)≤(k:Int))=True:=Jm
   have hzk:((k:Int)+1)=((k+1:Nat):Int):=by omega
   obtain⟨v,hv⟩: ∃v,p.vars[k]? =some v:=⟨p.vars[k],by simp [hlt]⟩
   have hvm:=List.mem_of_getElem? hv
   have ik:=D7 k zd zd
   have hvr:=r10 k v hv
   have hvv:=ho.vars.2 v hvm
   have hup:=C8m v k zd hvv.1 hvv.2.1 hvv.2.2.1 hvv.2.2.2.1
   have hvs:=Vr.row_sub I6 v
   have hat:C6 O1 (d+1) 0 p.vars=C6 O1 (d+1) 0 (p.vars.take k)++(d+1,O1 k v)::C6 O1 (d+1) (k+1) (p.vars.drop (k+1)):=B4m O1 (d+1) hv
   have hrd:=hR.round (pre++ [(d,G5 p path)]++C6 E6 (d+1) 0 p.consts++C6 upT (d+1) 0 p.ups++C6 O1 (d+1) 0 (p.vars.take k)) (d+1,O1 k v) (C6 O1 (d+1) (k+1) (p.vars.drop (k+1))++C6 (I2 p.lines) (d+1) 0 p.code++linesFs path (d+1) 0 p.protos++post) h3
   have hnx:=A9E O1 (d+1) hv
   simp only at hrd
   rw [show (((d+1:Nat):Int))=(d:Int)+1 by omega]at hrd
   have g1:v.row.length=5:=rfl
   have g2:v.row.take 5=v.row:=rfl
   generalize v.row=vr at*
   simp -implicitDefEqProofs only [go_sem,q0,q1,k10,z10,hvr,Option.some.injEq,forall_eq',g1,g2,c0]
   repeat' first|omega|refine And.intro ?_ ?_
   all_goals (
    refine A0.pureF hup Qw ?_
    refine QC ?_
    refine J4.use (rest:= [_]) (hrd _ zU (hR.up _ _ _ _ zd hJ3)) rfl (fun e he e' he'=> ?_) ?_
    ·rw [List.mem_singleton.1 he];exact a10 e' he'
    rintro r h4 n4 hn4 ⟨rfl,hJ4⟩
    refine QC ?_
    refine⟨by omega,?_⟩
    exact ih _ (k+1,h4,n4) ⟨by simp only;omega,by simp only [hnx];rw [←List.append_assoc];exact hJ4⟩ zj (E8.wk ⟨B0.1 zk,fun e he=>List.mem_cons_of_mem _ he,Nat.le_refl _⟩))
  have e:k=p.vars.length:=by omega
  subst e
  rw [List.take_length]at hJ3
  have hJ':=hJ3
  have hn:n≤n:=Nat.le_refl _
  clear ih hJ3 hlt hk
  simp -implicitDefEqProofs only [go_sem,h5,Int.lt_irrefl]
  refine Run.roundsK (fun(x:Nat×A2×Nat)=>⟨[(80,.int .i64 x.1),(79,.int .i64 p.code.length),(78,.isl e5),(4,.iptr [[.yld nm st]] 0 0),(3,.iptr [[.str path]] 0 0),(2,.iptr [pr] 0 0),(1,.iptr [[.int .i64 d]] 0 0)],x.2.1,x.2.2⟩)
   (fun x=>x.1≤p.code.length∧J (pre++ [(d,G5 p path)]++C6 E6 (d+1) 0 p.consts++C6 upT (d+1) 0 p.ups++C6 O1 (d+1) 0 p.vars++C6 (I2 p.lines) (d+1) 0 (p.code.take x.1)) x.2.1 x.2.2) (fun x=>p.code.length-x.1) (0,_,_) ?_ ⟨Nat.zero_le _,by simpa [C6]using hJ'⟩ ?_
  ·refine E8.wk ⟨B0.1 (by simp -implicitDefEqProofs only [go_sem,k5]),fun e he=> ?_,Nat.le_refl _⟩
   simpa using he
  clear hJ' hn
  rintro⟨k,h3,n3⟩ ⟨hk,hJ3⟩ ih
  simp only at hk hJ3 ih⊢
  refine Run.unf A7Q (Run.go 100 ?_)
  by_cases hlt:k<p.code.length
  ·obtain⟨a6,a8,a10,a13,aL,aK⟩:=hR.ap _ _ _ hJ3
   have c0:=aL.del
   have q0:((k:Int)<(p.code.length:Int))=True:=Jm
   have q1:((0:Int)≤(k:Int))=True:=Jm
   have hzk:((k:Int)+1)=((k+1:Nat):Int):=by omega
   obtain⟨v,hv⟩: ∃v,p.code[k]? =some v:=⟨p.code[k],by simp [hlt]⟩
   have hvm:=List.mem_of_getElem? hv
   have ik:=D7 k zd zd
   have hup:=hcode k v hv
   have hat:C6 (I2 p.lines) (d+1) 0 p.code=C6 (I2 p.lines) (d+1) 0 (p.code.take k)++(d+1,(I2 p.lines) k v)::C6 (I2 p.lines) (d+1) (k+1) (p.code.drop (k+1)):=B4m (I2 p.lines) (d+1) hv
   have hrd:=hR.round (pre++ [(d,G5 p path)]++C6 E6 (d+1) 0 p.consts++C6 upT (d+1) 0 p.ups++C6 O1 (d+1) 0 p.vars++C6 (I2 p.lines) (d+1) 0 (p.code.take k)) (d+1,(I2 p.lines) k v) (C6 (I2 p.lines) (d+1) (k+1) (p.code.drop (k+1))++linesFs path (d+1) 0 p.protos++post) h3
   have hnx:=A9E (I2 p.lines) (d+1) hv
   simp only at hrd
   rw [show (((d+1:Nat):Int))=(d:Int)+1 by omega]at hrd
   simp -implicitDefEqProofs only [go_sem,q0,q1,k5,h1,h2,c0]
   repeat' first|omega|refine And.intro ?_ ?_
   all_goals (
    refine A0.pureF hup zl ?_
    refine QD ?_
    refine J4.use (rest:= []) (hrd _ zU (hR.up _ _ _ _ zd hJ3)) rfl (fun e he e' he'=> ?_) ?_
    ·cases he
    rintro r h4 n4 hn4 ⟨rfl,hJ4⟩
    refine QD ?_
    refine⟨by omega,?_⟩
    exact ih _ (k+1,h4,n4) ⟨by simp only;omega,by simp only [hnx];rw [←List.append_assoc];exact hJ4⟩ zj (E8.wk ⟨B0.1 zk,fun e he=>he,Nat.le_refl _⟩))
  have e:k=p.code.length:=by omega
  subst e
  rw [List.take_length]at hJ3
  have hJ':=hJ3
  have hn:n≤n:=Nat.le_refl _
  clear ih hJ3 hlt hk
  simp -implicitDefEqProofs only [go_sem,h8,Int.lt_irrefl]
  refine Run.roundsK (fun(x:Nat×A2×Nat)=>⟨[(95,.int .i64 x.1),(94,.int .i64 p.protos.length),(93,.isl e8),(4,.iptr [[.yld nm st]] 0 0),(3,.iptr [[.str path]] 0 0),(2,.iptr [pr] 0 0),(1,.iptr [[.int .i64 d]] 0 0)],x.2.1,x.2.2⟩)
   (fun x=>x.1≤p.protos.length∧J (pre++ [(d,G5 p path)]++C6 E6 (d+1) 0 p.consts++C6 upT (d+1) 0 p.ups++C6 O1 (d+1) 0 p.vars++C6 (I2 p.lines) (d+1) 0 p.code++linesFs path (d+1) 0 (p.protos.take x.1)) x.2.1 x.2.2) (fun x=>p.protos.length-x.1) (0,_,_) ?_ ⟨Nat.zero_le _,by simpa [linesFs]using hJ'⟩ ?_
  ·refine E8.wk ⟨B0.1 (by simp -implicitDefEqProofs only [go_sem,k8]),fun e he=> ?_,Nat.le_refl _⟩
   simpa using he
  clear hJ' hn
  rintro⟨k,h3,n3⟩ ⟨hk,hJ3⟩ ih
  simp only at hk hJ3 ih⊢
  refine Run.unf A7R (Run.go 100 ?_)
  by_cases hlt:k<p.protos.length
  ·obtain⟨a6,a8,a10,a13,aL,aK⟩:=hR.ap _ _ _ hJ3
   have c0:=a13.del
   have cL:=aL.del
   have q0:((k:Int)<(p.protos.length:Int))=True:=Jm
   have q1:((0:Int)≤(k:Int))=True:=Jm
   have hzk:((k:Int)+1)=((k+1:Nat):Int):=by omega
   obtain⟨q,hv⟩: ∃v,p.protos[k]? =some v:=⟨p.protos[k],by simp [hlt]⟩
   have hvm:=List.mem_of_getElem? hv
   have ik:=D7 k zd zd
   have lk:=A0v (n:=k) zd
   have hvr:=r8 k q hv
   have hvs:=Fn.row_sub I6 q
   obtain⟨g1,g2⟩:=C9 q
   have hdq:=B6O hvm
   rw [Fn.depth_eq]at hdep
   have hcall:=ih' q hvm (fun x hx=>hok x (Fn.each_trans p q (Fn.child_mem p.self_mem hvm) x hx)) (path++46::Lib.itoa k) (d+1) Qv zd
   simp only [show (((d+1:Nat)):Int)=(d:Int)+1 by omega]at hcall
   have hlc:=fun m=>B5q q (path++46::Lib.itoa k) ((d:Int)+1) m
   have hpe:path++ [46]++Lib.itoa (k:Int)=path++46::Lib.itoa k:=by simp
   have hpl:(path++ [46]).length=path.length+1:=by simp
   have hat:=C1Q path (d+1) hv
   have hnx:=B8q path (d+1) hv
   generalize q.row=qr at*
   simp -implicitDefEqProofs only [go_sem,q0,q1,k8,z8,hvr,Option.some.injEq,forall_eq',g1,g2,c0]
   repeat' first|omega|refine And.intro ?_ ?_
   all_goals (
    refine A0.pureF ik ze ?_
    simp -implicitDefEqProofs only [go_sem,g1,g2,hpe,hpl]
    repeat' first|omega|refine And.intro ?_ ?_
    all_goals (
     refine A0.out (hlc _) ?_
     rintro r h4 n4 hn4 ⟨rfl,rfl,rfl⟩
     simp -implicitDefEqProofs only [go_sem,cL]
     refine⟨by kernel_rfl,?_⟩
     generalize hB:Blk.loop _ _ _ _ _ _=B
     refine A0.pre (xs':= [.yld (lK d) (n3+1),.iptr [[.int .i64 ((d:Int)+1)]] 0 0,.iptr [qr] 0 0,.iptr [[.str (path++46::Lib.itoa k)]] 0 0]) (h':=(lK d,n3+1,B)::h3) (n':=n3+1+1) (Wk.ren (by first|exact⟨.yld,.refl _,.refl _,.refl _,trivial⟩|exact⟨.refl _,.refl _,.refl _,.yld,trivial⟩) aL [_]) rfl ?_
     refine(hcall (lK d) (n3+1) whole (fun pre h n=> ∃h0,h=(lK d,n3+1,B)::h0∧J pre h0 n) ⟨?_,?_,?_⟩ (pre++ [(d,G5 p path)]++C6 E6 (d+1) 0 p.consts++C6 upT (d+1) 0 p.ups++C6 O1 (d+1) 0 p.vars++C6 (I2 p.lines) (d+1) 0 p.code++linesFs path (d+1) 0 (p.protos.take k)) (linesFs path (d+1) (k+1) (p.protos.drop (k+1))++post) _ _ zU ⟨h3,rfl,hR.up _ _ _ _ zd hJ3⟩).wk ?_
     ·rintro pre2 l rest2 h2 n2 hw2 ⟨h0,rfl,hJ0⟩
      obtain⟨_,_,_,_,bL,bK⟩:=hR.ap _ _ _ hJ0
      have dK:=(bK d (Nat.le_refl _)).del
      have hrd:=hR.round pre2 l rest2 h0
      subst hB
      refine J4.enterU A6y A6z (B9C _ _ _ _) rfl fun Q2 hQ2=>Run.go 100 ?_
      simp -implicitDefEqProofs only [go_sem,dK]
      refine J4.use (rest:= [_]) (hrd _ hw2 (hR.up _ _ _ _ zd hJ0)) rfl (fun e he e' he'=> ?_) ?_
      ·rw [List.mem_singleton.1 he];exact bK d (Nat.le_refl _) e' he'
      rintro r h5 n5 hn5 ⟨rfl,hJ5⟩
      have dK5:=((hR.ap _ _ _ hJ5).2.2.2.2.2 d (Nat.le_refl _)).del
      simp -implicitDefEqProofs only [go_sem,dK5]
      subst hQ2
      exact .is ⟨rfl,_,rfl,hJ5⟩
     ·rintro pre2 h2 n2 n5 hn5 ⟨h0,rfl,hJ0⟩
      exact⟨h0,rfl,hR.up _ _ _ _ hn5 hJ0⟩
     ·rintro pre2 h2 n2 ⟨h0,rfl,hJ0⟩
      obtain⟨b6,b8,b10,b13,bL,bK⟩:=hR.ap _ _ _ hJ0
      have ne: ∀x:Nat,x<1000000000000→lK d≠x:=fun x hx=>by simp only [lK];omega
      exact⟨.cons (ne _ zf) b6,.cons (ne _ zf) b8,.cons (ne _ zf) b10,.cons (ne _ zf) b13,.cons (ne _ zf) bL,fun k hk=> .cons (by simp only [lK];omega) (bK k zd)⟩
     ·rintro r h5 n5 ⟨rfl,h0,rfl,hJ5⟩
      obtain⟨b6,b8,b10,b13,bL,bK⟩:=hR.ap _ _ _ hJ5
      refine⟨.tup [],(lL,n3+1,B)::h0,n5,Wk.ren (sl:= [(0,V.tup [])]) (sl':= [(0,V.tup [])]) ⟨.refl _,trivial⟩ (bK d (Nat.le_refl _)) [],?_⟩
      subst hB
      have dL:=bL.del
      simp -implicitDefEqProofs only [go_sem,dL]
      refine⟨by omega,?_⟩
      exact ih _ (k+1,h0,n5) ⟨by simp only;omega,by simp only [hnx];rw [←List.append_assoc];exact hJ5⟩ zj (E8.wk ⟨B0.1 zk,fun e he=>he,Nat.le_refl _⟩)))
  have e:k=p.protos.length:=by omega
  subst e
  rw [List.take_length]at hJ3
  refine QK ?_
  subst hQ
  exact .is ⟨rfl,by simpa using hJ3⟩
end
end Go.Proofs.YtflobbpcabopjaaGreatDoor
