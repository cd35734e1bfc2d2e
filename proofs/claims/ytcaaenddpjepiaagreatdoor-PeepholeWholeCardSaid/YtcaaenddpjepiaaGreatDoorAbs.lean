/-
 An abstract view of the model's memory: abstract values and blocks, and the relation between them and a world. No condition.
-/
import Derived.WalkKit
import Derived.Laws.IdiomCopy
import Derived.RangeFuncRecord
import Derived.Recover
set_option linter.unusedVariables false
set_option linter.unusedSimpArgs false
namespace Go
theorem zd{p:Prop}(h:p:=by omega):p:=h
theorem ze{p:Prop}(h:p:=by simp -implicitDefEqProofs only [go_sem]):p:=h
theorem zf{p:Prop}(h:p:=by simp):p:=h
theorem zg{p:Prop}(h:p:=by simp only;omega):p:=h
theorem zh{p:Prop}(h:p:=by decide):p:=h
theorem zj{p:Prop}(h:p:=by kernel_rfl):p:=h
theorem zk{p:Prop}(h:p:=by dsimp only;omega):p:=h
theorem zl{p:Prop}(h:p:=by simp;omega):p:=h
theorem zm{p:Prop}(h:p:=by rw [e]):p:=h
theorem zn{p:Prop}(h:p:=by simp -implicitDefEqProofs only [go_sem,g]):p:=h
theorem zo{p:Prop}(h:p:=by simp -implicitDefEqProofs only [go_sem,hh]):p:=h
theorem zp{p:Prop}(h:p:=by simp -implicitDefEqProofs only [go_sem,hzk]):p:=h
theorem zt{p:Prop}(h:p:=by simp -implicitDefEqProofs only [go_sem,C]):p:=h
theorem zw{p:Prop}(h:p:=by simp -implicitDefEqProofs only [go_sem,hzr]):p:=h
theorem zx{p:Prop}(h:p:=by simpa using h):p:=h
theorem zy{p:Prop}(h:p:=by simp -implicitDefEqProofs only [go_sem,j]):p:=h
theorem zz{p:Prop}(h:p:=by simpa using b):p:=h
theorem zA{p:Prop}(h:p:=by simpa using a):p:=h
theorem zC{p:Prop}(h:p:=by simp -implicitDefEqProofs only [go_sem,h]):p:=h
theorem zD{p:Prop}(h:p:=by simp -implicitDefEqProofs only [go_sem,l]):p:=h
theorem zG{p:Prop}(h:p:=by simp [isAgg,g]):p:=h
theorem zH{p:Prop}(h:p:=by simp [a]):p:=h
theorem zI{p:Prop}(h:p:=by simp [W5]):p:=h
theorem zJ{p:Prop}(h:p:=by simp -implicitDefEqProofs only [go_sem,c]):p:=h
theorem zK{p:Prop}(h:p:=by simp -implicitDefEqProofs only [go_sem,J]):p:=h
theorem zM{p:Prop}(h:p:=by simp -implicitDefEqProofs only [go_sem,O]):p:=h
theorem zN{p:Prop}(h:p:=by simp -implicitDefEqProofs only [go_sem,v]):p:=h
theorem zO{p:Prop}(h:p:=by simpa using d):p:=h
theorem zP{p:Prop}(h:p:=by simp -implicitDefEqProofs only [go_sem,s]):p:=h
theorem zQ{p:Prop}(h:p:=by simp -implicitDefEqProofs only [go_sem,this]):p:=h
theorem zR{p:Prop}(h:p:=by simp -implicitDefEqProofs only [go_sem,I]):p:=h
theorem zS{p:Prop}(h:p:=by simp -implicitDefEqProofs only [go_sem,d]):p:=h
theorem zU{p:Prop}(h:p:=by simp -implicitDefEqProofs only [go_sem,o]):p:=h
theorem zW{p:Prop}(h:p:=by simp -implicitDefEqProofs only [go_sem,T]):p:=h
theorem zX{p:Prop}(h:p:=by simp -implicitDefEqProofs only [go_sem,t]):p:=h
theorem zY{p:Prop}(h:p:=by simp -implicitDefEqProofs only [go_sem,H]):p:=h
theorem zZ{p:Prop}(h:p:=by simp -implicitDefEqProofs only [go_sem,p]):p:=h
theorem Qa{p:Prop}(h:p:=by simpa using hl):p:=h
theorem Qb{p:Prop}(h:p:=by subst e;rw [Tryz.underlying29]at h;cases h):p:=h
theorem Qc{p:Prop}(h:p:=by subst e;rw [Tryz.underlying25]at h;cases h):p:=h
theorem Qd{p:Prop}(h:p:=by simp -implicitDefEqProofs only [go_sem,a]):p:=h
theorem Qe{p:Prop}(h:p:=by simpa using g):p:=h
theorem Qf{p:Prop}(h:p:=by simp -implicitDefEqProofs only [go_sem,Int.lt_irrefl,A4Y r g]):p:=h
theorem Qg{p:Prop}(h:p:=by rw [Fn.row_eq];rfl):p:=h
theorem Qh{p:Prop}(h:p:=by simp -implicitDefEqProofs only [go_sem,n]):p:=h
theorem Qi{p:Prop}(h:p:=by simp -implicitDefEqProofs only [go_sem,Int.sub_zero]):p:=h
theorem Qj{p:Prop}(h:p:=by simp -implicitDefEqProofs only [go_sem,u]):p:=h
theorem Qk{p:Prop}(h:p:=by simp -implicitDefEqProofs only [go_sem,Z]):p:=h
theorem Ql{p:Prop}(h:p:=by simp -implicitDefEqProofs only [go_sem,P]):p:=h
theorem Qm{p:Prop}(h:p:=by simpa [A4V]using d):p:=h
theorem Qn{p:Prop}(h:p:=by simpa [A4V]using o):p:=h
theorem Qo{p:Prop}(h:p:=by simp -implicitDefEqProofs only [go_sem];try omega):p:=h
theorem Qp{p:Prop}(h:p:=by first|(simp -implicitDefEqProofs only [go_sem];done)|(simp -implicitDefEqProofs only [go_sem];simp)):p:=h
theorem Qq{p:Prop}(h:p:=by simp -implicitDefEqProofs only [go_sem,A4,n,m,h,f]):p:=h
theorem Qr{p:Prop}(h:p:=by simp -implicitDefEqProofs only [go_sem,X,hfga,hsz,hsb,hlb,htk,hbqa,I]):p:=h
theorem Qs{p:Prop}(h:p:=by simp [binOp,Op.intCmp]):p:=h
theorem Qt{p:Prop}(h:p:=by rw [i,f];simp [binOp,Op.intBits,A4f]):p:=h
theorem Qu{p:Prop}(h:p:=by simp -implicitDefEqProofs only [go_sem,E,C]):p:=h
theorem Qv{p:Prop}(h:p:=by simp -implicitDefEqProofs only [go_sem,hqs]):p:=h
theorem Qw{p:Prop}(h:p:=by simp -implicitDefEqProofs only [go_sem,N]):p:=h
theorem Qx{p:Prop}(h:p:=by simp -implicitDefEqProofs only [go_sem,X]):p:=h
theorem Qy{p:Prop}(h:p:=by simp -implicitDefEqProofs only [go_sem,B]):p:=h
theorem Qz{p:Prop}(h:p:=by simp -implicitDefEqProofs only [go_sem,y]):p:=h
theorem QA{p:Prop}(h:p:=by simp -implicitDefEqProofs only [go_sem,L]):p:=h
theorem QB{p:Prop}(h:p:=by simp -implicitDefEqProofs only [go_sem,Int.lt_irrefl]):p:=h
theorem QC{p:Prop}(h:p:=by simp -implicitDefEqProofs only [go_sem,K]):p:=h
theorem QD{p:Prop}(h:p:=by simp -implicitDefEqProofs only [go_sem,F]):p:=h
theorem QE{p:Prop}(h:p:=by simp -implicitDefEqProofs only [go_sem,G]):p:=h
theorem QF{p:Prop}(h:p:=by simp -implicitDefEqProofs only [go_sem,t];omega):p:=h
theorem QG{p:Prop}(h:p:=by simp -implicitDefEqProofs only [go_sem,e]):p:=h
theorem QH{p:Prop}(h:p:=by simp -implicitDefEqProofs only [go_sem,w]):p:=h
theorem QI{p:Prop}(h:p:=by rw [z,v];exact A0V (by simp) (by simp)):p:=h
theorem QJ{p:Prop}(h:p:=by simp -implicitDefEqProofs only [go_sem,z]):p:=h
theorem QK{p:Prop}(h:p:=by simp -implicitDefEqProofs only [go_sem,tuP,List.take_zero,List.map_nil,List.nil_append,List.drop_zero,hPR]):p:=h
inductive zE(p:Prop):Prop→Prop|r:zE p p
theorem QL{p q:Prop}(k:q)(h:zE p q:=by simp -implicitDefEqProofs only [go_sem];exact .r):p:=by cases h;exact k
theorem QM{p q:Prop}(k:q)(h:zE p q:=by simp -implicitDefEqProofs only [go_sem,A4];exact .r):p:=by cases h;exact k
theorem QN{p q:Prop}(k:q)(h:zE p q:=by simp -implicitDefEqProofs only [go_sem,Int.lt_irrefl];exact .r):p:=by cases h;exact k
theorem QO{p q:Prop}(k:q)(h:zE p q:=by simp -implicitDefEqProofs only [go_sem,c];exact .r):p:=by cases h;exact k
theorem QP{p q:Prop}(k:q)(h:zE p q:=by simp -implicitDefEqProofs only [go_sem,a];exact .r):p:=by cases h;exact k
theorem QQ{p q:Prop}(k:q)(h:zE p q:=by simp -implicitDefEqProofs only [go_sem,o,b,f,c,g,l,j,Option.some.injEq,forall_eq'];exact .r):p:=by cases h;exact k
theorem QR{p q:Prop}(k:q)(h:zE p q:=by simp -implicitDefEqProofs only [go_sem,A4,Kst.row,A0w];exact .r):p:=by cases h;exact k
theorem QT{p q:Prop}(k:q)(h:zE p q:=by simp -implicitDefEqProofs only [go_sem,G];exact .r):p:=by cases h;exact k
theorem QU{p q:Prop}(k:q)(h:zE p q:=by simp -implicitDefEqProofs only [go_sem,Nat.reduceDiv];exact .r):p:=by cases h;exact k
theorem QV{p q:Prop}(k:q)(h:zE p q:=by simp -implicitDefEqProofs only [go_sem,A4,h1,h2];exact .r):p:=by cases h;exact k
theorem QW{p q:Prop}(k:q)(h:zE p q:=by simp -implicitDefEqProofs only [go_sem,A4,d,c];exact .r):p:=by cases h;exact k
theorem QX{p q:Prop}(k:q)(h:zE p q:=by simp -implicitDefEqProofs only [go_sem,b,f,c,g,l,j,Option.some.injEq,forall_eq'];exact .r):p:=by cases h;exact k
theorem QY{p q:Prop}(k:q)(h:zE p q:=by simp -implicitDefEqProofs only [go_sem,A4,h,a];exact .r):p:=by cases h;exact k
theorem QZ{p q:Prop}(k:q)(h:zE p q:=by simp -implicitDefEqProofs only [go_sem,c.g6,c.g7,c.g8,c.g9,c.g10,a.g6,a.g7,a.g8,a.g9,a.g10];exact .r):p:=by cases h;exact k
theorem Ja{p q:Prop}(k:q)(h:zE p q:=by simp -implicitDefEqProofs only [go_sem,A4,h];exact .r):p:=by cases h;exact k
theorem Jb{p q:Prop}(k:q)(h:zE p q:=by simp -implicitDefEqProofs only [go_sem,A4s,u,j,l,q,K];exact .r):p:=by cases h;exact k
theorem Jc{p q:Prop}(k:q)(h:zE p q:=by simp -implicitDefEqProofs only [go_sem,f,b,N4,J9,List.append_nil,List.map_cons,List.map_nil,zrw];exact .r):p:=by cases h;exact k
theorem Jd{p q:Prop}(k:q)(h:zE p q:=by simp -implicitDefEqProofs only [go_sem,h1,h2,g5,k5];exact .r):p:=by cases h;exact k
theorem Je{p q:Prop}(k:q)(h:zE p q:=by simp -implicitDefEqProofs only [go_sem,a,Nat.reduceDiv];exact .r):p:=by cases h;exact k
theorem Jf{p q:Prop}(k:q)(h:zE p q:=by simp -implicitDefEqProofs only [go_sem,v0,B,q0,q1,w0,w1,A,l1,s1,xl,O,hbq,H,L,z,Nat.mul_one,Option.some.injEq,forall_eq'];exact .r):p:=by cases h;exact k
theorem Jg{p q:Prop}(k:q)(h:zE p q:=by simp -implicitDefEqProofs only [go_sem,List.length_nil];exact .r):p:=by cases h;exact k
theorem Jh{p q:Prop}(k:q)(h:zE p q:=by simp -implicitDefEqProofs only [go_sem,t,q,p,L,M,j,w,k,D,B,u,C,Option.some.injEq,forall_eq'];exact .r):p:=by cases h;exact k
theorem Ji{p:Prop}(h:p:=by omega):p=True:=eq_true h
theorem Jj{p:Prop}(h:¬p:=by omega):p=False:=eq_false h
theorem Jk{a b:Nat}(h:Nat.ble a b=true:=by exact rfl):a≤b:=Nat.le_of_ble_eq_true h
theorem Jl{p:Prop}(h:p:=by
 by_cases c:V9 i.op=true∧a+1<code.length
 ·have f:=eq_true c.2
  rw [show A0A code a i= [a+1] from if_pos c,c.1]
  simp -implicitDefEqProofs only [go_sem,f,b]
  refine⟨by omega,by omega,?_⟩
  refine A0.give (h':= []) 0 rfl rfl trivial ?_
  refine A0.pureF d ze ?_
  refine QL ?_
  exact O7 _ _ _
 ·rw [show A0A code a i= [] from if_neg c]
  cases hf:V9 i.op with
  |false=>simp -implicitDefEqProofs only [go_sem,N4,J9,List.append_nil,List.map_cons,List.map_nil,zrw]
  |true=>
   have f:=eq_false (fun h=>c ⟨hf,h⟩)
   refine Jc ?_
   omega):p:=h
theorem Jm{p:Prop}(h:p:=by
 obtain⟨x,f⟩: ∃x,q.ups[k]? =some x:=⟨q.ups[k],by simp [v]⟩
 have I:=r9 k x f
 have w:q.ups.take (k+1)=q.ups.take k++ [x]:=by rw [List.take_add_one,f];rfl
 have M:((k+1:Nat):Int)=(k:Int)+1:=by omega
 have htt:(T.map zrw).take T.length=T.map zrw:=List.take_of_length_le zd
 cases hloc:x.loc with
 |true=>
  have B:T++ [x.idx]=L++(((q.ups.take (k+1)).filter Upv.loc).map Upv.idx):=by rw [t,w,List.filter_append,List.map_append,←List.append_assoc];simp [hloc]
  have H:(T++ [x.idx]).length=T.length+1:=by simp
  have N:(T++ [x.idx]).map zrw=T.map zrw++ [[.int .i64 x.idx]]:=by simp [zrw]
  simp -implicitDefEqProofs only [go_sem,q0,q1,l9,z9,I,v,Upv.row,hloc,htl,X,htt,Option.some.injEq,forall_eq']
  refine⟨by omega,⟨by omega,by omega⟩,z _ (k+1,T++ [x.idx],D+1,D+1+1) ⟨by simp only;omega,B⟩ zg (by simp only [H,N,M];exact C1.wk (C1.of ze (fun e l=>by simp only [List.mem_cons]at l⊢;rcases l with h|h|h<;>simp only [h,eq_self,true_or,or_true]) (Nat.le_refl _)))⟩
 |false=>
  have B:T=L++(((q.ups.take (k+1)).filter Upv.loc).map Upv.idx):=by rw [t,w,List.filter_append,List.map_append,←List.append_assoc];simp [hloc]
  simp -implicitDefEqProofs only [go_sem,q0,q1,l9,z9,I,v,Upv.row,hloc,Option.some.injEq,forall_eq']
  refine⟨⟨by omega,by omega⟩,z _ (k+1,T,J,D+1) ⟨by simp only;omega,B⟩ zg (by simp only [M];exact C1.wk (C1.of ze (fun e l=>by simp only [List.mem_cons]at l⊢;rcases l with h|h|h<;>simp only [h,eq_self,true_or,or_true]) (Nat.le_refl _)))⟩):p:=h
theorem Jn{p:Prop}(h:p:=by
 repeat refine And.intro zd ?_
 refine⟨v,?_⟩
 refine(E m).mono ?_
 rintro r c d ⟨rfl,rfl⟩
 by_cases a:f x=true
 ·refine QP ?_
  subst i
  have:decide ((0:Int)≤k)=true:=decide_eq_true zd
  exact .is ⟨⟨k,rfl,by rw [this,K4 j a]⟩,rfl⟩
 ·have a:f x=false:=by simpa using a
  refine QP ?_
  refine⟨by omega,?_⟩
  exact w _ (k+1,d) ⟨by simp only;omega,E8 b j a⟩ zg (C1.wk ⟨F3.1 zP,fun _ h=>h,Nat.le_refl _⟩)):p:=h
theorem Jo{p:Prop}(h:p:=by
 have n:A0A code a i= [a+1]:=if_pos d
 rw [n,d.1]
 have o:=eq_true d.2
 refine QQ ?_
 refine⟨by omega,by omega,?_⟩
 refine A0.at [0] [1] (B1X [a+1] (m:=1) rfl zd zd _ _ _) rfl rfl ?_
 rintro r s p q ⟨rfl,rfl⟩
 refine QL ?_
 refine A0.at [0] [1] (A3z (W5 [a+1]) (m:=1) zI zd zd _ _ _) rfl rfl ?_
 rintro r s p q ⟨rfl,rfl⟩
 simp -implicitDefEqProofs only [go_sem,Z3,O7,Nat.le_add_right]
 try rfl):p:=h
theorem Jp{p:Prop}(h:p:=by
 rw [n]
 cases hf:V9 i.op with
 |false=>
  refine QX ?_
  refine A0.pure A7P ze ?_
  refine QL ?_
  refine A0.pure A1J ze ?_
  simp -implicitDefEqProofs only [go_sem,J9]
 |true=>
  have o:=eq_false (fun h=>d ⟨hf,h⟩)
  refine QQ ?_
  refine⟨by omega,?_⟩
  refine A0.pure A7P ze ?_
  refine QL ?_
  refine A0.pure A1J ze ?_
  simp -implicitDefEqProofs only [go_sem,J9]):p:=h
theorem Jq{p:Prop}(h:p:=by
 by_cases W:x.lo<0
 case pos=>
  obtain rfl:=g (by simp [r7,W])
  simp -implicitDefEqProofs only [go_sem,E,C,q,J,i,Vr.row,Option.some.injEq,forall_eq',d,D,G,I,M,W]
 by_cases v6:x.hi<x.lo
 case pos=>
  obtain rfl:=g (by simp [r7,v6])
  simp -implicitDefEqProofs only [go_sem,E,C,q,J,i,Vr.row,Option.some.injEq,forall_eq',d,D,G,I,M,W,v6]
 by_cases v7:(a.length:Int)<x.hi
 case pos=>
  obtain rfl:=g (by simp [r7,v7])
  simp -implicitDefEqProofs only [go_sem,E,C,q,J,i,Vr.row,Option.some.injEq,forall_eq',d,D,G,I,M,W,v6,v7]
 have R:r7 b a.length x=false:=by simp [r7,D,G,I,M,W,v6,v7]
 simp -implicitDefEqProofs only [go_sem,E,C,q,J,i,Vr.row,Option.some.injEq,forall_eq',d,D,G,I,M,W,v6,v7]
 refine⟨by omega,?_⟩
 exact ih _ (k+1,m+1) ⟨by simp only;omega,E8 n Q R⟩ zg Ql):p:=h
theorem Jr{p:Prop}(h:p:=by
 have f:=eq_true c.2
 rw [show A0A code a i= [a+1] from if_pos c,c.1]
 simp -implicitDefEqProofs only [go_sem,f,b]
 refine⟨by omega,by omega,?_⟩
 refine A0.give (h':= []) 0 rfl rfl trivial ?_
 refine A0.pureF d ze ?_
 refine QL ?_
 exact O7 _ _ _):p:=h
theorem Js{p:Prop}(h:p:=by
 have e:k=q.ups.length:=by omega
 subst e
 rw [List.take_length]at t
 rw [←t]at G
 have Z:=y T zd (by rw [t];intro x f;rcases List.mem_append.1 f with f|f;exact E x f;obtain⟨u,hu,rfl⟩:=List.mem_map.1 f;obtain⟨hu1,hu2⟩:=List.mem_filter.1 hu;exact hup u hu1 hu2)
 refine QN ?_
 refine A0.pre (xs':= [.isl (T.map zrw),.fn 178 [.ptr (155*10000+5) (n+1+1) 0 0]]) (h':= [((155*10000+5),n+1+1,.rows 3 [[.isl F,.int .i64 s.opn,.isl MS]])]) (n':=D) (.freeze (b:=(155*10000+65)) (st:=J) (sz:=1) (rs:=T.map zrw) List.mem_cons_self ⟨.of (.refl _),Frz.all (List.length_map ..).symm,trivial⟩ (.at 1 rfl zh (.of (.refl _)) trivial)) rfl ?_
 refine(Z _ ze _).mono ?_
 rintro rr h' n' ⟨rfl,rfl⟩
 refine QL ?_
 subst G;rw [j,Bool.true_and];exact .to ⟨rfl,rfl⟩ (.sub ze)):p:=h
theorem Jt{p:Prop}(h:p:=by
 simp only [h,eq_self,true_or,or_true]):p:=h
theorem Ju{p:Prop}(h:p:=by
 repeat refine⟨by omega,?_⟩
 subst I
 exact .to ⟨E,l,rfl,rfl⟩ (.turn id ⟨.refl _,trivial⟩ (.at 2 rfl rfl (.refl _) (.at 3 rfl rfl (.refl _) trivial)))):p:=h
theorem Jv{p:Prop}(h:p:=by
 have i:=rc k x Q
 simp -implicitDefEqProofs only [go_sem,E,C,k2,zc,i,Kst.row,Option.some.injEq,forall_eq']
 have g:A5J x=true→4=z:=fun U=>(H ▸ if_neg (fun h=>by simp [K4 Q U]at h):z=4).symm
 have P:((k+1:Nat):Int)=(k:Int)+1:=by omega
 refine⟨d,fun O=> ?_,fun O=>g (by simp [A5J,O])⟩
 have hv:=B7p x zd
 simp only [Kst.row]at hv
 refine A0.pureF hv ze ?_
 by_cases s:A0w x=true
 ·have R:A5J x=false:=by simp only [A5J,s,decide_eq_false O];rfl
  simp -implicitDefEqProofs only [go_sem,s]
  refine⟨by omega,?_⟩
  exact ih _ (k+1,m+1) ⟨by simp only;omega,E8 n Q R⟩ zg Ql
 ·have s:A0w x=false:=by simpa only [Bool.not_eq_true]using s
  have:=g (by simp [A5J,s])
  simp -implicitDefEqProofs only [go_sem,s,this]):p:=h
theorem Jw{p:Prop}(h:p:=by
 have e:k=l.length:=by omega
 subst e
 have g:((l.length:Int)<(l.length:Int))=False:=Jj
 have A:=C1N l r
 cases h:M3 l r l.length with
 |true=>
  rw [h,if_pos rfl]at A
  rw [A]
  simp -implicitDefEqProofs only [go_sem,a,g,h,A4e,List.drop_zero,Nat.zero_add,List.length_map,List.take_length,O7,Nat.le_refl]
 |false=>
  rw [h,if_neg zf]at A
  rw [A]
  simp -implicitDefEqProofs only [go_sem,a,g,h]
  refine⟨by omega,?_⟩
  rw [List.take_of_length_le zf,show List.map zrw (A9I l r l.length)++ [[V.int .i64 r]]=(A9I l r l.length++ [r]).map zrw from by simp [zrw]]
  exact O7 _ _ _):p:=h
theorem Jx{p:Prop}(h:p:=by
 by_cases G:b≤x.reg
 case pos=>
  obtain rfl:=g (by simp [r7,G])
  simp -implicitDefEqProofs only [go_sem,E,C,q,J,i,Vr.row,Option.some.injEq,forall_eq',d,D,G]
 by_cases I:x.attr<0
 case pos=>
  obtain rfl:=g (by simp [r7,I])
  simp -implicitDefEqProofs only [go_sem,E,C,q,J,i,Vr.row,Option.some.injEq,forall_eq',d,D,G,I]
 by_cases M:2<x.attr
 case pos=>
  obtain rfl:=g (by simp [r7,M])
  simp -implicitDefEqProofs only [go_sem,E,C,q,J,i,Vr.row,Option.some.injEq,forall_eq',d,D,G,I,M]
 exact Jq):p:=h
theorem Jy{p:Prop}(h:p:=by
 subst E
 exact .to ⟨u,d,rfl,rfl⟩ (.turn id ⟨.refl _,trivial⟩ (.at 2 rfl rfl (.refl _) (.at 3 rfl rfl (.refl _) trivial)))):p:=h
theorem Jz{p:Prop}(h:p:=by
 have J: ¬r≤x:=by rcases j with n|n;rw [h]at n;cases n;exact n
 have B:=eq_false J
 have D:decide (r≤x)=false:=by simp;omega
 rw [h,D,Bool.or_false]at f
 simp -implicitDefEqProofs only [go_sem,a,t,b,q,g,v,h,B,y,Option.some.injEq,forall_eq']
 refine⟨by omega,by omega,?_⟩
 refine o _ (k+1,m,m+1) zg zg ?_
 simp only [w,d,f,List.map_append,List.length_append,List.map_cons,List.map_nil,List.length_cons,List.length_nil,zrw]
 exact ze):p:=h
theorem JA{p:Prop}(h:p:=by
 simp only at Y t z⊢
 have htl:(T.map zrw).length=T.length:=List.length_map ..
 have X:=H1 T
 have hTl:T.length≤20000:=by
  rw [t,List.length_append,List.length_map]
  have P:=List.length_filter_le Upv.loc (q.ups.take k)
  have h2:=List.length_take_le k q.ups
  rw [List.length_take]at P
  omega
 refine Run.unf d9 (Run.go 100 ?_)
 by_cases v:k<q.ups.length
 ·have q0:((k:Int)<(q.ups.length:Int))=True:=Ji
  have q1:((0:Int)≤(k:Int))=True:=Ji
  exact Jm
 ·exact Js):p:=h
theorem JB{p:Prop}(h:p:=by
 refine⟨by have:=of_eq_true R;omega,?_⟩
 refine Run.keep [55,54,53,7,5] ?_
 refine Run.roundsK (fun(x:Nat×List Int×Nat×Nat)=>⟨[(55,.int .i64 x.1),(54,.int .i64 q.ups.length),(53,.isl U),(7,.sl (155*10000+65) x.2.2.1 0 x.2.1.length),(5,.ptr (155*10000+5) (n+1+1) 0 0)],
   [((155*10000+65),x.2.2.1,.rows 1 (x.2.1.map zrw)),((155*10000+5),n+1+1,.rows 3 [[.isl F,.int .i64 s.opn,.isl MS]])],x.2.2.2⟩)
  (fun x=>x.1≤q.ups.length∧x.2.1=L++(((q.ups.take x.1).filter Upv.loc).map Upv.idx)) (fun x=>q.ups.length-x.1) (0,L,st,m) ?_ ⟨Nat.zero_le _,by simp⟩ ?_
 ·exact .turn (fun x=>if x=(155*10000+43)then(155*10000+65)else x) ⟨.refl _,.refl _,.refl _,.sl,.refl _,trivial⟩ (.at 0 rfl rfl (.refl _) (.at 1 rfl rfl (.refl _) trivial))
 rintro⟨k,T,J,D⟩ ⟨Y,t⟩ z
 exact JA):p:=h
theorem JC{p:Prop}(h:p:=by
 rw [if_neg e]at d
 have y:=eq_false e
 cases h:M3 l r k with
 |true=>
  rw [h,Bool.true_or]at f
  simp -implicitDefEqProofs only [go_sem,a,t,b,q,g,v,h,y,Option.some.injEq,forall_eq']
  refine⟨by omega,by omega,?_⟩
  refine o _ (k+1,m,m+1) zg zg ?_
  simp only [w,d,f,List.map_append,List.length_append,List.map_cons,List.map_nil,List.length_cons,List.length_nil,zrw]
  simp -implicitDefEqProofs only [go_sem]
 |false=>
  exact Jz):p:=h
theorem JD{p:Prop}(h:p:=by
 exact⟨⟨false,by first|exact A2G g _|exact Z9 g _|exact A2F g _,by cases neg<;>simpa using h.symm⟩,⟨_,rfl⟩,⟨_,rfl⟩⟩):p:=h
theorem JE{p:Prop}(h:p:=by
 have E:((k:Int)<(v.length:Int))=True:=Ji
 have C:((0:Int)≤(k:Int))=True:=Ji
 obtain⟨x,Q⟩: ∃x,v[k]? =some x:=⟨v[k],by simp [d]⟩
 have i:=rv k x Q
 have g:r7 b a.length x=true→z=4:=fun U=>H ▸ if_neg (fun h=>by simp [K4 Q U]at h)
 have P:((k+1:Nat):Int)=(k:Int)+1:=by omega
 by_cases D:x.reg<0
 case pos=>
  obtain rfl:=g (by simp [r7,D])
  simp -implicitDefEqProofs only [go_sem,E,C,q,J,i,Vr.row,Option.some.injEq,forall_eq',d,D]
 exact Jx):p:=h
theorem JF{p:Prop}(h:p:=by
 refine q rfl ?_
 have l: ∀h n,(⟨s.sl,h,n⟩:St).ev x=s.ev x:=fun h n=>E1.ev fun _ _=>rfl
 simp only [C3,l]
 exact Q8 _):p:=h
theorem JG{p:Prop}(h:p:=by
 rw [if_pos e,List.append_nil]at d
 have y:=eq_false (fun h: ¬x=r=>h e)
 subst e
 simp -implicitDefEqProofs only [go_sem,a,t,b,q,g,v,i,Option.some.injEq,forall_eq',Int.le_refl]
 refine⟨by omega,by omega,?_⟩
 refine o _ (k+1,m,m+1) zg zg ?_
 simp only [w,d,f,List.map_append,List.length_append,List.map_cons,List.map_nil,List.length_cons,List.length_nil,zrw,Bool.false_or]
 exact ze):p:=h
theorem JH{p:Prop}(h:p:=by
 rw [if_neg e]at d
 have y:=eq_false e
 simp -implicitDefEqProofs only [go_sem,a,t,b,q,g,v,i,B,y,Option.some.injEq,forall_eq']
 refine⟨by omega,by omega,by omega,?_⟩
 refine o _ (k+1,m+1,m+1+1) zg zg ?_
 simp only [w,d,f,List.map_append,List.length_append,List.map_cons,List.map_nil,List.length_cons,List.length_nil,zrw,Bool.false_or]
 refine QL ?_
 rw [List.take_of_length_le zf]):p:=h
theorem JI{p:Prop}(h:p:=by
 subst hQ
 refine Z2.to (r2:= .agg (C0 g p).row) (h2:= []) (n2:=m+1+1) ?_ ?_
 ·generalize (C0 g p).row=ER at*
  refine QL ?_
  exact u
 ·rw [d]
  exact .freeze (b:=eN 22) (st:=st) (sz:=11) (rs:=LL) zf ⟨Frz.agg ⟨.of (.refl _),.of (.refl _),.of (.refl _),.of (.refl _),.of (.refl _),.of (.refl _),.of (.refl _),.of (.refl _),Frz.all n.symm,.of (.refl _),.of (.refl _),trivial⟩,trivial⟩ trivial):p:=h
theorem JJ{p:Prop}(h:p:=by
 have l10:=I4 n
 subst hB
 simp -implicitDefEqProofs only [go_sem,Int.lt_irrefl,L,K,q]
 refine Run.keep [75,74,73,3,1] ?_
 refine Run.rounds (fun(x:Nat×Nat)=>⟨[(75,.int .i64 x.1),(74,.int .i64 v.length),(73,.isl t),(3,.int .i64 a.length),(1,.ptr (103*10000+1) 0 0 0)],[((103*10000+1),0,.rows 11 ([[V.str T,.int .i64 A,.int .i64 f,.bool y,.int .i64 b,.isl F,.isl w,.isl j,.isl o,.isl S,.isl t]]:List (List V)))],x.2⟩) (fun x=>x.1≤v.length∧(v.take x.1).any (r7 b a.length)=false) (fun x=>v.length-x.1) (0,m) ze ⟨Nat.zero_le _,rfl⟩ ?_
 clear n d Y ih m
 rintro⟨k,m⟩ ⟨Y,n⟩ ih
 simp only at Y n ih⊢
 refine Run.unf A0y (Run.go 100 ?_)
 by_cases d:k<v.length
 ·exact JE
 have e:k=v.length:=by omega
 subst e
 have l11:=I4 n
 obtain rfl:z=0:=H ▸ if_pos ⟨l1,l2,l3,l4,l5,l6d,X,Z,l10,l11⟩
 exact QB):p:=h
theorem JK{p:Prop}(h:p:=by
 have fin: ∀s,M3 l r (k+1)=M3 l r k→_:=fun s h=>o s (k+1,m,m+1) zg zg
 by_cases e:x=r
 ·rw [if_pos e,List.append_nil]at d
  have K:M3 l r (k+1)=M3 l r k:=by
   rw [f];rcases j with h|h
   ·rw [h];rfl
   ·omega
  rcases j with h|h
  ·subst e
   simp -implicitDefEqProofs only [go_sem,a,t,b,q,g,v,h,Option.some.injEq,forall_eq']
   refine⟨by omega,?_⟩
   refine o _ (k+1,E,m) zg zg ?_
   simp only [w,d,K,h]
   exact ze
  ·omega
 ·exact JC):p:=h
theorem JL{p:Prop}(h:p:=by
 rw [if_pos e,List.append_nil]at d
 have K:M3 l r (k+1)=M3 l r k:=by
  rw [f];rcases j with h|h
  ·rw [h];rfl
  ·omega
 rcases j with h|h
 ·subst e
  simp -implicitDefEqProofs only [go_sem,a,t,b,q,g,v,h,Option.some.injEq,forall_eq']
  refine⟨by omega,?_⟩
  refine o _ (k+1,E,m) zg zg ?_
  simp only [w,d,K,h]
  exact ze
 ·omega):p:=h
theorem JM{p:Prop}(h:p:=by
 obtain rfl:z=4:=e ▸ if_neg (fun h=>by simp at h)
 exact ze):p:=h
theorem JN{p:Prop}(h:p:=by
 generalize p.row=r at*
 generalize q.row=f at*
 simp -implicitDefEqProofs only [go_sem,A4,b,o]
 refine A0.pureF h zJ ?_
 simp -implicitDefEqProofs only [go_sem,b,o,e,d,Nat.reduceDiv]
 exact a):p:=h
theorem JO{p:Prop}(h:p:=by
 refine C1.of ze (fun e g=> ?_) (Nat.le_refl _)
 simp only [List.mem_cons]at g⊢
 rcases g with h|h|h|h|h|h|h|h
 ·exact Jt
 ·exact Jt
 ·exact Jt
 ·simp only [h,hmemB,eq_self,true_or,or_true]
 ·exact Jt
 ·exact Jt
 ·exact Jt
 ·simp only [(A2.mem_del.1 h).1,or_true]):p:=h
theorem JP{p:Prop}(h:p:=by
 rw [Bool.eq_false_iff]
 intro a
 simp only [Bool.and_eq_true,decide_eq_true_eq]at a
 obtain⟨_⟩:=x;obtain⟨_⟩:=y
 simp_all):p:=h
theorem JQ{p:Prop}(h:p:=by
 have e:k=l.length:=by omega
 subst e
 refine QN ?_
 subst i
 exact .is ⟨⟨-1,rfl,by rw [I4 b];rfl⟩,rfl⟩):p:=h
theorem JR{p:Prop}(h:p:=by
 have Z:N.any (fun u=>decide (u.idx<0))=false:=by simpa only [Bool.not_eq_true]using Z
 simp -implicitDefEqProofs only [go_sem,Z,L,K,k1,k2,k3,q]
 refine Run.keep [59,58,57,3,1] ?_
 generalize hB:([[V.str T,.int .i64 A,.int .i64 f,.bool y,.int .i64 b,.isl F,.isl w,.isl j,.isl o,.isl S,.isl t]]:List (List V))=B at*
 refine Run.rounds (fun(x:Nat×Nat)=>⟨[(59,.int .i64 x.1),(58,.int .i64 c.length),(57,.isl j),(3,.int .i64 a.length),(1,.ptr (103*10000+1) 0 0 0)],[((103*10000+1),0,.rows 11 B)],x.2⟩) (fun x=>x.1≤c.length∧(c.take x.1).any A5J=false) (fun x=>c.length-x.1) (0,n') ze ⟨Nat.zero_le _,rfl⟩ ?_
 rintro⟨k,m⟩ ⟨Y,n⟩ ih
 simp only at Y n ih⊢
 refine Run.unf A3G (Run.go 100 ?_)
 by_cases d:k<c.length
 ·have E:((k:Int)<(c.length:Int))=True:=Ji
  have C:((0:Int)≤(k:Int))=True:=Ji
  obtain⟨x,Q⟩: ∃x,c[k]? =some x:=⟨c[k],by simp [d]⟩
  exact Jv
 have e:k=c.length:=by omega
 subst e
 exact JJ):p:=h
theorem JS{p:Prop}(h:p:=by
 have f:=B1u (r:=r) C
 by_cases z:M3 l r k=false∧r≤x
 ·rw [if_pos z]at d
  obtain⟨i,u⟩:=z
  have D:decide (r≤x)=true:=by simp [u]
  rw [i,D]at f
  have B:=eq_true u
  by_cases e:x=r
  ·exact JG
  ·exact JH
 ·rw [if_neg z,List.append_nil]at d
  have j:M3 l r k=true∨ ¬r≤x:=by
   cases h:M3 l r k with
   |true=>exact .inl rfl
   |false=>exact .inr fun n=>z ⟨h,n⟩
  exact JK):p:=h
theorem JT{p:Prop}(h:p:=by
 refine QM ?_
 refine(o n).mono ?_
 rintro r c d ⟨⟨z,rfl,G⟩,rfl⟩
 refine QT ?_
 subst i
 exact .is ⟨rfl,rfl⟩):p:=h
theorem JU{p:Prop}(h:p:=by
 by_cases c:y=0
 ·subst c
  rw [Nat.gcd_zero_right]at h
  exact zC
 ·have q:((y:Int)=0)=False:=Jj
  have d:(x:Int).tmod (y:Int)=((x%y:Nat):Int):=(Int.ofNat_tmod x y).symm
  simp -implicitDefEqProofs only [go_sem,q,d]
  refine i _ (y,x%y) ?_ (Nat.mod_lt _ zd) ze
  simp only
  rw [←h,Nat.gcd_comm x y,Nat.gcd_rec y x,Nat.gcd_comm]):p:=h
theorem JV{p:Prop}(h:p:=by
 refine QL ?_
 refine⟨by omega,fin _ n2 (C1.wk (C1.of zp (fun e f=> ?_) (Nat.le_refl _)))⟩
 simp only [List.mem_cons,List.mem_append,List.not_mem_nil,or_false]at f⊢
 rcases f with h|h|h
 ·exact Jt
 ·exact Jt
 ·rcases hput e h with h|h<;>simp only [h,eq_self,true_or,or_true]):p:=h
theorem JW{p:Prop}(h:p:=by
 repeat refine⟨by omega,?_⟩
 subst I
 exact .to ⟨E,l,rfl,rfl⟩ (.turn id ⟨.refl _,trivial⟩ (.at 1 rfl rfl (.refl _) (.at 3 rfl rfl (.refl _) trivial)))):p:=h
theorem JX{p:Prop}(h:p:=by
 refine A0.at [0] [1] (B1X [i.b] (m:=1) rfl zd zd _ _ _) rfl rfl ?_
 rintro r s p q ⟨rfl,rfl⟩
 refine QL ?_
 refine A0.at [0] [1] (A3z (W5 [i.b]) (m:=1) zI zd zd _ _ _) rfl rfl ?_
 rintro r s p q ⟨rfl,rfl⟩
 simp -implicitDefEqProofs only [go_sem,Z3,O7,Nat.le_add_right]
 try rfl):p:=h
theorem JY{p:Prop}(h:p:=by
 refine Run.go 100 ?_
 refine QM ?_
 repeat' (first|refine And.intro ?_ ?_|refine fun h=> ?_)
 all_goals simp_all):p:=h
theorem JZ{p:Prop}(h:p:=by
 refine(cl _ zj (fun x _ m=>C1F x _ m) _).mono ?_
 rintro r h' n' ⟨rfl,rfl⟩
 by_cases X:l.any (fun z=>decide (z<0))=true
 ·obtain rfl:z=4:=H ▸ if_neg (fun h=>by simp [X]at h)
  exact Qx
 have X:l.any (fun z=>decide (z<0))=false:=by simpa only [Bool.not_eq_true]using X
 simp -implicitDefEqProofs only [go_sem,X,L,K]
 refine(cu _ zj (fun u _ m=>C9d u _ m) _).mono ?_
 rintro r h' n' ⟨rfl,rfl⟩
 by_cases Z:N.any (fun u=>decide (u.idx<0))=true
 ·obtain rfl:z=4:=H ▸ if_neg (fun h=>by simp [Z]at h)
  exact Qk
 exact JR):p:=h
theorem Xa{p:Prop}(h:p:=by
 rename_i f
 obtain⟨rfl,u⟩:=f
 split at h
 ·rename_i z m
  split at h
  ·rename_i B j
   split at h
   ·rename_i q
    injection h with h
    subst h
    obtain⟨v,g⟩:=B3y j
    exact C2E y rfl r n m u v g q rfl x A hk
   ·cases h
  ·cases h
 ·cases h):p:=h
theorem Xb{p:Prop}(h:p:=by
 simp -implicitDefEqProofs only [go_sem,E0,j,g,t,R,S,p,J,q,M,L,k,z,Option.some.injEq,forall_eq']
 refine⟨⟨by omega,by omega⟩,⟨by omega,by omega⟩,?_⟩
 subst E
 exact .to ⟨u,d,rfl,rfl⟩ (.turn id ⟨.refl _,trivial⟩ (.at 1 rfl rfl (.refl _) (.at 3 rfl rfl (.refl _) trivial)))):p:=h
theorem Xc{p:Prop}(h:p:=by
 obtain⟨v,w⟩:=H A k
 cases hf:f A with
 |false=>
  rw [hf]at j g d
  have:=d ⟨O,rfl⟩
  subst this
  refine Run.go 100 ?_
  refine Jh ?_
  exact JW
 |true=>
  rw [hf]at j g
  have:=g (fun h=>by simp at h)
  subst this
  refine Run.go 100 ?_
  refine Jh ?_
  exact Ju):p:=h
theorem Xd{p:Prop}(h:p:=by
 injection b with b
 subst b
 have e:=h.cst_inv
 subst e
 exact⟨⟨rfl,fun i c u d a=>by cases i with|zero=>(simp [Value.cells]at d a;subst d;subst a;exact .cst _)|succ i=>simp at d⟩,fun i u a=>by cases i with|zero=>(simp [Value.cells]at a;subst a;rfl)|succ i=>simp [Value.cells]at a⟩):p:=h
theorem Xe{p:Prop}(h:p:=by
 have G:=C1O l r k
 by_cases c:(k:Int)<l.length
 ·obtain⟨x,C⟩: ∃x,l[k]? =some x:=⟨l[k]' zd,by simp⟩
  have t:=p k x C
  have q:((0:Int)≤(k:Int))=True:=Ji
  have g:((k:Int)<(l.length:Int))=True:=eq_true c
  have v:(k<l.length)=True:=Ji
  have d:=B8H F (r:=r) C
  exact JS
 ·exact Jw):p:=h
theorem Xf{p:Prop}(h:p:=by
 repeat refine And.intro zd ?_
 exact z _ (k+1) ⟨by omega,Y4 f o n⟩ zd zy):p:=h
theorem Xg{p:Prop}(h:p:=by
 refine A0.pureF (A4Z i) ze ?_
 by_cases d:V9 i.op=true∧a+1<code.length
 ·exact Jo
 ·have n:A0A code a i= []:=if_neg d
  exact Jp):p:=h
theorem Xh{p:Prop}(h:p:=by
 simp only [List.mem_cons]at t⊢
 rcases t with h|h|h|h<;>simp only [h,eq_self,true_or,or_true]):p:=h
theorem Xi{p:Prop}(h:p:=by
 by_cases m:cs.length=P.cellsOf t
 ·simp only [m,if_true,Option.map_eq_some_iff]at h
  obtain⟨q,o,rfl⟩:=h
  exact⟨m,q,o,fun n z=>g n (by simpa only [DataW.weights,hu]using z)⟩
 ·simp only [m,if_false]at h
  cases h):p:=h
theorem Xj{p:Prop}(h:p:=by
 rw [List.getElem?_append_right b]at a
 have:i-R.length=0:=by
  have:=(List.getElem?_eq_some_iff.1 a).1
  simp at this;omega
 rw [this]at a
 obtain rfl:=Option.some.inj a
 exact⟨r,by rw [List.getElem?_append_right b,this];rfl,h⟩):p:=h
theorem Xk{p:Prop}(h:p:=by
 simp only [C1e,List.mem_cons]at t⊢
 rcases t with h|h|h|h|h
 ·exact Jt
 ·exact Jt
 ·exact Jt
 ·exact Jt
 ·rcases hputm _ _ h with h|h
  ·exact Jt
  ·simp only [h,or_true]):p:=h
theorem Xl{p:Prop}(h:p:=by
 have h:((a.length:Int)=(b.length:Int))=False:=Jj
 have f: ¬a=b:=fun e=>r zm
 exact Qq):p:=h
theorem Xm{p:Prop}(h:p:=by
 simp -implicitDefEqProofs only [go_sem,q2,q3,P,zu,D,Upv.row,d,v,t,g4,g9,c,J,ge_iff_le,Option.some.injEq,forall_eq']
 refine⟨by omega,?_⟩
 exact V _ (j+1) ⟨by omega,E8 M hu F⟩ zd (by simp -implicitDefEqProofs only [go_sem,R])):p:=h
theorem Xn{p:Prop}(h:p:=by
 refine⟨by kernel_rfl,?_⟩
 refine(B8A _ _ _).mono ?_
 rintro r h a ⟨rfl,rfl⟩
 refine QL ?_
 subst b
 exact .to (r2:= .bool _) (n2:=a) ⟨rfl,rfl⟩ (.turn id ⟨.refl _,trivial⟩ (.at 1 rfl rfl (.refl _) (.at 2 rfl rfl (.refl _) trivial)))):p:=h
theorem Xo{p:Prop}(h:p:=by
 exact⟨⟨by omega,by omega⟩,ih _ (k+1,n3) ⟨by simp only;omega,E8 y z D⟩ zg (C1.wk (C1.of zp (fun e C=>by
  simp only [List.mem_cons]at C⊢
  rcases C with h|h|h|h<;>simp only [h,eq_self,true_or,or_true]) (Nat.le_refl _)))⟩):p:=h
theorem Xp{p:Prop}(h:p:=by
 obtain⟨A,p⟩: ∃A:Nat,i.a+3=A:=⟨(i.a+3).toNat,by omega⟩
 rw [p]at P g d
 have k:A<N:=by omega
 rw [Int.toNat_natCast]at g d
 have L:((0:Int)≤(A:Int))=True:=Ji
 have M:((A:Int)<(N:Int))=True:=Ji
 have j:=G A k
 exact Xc):p:=h
theorem Xq{p:Prop}(h:p:=by
 obtain⟨⟨c,l,j⟩,⟨a,z⟩,⟨b,v⟩⟩:=f
 refine fin c l QI ?_ j
 rw [z,v]at l⊢
 cases neg<;>simp [binOp,l]):p:=h
theorem Xr{p:Prop}(h:p:=by
 intro e t
 simp only [List.mem_cons]at t
 rcases t with h|h|h|h|h
 ·simp [h]
 ·simp [h]
 ·simp [h]
 ·simp [h]
 ·rw [←hfm]at h
  obtain⟨j,_,rfl⟩:=A0W.1 h
  simp only [t6];omega):p:=h
theorem Xs{p:Prop}(h:p:=by
 refine⟨d,by omega,by omega,?_⟩
 exact E _ (k+1) ⟨by omega,Y4 g q o⟩ zd zZ):p:=h
theorem Xt{p:Prop}(h:p:=by
 intro e f
 simp only [List.mem_cons,List.not_mem_nil,or_false]at f
 rcases f with h|h|h|h<;>rw [h]<;>simp only<;>omega):p:=h
theorem Xu{p:Prop}(h:p:=by
 exact⟨False,.undef,fun _ _=>by simp⟩):p:=h
theorem Xv{p:Prop}(h:p:=by
 exact a.no.elim):p:=h
theorem Xw{p:Prop}(h:p:=by
 split at h
 ·exact⟨h.1,h.2.1,hk _ _ _ h.2.2⟩
 ·exact h):p:=h
theorem Xx{p:Prop}(h:p:=by
 simp -implicitDefEqProofs only [go_sem]):p:=h
theorem Xy{p:Prop}(h:p:=by
 exact⟨⟨by omega,by omega⟩,fin _ (m+1) (.turn id ⟨.refl _,.refl _,.refl _,.refl _,.refl _,.refl _,trivial⟩ (.at 1 rfl rfl (.refl _) (.at 2 rfl rfl (.refl _) (.at 3 rfl rfl (.refl _) (.of fun e l=>by cases l)))))⟩):p:=h
theorem Xz{p:Prop}(h:p:=by
 exact⟨by omega,⟨by omega,by omega⟩,fin _ m (m+1) (.turn id ⟨.refl _,.refl _,.refl _,.refl _,.refl _,.refl _,trivial⟩ (.at 0 rfl rfl (.refl _) (.at 1 rfl rfl (.refl _) (.at 2 rfl rfl (.refl _) trivial))))⟩):p:=h
theorem XA{p:Prop}(h:p:=by
 simp -implicitDefEqProofs only [go_sem,W,Z,L,S,s,Upv.row,b,v,t,Y,U,Q,F,ge_iff_le,Option.some.injEq,forall_eq']
 refine⟨by omega,?_⟩
 exact H _ (j+1,m+1) ⟨by simp only;omega,E8 o X A⟩ zg QC):p:=h
theorem XB{p:Prop}(h:p:=by
 simp only [G7]at this
 simp -implicitDefEqProofs only [go_sem,A4,m,l]
 refine A0.pureF C Qh ?_
 exact zQ):p:=h
theorem XC{p:Prop}(h:p:=by
 refine q rfl ?_
 have l: ∀h n,(⟨s.sl,h,n⟩:St).ev x=s.ev x:=fun h n=>E1.ev fun _ _=>rfl
 have g: ∀h n,(⟨s.sl,h,n⟩:St).ev y=s.ev y:=fun h n=>E1.ev fun _ _=>rfl
 simp only [C3,l,g]
 exact Q8 _):p:=h
theorem XD{p:Prop}(h:p:=by
 exact .turn id ⟨.refl _,.refl _,.refl _,.refl _,trivial⟩ (.at 0 rfl rfl (L1.snocL ⟨.refl _,.refl _,.refl _,.refl _,.refl _,.refl _,.nilI,.nilI,.nilI,.refl _,.nilI,trivial⟩) (.of fun e a=>by cases a))):p:=h
theorem XE{p:Prop}(h:p:=by
 simp only [List.mem_cons]at g⊢
 rcases g with h|h|h|h
 ·exact Jt
 ·exact Jt
 ·exact Jt
 ·rcases hput e h with h|h<;>simp only [h,eq_self,true_or,or_true]):p:=h
theorem XF{p:Prop}(h:p:=by
 have tk:TV.take i=TV:=List.take_of_length_le zd
 have tb:Nat.ble i TV.length=true:=Nat.ble_eq_true_of_le zd
 simp -implicitDefEqProofs only [go_sem,Int.lt_irrefl,tk,tb,tl2]
 exact hfz _ _):p:=h
theorem XG{p:Prop}(h:p:=by
 simp -implicitDefEqProofs only [go_sem,A4,a,h]
 refine⟨⟨by omega,?_⟩,fun d=> ?_⟩
 ·subst b;exact .is ⟨_,rfl,rfl⟩
 ·subst d;rw [←h]at b;subst b
  exact .to ⟨n,rfl,rfl⟩ (C9g _ n)):p:=h
theorem XH{p:Prop}(h:p:=by
 simp -implicitDefEqProofs only [go_sem,q0,q1,w0,w1,I,l1,s1,hlx,hgx,hbq,P,Y,w,Nat.mul_one,Option.some.injEq,forall_eq']
 refine⟨by omega,v _ (C1.wk (C1.of zw (fun e t=>t) ze))⟩):p:=h
theorem XI{p:Prop}(h:p:=by
 have e:k=a.length:=by omega
 subst e
 exact Qf):p:=h
theorem XJ{p:Prop}(h:p:=by
 rw [f]at d
 simp -implicitDefEqProofs only [go_sem,A4,a,b,c,e,i,gt_iff_lt]
 refine⟨by omega,?_⟩
 refine A0.pureF d ze ?_
 simp -implicitDefEqProofs only [go_sem,h,g,j]):p:=h
theorem XK{p:Prop}(h:p:=by
 rw [←s]
 simp [G7,show¬(p.consts.length:Int)≤ -1 by omega]):p:=h
theorem XL{p:Prop}(h:p:=by
 refine QL ?_
 exact⟨⟨by omega,by omega⟩,j (by rw [e];simp [N]) _ (m+1) zn⟩):p:=h
theorem XM{p:Prop}(h:p:=by
 exact C1.wk (C1.of ze (fun e g=>by simp only [Ins.row,c,f]at g⊢;exact g) (Nat.le_refl _))):p:=h
theorem XN{p:Prop}(h:p:=by
 rw [List.getElem?_append_right zl]
 simp only [List.length_map,List.length_take,Nat.min_eq_left (Nat.le_of_lt a),Nat.sub_self,List.getElem?_drop,Nat.add_zero]
 exact h):p:=h
theorem XO{p:Prop}(h:p:=by
 simp [Builtin.append_,run_underlying q,run_underlying C,sizeOf,typeInfo,zeroValue,v,B,D,r,d,h,Question.forced,A,y,newRow,grownCap]
 congr 2;apply Array.ext';simp):p:=h
theorem XP{p:Prop}(h:p:=by
 refine⟨by omega,C _ (C1.wk (C1.of zw (fun e t=>by rw [←hfm2]at*;exact t) ze))⟩):p:=h
theorem XQ{p:Prop}(h:p:=by
 simp only
 split at a
 ·rename_i e
  obtain⟨c,a⟩:=a.g
  simp only [Bool.and_eq_true]at c
  rw [e]
  exact⟨c.1,B1B c.2,a.one⟩
 ·exact Xv):p:=h
theorem XR{p:Prop}(h:p:=by
 exact .is ⟨rfl,rfl⟩):p:=h
theorem XS{p:Prop}(h:p:=by
 by_cases c:x=(i.a+3).toNat
 ·have e:(x:Int)=i.a+3:=by omega
  rw [if_pos c];simp [e]
 ·have e: ¬(x:Int)=i.a+3:=by omega
  rw [if_neg c];simp [e]):p:=h
theorem XT{p:Prop}(h:p:=by
 simp only [List.getElem?_take,List.getElem?_drop,List.getElem?_cons_zero,Nat.add_zero]at this
 split at this
 ·exact this
 ·cases this):p:=h
theorem XU{p:Prop}(h:p:=by
 simp -implicitDefEqProofs only [go_sem,E0,j,g,t,R,S,p,q,k,z,Option.some.injEq,forall_eq']
 refine⟨⟨by omega,by omega⟩,?_⟩
 exact Jy):p:=h
theorem XV{p:Prop}(h:p:=by
 refine QY ?_
 exact⟨f9 c,fun e=>e.symm⟩):p:=h
theorem XW{p:Prop}(h:p:=by
 simp only [List.mem_cons,List.mem_append,List.not_mem_nil,or_false]at g⊢
 rcases g with h|h|h|h|h<;>simp only [h,eq_self,true_or,or_true]):p:=h
theorem XX{p:Prop}(h:p:=by
 refine⟨by simp [g],fun i d e=> ?_⟩
 cases i with
 |zero=>simp at e;subst e;exact⟨a,rfl,h.1⟩
 |succ i=>exact f i d (by simpa using e)):p:=h
theorem XY{p:Prop}(h:p:=by
 refine Z.mono ?_
 rintro rr h' n' ⟨rfl,rfl⟩
 refine QL ?_
 subst G;rw [j,Bool.true_and];exact .to ⟨rfl,rfl⟩ (.sub ze)):p:=h
theorem XZ{p:Prop}(h:p:=by
 intro x a
 rw [Fn.each_eq]at a
 rcases List.mem_cons.1 a with rfl|a
 ·exact h
 ·obtain⟨q,c,a⟩:=Fn.mem_eachs.1 a
  exact b q c x a):p:=h
theorem Ya{p:Prop}(h:p:=by
 refine⟨by omega,fin _ zN⟩):p:=h
theorem Yb{p:Prop}(h:p:=by
 refine C1.wk (C1.of ze (fun e t=>t) ze)):p:=h
theorem Yc{p:Prop}(h:p:=by
 have c:((a.length:Int)=(b.length:Int))=False:=Jj
 have f: ¬a=b:=fun e=>r zm
 simp -implicitDefEqProofs only [go_sem,A4,n,m,c,f]):p:=h
theorem Yd{p:Prop}(h:p:=by
 have htk:U.take N=U:=List.take_of_length_le zd
 simp -implicitDefEqProofs only [go_sem,hsub,hfg,hsz,hsb,hlb,htk,hbqa,R,A4s]):p:=h
theorem Ye{p:Prop}(h:p:=by
 obtain⟨n4,rfl,_⟩:=e.int_inv Tryz.underlying3
 obtain⟨g,rfl,_⟩:=b.int_inv Tryz.underlying3
 exact⟨⟨f,a,n,n4,g⟩,rfl⟩):p:=h
theorem Yf{p:Prop}(h:p:=by
 refine Run.go 100 ?_
 refine QL ?_
 subst b
 exact .is rfl):p:=h
theorem Yg{p:Prop}(h:p:=by
 simp -implicitDefEqProofs only [go_sem,t,v,b,j,g,n,p,o,Option.some.injEq,forall_eq']
 refine A0.pureF q ze ?_
 exact Jl):p:=h
theorem Yh{p:Prop}(h:p:=by
 have g: ∀h n,(⟨s.sl,h,n⟩:St).ev x=s.ev x:=fun h n=>E1.ev fun _ _=>rfl
 refine w rfl ?_
 simp only [C3,g]
 exact C _):p:=h
theorem Yi{p:Prop}(h:p:=by
 refine⟨by simp only [h,eq_self,true_or,or_true],fun e' P=> ?_⟩
 rcases P with I|I<;>rw [h,I]<;>simp only<;>omega):p:=h
theorem Yj{p:Prop}(h:p:=by
 exact .to ⟨_,rfl,rfl⟩ (.turn id ⟨.agg ⟨.refl _,.refl _,.nilI,trivial⟩,trivial⟩ (.at 2 rfl rfl (.refl _) trivial))):p:=h
theorem Yk{p:Prop}(h:p:=by
 exact .to ⟨st,st2,rfl,rfl⟩ (.turn id ⟨.refl _,trivial⟩ (.at 2 rfl rfl (.refl _) (.at 3 rfl rfl (.refl _) trivial)))):p:=h
theorem Yl{p:Prop}(h:p:=by
 simp -implicitDefEqProofs only [go_sem,u,s,v,n,m,t,z,j,i,D1,h,Option.some.injEq,forall_eq',f]
 exact⟨d,by omega⟩):p:=h
theorem Ym{p:Prop}(h:p:=by
 show ((F0 gone p.code p.code.length).map _).length≤_
 rw [List.length_map,A0x _ _ _ (Nat.le_refl _)]
 exact A8p _ _):p:=h
theorem Yn{p:Prop}(h:p:=by
 exact⟨h.1,h.2.1,h.2.2.1,hk _ _ _ h.2.2.2⟩):p:=h
theorem Yo{p:Prop}(h:p:=by
 exact⟨True,_,fun k h n=>by rw [true_and]⟩):p:=h
theorem Yp{p:Prop}(h:p:=by
 subst c
 have:(decide (A+k<A)||decide (A+(k+1)≤A+k))=false:=by simp
 rw [if_pos rfl,this,Bool.and_false]):p:=h
theorem Yq{p:Prop}(h:p:=by
 intro e t
 simp only [List.mem_cons]at t
 rcases t with h|h
 ·simp [h]
 ·have:=hfn e h;omega):p:=h
theorem Yr{p:Prop}(h:p:=by
 simp only [List.mem_cons,List.not_mem_nil,or_false]at f
 rcases f with rfl|rfl
 ·exact B5L _ _
 ·exact C2T _):p:=h
theorem Ys{p:Prop}(h:p:=by
 rename_i q;injection hsh with hsh;exact k _ _ hsh.symm q zf zf):p:=h
theorem Yt{p:Prop}(h:p:=by
 simp -implicitDefEqProofs only [go_sem,q2,q3,P,zu,D,Upv.row,d,v,t,g4,g9,c,J,ge_iff_le,Option.some.injEq,forall_eq']):p:=h
theorem Yu{p:Prop}(h:p:=by
 exact⟨⟨true,by first|exact Z9 g _|exact B3e g _,by cases neg<;>simpa using h.symm⟩,⟨_,rfl⟩,⟨_,rfl⟩⟩):p:=h
theorem Yv{p:Prop}(h:p:=by
 simp -implicitDefEqProofs only [go_sem,W,Z,L,S,s,Upv.row,b,v,t,Y,U,Q,F,ge_iff_le,Option.some.injEq,forall_eq']):p:=h
theorem Yw{p:Prop}(h:p:=by
 obtain⟨a,b,c⟩:=y i p m Y Z
 exact⟨a.inCells (E:=A8 w O ρ n h) d,b.inCells (E:=A8 w O ρ n h) d,c⟩):p:=h
theorem Yx{p:Prop}(h:p:=by
 intro k s a
 unfold M0 at a
 split at a
 ·injection a with a;subst a;simp only [A9F];omega
 ·cases a):p:=h
theorem Yy{p:Prop}(h:p:=by
 cases x<;>simp only [V.beq,Bool.false_eq_true,Bool.and_eq_true,B3O]at h
 obtain⟨rfl,rfl,rfl,rfl⟩:=h;rfl):p:=h
theorem Yz{p:Prop}(h:p:=by
 rw [b,e,List.set_append_right _ _ zd,a,Nat.sub_self]
 simp):p:=h
theorem YA{p:Prop}(h:p:=by
 refine⟨by omega,?_⟩
 exact L _ (k+1,m) ⟨by simp only;omega,E8 r K (decide_eq_false c)⟩ zg zK):p:=h
theorem YB{p:Prop}(h:p:=by
 refine Pure.of 0 (A0.enter A1x Jk (Run.go 100 ?_))
 refine QW ?_
 refine A0.pureF b Qd ?_
 exact ze):p:=h
theorem YC{p:Prop}(h:p:=by
 intro v w' h
 simp [execOp,ho,resolve,invoke,builtin,h]):p:=h
theorem YD{p:Prop}(h:p:=by
 intro n b h
 have:=List.all_eq_true.1 this n (List.mem_range.2 b)
 rw [h]at this
 simpa using this):p:=h
theorem YE{p:Prop}(h:p:=by
 cases more with
 |true=>have:=hd1 rfl;simp;omega
 |false=>obtain⟨rfl,_⟩:=hc1 rfl;simp):p:=h
theorem YF{p:Prop}(h:p:=by
 refine⟨fun _ _=>trivial,?_⟩
 rw [show (Fr none).round=none from rfl,Oper.semAt_none,b]
 exact h):p:=h
theorem YG{p:Prop}(h:p:=by
 refine C1.wk (C1.of (by simp -implicitDefEqProofs only [go_sem,B7O,Bool.or_false]) (fun e t=>t) ze)):p:=h
theorem YH{p:Prop}(h:p:=by
 have:z= []:=List.eq_nil_of_length_eq_zero M
 subst this
 exact .isl0 _ _):p:=h
theorem YI{p:Prop}(h:p:=by
 refine⟨by omega,?_⟩
 refine o _ (k+1) zd zd ?_
 simp only [u,e]
 exact ze):p:=h
theorem YJ{p:Prop}(h:p:=by
 obtain⟨b,a⟩:=a.g
 simp only [Bool.and_eq_true,q9,B0T]at b
 exact⟨b.1,b.2,a.one⟩):p:=h
theorem YK{p:Prop}(h:p:=by
 show ((p.vars.map _).filter _).length≤_
 exact Nat.le_trans (List.length_filter_le _ _) zf):p:=h
theorem YL{p:Prop}(h:p:=by
 rw [hEr]
 exact Wk.trans (Wk.fr 8 2 rfl rfl zf) (.turn id ⟨.refl _,trivial⟩ trivial)):p:=h
theorem YM{p:Prop}(h:p:=by
 refine⟨by omega,?_⟩
 exact ih _ (k+1) ⟨by omega,E8 o R (decide_eq_false c)⟩ zd zM):p:=h
theorem YN{p:Prop}(h:p:=by
 subst H;subst w
 exact .is ⟨_,_,_,rfl,rfl⟩):p:=h
theorem YO{p:Prop}(h:p:=by
 rw [h];simp only;omega):p:=h
theorem YP{p:Prop}(h:p:=by
 refine⟨L,by omega,?_⟩
 refine o _ (k+1) zd zd ?_
 simp only [u]
 exact ze):p:=h
theorem YQ{p:Prop}(h:p:=by
 refine QL ?_
 subst b
 exact .to (r2:= .bool _) (n2:=n2) ⟨rfl,rfl⟩ (.sub ze)):p:=h
theorem YR{p:Prop}(h:p:=by
 subst b
 exact .to ⟨_,rfl,rfl⟩ (B9T _ _ _ _)):p:=h
theorem YS{p:Prop}(h:p:=by
 rintro r h' n2 hn2 ⟨d2,rfl,rfl⟩
 refine QL ?_
 exact Run.weak ze (t d2 n2)):p:=h
theorem YT{p:Prop}(h:p:=by
 exact c _ 4 ⟨by omega,fun _=>q zd,fun _=>a zd,fun _=>b zd,fun _=>by rw [hh];rfl⟩ zd zo):p:=h
theorem YU{p:Prop}(h:p:=by
 rw [Nat.add_mul,Nat.one_mul]at this
 omega):p:=h
theorem YV{p:Prop}(h:p:=by
 exact c _ 3 ⟨by omega,fun _=>q zd,fun _=>a zd,fun _=>by rw [hh];rfl,by omega⟩ zd zo):p:=h
theorem YW{p:Prop}(h:p:=by
 simp [Builtin.append_,run_underlying p,run_underlying z,sizeOf,typeInfo,r,B,A,y,A4F,h]):p:=h
theorem YX{p:Prop}(h:p:=by
 rename_i a b C e i p
 obtain⟨r,n⟩:=U4 p
 split at h
 ·exact Xa
 ·cases h):p:=h
theorem YY{p:Prop}(h:p:=by
 have:=(f.mem i).1 h
 rw [←f.size]
 exact(Array.getElem?_eq_some_iff.1 this).1):p:=h
theorem YZ{p:Prop}(h:p:=by
 rintro rfl
 rw [had]at g
 simp [B1b]at g
 exact g e):p:=h
theorem Ka{p:Prop}(h:p:=by
 refine⟨by omega,O _ (C1.wk (C1.of zw (fun e t=>by rw [←hfm2]at*;exact t) ze))⟩):p:=h
theorem Kb{p:Prop}(h:p:=by
 have:(decide (r<A)||decide (A≤r))=true:=by simp;omega
 rw [this,Bool.and_true]):p:=h
theorem Kc{p:Prop}(h:p:=by
 exact c _ 2 ⟨by omega,fun _=>q zd,fun _=>by rw [hh];rfl,by omega,by omega⟩ zd zo):p:=h
theorem Kd{p:Prop}(h:p:=by
 refine Run.go 100 ?_
 simp -implicitDefEqProofs only [go_sem,t,q,J,z]
 exact Ju):p:=h
theorem Ke{p:Prop}(h:p:=by
 refine Run.go 100 ?_
 simp -implicitDefEqProofs only [go_sem,j,g,B,l]
 exact Jy):p:=h
theorem Kf{p:Prop}(h:p:=by
 obtain⟨H,u,rfl⟩:=e D
 exact B i H v u G):p:=h
theorem Kg{p:Prop}(h:p:=by
 intro c n h
 rw [r _ g (by rw [i,f];exact n)]
 exact D8.val m h (.bool _)):p:=h
theorem Kh{p:Prop}(h:p:=by
 exact c _ 1 ⟨by omega,fun _=>by rw [hh];rfl,by omega,by omega,by omega⟩ zd zo):p:=h
theorem Ki{p:Prop}(h:p:=by
 split at h
 ·exact hk _ _ _ h
 ·exact h):p:=h
theorem Kj{p:Prop}(h:p:=by
 simp only [hz,List.length_append,List.length_cons,List.length_nil]
 exact ze):p:=h
theorem Kk{p:Prop}(h:p:=by
 simp only [List.map_cons,List.map_nil,List.cons.injEq,and_true]at h⊢
 simp_all):p:=h
theorem Kl{p:Prop}(h:p:=by
 unfold U6;rw [List.map_map];exact List.map_congr_left fun y _=>by simp [V.sub]):p:=h
theorem Km{p:Prop}(h:p:=by
 exact⟨⟨by omega,by omega⟩,fin _ Qo⟩):p:=h
theorem Ko{p:Prop}(h:p:=by
 injection a with a;exact B0G (x:=(.cst Go.undef,s.h,s.n)) (by rw [a];exact f)):p:=h
theorem Kp{p:Prop}(h:p:=by
 have:i<k+1↔i<k:=by omega
 simp [this]):p:=h
theorem Kq{p:Prop}(h:p:=by
 refine Jf ?_
 exact⟨by omega,K _ (C1.wk (C1.of zw hmem ze))⟩):p:=h
end Go
namespace Go.Abs
inductive V where
 |undef
 |bool (b:Bool)
 |int (k:IntKind) (n:Int)
 |str (s:List UInt8)
 |agg (cs:List V)
 |tup (vs:List V)
 |nilp
 |ptr (b st i j:Nat)
 |nils
 |sl (b st i n:Nat)
 |isl (es:List (List V))
 |iptr (es:List (List V)) (i j:Nat)
 |nilm
 |mp (b st:Nat)
 |fn (f:FuncId) (cap:List V)
 |yld (b st:Nat)
 |cst (v:Value)
 |err
 |anyi (k:IntKind)
 deriving Inhabited
structure Loc where
 blk:Nat
 off:Nat
 sz:Nat
 cap:Nat
 deriving Inhabited
structure Env where
 w:World
 own:Nat→Prop
 O:Nat→Prop
 ρ:Nat→Loc
 n:Nat
inductive R (E:Env):V→Value→Prop
 |undef (v:Value):R E .undef v
 |bool (b:Bool):R E (.bool b) (.bool b)
 |int (k:IntKind) (n:Int):R E (.int k n) (.int k n)
 |str (s:List UInt8):R E (.str s) (.string ⟨⟨s⟩⟩)
 | agg (cs:List V) (vs:Array Value) (hl:cs.length=vs.size) (h1: ∀(i:Nat) v,vs[i]? =some v→v.oneCell'=true)
   (hR: ∀(i:Nat) c v,cs[i]? =some c→vs[i]? =some v→R E c v):R E (.agg cs) (.agg vs)
 | tup (cs:List V) (vs:Array Value) (hl:cs.length=vs.size)
   (hR: ∀(i:Nat) c v,cs[i]? =some c→vs[i]? =some v→R E c v):R E (.tup cs) (.tuple vs)
 |nilp:R E .nilp (.pointer none)
 |ptr (b st i j:Nat) (h:st<E.n):R E (.ptr b st i j) (.pointer (some ⟨(E.ρ st).blk,(E.ρ st).off+i*(E.ρ st).sz+j,none⟩))
 |nils:R E .nils (.slice none 0 0)
 | sl (b st i n cap:Nat) (h:st<E.n) (hn:n≤cap) (hc:i+cap≤(E.ρ st).cap):
   R E (.sl b st i n) (.slice (some ⟨(E.ρ st).blk,(E.ρ st).off+i*(E.ρ st).sz,none⟩) n cap)
 |sl0 (b st i:Nat) (a:Option Addr):R E (.sl b st i 0) (.slice a 0 0)
 | isl (es:List (List V)) (p:Addr) (cap sz:Nat) (f:Nat→Nat→Value) (hp:p.spot=none) (hcap:es.length≤cap)
   (hrow: ∀(i:Nat) row,es[i]? =some row→row.length=sz)
   (hcell: ∀(i:Nat) row (j:Nat) c,es[i]? =some row→row[j]? =some c→
     E.w.cell? ⟨p.block,p.off+i*sz+j,none⟩=some (f i j)∧(f i j).oneCell'=true∧ ¬E.own p.block∧ ¬E.O p.block)
   (hR: ∀(i:Nat) row (j:Nat) c,es[i]? =some row→row[j]? =some c→R E c (f i j)):R E (.isl es) (.slice (some p) es.length cap)
 |isl0 (a:Option Addr) (cap:Nat):R E (.isl []) (.slice a 0 cap)
 | iptr (es:List (List V)) (i0 j0:Nat) (p:Addr) (sz:Nat) (f:Nat→Nat→Value) (hp:p.spot=none)
   (hrow: ∀(i:Nat) row,es[i]? =some row→row.length=sz)
   (hcell: ∀(i:Nat) row (j:Nat) c,es[i]? =some row→row[j]? =some c→
     E.w.cell? ⟨p.block,p.off+i*sz+j,none⟩=some (f i j)∧(f i j).oneCell'=true∧ ¬E.own p.block∧ ¬E.O p.block)
   (hR: ∀(i:Nat) row (j:Nat) c,es[i]? =some row→row[j]? =some c→R E c (f i j)):
   R E (.iptr es i0 j0) (.pointer (some ⟨p.block,p.off+i0*sz+j0,none⟩))
 |nilm:R E .nilm (.map none)
 |mp (b st:Nat) (h:st<E.n):R E (.mp b st) (.map (some (E.ρ st).blk))
 | fn (f:FuncId) (cs:List V) (vs:Array Value) (hl:cs.length=vs.size)
   (hR: ∀(i:Nat) c v,cs[i]? =some c→vs[i]? =some v→R E c v):R E (.fn f cs) (.func (.func f) #[] vs)
 |yld (b st:Nat) (h:st<E.n):R E (.yld b st) (.func (.yield (E.ρ st).blk) #[] #[])
 |cst (v:Value):R E (.cst v) v
 |err (t:TypeId) (v:Value):R E .err (.iface t v)
 |anyi (k:IntKind) (n:Int):R E (.anyi k) (.int k n)
structure Wd(w w':World):Prop where
 size:w.heap.size≤w'.heap.size
 os:w'.os=w.os
 out:w'.output=w.output
theorem Wd.refl(w:World):Wd w w:=⟨Nat.le_refl _,rfl,rfl⟩
theorem Wd.trans{w w' a:World}(h:Wd w w')(h':Wd w' a):Wd w a:=⟨Nat.le_trans h.size h'.size,h'.os.trans h.os,h'.out.trans h.out⟩
theorem Wd.alloc(w:World)(o:Obj):Wd w (w.alloc o):=⟨by simp,rfl,rfl⟩
theorem Wd.drew(w:World):Wd w w.drew:=⟨Nat.le_refl _,rfl,rfl⟩
theorem Wd.setObj(w:World)(b:Nat)(o:Obj):Wd w {w with heap:=w.heap.setIfInBounds b o}:=⟨by simp,rfl,rfl⟩
structure Ext(E E':Env):Prop where
 O:E'.O=E.O
 n:E.n≤E'.n
 ρ: ∀st,st<E.n→E'.ρ st=E.ρ st
 wd:Wd E.w E'.w
 blk: ∀x,x<E.w.heap.size→ ¬E.own x→E'.w.heap[x]? =E.w.heap[x]? ∧ ¬E'.own x
theorem Ext.size{E E':Env}(h:Ext E E'):E.w.heap.size≤E'.w.heap.size:=h.wd.size
theorem Ext.refl(E:Env):Ext E E:=⟨rfl,Nat.le_refl _,fun _ _=>rfl,Wd.refl _,fun _ _ h=>⟨rfl,h⟩⟩
theorem Ext.trans{E E' e:Env}(h:Ext E E')(h':Ext E' e):Ext E e:=
 ⟨h'.O.trans h.O,Nat.le_trans h.n h'.n,fun s c=>(h'.ρ s (Nat.lt_of_lt_of_le c h.n)).trans (h.ρ s c),h.wd.trans h'.wd,
  fun x a b=>⟨(h'.blk x (Nat.lt_of_lt_of_le a h.size) (h.blk x a b).2).1.trans (h.blk x a b).1,(h'.blk x (Nat.lt_of_lt_of_le a h.size) (h.blk x a b).2).2⟩⟩
structure Imm(E E':Env):Prop where
 n:E.n≤E'.n
 ρ: ∀st,st<E.n→E'.ρ st=E.ρ st
 size:E.w.heap.size≤E'.w.heap.size
 blk: ∀x,x<E.w.heap.size→ ¬E.own x→ ¬E.O x→E'.w.heap[x]? =E.w.heap[x]? ∧ ¬E'.own x∧ ¬E'.O x
theorem Ext.imm{E E':Env}(h:Ext E E'):Imm E E':=⟨h.n,h.ρ,h.size,fun x a b c=>⟨(h.blk x a b).1,(h.blk x a b).2,by rw [h.O];exact c⟩⟩
theorem R.monoI{E E':Env}(l:Imm E E'){v:V}{x:Value}(h:R E v x):R E' v x:=by
 induction h with
 |undef v=>exact .undef v
 |bool b=>exact .bool b
 |int k n=>exact .int k n
 |str s=>exact .str s
 |agg A C y B _ o=>exact .agg A C y B o
 |tup A C y _ o=>exact .tup A C y o
 |nilp=>exact .nilp
 |ptr b e i j h=>rw [←l.ρ e h];exact .ptr b e i j (Nat.lt_of_lt_of_le h l.n)
 |nils=>exact .nils
 |sl b e i n m h L q=>
  rw [←l.ρ e h]
  rw [←l.ρ e h]at q
  exact .sl b e i n m (Nat.lt_of_lt_of_le h l.n) L q
 |sl0 b e i a=>exact .sl0 b e i a
 |isl H p m w f J D g d _ o=>
  refine .isl H p m w f J D g (fun i u j c B I=> ?_) o
  obtain⟨q,r,G,F⟩:=d i u j c B I
  have z:=l.blk p.block (World.block_lt_of_cell? E.w ⟨p.block,p.off+i*w+j,none⟩ q) G F
  exact⟨(World.cell?_of_block (a:=⟨p.block,p.off+i*w+j,none⟩) z.1).trans q,r,z.2⟩
 |isl0 a m=>exact .isl0 a m
 |iptr H M K p w f J g d _ o=>
  refine .iptr H M K p w f J g (fun i u j c B I=> ?_) o
  obtain⟨q,r,G,F⟩:=d i u j c B I
  have z:=l.blk p.block (World.block_lt_of_cell? E.w ⟨p.block,p.off+i*w+j,none⟩ q) G F
  exact⟨(World.cell?_of_block (a:=⟨p.block,p.off+i*w+j,none⟩) z.1).trans q,r,z.2⟩
 |nilm=>exact .nilm
 |mp b e h=>rw [←l.ρ e h];exact .mp b e (Nat.lt_of_lt_of_le h l.n)
 |yld b e h=>rw [←l.ρ e h];exact .yld b e (Nat.lt_of_lt_of_le h l.n)
 |fn f A C y _ o=>exact .fn f A C y o
 |cst v=>exact .cst v
 |err t v=>exact .err t v
 |anyi k n=>exact .anyi k n
theorem R.mono{E E':Env}(a:Ext E E'){v:V}{x:Value}(h:R E v x):R E' v x:=h.monoI a.imm
abbrev A6t(w:World)(O:Nat→Prop):Env:=⟨w,fun _=>False,O,fun _=>default,0⟩
theorem R.back{E:Env}{w:World}{O:Nat→Prop}(K:E.w=w)(I: ∀x,¬O x→ ¬E.own x∧ ¬E.O x){v:V}{x:Value}(h:R (A6t w O) v x):R E v x:=by
 subst K
 induction h with
 |undef v=>exact .undef v
 |bool b=>exact .bool b
 |int k n=>exact .int k n
 |str s=>exact .str s
 |agg q y o u _ l=>exact .agg q y o u l
 |tup q y o _ l=>exact .tup q y o l
 |nilp=>exact .nilp
 |ptr b m i j h=>exact absurd h (Nat.not_lt_zero _)
 |nils=>exact .nils
 |sl b m i n g h M N=>exact absurd h (Nat.not_lt_zero _)
 |sl0 b m i a=>exact .sl0 b m i a
 | isl C p g H f G z e d _ l=>
  exact .isl C p g H f G z e (fun i r j c u D=>by
   obtain⟨A,F,_,B⟩:=d i r j c u D
   exact⟨A,F,I _ B⟩) l
 |isl0 a g=>exact .isl0 a g
 | iptr C L J p H f G e d _ l=>
  exact .iptr C L J p H f G e (fun i r j c u D=>by
   obtain⟨A,F,_,B⟩:=d i r j c u D
   exact⟨A,F,I _ B⟩) l
 |nilm=>exact .nilm
 |mp b m h=>exact absurd h (Nat.not_lt_zero _)
 |yld b m h=>exact absurd h (Nat.not_lt_zero _)
 |fn f q y o _ l=>exact .fn f q y o l
 |cst v=>exact .cst v
 |err t v=>exact .err t v
 |anyi k n=>exact .anyi k n
def B6e:List (Nat×List V):= [(0,[.int .u8 0,.int .u8 0,.int .u8 0,.int .u8 0,.int .u8 0,.int .u8 0,.int .u8 0,.int .u8 0,.int .u8 0,.int .u8 1,.int .u8 1,.int .u8 1,.int .u8 1,.int .u8 1,.int .u8 0,.int .u8 0,.int .u8 0,.int .u8 0,.int .u8 0,.int .u8 0,.int .u8 0,.int .u8 0,.int .u8 0,.int .u8 0,.int .u8 0,.int .u8 0,.int .u8 0,.int .u8 0,.int .u8 0,.int .u8 0,.int .u8 0,.int .u8 0,.int .u8 1,.int .u8 0,.int .u8 0,.int .u8 0,.int .u8 0,.int .u8 0,.int .u8 0,.int .u8 0,.int .u8 0,.int .u8 0,.int .u8 0,.int .u8 0,.int .u8 0,.int .u8 0,.int .u8 0,.int .u8 0,.int .u8 0,.int .u8 0,.int .u8 0,.int .u8 0,.int .u8 0,.int .u8 0,.int .u8 0,.int .u8 0,.int .u8 0,.int .u8 0,.int .u8 0,.int .u8 0,.int .u8 0,.int .u8 0,.int .u8 0,.int .u8 0,.int .u8 0,.int .u8 0,.int .u8 0,.int .u8 0,.int .u8 0,.int .u8 0,.int .u8 0,.int .u8 0,.int .u8 0,.int .u8 0,.int .u8 0,.int .u8 0,.int .u8 0,.int .u8 0,.int .u8 0,.int .u8 0,.int .u8 0,.int .u8 0,.int .u8 0,.int .u8 0,.int .u8 0,.int .u8 0,.int .u8 0,.int .u8 0,.int .u8 0,.int .u8 0,.int .u8 0,.int .u8 0,.int .u8 0,.int .u8 0,.int .u8 0,.int .u8 0,.int .u8 0,.int .u8 0,.int .u8 0,.int .u8 0,.int .u8 0,.int .u8 0,.int .u8 0,.int .u8 0,.int .u8 0,.int .u8 0,.int .u8 0,.int .u8 0,.int .u8 0,.int .u8 0,.int .u8 0,.int .u8 0,.int .u8 0,.int .u8 0,.int .u8 0,.int .u8 0,.int .u8 0,.int .u8 0,.int .u8 0,.int .u8 0,.int .u8 0,.int .u8 0,.int .u8 0,.int .u8 0,.int .u8 0,.int .u8 0,.int .u8 0,.int .u8 0,.int .u8 0,.int .u8 0,.int .u8 0,.int .u8 0,.int .u8 0,.int .u8 0,.int .u8 0,.int .u8 0,.int .u8 0,.int .u8 0,.int .u8 0,.int .u8 0,.int .u8 0,.int .u8 0,.int .u8 0,.int .u8 0,.int .u8 0,.int .u8 0,.int .u8 0,.int .u8 0,.int .u8 0,.int .u8 0,.int .u8 0,.int .u8 0,.int .u8 0,.int .u8 0,.int .u8 0,.int .u8 0,.int .u8 0,.int .u8 0,.int .u8 0,.int .u8 0,.int .u8 0,.int .u8 0,.int .u8 0,.int .u8 0,.int .u8 0,.int .u8 0,.int .u8 0,.int .u8 0,.int .u8 0,.int .u8 0,.int .u8 0,.int .u8 0,.int .u8 0,.int .u8 0,.int .u8 0,.int .u8 0,.int .u8 0,.int .u8 0,.int .u8 0,.int .u8 0,.int .u8 0,.int .u8 0,.int .u8 0,.int .u8 0,.int .u8 0,.int .u8 0,.int .u8 0,.int .u8 0,.int .u8 0,.int .u8 0,.int .u8 0,.int .u8 0,.int .u8 0,.int .u8 0,.int .u8 0,.int .u8 0,.int .u8 0,.int .u8 0,.int .u8 0,.int .u8 0,.int .u8 0,.int .u8 0,.int .u8 0,.int .u8 0,.int .u8 0,.int .u8 0,.int .u8 0,.int .u8 0,.int .u8 0,.int .u8 0,.int .u8 0,.int .u8 0,.int .u8 0,.int .u8 0,.int .u8 0,.int .u8 0,.int .u8 0,.int .u8 0,.int .u8 0,.int .u8 0,.int .u8 0,.int .u8 0,.int .u8 0,.int .u8 0,.int .u8 0,.int .u8 0,.int .u8 0,.int .u8 0,.int .u8 0,.int .u8 0,.int .u8 0,.int .u8 0,.int .u8 0,.int .u8 0,.int .u8 0,.int .u8 0,.int .u8 0,.int .u8 0,.int .u8 0,.int .u8 0,.int .u8 0,.int .u8 0,.int .u8 0,.int .u8 0,.int .u8 0,.int .u8 0,.int .u8 0,.int .u8 0,.int .u8 0,.int .u8 0,.int .u8 0,.int .u8 0,.int .u8 0,.int .u8 0,.int .u8 0,.int .u8 0])]
def B6t:List (Nat×List V)→Nat→Option (List V)
 | [],_=>none
 |e::r,g=>bif Nat.beq e.1 g then some e.2 else B6t r g
theorem B8B{g:Nat}{c:List V}: ∀{l:List (Nat×List V)},B6t l g=some c→(g,c)∈l
 | [],h=>by cases h
 | e::r,h=>by
  simp only [B6t]at h
  cases hb:Nat.beq e.1 g with
  |true=>
   rw [hb]at h;injection h with h
   rw [←Nat.eq_of_beq_eq_true hb,←h];exact List.mem_cons_self
  |false=>rw [hb]at h;exact List.mem_cons_of_mem _ (B8B h)
def D1X(g:Nat):V:=match B6t B6e g with
 |some c=> .iptr [c] 0 0
 |none=> .undef
def GlR(E:Env):Prop:= ∀e∈B6e,(∃cs t z,E.w.heap[e.1]? =some (.cells cs t z)∧cs.size=e.2.length∧ ¬E.own e.1∧ ¬E.O e.1)∧ ∀(j:Nat) c,e.2[j]? =some c→
 ∃x,E.w.cell? ⟨e.1,j,none⟩=some x∧x.oneCell'=true∧ ¬E.own e.1∧ ¬E.O e.1∧R (A6t E.w fun x=>E.own x∨E.O x) c x
theorem GlR.to{E E':Env}(h:GlR E)(w:E.w.heap.size≤E'.w.heap.size)(f: ∀x,x<E.w.heap.size→ ¬E.own x→ ¬E.O x→E'.w.heap[x]? =E.w.heap[x]? ∧ ¬E'.own x∧ ¬E'.O x):GlR E':=by
 intro e n
 obtain⟨⟨s,t,z,b,k,i,g⟩,h⟩:=h e n
 have d:=f e.1 (Array.getElem?_eq_some_iff.1 b).1 i g
 refine⟨⟨s,t,z,d.1.trans b,k,d.2.1,d.2.2⟩,fun j c G=> ?_⟩
 obtain⟨x,m,v,F,B,u⟩:=h j c G
 obtain⟨C,o,r⟩:=f e.1 (World.block_lt_of_cell? E.w ⟨e.1,j,none⟩ m) F B
 refine⟨x,(World.cell?_of_block (a:=⟨e.1,j,none⟩) C).trans m,v,o,r,R.monoI (E:=A6t E.w fun x=>E.own x∨E.O x) (E':=A6t E'.w fun x=>E'.own x∨E'.O x) ⟨Nat.le_refl _,fun H h=>absurd h (Nat.not_lt_zero _),w,fun y p _ l=> ?_⟩ u⟩
 obtain⟨q,A,D⟩:=f y p (fun h=>l (.inl h)) (fun h=>l (.inr h))
 exact⟨q,fun h=>h,fun h=>h.elim A D⟩
theorem GlR.mono{E E':Env}(a:Imm E E')(h:GlR E):GlR E':=h.to a.size a.blk
theorem GlR.val{E:Env}(h:GlR E){g:Nat}{c:List V}(s:B6t B6e g=some c):R E (.iptr [c] 0 0) (.pointer (some ⟨g,0,none⟩)):=by
 have m:=B8B s
 have o: ∀(i:Nat) r,[c][i]? =some r→i=0∧r=c:=fun i r a=>by
  cases i with
  |zero=>simp at a;exact⟨rfl,a.symm⟩
  |succ i=>simp at a
 have k:=R.iptr (E:=E) [c] 0 0 ⟨g,0,none⟩ c.length (fun _ j=>(E.w.cell? ⟨g,j,none⟩).getD Go.undef) rfl (fun i r a=>by rw [(o i r a).2]) (fun i r j d a f=>by
  obtain⟨rfl,rfl⟩:=o i r a
  obtain⟨x,b,l,q,p,_⟩:=(h _ m).2 j d f
  have e:(⟨g,0+0*r.length+j,none⟩:Addr)=⟨g,j,none⟩:=by simp
  simp only [e]
  simp only at b
  rw [b]
  exact⟨rfl,l,q,p⟩) (fun i r j d a f=>by
  obtain⟨rfl,rfl⟩:=o i r a
  obtain⟨x,b,l,q,p,t⟩:=(h _ m).2 j d f
  simp only at b
  rw [b]
  exact R.back rfl (fun y n=>⟨fun h=>n (.inl h),fun h=>n (.inr h)⟩) t)
 simpa using k
def D9:List (Nat×V)→Nat→V
 | [],_=> .undef
 |p::r,i=>bif Nat.beq p.1 i then p.2 else D9 r i
inductive Blk where
 |rows (sz:Nat) (rs:List (List V))
 |map (es:List (V×V))
 |loop (N:Nat) (sl:List (Nat×V)) (ps:List Nat) (p:Code→Code→Prop) (s:LoopState) (pend:Option Code)
 |mapb (es:List (V×V)) (bs:List Nat) (ck:Nat)
 |iter (mst:Nat) (es:List (V×V)) (bs:List Nat) (ck:Nat) (left:List (Nat×V×V)) (last:Option (V×V))
 |raw (rs:List (List V))
 deriving Inhabited
abbrev A2:=List (Nat×Nat×Blk)
def Own(ρ:Nat→Loc)(h:A2)(x:Nat):Prop:= ∃e∈h,(ρ e.2.1).cap≠0∧(ρ e.2.1).blk=x
abbrev A8(w:World)(O:Nat→Prop)(ρ:Nat→Loc)(n:Nat)(h:A2):Env:=⟨w,Own ρ h,O,ρ,n⟩
def A4S(E:Env)(blk off:Nat)(row:List V):Prop:=
 ∀(j:Nat) c,row[j]? =some c→ ∃x,E.w.cell? ⟨blk,off+j,none⟩=some x∧x.oneCell'=true∧R E c x
def A6R(E:Env)(st:Nat):Blk→Prop
 | .rows sz rs=>(E.ρ st).sz=sz∧rs.length≤(E.ρ st).cap∧
   ((E.ρ st).cap≠0→(∀j,j<(E.ρ st).cap*sz→(E.w.cell? ⟨(E.ρ st).blk,(E.ρ st).off+j,none⟩).isSome=true∧E.w.frozen? ⟨(E.ρ st).blk,(E.ρ st).off+j,none⟩=false)∧(E.ρ st).blk<E.w.heap.size)∧
   ∀(i:Nat) row,rs[i]? =some row→row.length=sz∧A4S E (E.ρ st).blk ((E.ρ st).off+i*sz) row
 | .map es=>(E.ρ st).cap≠0∧ ∃(mes:Array MapEntry) (clock:Nat),E.w.heap[(E.ρ st).blk]? =some (.map mes clock)∧mes.size=es.length∧
   (∀(i:Nat) p m,es[i]? =some p→mes[i]? =some m→R E p.1 m.key∧R E p.2 m.val∧m.born<clock)∧
   (∀(i j:Nat) m m',mes[i]? =some m→mes[j]? =some m'→m.born=m'.born→i=j)
 | .loop N sl ps p s pend=>(E.ρ st).cap≠0∧(∀i∈ps,i<N)∧ ∃r:Loop,E.w.heap[(E.ρ st).blk]? =some (.loop r)∧r.state=s∧r.pending=pend∧r.params.toList=ps∧r.tmps.size=N∧
   (∀i,R E (D9 sl i) (r.tmps.getD i Go.undef))∧p r.assign r.body
 | .mapb es bs ck=>(E.ρ st).cap≠0∧ ∃(mes:Array MapEntry),E.w.heap[(E.ρ st).blk]? =some (.map mes ck)∧mes.size=es.length∧bs=mes.toList.map (·.born)∧
   (∀(i:Nat) p m,es[i]? =some p→mes[i]? =some m→R E p.1 m.key∧R E p.2 m.val∧m.born<ck)∧
   (∀(i j:Nat) m m',mes[i]? =some m→mes[j]? =some m'→m.born=m'.born→i=j)
 | .iter mst es bs ck left last=>(E.ρ st).cap≠0∧(E.ρ st).off=0∧mst<E.n∧ ∃sn:Array Nat,E.w.heap[(E.ρ st).blk]? =some (.mapIter (some (E.ρ mst).blk) ck sn ck)∧
   left=(bs.zip es).filter (fun e=> !sn.contains e.1)∧ ∀p,last=some p→ ∃(i:Nat) (c:Nat),es[i]? =some p∧bs[i]? =some c∧sn.back? =some c
 | .raw rs=>(E.ρ st).cap≠0∧((E.ρ st).off=0∧(E.ρ st).sz=1∧rs.length=(E.ρ st).cap)∧(∃cs el,E.w.heap[(E.ρ st).blk]? =some (.cells cs el)∧cs.size=(E.ρ st).cap)∧
   ∀(i:Nat) row,rs[i]? =some row→row.length=1∧A4S E (E.ρ st).blk ((E.ρ st).off+i*1) row
structure HeapR(w:World)(O:Nat→Prop)(ρ:Nat→Loc)(n:Nat)(h:A2):Prop where
 lt: ∀e∈h,e.2.1<n
 inj: ∀e∈h,∀e'∈h,e.1≠e'.1→(ρ e.2.1).cap≠0→(ρ e'.2.1).cap≠0→(ρ e.2.1).blk≠(ρ e'.2.1).blk
 out: ∀x,O x→x<w.heap.size
 notO: ∀e∈h,(ρ e.2.1).cap≠0→ ¬O (ρ e.2.1).blk
 blk: ∀e∈h,A6R (A8 w O ρ n h) e.2.1 e.2.2
 gl:GlR (A8 w O ρ n h)
theorem A6R.monoI{E E':Env}(k:Imm E E'){st:Nat}{b:Blk}(F:st<E.n)(o:(E.ρ st).cap≠0→E'.w.heap[(E.ρ st).blk]? =E.w.heap[(E.ρ st).blk]?)(h:A6R E st b):A6R E' st b:=by
 have d:=k.ρ st F
 cases b with
 | rows V U=>
  obtain⟨e,l,g,n⟩:=h
  refine⟨by rw [d];exact e,by rw [d];exact l,?_,?_⟩
  ·rw [d]
   intro A
   obtain⟨f,z⟩:=g A
   refine⟨fun j B=> ?_,Nat.lt_of_lt_of_le z k.size⟩
   rw [World.cell?_of_block (a:=⟨(E.ρ st).blk,(E.ρ st).off+j,none⟩) (o A),World.frozen?_of_block (a:=⟨(E.ρ st).blk,(E.ρ st).off+j,none⟩) (o A)]
   exact f j B
  ·intro i v C
   obtain⟨f,z⟩:=n i v C
   refine⟨f,fun j c B=> ?_⟩
   obtain⟨x,t,y,u⟩:=z j c B
   refine⟨x,?_,y,u.monoI k⟩
   rw [d]
   have A:(E.ρ st).cap≠0:=by
    have:=(List.getElem?_eq_some_iff.1 C).1
    omega
   rw [World.cell?_of_block (a:=⟨(E.ρ st).blk,(E.ρ st).off+i*V+j,none⟩) (o A)]
   exact t
 |map K=>
  obtain⟨e,w,q,l,g,n,f⟩:=h
  refine⟨by rw [d];exact e,w,q,by rw [d,o e];exact l,g,fun i p m I J=> ?_,f⟩
  obtain⟨a,b,c⟩:=n i p m I J
  exact⟨a.monoI k,b.monoI k,c⟩
 |loop N X W p s L=>
  obtain⟨e,H,r,l,g,n,f,z,G,Q⟩:=h
  exact⟨by rw [d];exact e,H,r,by rw [d,o e];exact l,g,n,f,z,fun i=>(G i).monoI k,Q⟩
 |mapb K T O=>
  obtain⟨e,w,l,g,H,n,f⟩:=h
  refine⟨by rw [d];exact e,w,by rw [d,o e];exact l,g,H,fun i p m I J=> ?_,f⟩
  obtain⟨a,b,c⟩:=n i p m I J
  exact⟨a.monoI k,b.monoI k,c⟩
 |iter D K T O left M=>
  obtain⟨e,l,g,P,n,f⟩:=h
  exact⟨by rw [d];exact e,by rw [d];exact l,Nat.lt_of_lt_of_le g k.n,P,by rw [d,o e,k.ρ D g];exact n,f⟩
 |raw U=>
  obtain⟨e,l,⟨R,S,g,n⟩,f⟩:=h
  refine⟨by rw [d];exact e,by rw [d];exact l,⟨R,S,by rw [d,o e];exact g,by rw [d];exact n⟩,fun i v C=> ?_⟩
  obtain⟨z,G⟩:=f i v C
  refine⟨z,fun j c B=> ?_⟩
  obtain⟨x,t,y,u⟩:=G j c B
  refine⟨x,?_,y,u.monoI k⟩
  rw [d,World.cell?_of_block (a:=⟨(E.ρ st).blk,(E.ρ st).off+i*1+j,none⟩) (o e)]
  exact t
theorem A6R.mono{E E':Env}(c:Ext E E'){st:Nat}{b:Blk}(a:st<E.n)(d:(E.ρ st).cap≠0→E'.w.heap[(E.ρ st).blk]? =E.w.heap[(E.ρ st).blk]?)(h:A6R E st b):A6R E' st b:=h.monoI c.imm a d
theorem HeapR.drop{w:World}{O:Nat→Prop}{ρ:Nat→Loc}{n:Nat}{h h':A2}(b:HeapR w O ρ n h)(c: ∀e∈h',e∈h):HeapR w O ρ n h'∧Ext (A8 w O ρ n h) (A8 w O ρ n h'):=by
 have d:Ext (A8 w O ρ n h) (A8 w O ρ n h'):=
  ⟨rfl,Nat.le_refl _,fun _ _=>rfl,Wd.refl _,fun x _ j=>⟨rfl,fun⟨e,a,i⟩=>j ⟨e,c e a,i⟩⟩⟩
 exact⟨⟨fun e a=>b.lt e (c e a),fun e a g f=>b.inj e (c e a) g (c g f),b.out,fun e a=>b.notO e (c e a),fun e a=>(b.blk e (c e a)).mono d (b.lt e (c e a)) fun _=>rfl,b.gl.mono d.imm⟩,d⟩
def A2.del(h:A2)(b:Nat):A2:=h.filter fun e=> !(Nat.beq e.1 b)
def A2.put(h:A2)(b st:Nat)(x:Blk):A2:=(b,st,x)::A2.del h b
def A2.get(h:A2)(b st:Nat):Option Blk:=
 match h with
 | []=>none
 |e::r=>bif Nat.beq e.1 b then(if e.2.1=st then some e.2.2 else none)else A2.get r b st
theorem A2.mem_del{h:A2}{b:Nat}{e:Nat×Nat×Blk}:e∈A2.del h b↔e∈h∧e.1≠b:=by
 simp only [A2.del,List.mem_filter,Bool.not_eq_true']
 refine and_congr_right fun _=> ?_
 constructor
 ·intro a c;rw [c,Nat.beq_refl]at a;cases a
 ·intro a;cases c:Nat.beq e.1 b with
  |false=>rfl
  |true=>exact(a (Nat.eq_of_beq_eq_true c)).elim
theorem A2.mem_of_get{h:A2}{b st:Nat}{x:Blk}(d:A2.get h b st=some x):(b,st,x)∈h:=by
 induction h with
 |nil=>cases d
 | cons e r i=>
  simp only [A2.get]at d
  cases hb:Nat.beq e.1 b with
  | true=>
   simp only [hb,cond_true]at d
   split at d
   ·rename_i f
    injection d with h2
    have g:=Nat.eq_of_beq_eq_true hb
    obtain⟨a,j,c⟩:=e
    subst f;subst h2;subst g
    exact List.mem_cons_self ..
   ·cases d
  |false=>
   simp only [hb,cond_false]at d
   exact List.mem_cons_of_mem _ (i d)
theorem HeapR.step{w w':World}{O:Nat→Prop}{ρ ρ':Nat→Loc}{n n':Nat}{h:A2}{b st:Nat}{x:Blk}(i:HeapR w O ρ n h)
  (S:n≤n') (C: ∀st,st<n→ρ' st=ρ st) (I:st<n')
  (F:Wd w w')
  (A: ∀y,y<w.heap.size→(y=(ρ' st).blk→(ρ' st).cap=0)→w'.heap[y]? =w.heap[y]?)
  (m:(ρ' st).cap=0∨w.heap.size≤(ρ' st).blk∨ ∃e∈h,e.1=b∧(ρ e.2.1).cap≠0∧(ρ e.2.1).blk=(ρ' st).blk)
  (X:Ext (A8 w O ρ n h) (A8 w' O ρ' n' (A2.put h b st x))→A6R (A8 w' O ρ' n' (A2.put h b st x)) st x):
  HeapR w' O ρ' n' (A2.put h b st x)∧Ext (A8 w O ρ n h) (A8 w' O ρ' n' (A2.put h b st x)):=by
 have E:=F.size
 have u: ∀e∈h,(ρ e.2.1).cap≠0→(ρ e.2.1).blk<w.heap.size:=by
  intro e a j
  have:=i.blk e a
  cases o:e.2.2 with
  |rows sz rs=>rw [o]at this;exact(this.2.2.1 j).2
  |map T=>rw [o]at this;obtain⟨_,L,H,B,_⟩:=this;exact(Array.getElem?_eq_some_iff.1 B).1
  |loop N sl ps p s U=>rw [o]at this;obtain⟨_,_,r,B,_⟩:=this;exact(Array.getElem?_eq_some_iff.1 B).1
  |mapb T Z Y=>rw [o]at this;obtain⟨_,L,B,_⟩:=this;exact(Array.getElem?_eq_some_iff.1 B).1
  |iter W T Z Y left V=>rw [o]at this;obtain⟨_,_,_,sn,B,_⟩:=this;exact(Array.getElem?_eq_some_iff.1 B).1
  |raw rs=>rw [o]at this;obtain⟨_,_,⟨cs,el,B,_⟩,_⟩:=this;exact(Array.getElem?_eq_some_iff.1 B).1
 have f: ∀e∈h,e.1≠b→(ρ e.2.1).cap≠0→(ρ' st).cap≠0→(ρ e.2.1).blk≠(ρ' st).blk:=by
  intro e a l j d D
  rcases m with t|t|⟨q,c,G,k,g⟩
  ·exact d t
  ·have:=u e a j;omega
  ·exact(i.inj e a q c (fun h=>l (h.trans G))) j k (D.trans g.symm)
 have o:Ext (A8 w O ρ n h) (A8 w' O ρ' n' (A2.put h b st x)):=by
  refine⟨rfl,S,C,F,fun y J K=>⟨A y J (fun P=> ?_),?_⟩⟩
  ·rcases m with t|t|⟨q,c,_,k,g⟩
   ·exact t
   ·have M:y<w.heap.size:=J;omega
   ·exact(K ⟨q,c,k,g.trans P.symm⟩).elim
  ·rintro⟨e,a,j,g⟩
   rcases List.mem_cons.1 a with rfl|a
   ·rcases m with t|t|⟨q,c,_,k,z⟩
    ·exact j t
    ·have M:y<w.heap.size:=J
     simp only at g
     omega
    ·exact K ⟨q,c,k,z.trans g⟩
   ·obtain⟨a,l⟩:=A2.mem_del.1 a
    have R:=i.lt e a
    have d:(ρ e.2.1).cap≠0:=by rw [←C _ R];exact j
    have z:(ρ e.2.1).blk=y:=by rw [←C _ R];exact g
    exact K ⟨e,a,d,z⟩
 refine⟨⟨?_,?_,fun x o=>Nat.lt_of_lt_of_le (i.out x o) E,?_,?_,i.gl.mono o.imm⟩,o⟩
 ·intro e a
  rcases List.mem_cons.1 a with rfl|a
  ·exact I
  ·exact Nat.lt_of_lt_of_le (i.lt e (A2.mem_del.1 a).1) S
 ·intro e a q c l
  rcases List.mem_cons.1 a with rfl|a<;>rcases List.mem_cons.1 c with rfl|c
  ·exact(l rfl).elim
  ·obtain⟨c,v⟩:=A2.mem_del.1 c
   intro j d
   rw [C _ (i.lt q c)]at d⊢
   exact fun h=>f q c v d j h.symm
  ·obtain⟨a,v⟩:=A2.mem_del.1 a
   intro j d
   rw [C _ (i.lt e a)]at j⊢
   exact f e a v j d
  ·obtain⟨a,_⟩:=A2.mem_del.1 a
   obtain⟨c,_⟩:=A2.mem_del.1 c
   rw [C _ (i.lt e a),C _ (i.lt q c)]
   exact i.inj e a q c l
 ·intro e a
  rcases List.mem_cons.1 a with rfl|a
  ·intro j Q
   rcases m with t|t|⟨q,c,_,k,g⟩
   ·exact j t
   ·exact absurd (i.out _ Q) (Nat.not_lt.2 t)
   ·exact i.notO q c k (g ▸ Q)
  ·obtain⟨a,_⟩:=A2.mem_del.1 a
   rw [C _ (i.lt e a)]
   exact i.notO e a
 ·intro e a
  rcases List.mem_cons.1 a with rfl|a
  ·exact X o
  ·obtain⟨a,l⟩:=A2.mem_del.1 a
   refine(i.blk e a).mono o (i.lt e a) fun j=> ?_
   refine A _ (u e a j) fun D=> ?_
   by_cases d:(ρ' st).cap=0
   ·exact d
   ·exact(f e a l j d D).elim
end Go.Abs
