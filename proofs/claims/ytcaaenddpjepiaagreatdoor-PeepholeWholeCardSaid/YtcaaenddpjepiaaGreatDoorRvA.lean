/-
 What is reached. No condition.
-/
import Derived.Test.YtcaaenddpjepiaaGreatDoorFlowN
import Derived.Test.YtcaaenddpjepiaaGreatDoorPeTR
import Derived.Test.YtcaaenddpjepiaaGreatDoorFnCk
import Derived.Test.YtcaaenddpjepiaaGreatDoorRwM
import Derived.Test.YtcaaenddpjepiaaGreatDoorExe
import Derived.Test.YtcaaenddpjepiaaGreatDoorCode
set_option linter.unusedVariables false
set_option linter.unusedSimpArgs false
set_option maxRecDepth 100000
set_option maxHeartbeats 0
namespace Go.Proofs.YtcaaenddpjepiaaGreatDoor
section
open Go.Abs
attribute [local irreducible] A0 Run
-- EV: Ins.v, Ins.row
attribute [local go_sem] Ins.v Ins.row
theorem D4A(φ:Nat→Nat→Nat→Nat→V)(a:List Ins):(a.map Ins.row).map (fun r=>r.map (V.sub φ))=a.map Ins.row:=by
 rw [List.map_map]
 exact List.map_congr_left fun y _=>by simp [Ins.row,V.sub]
theorem i2{code:List Ins}{a x:Int}(h:x∈C5 code a):0≤x∧x<code.length:=by
 unfold C5 at h
 split at h
 ·cases h
 ·rename_i c
  split at h
  ·rw [A0Y]at h
   rcases List.mem_append.1 h with h|h
   ·unfold B3r at h
    split at h
    ·rename_i b;rw [List.mem_singleton.1 h];exact b.2
    ·cases h
   ·unfold A0A at h
    split at h
    ·rename_i b;rw [List.mem_singleton.1 h];exact⟨by omega,b.2⟩
    ·cases h
  ·cases h
theorem R5(code:List Ins)(a:Int):(C5 code a).length≤2:=by
 have h: ∀l:List Int,(F7 l).length≤l.length:=fun l=>Nat.le_trans (Lib.compact_length_le _) zI
 unfold C5
 split
 ·simp
 split
 ·refine Nat.le_trans (h _) ?_
  unfold B3r A0A
  split<;>split<;>simp
 ·simp
inductive Path (code:List Ins):Nat→Prop
 |zero:0<code.length→Path code 0
 |step {i j:Nat}:Path code i→(j:Int)∈C5 code i→Path code j
noncomputable def A0P (code:List Ins) (i:Nat):Bool:= @decide (Path code i) (Classical.propDecidable _)
theorem B6J{code:List Ins}{i:Nat}:A0P code i=true↔Path code i:=by unfold A0P;simp
noncomputable def A0Q (code:List Ins):List Bool:=(List.range code.length).map (A0P code)
theorem B1O(code:List Ins):(A0Q code).length=code.length:=by simp [A0Q]
theorem B8L{code:List Ins}{i:Nat}(h:i<code.length):(A0Q code)[i]? =some (A0P code i):=by simp [A0Q,h]
theorem B4D{α:Type}(l:List α):l= []∨ ∃L b,l=L++ [b]:=by
 rcases List.eq_nil_or_concat l with h|⟨L,b,h⟩
 ·exact .inl h
 ·exact .inr ⟨L,b,by rw [h,List.concat_eq_append]⟩
def brw(b:Bool):List V:= [.bool b]
structure RI(code:List Ins)(ms:List Bool)(td:List Int):Prop where
 len:ms.length=code.length
 tdin: ∀t∈td,∃i:Nat,t=i∧ms[i]? =some true
 path: ∀i:Nat,ms[i]? =some true→Path code i
 closed: ∀i:Nat,ms[i]? =some true→(i:Int)∈td∨ ∀j:Nat,(j:Int)∈C5 code i→ms[j]? =some true
 zero:0<code.length→ms[0]? =some true
structure RJ(code:List Ins)(a k:Nat)(ms:List Bool)(td:List Int):Prop where
 len:ms.length=code.length
 tdin: ∀t∈td,∃i:Nat,t=i∧ms[i]? =some true
 path: ∀i:Nat,ms[i]? =some true→Path code i
 closed: ∀i:Nat,ms[i]? =some true→(i:Int)∈td∨i=a∨ ∀j:Nat,(j:Int)∈C5 code i→ms[j]? =some true
 zero:0<code.length→ms[0]? =some true
 cur:ms[a]? =some true
 done: ∀j:Nat,(j:Int)∈(C5 code a).take k→ms[j]? =some true
theorem RI.fin{code:List Ins}{ms:List Bool}(h:RI code ms []):ms=A0Q code:=by
 have a: ∀i,Path code i→ms[i]? =some true:=by
  intro i d
  induction d with
  |zero f=>exact h.zero f
  |step _ j g=>
   rcases h.closed _ g with b|b
   ·cases b
   ·exact b _ j
 refine List.ext_getElem? fun i=> ?_
 by_cases c:i<code.length
 ·rw [B8L c]
  have:i<ms.length:=by rw [h.len];exact c
  cases hb:ms[i]with
  |true=>
   have e:ms[i]? =some true:=by simp [this,hb]
   rw [e,B6J.2 (h.path i e)]
  |false=>
   have e:ms[i]? =some false:=by simp [this,hb]
   rw [e]
   cases hr:A0P code i with
   |false=>rfl
   |true=>rw [a i (B6J.1 hr)]at e;cases e
 ·rw [List.getElem?_eq_none (by rw [h.len];omega),List.getElem?_eq_none (by rw [B1O];omega)]
theorem RI.pop{code:List Ins}{ms:List Bool}{c:List Int}{t:Int}(h:RI code ms (c++ [t])): ∃a:Nat,t=a∧a<code.length∧RJ code a 0 ms c:=by
 obtain⟨a,rfl,d⟩:=h.tdin t zf
 refine⟨a,rfl,by rw [←h.len];exact(List.getElem?_eq_some_iff.1 d).1,⟨h.len,fun t f=>h.tdin t (by simp [f]),h.path,fun i e=> ?_,h.zero,d,fun j g=>by simp at g⟩⟩
 rcases h.closed i e with b|b
 ·rcases List.mem_append.1 b with b|b
  ·exact .inl b
  ·exact .inr (.inl (by have:=List.mem_singleton.1 b;omega))
 ·exact .inr (.inr b)
theorem RJ.over{code:List Ins}{a k:Nat}{ms:List Bool}{t:List Int}(h:RJ code a k ms t)(c:(C5 code a).length≤k):RI code ms t:=by
 refine⟨h.len,h.tdin,h.path,fun i d=> ?_,h.zero⟩
 rcases h.closed i d with b|b|b
 ·exact .inl b
 ·subst b
  refine .inr fun j e=>h.done j ?_
  rwa [List.take_of_length_le c]
 ·exact .inr b
theorem RJ.skip{code:List Ins}{a k j:Nat}{ms:List Bool}{t:List Int}(h:RJ code a k ms t)(d:(C5 code a)[k]? =some (j:Int))(c:ms[j]? =some true):RJ code a (k+1) ms t:=by
 refine⟨h.len,h.tdin,h.path,h.closed,h.zero,h.cur,fun i b=> ?_⟩
 rw [List.take_add_one,d]at b
 rcases List.mem_append.1 b with b|b
 ·exact h.done i b
 ·have:i=j:=Int.ofNat_inj.1 zz
  subst this;exact c
theorem RJ.mark{code:List Ins}{a k j:Nat}{ms:List Bool}{m:List Int}(h:RJ code a k ms m)(n:(C5 code a)[k]? =some (j:Int))(p:ms[j]? =some false):RJ code a (k+1) (ms.set j true) (m++ [(j:Int)]):=by
 have d:j<ms.length:=(List.getElem?_eq_some_iff.1 p).1
 have u: ∀i:Nat,ms[i]? =some true→(ms.set j true)[i]? =some true:=fun i b=>by
  rw [List.getElem?_set]
  split
  ·rename_i e;subst e;simp [d]
  ·exact b
 have l: ∀i:Nat,(ms.set j true)[i]? =some true→i=j∨ms[i]? =some true:=fun i b=>by
  rw [List.getElem?_set]at b
  split at b
  ·rename_i e;exact .inl e.symm
  ·exact .inr b
 have c:(ms.set j true)[j]? =some true:=by simp [d]
 refine⟨by rw [List.length_set];exact h.len,fun t g=> ?_,fun i b=> ?_,fun i b=> ?_,fun q=>u 0 (h.zero q),u a h.cur,fun i b=> ?_⟩
 ·rcases List.mem_append.1 g with g|g
  ·obtain⟨i,e,b⟩:=h.tdin t g
   exact⟨i,e,u i b⟩
  ·exact⟨j,List.mem_singleton.1 g,c⟩
 ·rcases l i b with e|b
  ·subst e
   exact .step (h.path a h.cur) (List.mem_of_getElem? n)
  ·exact h.path i b
 ·rcases l i b with e|b
  ·subst e;exact .inl zf
  ·rcases h.closed i b with f|f|f
   ·exact .inl (by simp [f])
   ·exact .inr (.inl f)
   ·exact .inr (.inr fun x o=>u x (f x o))
 ·rw [List.take_add_one,n]at b
  rcases List.mem_append.1 b with b|b
  ·exact u i (h.done i b)
  ·have:i=j:=Int.ofNat_inj.1 zz
   subst this;exact c
theorem B1t{ms:List Bool}{j:Nat}(b:ms[j]? =some false):(ms.set j true).count false+1=ms.count false:=by
 obtain⟨a,h⟩:=List.getElem?_eq_some_iff.1 b
 have c:0<ms.count false:=List.count_pos_iff.2 (h ▸ List.getElem_mem a)
 rw [List.count_set a,h]
 simp
 omega
theorem RI.start{code:List Ins}(h:0<code.length):RI code ((List.replicate code.length false).set 0 true) [0]:=by
 refine⟨by simp,fun t b=>⟨0,by simpa using b,by simp [h]⟩,fun i a=> ?_,fun i a=> ?_,fun _=>by simp [h]⟩
 ·rw [List.getElem?_set]at a
  split at a
  ·rename_i e;subst e;exact .zero h
  ·rw [List.getElem?_replicate]at a
   split at a<;>cases a
 ·rw [List.getElem?_set]at a
  split at a
  ·rename_i e;subst e;exact .inl zf
  ·rw [List.getElem?_replicate]at a
   split at a<;>cases a
theorem B4O{n:Nat}(h:0<n): [(0:Int)].length+((List.replicate n false).set 0 true).count false≤n:=by
 have:=B1t (ms:=List.replicate n false) (j:=0) (by simp [h])
 rw [List.count_replicate_self]at this
 simp only [List.length_cons,List.length_nil]
 omega
theorem B6K{code:List Ins}(h:code.length=0):A0Q code= []:=List.eq_nil_of_length_eq_zero (by rw [B1O];exact h)
-- EV: Ins.v, Ins.row
theorem D7R(d:Nat)(h:A2)(l:List Bool):(l.map brw).map (fun r=>r.map (frz d h))=l.map brw:=by
 rw [List.map_map]
 exact List.map_congr_left fun y _=>by simp [brw,C8A]
theorem C3c{l:List Bool}{k:Nat}{x:Bool}(h:l[k]? =some x):(l.map brw)[k]? =some [.bool x]:=by rw [List.getElem?_map,h];rfl
theorem C4K(l:List Bool)(j:Nat)(x:Bool):(l.map brw).set j [.bool x]=(l.set j x).map brw:=by rw [List.map_set];rfl
theorem C3X(code:List Ins)(hc:code.length≤10000)(G H N M F I J K L l:V)(X: [G,H,N,M,F,I,J,K,L,l].map (V.sub C7)= [G,H,N,M,F,I,J,K,L,l]):
  Pure Tryz.prog 34 [.agg [G,H,N,M,F,.isl (code.map Ins.row),I,J,K,L,l]] (.isl ((A0Q code).map brw)):=by
 refine Pure.of 1 (A0.enter B0Y Jk ?_)
 simp only [List.map_cons,List.map_nil,List.cons.injEq,and_true]at X
 have W:=fun a=>A1L code a zd G H N M F I J K L l
 have hlen:(code.map Ins.row).length=code.length:=List.length_map ..
 have v:(code.map Ins.row).map (fun r=>r.map (V.sub C7))=code.map Ins.row:=D4A C7 code
 generalize code.map Ins.row=es at*
 refine Run.go 100 ?_
 by_cases h0:code.length=0
 ·have e:es= []:=List.eq_nil_of_length_eq_zero zd
  subst e
  rw [B6K h0]
  simp -implicitDefEqProofs only [go_sem,A4,List.length_nil]
  refine Run.rounds (fun(x:Nat)=>⟨[(4,.nils),(3,.sl (34*10000+11) 1 0 0)],[((34*10000+11),1,.rows 1 [])],x⟩) (fun _=>True) (fun _=>0) 2 (by simp -implicitDefEqProofs only [go_sem,List.replicate_zero]) trivial ?_
  rintro x _ ih
  refine Run.unf A3A (Run.go 100 ?_)
  simp -implicitDefEqProofs only [go_sem,List.length_nil]
 have hp:0<code.length:=by omega
 have g0:=eq_true hp
 have g1:((0:Int)<(code.length:Int))=True:=Ji
 have w:(List.replicate code.length [V.bool false])[0]? =some [.bool false]:=by simp [hp]
 simp -implicitDefEqProofs only [go_sem,A4,hlen,g0,g1,w,Option.some.injEq,forall_eq',List.drop_one,List.tail_cons]
 refine⟨by omega,by omega,?_⟩
 refine Run.rounds (fun(x:List Int×List (List V)×List Bool×Nat×Nat)=>⟨[(4,.sl (34*10000+19) x.2.2.2.1 0 x.1.length),(3,.sl (34*10000+11) 1 0 code.length),(1,.ptr (34*10000+1) 0 0 0)],[((34*10000+19),x.2.2.2.1,.rows 1 x.2.1),((34*10000+11),1,.rows 1 (x.2.2.1.map brw)),((34*10000+1),0,.rows 11 [[G,H,N,M,F,.isl es,I,J,K,L,l]])],x.2.2.2.2⟩)
  (fun x=>RI code x.2.2.1 x.1∧x.2.1.take x.1.length=x.1.map zrw∧x.1.length≤x.2.1.length∧x.1.length+x.2.2.1.count false≤code.length) (fun x=>2*x.2.2.1.count false+x.1.length) ([0],[[.int .i64 0]],(List.replicate code.length false).set 0 true,2,3) (by simp -implicitDefEqProofs only [go_sem,List.append_nil,List.map_cons,List.map_nil,zrw,List.length_cons,List.length_nil,List.map_set,List.map_replicate,brw]) ⟨RI.start hp,rfl,Nat.le_refl _,B4O hp⟩ ?_
 rintro⟨i,R,ms,st,m⟩ ⟨S,hR,O,z⟩ ih
 simp only at S ih hR O z⊢
 have C:=S.len
 refine Run.unf A3A (Run.go 100 ?_)
 rcases B4D i with rfl|⟨i,t,rfl⟩
 ·have hfin:=S.fin
  refine Jg ?_
  rw [←hfin]
  have e:(ms.map brw).take code.length=ms.map brw:=List.take_of_length_le (by simp [C])
  have e2:Nat.ble code.length (ms.map brw).length=true:=Nat.ble_eq_true_of_le (by simp [C])
  simp -implicitDefEqProofs only [go_sem,e,e2,C]
  exact D7R _ _ _
 obtain⟨a,rfl,ha,hJ0⟩:=S.pop
 have hln:(i++ [(a:Int)]).length=i.length+1:=by simp
 rw [hln]at hR O z ih⊢
 generalize hT:i.length+1=T at*
 have q0:((0:Int)<(T:Int))=True:=Ji
 have q1:((0:Int)≤(T:Int)-1)=True:=Ji
 have q2:(((T:Int)-1)<(T:Int))=True:=Ji
 have q3:((T:Int)-1).toNat=i.length:=by omega
 have q3':((T:Int)-1-0).toNat=i.length:=by omega
 have q4:R[i.length]? =some [.int .i64 a]:=by
  have h1:(R.take T)[i.length]? =some [.int .i64 a]:=by rw [hR];exact P9 zf
  rwa [List.getElem?_take_of_lt zd]at h1
 have q5:(((T:Int)-1)≤(T:Int))=True:=Ji
 have hR':R.take i.length=i.map zrw:=by
  have:=congrArg (List.take i.length) hR
  rw [List.take_take,Nat.min_eq_left zd]at this
  rw [this];simp
 simp -implicitDefEqProofs only [go_sem,q0,q1,q2,q3,q3',q4,q5,Option.some.injEq,forall_eq']
 refine⟨by omega,by omega,by omega,?_⟩
 refine A0.pure (W a) (by simp -implicitDefEqProofs only [go_sem,v,X]) ?_
 have hnl:=R5 code a
 have Z:=fun x (h:x∈C5 code a)=>i2 h
 generalize o:C5 code a=n at*
 have Q: ∀(k:Nat) (x:Int),n[k]? =some x→(n.map zrw)[k]? =some [.int .i64 x]:=fun k x h=>P9 h
 have g:(n.map zrw).length=n.length:=List.length_map ..
 have y:=B3Y n
 have hnlf:(n.map zrw).map (fun r=>r.map (V.sub C7))=n.map zrw:=O7 0 [] n
 generalize n.map zrw=nls at*
 simp -implicitDefEqProofs only [go_sem,g]
 clear W v w S
 refine Run.rounds (fun(x:Nat×List Int×List (List V)×List Bool×Nat×Nat)=>⟨[(38,.int .i64 (x.1:Nat)),(37,.int .i64 n.length),(36,.isl nls),(4,.sl (34*10000+19) x.2.2.2.2.1 0 x.2.1.length),(3,.sl (34*10000+11) 1 0 code.length),(1,.ptr (34*10000+1) 0 0 0)],[((34*10000+19),x.2.2.2.2.1,.rows 1 x.2.2.1),((34*10000+11),1,.rows 1 (x.2.2.2.1.map brw)),((34*10000+1),0,.rows 11 [[G,H,N,M,F,.isl es,I,J,K,L,l]])],x.2.2.2.2.2⟩)
  (fun x=>x.1≤n.length∧RJ code a x.1 x.2.2.2.1 x.2.1∧x.2.2.1.take x.2.1.length=x.2.1.map zrw∧x.2.1.length≤x.2.2.1.length∧x.2.1.length+x.2.2.2.1.count false≤code.length∧2*x.2.2.2.1.count false+x.2.1.length<2*ms.count false+T) (fun x=>n.length-x.1) (0,i,R,ms,st,m) ze ⟨by simp only;omega,hJ0,hR',by simp only;omega,by simp only;omega,by simp only;omega⟩ ?_
 rintro⟨k,q,R2,d,st2,m2⟩ ⟨hk,P,u,p,f,D⟩ E
 simp only at hk P u p f D E⊢
 have hml2:=P.len
 refine Run.unf A3B (Run.go 100 ?_)
 have hz:((k+1:Nat):Int)=(k:Int)+1:=by omega
 by_cases c:(k:Int)<n.length
 rotate_left
 ·simp -implicitDefEqProofs only [go_sem,c,g]
  exact ih _ (q,R2,d,st2,m2) ⟨P.over (by rw [o];omega),u,p,f⟩ D ze
 obtain⟨x,hx⟩: ∃x,n[k]? =some x:=⟨n[k]' zd,by simp⟩
 have U:=Q k x hx
 have hxin:=Z x (List.mem_of_getElem? hx)
 obtain⟨j,rfl⟩: ∃j:Nat,x=j:=⟨x.toNat,by omega⟩
 have k0:((0:Int)≤(k:Int))=True:=Ji
 have k1:((k:Int)<(n.length:Int))=True:=eq_true c
 have k2:(k<n.length)=True:=Ji
 have j0:((0:Int)≤(j:Int))=True:=Ji
 have j1:((j:Int)<(code.length:Int))=True:=Ji
 have j2:(j<code.length)=True:=Ji
 obtain⟨bv,s⟩: ∃b,d[j]? =some b:=⟨d[j]' zd,by simp⟩
 have hbr:=C3c s
 have Y:(d.map brw).length=code.length:=by simp [hml2]
 have hset:=C4K d j true
 generalize hBe:d.map brw=B at*
 cases bv with
 |true=>
  have A:=P.skip (by rw [o];exact hx) s
  simp -implicitDefEqProofs only [go_sem,g,y,U,k0,k1,k2,j0,j1,j2,hbr,Y,Option.some.injEq,forall_eq']
  refine⟨by omega,?_⟩
  refine E _ (k+1,q,R2,d,st2,m2) ⟨by simp only;omega,A,u,p,f,D⟩ zg ?_
  simp only [hz]
  simp -implicitDefEqProofs only [go_sem,hBe]
 | false=>
  have A:=P.mark (by rw [o];exact hx) s
  have hct:=B1t s
  have hbl:=Y
  simp -implicitDefEqProofs only [go_sem,g,y,U,k0,k1,k2,j0,j1,j2,hbr,hbl,List.length_set,hset,Option.some.injEq,forall_eq',List.drop_one,List.tail_cons]
  refine⟨by omega,by omega,by omega,?_⟩
  refine E _ (k+1,q++ [(j:Int)],R2.take q.length++ [[.int .i64 j]],d.set j true,m2,m2+1) ⟨by simp only;omega,A,?_,?_,?_,?_⟩ zg ?_
  ·simp only [List.length_append,List.length_cons,List.length_nil]
   rw [List.take_of_length_le zl,u];simp [zrw]
  ·simp;omega
  ·simp;omega
  ·simp;omega
  ·exact Kj
end
section
open Go.Abs
attribute [local irreducible] A0 Run
theorem C1Y(p:Fn)(a:p.code.length≤10000):Pure Tryz.prog 34 [.agg p.row] (.isl ((A0Q p.code).map brw)):=by
 have h:=Fn.row_sub C7 p
 rw [Fn.row_eq]at h⊢
 refine C3X p.code a _ _ _ _ _ _ _ _ _ _ ?_
 exact Kk
noncomputable def G2 (p:Fn):Fn:=E6 (fun k=> !A0P p.code k) p
theorem C6b(p:Fn)(d:RemOK p)(A:p.code.length≤10000):Pure Tryz.prog 33 [.agg p.row] (.agg (G2 p).row):=by
 have l:=C1Y p A
 have j:=B4I p d (fun k=> !A0P p.code k) 35
 obtain⟨t,s⟩:=B4 p
 have h:=Fn.row_sub C7 p
 have x: ∀i,i<p.code.length→((A0Q p.code).map brw)[i]? =some [.bool (A0P p.code i)]:=fun i c=>C3c (B8L c)
 have m:((A0Q p.code).map brw).length=p.code.length:=by simp [B1O]
 have f:C4 ((A0Q p.code).map brw) 1=True:=eq_true (B3 brw 1 (fun _=>rfl) _)
 refine Pure.of 0 (A0.enter A5g Jk (Run.go 100 ?_))
 unfold G2
 generalize a:(E6 (fun k=> !A0P p.code k) p).row=o at*
 generalize p.row=G at*
 generalize (A0Q p.code).map brw=B at*
 simp -implicitDefEqProofs only [go_sem,A4,t,s]
 refine A0.pureF l zC ?_
 simp -implicitDefEqProofs only [go_sem,t,s,Nat.reduceDiv]
 refine(j _ _ rfl (fun b F e q=> ?_) (fun i c n=> ?_) _).wk ?_
 ·simp only [List.mem_cons,List.not_mem_nil,or_false]at q
  intro u
  rcases q with rfl|rfl|rfl<;>(dsimp only at u;omega)
 ·refine A0.enterK A3S Jk fun Q z=>Run.go 100 ?_
  have w:((0:Int)≤(i:Int))=True:=Ji
  have D:(i<p.code.length)=True:=eq_true c
  have g:=x i c
  simp -implicitDefEqProofs only [go_sem,A4,m,f,w,D,g,Option.some.injEq,forall_eq']
  subst z
  exact⟨by omega,Z2.to ⟨rfl,rfl⟩ (.refl _)⟩
 ·rintro r H v ⟨rfl,rfl⟩
  refine QU ?_
  refine⟨.agg o,_,v,.refl _,?_⟩
  have C:o.length=11:=by rw [←a];exact(B4 _).1
  have E:o.take 11=o:=by rw [←a];exact(B4 _).2
  have y:o.map (V.sub C7)=o:=by rw [←a];exact Fn.row_sub C7 _
  simp -implicitDefEqProofs only [go_sem,C,E,y,Nat.reduceDiv]
  rw [←a]
  exact Fn.row_sub C7 _
mutual
def Fn.szF:Fn→Nat→Nat
 |⟨_,_,_,_,_,code,_,_,l,_,_⟩,m=>Fn.szL l (code.length+1) m
def Fn.szL:List Fn→Nat→Nat→Nat
 | [],n,_=>n
 |q::r,n,m=>if n<m then Fn.szL r (n+Fn.szF q (m-n)) m else n
end
mutual
def Fn.tot:Fn→Nat
 |⟨_,_,_,_,_,code,_,_,l,_,_⟩=>code.length+1+Fn.totL l
def Fn.totL:List Fn→Nat
 | []=>0
 |q::r=>Fn.tot q+Fn.totL r
end
theorem Fn.szF_eq(p:Fn)(m:Nat):p.szF m=Fn.szL p.protos (p.code.length+1) m:=by
 obtain⟨a,b,c,d,e,f,g,h,i,j,k⟩:=p
 rw [Fn.szF]
theorem Fn.tot_eq(p:Fn):p.tot=p.code.length+1+Fn.totL p.protos:=by
 obtain⟨a,b,c,d,e,f,g,h,i,j,k⟩:=p
 rw [Fn.tot]
theorem D0b{m:Nat}: ∀(l:List Fn) (n:Nat),¬n<m→Fn.szL l n m=n
 | [],n,_=>by rw [Fn.szL]
 |q::r,n,h=>by rw [Fn.szL,if_neg h]
theorem D1F{l:List Fn}(a: ∀q∈l,∀m,q.szF m<m→q.szF m=q.tot): ∀{n m:Nat},Fn.szL l n m<m→Fn.szL l n m=n+Fn.totL l:=by
 induction l with
 |nil=>intro n m h;rw [Fn.szL,Fn.totL];rfl
 | cons q r i=>
  intro n m h
  rw [Fn.szL]at h⊢
  by_cases c:n<m
  ·rw [if_pos c]at h⊢
   have d:=i (fun x b=>a x (List.mem_cons_of_mem _ b)) h
   rw [d]at h⊢
   have e:=a q List.mem_cons_self (m-n) zd
   rw [e,Fn.totL];omega
  ·rw [if_neg c]at h;omega
theorem D1E(p:Fn): ∀m,p.szF m<m→p.szF m=p.tot:=by
 induction p using Fn.ind with
 |h p i=>
  intro m h
  rw [Fn.szF_eq]at h⊢
  rw [D1F i h,Fn.tot_eq]
theorem D4B{l:List Fn}(a: ∀q∈l,∀m,q.szF m≤m+3518437208781): ∀{n m:Nat},n≤m+3518437208781→Fn.szL l n m≤m+3518437208781:=by
 induction l with
 |nil=>intro n m h;rw [Fn.szL];exact h
 | cons q r i=>
  intro n m h
  rw [Fn.szL]
  by_cases c:n<m
  ·rw [if_pos c]
   have:=a q List.mem_cons_self (m-n)
   exact i (fun x b=>a x (List.mem_cons_of_mem _ b)) zd
  ·rw [if_neg c];exact h
theorem D0a(p:Fn)(a:p.bd): ∀m,p.szF m≤m+3518437208781:=by
 induction p using Fn.ind with
 |h p i=>
  intro m
  rw [Fn.szF_eq]
  have:=a.self.code
  exact D4B (fun q b=>i q b (a.child b)) zd
theorem C2N: ∀{l:List Fn} {q:Fn},q∈l→q.tot≤Fn.totL l
 |x::r,q,h=>by
  rw [Fn.totL]
  rcases List.mem_cons.1 h with rfl|h
  ·omega
  ·have:=C2N h;omega
theorem B7m(p:Fn):p.each.length≤p.tot∧ ∀q∈p.each,q.code.length+1≤p.tot:=by
 induction p using Fn.ind with
 | h p g=>
  have e: ∀l:List Fn,(∀q∈l,q.each.length≤q.tot∧ ∀x∈q.each,x.code.length+1≤q.tot)→(Fn.eachs l).length≤Fn.totL l∧ ∀x∈Fn.eachs l,x.code.length+1≤Fn.totL l:=by
   intro l
   induction l with
   |nil=>intro _;exact⟨Nat.le_refl _,fun x a=>by simp [Fn.eachs]at a⟩
   |cons q r i=>
    intro h
    obtain⟨j,f⟩:=h q List.mem_cons_self
    obtain⟨k,d⟩:=i fun x a=>h x (List.mem_cons_of_mem _ a)
    rw [Fn.eachs,Fn.totL]
    refine⟨by simp;omega,fun x a=> ?_⟩
    rcases List.mem_append.1 a with a|a
    ·have:=f x a;omega
    ·have:=d x a;omega
  obtain⟨m,c⟩:=e p.protos g
  rw [Fn.each_eq,Fn.tot_eq]
  refine⟨by simp;omega,fun q b=> ?_⟩
  rcases List.mem_cons.1 b with rfl|b
  ·omega
  ·have:=c q b;omega
mutual
def Fn.lgB:Fn→Bool
 |⟨name,line,params,vararg,regs,code,lines,consts,l,ups,vars⟩=>decide (200<Fn.szF ⟨name,line,params,vararg,regs,code,lines,consts,l,ups,vars⟩ 201)||decide (60<regs)||Fn.lgL l
def Fn.lgL:List Fn→Bool
 | []=>false
 |q::r=>Fn.lgB q||Fn.lgL r
end
theorem Fn.lgB_eq(p:Fn):p.lgB=(decide (200<p.szF 201)||decide (60<p.regs)||Fn.lgL p.protos):=by
 obtain⟨a,b,c,d,e,f,g,h,i,j,k⟩:=p
 rw [Fn.lgB]
theorem D3H{p:Fn}(h:p.lgB=false):p.tot≤200:=by
 rw [Fn.lgB_eq]at h
 simp only [Bool.or_eq_false_iff,decide_eq_false_iff_not]at h
 have:=D1E p 201 zd
 omega
theorem C4q(p:Fn)(r:p.bd): ∀m:Nat,m≤1000→Pure Tryz.prog 9 [.agg p.row,.int .i64 m] (.int .i64 (p.szF m)):=by
 induction p using Fn.ind with
 | h p o=>
  intro m S
  have t:=D0a p r m
  have e:=r.self
  have H:=e.code
  have D:=e.protos
  rw [Fn.szF_eq]at t⊢
  obtain⟨R,Q⟩:=B4 p
  rw [Fn.row_eq p]
  have j:(p.protos.map Fn.row).length=p.protos.length:=List.length_map ..
  have B:C4 (p.protos.map Fn.row) 11=True:=eq_true (B3 Fn.row 11 Fn.row_len p.protos)
  have y: ∀(k:Nat) q,p.protos[k]? =some q→(p.protos.map Fn.row)[k]? =some q.row:=fun k q v=>by rw [List.getElem?_map,v];rfl
  have s:(p.code.map Ins.row).length=p.code.length:=List.length_map ..
  have n: ∀q∈p.protos,∀m:Nat,m≤1000→Pure Tryz.prog 9 [.agg q.row,.int .i64 m] (.int .i64 (q.szF m)):=fun q g=>o q g (r.child g)
  have w: ∀q∈p.protos,∀m,q.szF m≤m+3518437208781:=fun q g=>D0a q (r.child g)
  clear o
  generalize p.code.map Ins.row=F at*
  generalize p.lines.map D1=L at*
  generalize p.vars.map Vr.row=V at*
  generalize p.consts.map Kst.row=K at*
  generalize p.protos.map Fn.row=P at*
  generalize p.ups.map Upv.row=U at*
  refine Pure.of 0 (A0.enter A2J Jk (Run.go 100 ?_))
  simp -implicitDefEqProofs only [go_sem,A4,s]
  refine⟨by omega,?_⟩
  refine Run.rounds (fun(x:Nat×Nat)=>⟨[(6,.int .i64 x.1),(5,.int .i64 x.2),(2,.ptr (9*10000+2) 0 0 0),(1,.int .i64 m)],[((9*10000+2),0,.rows 11 [[.str p.name,.int .i64 p.line,.int .i64 p.params,.bool p.vararg,.int .i64 p.regs,.isl F,.isl L,.isl K,.isl P,.isl U,.isl V]])],1⟩)
   (fun x=>x.1≤p.protos.length∧x.2≤m+3518437208781∧Fn.szL p.protos (p.code.length+1) m=Fn.szL (p.protos.drop x.1) x.2 m) (fun x=>p.protos.length-x.1) (0,p.code.length+1) Qp ⟨Nat.zero_le _,by show p.code.length+1≤m+3518437208781;omega,by simp⟩ ?_
  rintro⟨k,a⟩ ⟨v,M,f⟩ o
  dsimp only at v M f o⊢
  refine Run.unf A0C (Run.go 100 ?_)
  by_cases c:(k:Int)<p.protos.length
  ·by_cases d:(a:Int)<m
   ·obtain⟨q,g⟩: ∃q,p.protos[k]? =some q:=⟨p.protos[k]' zd,by simp⟩
    have l:=List.mem_of_getElem? g
    have z:=y k q g
    have E:((0:Int)≤(k:Int))=True:=Ji
    have I:(k<p.protos.length)=True:=Ji
    have u:=Fn.row_sub C7 q
    have C:=Fn.row_len q
    have A:q.row.take 11=q.row:=List.take_of_length_le zd
    have b:=n q l (m-a) zd
    rw [show ((m-a:Nat):Int)=(m:Int)-(a:Int) from by omega]at b
    have O:=w q l (m-a)
    have i:Fn.szL (p.protos.drop k) a m=Fn.szL (p.protos.drop (k+1)) (a+q.szF (m-a)) m:=by
     obtain⟨G,J⟩:=List.getElem?_eq_some_iff.1 g
     rw [List.drop_eq_getElem_cons G,J,Fn.szL,if_pos zd]
    generalize q.row=N at*
    simp -implicitDefEqProofs only [go_sem,c,d,E,I,j,B,z,C,A,Option.some.injEq,forall_eq']
    refine⟨by omega,?_⟩
    refine A0.pureF b Qj ?_
    refine QL ?_
    exact⟨by omega,by omega,o _ (k+1,a+q.szF (m-a)) ⟨by dsimp only;omega,by dsimp only;omega,by rw [f,i]⟩ zk Qp⟩
   ·rw [f,D0b _ _ zd]
    simp -implicitDefEqProofs only [go_sem,c,d,j]
  ·rw [f,show p.protos.drop k= [] from List.drop_eq_nil_of_le zd,Fn.szL]
   simp -implicitDefEqProofs only [go_sem,c,j]
theorem C5i: ∀{l:List Fn} {k:Nat} {q:Fn},l[k]? =some q→q.lgB=true→Fn.lgL l=true
 | [],k,q,h,_=>by simp at h
 |x::r,0,q,h,hq=>by simp at h;subst h;rw [Fn.lgL,hq];rfl
 |x::r,k+1,q,h,hq=>by rw [Fn.lgL,C5i (l:=r) zx hq];simp
theorem C1t: ∀{l:List Fn},(∀q∈l,q.lgB=false)→Fn.lgL l=false
 | [],_=>by rw [Fn.lgL]
 |x::r,h=>by rw [Fn.lgL,h x List.mem_cons_self,C1t fun q a=>h q (List.mem_cons_of_mem _ a)];rfl
theorem C1r(p:Fn)(z:p.bd):Pure Tryz.prog 4 [.agg p.row] (.bool p.lgB):=by
 induction p using Fn.ind with
 | h p o=>
  have j:=C4q p z 201 zh
  have f:=z.self
  have E:=f.protos
  rw [Fn.lgB_eq]
  obtain⟨R,Q⟩:=B4 p
  rw [Fn.row_eq p]at j⊢
  have J:=D2 C7 Ins.row p.code fun x _=>Ins.row_sub C7 x
  have N:=D2 C7 D1 p.lines fun x _=>B0b C7 x
  have I:=D2 C7 Vr.row p.vars fun x _=>Vr.row_sub C7 x
  have C:=D2 C7 Kst.row p.consts fun x _=>Kst.row_sub C7 x
  have D:=Fn.rows_sub C7 p.protos
  have H:=D2 C7 Upv.row p.ups fun x _=>Upv.row_sub C7 x
  have d:(p.protos.map Fn.row).length=p.protos.length:=List.length_map ..
  have y:C4 (p.protos.map Fn.row) 11=True:=eq_true (B3 Fn.row 11 Fn.row_len p.protos)
  have u: ∀(k:Nat) q,p.protos[k]? =some q→(p.protos.map Fn.row)[k]? =some q.row:=fun k q B=>by rw [List.getElem?_map,B];rfl
  have l: ∀q∈p.protos,Pure Tryz.prog 4 [.agg q.row] (.bool q.lgB):=fun q a=>o q a (z.child a)
  clear o
  generalize p.code.map Ins.row=G at*
  generalize p.lines.map D1=L at*
  generalize p.vars.map Vr.row=V at*
  generalize p.consts.map Kst.row=M at*
  generalize p.protos.map Fn.row=P at*
  generalize p.ups.map Upv.row=U at*
  refine Pure.of 0 (A0.enter A1Q Jk (Run.go 100 ?_))
  refine QM ?_
  refine A0.pureF j (by simp -implicitDefEqProofs only [go_sem,J,N,I,C,D,H]) ?_
  by_cases t:(200:Int)<((p.szF 201:Nat):Int)
  ·have e:decide (200<p.szF 201)=true:=decide_eq_true zd
   rw [e,Bool.true_or,Bool.true_or]
   exact zX
  have e:decide (200<p.szF 201)=false:=decide_eq_false zd
  rw [e,Bool.false_or]
  by_cases n:(60:Int)<p.regs
  ·rw [decide_eq_true n,Bool.true_or]
   simp -implicitDefEqProofs only [go_sem,t,n]
  rw [decide_eq_false n,Bool.false_or]
  simp -implicitDefEqProofs only [go_sem,t,n,d]
  refine Run.rounds (fun(k:Nat)=>⟨[(15,.int .i64 k),(14,.int .i64 p.protos.length),(1,.ptr (4*10000+1) 0 0 0)],[((4*10000+1),0,.rows 11 [[.str p.name,.int .i64 p.line,.int .i64 p.params,.bool p.vararg,.int .i64 p.regs,.isl G,.isl L,.isl M,.isl P,.isl U,.isl V]])],1⟩)
   (fun k=>k≤p.protos.length∧ ∀q∈p.protos.take k,q.lgB=false) (fun k=>p.protos.length-k) 0 Qp ⟨Nat.zero_le _,by simp⟩ ?_
  rintro k ⟨B,m⟩ o
  refine Run.unf w4 (Run.go 100 ?_)
  by_cases c:(k:Int)<p.protos.length
  ·obtain⟨q,a⟩: ∃q,p.protos[k]? =some q:=⟨p.protos[k]' zd,by simp⟩
   have s:=List.mem_of_getElem? a
   have v:=u k q a
   have F:((0:Int)≤(k:Int))=True:=Ji
   have K:(k<p.protos.length)=True:=Ji
   have r:=Fn.row_sub C7 q
   have A:=Fn.row_len q
   have w:q.row.take 11=q.row:=List.take_of_length_le zd
   have b:=l q s
   have i:=fun h=>C5i a h
   generalize q.row=O at*
   simp -implicitDefEqProofs only [go_sem,c,F,K,d,y,v,A,w,Option.some.injEq,forall_eq']
   refine A0.pureF b (by simp -implicitDefEqProofs only [go_sem,r]) ?_
   cases hb:q.lgB with
   |true=>
    rw [i hb]
    exact Xx
   |false=>
    refine QL ?_
    refine⟨by omega,o _ (k+1) ⟨by omega,fun x g=> ?_⟩ zd Qp⟩
    rw [List.take_add_one,a]at g
    rcases List.mem_append.1 g with g|g
    ·exact m x g
    ·simp at g;rw [g];exact hb
  ·rw [C1t (fun q a=>m q (by rw [List.take_of_length_le zd];exact a))]
   simp -implicitDefEqProofs only [go_sem,c,d]
end
section
open Go.Abs
theorem A8v{α:Type}(f:α→List V)(sz:Nat)(h: ∀x,(f x).length=sz)(l:List α):C4 (l.map f) sz=True:=eq_true fun r a=>by obtain⟨y,_,rfl⟩:=List.mem_map.1 a;exact h y
def B0(N:Nat)(f:Nat→Bool):List (List V):=(List.range N).map fun r=> [.bool (f r)]
theorem D6(N:Nat)(f:Nat→Bool):(B0 N f).length=N:=by simp [B0]
theorem H7{N r:Nat}{f:Nat→Bool}(h:r<N):(B0 N f)[r]? =some [.bool (f r)]:=by simp [B0,h]
theorem B1q(N:Nat):B0 N (fun _=>false)=List.replicate N [.bool false]:=by
 unfold B0;rw [List.map_const'];simp
theorem E3{N:Nat}{f g:Nat→Bool}(h: ∀r,r<N→f r=g r):B0 N f=B0 N g:=
 List.map_congr_left fun r a=>by rw [h r (List.mem_range.1 a)]
theorem U0{N r:Nat}{f:Nat→Bool}{b:Bool}(g:Nat→Bool)(a: ∀x,x<N→g x=if x=r then b else f x):(B0 N f).set r [.bool b]=B0 N g:=by
 refine List.ext_getElem? fun j=> ?_
 rw [List.getElem?_set,D6]
 by_cases h:j<N
 ·rw [H7 h,H7 h,a j h]
  by_cases d:r=j
  ·subst d;simp [h]
  ·rw [if_neg d,if_neg (Ne.symm d)]
 ·rw [List.getElem?_eq_none (by rw [D6];omega),List.getElem?_eq_none (by rw [D6];omega)]
  split
  ·rw [if_neg zd]
  ·rfl
theorem H8(N:Nat)(f:Nat→Bool):C4 (B0 N f) 1=True:=eq_true fun r h=>by obtain⟨i,_,rfl⟩:=List.mem_map.1 h;rfl
theorem U1(φ:Nat→Nat→Nat→Nat→V)(N:Nat)(f:Nat→Bool):(B0 N f).map (fun r=>r.map (V.sub φ))=B0 N f:=by
 unfold B0;rw [List.map_map];exact List.map_congr_left fun y _=>by simp [V.sub]
theorem B5L(N:Nat)(f:Nat→Bool): ∀r∈B0 N f,flatL r=true:=fun r h=>by obtain⟨i,_,rfl⟩:=List.mem_map.1 h;rfl
theorem C2T(l:List Int): ∀r∈l.map zrw,flatL r=true:=fun r h=>by obtain⟨i,_,rfl⟩:=List.mem_map.1 h;rfl
theorem W9(φ:Nat→Nat→Nat→Nat→V)(l:List Int):(l.map zrw).map (fun r=>r.map (V.sub φ))=l.map zrw:=by
 rw [List.map_map];exact List.map_congr_left fun y _=>by simp [zrw,V.sub]
def Q7(l:List Nat)(F:Nat→V):List (V×V):=l.map fun k=>(.int .i64 (k:Nat),F k)
theorem B3K(l:List Nat)(F:Nat→V):Z1 (Q7 l F):=fun e h=>by obtain⟨k,_,rfl⟩:=List.mem_map.1 h;exact⟨k,rfl⟩
theorem B3J(F:Nat→V)(k:Nat): ∀l:List Nat,u7 (.int .i64 (k:Nat)) (Q7 l F)=if k∈l then some (F k)else none
 | []=>rfl
 | a::l=>by
  have i:=B3J F k l
  simp only [Q7,List.map_cons,u7,A4O,Option.getD_some]at i⊢
  by_cases c:k=a
  ·subst c;simp
  ·have: ¬((k:Int)=(a:Int)):=by omega
   simp only [this,decide_false,cond_false,i,List.mem_cons,c,false_or]
theorem B2C{F:Nat→V}{k:Nat}{l:List Nat}(h:k∈l):u7 (.int .i64 (k:Nat)) (Q7 l F)=some (F k):=by rw [B3J,if_pos h]
theorem B9O{F:Nat→V}{k:Nat}{l:List Nat}(h:k∉l):u7 (.int .i64 (k:Nat)) (Q7 l F)=none:=by rw [B3J,if_neg h]
theorem C1z{F G:Nat→V}{k:Nat}{v:V}: ∀{l:List Nat},k∉l→(∀x∈l,G x=F x)→G k=v→A7b (.int .i64 (k:Nat)) v (Q7 l F)=Q7 (l++ [k]) G
 | [],_,_,hv=>by simp [Q7,A7b,hv]
 |a::l,hk,hg,hv=>by
  have i:=C1z (F:=F) (G:=G) (v:=v) (l:=l) (fun h=>hk (List.mem_cons_of_mem _ h)) (fun x b=>hg x (List.mem_cons_of_mem _ b)) hv
  have: ¬((k:Int)=(a:Int)):=fun e=>hk (by rw [show k=a by omega];exact List.mem_cons_self)
  simp only [Q7,List.map_cons,A7b,A4O,Option.getD_some,this,decide_false,cond_false,List.cons_append,List.map_append]at i⊢
  rw [i,hg a List.mem_cons_self]
theorem B1C{F G:Nat→V}{l:List Nat}(h: ∀x∈l,F x=G x):Q7 l F=Q7 l G:=List.map_congr_left fun x a=>by rw [h x a]
def O6(F:Nat→List (List V))(S:Nat→Nat)(l:List Nat):A2:=l.map (t6 F S)
theorem u5{F:Nat→List (List V)}{S:Nat→Nat}{l:List Nat}{e:Nat×Nat×Blk}:e∈O6 F S l↔ ∃i,i∈l∧t6 F S i=e:=by simp only [O6,List.mem_map]
theorem B5Z{F:Nat→List (List V)}{S:Nat→Nat}{i:Nat}: ∀{l:List Nat},i∈l→A2.get (O6 F S l) (1000000000000+i) (S i)=some (.rows 1 (F i))
 | a::l,h=>by
  simp only [O6,List.map_cons,t6,A2.get]
  by_cases c:a=i
  ·subst c;simp
  ·have:Nat.beq (1000000000000+a) (1000000000000+i)=false:=by
    cases hb:Nat.beq (1000000000000+a) (1000000000000+i)with
    |false=>rfl
    |true=>have:=Nat.eq_of_beq_eq_true hb;omega
   rw [this,cond_false]
   exact B5Z (List.mem_of_ne_of_mem (Ne.symm c) h)
theorem B5Y{F:Nat→List (List V)}{S:Nat→Nat}{l:List Nat}{b:Nat}(h:b<1000000000000):A2.del (O6 F S l) b=O6 F S l:=by
 refine List.filter_eq_self.2 fun e a=> ?_
 obtain⟨j,c,rfl⟩:=u5.1 a
 simp only [t6,B5K h,Bool.not_false]
theorem C6s{F:Nat→List (List V)}{S:Nat→Nat}{l:List Nat}{b st:Nat}(h:b<1000000000000):A2.get (O6 F S l) b st=none:=by
 induction l with
 |nil=>rfl
 |cons a l i=>simp only [O6,List.map_cons,t6,A2.get,B5K h,cond_false];exact i
structure Stt where
 set:Nat→Bool
 opn:Int
 marks:List Int
def B0U(i:Ins)(f:Nat→Bool):Nat→Bool:=if i.op=16 then fun r=>f r&&decide ((r:Int)<i.a)else if i.op=25 then fun r=>f r&&decide ((r:Int)<i.a+3)else f
def I7(i:Ins)(m:List Int):List Int:=if i.op=28 then m++ [i.a]else if i.op=27 then m.filter (fun r=>decide (r<i.a))else m
def B1v(N:Nat)(w:List Int×Int)(f:Nat→Bool):Nat→Bool:=fun r=>decide (r<N)&&((f r||w.1.contains (r:Int))&&(decide (w.2<0)||decide ((r:Int)<w.2)))
def A8g(N:Nat)(i:Ins)(s:Stt):Stt:=⟨B1v N (C6 i) (B0U i s.set),(C6 i).2,I7 i s.marks⟩
def f6(i:Ins)(a b:Int):Bool:=decide (i.op=23∧b=i.b)||decide (i.op=24∧(b≠i.b∨i.b=a+1))
def C9(N:Nat)(i:Ins)(a b:Int)(s:Stt):Stt:=
 if f6 i a b=true∧s.set (i.a+3).toNat=false then⟨fun r=>(A8g N i s).set r&&decide ((r:Int)≠i.a+3),(A8g N i s).opn,(A8g N i s).marks⟩else A8g N i s
theorem A7h(N:Nat)(i:Ins)(a b:Int)(s:Stt):(C9 N i a b s).opn=(C6 i).2:=by unfold C9;split<;>rfl
theorem A1M(N:Nat)(i:Ins)(a b:Int)(s:Stt):(C9 N i a b s).marks=I7 i s.marks:=by unfold C9;split<;>rfl
theorem B0I{N:Nat}{i:Ins}{a b:Int}{s:Stt}{r:Nat}(h:N≤r):(C9 N i a b s).set r=false:=by
 have: ¬r<N:=by omega
 unfold C9;split<;>simp [A8g,B1v,this]
def M7(t o:Stt):Stt:=⟨fun r=>t.set r&&o.set r,t.opn,t.marks⟩
def G5(code:List Ins)(a:Nat):Ins:=code.getD a default
def A9F(N:Nat)(params:Int):Stt:=⟨fun r=>decide (r<N)&&decide ((r:Int)<params), -1,[]⟩
def M0(N:Nat)(params:Int):Nat→Option Stt:=fun a=>if a=0 then some (A9F N params)else none
def H0(M:Nat→Option Stt)(b:Nat)(s:Stt):Nat→Option Stt:=fun x=>if x=b then some s else M x
def G6(N:Nat)(code:List Ins)(M:Nat→Option Stt)(e:Nat×Int):Nat→Option Stt:=
 match M e.1 with
 |none=>M
 |some s=>match M e.2.toNat with
  |none=>H0 M e.2.toNat (C9 N (G5 code e.1) e.1 e.2 s)
  |some t=>H0 M e.2.toNat (M7 t (C9 N (G5 code e.1) e.1 e.2 s))
def F8(code:List Ins):List (Nat×Int):=(List.range code.length).flatMap fun(a:Nat)=>(C5 code a).map fun(b:Int)=>(a,b)
def A4i(e:Nat×Int):List V:= [.int .i64 (e.1:Nat),.int .i64 e.2]
theorem A9W{code:List Ins}{e:Nat×Int}(h:e∈F8 code):e.1<code.length∧e.2∈C5 code e.1∧0≤e.2∧e.2<code.length:=by
 simp only [F8,List.mem_flatMap,List.mem_range,List.mem_map]at h
 obtain⟨a,d,b,c,rfl⟩:=h
 exact⟨d,c,i2 c⟩
def A5r(N:Nat)(code:List Ins)(M:Nat→Option Stt):Nat→Option Stt:=(F8 code).foldl (G6 N code) M
def A3h(N:Nat)(code:List Ins)(params:Int):Nat→(Nat→Option Stt)
 |0=>M0 N params
 |k+1=>A5r N code (A3h N code params k)
def A0T(N:Nat)(code:List Ins)(params:Int)(M:Nat→Option Stt):Prop:= ∃k,M=A3h N code params k∧A5r N code M=M
theorem B6i{N:Nat}{code:List Ins}{params:Int}{k:Nat}(h:A5r N code (A3h N code params k)=A3h N code params k): ∀j,A3h N code params (k+j)=A3h N code params k
 |0=>rfl
 |j+1=>by rw [←Nat.add_assoc,A3h,B6i h j,h]
theorem A0T.unique{N:Nat}{code:List Ins}{params:Int}{M M':Nat→Option Stt}(h:A0T N code params M)(h':A0T N code params M'):M=M':=by
 obtain⟨k,rfl,a⟩:=h
 obtain⟨j,rfl,b⟩:=h'
 rcases Nat.le_total k j with c|c
 ·obtain⟨d,rfl⟩:=Nat.le.dest c
  exact(B6i a d).symm
 ·obtain⟨d,rfl⟩:=Nat.le.dest c
  exact B6i b d
open Classical in
noncomputable def stM (N:Nat) (code:List Ins) (params:Int):Nat→Option Stt:=if h: ∃M,A0T N code params M then h.choose else M0 N params
theorem C4v{N:Nat}{code:List Ins}{params:Int}{M:Nat→Option Stt}(h:A0T N code params M):M=stM N code params:=by
 unfold stM
 rw [dif_pos ⟨M,h⟩]
 exact h.unique (Exists.choose_spec ⟨M,h⟩)
def D3c(N:Nat)(f:Nat→Bool):Nat:=((List.range N).filter f).length
theorem D0C(N:Nat)(f:Nat→Bool):D3c N f≤N:=by unfold D3c;exact Nat.le_trans (List.length_filter_le _ _) zf
theorem B8l{f g:Nat→Bool}(h: ∀r,g r=true→f r=true): ∀l:List Nat,(l.filter g).length≤(l.filter f).length
 | []=>Nat.le_refl _
 | x::l=>by
  have i:=B8l h l
  simp only [List.filter_cons]
  cases hg:g x with
  |true=>simp only [h x hg,if_true,List.length_cons];omega
  |false=>
   cases f x<;>simp<;>omega
theorem B8m{f g:Nat→Bool}(h: ∀r,g r=true→f r=true){x:Nat}(b:f x=true)(h2:g x=false): ∀{l:List Nat},x∈l→(l.filter g).length<(l.filter f).length
 | a::l,hx=>by
  have d:=B8l h l
  simp only [List.filter_cons]
  by_cases c:x=a
  ·subst c;simp only [b,h2,if_true,List.length_cons];simp;omega
  ·have i:=B8m h b h2 (List.mem_of_ne_of_mem c hx)
   cases hg:g a with
   |true=>simp only [h a hg,if_true,List.length_cons];omega
   |false=>cases f a<;>simp<;>omega
def wgt(N:Nat):Option Stt→Nat
 |none=>N+1
 |some s=>D3c N s.set
def mu(N n:Nat)(M:Nat→Option Stt):Nat:=((List.range n).map fun a=>wgt N (M a)).sum
theorem C9Y{f g:Nat→Nat}(h: ∀x,g x≤f x): ∀l:List Nat,(l.map g).sum≤(l.map f).sum
 | []=>Nat.le_refl _
 |x::l=>by have:=C9Y h l;have:=h x;simp only [List.map_cons,List.sum_cons];omega
theorem C9Z{f g:Nat→Nat}(h: ∀x,g x≤f x){x:Nat}(b:g x<f x): ∀{l:List Nat},x∈l→(l.map g).sum<(l.map f).sum
 | a::l,hm=>by
  have i:=C9Y h l
  have d:=h a
  simp only [List.map_cons,List.sum_cons]
  by_cases c:x=a
  ·subst c;omega
  ·have:=C9Z h b (List.mem_of_ne_of_mem c hm)
   omega
theorem D2j{N n:Nat}{M:Nat→Option Stt}{b:Nat}{s:Stt}(a:b<n)(h:wgt N (some s)<wgt N (M b)):mu N n (H0 M b s)<mu N n M:=by
 refine C9Z (x:=b) (fun x=> ?_) (by simpa [H0]using h) (List.mem_range.2 a)
 unfold H0
 by_cases c:x=b
 ·subst c;rw [if_pos rfl];exact Nat.le_of_lt h
 ·rw [if_neg c];exact Nat.le_refl _
theorem C3P{N n:Nat}{M:Nat→Option Stt}{b:Nat}{s:Stt}(a:b<n)(h:M b=none):mu N n (H0 M b s)<mu N n M:=
 D2j a (by rw [h];exact Nat.lt_succ_of_le (D0C _ _))
theorem C5m{N n:Nat}{M:Nat→Option Stt}{b r:Nat}{t o:Stt}(c:b<n)(h:M b=some t)(a:r<N)(d:t.set r=true)(h2:o.set r=false):mu N n (H0 M b (M7 t o))<mu N n M:=
 D2j c (by
  rw [h]
  exact B8m (fun r a=>by simp only [M7,Bool.and_eq_true]at a;exact a.1) d (by simp [M7,h2]) (List.mem_range.2 a))
theorem B8Y{M:Nat→Option Stt}{b:Nat}{t:Stt}(h:M b=some t):H0 M b t=M:=by
 funext x;unfold H0
 by_cases c:x=b
 ·subst c;rw [if_pos rfl,h]
 ·rw [if_neg c]
theorem B6j{N:Nat}{t o:Stt}(h: ∀r,r<N→t.set r=true→o.set r=true)(a: ∀r,N≤r→t.set r=false):M7 t o=t:=by
 have:(fun r=>t.set r&&o.set r)=t.set:=by
  funext r
  cases ht:t.set r with
  |false=>rfl
  |true=>
   by_cases c:r<N
   ·rw [h r c ht];rfl
   ·rw [a r zd]at ht;cases ht
 unfold M7
 rw [this]
end
section
open Go.Abs
attribute [local irreducible] A0 Run
-- EV: Ins.v, Ins.row
attribute [local go_sem] Ins.v Ins.row
theorem C2d(p:List V)(h:p.length=11)(i:p.take 11=p)(params:Int)(N:Nat)(D:p[4]? =some (.int .i64 N))(h2:p[2]? =some (.int .i64 params))(B:N≤100000)(t:0≤params)(y:params≤N)(n:Nat):
  A0 Tryz.prog 116 [.agg p] [] n fun r C F=> ∃s,r= .agg [.sl (116*10000+7) s 0 N,.int .i64 (-1),.isl []]∧C= [((116*10000+7),s,.rows 1 (B0 N (A9F N params).set))]:=by
 obtain⟨K,rfl⟩: ∃K:Nat,params=K:=⟨params.toNat,by omega⟩
 have o:=B1q N
 refine A0.enterK A2g Jk fun Q w=>Run.go 100 ?_
 simp -implicitDefEqProofs only [go_sem,A4,h,i,D,h2]
 refine⟨by omega,by omega,?_⟩
 refine Run.keep [4,3,2,1] ?_
 refine Run.rounds (fun(k:Nat)=>⟨[(4,.int .i64 k),(3,.ptr (116*10000+3) (n+1+1+1) 0 0),(2,.ptr (116*10000+2) (n+1) 0 0),(1,.ptr (116*10000+1) n 0 0)],
   [((116*10000+3),n+1+1+1,.rows 3 [[.sl (116*10000+7) (n+1+1) 0 N,.int .i64 (-1),.nils]]),((116*10000+7),n+1+1,.rows 1 (B0 N fun r=>decide (r<k))),((116*10000+2),n+1,.rows 3 [[.nils,.int .i64 0,.nils]]),((116*10000+1),n,.rows 11 [p])],n+1+1+1+1⟩)
  (fun k=>k≤K) (fun k=>K-k) 0 ?_ (Nat.zero_le _) ?_
 ·have:(B0 N fun r=>decide (r<0))=List.replicate N [.bool false]:=by rw [←o];exact E3 fun r q=>by simp
  exact zQ
 intro k G E
 refine Run.unf A0e (Run.go 100 ?_)
 have g:=D6 N fun r=>decide (r<k)
 have j:=H8 N fun r=>decide (r<k)
 by_cases v:k<K
 ·have z:((k:Int)<(K:Int))=True:=Ji
  have u:((0:Int)≤(k:Int))=True:=Ji
  have d:k<N:=by omega
  have A:((k:Int)<(N:Int))=True:=Ji
  have l:=H7 (f:=fun r=>decide (r<k)) d
  have a:=U0 (N:=N) (r:=k) (b:=true) (f:=fun r=>decide (r<k)) (fun r=>decide (r<k+1)) (fun x H=>by
   by_cases c:x=k
   ·subst c;simp
   ·rw [if_neg c];exact decide_eq_decide.2 zd)
  have m:((k+1:Nat):Int)=(k:Int)+1:=by omega
  generalize (B0 N fun r=>decide (r<k))=I at*
  simp -implicitDefEqProofs only [go_sem,h,h2,z,u,A,g,j,l,d,Option.some.injEq,forall_eq']
  exact⟨by omega,E _ (k+1) zd zd (by simp -implicitDefEqProofs only [go_sem,m,a])⟩
 ·have e:k=K:=by omega
  subst e
  have:(B0 N fun r=>decide (r<k))=B0 N (A9F N k).set:=E3 fun r q=>by
   have:decide ((r:Int)<(k:Int))=decide (r<k):=decide_eq_decide.2 zd
   simp [A9F,q,this]
  rw [this]
  simp -implicitDefEqProofs only [go_sem,h,h2,Int.lt_irrefl]
  subst w
  exact Yj
theorem B0o(N:Nat)(f:Nat→Bool)(o m:V)(a:Int)(I:0≤a)(D:N≤100000000)(v:a≤100000000)(st n:Nat):
  A0 Tryz.prog 182 [.agg [.sl (181*10000+3) st 0 N,o,m],.int .i64 a] [((181*10000+3),st,.rows 1 (B0 N f))] n fun r z E=>z= [((181*10000+3),st,.rows 1 (B0 N fun r=>f r&&decide ((r:Int)<a)))]:=by
 obtain⟨A,rfl⟩: ∃A:Nat,a=A:=⟨a.toNat,by omega⟩
 have y:((0:Int)<((A:Nat):Int))=(0<A):=by simp
 have p:(((A:Nat):Int)<0)=False:=Jj
 refine A0.enterK A2f Jk fun Q w=>Run.go 100 ?_
 simp -implicitDefEqProofs only [go_sem,A4,p]
 refine Run.keep [4,2] ?_
 refine Run.rounds (fun(k:Nat)=>⟨[(4,.int .i64 ((A+k:Nat):Int)),(2,.ptr (182*10000+2) n 0 0)],[((182*10000+2),n,.rows 3 [[.sl (181*10000+3) st 0 N,o,m]]),((181*10000+3),st,.rows 1 (B0 N fun r=>f r&&(decide (r<A)||decide (A+k≤r))))],n+1⟩)
  (fun k=>k≤N-A) (fun k=>N-A-k) 0 ?_ (Nat.zero_le _) ?_
 ·have:(B0 N fun r=>f r&&(decide (r<A)||decide (A≤r)))=B0 N f:=E3 fun r u=>by
   exact Kb
  simp -implicitDefEqProofs only [go_sem,Nat.add_zero,this]
 intro k F C
 refine Run.unf A0d (Run.go 100 ?_)
 have g:=D6 N fun r=>f r&&(decide (r<A)||decide (A+k≤r))
 have i:=H8 N fun r=>f r&&(decide (r<A)||decide (A+k≤r))
 by_cases e:A+k<N
 ·have q:(((A+k:Nat):Int)<(N:Int))=True:=Ji
  have t:((0:Int)≤((A+k:Nat):Int))=True:=Ji
  have j:=H7 (f:=fun r=>f r&&(decide (r<A)||decide (A+k≤r))) e
  have h:=U0 (N:=N) (r:=A+k) (b:=false) (f:=fun r=>f r&&(decide (r<A)||decide (A+k≤r))) (fun r=>f r&&(decide (r<A)||decide (A+(k+1)≤r))) (fun x G=>by
   by_cases c:x=A+k
   ·exact Yp
   ·rw [if_neg c]
    congr 1
    have:decide (A+(k+1)≤x)=decide (A+k≤x):=decide_eq_decide.2 zd
    rw [this])
  have l:((A+(k+1):Nat):Int)=((A+k:Nat):Int)+1:=by omega
  generalize (B0 N fun r=>f r&&(decide (r<A)||decide (A+k≤r)))=H at*
  simp -implicitDefEqProofs only [go_sem,q,t,g,i,j,e,Option.some.injEq,forall_eq']
  refine⟨by omega,C _ (k+1) zd zd (by simp -implicitDefEqProofs only [go_sem,l,h])⟩
 ·have q:(((A+k:Nat):Int)<(N:Int))=False:=Jj
  have d:(B0 N fun r=>f r&&(decide (r<A)||decide (A+k≤r)))=B0 N fun r=>f r&&decide ((r:Int)<A):=E3 fun r u=>by
   have B:decide (A+k≤r)=false:=decide_eq_false zd
   have s:decide ((r:Int)<(A:Int))=decide (r<A):=decide_eq_decide.2 zd
   rw [B,s,Bool.or_false]
  simp -implicitDefEqProofs only [go_sem,q,d]
  subst w;exact .to rfl (.sub ze)
theorem B9Y(N:Nat)(f:Nat→Bool)(o:Int)(m:List Int)(i:N≤100000)(j:m.length≤1000000)(n:Nat):
  A0 Tryz.prog 181 [.agg [.isl (B0 N f),.int .i64 o,.isl (m.map zrw)]] [] n fun r d k=> ∃a s,
   r= .agg [.sl (181*10000+3) a 0 N,.int .i64 o,.sl (181*10000+9) s 0 m.length]∧
   d= [((181*10000+3),a,.rows 1 (B0 N f)),((181*10000+9),s,.rows 1 (m.map zrw))]:=by
 have g:=D6 N f
 have h:=H8 N f
 have e:(m.map zrw).length=m.length:=List.length_map ..
 have c:=H1 m
 generalize B0 N f=F at*
 generalize m.map zrw=M at*
 refine A0.enterK A1j Jk fun Q b=>Run.go 100 ?_
 simp -implicitDefEqProofs only [go_sem,A4,g,h,e,c]
 repeat' refine And.intro ?_ ?_
 all_goals first
  |omega
  |(subst b;exact .to ⟨_,_,rfl,rfl⟩ (.turn id ⟨.refl _,trivial⟩ (.at 2 rfl rfl (.refl _) (.at 1 rfl rfl (.refl _) trivial))))
  |(subst b;exact .to ⟨_,_,rfl,rfl⟩ (.turn id ⟨.refl _,trivial⟩ (.at 1 rfl rfl (.refl _) (.at 2 rfl rfl (.refl _) trivial))))
end
end Go.Proofs.YtcaaenddpjepiaaGreatDoor
