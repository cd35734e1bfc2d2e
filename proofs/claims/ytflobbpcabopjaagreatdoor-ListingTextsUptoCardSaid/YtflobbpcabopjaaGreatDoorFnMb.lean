/-
 The rest of proto.Check. No condition.
-/
import Derived.Test.YtflobbpcabopjaaGreatDoorFnMa
import Derived.Test.YtflobbpcabopjaaGreatDoorRwM
import Derived.Test.YtflobbpcabopjaaGreatDoorFnM5
import Derived.Test.YtflobbpcabopjaaGreatDoorFnCk
set_option linter.unusedVariables false
set_option linter.unusedSimpArgs false
set_option maxRecDepth 100000
set_option maxHeartbeats 0
namespace Go.Proofs.YtflobbpcabopjaaGreatDoor
open Go.Abs
attribute [local irreducible] A0 Run G9
def D6(i:Ins):Int×Bool:=
 if i.op=2 then(i.b,false)else if i.op=7 then(i.b,true)else if i.op=8 then(i.a,true)else if i.op=11 then(i.c,true)else(-1,false)
theorem B6o(i:Ins):Pure Tryz.prog 165 [i.v] (.tup [.int .i64 (D6 i).1,.bool (D6 i).2]):=by
 obtain⟨op,a,b,c,d⟩:=i
 refine Pure.of 0 (A0.enter A4b (Nat.le_of_ble_eq_true rfl) (Run.go 100 ?_))
 by_cases k2:op=2
 ·subst k2;simp -implicitDefEqProofs only [go_sem,A3,Ins.v,Ins.row,D6]
 by_cases k7:op=7
 ·subst k7;simp -implicitDefEqProofs only [go_sem,A3,Ins.v,Ins.row,D6]
 by_cases k8:op=8
 ·subst k8;simp -implicitDefEqProofs only [go_sem,A3,Ins.v,Ins.row,D6]
 by_cases k11:op=11
 ·subst k11;simp -implicitDefEqProofs only [go_sem,A3,Ins.v,Ins.row,D6]
 simp -implicitDefEqProofs only [go_sem,A3,Ins.v,Ins.row,D6,k2,k7,k8,k11]
def A6l(o:Option Kst):Bool:=match o with|some c=>decide (c.kind=3)|none=>false
def p9(p:Fn)(i:Ins):Bool:=
 if (p.consts.length:Int)≤(D6 i).1 then false
 else if 0≤(D6 i).1∧(D6 i).2=true∧A6l p.consts[(D6 i).1.toNat]? =false then false
 else if i.op=5 then decide (i.b<p.ups.length)else if i.op=6 then decide (i.a<p.ups.length)else if i.op=22 then decide (i.b<p.protos.length)else if i.op=19 then p.vararg else true
theorem B5N{op:Int}{x1 x2 x3 x4 z:Bool}(h:(if op=5 then x1 else if op=6 then x2 else if op=22 then x3 else if op=19 then x4 else true)=z):
  (op=5→x1=z)∧(¬op=5→(op=6→x2=z)∧(¬op=6→(op=22→x3=z)∧(¬op=22→(op=19→x4=z)∧(¬op=19→true=z)))):=by
 subst h
 exact⟨fun h=>by rw [if_pos h],fun h5=>⟨fun h=>by rw [if_neg h5,if_pos h],fun h6=>⟨fun h=>by rw [if_neg h5,if_neg h6,if_pos h],fun h22=>⟨fun h=>by rw [if_neg h5,if_neg h6,if_neg h22,if_pos h],fun h19=>by rw [if_neg h5,if_neg h6,if_neg h22,if_neg h19]⟩⟩⟩⟩
theorem B9H(p:Fn)(hp:p.bd)(i:Ins):Pure Tryz.prog 126 [.agg p.row,i.v] (.bool (p9 p i)):=by
 obtain⟨h1,h2⟩:=B5 p
 have hb:=hp.self
 have hci:=B6o i
 rw [Fn.row_eq]at h1 h2⊢
 obtain⟨name,line,params,vararg,regs,code,lines,consts,protos,ups,vars⟩:=p
 have hcz:consts.length≤17592186043904:=by have:=hb.consts;simp only at this;omega
 have k2:(consts.map Kst.row).length=consts.length:=List.length_map ..
 have k3:(protos.map Fn.row).length=protos.length:=List.length_map ..
 have k4:(ups.map Upv.row).length=ups.length:=List.length_map ..
 have zc:=eq_true (A7 Kst.row 5 (fun _=>rfl) consts)
 have rc: ∀(k:Nat) x,consts[k]? =some x→(consts.map Kst.row)[k]? =some (Kst.row x):=fun k x hk=>by rw [List.getElem?_map,hk];rfl
 generalize hl:p9 _ i=z
 simp only [p9]at hl
 simp only at*
 generalize code.map Ins.row=rcode at*
 generalize consts.map Kst.row=rconsts at*
 generalize protos.map Fn.row=rprotos at*
 generalize lines.map C7=rlines at*
 generalize ups.map Upv.row=rups at*
 generalize vars.map Vr.row=rvars at*
 generalize (D6 i).1=kk at*
 generalize (D6 i).2=nm at*
 obtain⟨op,a,b,c,d⟩:=i
 refine Pure.of 0 (A0.enter A7E (Nat.le_of_ble_eq_true rfl) (Run.go 100 ?_))
 simp only [Ins.v,Ins.row]at*
 simp -implicitDefEqProofs only [go_sem,A3,h1,h2,k2,k3,k4]
 refine A0.pureF hci (by simp -implicitDefEqProofs only [go_sem]) ?_
 by_cases c1:(consts.length:Int)≤kk
 ·obtain rfl:z=false:=hl ▸ if_pos c1
  simp -implicitDefEqProofs only [go_sem,c1,k2,h1,h2]
 rw [if_neg c1]at hl
 by_cases c2:0≤kk
 ·cases nm
  ·rw [if_neg (fun h=>by simp at h)]at hl
   simp -implicitDefEqProofs only [go_sem,c1,c2,k2,k3,k4,h1,h2]
   exact B5N hl
  ·obtain⟨x,hx⟩: ∃x,consts[kk.toNat]? =some x:=⟨consts[kk.toNat]'(by omega),by simp⟩
   have hxr:=rc _ x hx
   rw [hx]at hl
   simp -implicitDefEqProofs only [go_sem,c1,c2,k2,k3,k4,h1,h2,zc,hxr,Kst.row,Option.some.injEq,forall_eq']
   refine⟨by omega,by omega,fun hk=> ?_,fun hk=> ?_⟩
   ·rw [if_pos ⟨c2,rfl,decide_eq_false hk⟩]at hl;exact hl
   ·rw [if_neg (fun h=>by simp [A6l,hk]at h)]at hl;exact B5N hl
 ·rw [if_neg (fun h=>c2 h.1)]at hl
  simp -implicitDefEqProofs only [go_sem,c1,c2,k2,k3,k4,h1,h2]
  exact B5N hl
def A0q(regs:Int)(l:List Int×Int):Bool:=decide (l.2≤regs)&& !l.1.any (fun r=>decide (regs≤r))
theorem C5B(z:Int)(pr:List V)(regs:Int)(h1:pr.length=11)(h2:pr.take 11=pr)(h3:pr[4]? =some (.int .i64 regs))(n:Nat):A0 Tryz.prog 164 [.int .i64 z,.ptr (124*10000+3) 0 0 0] [((124*10000+3),0,.rows 11 [pr])] n fun r h' n'=>r= .bool (decide (regs≤z))∧h'= [((124*10000+3),0,.rows 11 [pr])]:=by
 refine A0.enterK A4f (Nat.le_of_ble_eq_true rfl) fun Q hQ=>Run.go 100 ?_
 simp -implicitDefEqProofs only [go_sem,A3,h1,h2,h3]
 subst hQ
 exact .is ⟨rfl,rfl⟩
theorem B4l(p:Fn)(l:List Int×Int)(hl:l.1.length≤1000000):Pure Tryz.prog 124 [.agg p.row,.isl (l.1.map zrw),.int .i64 l.2] (.bool (A0q p.regs l)):=by
 obtain⟨h1,h2⟩:=B5 p
 have h3:p.row[4]? =some (.int .i64 p.regs):=by rw [Fn.row_eq];rfl
 have cl:=B1H l.1 (by omega) (fun r=>decide (p.regs≤r)) 164 [.ptr (124*10000+3) 0 0 0]
 rw [show l.1.map C7=l.1.map zrw from rfl]at cl
 have ho:=fun z n=>C5B z p.row p.regs h1 h2 h3 n
 obtain⟨l,m⟩:=l
 simp only [A0q]at*
 generalize l.map zrw=rl at*
 generalize p.row=pr at*
 refine Pure.of 0 (A0.enter A7J (Nat.le_of_ble_eq_true rfl) (Run.go 100 ?_))
 by_cases c1:m≤p.regs
 ·simp -implicitDefEqProofs only [go_sem,A3,h1,h2,h3,c1]
  refine(cl _ (by kernel_rfl) (fun x _ m=>ho x m) _).mono ?_
  rintro r h' n' ⟨rfl,rfl⟩
  simp -implicitDefEqProofs only [go_sem]
 ·simp -implicitDefEqProofs only [go_sem,A3,h1,h2,h3,c1]
theorem B7h(i:Ins):(G0 i).1.length≤1000000:=by
 have h:=B7x (a:=0) (b:=4096) (C2x i) (fun x hx=>((B9G i).1 x hx).1) (fun x hx=>((B9G i).1 x hx).2)
 omega
theorem B6i(i:Ins):(E5 i).1.length≤1000000:=by
 have h:=B7x (a:=0) (b:=4096) (C0j i) (fun x hx=>((B7u i).1 x hx).1) (fun x hx=>((B7u i).1 x hx).2)
 omega
def A2o(p:Fn)(i:Ins):Int:=
 if chk i≠0 then chk i
 else if A0q p.regs (G0 i)=true∧A0q p.regs (E5 i)=true∧(A6j i.op=true→0≤i.b∧i.b<p.code.length)∧p9 p i=true then 0 else 4
theorem C3h(p:Fn)(hp:p.bd)(i:Ins):Pure Tryz.prog 73 [.agg p.row,i.v] (.int .i64 (A2o p i)):=by
 obtain⟨h1,h2⟩:=B5 p
 have hps:=Fn.row_sub E8 p
 have hc:=B0S i
 have hr:=C0Z i
 have hw:=C0e i
 have hwr:=B4l p (G0 i) (B7h i)
 have hww:=B4l p (E5 i) (B6i i)
 have ht:=C0b i
 have hf:=B9H p hp i
 have h5:p.row[5]? =some (.isl (p.code.map Ins.row)):=by rw [Fn.row_eq];rfl
 have k1:(p.code.map Ins.row).length=p.code.length:=List.length_map ..
 have f1:((G0 i).1.map zrw).map (fun r=>r.map (V.sub E8))=(G0 i).1.map zrw:=B6b _
 have f2:((E5 i).1.map zrw).map (fun r=>r.map (V.sub E8))=(E5 i).1.map zrw:=B6b _
 generalize hz:A2o p i=z
 unfold A2o at hz
 generalize (G0 i).1.map zrw=rr at*
 generalize (E5 i).1.map zrw=rw at*
 generalize (G0 i).2=r2 at*
 generalize (E5 i).2=w2 at*
 generalize A0q p.regs (G0 i)=b1 at*
 generalize A0q p.regs (E5 i)=b2 at*
 generalize p9 p i=b3 at*
 generalize chk i=ck at*
 generalize A6j i.op=jj at*
 generalize p.code.map Ins.row=rcode at*
 generalize p.row=pr at*
 obtain⟨op,a,b,c,d⟩:=i
 simp only [Ins.v,Ins.row]at*
 refine Pure.of 0 (A0.enter A1e (Nat.le_of_ble_eq_true rfl) (Run.go 100 ?_))
 simp -implicitDefEqProofs only [go_sem,A3,h1,h2]
 refine A0.pureF hc (by simp -implicitDefEqProofs only [go_sem]) ?_
 by_cases c0:ck=0
 case neg=>
  rw [if_pos c0]at hz
  subst hz
  simp -implicitDefEqProofs only [go_sem,c0]
 rw [if_neg (by simpa using c0)]at hz
 simp -implicitDefEqProofs only [go_sem,c0]
 refine A0.pureF hr (by simp -implicitDefEqProofs only [go_sem]) ?_
 simp -implicitDefEqProofs only [go_sem]
 refine A0.pureF hw (by simp -implicitDefEqProofs only [go_sem]) ?_
 simp -implicitDefEqProofs only [go_sem,h1,h2]
 refine A0.pureF hwr (by simp -implicitDefEqProofs only [go_sem,hps,f1]) ?_
 cases b1
 ·obtain rfl:z=4:=hz ▸ if_neg (fun h=>by simp at h)
  simp -implicitDefEqProofs only [go_sem]
 simp -implicitDefEqProofs only [go_sem,h1,h2]
 refine A0.pureF hww (by simp -implicitDefEqProofs only [go_sem,hps,f2]) ?_
 cases b2
 ·obtain rfl:z=4:=hz ▸ if_neg (fun h=>by simp at h)
  simp -implicitDefEqProofs only [go_sem]
 simp -implicitDefEqProofs only [go_sem]
 refine A0.pureF ht (by simp -implicitDefEqProofs only [go_sem]) ?_
 cases jj
 ·simp -implicitDefEqProofs only [go_sem,h1,h2]
  refine A0.pureF hf (by simp -implicitDefEqProofs only [go_sem,hps]) ?_
  cases b3
  ·obtain rfl:z=4:=hz ▸ if_neg (fun h=>by simp at h)
   simp -implicitDefEqProofs only [go_sem]
  ·obtain rfl:z=0:=hz ▸ if_pos (by simp)
   simp -implicitDefEqProofs only [go_sem]
 ·by_cases d1:b<0
  ·obtain rfl:z=4:=hz ▸ if_neg (fun h=>by have:=(h.2.2.1 rfl).1;omega)
   simp -implicitDefEqProofs only [go_sem,d1,h1,h2,h5,k1]
  by_cases d2:b<(p.code.length:Int)
  ·simp -implicitDefEqProofs only [go_sem,d1,d2,h1,h2,h5,k1,ge_iff_le,Int.not_le.2 d2]
   refine A0.pureF hf (by simp -implicitDefEqProofs only [go_sem,hps]) ?_
   cases b3
   ·obtain rfl:z=4:=hz ▸ if_neg (fun h=>by simp at h)
    simp -implicitDefEqProofs only [go_sem]
   ·obtain rfl:z=0:=hz ▸ if_pos ⟨rfl,rfl,fun _=>⟨by omega,d2⟩,rfl⟩
    simp -implicitDefEqProofs only [go_sem]
  ·obtain rfl:z=4:=hz ▸ if_neg (fun h=>d2 (h.2.2.1 rfl).2)
   have d3:((p.code.length:Int)≤b)=True:=eq_true (by omega)
   simp -implicitDefEqProofs only [go_sem,d1,d2,d3,h1,h2,h5,k1]
def A8w(regs:Int)(n:Nat)(u:Upv):Bool:=if u.loc then decide (regs≤u.idx)else decide ((n:Int)≤u.idx)
def C9h(p q:Fn):Bool:=q.ups.any (A8w p.regs p.ups.length)
def A8s(p:Fn):Int:=
 if B0j p≠0 then B0j p else if A1B p≠0 then A1B p
 else if M3 (p.code.map (A2o p))≠0 then M3 (p.code.map (A2o p))
 else if p.protos.any (C9h p)=true then 4 else 0
theorem A7b{α:Type}{l:List α}{k:Nat}{x:α}{f:α→Int}(h: ∀y∈l.take k,f y=0)(hx:l[k]? =some x)(hf:f x=0): ∀y∈l.take (k+1),f y=0:=by
 rw [List.take_add_one,hx]
 intro y hy
 rcases List.mem_append.1 hy with hy|hy
 ·exact h y hy
 ·obtain rfl:y=x:=by simpa using hy
  exact hf
theorem A6h{α:Type}{l:List α}{k:Nat}{x:α}{f:α→Int}(h: ∀y∈l.take k,f y=0)(hx:l[k]? =some x)(hf:f x≠0):M3 (l.map f)=f x:=by
 obtain⟨hk,hkx⟩:=List.getElem?_eq_some_iff.1 hx
 have e:l=l.take k++x::l.drop (k+1):=by rw [←hkx,←List.drop_eq_getElem_cons hk,List.take_append_drop]
 rw [e,List.map_append,List.map_cons]
 refine B0X (fun y hy=> ?_) hf
 obtain⟨w,hw,rfl⟩:=List.mem_map.1 hy
 exact h w hw
theorem B9Q(p:Fn)(hp:p.bd):Pure Tryz.prog 33 [.agg p.row] (.int .i64 (A8s p)):=by
 obtain⟨h1,h2⟩:=B5 p
 have hps:=Fn.row_sub E8 p
 have hb:=hp.self
 have hcz:=hb.code
 have hqz:=hb.protos
 have hli:=B9i p hp
 have hfo:=C3d p hp
 have hin:=C3h p hp
 have h4:p.row[4]? =some (.int .i64 p.regs):=by rw [Fn.row_eq];rfl
 have h5:p.row[5]? =some (.isl (p.code.map Ins.row)):=by rw [Fn.row_eq];rfl
 have h8:p.row[8]? =some (.isl (p.protos.map Fn.row)):=by rw [Fn.row_eq];rfl
 have h9:p.row[9]? =some (.isl (p.ups.map Upv.row)):=by rw [Fn.row_eq];rfl
 have k1:(p.code.map Ins.row).length=p.code.length:=List.length_map ..
 have k2:(p.protos.map Fn.row).length=p.protos.length:=List.length_map ..
 have k3:(p.ups.map Upv.row).length=p.ups.length:=List.length_map ..
 have zi:=eq_true (A7 Ins.row 5 (fun _=>rfl) p.code)
 have zq:=eq_true (A7 Fn.row 11 Fn.row_len p.protos)
 have ri: ∀(k:Nat) x,p.code[k]? =some x→(p.code.map Ins.row)[k]? =some (Ins.row x):=fun k x hk=>by rw [List.getElem?_map,hk];rfl
 have rq: ∀(k:Nat) x,p.protos[k]? =some x→(p.protos.map Fn.row)[k]? =some (Fn.row x):=fun k x hk=>by rw [List.getElem?_map,hk];rfl
 generalize hz:A8s p=z
 unfold A8s at hz
 generalize p.code.map Ins.row=rcode at*
 generalize p.protos.map Fn.row=rprotos at*
 generalize p.ups.map Upv.row=rups at*
 generalize p.row=pr at*
 refine Pure.of 0 (A0.enter A7I (Nat.le_of_ble_eq_true rfl) (Run.go 100 ?_))
 simp -implicitDefEqProofs only [go_sem,A3,h1,h2]
 refine A0.pureF hli (by simp -implicitDefEqProofs only [go_sem,hps]) ?_
 by_cases c0:B0j p=0
 case neg=>
  rw [if_pos c0]at hz
  subst hz
  simp -implicitDefEqProofs only [go_sem,c0]
 rw [if_neg (by simpa using c0)]at hz
 simp -implicitDefEqProofs only [go_sem,c0,h1,h2]
 refine A0.pureF hfo (by simp -implicitDefEqProofs only [go_sem,hps]) ?_
 by_cases c1:A1B p=0
 case neg=>
  rw [if_pos c1]at hz
  subst hz
  simp -implicitDefEqProofs only [go_sem,c1]
 rw [if_neg (by simpa using c1)]at hz
 simp -implicitDefEqProofs only [go_sem,c1,h1,h2,h5,k1]
 refine Run.keep [25,24,23,1] ?_
 refine Run.rounds (fun(x:Nat×Nat)=>⟨[(25,.int .i64 x.1),(24,.int .i64 p.code.length),(23,.isl rcode),(1,.ptr (33*10000+1) 0 0 0)],[((33*10000+1),0,.rows 11 [pr])],x.2⟩) (fun x=>x.1≤p.code.length∧ ∀y∈p.code.take x.1,A2o p y=0) (fun x=>p.code.length-x.1) (0,1) (by simp -implicitDefEqProofs only [go_sem]) ⟨Nat.zero_le _,by simp⟩ ?_
 rintro⟨k,m⟩ ⟨hk,hno⟩ ih
 simp only at hk hno ih⊢
 refine Run.unf B1j (Run.go 100 ?_)
 by_cases hlt:k<p.code.length
 ·have q0:((k:Int)<(p.code.length:Int))=True:=eq_true (by omega)
  have q1:((0:Int)≤(k:Int))=True:=eq_true (by omega)
  obtain⟨x,hx⟩: ∃x,p.code[k]? =some x:=⟨p.code[k],by simp [hlt]⟩
  have hxr:=ri k x hx
  have hix:=hin x
  have hzk:((k+1:Nat):Int)=(k:Int)+1:=by omega
  simp only [Ins.v,Ins.row]at hix
  simp -implicitDefEqProofs only [go_sem,q0,q1,k1,zi,h1,h2,hxr,Ins.row,hlt,Option.some.injEq,forall_eq']
  refine A0.pureF hix (by simp -implicitDefEqProofs only [go_sem,hps]) ?_
  by_cases hx2:A2o p x=0
  ·simp -implicitDefEqProofs only [go_sem,hx2]
   refine⟨by omega,?_⟩
   exact ih _ (k+1,m+1) ⟨by simp only;omega,A7b hno hx hx2⟩ (by simp only;omega) (by simp -implicitDefEqProofs only [go_sem,hzk])
  ·have hf:=A6h (f:=A2o p) hno hx hx2
   rw [if_pos (by rw [hf];exact hx2),hf]at hz
   subst hz
   simp -implicitDefEqProofs only [go_sem,hx2]
 have e:k=p.code.length:=by omega
 subst e
 rw [List.take_length]at hno
 rw [if_neg (by rw [o9 (fun y hy=>by obtain⟨w,hw,rfl⟩:=List.mem_map.1 hy;exact hno w hw)];simp)]at hz
 clear ih hlt hk
 simp -implicitDefEqProofs only [go_sem,Int.lt_irrefl,h1,h2,h8,k2]
 refine Run.keep [39,38,37,1] ?_
 refine Run.rounds (fun(x:Nat×Nat)=>⟨[(39,.int .i64 x.1),(38,.int .i64 p.protos.length),(37,.isl rprotos),(1,.ptr (33*10000+1) 0 0 0)],[((33*10000+1),0,.rows 11 [pr])],x.2⟩) (fun x=>x.1≤p.protos.length∧(p.protos.take x.1).any (C9h p)=false) (fun x=>p.protos.length-x.1) (0,m) (by simp -implicitDefEqProofs only [go_sem]) ⟨Nat.zero_le _,rfl⟩ ?_
 clear m hno
 rintro⟨k,m⟩ ⟨hk,hno⟩ ih
 simp only at hk hno ih⊢
 refine Run.unf B1k (Run.go 100 ?_)
 by_cases hlt:k<p.protos.length
 ·have q0:((k:Int)<(p.protos.length:Int))=True:=eq_true (by omega)
  have q1:((0:Int)≤(k:Int))=True:=eq_true (by omega)
  obtain⟨q,hx⟩: ∃x,p.protos[k]? =some x:=⟨p.protos[k],by simp [hlt]⟩
  have hxr:=rq k q hx
  have hzk:((k+1:Nat):Int)=(k:Int)+1:=by omega
  have hqb:=(hp.child (List.mem_of_getElem? hx)).self.ups
  obtain⟨g1,g2⟩:=B5 q
  have g9:q.row[9]? =some (.isl (q.ups.map Upv.row)):=by rw [Fn.row_eq];rfl
  have j3:(q.ups.map Upv.row).length=q.ups.length:=List.length_map ..
  have zu:=eq_true (A7 Upv.row 3 (fun _=>rfl) q.ups)
  have ru: ∀(k:Nat) x,q.ups[k]? =some x→(q.ups.map Upv.row)[k]? =some (Upv.row x):=fun k x hk=>by rw [List.getElem?_map,hk];rfl
  generalize q.ups.map Upv.row=qups at*
  generalize q.row=qr at*
  simp -implicitDefEqProofs only [go_sem,q0,q1,k2,zq,g1,g2,g9,j3,hxr,hlt,Option.some.injEq,forall_eq']
  refine Run.keep [46,45,44,39,38,37,1] ?_
  refine Run.rounds (fun(x:Nat×Nat)=>⟨[(46,.int .i64 x.1),(45,.int .i64 q.ups.length),(44,.isl qups),(39,.int .i64 k),(38,.int .i64 p.protos.length),(37,.isl rprotos),(1,.ptr (33*10000+1) 0 0 0)],[((33*10000+1),0,.rows 11 [pr])],x.2⟩) (fun x=>x.1≤q.ups.length∧(q.ups.take x.1).any (A8w p.regs p.ups.length)=false) (fun x=>q.ups.length-x.1) (0,m+1) (by simp -implicitDefEqProofs only [go_sem]) ⟨Nat.zero_le _,rfl⟩ ?_
  rintro⟨j,m⟩ ⟨hj,hnj⟩ ihj
  simp only at hj hnj ihj⊢
  refine Run.unf B1l (Run.go 100 ?_)
  by_cases hltj:j<q.ups.length
  ·have q2:((j:Int)<(q.ups.length:Int))=True:=eq_true (by omega)
   have q3:((0:Int)≤(j:Int))=True:=eq_true (by omega)
   obtain⟨u,hu⟩: ∃x,q.ups[j]? =some x:=⟨q.ups[j],by simp [hltj]⟩
   have hur:=ru j u hu
   have hzj:((j+1:Nat):Int)=(j:Int)+1:=by omega
   obtain⟨un,ul,ui⟩:=u
   have bad:A8w p.regs p.ups.length ⟨un,ul,ui⟩=true→z=4:=fun hb=>hz ▸ if_pos (Q4 hx (Q4 hu hb))
   by_cases hbu:A8w p.regs p.ups.length ⟨un,ul,ui⟩=true
   ·obtain rfl:=bad hbu
    cases ul
    ·have d1:((p.ups.length:Int)≤ui)=True:=eq_true (by simpa [A8w]using hbu)
     simp -implicitDefEqProofs only [go_sem,q2,q3,j3,zu,hur,Upv.row,hltj,h1,h2,h4,h9,k3,d1,ge_iff_le,Option.some.injEq,forall_eq']
    ·have d1:(p.regs≤ui)=True:=eq_true (by simpa [A8w]using hbu)
     simp -implicitDefEqProofs only [go_sem,q2,q3,j3,zu,hur,Upv.row,hltj,h1,h2,h4,h9,k3,d1,ge_iff_le,Option.some.injEq,forall_eq']
   ·have hbu':A8w p.regs p.ups.length ⟨un,ul,ui⟩=false:=by simpa only [Bool.not_eq_true]using hbu
    cases ul
    ·have d1:((p.ups.length:Int)≤ui)=False:=eq_false (by simpa [A8w]using hbu)
     simp -implicitDefEqProofs only [go_sem,q2,q3,j3,zu,hur,Upv.row,hltj,h1,h2,h4,h9,k3,d1,ge_iff_le,Option.some.injEq,forall_eq']
     refine⟨by omega,?_⟩
     exact ihj _ (j+1,m+1) ⟨by simp only;omega,F1 hnj hu hbu'⟩ (by simp only;omega) (by simp -implicitDefEqProofs only [go_sem,hzj])
    ·have d1:(p.regs≤ui)=False:=eq_false (by simpa [A8w]using hbu)
     simp -implicitDefEqProofs only [go_sem,q2,q3,j3,zu,hur,Upv.row,hltj,h1,h2,h4,h9,k3,d1,ge_iff_le,Option.some.injEq,forall_eq']
     refine⟨by omega,?_⟩
     exact ihj _ (j+1,m+1) ⟨by simp only;omega,F1 hnj hu hbu'⟩ (by simp only;omega) (by simp -implicitDefEqProofs only [go_sem,hzj])
  have e:j=q.ups.length:=by omega
  subst e
  have l:=K8 hnj
  simp -implicitDefEqProofs only [go_sem,Int.lt_irrefl]
  refine⟨by omega,?_⟩
  exact ih _ (k+1,m) ⟨by simp only;omega,F1 hno hx l⟩ (by simp only;omega) (by simp -implicitDefEqProofs only [go_sem,hzk])
 have e:k=p.protos.length:=by omega
 subst e
 have l:=K8 hno
 obtain rfl:z=0:=hz ▸ if_neg (fun h=>by simp [l]at h)
 simp -implicitDefEqProofs only [go_sem,Int.lt_irrefl]
theorem Fn.depths_append: ∀(l:List Fn) (q:Fn),Fn.depths (l++ [q])=max (Fn.depths l) q.depth
 | [],q=>by simp [Fn.depths]
 |p::r,q=>by rw [List.cons_append,Fn.depths,Fn.depths,Fn.depths_append r q,Nat.max_assoc]
theorem Fn.depths_mem: ∀{l:List Fn} {q:Fn},q∈l→q.depth≤Fn.depths l
 | [],q,h=>by cases h
 |p::r,q,h=>by
  rw [Fn.depths]
  rcases List.mem_cons.1 h with rfl|h
  ·exact Nat.le_max_left ..
  ·exact Nat.le_trans (Fn.depths_mem h) (Nat.le_max_right ..)
theorem Fn.depths_take(l:List Fn)(k:Nat):Fn.depths (l.take k)≤Fn.depths l:=by
 induction l generalizing k with
 |nil=>simp
 |cons a r ih=>
  cases k with
  |zero=>simp [Fn.depths]
  |succ k=>rw [List.take_succ_cons,Fn.depths,Fn.depths];have:=ih k;omega
theorem Fn.depth_each(p:Fn):p.depth≤p.each.length:=by
 induction p using Fn.ind with
 | h p ih=>
  rw [Fn.depth_eq,Fn.each_eq,List.length_cons]
  have: ∀l:List Fn,(∀q∈l,q.depth≤q.each.length)→Fn.depths l≤(Fn.eachs l).length:=by
   intro l
   induction l with
   |nil=>intro _;exact Nat.le_refl _
   |cons a r ihr=>
    intro h
    have h1:=h a List.mem_cons_self
    have h2:=ihr fun q hq=>h q (List.mem_cons_of_mem _ hq)
    rw [Fn.depths,Fn.eachs,List.length_append]
    omega
  exact Nat.succ_le_succ (this _ ih)
theorem C0r(p:Fn)(hp:p.bd)(hd:p.depth≤1000000):Pure Tryz.prog 31 [.agg p.row] (.int .i64 p.depth):=by
 induction p using Fn.ind with
 | h p ih'=>
  have hde:=Fn.depth_eq p
  have ih: ∀q∈p.protos,Pure Tryz.prog 31 [.agg q.row] (.int .i64 q.depth):=fun q hq=>ih' q hq (hp.child hq) (by have:=Fn.depths_mem hq;omega)
  clear ih'
  obtain⟨h1,h2⟩:=B5 p
  have hqz:=hp.self.protos
  have h8:p.row[8]? =some (.isl (p.protos.map Fn.row)):=by rw [Fn.row_eq];rfl
  have k2:(p.protos.map Fn.row).length=p.protos.length:=List.length_map ..
  have zq:=eq_true (A7 Fn.row 11 Fn.row_len p.protos)
  have rq: ∀(k:Nat) x,p.protos[k]? =some x→(p.protos.map Fn.row)[k]? =some (Fn.row x):=fun k x hk=>by rw [List.getElem?_map,hk];rfl
  generalize p.protos.map Fn.row=rprotos at*
  generalize p.row=pr at*
  rw [hde]at hd⊢
  refine Pure.of 0 (A0.enter A9r (Nat.le_of_ble_eq_true rfl) (Run.go 100 ?_))
  simp -implicitDefEqProofs only [go_sem,A3,h1,h2,h8,k2]
  refine Run.keep [9,8,7,3,1] ?_
  refine Run.rounds (fun(x:Nat×Nat)=>⟨[(9,.int .i64 x.1),(8,.int .i64 p.protos.length),(7,.isl rprotos),(3,.int .i64 (Fn.depths (p.protos.take x.1))),(1,.ptr (31*10000+1) 0 0 0)],[((31*10000+1),0,.rows 11 [pr])],x.2⟩) (fun x=>x.1≤p.protos.length) (fun x=>p.protos.length-x.1) (0,1) (by simp -implicitDefEqProofs only [go_sem,List.take_zero,Fn.depths]) (Nat.zero_le _) ?_
  rintro⟨k,m⟩ hk ihl
  simp only at hk ihl⊢
  refine Run.unf B2s (Run.go 100 ?_)
  by_cases hlt:k<p.protos.length
  ·have q0:((k:Int)<(p.protos.length:Int))=True:=eq_true (by omega)
   have q1:((0:Int)≤(k:Int))=True:=eq_true (by omega)
   obtain⟨q,hx⟩: ∃x,p.protos[k]? =some x:=⟨p.protos[k],by simp [hlt]⟩
   have hxr:=rq k q hx
   have hzk:((k+1:Nat):Int)=(k:Int)+1:=by omega
   have hq:=ih q (List.mem_of_getElem? hx)
   have hqs:=Fn.row_sub E8 q
   obtain⟨g1,g2⟩:=B5 q
   have ht:p.protos.take (k+1)=p.protos.take k++ [q]:=by rw [List.take_add_one,hx];rfl
   have hm:Fn.depths (p.protos.take (k+1))=max (Fn.depths (p.protos.take k)) q.depth:=by rw [ht,Fn.depths_append]
   have hle:=Fn.depths_take p.protos (k+1)
   generalize hD:Fn.depths (p.protos.take (k+1))=D at*
   generalize Fn.depths (p.protos.take k)=d0 at*
   generalize q.row=qr at*
   simp -implicitDefEqProofs only [go_sem,q0,q1,k2,zq,g1,g2,hxr,hlt,Option.some.injEq,forall_eq']
   refine A0.pureF hq (by simp -implicitDefEqProofs only [go_sem,hqs]) ?_
   have hmax:(if (q.depth:Int)>(d0:Int)then(q.depth:Int)else(d0:Int))=(D:Int):=by split<;>omega
   simp -implicitDefEqProofs only [go_sem,hmax]
   refine⟨by omega,?_⟩
   exact ihl _ (k+1,m+1) (by simp only;omega) (by simp only;omega) (by simp -implicitDefEqProofs only [go_sem,hzk,hD])
  have e:k=p.protos.length:=by omega
  subst e
  rw [List.take_length]
  have hze:((Fn.depths p.protos+1:Nat):Int)=(Fn.depths p.protos:Int)+1:=by omega
  simp -implicitDefEqProofs only [go_sem,Int.lt_irrefl,hze]
  omega
def A6d(p:Fn):Int:=B0T p.depth (p.each.map A8s)
theorem B4b(p:Fn)(hp:p.bd)(hd:p.depth≤1000000):Pure Tryz.prog 14 [.agg p.row] (.int .i64 (A6d p)):=
 C4C p hp p.depth (C0r p hp hd) A8s fun q hq=>B9Q q (hp.within hq)
end Go.Proofs.YtflobbpcabopjaaGreatDoor
