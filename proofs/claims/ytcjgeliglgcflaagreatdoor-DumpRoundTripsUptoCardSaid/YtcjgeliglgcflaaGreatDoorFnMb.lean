/-
 The rest of proto.Check. No condition.
-/
import Derived.Test.YtcjgeliglgcflaaGreatDoorFnMa
import Derived.Test.YtcjgeliglgcflaaGreatDoorRwM
import Derived.Test.YtcjgeliglgcflaaGreatDoorFnM5
import Derived.Test.YtcjgeliglgcflaaGreatDoorFnCk
set_option linter.unusedVariables false
set_option linter.unusedSimpArgs false
set_option maxRecDepth 100000
set_option maxHeartbeats 0
namespace Go.Proofs.YtcjgeliglgcflaaGreatDoor
open Go.Abs
attribute [local irreducible] A3 Run J0
def A0p(i:Ins):Int×Bool:=
 if i.op=2 then(i.b,false)else if i.op=7 then(i.b,true)else if i.op=8 then(i.a,true)else if i.op=11 then(i.c,true)else(-1,false)
theorem B2S(i:Ins):Pure Tryz.prog 107 [i.v] (.tup [.int .i64 (A0p i).1,.bool (A0p i).2]):=by
 obtain⟨op,a,b,c,d⟩:=i
 refine Pure.of 0 (A3.enter A3i (Nat.le_of_ble_eq_true rfl) (Run.go 100 ?_))
 by_cases k2:op=2
 ·subst k2;simp -implicitDefEqProofs only [go_sem,A8,Ins.v,Ins.row,A0p]
 by_cases k7:op=7
 ·subst k7;simp -implicitDefEqProofs only [go_sem,A8,Ins.v,Ins.row,A0p]
 by_cases k8:op=8
 ·subst k8;simp -implicitDefEqProofs only [go_sem,A8,Ins.v,Ins.row,A0p]
 by_cases k11:op=11
 ·subst k11;simp -implicitDefEqProofs only [go_sem,A8,Ins.v,Ins.row,A0p]
 simp -implicitDefEqProofs only [go_sem,A8,Ins.v,Ins.row,A0p,k2,k7,k8,k11]
def B8B(o:Option Kst):Bool:=match o with|some c=>decide (c.kind=3)|none=>false
def A9i(p:Fn)(i:Ins):Bool:=
 if (p.consts.length:Int)≤(A0p i).1 then false
 else if 0≤(A0p i).1∧(A0p i).2=true∧B8B p.consts[(A0p i).1.toNat]? =false then false
 else if i.op=5 then decide (i.b<p.ups.length)else if i.op=6 then decide (i.a<p.ups.length)else if i.op=22 then decide (i.b<p.protos.length)else if i.op=19 then p.vararg else true
theorem B2p{op:Int}{x1 x2 x3 x4 z:Bool}(h:(if op=5 then x1 else if op=6 then x2 else if op=22 then x3 else if op=19 then x4 else true)=z):
  (op=5→x1=z)∧(¬op=5→(op=6→x2=z)∧(¬op=6→(op=22→x3=z)∧(¬op=22→(op=19→x4=z)∧(¬op=19→true=z)))):=by
 subst h
 exact⟨fun h=>by rw [if_pos h],fun h5=>⟨fun h=>by rw [if_neg h5,if_pos h],fun h6=>⟨fun h=>by rw [if_neg h5,if_neg h6,if_pos h],fun h22=>⟨fun h=>by rw [if_neg h5,if_neg h6,if_neg h22,if_pos h],fun h19=>by rw [if_neg h5,if_neg h6,if_neg h22,if_neg h19]⟩⟩⟩⟩
theorem B6o(p:Fn)(hp:p.bd)(i:Ins):Pure Tryz.prog 79 [.agg p.row,i.v] (.bool (A9i p i)):=by
 obtain⟨h1,h2⟩:=C7 p
 have hb:=hp.self
 have hci:=B2S i
 rw [Fn.row_eq]at h1 h2⊢
 obtain⟨name,line,params,vararg,regs,code,lines,consts,protos,ups,vars⟩:=p
 have hcz:consts.length≤17592186043904:=by have:=hb.consts;simp only at this;omega
 have k2:(consts.map Kst.row).length=consts.length:=List.length_map ..
 have k3:(protos.map Fn.row).length=protos.length:=List.length_map ..
 have k4:(ups.map Upv.row).length=ups.length:=List.length_map ..
 have zc:=eq_true (B8 Kst.row 5 (fun _=>rfl) consts)
 have rc: ∀(k:Nat) x,consts[k]? =some x→(consts.map Kst.row)[k]? =some (Kst.row x):=fun k x hk=>by rw [List.getElem?_map,hk];rfl
 generalize hl:A9i _ i=z
 simp only [A9i]at hl
 simp only at*
 generalize code.map Ins.row=rcode at*
 generalize consts.map Kst.row=rconsts at*
 generalize protos.map Fn.row=rprotos at*
 generalize lines.map D1=rlines at*
 generalize ups.map Upv.row=rups at*
 generalize vars.map Vr.row=rvars at*
 generalize (A0p i).1=kk at*
 generalize (A0p i).2=nm at*
 obtain⟨op,a,b,c,d⟩:=i
 refine Pure.of 0 (A3.enter A5q (Nat.le_of_ble_eq_true rfl) (Run.go 100 ?_))
 simp only [Ins.v,Ins.row]at*
 simp -implicitDefEqProofs only [go_sem,A8,h1,h2,k2,k3,k4]
 refine A3.pureF hci (by simp -implicitDefEqProofs only [go_sem]) ?_
 by_cases c1:(consts.length:Int)≤kk
 ·obtain rfl:z=false:=hl ▸ if_pos c1
  simp -implicitDefEqProofs only [go_sem,c1,k2,h1,h2]
 rw [if_neg c1]at hl
 by_cases c2:0≤kk
 ·cases nm
  ·rw [if_neg (fun h=>by simp at h)]at hl
   simp -implicitDefEqProofs only [go_sem,c1,c2,k2,k3,k4,h1,h2]
   exact B2p hl
  ·obtain⟨x,hx⟩: ∃x,consts[kk.toNat]? =some x:=⟨consts[kk.toNat]'(by omega),by simp⟩
   have hxr:=rc _ x hx
   rw [hx]at hl
   simp -implicitDefEqProofs only [go_sem,c1,c2,k2,k3,k4,h1,h2,zc,hxr,Kst.row,Option.some.injEq,forall_eq']
   refine⟨by omega,by omega,fun hk=> ?_,fun hk=> ?_⟩
   ·rw [if_pos ⟨c2,rfl,decide_eq_false hk⟩]at hl;exact hl
   ·rw [if_neg (fun h=>by simp [B8B,hk]at h)]at hl;exact B2p hl
 ·rw [if_neg (fun h=>c2 h.1)]at hl
  simp -implicitDefEqProofs only [go_sem,c1,c2,k2,k3,k4,h1,h2]
  exact B2p hl
def A7j(regs:Int)(l:List Int×Int):Bool:=decide (l.2≤regs)&& !l.1.any (fun r=>decide (regs≤r))
theorem C1V(z:Int)(pr:List V)(regs:Int)(h1:pr.length=11)(h2:pr.take 11=pr)(h3:pr[4]? =some (.int .i64 regs))(n:Nat):A3 Tryz.prog 106 [.int .i64 z,.ptr (77*10000+3) 0 0 0] [((77*10000+3),0,.rows 11 [pr])] n fun r h' n'=>r= .bool (decide (regs≤z))∧h'= [((77*10000+3),0,.rows 11 [pr])]:=by
 refine A3.enterK A3m (Nat.le_of_ble_eq_true rfl) fun Q hQ=>Run.go 100 ?_
 simp -implicitDefEqProofs only [go_sem,A8,h1,h2,h3]
 subst hQ
 exact .is ⟨rfl,rfl⟩
theorem B0H(p:Fn)(l:List Int×Int)(hl:l.1.length≤1000000):Pure Tryz.prog 77 [.agg p.row,.isl (l.1.map zrw),.int .i64 l.2] (.bool (A7j p.regs l)):=by
 obtain⟨h1,h2⟩:=C7 p
 have h3:p.row[4]? =some (.int .i64 p.regs):=by rw [Fn.row_eq];rfl
 have cl:=A8D l.1 (by omega) (fun r=>decide (p.regs≤r)) 106 [.ptr (77*10000+3) 0 0 0]
 rw [show l.1.map D1=l.1.map zrw from rfl]at cl
 have ho:=fun z n=>C1V z p.row p.regs h1 h2 h3 n
 obtain⟨l,m⟩:=l
 simp only [A7j]at*
 generalize l.map zrw=rl at*
 generalize p.row=pr at*
 refine Pure.of 0 (A3.enter A5v (Nat.le_of_ble_eq_true rfl) (Run.go 100 ?_))
 by_cases c1:m≤p.regs
 ·simp -implicitDefEqProofs only [go_sem,A8,h1,h2,h3,c1]
  refine(cl _ (by kernel_rfl) (fun x _ m=>ho x m) _).mono ?_
  rintro r h' n' ⟨rfl,rfl⟩
  simp -implicitDefEqProofs only [go_sem]
 ·simp -implicitDefEqProofs only [go_sem,A8,h1,h2,h3,c1]
theorem B9V(i:Ins):(V9 i).1.length≤1000000:=by
 have h:=B4c (a:=0) (b:=4096) (B9b i) (fun x hx=>((B6m i).1 x hx).1) (fun x hx=>((B6m i).1 x hx).2)
 omega
theorem B8c(i:Ins):(Q0 i).1.length≤1000000:=by
 have h:=B4c (a:=0) (b:=4096) (B6W i) (fun x hx=>((B3Z i).1 x hx).1) (fun x hx=>((B3Z i).1 x hx).2)
 omega
def A8L(p:Fn)(i:Ins):Int:=
 if chk i≠0 then chk i
 else if A7j p.regs (V9 i)=true∧A7j p.regs (Q0 i)=true∧(B1Q i.op=true→0≤i.b∧i.b<p.code.length)∧A9i p i=true then 0 else 4
theorem B9K(p:Fn)(hp:p.bd)(i:Ins):Pure Tryz.prog 43 [.agg p.row,i.v] (.int .i64 (A8L p i)):=by
 obtain⟨h1,h2⟩:=C7 p
 have hps:=Fn.row_sub G6 p
 have hc:=A7U i
 have hr:=B7H i
 have hw:=B6R i
 have hwr:=B0H p (V9 i) (B9V i)
 have hww:=B0H p (Q0 i) (B8c i)
 have ht:=B6L i
 have hf:=B6o p hp i
 have h5:p.row[5]? =some (.isl (p.code.map Ins.row)):=by rw [Fn.row_eq];rfl
 have k1:(p.code.map Ins.row).length=p.code.length:=List.length_map ..
 have f1:((V9 i).1.map zrw).map (fun r=>r.map (V.sub G6))=(V9 i).1.map zrw:=C2w _
 have f2:((Q0 i).1.map zrw).map (fun r=>r.map (V.sub G6))=(Q0 i).1.map zrw:=C2w _
 generalize hz:A8L p i=z
 unfold A8L at hz
 generalize (V9 i).1.map zrw=rr at*
 generalize (Q0 i).1.map zrw=rw at*
 generalize (V9 i).2=r2 at*
 generalize (Q0 i).2=w2 at*
 generalize A7j p.regs (V9 i)=b1 at*
 generalize A7j p.regs (Q0 i)=b2 at*
 generalize A9i p i=b3 at*
 generalize chk i=ck at*
 generalize B1Q i.op=jj at*
 generalize p.code.map Ins.row=rcode at*
 generalize p.row=pr at*
 obtain⟨op,a,b,c,d⟩:=i
 simp only [Ins.v,Ins.row]at*
 refine Pure.of 0 (A3.enter A0L (Nat.le_of_ble_eq_true rfl) (Run.go 100 ?_))
 simp -implicitDefEqProofs only [go_sem,A8,h1,h2]
 refine A3.pureF hc (by simp -implicitDefEqProofs only [go_sem]) ?_
 by_cases c0:ck=0
 case neg=>
  rw [if_pos c0]at hz
  subst hz
  simp -implicitDefEqProofs only [go_sem,c0]
 rw [if_neg (by simpa using c0)]at hz
 simp -implicitDefEqProofs only [go_sem,c0]
 refine A3.pureF hr (by simp -implicitDefEqProofs only [go_sem]) ?_
 simp -implicitDefEqProofs only [go_sem]
 refine A3.pureF hw (by simp -implicitDefEqProofs only [go_sem]) ?_
 simp -implicitDefEqProofs only [go_sem,h1,h2]
 refine A3.pureF hwr (by simp -implicitDefEqProofs only [go_sem,hps,f1]) ?_
 cases b1
 ·obtain rfl:z=4:=hz ▸ if_neg (fun h=>by simp at h)
  simp -implicitDefEqProofs only [go_sem]
 simp -implicitDefEqProofs only [go_sem,h1,h2]
 refine A3.pureF hww (by simp -implicitDefEqProofs only [go_sem,hps,f2]) ?_
 cases b2
 ·obtain rfl:z=4:=hz ▸ if_neg (fun h=>by simp at h)
  simp -implicitDefEqProofs only [go_sem]
 simp -implicitDefEqProofs only [go_sem]
 refine A3.pureF ht (by simp -implicitDefEqProofs only [go_sem]) ?_
 cases jj
 ·simp -implicitDefEqProofs only [go_sem,h1,h2]
  refine A3.pureF hf (by simp -implicitDefEqProofs only [go_sem,hps]) ?_
  cases b3
  ·obtain rfl:z=4:=hz ▸ if_neg (fun h=>by simp at h)
   simp -implicitDefEqProofs only [go_sem]
  ·obtain rfl:z=0:=hz ▸ if_pos (by simp)
   simp -implicitDefEqProofs only [go_sem]
 ·by_cases d1:b<0
  ·obtain rfl:z=4:=hz ▸ if_neg (fun h=>by have:=(h.2.2.1 rfl).1;omega)
   simp -implicitDefEqProofs only [go_sem,d1,h1,h2,h5,k1]
  by_cases d2:b<(p.code.length:Int)
  ·simp -implicitDefEqProofs only [go_sem,d1,d2,h1,h2,h5,k1,ge_iff_le,Int.not_le.2 d2]
   refine A3.pureF hf (by simp -implicitDefEqProofs only [go_sem,hps]) ?_
   cases b3
   ·obtain rfl:z=4:=hz ▸ if_neg (fun h=>by simp at h)
    simp -implicitDefEqProofs only [go_sem]
   ·obtain rfl:z=0:=hz ▸ if_pos ⟨rfl,rfl,fun _=>⟨by omega,d2⟩,rfl⟩
    simp -implicitDefEqProofs only [go_sem]
  ·obtain rfl:z=4:=hz ▸ if_neg (fun h=>d2 (h.2.2.1 rfl).2)
   have d3:((p.code.length:Int)≤b)=True:=eq_true (by omega)
   simp -implicitDefEqProofs only [go_sem,d1,d2,d3,h1,h2,h5,k1]
def B4e(regs:Int)(n:Nat)(u:Upv):Bool:=if u.loc then decide (regs≤u.idx)else decide ((n:Int)≤u.idx)
def C9k(p q:Fn):Bool:=q.ups.any (B4e p.regs p.ups.length)
def B4L(p:Fn):Int:=
 if B7v p≠0 then B7v p else if B0p p≠0 then B0p p
 else if N7 (p.code.map (A8L p))≠0 then N7 (p.code.map (A8L p))
 else if p.protos.any (C9k p)=true then 4 else 0
theorem B4S{α:Type}{l:List α}{k:Nat}{x:α}{f:α→Int}(h: ∀y∈l.take k,f y=0)(hx:l[k]? =some x)(hf:f x=0): ∀y∈l.take (k+1),f y=0:=by
 rw [List.take_add_one,hx]
 intro y hy
 rcases List.mem_append.1 hy with hy|hy
 ·exact h y hy
 ·obtain rfl:y=x:=by simpa using hy
  exact hf
theorem B4r{α:Type}{l:List α}{k:Nat}{x:α}{f:α→Int}(h: ∀y∈l.take k,f y=0)(hx:l[k]? =some x)(hf:f x≠0):N7 (l.map f)=f x:=by
 obtain⟨hk,hkx⟩:=List.getElem?_eq_some_iff.1 hx
 have e:l=l.take k++x::l.drop (k+1):=by rw [←hkx,←List.drop_eq_getElem_cons hk,List.take_append_drop]
 rw [e,List.map_append,List.map_cons]
 refine A7V (fun y hy=> ?_) hf
 obtain⟨w,hw,rfl⟩:=List.mem_map.1 hy
 exact h w hw
theorem B6w(p:Fn)(hp:p.bd):Pure Tryz.prog 19 [.agg p.row] (.int .i64 (B4L p)):=by
 obtain⟨h1,h2⟩:=C7 p
 have hps:=Fn.row_sub G6 p
 have hb:=hp.self
 have hcz:=hb.code
 have hqz:=hb.protos
 have hli:=B5Q p hp
 have hfo:=B9F p hp
 have hin:=B9K p hp
 have h4:p.row[4]? =some (.int .i64 p.regs):=by rw [Fn.row_eq];rfl
 have h5:p.row[5]? =some (.isl (p.code.map Ins.row)):=by rw [Fn.row_eq];rfl
 have h8:p.row[8]? =some (.isl (p.protos.map Fn.row)):=by rw [Fn.row_eq];rfl
 have h9:p.row[9]? =some (.isl (p.ups.map Upv.row)):=by rw [Fn.row_eq];rfl
 have k1:(p.code.map Ins.row).length=p.code.length:=List.length_map ..
 have k2:(p.protos.map Fn.row).length=p.protos.length:=List.length_map ..
 have k3:(p.ups.map Upv.row).length=p.ups.length:=List.length_map ..
 have zi:=eq_true (B8 Ins.row 5 (fun _=>rfl) p.code)
 have zq:=eq_true (B8 Fn.row 11 Fn.row_len p.protos)
 have ri: ∀(k:Nat) x,p.code[k]? =some x→(p.code.map Ins.row)[k]? =some (Ins.row x):=fun k x hk=>by rw [List.getElem?_map,hk];rfl
 have rq: ∀(k:Nat) x,p.protos[k]? =some x→(p.protos.map Fn.row)[k]? =some (Fn.row x):=fun k x hk=>by rw [List.getElem?_map,hk];rfl
 generalize hz:B4L p=z
 unfold B4L at hz
 generalize p.code.map Ins.row=rcode at*
 generalize p.protos.map Fn.row=rprotos at*
 generalize p.ups.map Upv.row=rups at*
 generalize p.row=pr at*
 refine Pure.of 0 (A3.enter A5u (Nat.le_of_ble_eq_true rfl) (Run.go 100 ?_))
 simp -implicitDefEqProofs only [go_sem,A8,h1,h2]
 refine A3.pureF hli (by simp -implicitDefEqProofs only [go_sem,hps]) ?_
 by_cases c0:B7v p=0
 case neg=>
  rw [if_pos c0]at hz
  subst hz
  simp -implicitDefEqProofs only [go_sem,c0]
 rw [if_neg (by simpa using c0)]at hz
 simp -implicitDefEqProofs only [go_sem,c0,h1,h2]
 refine A3.pureF hfo (by simp -implicitDefEqProofs only [go_sem,hps]) ?_
 by_cases c1:B0p p=0
 case neg=>
  rw [if_pos c1]at hz
  subst hz
  simp -implicitDefEqProofs only [go_sem,c1]
 rw [if_neg (by simpa using c1)]at hz
 simp -implicitDefEqProofs only [go_sem,c1,h1,h2,h5,k1]
 refine Run.keep [25,24,23,1] ?_
 refine Run.rounds (fun(x:Nat×Nat)=>⟨[(25,.int .i64 x.1),(24,.int .i64 p.code.length),(23,.isl rcode),(1,.ptr (19*10000+1) 0 0 0)],[((19*10000+1),0,.rows 11 [pr])],x.2⟩) (fun x=>x.1≤p.code.length∧ ∀y∈p.code.take x.1,A8L p y=0) (fun x=>p.code.length-x.1) (0,1) (by simp -implicitDefEqProofs only [go_sem]) ⟨Nat.zero_le _,by simp⟩ ?_
 rintro⟨k,m⟩ ⟨hk,hno⟩ ih
 simp only at hk hno ih⊢
 refine Run.unf A8d (Run.go 100 ?_)
 by_cases hlt:k<p.code.length
 ·have q0:((k:Int)<(p.code.length:Int))=True:=eq_true (by omega)
  have q1:((0:Int)≤(k:Int))=True:=eq_true (by omega)
  obtain⟨x,hx⟩: ∃x,p.code[k]? =some x:=⟨p.code[k],by simp [hlt]⟩
  have hxr:=ri k x hx
  have hix:=hin x
  have hzk:((k+1:Nat):Int)=(k:Int)+1:=by omega
  simp only [Ins.v,Ins.row]at hix
  simp -implicitDefEqProofs only [go_sem,q0,q1,k1,zi,h1,h2,hxr,Ins.row,hlt,Option.some.injEq,forall_eq']
  refine A3.pureF hix (by simp -implicitDefEqProofs only [go_sem,hps]) ?_
  by_cases hx2:A8L p x=0
  ·simp -implicitDefEqProofs only [go_sem,hx2]
   refine⟨by omega,?_⟩
   exact ih _ (k+1,m+1) ⟨by simp only;omega,B4S hno hx hx2⟩ (by simp only;omega) (by simp -implicitDefEqProofs only [go_sem,hzk])
  ·have hf:=B4r (f:=A8L p) hno hx hx2
   rw [if_pos (by rw [hf];exact hx2),hf]at hz
   subst hz
   simp -implicitDefEqProofs only [go_sem,hx2]
 have e:k=p.code.length:=by omega
 subst e
 rw [List.take_length]at hno
 rw [if_neg (by rw [A4C (fun y hy=>by obtain⟨w,hw,rfl⟩:=List.mem_map.1 hy;exact hno w hw)];simp)]at hz
 clear ih hlt hk
 simp -implicitDefEqProofs only [go_sem,Int.lt_irrefl,h1,h2,h8,k2]
 refine Run.keep [39,38,37,1] ?_
 refine Run.rounds (fun(x:Nat×Nat)=>⟨[(39,.int .i64 x.1),(38,.int .i64 p.protos.length),(37,.isl rprotos),(1,.ptr (19*10000+1) 0 0 0)],[((19*10000+1),0,.rows 11 [pr])],x.2⟩) (fun x=>x.1≤p.protos.length∧(p.protos.take x.1).any (C9k p)=false) (fun x=>p.protos.length-x.1) (0,m) (by simp -implicitDefEqProofs only [go_sem]) ⟨Nat.zero_le _,rfl⟩ ?_
 clear m hno
 rintro⟨k,m⟩ ⟨hk,hno⟩ ih
 simp only at hk hno ih⊢
 refine Run.unf A8e (Run.go 100 ?_)
 by_cases hlt:k<p.protos.length
 ·have q0:((k:Int)<(p.protos.length:Int))=True:=eq_true (by omega)
  have q1:((0:Int)≤(k:Int))=True:=eq_true (by omega)
  obtain⟨q,hx⟩: ∃x,p.protos[k]? =some x:=⟨p.protos[k],by simp [hlt]⟩
  have hxr:=rq k q hx
  have hzk:((k+1:Nat):Int)=(k:Int)+1:=by omega
  have hqb:=(hp.child (List.mem_of_getElem? hx)).self.ups
  obtain⟨g1,g2⟩:=C7 q
  have g9:q.row[9]? =some (.isl (q.ups.map Upv.row)):=by rw [Fn.row_eq];rfl
  have j3:(q.ups.map Upv.row).length=q.ups.length:=List.length_map ..
  have zu:=eq_true (B8 Upv.row 3 (fun _=>rfl) q.ups)
  have ru: ∀(k:Nat) x,q.ups[k]? =some x→(q.ups.map Upv.row)[k]? =some (Upv.row x):=fun k x hk=>by rw [List.getElem?_map,hk];rfl
  generalize q.ups.map Upv.row=qups at*
  generalize q.row=qr at*
  simp -implicitDefEqProofs only [go_sem,q0,q1,k2,zq,g1,g2,g9,j3,hxr,hlt,Option.some.injEq,forall_eq']
  refine Run.keep [46,45,44,39,38,37,1] ?_
  refine Run.rounds (fun(x:Nat×Nat)=>⟨[(46,.int .i64 x.1),(45,.int .i64 q.ups.length),(44,.isl qups),(39,.int .i64 k),(38,.int .i64 p.protos.length),(37,.isl rprotos),(1,.ptr (19*10000+1) 0 0 0)],[((19*10000+1),0,.rows 11 [pr])],x.2⟩) (fun x=>x.1≤q.ups.length∧(q.ups.take x.1).any (B4e p.regs p.ups.length)=false) (fun x=>q.ups.length-x.1) (0,m+1) (by simp -implicitDefEqProofs only [go_sem]) ⟨Nat.zero_le _,rfl⟩ ?_
  rintro⟨j,m⟩ ⟨hj,hnj⟩ ihj
  simp only at hj hnj ihj⊢
  refine Run.unf A8f (Run.go 100 ?_)
  by_cases hltj:j<q.ups.length
  ·have q2:((j:Int)<(q.ups.length:Int))=True:=eq_true (by omega)
   have q3:((0:Int)≤(j:Int))=True:=eq_true (by omega)
   obtain⟨u,hu⟩: ∃x,q.ups[j]? =some x:=⟨q.ups[j],by simp [hltj]⟩
   have hur:=ru j u hu
   have hzj:((j+1:Nat):Int)=(j:Int)+1:=by omega
   obtain⟨un,ul,ui⟩:=u
   have bad:B4e p.regs p.ups.length ⟨un,ul,ui⟩=true→z=4:=fun hb=>hz ▸ if_pos (A4v hx (A4v hu hb))
   by_cases hbu:B4e p.regs p.ups.length ⟨un,ul,ui⟩=true
   ·obtain rfl:=bad hbu
    cases ul
    ·have d1:((p.ups.length:Int)≤ui)=True:=eq_true (by simpa [B4e]using hbu)
     simp -implicitDefEqProofs only [go_sem,q2,q3,j3,zu,hur,Upv.row,hltj,h1,h2,h4,h9,k3,d1,ge_iff_le,Option.some.injEq,forall_eq']
    ·have d1:(p.regs≤ui)=True:=eq_true (by simpa [B4e]using hbu)
     simp -implicitDefEqProofs only [go_sem,q2,q3,j3,zu,hur,Upv.row,hltj,h1,h2,h4,h9,k3,d1,ge_iff_le,Option.some.injEq,forall_eq']
   ·have hbu':B4e p.regs p.ups.length ⟨un,ul,ui⟩=false:=by simpa only [Bool.not_eq_true]using hbu
    cases ul
    ·have d1:((p.ups.length:Int)≤ui)=False:=eq_false (by simpa [B4e]using hbu)
     simp -implicitDefEqProofs only [go_sem,q2,q3,j3,zu,hur,Upv.row,hltj,h1,h2,h4,h9,k3,d1,ge_iff_le,Option.some.injEq,forall_eq']
     refine⟨by omega,?_⟩
     exact ihj _ (j+1,m+1) ⟨by simp only;omega,U3 hnj hu hbu'⟩ (by simp only;omega) (by simp -implicitDefEqProofs only [go_sem,hzj])
    ·have d1:(p.regs≤ui)=False:=eq_false (by simpa [B4e]using hbu)
     simp -implicitDefEqProofs only [go_sem,q2,q3,j3,zu,hur,Upv.row,hltj,h1,h2,h4,h9,k3,d1,ge_iff_le,Option.some.injEq,forall_eq']
     refine⟨by omega,?_⟩
     exact ihj _ (j+1,m+1) ⟨by simp only;omega,U3 hnj hu hbu'⟩ (by simp only;omega) (by simp -implicitDefEqProofs only [go_sem,hzj])
  have e:j=q.ups.length:=by omega
  subst e
  have l:=A1t hnj
  simp -implicitDefEqProofs only [go_sem,Int.lt_irrefl]
  refine⟨by omega,?_⟩
  exact ih _ (k+1,m) ⟨by simp only;omega,U3 hno hx l⟩ (by simp only;omega) (by simp -implicitDefEqProofs only [go_sem,hzk])
 have e:k=p.protos.length:=by omega
 subst e
 have l:=A1t hno
 obtain rfl:z=0:=hz ▸ if_neg (fun h=>by simp [l]at h)
 simp -implicitDefEqProofs only [go_sem,Int.lt_irrefl]
theorem Fn.depths_append: ∀(l:List Fn) (q:Fn),Fn.depths (l++ [q])=max (Fn.depths l) q.depth
 | [],q=>by simp [Fn.depths]
 |p::r,q=>by rw [List.cons_append,Fn.depths,Fn.depths,Fn.depths_append r q,Nat.max_assoc]
theorem Fn.depths_mem: ∀{l:List Fn} {q:Fn},q∈l→q.depth≤Fn.depths l
 | [],q,h=>by cases h
 |p::r,q,h=>by
  rw [Fn.depths]
  rcases List.mem_cons.1 h with rfl|h
  ·exact Nat.le_max_left ..
  ·exact Nat.le_trans (Fn.depths_mem h) (Nat.le_max_right ..)
theorem Fn.depths_take(l:List Fn)(k:Nat):Fn.depths (l.take k)≤Fn.depths l:=by
 induction l generalizing k with
 |nil=>simp
 |cons a r ih=>
  cases k with
  |zero=>simp [Fn.depths]
  |succ k=>rw [List.take_succ_cons,Fn.depths,Fn.depths];have:=ih k;omega
theorem Fn.depth_each(p:Fn):p.depth≤p.each.length:=by
 induction p using Fn.ind with
 | h p ih=>
  rw [Fn.depth_eq,Fn.each_eq,List.length_cons]
  have: ∀l:List Fn,(∀q∈l,q.depth≤q.each.length)→Fn.depths l≤(Fn.eachs l).length:=by
   intro l
   induction l with
   |nil=>intro _;exact Nat.le_refl _
   |cons a r ihr=>
    intro h
    have h1:=h a List.mem_cons_self
    have h2:=ihr fun q hq=>h q (List.mem_cons_of_mem _ hq)
    rw [Fn.depths,Fn.eachs,List.length_append]
    omega
  exact Nat.succ_le_succ (this _ ih)
theorem B7d(p:Fn)(hp:p.bd)(hd:p.depth≤1000000):Pure Tryz.prog 17 [.agg p.row] (.int .i64 p.depth):=by
 induction p using Fn.ind with
 | h p ih'=>
  have hde:=Fn.depth_eq p
  have ih: ∀q∈p.protos,Pure Tryz.prog 17 [.agg q.row] (.int .i64 q.depth):=fun q hq=>ih' q hq (hp.child hq) (by have:=Fn.depths_mem hq;omega)
  clear ih'
  obtain⟨h1,h2⟩:=C7 p
  have hqz:=hp.self.protos
  have h8:p.row[8]? =some (.isl (p.protos.map Fn.row)):=by rw [Fn.row_eq];rfl
  have k2:(p.protos.map Fn.row).length=p.protos.length:=List.length_map ..
  have zq:=eq_true (B8 Fn.row 11 Fn.row_len p.protos)
  have rq: ∀(k:Nat) x,p.protos[k]? =some x→(p.protos.map Fn.row)[k]? =some (Fn.row x):=fun k x hk=>by rw [List.getElem?_map,hk];rfl
  generalize p.protos.map Fn.row=rprotos at*
  generalize p.row=pr at*
  rw [hde]at hd⊢
  refine Pure.of 0 (A3.enter A6x (Nat.le_of_ble_eq_true rfl) (Run.go 100 ?_))
  simp -implicitDefEqProofs only [go_sem,A8,h1,h2,h8,k2]
  refine Run.keep [9,8,7,3,1] ?_
  refine Run.rounds (fun(x:Nat×Nat)=>⟨[(9,.int .i64 x.1),(8,.int .i64 p.protos.length),(7,.isl rprotos),(3,.int .i64 (Fn.depths (p.protos.take x.1))),(1,.ptr (17*10000+1) 0 0 0)],[((17*10000+1),0,.rows 11 [pr])],x.2⟩) (fun x=>x.1≤p.protos.length) (fun x=>p.protos.length-x.1) (0,1) (by simp -implicitDefEqProofs only [go_sem,List.take_zero,Fn.depths]) (Nat.zero_le _) ?_
  rintro⟨k,m⟩ hk ihl
  simp only at hk ihl⊢
  refine Run.unf A9e (Run.go 100 ?_)
  by_cases hlt:k<p.protos.length
  ·have q0:((k:Int)<(p.protos.length:Int))=True:=eq_true (by omega)
   have q1:((0:Int)≤(k:Int))=True:=eq_true (by omega)
   obtain⟨q,hx⟩: ∃x,p.protos[k]? =some x:=⟨p.protos[k],by simp [hlt]⟩
   have hxr:=rq k q hx
   have hzk:((k+1:Nat):Int)=(k:Int)+1:=by omega
   have hq:=ih q (List.mem_of_getElem? hx)
   have hqs:=Fn.row_sub G6 q
   obtain⟨g1,g2⟩:=C7 q
   have ht:p.protos.take (k+1)=p.protos.take k++ [q]:=by rw [List.take_add_one,hx];rfl
   have hm:Fn.depths (p.protos.take (k+1))=max (Fn.depths (p.protos.take k)) q.depth:=by rw [ht,Fn.depths_append]
   have hle:=Fn.depths_take p.protos (k+1)
   generalize hD:Fn.depths (p.protos.take (k+1))=D at*
   generalize Fn.depths (p.protos.take k)=d0 at*
   generalize q.row=qr at*
   simp -implicitDefEqProofs only [go_sem,q0,q1,k2,zq,g1,g2,hxr,hlt,Option.some.injEq,forall_eq']
   refine A3.pureF hq (by simp -implicitDefEqProofs only [go_sem,hqs]) ?_
   have hmax:(if (q.depth:Int)>(d0:Int)then(q.depth:Int)else(d0:Int))=(D:Int):=by split<;>omega
   simp -implicitDefEqProofs only [go_sem,hmax]
   refine⟨by omega,?_⟩
   exact ihl _ (k+1,m+1) (by simp only;omega) (by simp only;omega) (by simp -implicitDefEqProofs only [go_sem,hzk,hD])
  have e:k=p.protos.length:=by omega
  subst e
  rw [List.take_length]
  have hze:((Fn.depths p.protos+1:Nat):Int)=(Fn.depths p.protos:Int)+1:=by omega
  simp -implicitDefEqProofs only [go_sem,Int.lt_irrefl,hze]
  omega
def A3E(p:Fn):Int:=A9J p.depth (p.each.map B4L)
theorem A0K(p:Fn)(hp:p.bd)(hd:p.depth≤1000000):Pure Tryz.prog 7 [.agg p.row] (.int .i64 (A3E p)):=
 C0T p hp p.depth (B7d p hp hd) B4L fun q hq=>B6w q (hp.within hq)
end Go.Proofs.YtcjgeliglgcflaaGreatDoor
