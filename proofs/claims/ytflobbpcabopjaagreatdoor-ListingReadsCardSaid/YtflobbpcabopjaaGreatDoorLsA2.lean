/-
 The rest of proto.Check. No condition.
-/
import Derived.Test.YtflobbpcabopjaaGreatDoorFnMa
import Derived.Test.YtflobbpcabopjaaGreatDoorRwM
import Derived.Test.YtflobbpcabopjaaGreatDoorFnM5
import Derived.Test.YtflobbpcabopjaaGreatDoorLsS
set_option linter.unusedVariables false set_option linter.unusedSimpArgs false set_option maxRecDepth 100000
set_option maxHeartbeats 0
namespace Go.Proofs.YtflobbpcabopjaaGreatDoor
section
open Go.Abs
attribute [local irreducible] A0 Run J4
def A1z(i:Ins):Int×Bool:=
 if i.op=2 then(i.b,false)else if i.op=7 then(i.b,true)else if i.op=8 then(i.a,true)else if i.op=11 then(i.c,true)else(-1,false)
theorem B6o(i:Ins):Pure Tryz.prog 165 [i.v] (.tup [.int .i64 (A1z i).1,.bool (A1z i).2]):=by
 obtain⟨op,a,b,c,d⟩:=i
 refine Pure.of 0 (A0.enter A4u Jo (Run.go 100 ?_))
 by_cases k2:op=2
 ·subst k2;simp -implicitDefEqProofs only [go_sem,A3,Ins.v,Ins.row,A1z]
 by_cases k7:op=7
 ·subst k7;simp -implicitDefEqProofs only [go_sem,A3,Ins.v,Ins.row,A1z]
 by_cases k8:op=8
 ·subst k8;simp -implicitDefEqProofs only [go_sem,A3,Ins.v,Ins.row,A1z]
 by_cases k11:op=11
 ·subst k11;simp -implicitDefEqProofs only [go_sem,A3,Ins.v,Ins.row,A1z]
 simp -implicitDefEqProofs only [go_sem,A3,Ins.v,Ins.row,A1z,k2,k7,k8,k11]
def C3d(o:Option Kst):Bool:=match o with|some c=>decide (c.kind=3)|none=>false
def B2z(p:Fn)(i:Ins):Bool:=
 if (p.consts.length:Int)≤(A1z i).1 then false
 else if 0≤(A1z i).1∧(A1z i).2=true∧C3d p.consts[(A1z i).1.toNat]? =false then false
 else if i.op=5 then decide (i.b<p.ups.length)else if i.op=6 then decide (i.a<p.ups.length)else if i.op=22 then decide (i.b<p.protos.length)else if i.op=19 then p.vararg else true
theorem B5J{op:Int}{x1 x2 x3 x4 z:Bool}(h:(if op=5 then x1 else if op=6 then x2 else if op=22 then x3 else if op=19 then x4 else true)=z):
  (op=5→x1=z)∧(¬op=5→(op=6→x2=z)∧(¬op=6→(op=22→x3=z)∧(¬op=22→(op=19→x4=z)∧(¬op=19→true=z)))):=by
 subst h
 exact⟨fun h=>by rw [if_pos h],fun h5=>⟨fun h=>by rw [if_neg h5,if_pos h],fun h6=>⟨fun h=>by rw [if_neg h5,if_neg h6,if_pos h],fun h22=>⟨fun h=>by rw [if_neg h5,if_neg h6,if_neg h22,if_pos h],fun h19=>by rw [if_neg h5,if_neg h6,if_neg h22,if_neg h19]⟩⟩⟩⟩
theorem C0u(p:Fn)(hp:p.bd)(i:Ins):Pure Tryz.prog 126 [.agg p.row,i.v] (.bool (B2z p i)):=by
 obtain⟨h1,h2⟩:=C9 p
 have hb:=hp.self
 have hci:=B6o i
 rw [Fn.row_eq]at h1 h2⊢
 obtain⟨name,line,params,vararg,regs,code,lines,consts,protos,ups,vars⟩:=p
 have hcz:consts.length≤17592186043904:=by have:=hb.consts;simp only at this;omega
 have k2:(consts.map Kst.row).length=consts.length:=List.length_map ..
 have k3:(protos.map Fn.row).length=protos.length:=List.length_map ..
 have k4:(ups.map Upv.row).length=ups.length:=List.length_map ..
 have zc:=eq_true (C1 Kst.row 5 (fun _=>rfl) consts)
 have rc: ∀(k:Nat) x,consts[k]? =some x→(consts.map Kst.row)[k]? =some (Kst.row x):=fun k x hk=>by rw [List.getElem?_map,hk];rfl
 generalize hl:B2z _ i=z
 simp only [B2z]at hl
 simp only at*
 generalize code.map Ins.row=rcode at*
 generalize consts.map Kst.row=rconsts at*
 generalize protos.map Fn.row=rprotos at*
 generalize lines.map E9=rlines at*
 generalize ups.map Upv.row=rups at*
 generalize vars.map Vr.row=rvars at*
 generalize (A1z i).1=kk at*
 generalize (A1z i).2=nm at*
 obtain⟨op,a,b,c,d⟩:=i
 refine Pure.of 0 (A0.enter A7u Jo (Run.go 100 ?_))
 simp only [Ins.v,Ins.row]at*
 simp -implicitDefEqProofs only [go_sem,A3,h1,h2,k2,k3,k4]
 refine A0.pureF hci ze ?_
 by_cases c1:(consts.length:Int)≤kk
 ·obtain rfl:z=false:=hl ▸ if_pos c1
  simp -implicitDefEqProofs only [go_sem,c1,k2,h1,h2]
 rw [if_neg c1]at hl
 by_cases c2:0≤kk
 ·cases nm
  ·rw [if_neg (fun h=>by simp at h)]at hl
   exact KJ
  ·obtain⟨x,hx⟩: ∃x,consts[kk.toNat]? =some x:=⟨consts[kk.toNat]' zd,by simp⟩
   have hxr:=rc _ x hx
   rw [hx]at hl
   simp -implicitDefEqProofs only [go_sem,c1,c2,k2,k3,k4,h1,h2,zc,hxr,Kst.row,Option.some.injEq,forall_eq']
   refine⟨by omega,by omega,fun hk=> ?_,fun hk=> ?_⟩
   ·rw [if_pos ⟨c2,rfl,decide_eq_false hk⟩]at hl;exact hl
   ·rw [if_neg (fun h=>by simp [C3d,hk]at h)]at hl;exact B5J hl
 ·rw [if_neg (fun h=>c2 h.1)]at hl
  exact KJ
def A9Q(regs:Int)(l:List Int×Int):Bool:=decide (l.2≤regs)&& !l.1.any (fun r=>decide (regs≤r))
theorem C7j(z:Int)(pr:List V)(regs:Int)(h1:pr.length=11)(h2:pr.take 11=pr)(h3:pr[4]? =some (.int .i64 regs))(n:Nat):A0 Tryz.prog 164 [.int .i64 z,.ptr (124*10000+3) 0 0 0] [((124*10000+3),0,.rows 11 [pr])] n fun r h' n'=>r= .bool (decide (regs≤z))∧h'= [((124*10000+3),0,.rows 11 [pr])]:=by
 refine A0.enterK A4y Jo fun Q hQ=>Run.go 100 ?_
 simp -implicitDefEqProofs only [go_sem,A3,h1,h2,h3]
 exact KA
theorem B3U(p:Fn)(l:List Int×Int)(hl:l.1.length≤1000000):Pure Tryz.prog 124 [.agg p.row,.isl (l.1.map zrw),.int .i64 l.2] (.bool (A9Q p.regs l)):=by
 obtain⟨h1,h2⟩:=C9 p
 have h3:p.row[4]? =some (.int .i64 p.regs):=by rw [Fn.row_eq];rfl
 have cl:=B1G l.1 zd (fun r=>decide (p.regs≤r)) 164 [.ptr (124*10000+3) 0 0 0]
 rw [show l.1.map E9=l.1.map zrw from rfl]at cl
 have ho:=fun z n=>C7j z p.row p.regs h1 h2 h3 n
 obtain⟨l,m⟩:=l
 simp only [A9Q]at*
 generalize l.map zrw=rl at*
 generalize p.row=pr at*
 refine Pure.of 0 (A0.enter A7z Jo (Run.go 100 ?_))
 by_cases c1:m≤p.regs
 ·simp -implicitDefEqProofs only [go_sem,A3,h1,h2,h3,c1]
  refine(cl _ zh (fun x _ m=>ho x m) _).mono ?_
  rintro r h' n' ⟨rfl,rfl⟩
  exact ze
 ·simp -implicitDefEqProofs only [go_sem,A3,h1,h2,h3,c1]
theorem C4Y(i:Ins):(T5 i).1.length≤1000000:=by
 have h:=B7S (a:=0) (b:=4096) (C3M i) (fun x hx=>((C0s i).1 x hx).1) (fun x hx=>((C0s i).1 x hx).2)
 omega
theorem C2E(i:Ins):(S5 i).1.length≤1000000:=by
 have h:=B7S (a:=0) (b:=4096) (C1g i) (fun x hx=>((B7O i).1 x hx).1) (fun x hx=>((B7O i).1 x hx).2)
 omega
def B1Q(p:Fn)(i:Ins):Int:=
 if chk i≠0 then chk i
 else if A9Q p.regs (T5 i)=true∧A9Q p.regs (S5 i)=true∧(B5e i.op=true→0≤i.b∧i.b<p.code.length)∧B2z p i=true then 0 else 4
theorem C4B(p:Fn)(hp:p.bd)(i:Ins):Pure Tryz.prog 73 [.agg p.row,i.v] (.int .i64 (B1Q p i)):=by
 obtain⟨h1,h2⟩:=C9 p
 have hps:=Fn.row_sub I6 p
 have hc:=A6q i
 have hr:=C2i i
 have hw:=C1a i
 have hwr:=B3U p (T5 i) (C4Y i)
 have hww:=B3U p (S5 i) (C2E i)
 have ht:=C0T i
 have hf:=C0u p hp i
 have h5:p.row[5]? =some (.isl (p.code.map Ins.row)):=by rw [Fn.row_eq];rfl
 have k1:(p.code.map Ins.row).length=p.code.length:=List.length_map ..
 have f1:((T5 i).1.map zrw).map (fun r=>r.map (V.sub I6))=(T5 i).1.map zrw:=C7V _
 have f2:((S5 i).1.map zrw).map (fun r=>r.map (V.sub I6))=(S5 i).1.map zrw:=C7V _
 generalize hz:B1Q p i=z
 unfold B1Q at hz
 generalize (T5 i).1.map zrw=rr at*
 generalize (S5 i).1.map zrw=rw at*
 generalize (T5 i).2=r2 at*
 generalize (S5 i).2=w2 at*
 generalize A9Q p.regs (T5 i)=b1 at*
 generalize A9Q p.regs (S5 i)=b2 at*
 generalize B2z p i=b3 at*
 generalize chk i=ck at*
 generalize B5e i.op=jj at*
 generalize p.code.map Ins.row=rcode at*
 generalize p.row=pr at*
 obtain⟨op,a,b,c,d⟩:=i
 simp only [Ins.v,Ins.row]at*
 refine Pure.of 0 (A0.enter A1X Jo (Run.go 100 ?_))
 refine QF ?_
 refine A0.pureF hc ze ?_
 by_cases c0:ck=0
 case neg=>
  exact KK
 rw [if_neg (by simpa using c0)]at hz
 simp -implicitDefEqProofs only [go_sem,c0]
 refine A0.pureF hr ze ?_
 refine Qy ?_
 refine A0.pureF hw ze ?_
 refine QD ?_
 refine A0.pureF hwr (by simp -implicitDefEqProofs only [go_sem,hps,f1]) ?_
 cases b1
 ·exact XW
 refine QD ?_
 refine A0.pureF hww (by simp -implicitDefEqProofs only [go_sem,hps,f2]) ?_
 cases b2
 ·exact XW
 refine Qy ?_
 refine A0.pureF ht ze ?_
 cases jj
 ·refine QD ?_
  refine A0.pureF hf zl ?_
  cases b3
  ·exact XW
  ·obtain rfl:z=0:=hz ▸ if_pos zg
   exact ze
 ·by_cases d1:b<0
  ·obtain rfl:z=4:=hz ▸ if_neg (fun h=>by have:=(h.2.2.1 rfl).1;omega)
   simp -implicitDefEqProofs only [go_sem,d1,h1,h2,h5,k1]
  by_cases d2:b<(p.code.length:Int)
  ·simp -implicitDefEqProofs only [go_sem,d1,d2,h1,h2,h5,k1,ge_iff_le,Int.not_le.2 d2]
   refine A0.pureF hf zl ?_
   cases b3
   ·exact XW
   ·obtain rfl:z=0:=hz ▸ if_pos ⟨rfl,rfl,fun _=>⟨by omega,d2⟩,rfl⟩
    exact ze
  ·obtain rfl:z=4:=hz ▸ if_neg (fun h=>d2 (h.2.2.1 rfl).2)
   have d3:((p.code.length:Int)≤b)=True:=Jm
   simp -implicitDefEqProofs only [go_sem,d1,d2,d3,h1,h2,h5,k1]
def B7V(regs:Int)(n:Nat)(u:Upv):Bool:=if u.loc then decide (regs≤u.idx)else decide ((n:Int)≤u.idx)
def D5o(p q:Fn):Bool:=q.ups.any (B7V p.regs p.ups.length)
def C2q(p:Fn):Int:=
 if C1O p≠0 then C1O p else if B5b p≠0 then B5b p
 else if U5 (p.code.map (B1Q p))≠0 then U5 (p.code.map (B1Q p))
 else if p.protos.any (D5o p)=true then 4 else 0
theorem B8N{α:Type}{l:List α}{k:Nat}{x:α}{f:α→Int}(h: ∀y∈l.take k,f y=0)(hx:l[k]? =some x)(hf:f x=0): ∀y∈l.take (k+1),f y=0:=by
 rw [List.take_add_one,hx]
 intro y hy
 rcases List.mem_append.1 hy with hy|hy
 ·exact h y hy
 ·obtain rfl:y=x:=by simpa using hy
  exact hf
theorem B8m{α:Type}{l:List α}{k:Nat}{x:α}{f:α→Int}(h: ∀y∈l.take k,f y=0)(hx:l[k]? =some x)(hf:f x≠0):U5 (l.map f)=f x:=by
 obtain⟨hk,hkx⟩:=List.getElem?_eq_some_iff.1 hx
 have e:l=l.take k++x::l.drop (k+1):=by rw [←hkx,←List.drop_eq_getElem_cons hk,List.take_append_drop]
 rw [e,List.map_append,List.map_cons]
 refine B0L (fun y hy=> ?_) hf
 obtain⟨w,hw,rfl⟩:=List.mem_map.1 hy
 exact h w hw
theorem C0G(p:Fn)(hp:p.bd):Pure Tryz.prog 33 [.agg p.row] (.int .i64 (C2q p)):=by
 obtain⟨h1,h2⟩:=C9 p
 have hps:=Fn.row_sub I6 p
 have hb:=hp.self
 have hcz:=hb.code
 have hqz:=hb.protos
 have hli:=B9P p hp
 have hfo:=C4v p hp
 have hin:=C4B p hp
 have h4:p.row[4]? =some (.int .i64 p.regs):=by rw [Fn.row_eq];rfl
 have h5:p.row[5]? =some (.isl (p.code.map Ins.row)):=by rw [Fn.row_eq];rfl
 have h8:p.row[8]? =some (.isl (p.protos.map Fn.row)):=by rw [Fn.row_eq];rfl
 have h9:p.row[9]? =some (.isl (p.ups.map Upv.row)):=by rw [Fn.row_eq];rfl
 have k1:(p.code.map Ins.row).length=p.code.length:=List.length_map ..
 have k2:(p.protos.map Fn.row).length=p.protos.length:=List.length_map ..
 have k3:(p.ups.map Upv.row).length=p.ups.length:=List.length_map ..
 have zi:=eq_true (C1 Ins.row 5 (fun _=>rfl) p.code)
 have zq:=eq_true (C1 Fn.row 11 Fn.row_len p.protos)
 have ri: ∀(k:Nat) x,p.code[k]? =some x→(p.code.map Ins.row)[k]? =some (Ins.row x):=fun k x hk=>by rw [List.getElem?_map,hk];rfl
 have rq: ∀(k:Nat) x,p.protos[k]? =some x→(p.protos.map Fn.row)[k]? =some (Fn.row x):=fun k x hk=>by rw [List.getElem?_map,hk];rfl
 generalize hz:C2q p=z
 unfold C2q at hz
 generalize p.code.map Ins.row=rcode at*
 generalize p.protos.map Fn.row=rprotos at*
 generalize p.ups.map Upv.row=rups at*
 generalize p.row=pr at*
 refine Pure.of 0 (A0.enter A7y Jo (Run.go 100 ?_))
 refine QF ?_
 refine A0.pureF hli zl ?_
 by_cases c0:C1O p=0
 case neg=>
  exact KK
 rw [if_neg (by simpa using c0)]at hz
 simp -implicitDefEqProofs only [go_sem,c0,h1,h2]
 refine A0.pureF hfo zl ?_
 by_cases c1:B5b p=0
 case neg=>
  rw [if_pos c1]at hz
  subst hz
  simp -implicitDefEqProofs only [go_sem,c1]
 rw [if_neg (by simpa using c1)]at hz
 simp -implicitDefEqProofs only [go_sem,c1,h1,h2,h5,k1]
 refine Run.keep [25,24,23,1] ?_
 refine Run.rounds (fun(x:Nat×Nat)=>⟨[(25,.int .i64 x.1),(24,.int .i64 p.code.length),(23,.isl rcode),(1,.ptr (33*10000+1) 0 0 0)],[((33*10000+1),0,.rows 11 [pr])],x.2⟩) (fun x=>x.1≤p.code.length∧ ∀y∈p.code.take x.1,B1Q p y=0) (fun x=>p.code.length-x.1) (0,1) ze ⟨Nat.zero_le _,by simp⟩ ?_
 rintro⟨k,m⟩ ⟨hk,hno⟩ ih
 simp only at hk hno ih⊢
 refine Run.unf B0Z (Run.go 100 ?_)
 by_cases hlt:k<p.code.length
 ·have q0:((k:Int)<(p.code.length:Int))=True:=Jm
  have q1:((0:Int)≤(k:Int))=True:=Jm
  obtain⟨x,hx⟩: ∃x,p.code[k]? =some x:=⟨p.code[k],by simp [hlt]⟩
  have hxr:=ri k x hx
  have hix:=hin x
  have hzk:((k+1:Nat):Int)=(k:Int)+1:=by omega
  simp only [Ins.v,Ins.row]at hix
  simp -implicitDefEqProofs only [go_sem,q0,q1,k1,zi,h1,h2,hxr,Ins.row,hlt,Option.some.injEq,forall_eq']
  refine A0.pureF hix zl ?_
  by_cases hx2:B1Q p x=0
  ·simp -implicitDefEqProofs only [go_sem,hx2]
   refine⟨by omega,?_⟩
   exact ih _ (k+1,m+1) ⟨by simp only;omega,B8N hno hx hx2⟩ zj zk
  ·have hf:=B8m (f:=B1Q p) hno hx hx2
   rw [if_pos (by rw [hf];exact hx2),hf]at hz
   subst hz
   simp -implicitDefEqProofs only [go_sem,hx2]
 have e:k=p.code.length:=by omega
 subst e
 rw [List.take_length]at hno
 rw [if_neg (by rw [A6w (fun y hy=>by obtain⟨w,hw,rfl⟩:=List.mem_map.1 hy;exact hno w hw)];simp)]at hz
 clear ih hlt hk
 simp -implicitDefEqProofs only [go_sem,Int.lt_irrefl,h1,h2,h8,k2]
 refine Run.keep [39,38,37,1] ?_
 refine Run.rounds (fun(x:Nat×Nat)=>⟨[(39,.int .i64 x.1),(38,.int .i64 p.protos.length),(37,.isl rprotos),(1,.ptr (33*10000+1) 0 0 0)],[((33*10000+1),0,.rows 11 [pr])],x.2⟩) (fun x=>x.1≤p.protos.length∧(p.protos.take x.1).any (D5o p)=false) (fun x=>p.protos.length-x.1) (0,m) ze ⟨Nat.zero_le _,rfl⟩ ?_
 clear m hno
 rintro⟨k,m⟩ ⟨hk,hno⟩ ih
 simp only at hk hno ih⊢
 refine Run.unf B1a (Run.go 100 ?_)
 by_cases hlt:k<p.protos.length
 ·have q0:((k:Int)<(p.protos.length:Int))=True:=Jm
  have q1:((0:Int)≤(k:Int))=True:=Jm
  obtain⟨q,hx⟩: ∃x,p.protos[k]? =some x:=⟨p.protos[k],by simp [hlt]⟩
  have hxr:=rq k q hx
  have hzk:((k+1:Nat):Int)=(k:Int)+1:=by omega
  have hqb:=(hp.child (List.mem_of_getElem? hx)).self.ups
  obtain⟨g1,g2⟩:=C9 q
  have g9:q.row[9]? =some (.isl (q.ups.map Upv.row)):=by rw [Fn.row_eq];rfl
  have j3:(q.ups.map Upv.row).length=q.ups.length:=List.length_map ..
  have zu:=eq_true (C1 Upv.row 3 (fun _=>rfl) q.ups)
  have ru: ∀(k:Nat) x,q.ups[k]? =some x→(q.ups.map Upv.row)[k]? =some (Upv.row x):=fun k x hk=>by rw [List.getElem?_map,hk];rfl
  generalize q.ups.map Upv.row=qups at*
  generalize q.row=qr at*
  simp -implicitDefEqProofs only [go_sem,q0,q1,k2,zq,g1,g2,g9,j3,hxr,hlt,Option.some.injEq,forall_eq']
  refine Run.keep [46,45,44,39,38,37,1] ?_
  refine Run.rounds (fun(x:Nat×Nat)=>⟨[(46,.int .i64 x.1),(45,.int .i64 q.ups.length),(44,.isl qups),(39,.int .i64 k),(38,.int .i64 p.protos.length),(37,.isl rprotos),(1,.ptr (33*10000+1) 0 0 0)],[((33*10000+1),0,.rows 11 [pr])],x.2⟩) (fun x=>x.1≤q.ups.length∧(q.ups.take x.1).any (B7V p.regs p.ups.length)=false) (fun x=>q.ups.length-x.1) (0,m+1) ze ⟨Nat.zero_le _,rfl⟩ ?_
  rintro⟨j,m⟩ ⟨hj,hnj⟩ ihj
  simp only at hj hnj ihj⊢
  refine Run.unf B1b (Run.go 100 ?_)
  by_cases hltj:j<q.ups.length
  ·have q2:((j:Int)<(q.ups.length:Int))=True:=Jm
   have q3:((0:Int)≤(j:Int))=True:=Jm
   obtain⟨u,hu⟩: ∃x,q.ups[j]? =some x:=⟨q.ups[j],by simp [hltj]⟩
   have hur:=ru j u hu
   have hzj:((j+1:Nat):Int)=(j:Int)+1:=by omega
   obtain⟨un,ul,ui⟩:=u
   have bad:B7V p.regs p.ups.length ⟨un,ul,ui⟩=true→z=4:=fun hb=>hz ▸ if_pos (A6p hx (A6p hu hb))
   by_cases hbu:B7V p.regs p.ups.length ⟨un,ul,ui⟩=true
   ·obtain rfl:=bad hbu
    cases ul
    ·have d1:((p.ups.length:Int)≤ui)=True:=eq_true Qh
     exact Yx
    ·have d1:(p.regs≤ui)=True:=eq_true Qh
     exact Yx
   ·have hbu':B7V p.regs p.ups.length ⟨un,ul,ui⟩=false:=by simpa only [Bool.not_eq_true]using hbu
    cases ul
    ·have d1:((p.ups.length:Int)≤ui)=False:=eq_false Qh
     exact Xj
    ·have d1:(p.regs≤ui)=False:=eq_false Qh
     exact Xj
  have e:j=q.ups.length:=by omega
  subst e
  have l:=A2F hnj
  refine QK ?_
  refine⟨by omega,?_⟩
  exact ih _ (k+1,m) ⟨by simp only;omega,Y7 hno hx l⟩ zj zk
 have e:k=p.protos.length:=by omega
 subst e
 have l:=A2F hno
 obtain rfl:z=0:=hz ▸ if_neg (fun h=>by simp [l]at h)
 exact Qn
theorem Fn.depths_append: ∀(l:List Fn) (q:Fn),Fn.depths (l++ [q])=max (Fn.depths l) q.depth
 | [],q=>by simp [Fn.depths]
 |p::r,q=>by rw [List.cons_append,Fn.depths,Fn.depths,Fn.depths_append r q,Nat.max_assoc]
theorem Fn.depths_mem: ∀{l:List Fn} {q:Fn},q∈l→q.depth≤Fn.depths l
 | [],q,h=>by cases h
 |p::r,q,h=>by
  rw [Fn.depths]
  rcases List.mem_cons.1 h with rfl|h
  ·exact Nat.le_max_left ..
  ·exact Nat.le_trans (Fn.depths_mem h) (Nat.le_max_right ..)
theorem Fn.depths_take(l:List Fn)(k:Nat):Fn.depths (l.take k)≤Fn.depths l:=by
 induction l generalizing k with
 |nil=>simp
 |cons a r ih=>
  cases k with
  |zero=>simp [Fn.depths]
  |succ k=>rw [List.take_succ_cons,Fn.depths,Fn.depths];have:=ih k;omega
theorem Fn.depth_each(p:Fn):p.depth≤p.each.length:=by
 induction p using Fn.ind with
 | h p ih=>
  rw [Fn.depth_eq,Fn.each_eq,List.length_cons]
  have: ∀l:List Fn,(∀q∈l,q.depth≤q.each.length)→Fn.depths l≤(Fn.eachs l).length:=by
   intro l
   induction l with
   |nil=>intro _;exact Nat.le_refl _
   |cons a r ihr=>
    intro h
    have h1:=h a List.mem_cons_self
    have h2:=ihr fun q hq=>h q (List.mem_cons_of_mem _ hq)
    rw [Fn.depths,Fn.eachs,List.length_append]
    omega
  exact Nat.succ_le_succ (this _ ih)
theorem C1s(p:Fn)(hp:p.bd)(hd:p.depth≤1000000):Pure Tryz.prog 31 [.agg p.row] (.int .i64 p.depth):=by
 induction p using Fn.ind with
 | h p ih'=>
  have hde:=Fn.depth_eq p
  have ih: ∀q∈p.protos,Pure Tryz.prog 31 [.agg q.row] (.int .i64 q.depth):=fun q hq=>ih' q hq (hp.child hq) (by have:=Fn.depths_mem hq;omega)
  clear ih'
  obtain⟨h1,h2⟩:=C9 p
  have hqz:=hp.self.protos
  have h8:p.row[8]? =some (.isl (p.protos.map Fn.row)):=by rw [Fn.row_eq];rfl
  have k2:(p.protos.map Fn.row).length=p.protos.length:=List.length_map ..
  have zq:=eq_true (C1 Fn.row 11 Fn.row_len p.protos)
  have rq: ∀(k:Nat) x,p.protos[k]? =some x→(p.protos.map Fn.row)[k]? =some (Fn.row x):=fun k x hk=>by rw [List.getElem?_map,hk];rfl
  generalize p.protos.map Fn.row=rprotos at*
  generalize p.row=pr at*
  rw [hde]at hd⊢
  refine Pure.of 0 (A0.enter A8Y Jo (Run.go 100 ?_))
  simp -implicitDefEqProofs only [go_sem,A3,h1,h2,h8,k2]
  refine Run.keep [9,8,7,3,1] ?_
  refine Run.rounds (fun(x:Nat×Nat)=>⟨[(9,.int .i64 x.1),(8,.int .i64 p.protos.length),(7,.isl rprotos),(3,.int .i64 (Fn.depths (p.protos.take x.1))),(1,.ptr (31*10000+1) 0 0 0)],[((31*10000+1),0,.rows 11 [pr])],x.2⟩) (fun x=>x.1≤p.protos.length) (fun x=>p.protos.length-x.1) (0,1) (by simp -implicitDefEqProofs only [go_sem,List.take_zero,Fn.depths]) (Nat.zero_le _) ?_
  rintro⟨k,m⟩ hk ihl
  simp only at hk ihl⊢
  refine Run.unf B2u (Run.go 100 ?_)
  by_cases hlt:k<p.protos.length
  ·have q0:((k:Int)<(p.protos.length:Int))=True:=Jm
   have q1:((0:Int)≤(k:Int))=True:=Jm
   obtain⟨q,hx⟩: ∃x,p.protos[k]? =some x:=⟨p.protos[k],by simp [hlt]⟩
   have hxr:=rq k q hx
   have hzk:((k+1:Nat):Int)=(k:Int)+1:=by omega
   have hq:=ih q (List.mem_of_getElem? hx)
   have hqs:=Fn.row_sub I6 q
   obtain⟨g1,g2⟩:=C9 q
   have ht:p.protos.take (k+1)=p.protos.take k++ [q]:=by rw [List.take_add_one,hx];rfl
   have hm:Fn.depths (p.protos.take (k+1))=max (Fn.depths (p.protos.take k)) q.depth:=by rw [ht,Fn.depths_append]
   have hle:=Fn.depths_take p.protos (k+1)
   generalize hD:Fn.depths (p.protos.take (k+1))=D at*
   generalize Fn.depths (p.protos.take k)=d0 at*
   generalize q.row=qr at*
   simp -implicitDefEqProofs only [go_sem,q0,q1,k2,zq,g1,g2,hxr,hlt,Option.some.injEq,forall_eq']
   refine A0.pureF hq Qo ?_
   have hmax:(if (q.depth:Int)>(d0:Int)then(q.depth:Int)else(d0:Int))=(D:Int):=by split<;>omega
   simp -implicitDefEqProofs only [go_sem,hmax]
   refine⟨by omega,?_⟩
   exact ihl _ (k+1,m+1) zj zj (by simp -implicitDefEqProofs only [go_sem,hzk,hD])
  have e:k=p.protos.length:=by omega
  subst e
  rw [List.take_length]
  have hze:((Fn.depths p.protos+1:Nat):Int)=(Fn.depths p.protos:Int)+1:=by omega
  simp -implicitDefEqProofs only [go_sem,Int.lt_irrefl,hze]
  omega
def A1f(p:Fn):Int:=B4H p.depth (p.each.map C2q)
theorem A1W(p:Fn)(hp:p.bd)(hd:p.depth≤1000000):Pure Tryz.prog 14 [.agg p.row] (.int .i64 (A1f p)):=
 C6d p hp p.depth (C1s p hp hd) C2q fun q hq=>C0G q (hp.within hq)
end
section
open Go Go.Abs
theorem C6Y{p:Fn}(h:n64L p.row): ∀q∈p.each,n64L q.row:=by
 induction p using Fn.ind with
 | h p ih=>
  intro q hq
  rw [Fn.each_eq]at hq
  rcases List.mem_cons.1 hq with rfl|hq
  ·exact h
  ·obtain⟨r,hr,hq⟩:=Fn.mem_eachs.1 hq
   refine ih r hr ?_ q hq
   rw [Fn.row_eq]at h
   simp only [n64L,n64,A5s,List.mem_map,forall_exists_index,and_imp,forall_apply_eq_imp_iff₂]at h
   exact h.2.2.2.2.2.2.2.2.1 r hr
theorem A8j: ∀{l:List Int},U5 l=0→ ∀x∈l,x=0
 | [],_=>by simp
 | x::r,h=>by
  rw [U5]at h
  split at h
  ·rename_i h0
   intro y hy
   rcases List.mem_cons.1 hy with rfl|hy
   ·exact h0
   ·exact A8j h y hy
  ·rename_i h0;exact(h0 h).elim
theorem C9m{p:Fn}(h:C2q p=0)(hv:n64L p.row):p.Okl:=by
 rw [Fn.row_eq]at hv
 simp only [n64L,n64,A5s,List.mem_map,forall_exists_index,and_imp,forall_apply_eq_imp_iff₂]at hv
 obtain⟨_,v1,v2,_,v3,v4,v5,v6,v7,v8,v9,_⟩:=hv
 unfold C2q at h
 split at h
 ·omega
 split at h
 ·omega
 split at h
 ·omega
 rename_i h1 h2 h3
 simp only [ne_eq,Classical.not_not]at h1 h2 h3
 unfold C1O at h1
 split at h1
 ·rename_i hc
  obtain⟨a1,a2,a3,a4,a5,a6,a7,a8,a9⟩:=hc
  unfold B5b at h2
  split at h2
  ·rename_i hc
   obtain⟨b1,b2,b3,b4,b5,b6,b7,b8,b9,b10⟩:=hc
   rw [List.any_eq_false]at a8 a9 b7 b8 b9 b10
   refine⟨⟨v1,v2,v3⟩,a7,⟨a2,fun v hm=> ?_⟩,⟨a4,fun u hm=> ?_⟩,⟨a5,fun v hm=> ?_⟩,⟨a1,fun i hm=> ?_⟩,⟨b6,fun z hz=> ?_⟩,a3⟩
   ·have:=b9 v hm
    simp only [B1q,Bool.or_eq_true,Bool.not_eq_true',decide_eq_true_eq,not_or]at this
    exact⟨by simpa using this.2,by omega⟩
   ·have x1:=a8 u hm
    have x2:=v8 u hm
    simp only [Upv.row,n64L,n64]at x2
    exact⟨by simpa using x1,x2.2.2.1⟩
   ·have x1:=a9 v hm
    have x2:=v9 v hm
    have x3:=b10 v hm
    simp only [Vr.row,n64L,n64]at x2
    simp [A2G]at x3
    exact⟨by simpa using x1,x2.2.1,x2.2.2.1,x2.2.2.2.1,by omega,by omega⟩
   ·have:=A8j h3 _ (List.mem_map_of_mem hm)
    unfold B1Q at this
    split at this
    ·rename_i h5;exact absurd this h5
    ·rename_i h5;simpa using h5
   ·have:=v5 z hz
    simp only [E9,n64L,n64]at this
    exact this.1
  ·omega
 ·omega
theorem B3m{p:Fn}(h:A1f p=0)(hv:n64L p.row):p.depth≤64∧ ∀q∈p.each,q.Okl:=by
 unfold A1f B4H at h
 split at h
 ·omega
 exact⟨by omega,fun q hq=>C9m (A8j h _ (List.mem_map_of_mem hq)) (C6Y hv q hq)⟩
end
end Go.Proofs.YtflobbpcabopjaaGreatDoor
