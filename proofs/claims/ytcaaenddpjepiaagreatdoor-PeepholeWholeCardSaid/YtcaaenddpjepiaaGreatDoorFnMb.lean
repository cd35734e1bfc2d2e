/-
 The rest of proto.Check. No condition.
-/
import Derived.Test.YtcaaenddpjepiaaGreatDoorFnMa
import Derived.Test.YtcaaenddpjepiaaGreatDoorRwM
import Derived.Test.YtcaaenddpjepiaaGreatDoorFnM5
import Derived.Test.YtcaaenddpjepiaaGreatDoorFnCk
set_option linter.unusedVariables false
set_option linter.unusedSimpArgs false
set_option maxRecDepth 100000
set_option maxHeartbeats 0
namespace Go.Proofs.YtcaaenddpjepiaaGreatDoor
open Go.Abs
attribute [local irreducible] A0 Run V5
def G7(i:Ins):Int×Bool:=
 if i.op=2 then(i.b,false)else if i.op=7 then(i.b,true)else if i.op=8 then(i.a,true)else if i.op=11 then(i.c,true)else(-1,false)
theorem B7y(i:Ins):Pure Tryz.prog 168 [i.v] (.tup [.int .i64 (G7 i).1,.bool (G7 i).2]):=by
 obtain⟨o,a,b,c,d⟩:=i
 refine Pure.of 0 (A0.enter A6d Jk (Run.go 100 ?_))
 by_cases f:o=2
 ·subst f;simp -implicitDefEqProofs only [go_sem,A4,Ins.v,Ins.row,G7]
 by_cases g:o=7
 ·subst g;simp -implicitDefEqProofs only [go_sem,A4,Ins.v,Ins.row,G7]
 by_cases e:o=8
 ·subst e;simp -implicitDefEqProofs only [go_sem,A4,Ins.v,Ins.row,G7]
 by_cases k:o=11
 ·subst k;simp -implicitDefEqProofs only [go_sem,A4,Ins.v,Ins.row,G7]
 simp -implicitDefEqProofs only [go_sem,A4,Ins.v,Ins.row,G7,f,g,e,k]
def A8m(o:Option Kst):Bool:=match o with|some c=>decide (c.kind=3)|none=>false
def Z8(p:Fn)(i:Ins):Bool:=
 if (p.consts.length:Int)≤(G7 i).1 then false
 else if 0≤(G7 i).1∧(G7 i).2=true∧A8m p.consts[(G7 i).1.toNat]? =false then false
 else if i.op=5 then decide (i.b<p.ups.length)else if i.op=6 then decide (i.a<p.ups.length)else if i.op=22 then decide (i.b<p.protos.length)else if i.op=19 then p.vararg else true
theorem B6L{o:Int}{f e g x z:Bool}(h:(if o=5 then f else if o=6 then e else if o=22 then g else if o=19 then x else true)=z):
  (o=5→f=z)∧(¬o=5→(o=6→e=z)∧(¬o=6→(o=22→g=z)∧(¬o=22→(o=19→x=z)∧(¬o=19→true=z)))):=by
 subst h
 exact⟨fun h=>by rw [if_pos h],fun b=>⟨fun h=>by rw [if_neg b,if_pos h],fun c=>⟨fun h=>by rw [if_neg b,if_neg c,if_pos h],fun a=>⟨fun h=>by rw [if_neg b,if_neg c,if_neg a,if_pos h],fun d=>by rw [if_neg b,if_neg c,if_neg a,if_neg d]⟩⟩⟩⟩
theorem C2a(p:Fn)(S:p.bd)(i:Ins):Pure Tryz.prog 136 [.agg p.row,i.v] (.bool (Z8 p i)):=by
 obtain⟨n,m⟩:=B4 p
 have P:=S.self
 have G:=B7y i
 rw [Fn.row_eq]at n m⊢
 obtain⟨N,L,A,B,J,o,l,e,f,u,v⟩:=p
 have Q:e.length≤17592186043904:=by have:=P.consts;simp only at this;omega
 have s:(e.map Kst.row).length=e.length:=List.length_map ..
 have y:(f.map Fn.row).length=f.length:=List.length_map ..
 have C:(u.map Upv.row).length=u.length:=List.length_map ..
 have O:=eq_true (B3 Kst.row 5 (fun _=>rfl) e)
 have R: ∀(k:Nat) x,e[k]? =some x→(e.map Kst.row)[k]? =some (Kst.row x):=fun k x r=>by rw [List.getElem?_map,r];rfl
 generalize g:Z8 _ i=z
 simp only [Z8]at g
 simp only at*
 generalize o.map Ins.row=H at*
 generalize e.map Kst.row=t at*
 generalize f.map Fn.row=w at*
 generalize l.map D1=E at*
 generalize u.map Upv.row=K at*
 generalize v.map Vr.row=F at*
 generalize (G7 i).1=D at*
 generalize (G7 i).2=T at*
 obtain⟨U,a,b,c,d⟩:=i
 refine Pure.of 0 (A0.enter A9u Jk (Run.go 100 ?_))
 simp only [Ins.v,Ins.row]at*
 simp -implicitDefEqProofs only [go_sem,A4,n,m,s,y,C]
 refine A0.pureF G ze ?_
 by_cases j:(e.length:Int)≤D
 ·obtain rfl:z=false:=g ▸ if_pos j
  simp -implicitDefEqProofs only [go_sem,j,s,n,m]
 rw [if_neg j]at g
 by_cases q:0≤D
 ·cases T
  ·rw [if_neg (fun h=>by simp at h)]at g
   simp -implicitDefEqProofs only [go_sem,j,q,s,y,C,n,m]
   exact B6L g
  ·obtain⟨x,M⟩: ∃x,e[D.toNat]? =some x:=⟨e[D.toNat]' zd,by simp⟩
   have I:=R _ x M
   rw [M]at g
   simp -implicitDefEqProofs only [go_sem,j,q,s,y,C,n,m,O,I,Kst.row,Option.some.injEq,forall_eq']
   refine⟨by omega,by omega,fun r=> ?_,fun r=> ?_⟩
   ·rw [if_pos ⟨q,rfl,decide_eq_false r⟩]at g;exact g
   ·rw [if_neg (fun h=>by simp [A8m,r]at h)]at g;exact B6L g
 ·rw [if_neg (fun h=>q h.1)]at g
  simp -implicitDefEqProofs only [go_sem,j,q,s,y,C,n,m]
  exact B6L g
def V0(regs:Int)(l:List Int×Int):Bool:=decide (l.2≤regs)&& !l.1.any (fun r=>decide (regs≤r))
theorem C9p(z:Int)(p:List V)(a:Int)(b:p.length=11)(h2:p.take 11=p)(d:p[4]? =some (.int .i64 a))(n:Nat):A0 Tryz.prog 167 [.int .i64 z,.ptr (135*10000+3) 0 0 0] [((135*10000+3),0,.rows 11 [p])] n fun r h e=>r= .bool (decide (a≤z))∧h= [((135*10000+3),0,.rows 11 [p])]:=by
 refine A0.enterK A6i Jk fun Q c=>Run.go 100 ?_
 simp -implicitDefEqProofs only [go_sem,A4,b,h2,d]
 subst c
 exact XR
theorem B4S(p:Fn)(l:List Int×Int)(i:l.1.length≤1000000):Pure Tryz.prog 135 [.agg p.row,.isl (l.1.map zrw),.int .i64 l.2] (.bool (V0 p.regs l)):=by
 obtain⟨a,h⟩:=B4 p
 have b:p.row[4]? =some (.int .i64 p.regs):=by rw [Fn.row_eq];rfl
 have d:=A2w l.1 zd (fun r=>decide (p.regs≤r)) 167 [.ptr (135*10000+3) 0 0 0]
 rw [show l.1.map D1=l.1.map zrw from rfl]at d
 have e:=fun z n=>C9p z p.row p.regs a h b n
 obtain⟨l,m⟩:=l
 simp only [V0]at*
 generalize l.map zrw=f at*
 generalize p.row=k at*
 refine Pure.of 0 (A0.enter A9w Jk (Run.go 100 ?_))
 by_cases c:m≤p.regs
 ·simp -implicitDefEqProofs only [go_sem,A4,a,h,b,c]
  refine(d _ zj (fun x _ m=>e x m) _).mono ?_
  rintro r g j ⟨rfl,rfl⟩
  exact ze
 ·simp -implicitDefEqProofs only [go_sem,A4,a,h,b,c]
theorem B0K(i:Ins):(reads i).1.length≤1000000:=by
 have h:=A5R (a:=0) (b:=4096) (B0B i) (fun x c=>((A3Y i).1 x c).1) (fun x c=>((A3Y i).1 x c).2)
 omega
theorem A9c(i:Ins):(C6 i).1.length≤1000000:=by
 have h:=A5R (a:=0) (b:=4096) (B1p i) (fun x c=>((A2r i).1 x c).1) (fun x c=>((A2r i).1 x c).2)
 omega
def R4(p:Fn)(i:Ins):Int:=
 if chk i≠0 then chk i
 else if V0 p.regs (reads i)=true∧V0 p.regs (C6 i)=true∧(G9 i.op=true→0≤i.b∧i.b<p.code.length)∧Z8 p i=true then 0 else 4
theorem C6A(p:Fn)(H:p.bd)(i:Ins):Pure Tryz.prog 104 [.agg p.row,i.v] (.int .i64 (R4 p i)):=by
 obtain⟨j,g⟩:=B4 p
 have f:=Fn.row_sub C7 p
 have F:=A8c i
 have x:=B1Q i
 have E:=B0A i
 have t:=B4S p (reads i) (B0K i)
 have n:=B4S p (C6 i) (A9c i)
 have w:=A6l i
 have u:=C2a p H i
 have m:p.row[5]? =some (.isl (p.code.map Ins.row)):=by rw [Fn.row_eq];rfl
 have s:(p.code.map Ins.row).length=p.code.length:=List.length_map ..
 have G:((reads i).1.map zrw).map (fun r=>r.map (V.sub C7))=(reads i).1.map zrw:=B7k _
 have A:((C6 i).1.map zrw).map (fun r=>r.map (V.sub C7))=(C6 i).1.map zrw:=B7k _
 generalize e:R4 p i=z
 unfold R4 at e
 generalize (reads i).1.map zrw=L at*
 generalize (C6 i).1.map zrw=rw at*
 generalize (reads i).2=J at*
 generalize (C6 i).2=N at*
 generalize V0 p.regs (reads i)=I at*
 generalize V0 p.regs (C6 i)=D at*
 generalize Z8 p i=v at*
 generalize chk i=y at*
 generalize G9 i.op=B at*
 generalize p.code.map Ins.row=q at*
 generalize p.row=M at*
 obtain⟨K,a,b,c,d⟩:=i
 simp only [Ins.v,Ins.row]at*
 refine Pure.of 0 (A0.enter A3W Jk (Run.go 100 ?_))
 simp -implicitDefEqProofs only [go_sem,A4,j,g]
 refine A0.pureF F ze ?_
 by_cases l:y=0
 case neg=>
  rw [if_pos l]at e
  subst e
  exact zD
 rw [if_neg (by simpa using l)]at e
 simp -implicitDefEqProofs only [go_sem,l]
 refine A0.pureF x ze ?_
 refine QL ?_
 refine A0.pureF E ze ?_
 simp -implicitDefEqProofs only [go_sem,j,g]
 refine A0.pureF t (by simp -implicitDefEqProofs only [go_sem,f,G]) ?_
 cases I
 ·exact JM
 simp -implicitDefEqProofs only [go_sem,j,g]
 refine A0.pureF n (by simp -implicitDefEqProofs only [go_sem,f,A]) ?_
 cases D
 ·exact JM
 refine QL ?_
 refine A0.pureF w ze ?_
 cases B
 ·simp -implicitDefEqProofs only [go_sem,j,g]
  refine A0.pureF u (by simp -implicitDefEqProofs only [go_sem,f]) ?_
  cases v
  ·exact JM
  ·obtain rfl:z=0:=e ▸ if_pos zf
   exact ze
 ·by_cases o:b<0
  ·obtain rfl:z=4:=e ▸ if_neg (fun h=>by have:=(h.2.2.1 rfl).1;omega)
   simp -implicitDefEqProofs only [go_sem,o,j,g,m,s]
  by_cases k:b<(p.code.length:Int)
  ·simp -implicitDefEqProofs only [go_sem,o,k,j,g,m,s,ge_iff_le,Int.not_le.2 k]
   refine A0.pureF u (by simp -implicitDefEqProofs only [go_sem,f]) ?_
   cases v
   ·exact JM
   ·obtain rfl:z=0:=e ▸ if_pos ⟨rfl,rfl,fun _=>⟨by omega,k⟩,rfl⟩
    exact ze
  ·obtain rfl:z=4:=e ▸ if_neg (fun h=>k (h.2.2.1 rfl).2)
   have C:((p.code.length:Int)≤b)=True:=Ji
   simp -implicitDefEqProofs only [go_sem,o,k,C,j,g,m,s]
def A4V(regs:Int)(n:Nat)(u:Upv):Bool:=if u.loc then decide (regs≤u.idx)else decide ((n:Int)≤u.idx)
def B9l(p q:Fn):Bool:=q.ups.any (A4V p.regs p.ups.length)
def A3b(p:Fn):Int:=
 if A3Q p≠0 then A3Q p else if f8 p≠0 then f8 p
 else if J5 (p.code.map (R4 p))≠0 then J5 (p.code.map (R4 p))
 else if p.protos.any (B9l p)=true then 4 else 0
theorem A9a{α:Type}{l:List α}{k:Nat}{x:α}{f:α→Int}(h: ∀y∈l.take k,f y=0)(b:l[k]? =some x)(c:f x=0): ∀y∈l.take (k+1),f y=0:=by
 rw [List.take_add_one,b]
 intro y a
 rcases List.mem_append.1 a with a|a
 ·exact h y a
 ·obtain rfl:y=x:=by simpa using a
  exact c
theorem A8i{α:Type}{l:List α}{k:Nat}{x:α}{f:α→Int}(h: ∀y∈l.take k,f y=0)(d:l[k]? =some x)(c:f x≠0):J5 (l.map f)=f x:=by
 obtain⟨b,a⟩:=List.getElem?_eq_some_iff.1 d
 have e:l=l.take k++x::l.drop (k+1):=by rw [←a,←List.drop_eq_getElem_cons b,List.take_append_drop]
 rw [e,List.map_append,List.map_cons]
 refine B1w (fun y g=> ?_) c
 obtain⟨w,i,rfl⟩:=List.mem_map.1 g
 exact h w i
theorem C2B(p:Fn)(O:p.bd):Pure Tryz.prog 78 [.agg p.row] (.int .i64 (A3b p)):=by
 obtain⟨v,t⟩:=B4 p
 have C:=Fn.row_sub C7 p
 have R:=O.self
 have hcz:=R.code
 have hqz:=R.protos
 have hli:=C1w p O
 have hfo:=C6x p O
 have hin:=C6A p O
 have Y:p.row[4]? =some (.int .i64 p.regs):=by rw [Fn.row_eq];rfl
 have h5:p.row[5]? =some (.isl (p.code.map Ins.row)):=by rw [Fn.row_eq];rfl
 have h8:p.row[8]? =some (.isl (p.protos.map Fn.row)):=by rw [Fn.row_eq];rfl
 have U:p.row[9]? =some (.isl (p.ups.map Upv.row)):=by rw [Fn.row_eq];rfl
 have k1:(p.code.map Ins.row).length=p.code.length:=List.length_map ..
 have k2:(p.protos.map Fn.row).length=p.protos.length:=List.length_map ..
 have Q:(p.ups.map Upv.row).length=p.ups.length:=List.length_map ..
 have zi:=eq_true (B3 Ins.row 5 (fun _=>rfl) p.code)
 have zq:=eq_true (B3 Fn.row 11 Fn.row_len p.protos)
 have ri: ∀(k:Nat) x,p.code[k]? =some x→(p.code.map Ins.row)[k]? =some (Ins.row x):=fun k x n=>by rw [List.getElem?_map,n];rfl
 have rq: ∀(k:Nat) x,p.protos[k]? =some x→(p.protos.map Fn.row)[k]? =some (Fn.row x):=fun k x n=>by rw [List.getElem?_map,n];rfl
 generalize g:A3b p=z
 unfold A3b at g
 generalize p.code.map Ins.row=G at*
 generalize p.protos.map Fn.row=r at*
 generalize p.ups.map Upv.row=rups at*
 generalize p.row=pr at*
 refine Pure.of 0 (A0.enter A9v Jk (Run.go 100 ?_))
 simp -implicitDefEqProofs only [go_sem,A4,v,t]
 refine A0.pureF hli zt ?_
 by_cases T:A3Q p=0
 case neg=>
  rw [if_pos T]at g
  subst g
  exact zW
 rw [if_neg (by simpa using T)]at g
 simp -implicitDefEqProofs only [go_sem,T,v,t]
 refine A0.pureF hfo zt ?_
 by_cases V:f8 p=0
 case neg=>
  rw [if_pos V]at g
  subst g
  simp -implicitDefEqProofs only [go_sem,V]
 rw [if_neg (by simpa using V)]at g
 simp -implicitDefEqProofs only [go_sem,V,v,t,h5,k1]
 refine Run.keep [25,24,23,1] ?_
 refine Run.rounds (fun(x:Nat×Nat)=>⟨[(25,.int .i64 x.1),(24,.int .i64 p.code.length),(23,.isl G),(1,.ptr (78*10000+1) 0 0 0)],[((78*10000+1),0,.rows 11 [pr])],x.2⟩) (fun x=>x.1≤p.code.length∧ ∀y∈p.code.take x.1,R4 p y=0) (fun x=>p.code.length-x.1) (0,1) ze ⟨Nat.zero_le _,by simp⟩ ?_
 rintro⟨k,m⟩ ⟨n,a⟩ J
 simp only at n a J⊢
 refine Run.unf A5o (Run.go 100 ?_)
 by_cases c:k<p.code.length
 ·have q0:((k:Int)<(p.code.length:Int))=True:=Ji
  have q1:((0:Int)≤(k:Int))=True:=Ji
  obtain⟨x,B⟩: ∃x,p.code[k]? =some x:=⟨p.code[k],by simp [c]⟩
  have I:=ri k x B
  have M:=hin x
  have E:((k+1:Nat):Int)=(k:Int)+1:=by omega
  simp only [Ins.v,Ins.row]at M
  simp -implicitDefEqProofs only [go_sem,q0,q1,k1,zi,v,t,I,Ins.row,c,Option.some.injEq,forall_eq']
  refine A0.pureF M zt ?_
  by_cases i:R4 p x=0
  ·simp -implicitDefEqProofs only [go_sem,i]
   refine⟨by omega,?_⟩
   exact J _ (k+1,m+1) ⟨by simp only;omega,A9a a B i⟩ zg (by simp -implicitDefEqProofs only [go_sem,E])
  ·have hf:=A8i (f:=R4 p) a B i
   rw [if_pos (by rw [hf];exact i),hf]at g
   subst g
   simp -implicitDefEqProofs only [go_sem,i]
 have e:k=p.code.length:=by omega
 subst e
 rw [List.take_length]at a
 rw [if_neg (by rw [A2y (fun y hy=>by obtain⟨w,hw,rfl⟩:=List.mem_map.1 hy;exact a w hw)];simp)]at g
 clear J c n
 simp -implicitDefEqProofs only [go_sem,Int.lt_irrefl,v,t,h8,k2]
 refine Run.keep [39,38,37,1] ?_
 refine Run.rounds (fun(x:Nat×Nat)=>⟨[(39,.int .i64 x.1),(38,.int .i64 p.protos.length),(37,.isl r),(1,.ptr (78*10000+1) 0 0 0)],[((78*10000+1),0,.rows 11 [pr])],x.2⟩) (fun x=>x.1≤p.protos.length∧(p.protos.take x.1).any (B9l p)=false) (fun x=>p.protos.length-x.1) (0,m) ze ⟨Nat.zero_le _,rfl⟩ ?_
 clear m a
 rintro⟨k,m⟩ ⟨n,a⟩ J
 simp only at n a J⊢
 refine Run.unf A1B (Run.go 100 ?_)
 by_cases c:k<p.protos.length
 ·have q0:((k:Int)<(p.protos.length:Int))=True:=Ji
  have q1:((0:Int)≤(k:Int))=True:=Ji
  obtain⟨q,B⟩: ∃x,p.protos[k]? =some x:=⟨p.protos[k],by simp [c]⟩
  have I:=rq k q B
  have E:((k+1:Nat):Int)=(k:Int)+1:=by omega
  have hqb:=(O.child (List.mem_of_getElem? B)).self.ups
  obtain⟨g1,g2⟩:=B4 q
  have g9:q.row[9]? =some (.isl (q.ups.map Upv.row)):=by rw [Fn.row_eq];rfl
  have L:(q.ups.map Upv.row).length=q.ups.length:=List.length_map ..
  have S:=eq_true (B3 Upv.row 3 (fun _=>rfl) q.ups)
  have ru: ∀(k:Nat) x,q.ups[k]? =some x→(q.ups.map Upv.row)[k]? =some (Upv.row x):=fun k x n=>by rw [List.getElem?_map,n];rfl
  generalize q.ups.map Upv.row=P at*
  generalize q.row=qr at*
  simp -implicitDefEqProofs only [go_sem,q0,q1,k2,zq,g1,g2,g9,L,I,c,Option.some.injEq,forall_eq']
  refine Run.keep [46,45,44,39,38,37,1] ?_
  refine Run.rounds (fun(x:Nat×Nat)=>⟨[(46,.int .i64 x.1),(45,.int .i64 q.ups.length),(44,.isl P),(39,.int .i64 k),(38,.int .i64 p.protos.length),(37,.isl r),(1,.ptr (78*10000+1) 0 0 0)],[((78*10000+1),0,.rows 11 [pr])],x.2⟩) (fun x=>x.1≤q.ups.length∧(q.ups.take x.1).any (A4V p.regs p.ups.length)=false) (fun x=>q.ups.length-x.1) (0,m+1) ze ⟨Nat.zero_le _,rfl⟩ ?_
  rintro⟨j,m⟩ ⟨hj,o⟩ H
  simp only at hj o H⊢
  refine Run.unf Z6 (Run.go 100 ?_)
  by_cases b:j<q.ups.length
  ·have W:((j:Int)<(q.ups.length:Int))=True:=Ji
   have Z:((0:Int)≤(j:Int))=True:=Ji
   obtain⟨u,X⟩: ∃x,q.ups[j]? =some x:=⟨q.ups[j],by simp [b]⟩
   have s:=ru j u X
   have K:((j+1:Nat):Int)=(j:Int)+1:=by omega
   obtain⟨un,N,D⟩:=u
   have bad:A4V p.regs p.ups.length ⟨un,N,D⟩=true→z=4:=fun R=>g ▸ if_pos (K4 B (K4 X R))
   by_cases d:A4V p.regs p.ups.length ⟨un,N,D⟩=true
   ·obtain rfl:=bad d
    cases N
    ·have F:((p.ups.length:Int)≤D)=True:=eq_true Qm
     exact Yv
    ·have F:(p.regs≤D)=True:=eq_true Qm
     exact Yv
   ·have A:A4V p.regs p.ups.length ⟨un,N,D⟩=false:=by simpa only [Bool.not_eq_true]using d
    cases N
    ·have F:((p.ups.length:Int)≤D)=False:=eq_false Qm
     exact XA
    ·have F:(p.regs≤D)=False:=eq_false Qm
     exact XA
  have e:j=q.ups.length:=by omega
  subst e
  have l:=I4 o
  refine QN ?_
  refine⟨by omega,?_⟩
  exact J _ (k+1,m) ⟨by simp only;omega,E8 a B l⟩ zg (by simp -implicitDefEqProofs only [go_sem,E])
 have e:k=p.protos.length:=by omega
 subst e
 have l:=I4 a
 obtain rfl:z=0:=g ▸ if_neg (fun h=>by simp [l]at h)
 exact QB
theorem Fn.depths_append: ∀(l:List Fn) (q:Fn),Fn.depths (l++ [q])=max (Fn.depths l) q.depth
 | [],q=>by simp [Fn.depths]
 |p::r,q=>by rw [List.cons_append,Fn.depths,Fn.depths,Fn.depths_append r q,Nat.max_assoc]
theorem Fn.depths_mem: ∀{l:List Fn} {q:Fn},q∈l→q.depth≤Fn.depths l
 | [],q,h=>by cases h
 |p::r,q,h=>by
  rw [Fn.depths]
  rcases List.mem_cons.1 h with rfl|h
  ·exact Nat.le_max_left ..
  ·exact Nat.le_trans (Fn.depths_mem h) (Nat.le_max_right ..)
theorem Fn.depths_take(l:List Fn)(k:Nat):Fn.depths (l.take k)≤Fn.depths l:=by
 induction l generalizing k with
 |nil=>simp
 |cons a r i=>
  cases k with
  |zero=>simp [Fn.depths]
  |succ k=>rw [List.take_succ_cons,Fn.depths,Fn.depths];have:=i k;omega
theorem Fn.depth_each(p:Fn):p.depth≤p.each.length:=by
 induction p using Fn.ind with
 | h p c=>
  rw [Fn.depth_eq,Fn.each_eq,List.length_cons]
  have: ∀l:List Fn,(∀q∈l,q.depth≤q.each.length)→Fn.depths l≤(Fn.eachs l).length:=by
   intro l
   induction l with
   |nil=>intro _;exact Nat.le_refl _
   |cons a r i=>
    intro h
    have e:=h a List.mem_cons_self
    have d:=i fun q b=>h q (List.mem_cons_of_mem _ b)
    rw [Fn.depths,Fn.eachs,List.length_append]
    omega
  exact Nat.succ_le_succ (this _ c)
theorem C3i(p:Fn)(v:p.bd)(y:p.depth≤1000000):Pure Tryz.prog 76 [.agg p.row] (.int .i64 p.depth):=by
 induction p using Fn.ind with
 | h p c=>
  have f:=Fn.depth_eq p
  have N: ∀q∈p.protos,Pure Tryz.prog 76 [.agg q.row] (.int .i64 q.depth):=fun q b=>c q b (v.child b) (by have:=Fn.depths_mem b;omega)
  clear c
  obtain⟨I,G⟩:=B4 p
  have K:=v.self.protos
  have F:p.row[8]? =some (.isl (p.protos.map Fn.row)):=by rw [Fn.row_eq];rfl
  have u:(p.protos.map Fn.row).length=p.protos.length:=List.length_map ..
  have z:=eq_true (B3 Fn.row 11 Fn.row_len p.protos)
  have M: ∀(k:Nat) x,p.protos[k]? =some x→(p.protos.map Fn.row)[k]? =some (Fn.row x):=fun k x j=>by rw [List.getElem?_map,j];rfl
  generalize p.protos.map Fn.row=r at*
  generalize p.row=H at*
  rw [f]at y⊢
  refine Pure.of 0 (A0.enter B0m Jk (Run.go 100 ?_))
  simp -implicitDefEqProofs only [go_sem,A4,I,G,F,u]
  refine Run.keep [9,8,7,3,1] ?_
  refine Run.rounds (fun(x:Nat×Nat)=>⟨[(9,.int .i64 x.1),(8,.int .i64 p.protos.length),(7,.isl r),(3,.int .i64 (Fn.depths (p.protos.take x.1))),(1,.ptr (76*10000+1) 0 0 0)],[((76*10000+1),0,.rows 11 [H])],x.2⟩) (fun x=>x.1≤p.protos.length) (fun x=>p.protos.length-x.1) (0,1) (by simp -implicitDefEqProofs only [go_sem,List.take_zero,Fn.depths]) (Nat.zero_le _) ?_
  rintro⟨k,m⟩ j i
  simp only at j i⊢
  refine Run.unf A6e (Run.go 100 ?_)
  by_cases a:k<p.protos.length
  ·have J:((k:Int)<(p.protos.length:Int))=True:=Ji
   have A:((0:Int)≤(k:Int))=True:=Ji
   obtain⟨q,n⟩: ∃x,p.protos[k]? =some x:=⟨p.protos[k],by simp [a]⟩
   have s:=M k q n
   have l:((k+1:Nat):Int)=(k:Int)+1:=by omega
   have b:=N q (List.mem_of_getElem? n)
   have g:=Fn.row_sub C7 q
   obtain⟨C,L⟩:=B4 q
   have B:p.protos.take (k+1)=p.protos.take k++ [q]:=by rw [List.take_add_one,n];rfl
   have P:Fn.depths (p.protos.take (k+1))=max (Fn.depths (p.protos.take k)) q.depth:=by rw [B,Fn.depths_append]
   have w:=Fn.depths_take p.protos (k+1)
   generalize E:Fn.depths (p.protos.take (k+1))=D at*
   generalize Fn.depths (p.protos.take k)=t at*
   generalize q.row=O at*
   simp -implicitDefEqProofs only [go_sem,J,A,u,z,C,L,s,a,Option.some.injEq,forall_eq']
   refine A0.pureF b zn ?_
   have d:(if (q.depth:Int)>(t:Int)then(q.depth:Int)else(t:Int))=(D:Int):=by split<;>omega
   simp -implicitDefEqProofs only [go_sem,d]
   refine⟨by omega,?_⟩
   exact i _ (k+1,m+1) zg zg (by simp -implicitDefEqProofs only [go_sem,l,E])
  have e:k=p.protos.length:=by omega
  subst e
  rw [List.take_length]
  have o:((Fn.depths p.protos+1:Nat):Int)=(Fn.depths p.protos:Int)+1:=by omega
  simp -implicitDefEqProofs only [go_sem,Int.lt_irrefl,o]
  omega
def L5(p:Fn):Int:=B1r p.depth (p.each.map A3b)
theorem A5Z(p:Fn)(h:p.bd)(a:p.depth≤1000000):Pure Tryz.prog 56 [.agg p.row] (.int .i64 (L5 p)):=
 C7Y p h p.depth (C3i p h a) A3b fun q b=>C2B q (h.within b)
end Go.Proofs.YtcaaenddpjepiaaGreatDoor
