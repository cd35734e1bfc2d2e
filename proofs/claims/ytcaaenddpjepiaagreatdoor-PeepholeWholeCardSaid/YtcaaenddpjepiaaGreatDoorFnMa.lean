/-
 Parts of proto.Check. No condition.
-/
import Derived.Test.YtcaaenddpjepiaaGreatDoorFnCk
set_option linter.unusedVariables false
set_option linter.unusedSimpArgs false
set_option maxRecDepth 100000
set_option maxHeartbeats 0
namespace Go.Proofs.YtcaaenddpjepiaaGreatDoor
open Go.Abs
attribute [local irreducible] A0 Run V5
theorem E8{α:Type}{l:List α}{k:Nat}{x:α}{f:α→Bool}(h:(l.take k).any f=false)(a:l[k]? =some x)(b:f x=false):(l.take (k+1)).any f=false:=by
 rw [List.take_add_one,a];simp [h,b]
theorem K4{α:Type}{l:List α}{k:Nat}{x:α}{f:α→Bool}(h:l[k]? =some x)(a:f x=true):l.any f=true:=List.any_eq_true.2 ⟨x,List.mem_of_getElem? h,a⟩
theorem I4{α:Type}{l:List α}{f:α→Bool}(h:(l.take l.length).any f=false):l.any f=false:=by rwa [List.take_length]at h
theorem A9V(l:List Upv)(H:l.length≤17592186043904)(f:Upv→Bool)(g:FuncId)(cs:List V)(h:A2)(v:K8 Tryz.prog g=true)(B: ∀x∈l,∀n,A0 Tryz.prog g (.agg (Upv.row x)::cs) h n fun r c d=>r= .bool (f x)∧c=h)(n:Nat):
  A0 Tryz.prog 66 [.isl (l.map Upv.row),.fn g cs] h n fun r c d=>r= .bool (l.any f)∧c=h:=by
 have o: ∀n,A0 Tryz.prog 87 [.isl (l.map Upv.row),.fn g cs] h n fun r c d=>(∃z:Int,r= .int .i64 z∧decide (0≤z)=l.any f)∧c=h:=by
  intro n
  have u:(l.map Upv.row).length=l.length:=List.length_map ..
  have D:=eq_true (B3 Upv.row 3 (fun _=>rfl) l)
  have C: ∀(k:Nat) x,l[k]? =some x→(l.map Upv.row)[k]? =some (Upv.row x):=fun k x q=>by rw [List.getElem?_map,q];rfl
  generalize l.map Upv.row=A at*
  refine A0.enterK S8 Jk fun Q i=>Run.go 100 ?_
  simp -implicitDefEqProofs only [go_sem,A4,u]
  refine Run.roundsK (fun(x:Nat×Nat)=>⟨[(8,.int .i64 x.1),(7,.int .i64 l.length),(1,.fn g cs),(0,.isl A)],h,x.2⟩) (fun x=>x.1≤l.length∧(l.take x.1).any f=false) (fun x=>l.length-x.1) (0,n) (C1.wk ⟨F3.1 ze,fun _ h=>h,Nat.le_refl _⟩) ⟨Nat.zero_le _,rfl⟩ ?_
  rintro⟨k,m⟩ ⟨q,b⟩ w
  simp only at q b w⊢
  refine Run.unf O5 (Run.go 100 ?_)
  by_cases p:k<l.length
  ·have F:((k:Int)<(l.length:Int))=True:=Ji
   have y:((0:Int)≤(k:Int))=True:=Ji
   obtain⟨x,j⟩: ∃x,l[k]? =some x:=⟨l[k],by simp [p]⟩
   have t:=C k x j
   have E:=B x (List.mem_of_getElem? j)
   have s:((k+1:Nat):Int)=(k:Int)+1:=by omega
   simp -implicitDefEqProofs only [go_sem,F,y,u,D,t,Upv.row,v,Option.some.injEq,forall_eq']
   exact Jn
  ·exact JQ
 generalize l.map Upv.row=A at*
 refine A0.enterK O2 Jk fun Q i=>Run.go 100 ?_
 exact JT
theorem B4n(l:List Vr)(H:l.length≤17592186043904)(f:Vr→Bool)(g:FuncId)(cs:List V)(h:A2)(v:K8 Tryz.prog g=true)(B: ∀x∈l,∀n,A0 Tryz.prog g (.agg (Vr.row x)::cs) h n fun r c d=>r= .bool (f x)∧c=h)(n:Nat):
  A0 Tryz.prog 62 [.isl (l.map Vr.row),.fn g cs] h n fun r c d=>r= .bool (l.any f)∧c=h:=by
 have o: ∀n,A0 Tryz.prog 85 [.isl (l.map Vr.row),.fn g cs] h n fun r c d=>(∃z:Int,r= .int .i64 z∧decide (0≤z)=l.any f)∧c=h:=by
  intro n
  have u:(l.map Vr.row).length=l.length:=List.length_map ..
  have D:=eq_true (B3 Vr.row 5 (fun _=>rfl) l)
  have C: ∀(k:Nat) x,l[k]? =some x→(l.map Vr.row)[k]? =some (Vr.row x):=fun k x q=>by rw [List.getElem?_map,q];rfl
  generalize l.map Vr.row=A at*
  refine A0.enterK Q6 Jk fun Q i=>Run.go 100 ?_
  simp -implicitDefEqProofs only [go_sem,A4,u]
  refine Run.roundsK (fun(x:Nat×Nat)=>⟨[(8,.int .i64 x.1),(7,.int .i64 l.length),(1,.fn g cs),(0,.isl A)],h,x.2⟩) (fun x=>x.1≤l.length∧(l.take x.1).any f=false) (fun x=>l.length-x.1) (0,n) (C1.wk ⟨F3.1 ze,fun _ h=>h,Nat.le_refl _⟩) ⟨Nat.zero_le _,rfl⟩ ?_
  rintro⟨k,m⟩ ⟨q,b⟩ w
  simp only at q b w⊢
  refine Run.unf N3 (Run.go 100 ?_)
  by_cases p:k<l.length
  ·have F:((k:Int)<(l.length:Int))=True:=Ji
   have y:((0:Int)≤(k:Int))=True:=Ji
   obtain⟨x,j⟩: ∃x,l[k]? =some x:=⟨l[k],by simp [p]⟩
   have t:=C k x j
   have E:=B x (List.mem_of_getElem? j)
   have s:((k+1:Nat):Int)=(k:Int)+1:=by omega
   simp -implicitDefEqProofs only [go_sem,F,y,u,D,t,Vr.row,v,Option.some.injEq,forall_eq']
   exact Jn
  ·exact JQ
 generalize l.map Vr.row=A at*
 refine A0.enterK N1 Jk fun Q i=>Run.go 100 ?_
 exact JT
theorem A2w(l:List Int)(H:l.length≤17592186043904)(f:Int→Bool)(g:FuncId)(cs:List V)(h:A2)(v:K8 Tryz.prog g=true)(B: ∀x∈l,∀n,A0 Tryz.prog g (.int .i64 x::cs) h n fun r c d=>r= .bool (f x)∧c=h)(n:Nat):
  A0 Tryz.prog 131 [.isl (l.map D1),.fn g cs] h n fun r c d=>r= .bool (l.any f)∧c=h:=by
 have o: ∀n,A0 Tryz.prog 165 [.isl (l.map D1),.fn g cs] h n fun r c d=>(∃z:Int,r= .int .i64 z∧decide (0≤z)=l.any f)∧c=h:=by
  intro n
  have u:(l.map D1).length=l.length:=List.length_map ..
  have D:=eq_true (B3 D1 1 (fun _=>rfl) l)
  have C: ∀(k:Nat) x,l[k]? =some x→(l.map D1)[k]? =some (D1 x):=fun k x q=>by rw [List.getElem?_map,q];rfl
  generalize l.map D1=A at*
  refine A0.enterK P7 Jk fun Q i=>Run.go 100 ?_
  simp -implicitDefEqProofs only [go_sem,A4,u]
  refine Run.roundsK (fun(x:Nat×Nat)=>⟨[(8,.int .i64 x.1),(7,.int .i64 l.length),(1,.fn g cs),(0,.isl A)],h,x.2⟩) (fun x=>x.1≤l.length∧(l.take x.1).any f=false) (fun x=>l.length-x.1) (0,n) (C1.wk ⟨F3.1 ze,fun _ h=>h,Nat.le_refl _⟩) ⟨Nat.zero_le _,rfl⟩ ?_
  rintro⟨k,m⟩ ⟨q,b⟩ w
  simp only at q b w⊢
  refine Run.unf L9 (Run.go 100 ?_)
  by_cases p:k<l.length
  ·have F:((k:Int)<(l.length:Int))=True:=Ji
   have y:((0:Int)≤(k:Int))=True:=Ji
   obtain⟨x,j⟩: ∃x,l[k]? =some x:=⟨l[k],by simp [p]⟩
   have t:=C k x j
   have E:=B x (List.mem_of_getElem? j)
   have s:((k+1:Nat):Int)=(k:Int)+1:=by omega
   simp -implicitDefEqProofs only [go_sem,F,y,u,D,t,D1,v,Option.some.injEq,forall_eq']
   exact Jn
  ·exact JQ
 generalize l.map D1=A at*
 refine A0.enterK Y1 Jk fun Q i=>Run.go 100 ?_
 exact JT
theorem C8C(a b:Nat):Pure Tryz.prog 186 [.int .i64 a,.int .i64 b] (.int .i64 (Nat.gcd a b)):=by
 refine Pure.of 0 (A0.enter A9x Jk (Run.go 100 ?_))
 refine QM ?_
 refine Run.rounds (fun(x:Nat×Nat)=>⟨[(1,.int .i64 x.2),(0,.int .i64 x.1)],[],0⟩) (fun x=>Nat.gcd x.1 x.2=Nat.gcd a b) (fun x=>x.2) (a,b) ze rfl ?_
 rintro⟨x,y⟩ h i
 simp only at h i⊢
 refine Run.unf A5p (Run.go 100 ?_)
 exact JU
def n9(p q:Int):Bool:=decide (1≤q)&&(decide (q≤2147483647)&&(decide (-2147483647≤p)&&(decide (p≤2147483647)&&decide (Int.gcd p q=1))))
theorem C7K(p q:Int):Pure Tryz.prog 166 [.agg [.int .i64 p,.int .i64 q]] (.bool (n9 p q)):=by
 refine Pure.of 0 (A0.enter A6j Jk (Run.go 100 ?_))
 by_cases a:1≤q
 case neg=>
  have:n9 p q=false:=by simp [n9,a]
  simp -implicitDefEqProofs only [go_sem,A4,a,this]
 by_cases b:q≤2147483647
 case neg=>
  have:n9 p q=false:=by simp [n9,b]
  simp -implicitDefEqProofs only [go_sem,A4,a,b,this]
 by_cases c: -2147483647≤p
 case neg=>
  have:n9 p q=false:=by simp [n9,c]
  simp -implicitDefEqProofs only [go_sem,A4,a,b,c,this]
 by_cases e:p≤2147483647
 case neg=>
  have:n9 p q=false:=by simp [n9,e]
  simp -implicitDefEqProofs only [go_sem,A4,a,b,c,e,this]
 have h:n9 p q=decide (Int.gcd p q=1):=by simp [n9,a,b,c,e]
 have d:=C8C p.natAbs q.natAbs
 have k:((q.natAbs:Nat):Int)=q:=by omega
 have g:Nat.gcd p.natAbs q.natAbs=Int.gcd p q:=rfl
 rw [k,g]at d
 have j:(((p.gcd q:Nat):Int)=1)=(p.gcd q=1):=propext zd
 by_cases i:p<0-p
 ·have f:((p.natAbs:Nat):Int)=0-p:=by omega
  exact XJ
 ·have f:((p.natAbs:Nat):Int)=p:=by omega
  exact XJ
def A0w(v:Kst):Bool:=
 if v.kind=0 then decide (v.p=0)&&(decide (v.q=0)&&(decide (v.str= [])&&decide (v.ref=0)))
 else if v.kind=1 then(decide (v.ref=0)||decide (v.ref=1))&&(decide (v.p=0)&&(decide (v.q=0)&&decide (v.str= [])))
 else if v.kind=2 then n9 v.p v.q&&(decide (v.str= [])&&decide (v.ref=0))
 else decide (v.kind=3)&&(decide (v.str.length≤4096)&&(decide (v.p=0)&&(decide (v.q=0)&&decide (v.ref=0))))
theorem B7p(v:Kst)(h:v.kind≤3):Pure Tryz.prog 134 [.agg v.row] (.bool (A0w v)):=by
 obtain⟨k,p,q,s,a⟩:=v
 simp only at h
 have i:=C7K p q
 refine Pure.of 0 (A0.enter B0y Jk (Run.go 100 ?_))
 by_cases f:k=0
 ·subst f
  refine QR ?_
  simp only [Bool.and_assoc]
 by_cases c:k=1
 ·subst c
  refine QR ?_
  by_cases b:a=0<;>by_cases r:a=1<;>simp [b,r,Bool.and_assoc]
 by_cases d:k=2
 ·subst d
  refine QR ?_
  refine A0.pureF i ze ?_
  refine QL ?_
  cases n9 p q<;>simp [Bool.and_assoc]
 by_cases e:k=3
 ·subst e
  refine QR ?_
  by_cases b:(s.length:Int)≤4096
  ·have r:s.length≤4096:=by omega
   simp [b,r,Bool.and_assoc]
  ·have r: ¬s.length≤4096:=by omega
   simp [b,r]
 have m:(k=4)=False:=Jj
 have j:(k=5)=False:=Jj
 have g:(k=6)=False:=Jj
 have n:(k=7)=False:=Jj
 have l:(k=8)=False:=Jj
 simp -implicitDefEqProofs only [go_sem,A4,Kst.row,A0w,f,c,d,e,m,j,g,n,l]
theorem B8A(s:List UInt8)(h:A2)(n:Nat):A0 Tryz.prog 128 [.str s] h n fun r a c=>r= .bool (decide (40<s.length))∧a=h:=by
 refine A0.enterK A6f Jk fun Q b=>Run.go 100 ?_
 have e:((40:Int)<(s.length:Int))=(40<s.length):=propext zd
 simp -implicitDefEqProofs only [go_sem,A4,e]
 subst b
 exact XR
theorem D0W(u:Upv)(B:Blk)(n:Nat):A0 Tryz.prog 129 [.agg (Upv.row u),.ptr (102*10000+3) 1 0 0] [((102*10000+3),1,.rows 1 [[.fn 128 []]]),((102*10000+1),0,B)] n fun r h a=>r= .bool (decide (40<u.name.length))∧h= [((102*10000+3),1,.rows 1 [[.fn 128 []]]),((102*10000+1),0,B)]:=by
 refine A0.enterK A6g Jk fun Q b=>Run.go 100 ?_
 simp -implicitDefEqProofs only [go_sem,A4,Upv.row]
 exact Xn
theorem D0X(v:Vr)(B:Blk)(n:Nat):A0 Tryz.prog 130 [.agg (Vr.row v),.ptr (102*10000+3) 1 0 0] [((102*10000+3),1,.rows 1 [[.fn 128 []]]),((102*10000+1),0,B)] n fun r h a=>r= .bool (decide (40<v.name.length))∧h= [((102*10000+3),1,.rows 1 [[.fn 128 []]]),((102*10000+1),0,B)]:=by
 refine A0.enterK A6h Jk fun Q b=>Run.go 100 ?_
 simp -implicitDefEqProofs only [go_sem,A4,Vr.row]
 exact Xn
def A3Q(p:Fn):Int:=
 if p.code.length≤16384∧p.consts.length≤4096∧p.protos.length≤1024∧p.ups.length≤60∧p.vars.length≤16384∧p.regs≤4096∧p.name.length≤4096∧p.ups.any (fun u=>decide (40<u.name.length))=false∧p.vars.any (fun v=>decide (40<v.name.length))=false then 0 else 3
theorem C1w(p:Fn)(hp:p.bd):Pure Tryz.prog 102 [.agg p.row] (.int .i64 (A3Q p)):=by
 obtain⟨j,i⟩:=B4 p
 have O:=hp.self
 rw [Fn.row_eq]at j i⊢
 obtain⟨n,P,E,F,e,d,K,c,a,b,v⟩:=p
 have t:(d.map Ins.row).length=d.length:=List.length_map ..
 have o:(c.map Kst.row).length=c.length:=List.length_map ..
 have k:(a.map Fn.row).length=a.length:=List.length_map ..
 have q:(b.map Upv.row).length=b.length:=List.length_map ..
 have l:(v.map Vr.row).length=v.length:=List.length_map ..
 have Y:b.length≤17592186043904:=by have:=O.ups;simp only at this;omega
 have X:v.length≤17592186043904:=by have:=O.vars;simp only at this;omega
 have Z:=A9V b Y (fun u=>decide (40<u.name.length)) 129 [.ptr (102*10000+3) 1 0 0]
 have V:=B4n v X (fun u=>decide (40<u.name.length)) 130 [.ptr (102*10000+3) 1 0 0]
 generalize f:A3Q _=z
 simp only [A3Q]at f
 simp only at*
 generalize d.map Ins.row=J at*
 generalize c.map Kst.row=B at*
 generalize a.map Fn.row=D at*
 generalize b.map Upv.row=N at*
 generalize v.map Vr.row=I at*
 refine Pure.of 0 (A0.enter A9t Jk (Run.go 100 ?_))
 by_cases U:d.length≤16384
 case neg=>
  obtain rfl:z=3:=f ▸ if_neg (fun h=>U h.1)
  have g:((16384:Int)<(d.length:Int))=True:=Ji
  simp -implicitDefEqProofs only [go_sem,A4,j,i,t,o,k,q,l,g]
 have g:((16384:Int)<(d.length:Int))=False:=Jj
 by_cases L:c.length≤4096
 case neg=>
  obtain rfl:z=3:=f ▸ if_neg (fun h=>L h.2.1)
  have s:((4096:Int)<(c.length:Int))=True:=Ji
  simp -implicitDefEqProofs only [go_sem,A4,j,i,t,o,k,q,l,g,s]
 have s:((4096:Int)<(c.length:Int))=False:=Jj
 by_cases T:a.length≤1024
 case neg=>
  obtain rfl:z=3:=f ▸ if_neg (fun h=>T h.2.2.1)
  have w:((1024:Int)<(a.length:Int))=True:=Ji
  simp -implicitDefEqProofs only [go_sem,A4,j,i,t,o,k,q,l,g,s,w]
 have w:((1024:Int)<(a.length:Int))=False:=Jj
 by_cases S:b.length≤60
 case neg=>
  obtain rfl:z=3:=f ▸ if_neg (fun h=>S h.2.2.2.1)
  have A:((60:Int)<(b.length:Int))=True:=Ji
  simp -implicitDefEqProofs only [go_sem,A4,j,i,t,o,k,q,l,g,s,w,A]
 have A:((60:Int)<(b.length:Int))=False:=Jj
 by_cases M:v.length≤16384
 case neg=>
  obtain rfl:z=3:=f ▸ if_neg (fun h=>M h.2.2.2.2.1)
  have C:((16384:Int)<(v.length:Int))=True:=Ji
  simp -implicitDefEqProofs only [go_sem,A4,j,i,t,o,k,q,l,g,s,w,A,C]
 have C:((16384:Int)<(v.length:Int))=False:=Jj
 by_cases Q:e≤4096
 case neg=>
  obtain rfl:z=3:=f ▸ if_neg (fun h=>Q h.2.2.2.2.2.1)
  have G:((4096:Int)<e)=True:=Ji
  simp -implicitDefEqProofs only [go_sem,A4,j,i,t,o,k,q,l,g,s,w,A,C,G]
 have G:((4096:Int)<e)=False:=Jj
 by_cases R:n.length≤4096
 case neg=>
  obtain rfl:z=3:=f ▸ if_neg (fun h=>R h.2.2.2.2.2.2.1)
  have H:((4096:Int)<(n.length:Int))=True:=Ji
  simp -implicitDefEqProofs only [go_sem,A4,j,i,t,o,k,q,l,g,s,w,A,C,G,H]
 have H:((4096:Int)<(n.length:Int))=False:=Jj
 simp -implicitDefEqProofs only [go_sem,A4,j,i,g,s,w,A,C,G,H,t,o,k,q,l]
 refine(Z _ zj (fun u _ m=>D0W u _ m) _).mono ?_
 rintro r h' W ⟨rfl,rfl⟩
 by_cases y:b.any (fun u=>decide (40<u.name.length))=true
 ·obtain rfl:z=3:=f ▸ if_neg (fun h=>by simp [y]at h)
  exact Qz
 have y:b.any (fun u=>decide (40<u.name.length))=false:=by simpa only [Bool.not_eq_true]using y
 simp -implicitDefEqProofs only [go_sem,y]
 refine(V _ zj (fun u _ m=>D0X u _ m) _).mono ?_
 rintro r h' W ⟨rfl,rfl⟩
 by_cases x:v.any (fun u=>decide (40<u.name.length))=true
 ·obtain rfl:z=3:=f ▸ if_neg (fun h=>by simp [x]at h)
  simp -implicitDefEqProofs only [go_sem,x]
 have x:v.any (fun u=>decide (40<u.name.length))=false:=by simpa only [Bool.not_eq_true]using x
 obtain rfl:z=0:=f ▸ if_pos ⟨U,L,T,S,M,Q,R,y,x⟩
 simp -implicitDefEqProofs only [go_sem,x]
end Go.Proofs.YtcaaenddpjepiaaGreatDoor
