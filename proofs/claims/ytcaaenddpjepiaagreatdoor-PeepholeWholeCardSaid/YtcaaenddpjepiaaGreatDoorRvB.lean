/-
 What the reference's 'Reads' and 'Writes' answer. No condition.
-/
import Derived.Test.YtcaaenddpjepiaaGreatDoorRvA
import Derived.Test.YtcaaenddpjepiaaGreatDoorVerP1
import Derived.Test.YtcaaenddpjepiaaGreatDoorFlowL
import Derived.Test.YtcaaenddpjepiaaGreatDoorVerP2
set_option linter.unusedVariables false
set_option linter.unusedSimpArgs false
set_option maxRecDepth 100000
set_option maxHeartbeats 0
namespace Go.Proofs.YtcaaenddpjepiaaGreatDoor
section
open Go.Abs
attribute [local irreducible] A0 Run
-- EV: Ins.v, Ins.row
attribute [local go_sem] Ins.v Ins.row
@[reducible] noncomputable def C2b (Q:Res):Cf:=⟨Tryz.prog,93,[.c 4 3 true],Z2 Q,none⟩
def B2X(i:Ins)(N:Nat)(f:Nat→Bool)(o:Int)(m:List Int)(a3 a4 a5 st st2 n:Nat):St:=
 ⟨[(5,.ptr (160*10000+5) a5 0 0),(4,.ptr (160*10000+4) a4 0 0),(3,.ptr (160*10000+3) a3 0 0)],
  [((160*10000+5),a5,.rows 3 [[.sl (181*10000+3) st 0 N,.int .i64 o,.sl (181*10000+9) st2 0 m.length]]),((181*10000+3),st,.rows 1 (B0 N f)),((181*10000+9),st2,.rows 1 (m.map zrw)),((160*10000+4),a4,.rows 3 [[.nils,.int .i64 0,.nils]]),((160*10000+3),a3,.rows 5 [i.row])],n⟩
theorem C0a(N:Nat)(i:Ins)(f:Nat→Bool)(o:Int)(m:List Int)(v:Fit N i)(q:N≤100000)(x:m.length≤1000000)(n:Nat)(R:AC)(Q:Res)
  (k: ∀u w t a s n,Run (C2b Q) [.code R] (B2X i N (B0U i f) (-1) m u w t a s n)):
  Run (C2b Q) [.code (.seq (A6Q D3) (.seq (A6Q (E0 D3)) (.seq (A6Q (E0 (E0 D3))) (.seq (A6Q (E0 (E0 (E0 D3)))) (.seq (A6Q (E0 (E0 (E0 (E0 D3))))) R)))))]
   ⟨A4 0 [.agg [.isl (B0 N f),.int .i64 o,.isl (m.map zrw)],i.v],[],n⟩:=by
 obtain⟨G,A,B,y,z,C,D,F,E,H⟩:=A4g v.ok
 have h:=fun n=>B9Y N f o m q x n
 by_cases c:i.op=16
 ·have g:B0U i f=fun r=>f r&&decide ((r:Int)<i.a):=if_pos c
  rw [g]at k
  refine Run.go 16 ?_
  simp -implicitDefEqProofs only [go_sem,A4,A6Q,E0,c]
  refine A0.at [] [0,1,2] (h _) rfl rfl ?_
  rintro r j d e ⟨a,s,rfl,rfl⟩
  refine QO ?_
  refine A0.at [1] [0,2,3,4] (B0o N f _ _ i.a zd zd zd a _) rfl rfl ?_
  rintro r j l p rfl
  refine QO ?_
  refine Run.wk (C1.wk ?_) (k (n+1) (n+1+1) d a s l)
  simp -implicitDefEqProofs only [go_sem,B2X,c]
 by_cases b:i.op=25
 ·have g:B0U i f=fun r=>f r&&decide ((r:Int)<i.a+3):=by rw [B0U,if_neg c,if_pos b]
  rw [g]at k
  refine Run.go 16 ?_
  simp -implicitDefEqProofs only [go_sem,A4,A6Q,E0,b]
  refine A0.at [] [0,1,2] (h _) rfl rfl ?_
  rintro r j d e ⟨a,s,rfl,rfl⟩
  simp -implicitDefEqProofs only [go_sem,b]
  refine⟨by omega,?_⟩
  refine A0.at [1] [0,2,3,4] (B0o N f _ _ (i.a+3) zd zd zd a _) rfl rfl ?_
  rintro r j l p rfl
  simp -implicitDefEqProofs only [go_sem,b]
  refine Run.wk (C1.wk ?_) (k (n+1) (n+1+1) d a s l)
  simp -implicitDefEqProofs only [go_sem,B2X,b]
 have g:B0U i f=f:=by rw [B0U,if_neg c,if_neg b]
 rw [g]at k
 refine Run.go 16 ?_
 simp -implicitDefEqProofs only [go_sem,A4,A6Q,E0,c,b]
 refine A0.at [] [0,1,2] (h _) rfl rfl ?_
 rintro r j d e ⟨a,s,rfl,rfl⟩
 simp -implicitDefEqProofs only [go_sem,c,b]
 refine Run.wk (C1.wk ?_) (k (n+1) (n+1+1) d a s (d+1))
 simp -implicitDefEqProofs only [go_sem,B2X]
theorem C2c(N:Nat)(i:Ins)(f:Nat→Bool)(m:List Int)(Y:Fit N i)(hN:N≤100000)(R:AC)(Q:Res)
  (g: ∀l p j st st2 n,Run (C2b Q) [.code R] (B2X i N (B1v N (C6 i) f) (C6 i).2 m l p j st st2 n)) (l p j st st2 n:Nat):
  Run (C2b Q) [.code (.seq (A6Q (E0 (E0 (E0 (E0 (E0 D3)))))) (.seq (A6Q (E0 (E0 (E0 (E0 (E0 (E0 D3))))))) (.seq (A6Q (E0 (E0 (E0 (E0 (E0 (E0 (E0 D3)))))))) R)))]
   (B2X i N f (-1) m l p j st st2 n):=by
 have K:=A8w i
 obtain⟨V,q,H⟩:=Y
 have E:=A2r i
 have D:(C6 i).1.length≤1000000:=A9c i
 unfold B2X at g⊢
 generalize m.map zrw=M at*
 generalize C6 i=w at*
 obtain⟨a,d⟩:=w
 simp only at q H E D g
 have A:(a.map zrw).length=a.length:=List.length_map ..
 have Z:=H1 a
 have U: ∀(k:Nat) x,a[k]? =some x→(a.map zrw)[k]? =some [.int .i64 x]:=fun k x L=>P9 L
 generalize a.map zrw=W at*
 simp only [Ins.v,Ins.row]at K
 refine Run.go 14 ?_
 simp -implicitDefEqProofs only [go_sem,A6Q,E0]
 refine A0.pureF K ze ?_
 simp -implicitDefEqProofs only [go_sem,A]
 refine Run.keep [8,7,6,5,4,3] ?_
 refine Run.rounds (fun(k:Nat)=>⟨[(8,.int .i64 k),(7,.int .i64 d),(6,.isl W),(5,.ptr (160*10000+5) j 0 0),(4,.ptr (160*10000+4) p 0 0),(3,.ptr (160*10000+3) l 0 0)],
   [((160*10000+5),j,.rows 3 [[.sl (181*10000+3) st 0 N,.int .i64 (-1),.sl (181*10000+9) st2 0 m.length]]),((181*10000+3),st,.rows 1 (B0 N fun r=>f r||(a.take k).contains (r:Int))),((181*10000+9),st2,.rows 1 M),((160*10000+4),p,.rows 3 [[.nils,.int .i64 0,.nils]]),((160*10000+3),l,.rows 5 [i.row])],n⟩)
  (fun k=>k≤a.length) (fun k=>a.length-k) 0 ?_ (Nat.zero_le _) ?_
 ·refine QL ?_
  exact E3 fun r z=>by simp
 intro k L ih
 refine Run.unf P4 ?_
 have v:=D6 N fun r=>f r||(a.take k).contains (r:Int)
 have B:=H8 N fun r=>f r||(a.take k).contains (r:Int)
 by_cases t:k<a.length
 ·have q0:((k:Int)<(a.length:Int))=True:=Ji
  have T:((0:Int)≤(k:Int))=True:=Ji
  obtain⟨x,G⟩: ∃x,a[k]? =some x:=⟨a[k],by simp [t]⟩
  have I:=U k x G
  have hxb:=q x (List.mem_of_getElem? G)
  obtain⟨X,rfl⟩: ∃X:Nat,x=X:=⟨x.toNat,by omega⟩
  have u:X<N:=by omega
  have q2:((0:Int)≤(X:Int))=True:=Ji
  have q3:((X:Int)<(N:Int))=True:=Ji
  have C:=H7 (f:=fun r=>f r||(a.take k).contains (r:Int)) u
  have s:=U0 (N:=N) (r:=X) (b:=true) (f:=fun r=>f r||(a.take k).contains (r:Int)) (fun r=>f r||(a.take (k+1)).contains (r:Int)) (fun y hy=>by
   rw [List.take_add_one,G]
   by_cases c:y=X
   ·subst c;simp
   ·have: ¬(y:Int)=(X:Int):=by omega
    rw [if_neg c];simp [this])
  have F:((k+1:Nat):Int)=(k:Int)+1:=by omega
  generalize (B0 N fun r=>f r||(a.take k).contains (r:Int))=O at*
  refine Run.go 100 ?_
  simp -implicitDefEqProofs only [go_sem,q0,T,q2,q3,A,Z,I,v,B,C,t,u,Option.some.injEq,forall_eq']
  exact⟨by omega,ih _ (k+1) zd zd (by simp -implicitDefEqProofs only [go_sem,F,s])⟩
 ·have e:k=a.length:=by omega
  subst e
  rw [List.take_length]at*
  by_cases c:0≤d
  ·have h:(B0 N fun r=>(f r||a.contains (r:Int))&&decide ((r:Int)<d))=B0 N (B1v N (a,d) f):=E3 fun r z=>by
    have J:decide (d<0)=false:=decide_eq_false zd
    simp [B1v,z,J]
   have P:=fun o=>B0o N (fun r=>f r||a.contains (r:Int)) o (.sl (181*10000+9) st2 0 m.length) d c zd zd st n
   simp only [h]at P
   generalize (B0 N fun r=>f r||a.contains (r:Int))=O at*
   refine Run.go 12 ?_
   simp -implicitDefEqProofs only [go_sem,A,Int.lt_irrefl,c,ge_iff_le]
   refine A0.at [1] [0,2,3,4] (P _) rfl rfl ?_
   rintro r h' S hn rfl
   refine QL ?_
   refine Run.wk (C1.wk ?_) (g l p j st st2 S)
   exact ze
  ·have h:(B0 N fun r=>f r||a.contains (r:Int))=B0 N (B1v N (a,d) f):=E3 fun r z=>by
    have J:decide (d<0)=true:=decide_eq_true zd
    simp [B1v,z,J]
   rw [h]
   have e:d= -1:=by omega
   generalize B0 N (B1v N (a,d) f)=O at*
   subst e
   refine Run.go 10 ?_
   simp -implicitDefEqProofs only [go_sem,A,Int.lt_irrefl,c,ge_iff_le]
   refine Run.wk (C1.wk ?_) (g l p j st st2 n)
   exact ze
theorem C0b(N:Nat)(i:Ins)(f:Nat→Bool)(o:Int)(m:List Int)(R:Fit N i)(X:N≤100000)(hm:m.length≤1000000)(Q:Res)
  (c:Q=fun r V Y=> ∃st st2,r= .agg [.sl (181*10000+3) st 0 N,.int .i64 o,.sl (181*10000+9) st2 0 (I7 i m).length]∧V= [((181*10000+3),st,.rows 1 (B0 N f)),((181*10000+9),st2,.rows 1 ((I7 i m).map zrw))]) (y C v st st2 n:Nat):
  Run (C2b Q) [.code (E0 (E0 (E0 (E0 (E0 (E0 (E0 (E0 D3))))))))] (B2X i N f o m y C v st st2 n):=by
 obtain⟨b1,b2,b3,Z,b5,b6,b7,b8,b9,ba⟩:=A4g R.ok
 unfold B2X
 have hI:i.row= [.int .i64 i.op,.int .i64 i.a,.int .i64 i.b,.int .i64 i.c,.int .i64 i.d]:=rfl
 have p:(m.map zrw).length=m.length:=List.length_map ..
 have z:=H1 m
 by_cases g:i.op=28
 ·have d:I7 i m=m++ [i.a]:=if_pos g
  rw [d]at c
  have K:(m.map zrw).take m.length=m.map zrw:=List.take_of_length_le zd
  have L:(m++ [i.a]).map zrw=m.map zrw++ [[.int .i64 i.a]]:=by rw [List.map_append];rfl
  have S:(m++ [i.a]).length=m.length+1:=by simp
  rw [L,S]at c
  generalize m.map zrw=M at*
  refine Run.go 100 ?_
  simp -implicitDefEqProofs only [go_sem,E0,g,p,z,K]
  refine⟨by omega,?_⟩
  subst c
  exact .to ⟨st,n,rfl,rfl⟩ (.turn id ⟨.refl _,trivial⟩ (.at 3 rfl rfl (.refl _) (.at 2 rfl rfl (.refl _) trivial)))
 by_cases t:i.op=27
 ·have d:I7 i m=m.filter fun r=>decide (r<i.a):=by rw [I7,if_neg g,if_pos t]
  rw [d]at c
  refine Run.go 100 ?_
  have O: ∀(k:Nat) x,m[k]? =some x→(m.map zrw)[k]? =some [.int .i64 x]:=fun k x A=>P9 A
  have w: ∀k,((m.take k).filter fun r=>decide (r<i.a)).length≤1000000:=fun k=>by
   have h1:=List.length_filter_le (fun r=>decide (r<i.a)) (m.take k)
   have h2:(m.take k).length≤m.length:=by rw [List.length_take];omega
   omega
  generalize m.map zrw=M at*
  simp -implicitDefEqProofs only [go_sem,E0,t,p,z]
  refine Run.keep [10,9,5,4,3] ?_
  refine Run.roundsK (fun(x:Nat×Nat×Nat)=>⟨[(10,.int .i64 x.1),(9,.sl (160*10000+89) x.2.1 0 ((m.take x.1).filter fun r=>decide (r<i.a)).length),(5,.ptr (160*10000+5) v 0 0),(4,.ptr (160*10000+4) C 0 0),(3,.ptr (160*10000+3) y 0 0)],
    [((160*10000+89),x.2.1,.rows 1 (((m.take x.1).filter fun r=>decide (r<i.a)).map zrw)),((160*10000+5),v,.rows 3 [[.sl (181*10000+3) st 0 N,.int .i64 o,.sl (181*10000+9) st2 0 m.length]]),((181*10000+3),st,.rows 1 (B0 N f)),((181*10000+9),st2,.rows 1 M),((160*10000+4),C,.rows 3 [[.nils,.int .i64 0,.nils]]),((160*10000+3),y,.rows 5 [[.int .i64 27,.int .i64 i.a,.int .i64 i.b,.int .i64 i.c,.int .i64 i.d]])],x.2.2⟩)
   (fun x=>x.1≤m.length) (fun x=>m.length-x.1) (0,n,n+1) ?_ (Nat.zero_le _) ?_
  ·exact .trans (.fresh (160*10000+89) 1 _ _ _) (.turn id ⟨.refl _,.nils,.refl _,.refl _,.refl _,trivial⟩ (.at 0 rfl rfl (.refl _) (.at 1 rfl rfl (.refl _) (.at 2 rfl rfl (.refl _) (.at 3 rfl rfl (.refl _) (.at 4 rfl rfl (.refl _) (.at 5 rfl rfl (.refl _) trivial)))))))
  rintro⟨k,I,H⟩ A D
  simp only at A D⊢
  refine Run.unf J1 (Run.go 100 ?_)
  have P:=w k
  by_cases h:k<m.length
  ·have J:((k:Int)<(m.length:Int))=True:=Ji
   have G:((0:Int)≤(k:Int))=True:=Ji
   obtain⟨x,B⟩: ∃x,m[k]? =some x:=⟨m[k],by simp [h]⟩
   have l:=O k x B
   have j:((k+1:Nat):Int)=(k:Int)+1:=by omega
   by_cases q:x<i.a
   ·have u:(m.take (k+1)).filter (fun r=>decide (r<i.a))=(m.take k).filter (fun r=>decide (r<i.a))++ [x]:=by rw [List.take_add_one,B,List.filter_append];simp [q]
    have fin:=fun s a=>D s (k+1,a,a+1) zg zg
    simp only [u,List.map_append,List.map_cons,List.map_nil,List.length_append,List.length_singleton]at fin
    have T:(((m.take k).filter fun r=>decide (r<i.a)).map zrw).length=((m.take k).filter fun r=>decide (r<i.a)).length:=List.length_map ..
    generalize ((m.take k).filter fun r=>decide (r<i.a)).length=E at*
    have U:=H1 ((m.take k).filter fun r=>decide (r<i.a))
    generalize ((m.take k).filter fun r=>decide (r<i.a)).map zrw=F at*
    have W:F.take E=F:=List.take_of_length_le zd
    simp -implicitDefEqProofs only [go_sem,J,G,p,z,l,h,q,T,U,W,Option.some.injEq,forall_eq']
    exact⟨by omega,⟨by omega,by omega⟩,fin _ H (C1.wk (by simp -implicitDefEqProofs only [go_sem,j];rfl))⟩
   ·have u:(m.take (k+1)).filter (fun r=>decide (r<i.a))=(m.take k).filter (fun r=>decide (r<i.a)):=by rw [List.take_add_one,B,List.filter_append];simp [q]
    have fin:=fun s a b=>D s (k+1,a,b) zg zg
    simp only [u]at fin
    generalize ((m.take k).filter fun r=>decide (r<i.a)).length=E at*
    generalize ((m.take k).filter fun r=>decide (r<i.a)).map zrw=F at*
    simp -implicitDefEqProofs only [go_sem,J,G,p,z,l,h,q,Option.some.injEq,forall_eq']
    exact⟨⟨by omega,by omega⟩,fin _ I H (C1.wk zy)⟩
  ·have e:k=m.length:=by omega
   subst e
   rw [List.take_length]at*
   refine QN ?_
   subst c
   exact .to ⟨st,I,rfl,rfl⟩ (.turn (fun x=>if x=(160*10000+89)then(181*10000+9)else x) ⟨.agg ⟨.refl _,.refl _,.sl,trivial⟩,trivial⟩ (.at 3 rfl rfl (.refl _) (.at 2 rfl rfl (.refl _) trivial)))
 have d:I7 i m=m:=by rw [I7,if_neg g,if_neg t]
 rw [d]at c
 generalize m.map zrw=M at*
 refine Run.go 100 ?_
 simp -implicitDefEqProofs only [go_sem,E0,g,t]
 subst c
 exact Yk
theorem B9Z(N:Nat)(i:Ins)(s:Stt)(d:N≤100000)(h:Fit N i)(g:s.marks.length≤1000000)(n:Nat):
  A0 Tryz.prog 160 [.agg [.isl (B0 N s.set),.int .i64 s.opn,.isl (s.marks.map zrw)],i.v] [] n fun r j l=> ∃b a,
   r= .agg [.sl (181*10000+3) b 0 N,.int .i64 (C6 i).2,.sl (181*10000+9) a 0 (I7 i s.marks).length]∧j= [((181*10000+3),b,.rows 1 (B0 N (A8g N i s).set)),((181*10000+9),a,.rows 1 ((I7 i s.marks).map zrw))]:=by
 refine A0.enterK A1k Jk fun Q k=> ?_
 refine C0a N i s.set s.opn s.marks h d g n _ Q fun e f c b a n=> ?_
 refine C2c N i (B0U i s.set) s.marks h d _ Q (fun e f c b a n=> ?_) e f c b a n
 exact C0b N i (B1v N (C6 i) (B0U i s.set)) (C6 i).2 s.marks h d g Q k e f c b a n
end
section
open Go.Abs
attribute [local irreducible] A0 Run
-- EV: Ins.v, Ins.row
attribute [local go_sem] Ins.v Ins.row
theorem C9f{code:List Ins}{a:Nat}{i:Ins}(h:code[a]? =some i)(d:i.op=24)(h2:i.b=(a:Int)+1):(C5 code a).length<2:=by
 have b:=(List.getElem?_eq_some_iff.1 h).1
 unfold C5
 rw [if_neg zd,Int.toNat_natCast,h]
 simp only [B3r,A0A,d,h2]
 by_cases c:(a:Int)+1<code.length
 ·have e:(0:Int)≤(a:Int)+1:=by omega
  simp [G9,V9,c,e,B8F]
 ·simp [c,J9]
theorem B3c(N:Nat)(code:List Ins)(F:List V)(B:F.length=11)(l:F.take 11=F)(h5:F[5]? =some (.isl (code.map Ins.row)))(I:F.map (V.sub C7)=F)(a:Nat)(i:Ins)(ha:code[a]? =some i)
  (K:Pure Tryz.prog 74 [.agg F,.int .i64 a] (.isl ((C5 code a).map zrw))) (b:Int) (hc:code.length≤1000000) (s:Stt) (hN:N≤100000) (hi:Fit N i) (hm:s.marks.length≤1000000) (n:Nat):
  A0 Tryz.prog 117 [.agg F,.agg [.isl (B0 N s.set),.int .i64 s.opn,.isl (s.marks.map zrw)],.int .i64 a,.int .i64 b] [] n fun r h' n'=> ∃u d,
   r= .agg [.sl (181*10000+3) u 0 N,.int .i64 (C6 i).2,.sl (181*10000+9) d 0 (I7 i s.marks).length]∧h'= [((181*10000+3),u,.rows 1 (B0 N (C9 N i a b s).set)),((181*10000+9),d,.rows 1 ((I7 i s.marks).map zrw))]:=by
 have hal:a<code.length:=(List.getElem?_eq_some_iff.1 ha).1
 have k5:(code.map Ins.row).length=code.length:=List.length_map ..
 have z5:=A8v Ins.row 5 (fun _=>rfl) code
 have r5:(code.map Ins.row)[a]? =some (Ins.row i):=by rw [List.getElem?_map,ha];rfl
 generalize code.map Ins.row=rcode at*
 have q0:((a:Int)<(code.length:Int))=True:=Ji
 have q1:((0:Int)≤(a:Int))=True:=Ji
 have D:=B9Z N i s hN hi hm
 simp only [Ins.v,Ins.row]at D r5
 have O:=hi.ends
 have U:=A4g hi.ok
 have T:=C9f ha
 have H:((C5 code a).map zrw).length=(C5 code a).length:=List.length_map ..
 generalize (C5 code a).map zrw=NX at*
 generalize (C5 code a).length=nl at*
 obtain⟨f,o,m⟩:=s
 simp only at D hm⊢
 have k:=D6 N f
 have z:=H8 N f
 refine A0.enterK A1l Jk fun Q E=>Run.go 6 ?_
 simp -implicitDefEqProofs only [go_sem,A4,B,l,h5,k5,z5,r5,q0,q1,hal,Option.some.injEq,forall_eq']
 refine A0.at [] [0,1,2,3] (D _) rfl rfl ?_
 rintro r h' n1 hn1 ⟨u,d,rfl,rfl⟩
 refine QL ?_
 refine Run.keep [10,9,8,5,4,3,2] ?_
 have A:(f6 i a b=true∧f (i.a+3).toNat=false→False)→B0 N (C9 N i a b ⟨f,o,m⟩).set=B0 N (A8g N i ⟨f,o,m⟩).set:=fun h=>by
  unfold C9;rw [if_neg h]
 have w:f6 i a b=true∧f (i.a+3).toNat=false→B0 N (C9 N i a b ⟨f,o,m⟩).set=(B0 N (A8g N i ⟨f,o,m⟩).set).set (i.a+3).toNat [.bool false]:=fun h=>by
  refine(U0 _ fun x hx=> ?_).symm
  unfold C9;rw [if_pos h]
  have:=U.2.1
  have h0:=U
  exact XS
 generalize B0 N (C9 N i a b ⟨f,o,m⟩).set=PS at*
 have M:=D6 N (A8g N i ⟨f,o,m⟩).set
 have L:=H8 N (A8g N i ⟨f,o,m⟩).set
 have X: ∀r,r<N→ ∃v,(B0 N (A8g N i ⟨f,o,m⟩).set)[r]? =some [.bool v]:=fun r hr=>⟨_,H7 hr⟩
 generalize B0 N (A8g N i ⟨f,o,m⟩).set=ES at*
 have W: ∀r,r<N→(B0 N f)[r]? =some [.bool (f r)]:=fun r hr=>H7 hr
 generalize B0 N f=FR at*
 generalize (I7 i m).map zrw=MR at*
 generalize (I7 i m).length=ml at*
 generalize (C6 i).2=wo at*
 -- where the register of a loop is dropped
 have Y: ∀c:(i.op=23∧b=i.b)∨(i.op=24∧b≠i.b)∨(i.op=24∧b=i.b∧i.b=(a:Int)+1),Run ⟨Tryz.prog,66,[.c 8 3 true],Z2 Q,none⟩ [.code (E0 (E0 (E0 A2i)))]
   ⟨[(10,.ptr (117*10000+10) n1 0 0),(9,.ptr (117*10000+9) (n+1+1+1) 0 0),(8,.ptr (117*10000+8) (n+1+1) 0 0),(5,.ptr (117*10000+5) (n+1) 0 0),(4,.ptr (117*10000+4) n 0 0),(3,.int .i64 b),(2,.int .i64 a)],
   [((117*10000+10),n1,.rows 3 [[.sl (181*10000+3) u 0 N,.int .i64 wo,.sl (181*10000+9) d 0 ml]]),((181*10000+3),u,.rows 1 ES),((181*10000+9),d,.rows 1 MR),((117*10000+9),n+1+1+1,.rows 5 [[.int .i64 i.op,.int .i64 i.a,.int .i64 i.b,.int .i64 i.c,.int .i64 i.d]]),((117*10000+8),n+1+1,.rows 3 [[.nils,.int .i64 0,.nils]]),((117*10000+5),n+1,.rows 3 [[.isl FR,.int .i64 o,.isl (m.map zrw)]]),((117*10000+4),n,.rows 11 [F])],n1+1⟩:=by
  intro c
  have hb:=O (by rcases c with c|c|c;exact .inl c.1;exact .inr c.1;exact .inr c.1)
  obtain⟨G,t⟩: ∃G:Nat,i.a+3=G:=⟨(i.a+3).toNat,by omega⟩
  have he:f6 i a b=true:=by
   rcases c with⟨j,g⟩|⟨j,g⟩|⟨j,g,C⟩
   ·simp [f6,j,g]
   ·simp [f6,j,g]
   ·simp [f6,j,g,C]
  rw [t]at hb A w
  have q:G<N:=by omega
  rw [Int.toNat_natCast]at A w
  have R:((0:Int)≤(G:Int))=True:=Ji
  have S:((G:Int)<(N:Int))=True:=Ji
  have p:=W G q
  obtain⟨v,J⟩:=X G q
  have hiA: -9223372036854775808≤i.a+3∧i.a+3≤9223372036854775807:=⟨by omega,by omega⟩
  have y:i.op=24→i.b=(a:Int)+1→((nl:Int)<2)=True:=fun h1 h2=>eq_true (by have:=T h1 h2;omega)
  cases hf:f G with
  | false=>
   rw [hf]at p A w
   have:=w ⟨he,rfl⟩
   subst this
   rcases c with⟨j,g⟩|⟨j,g⟩|⟨j,g,C⟩
   all_goals refine Run.go 100 ?_
   ·exact Xb
   ·exact Xb
   ·have y:=y j C
    have P:(a:Int)+1=i.b:=C.symm
    simp -implicitDefEqProofs only [go_sem,E0,j,g,B,l]
    refine A0.pureF K zR ?_
    simp -implicitDefEqProofs only [go_sem,H,y,P,t,R,S,p,J,q,M,L,k,z,Option.some.injEq,forall_eq']
    refine⟨⟨by omega,by omega⟩,⟨by omega,by omega⟩,⟨by omega,by omega⟩,?_⟩
    subst E
    exact .to ⟨u,d,rfl,rfl⟩ (.turn id ⟨.refl _,trivial⟩ (.at 1 rfl rfl (.refl _) (.at 3 rfl rfl (.refl _) trivial)))
  | true=>
   rw [hf]at p A
   have:=A (fun h=>by simp at h)
   subst this
   rcases c with⟨j,g⟩|⟨j,g⟩|⟨j,g,C⟩
   all_goals refine Run.go 100 ?_
   ·exact XU
   ·exact XU
   ·have y:=y j C
    have P:(a:Int)+1=i.b:=C.symm
    simp -implicitDefEqProofs only [go_sem,E0,j,g,B,l]
    refine A0.pureF K zR ?_
    simp -implicitDefEqProofs only [go_sem,H,y,P,t,R,S,p,q,k,z,Option.some.injEq,forall_eq']
    refine⟨⟨by omega,by omega⟩,⟨by omega,by omega⟩,?_⟩
    exact Jy
 have hii:((i.op=23∧b=i.b)∨(i.op=24∧b≠i.b)∨(i.op=24∧b=i.b∧i.b=(a:Int)+1))∨f6 i a b=false:=by
  unfold f6
  by_cases j:i.op=23<;>by_cases g:i.op=24<;>by_cases C:b=i.b<;>by_cases c4:i.b=(a:Int)+1<;>simp [j,g,C,c4]<;>omega
 rcases hii with c|Z
 ·exact Y c
 have:=A (fun h=>by rw [Z]at h;simp at h)
 subst this
 by_cases j:i.op=23
 ·have g: ¬b=i.b:=fun e=>by simp [f6,j,e]at Z
  exact Ke
 by_cases g:i.op=24
 ·have C:b=i.b:=by
   refine Decidable.byContradiction fun e=> ?_
   simp [f6,g,e]at Z
  have c4: ¬i.b=(a:Int)+1:=fun e=>by simp [f6,g,C,e]at Z
  have c5: ¬(a:Int)+1=i.b:=fun e=>c4 e.symm
  refine Run.go 100 ?_
  simp -implicitDefEqProofs only [go_sem,g,C,B,l]
  refine A0.pureF K zR ?_
  simp -implicitDefEqProofs only [go_sem,H,c5]
  subst E
  exact⟨fun _=>⟨⟨by omega,by omega⟩,.to ⟨u,d,rfl,rfl⟩ (.turn id ⟨.refl _,trivial⟩ (.at 2 rfl rfl (.refl _) (.at 3 rfl rfl (.refl _) trivial)))⟩,fun _=> .to ⟨u,d,rfl,rfl⟩ (.turn id ⟨.refl _,trivial⟩ (.at 2 rfl rfl (.refl _) (.at 3 rfl rfl (.refl _) trivial)))⟩
 ·exact Ke
end
end Go.Proofs.YtcaaenddpjepiaaGreatDoor
