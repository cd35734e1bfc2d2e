/-
 The reference's sets of registers: 'registers', 'marks', 'uses', 'defines'. No condition.
-/
import Derived.Test.YtcaaenddpjepiaaGreatDoorVer7
import Derived.Test.YtcaaenddpjepiaaGreatDoorRvE
import Derived.Test.YtcaaenddpjepiaaGreatDoorVerP4
import Derived.Test.YtcaaenddpjepiaaGreatDoorFlowS
import Derived.Test.YtcaaenddpjepiaaGreatDoorFnRc
set_option linter.unusedVariables false
set_option linter.unusedSimpArgs false
set_option maxRecDepth 1000000
set_option maxHeartbeats 0
namespace Go.Proofs.YtcaaenddpjepiaaGreatDoor
section
open Go.Abs
def InM(N n:Nat)(M:Nat→Option Stt):Prop:= ∀k s,M k=some s→k<n∧ ∀r,N≤r→s.set r=false
theorem InM.step{N:Nat}{code:List Ins}{M:Nat→Option Stt}{e:Nat×Int}(f:e∈F8 code)(h:InM N code.length M):InM N code.length (G6 N code M e):=by
 obtain⟨_,_,j,l⟩:=A9W f
 intro k s c
 rcases A4a c with g|⟨o,d,b,_,rfl⟩|⟨o,t,d,b,i,rfl⟩
 ·exact h k s g
 ·exact⟨by omega,fun r a=>B0I a⟩
 ·exact⟨by omega,fun r a=>by simp only [M7,(h k t i).2 r a,Bool.false_and]⟩
theorem InM.less{N:Nat}{code:List Ins}{M:Nat→Option Stt}{e:Nat×Int}(d:e∈F8 code)(h:InM N code.length M):G6 N code M e=M∨mu N code.length (G6 N code M e)<mu N code.length M:=by
 obtain⟨_,_,g,i⟩:=A9W d
 have c:e.2.toNat<code.length:=by omega
 cases ha:M e.1 with
 |none=>left;simp only [G6,ha]
 | some o=>
  cases hm:M e.2.toNat with
  |none=>right;simp only [G6,ha,hm];exact C3P c hm
  | some t=>
   simp only [G6,ha,hm]
   generalize C9 N (G5 code e.1) e.1 e.2 o=u
   cases hc:(List.range N).any (fun r=>t.set r&& !u.set r)with
   |false=>
    left
    rw [B6j (N:=N) (fun r a f=> ?_) (h _ t hm).2,B8Y hm]
    have:=List.any_eq_false.1 hc r (List.mem_range.2 a)
    cases hu:u.set r with
    |true=>rfl
    |false=>simp [f,hu]at this
   |true=>
    right
    obtain⟨r,a,b⟩:=List.any_eq_true.1 hc
    rw [Bool.and_eq_true]at b
    exact C5m c hm (List.mem_range.1 a) b.1 (by simpa using b.2)
theorem InM.fold{N:Nat}{code:List Ins}: ∀(l:List (Nat×Int)),(∀e∈l,e∈F8 code)→ ∀M,InM N code.length M→(l.foldl (G6 N code) M=M∨mu N code.length (l.foldl (G6 N code) M)<mu N code.length M)∧InM N code.length (l.foldl (G6 N code) M)
 | [],_,M,h=>⟨.inl rfl,h⟩
 |e::l,hl,M,h=>by
  have b:=h.less (hl e List.mem_cons_self)
  have c:=InM.fold l (fun x d=>hl x (List.mem_cons_of_mem _ d)) _ (h.step (hl e List.mem_cons_self))
  rw [List.foldl_cons]
  refine⟨?_,c.2⟩
  rcases b with b|b<;>rcases c.1 with a|a
  ·left;rw [b]at a⊢;exact a
  ·right;rw [b]at a⊢;exact a
  ·right;rw [a];exact b
  ·right;omega
theorem C8N{N:Nat}{code:List Ins}{params:Int}(d:0<code.length): ∀(m k:Nat),mu N code.length (A3h N code params k)≤m→InM N code.length (A3h N code params k)→ ∃M,A0T N code params M:=by
 intro m
 induction m with
 |zero=>
  intro k c a
  have:=(InM.fold _ (fun _ h=>h) _ a).1
  rcases this with h|h
  ·exact⟨_,k,rfl,h⟩
  ·omega
 |succ m i=>
  intro k c a
  have b:=InM.fold _ (fun _ h=>h) _ a
  rcases b.1 with h|h
  ·exact⟨_,k,rfl,h⟩
  ·exact i (k+1) (by show mu N code.length (A5r N code (A3h N code params k))≤m;have h:mu N code.length (A5r N code (A3h N code params k))<mu N code.length (A3h N code params k):=h;omega) b.2
theorem D4m{N:Nat}{code:List Ins}{params:Int}(b:0<code.length):A0T N code params (stM N code params):=by
 obtain⟨M,a⟩:=C8N (N:=N) (params:=params) b _ 0 (Nat.le_refl _) (fun k s h=>by
  simp only [A3h,M0]at h
  split at h
  ·rename_i d
   injection h with h
   subst h
   refine⟨by omega,fun r c=> ?_⟩
   have: ¬r<N:=by omega
   simp [A9F,this]
  ·cases h)
 exact C4v a ▸ a
theorem InM.still{N:Nat}{code:List Ins}: ∀(l:List (Nat×Int)),(∀e∈l,e∈F8 code)→ ∀M,InM N code.length M→l.foldl (G6 N code) M=M→ ∀e∈l,G6 N code M e=M
 | [],_,_,_,_,_,h=>by cases h
 | e::l,hl,M,h,hf,x,a=>by
  have b:=h.less (hl e List.mem_cons_self)
  have f:=InM.fold l (fun x a=>hl x (List.mem_cons_of_mem _ a)) _ (h.step (hl e List.mem_cons_self))
  rw [List.foldl_cons]at hf
  have d:G6 N code M e=M:=by
   rcases b with b|b
   ·exact b
   ·rcases f.1 with c|c
    ·rw [hf]at c;exact c.symm
    ·rw [hf]at c;omega
  rw [d]at hf
  rcases List.mem_cons.1 a with rfl|a
  ·exact d
  ·exact InM.still l (fun x a=>hl x (List.mem_cons_of_mem _ a)) M h hf x a
theorem A0T.first{N:Nat}{code:List Ins}{params:Int}{M:Nat→Option Stt}(h:A0T N code params M): ∃s,M 0=some s∧ ∀r:Nat,s.set r=true→(r:Int)<params:=by
 refine h.ind (P:=fun M=> ∃s,M 0=some s∧ ∀r:Nat,s.set r=true→(r:Int)<params) ⟨A9F N params,rfl,fun r a=>by simp [A9F]at a;exact a.2⟩ ?_
 rintro M e j ⟨o,b,f⟩
 have:=B1Y (N:=N) (code:=code) (e:=e) (show (M 0).isSome=true by rw [b];rfl)
 obtain⟨s,d⟩:=Option.isSome_iff_exists.1 this
 refine⟨s,d,?_⟩
 rcases A4a d with h|⟨i,_,_,g,rfl⟩|⟨i,t,_,_,c,rfl⟩
 ·rw [b]at h;injection h with h;rw [←h];exact f
 ·rw [b]at g;cases g
 ·rw [b]at c;injection c with c
  intro r a
  simp only [M7,Bool.and_eq_true]at a
  exact f r (c ▸ a.1)
theorem A0T.path{N:Nat}{code:List Ins}{params:Int}{M:Nat→Option Stt}(h:A0T N code params M){a:Nat}(d:Path code a):a<code.length∧ ∃s,M a=some s:=by
 induction d with
 |zero f=>
  obtain⟨o,b,_⟩:=h.zero
  exact⟨f,o,b⟩
 |step j c i=>
  obtain⟨g,s,e⟩:=i
  obtain⟨o,b⟩:=h.next g e c
  rw [Int.toNat_natCast]at b
  have:=i2 c
  exact⟨by omega,o,b⟩
end
section
open Go.Abs
attribute [local irreducible] A0 Run
-- EV: Ins.v, Ins.row
attribute [local go_sem] Ins.v Ins.row
theorem C1V(E S:List (List V))(o f:Int)(m a:List Int)(L:m.length≤1000000):
  Pure Tryz.prog 119 [.agg [.isl E,.int .i64 o,.isl (m.map zrw)],.agg [.isl S,.int .i64 f,.isl (a.map zrw)]] (.bool (decide (o=f)&&decide (m=a))):=by
 have n:(m.map zrw).length=m.length:=List.length_map ..
 have r:(a.map zrw).length=a.length:=List.length_map ..
 have D:=H1 m
 have C:=H1 a
 have I: ∀(k:Nat) x,m[k]? =some x→(m.map zrw)[k]? =some [.int .i64 x]:=fun k x q=>P9 q
 have J: ∀(k:Nat) x,a[k]? =some x→(a.map zrw)[k]? =some [.int .i64 x]:=fun k x q=>P9 q
 generalize m.map zrw=A at*
 generalize a.map zrw=B at*
 refine Pure.of 0 (A0.enter A2e Jk (Run.go 100 ?_))
 by_cases d:o=f
 case neg=>
  have e:decide (o=f)=false:=decide_eq_false d
  simp -implicitDefEqProofs only [go_sem,A4,d,e,Bool.false_and]
 have e:decide (o=f)=true:=decide_eq_true d
 rw [e,Bool.true_and]
 by_cases w:m.length=a.length
 case neg=>
  have c:((m.length:Int)=(a.length:Int))=False:=Jj
  have v: ¬m=a:=fun e=>w zm
  have g:decide (m=a)=false:=decide_eq_false v
  simp -implicitDefEqProofs only [go_sem,A4,d,n,r,c,g]
 have c:((m.length:Int)=(a.length:Int))=True:=Ji
 simp -implicitDefEqProofs only [go_sem,A4,d,n,r,c]
 refine Run.keep [5,4,3,2] ?_
 refine Run.rounds (fun(k:Nat)=>⟨[(5,.int .i64 k),(4,.bool false),(3,.ptr (119*10000+3) 1 0 0),(2,.ptr (119*10000+2) 0 0 0)],
   [((119*10000+3),1,.rows 3 [[.isl S,.int .i64 f,.isl B]]),((119*10000+2),0,.rows 3 [[.isl E,.int .i64 o,.isl A]])],2⟩) (fun k=>k≤m.length∧m.take k=a.take k) (fun k=>m.length-k) 0 zS ⟨Nat.zero_le _,rfl⟩ ?_
 rintro k ⟨q,i⟩ K
 refine Run.unf A0c (Run.go 100 ?_)
 by_cases b:k<m.length
 ·have F:((k:Int)<(m.length:Int))=True:=Ji
  have z:((0:Int)≤(k:Int))=True:=Ji
  have G:((k:Int)<(a.length:Int))=True:=Ji
  obtain⟨x,u⟩: ∃x,m[k]? =some x:=⟨m[k],by simp [b]⟩
  obtain⟨y,s⟩: ∃y,a[k]? =some y:=⟨a[k]' zd,by simp [show k<a.length by omega]⟩
  have p:=I k x u
  have l:=J k y s
  have j:k<a.length:=by omega
  have t:((k+1:Nat):Int)=(k:Int)+1:=by omega
  by_cases h:x=y
  ·simp -implicitDefEqProofs only [go_sem,F,z,G,n,r,D,C,p,l,h,b,j,Option.some.injEq,forall_eq']
   exact⟨⟨by omega,by omega⟩,K _ (k+1) ⟨by omega,B7t i u (h ▸ s)⟩ zd zX⟩
  ·have g:decide (m=a)=false:=decide_eq_false (D0h u s h)
   simp -implicitDefEqProofs only [go_sem,F,z,G,n,r,D,C,p,l,h,b,j,Option.some.injEq,forall_eq',g]
 ·have H:k=m.length:=by omega
  subst H
  have g:decide (m=a)=true:=decide_eq_true (C5C w i)
  simp -implicitDefEqProofs only [go_sem,n,Int.lt_irrefl,g]
theorem D0p{f o:Int}{g:Int→Bool}(a:0≤f){r:Nat}(b:f+r<o)(h:g (f+r)=true):(A4I f o).any g=true:=by
 unfold A4I
 rw [if_pos a]
 exact List.any_eq_true.2 ⟨f+r,List.mem_map.2 ⟨r,List.mem_range.2 zd,rfl⟩,h⟩
theorem C2W{f o:Int}{g:Int→Bool}(b:0≤f)(h: ∀r:Nat,f+r<o→g (f+r)=false):(A4I f o).any g=false:=by
 unfold A4I
 rw [if_pos b]
 refine List.any_eq_false.2 fun x c=> ?_
 obtain⟨r,a,rfl⟩:=List.mem_map.1 c
 have:=List.mem_range.1 a
 rw [h r zd];simp
theorem C0B{f o:Int}{g:Int→Bool}(h: ¬0≤f):(A4I f o).any g=false:=by unfold A4I;rw [if_neg h];rfl
theorem C0o(N:Nat)(i:Ins)(s:Stt)(hN:N≤100000)(G: ∀r∈(reads i).1,0≤r∧r<N)(O:(reads i).1.length≤1000000)(P: -1≤(reads i).2)(ho:s.opn≤N)(ho1: -1≤s.opn):
  Pure Tryz.prog 118 [.agg [.isl (B0 N s.set),.int .i64 s.opn,.isl (s.marks.map zrw)],i.v] (.bool (!A2A (reads i).2 s.opn||((reads i).1.any (fun r=> !s.set r.toNat)||(A4I (reads i).2 s.opn).any fun r=> !s.set r.toNat))):=by
 have A:=B0q i
 have m:=D6 N s.set
 have n:=H8 N s.set
 have B: ∀r,r<N→(B0 N s.set)[r]? =some [.bool (s.set r)]:=fun r h=>H7 h
 generalize B0 N s.set=V at*
 generalize s.marks.map zrw=U at*
 generalize s.opn=o at*
 generalize s.set=f at*
 generalize reads i=rr at*
 obtain⟨g,d⟩:=rr
 simp only at A G O P⊢
 have L:(g.map zrw).length=g.length:=List.length_map ..
 have W:=H1 g
 have ar: ∀(k:Nat) x,g[k]? =some x→(g.map zrw)[k]? =some [.int .i64 x]:=fun k x Y=>P9 Y
 generalize g.map zrw=RR at*
 simp only [Ins.v,Ins.row]at A
 refine Pure.of 0 (A0.enter A2j Jk (Run.go 100 ?_))
 refine QM ?_
 refine A0.pureF A ze ?_
 -- the open range
 by_cases a:A2A d o=true
 case neg=>
  have a:A2A d o=false:=by simpa using a
  rw [a,Bool.not_false,Bool.true_or]
  unfold A2A at a
  by_cases u:d<0
  ·have C:0≤o:=by
    refine Decidable.byContradiction fun h=> ?_
    have:(0≤d↔0≤o):=⟨fun _=>by omega,fun _=>by omega⟩
    simp [this]at a
    omega
   simp -implicitDefEqProofs only [go_sem,u,C,ge_iff_le]
  ·have w:0≤d:=by omega
   by_cases M:o<0
   ·simp -implicitDefEqProofs only [go_sem,u,w,M,ge_iff_le]
   ·have c5:o<d:=by
     refine Decidable.byContradiction fun h=> ?_
     have y:(0≤d↔0≤o):=⟨fun _=>by omega,fun _=>by omega⟩
     have K:d≤o:=by omega
     simp [y,K]at a
    simp -implicitDefEqProofs only [go_sem,u,w,M,c5,ge_iff_le]
 rw [a,Bool.not_true,Bool.false_or]
 have H:(d<0∧ ¬0≤o∧ ¬0≤d)∨(¬d<0∧0≤d∧ ¬o<0∧ ¬o<d):=by
  unfold A2A at a
  rw [Bool.and_eq_true]at a
  obtain⟨y,K⟩:=a
  have y:=of_decide_eq_true y
  have K:=of_decide_eq_true K
  by_cases c:d<0
  ·exact .inl ⟨c,fun h=>by have:=y.2 h;omega,by omega⟩
  ·have:=y.1 zd
   exact .inr ⟨c,by omega,by omega,by omega⟩
 rcases H with⟨u,C,w⟩|⟨u,C,w,M⟩
 simp -implicitDefEqProofs only [go_sem,u,C,w,ge_iff_le]
 rotate_left
 simp -implicitDefEqProofs only [go_sem,u,C,w,M,ge_iff_le]
 all_goals
  refine Run.keep [7,6,5,4,3,2] ?_
  refine Run.rounds (fun(k:Nat)=>⟨[(7,.int .i64 k),(6,.int .i64 d),(5,.isl RR),(4,.bool false),(3,.ptr (118*10000+3) 1 0 0),(2,.ptr (118*10000+2) 0 0 0)],
    [((118*10000+3),1,.rows 5 [[.int .i64 i.op,.int .i64 i.a,.int .i64 i.b,.int .i64 i.c,.int .i64 i.d]]),((118*10000+2),0,.rows 3 [[.isl V,.int .i64 o,.isl U]])],2⟩) (fun k=>k≤g.length∧(g.take k).any (fun r=> !f r.toNat)=false) (fun k=>g.length-k) 0 ze ⟨Nat.zero_le _,rfl⟩ ?_
  rintro k ⟨Y,p⟩ ih
  refine Run.unf A0g (Run.go 100 ?_)
  by_cases t:k<g.length
  ·have Z:((k:Int)<(g.length:Int))=True:=Ji
   have z:((0:Int)≤(k:Int))=True:=Ji
   obtain⟨x,v⟩: ∃x,g[k]? =some x:=⟨g[k],by simp [t]⟩
   have I:=ar k x v
   obtain⟨hx0,hxN⟩:=G x (List.mem_of_getElem? v)
   obtain⟨X,rfl⟩: ∃X:Nat,x=X:=⟨x.toNat,by omega⟩
   have e:X<N:=by omega
   have q2:((0:Int)≤(X:Int))=True:=Ji
   have J:((X:Int)<(N:Int))=True:=Ji
   have b:=B X e
   have Q:((k+1:Nat):Int)=(k:Int)+1:=by omega
   cases hfx:f X with
   |false=>
    rw [hfx]at b
    have l:g.any (fun r=> !f r.toNat)=true:=K4 v (by simp [hfx])
    simp -implicitDefEqProofs only [go_sem,Z,z,q2,J,L,W,I,t,m,n,b,e,l,Bool.true_or,Option.some.injEq,forall_eq']
   |true=>
    rw [hfx]at b
    simp -implicitDefEqProofs only [go_sem,Z,z,q2,J,L,W,I,t,m,n,b,e,Option.some.injEq,forall_eq']
    exact⟨⟨by omega,by omega⟩,ih _ (k+1) ⟨by omega,E8 p v (by simp [hfx])⟩ zd (by simp -implicitDefEqProofs only [go_sem,Q])⟩
  have ek:k=g.length:=by omega
  subst ek
  have p:=I4 p
  rw [p,Bool.false_or]
  by_cases D:0≤d
  case neg=>
   simp -implicitDefEqProofs only [go_sem,L,Int.lt_irrefl,D,ge_iff_le,C0B D]
  simp -implicitDefEqProofs only [go_sem,L,Int.lt_irrefl,D,ge_iff_le]
  obtain⟨F,rfl⟩: ∃F:Nat,d=F:=⟨d.toNat,by omega⟩
  refine Run.keep [8,4,2] ?_
  refine Run.rounds (fun(x:Nat)=>⟨[(8,.int .i64 ((F+x:Nat):Int)),(4,.bool false),(2,.ptr (118*10000+2) 0 0 0)],
    [((118*10000+3),1,.rows 5 [[.int .i64 i.op,.int .i64 i.a,.int .i64 i.b,.int .i64 i.c,.int .i64 i.d]]),((118*10000+2),0,.rows 3 [[.isl V,.int .i64 o,.isl U]])],2⟩) (fun x=> ∀j:Nat,j<x→(F:Int)+j<o→(!f ((F:Int)+j).toNat)=false) (fun x=>o.toNat-(F+x)) 0 (by simp -implicitDefEqProofs only [go_sem,Nat.add_zero]) (fun j hj=>absurd hj (Nat.not_lt_zero _)) ?_
  intro x v S
  refine Run.unf R9 (Run.go 100 ?_)
  by_cases q:((F+x:Nat):Int)<o
  ·have e:F+x<N:=by omega
   have z:((0:Int)≤((F+x:Nat):Int))=True:=Ji
   have J:(((F+x:Nat):Int)<(N:Int))=True:=Ji
   have b:=B (F+x) e
   have T:((F+(x+1):Nat):Int)=((F+x:Nat):Int)+1:=by omega
   cases hfx:f (F+x)with
   | false=>
    rw [hfx]at b
    have l:(A4I (F:Int) o).any (fun r=> !f r.toNat)=true:=D0p D (r:=x) zd (by
     have:((F:Int)+(x:Int)).toNat=F+x:=by omega
     rw [this,hfx];rfl)
    simp -implicitDefEqProofs only [go_sem,q,z,J,m,n,b,e,l,Option.some.injEq,forall_eq']
   | true=>
    rw [hfx]at b
    simp -implicitDefEqProofs only [go_sem,q,z,J,m,n,b,e,Option.some.injEq,forall_eq']
    refine⟨⟨by omega,by omega⟩,S _ (x+1) (fun j hj R=> ?_) zd zW⟩
    by_cases c:j=x
    ·subst c
     have:((F:Int)+(j:Int)).toNat=F+j:=by omega
     rw [this,hfx];rfl
    ·exact v j zd R
  ·have E:(A4I (F:Int) o).any (fun r=> !f r.toNat)=false:=C2W D fun r A=>v r zd A
   simp -implicitDefEqProofs only [go_sem,q,E]
end
end Go.Proofs.YtcaaenddpjepiaaGreatDoor
