/-
 What the reference's 'Check' answers: the same as the program's. No condition.
-/
import Derived.Test.YtcaaenddpjepiaaGreatDoorFlowR
import Derived.Test.YtcaaenddpjepiaaGreatDoorRwM
set_option linter.unusedVariables false
set_option linter.unusedSimpArgs false
set_option maxRecDepth 100000
set_option maxHeartbeats 0
namespace Go.Proofs.YtcaaenddpjepiaaGreatDoor
section
open Go.Abs
attribute [local irreducible] A0 Run
-- EV: Ins.v, Ins.row, Shp.v, Shp.row, intsV, Ins.fs
attribute [local go_sem] Ins.v Ins.row Shp.v Shp.row B6h Ins.fs
def A2E(s:Shp)(i:Ins):Int:=
 if (X5 s.ha i.a&&X5 s.hb i.b&&X5 s.hc i.c&&X5 s.hd i.d)=false then 4
 else if (X6 s.ha s.la s.ma i.a&&X6 s.hb s.lb s.mb i.b&&X6 s.hc s.lc s.mc i.c&&X6 s.hd s.ld s.md i.d)=false then 6
 else if i.op=3∧i.b<i.a∨B3I i>4095 then 6
 else 0
theorem C9x{i:Ins}(h:u6 i.op=true):C6V i=A2E (shp i.op) i:=by
 unfold C6V;rw [if_neg (by rw [h];simp)];rfl
theorem D4e(o:Int):(-1≤(shp o).la∧(shp o).ma≤40000)∧(-1≤(shp o).lb∧(shp o).mb≤40000)∧(-1≤(shp o).lc∧(shp o).mc≤40000)∧(u6 o=true→(shp o).word≠ [])∧(u6 o=false→(shp o).word= []):=by
 cases h:u6 o with
 |false=>rw [shp,if_neg (by rw [h];simp)];simp
 |true=>
  rcases A7c h with rfl|rfl|rfl|rfl|rfl|rfl|rfl|rfl|rfl|rfl|rfl|rfl|rfl|rfl|rfl|rfl|rfl|rfl|rfl|rfl|rfl|rfl|rfl|rfl|rfl|rfl|rfl|rfl|rfl<;>simp<;>decide
theorem C4h{h:Bool}{l m x:Int}(a:X5 h x=true)(h2:X6 h l m x=true)(b: -1≤l)(c:m≤40000): -1≤x∧x≤40000:=by
 cases h<;>simp [X5,X6]at a h2<;>omega
theorem B9X(i:Ins):Pure Tryz.prog 120 [i.v] (.int .i64 (C6V i)):=by
 refine Pure.of 0 (A0.enter A1S Jk ?_)
 refine Run.go 100 ?_
 refine QM ?_
 refine A0.pureF (C5Z i.op) ze ?_
 refine QL ?_
 refine A0.pureF (C0f i) ze ?_
 refine QL ?_
 obtain⟨w,v,x,y,z⟩:=D4e i.op
 refine⟨fun h=> ?_,fun h=> ?_⟩
 ·cases o:u6 i.op with
  |true=>exact absurd h (y o)
  |false=>unfold C6V;rw [if_pos o]
 have o:u6 i.op=true:=by
  cases o:u6 i.op with
  |true=>rfl
  |false=>exact absurd (z o) h
 rw [C9x o]
 clear h y z
 generalize shp i.op=s at w v x⊢
 refine Run.rounds (fun(j:Nat)=>⟨[(5,.int .i64 j),(4,.ptr (120*10000+4) 2 0 0),(3,.ptr (120*10000+3) 1 0 0),(1,.ptr (120*10000+1) 0 0 0)],[((120*10000+4),2,.rows 4 [[.int .i64 i.a,.int .i64 i.b,.int .i64 i.c,.int .i64 i.d]]),((120*10000+3),1,.rows 13 [s.row]),((120*10000+1),0,.rows 5 [i.row])],3⟩)
  (fun j=>j≤4∧n4 j (X5 s.ha i.a) (X5 s.hb i.b) (X5 s.hc i.c) (X5 s.hd i.d)) (fun j=>4-j) 0 ze ⟨by omega,by simp [n4]⟩ ?_
 rintro j ⟨F,g⟩ c
 have d:j=0∨j=1∨j=2∨j=3∨j=4:=by omega
 rcases d with rfl|rfl|rfl|rfl|rfl
 rotate_left 4
 ·clear c
  obtain⟨q,a,b,f⟩:=g
  have m:=q zd
  have p:=a zd
  have l:=b zd
  have u:=f zd
  clear q a b f
  refine Run.unf F5 (Run.go 100 ?_)
  refine QL ?_
  refine Run.rounds (fun(j:Nat)=>⟨[(6,.int .i64 j),(4,.ptr (120*10000+4) 2 0 0),(3,.ptr (120*10000+3) 1 0 0),(1,.ptr (120*10000+1) 0 0 0)],[((120*10000+4),2,.rows 4 [[.int .i64 i.a,.int .i64 i.b,.int .i64 i.c,.int .i64 i.d]]),((120*10000+3),1,.rows 13 [s.row]),((120*10000+1),0,.rows 5 [i.row])],3⟩)
   (fun j=>j≤4∧n4 j (X6 s.ha s.la s.ma i.a) (X6 s.hb s.lb s.mb i.b) (X6 s.hc s.lc s.mc i.c) (X6 s.hd s.ld s.md i.d)) (fun j=>4-j) 0 ze ⟨by omega,by simp [n4]⟩ ?_
  rintro j ⟨F,g⟩ c
  have d:j=0∨j=1∨j=2∨j=3∨j=4:=by omega
  rcases d with rfl|rfl|rfl|rfl|rfl
  rotate_left 4
  ·clear c
   obtain⟨q,a,b,f⟩:=g
   have r:=q zd
   have k:=a zd
   have t:=b zd
   have B:=f zd
   clear q a b f
   have A:=C4h m r w.1 w.2
   have C:=C4h p k v.1 v.2
   have E:=C4h l t x.1 x.2
   have D:A2E s i=if i.op=3∧i.b<i.a∨B3I i>4095 then 6 else 0:=by
    unfold A2E;rw [m,p,l,u,r,k,t,B];simp
   rw [D]
   refine Run.unf E5 (Run.go 100 ?_)
   refine QL ?_
   repeat' (first|refine And.intro ?_ ?_|refine fun h=> ?_)
   all_goals first
    |(simp [*];done)
    | (refine A0.pureF (C3K i A C E) ze ?_
       refine QL ?_
       repeat' (first|refine And.intro ?_ ?_|refine fun h=> ?_)
       all_goals (simp [*];try omega))
  ·obtain⟨q,a,b,f⟩:=g
   refine Run.unf E5 (Run.go 100 ?_)
   refine QL ?_
   have n:X6 s.ha s.la s.ma i.a=false→6=A2E s i:=fun e=>by unfold A2E;rw [m,p,l,u,e];simp
   cases hh:s.ha<;>rw [hh]at n<;>simp -implicitDefEqProofs only [go_sem,hh]
   ·exact Kh
   ·repeat' (first|refine And.intro ?_ ?_|refine fun h=> ?_)
    all_goals first
     |exact n (by simp [X6];omega)
     |exact c _ 1 ⟨by omega,fun _=>by rw [hh];simp [X6];omega,by omega,by omega,by omega⟩ zd zo
  ·obtain⟨q,a,b,f⟩:=g
   have r:=q zd
   refine Run.unf E5 (Run.go 100 ?_)
   refine QL ?_
   have n:X6 s.hb s.lb s.mb i.b=false→6=A2E s i:=fun e=>by unfold A2E;rw [m,p,l,u,r,e];simp
   cases hh:s.hb<;>rw [hh]at n<;>simp -implicitDefEqProofs only [go_sem,hh]
   ·exact Kc
   ·repeat' (first|refine And.intro ?_ ?_|refine fun h=> ?_)
    all_goals first
     |exact n (by simp [X6];omega)
     |exact c _ 2 ⟨by omega,fun _=>q zd,fun _=>by rw [hh];simp [X6];omega,by omega,by omega⟩ zd zo
  ·obtain⟨q,a,b,f⟩:=g
   have r:=q zd
   have k:=a zd
   refine Run.unf E5 (Run.go 100 ?_)
   refine QL ?_
   have n:X6 s.hc s.lc s.mc i.c=false→6=A2E s i:=fun e=>by unfold A2E;rw [m,p,l,u,r,k,e];simp
   cases hh:s.hc<;>rw [hh]at n<;>simp -implicitDefEqProofs only [go_sem,hh]
   ·exact YV
   ·repeat' (first|refine And.intro ?_ ?_|refine fun h=> ?_)
    all_goals first
     |exact n (by simp [X6];omega)
     |exact c _ 3 ⟨by omega,fun _=>q zd,fun _=>a zd,fun _=>by rw [hh];simp [X6];omega,by omega⟩ zd zo
  ·obtain⟨q,a,b,f⟩:=g
   have r:=q zd
   have k:=a zd
   have t:=b zd
   refine Run.unf E5 (Run.go 100 ?_)
   refine QL ?_
   have n:X6 s.hd s.ld s.md i.d=false→6=A2E s i:=fun e=>by unfold A2E;rw [m,p,l,u,r,k,t,e];simp
   cases hh:s.hd<;>rw [hh]at n<;>simp -implicitDefEqProofs only [go_sem,hh]
   ·exact YT
   ·repeat' (first|refine And.intro ?_ ?_|refine fun h=> ?_)
    all_goals first
     |exact n (by simp [X6];omega)
     |exact c _ 4 ⟨by omega,fun _=>q zd,fun _=>a zd,fun _=>b zd,fun _=>by rw [hh];simp [X6];omega⟩ zd zo
 ·obtain⟨q,a,b,f⟩:=g
  refine Run.unf F5 (Run.go 100 ?_)
  refine QL ?_
  have n:X5 s.ha i.a=false→4=A2E s i:=fun e=>by unfold A2E;rw [e];simp
  cases hh:s.ha<;>rw [hh]at n<;>simp -implicitDefEqProofs only [go_sem,hh]
  ·repeat' (first|refine And.intro ?_ ?_|refine fun h=> ?_)
   all_goals first
    |exact n (by simp [X5];omega)
    |exact c _ 1 ⟨by omega,fun _=>by rw [hh];simp [X5];omega,by omega,by omega,by omega⟩ zd zo
  ·exact Kh
 ·obtain⟨q,a,b,f⟩:=g
  have r:=q zd
  refine Run.unf F5 (Run.go 100 ?_)
  refine QL ?_
  have n:X5 s.hb i.b=false→4=A2E s i:=fun e=>by unfold A2E;rw [r,e];simp
  cases hh:s.hb<;>rw [hh]at n<;>simp -implicitDefEqProofs only [go_sem,hh]
  ·repeat' (first|refine And.intro ?_ ?_|refine fun h=> ?_)
   all_goals first
    |exact n (by simp [X5];omega)
    |exact c _ 2 ⟨by omega,fun _=>q zd,fun _=>by rw [hh];simp [X5];omega,by omega,by omega⟩ zd zo
  ·exact Kc
 ·obtain⟨q,a,b,f⟩:=g
  have r:=q zd
  have k:=a zd
  refine Run.unf F5 (Run.go 100 ?_)
  refine QL ?_
  have n:X5 s.hc i.c=false→4=A2E s i:=fun e=>by unfold A2E;rw [r,k,e];simp
  cases hh:s.hc<;>rw [hh]at n<;>simp -implicitDefEqProofs only [go_sem,hh]
  ·repeat' (first|refine And.intro ?_ ?_|refine fun h=> ?_)
   all_goals first
    |exact n (by simp [X5];omega)
    |exact c _ 3 ⟨by omega,fun _=>q zd,fun _=>a zd,fun _=>by rw [hh];simp [X5];omega,by omega⟩ zd zo
  ·exact YV
 ·obtain⟨q,a,b,f⟩:=g
  have r:=q zd
  have k:=a zd
  have t:=b zd
  refine Run.unf F5 (Run.go 100 ?_)
  refine QL ?_
  have n:X5 s.hd i.d=false→4=A2E s i:=fun e=>by unfold A2E;rw [r,k,t,e];simp
  cases hh:s.hd<;>rw [hh]at n<;>simp -implicitDefEqProofs only [go_sem,hh]
  ·repeat' (first|refine And.intro ?_ ?_|refine fun h=> ?_)
   all_goals first
    |exact n (by simp [X5];omega)
    |exact c _ 4 ⟨by omega,fun _=>q zd,fun _=>a zd,fun _=>b zd,fun _=>by rw [hh];simp [X5];omega⟩ zd zo
  ·exact YT
theorem B0n(i:Ins):Pure Tryz.prog 120 [i.v] (.int .i64 (chk i)):=D1j i ▸ B9X i
end
section
open Go.Abs
attribute [local irreducible] A0 Run
-- EV: Ins.v, Ins.row
attribute [local go_sem] Ins.v Ins.row
theorem C7g(l:List Int)(F:Asc l)(L:l.length≤100000)(r:Int):Pure Tryz.prog 164 [.isl (l.map zrw),.int .i64 r] (.isl ((B6f l r).map zrw)):=by
 refine Pure.of 1 (A0.enter A3o Jk ?_)
 have p: ∀(k:Nat) (x:Int),l[k]? =some x→(l.map zrw)[k]? =some [.int .i64 x]:=fun k x h=>P9 h
 have a:(l.map zrw).length=l.length:=List.length_map ..
 have b:=B3Y l
 generalize l.map zrw=I at*
 refine Run.go 100 ?_
 refine QM ?_
 refine Run.rounds (fun(x:Nat×Nat×Nat)=>⟨[(7,.int .i64 x.1),(6,.bool (M3 l r x.1)),(5,.sl (164*10000+8) x.2.1 0 (A9I l r x.1).length),(1,.int .i64 r),(0,.isl I)],[((164*10000+8),x.2.1,.rows 1 ((A9I l r x.1).map zrw))],x.2.2⟩)
  (fun x=>x.1≤l.length) (fun x=>l.length-x.1) (0,0,1) (by simp -implicitDefEqProofs only [go_sem,B8I,M3,List.take_zero,List.any_nil,List.length_nil,List.map_nil]) zg ?_
 rintro⟨k,E,m⟩ H o
 simp only at H⊢
 have w:((k+1:Nat):Int)=(k:Int)+1:=by omega
 refine Run.unf A1d (Run.go 100 ?_)
 have G:=C1O l r k
 by_cases c:(k:Int)<l.length
 ·obtain⟨x,C⟩: ∃x,l[k]? =some x:=⟨l[k]' zd,by simp⟩
  have t:=p k x C
  have q:((0:Int)≤(k:Int))=True:=Ji
  have g:((k:Int)<(l.length:Int))=True:=eq_true c
  have v:(k<l.length)=True:=Ji
  have d:=B8H F (r:=r) C
  have f:=B1u (r:=r) C
  by_cases z:M3 l r k=false∧r≤x
  ·rw [if_pos z]at d
   obtain⟨i,u⟩:=z
   have D:decide (r≤x)=true:=by simp [u]
   rw [i,D]at f
   have B:=eq_true u
   by_cases e:x=r
   ·exact JG
   ·exact JH
  ·rw [if_neg z,List.append_nil]at d
   have j:M3 l r k=true∨ ¬r≤x:=by
    cases h:M3 l r k with
    |true=>exact .inl rfl
    |false=>exact .inr fun n=>z ⟨h,n⟩
   have fin: ∀s,M3 l r (k+1)=M3 l r k→_:=fun s h=>o s (k+1,m,m+1) zg zg
   by_cases e:x=r
   ·exact JL
   ·rw [if_neg e]at d
    have y:=eq_false e
    cases h:M3 l r k with
    |true=>
     rw [h,Bool.true_or]at f
     simp -implicitDefEqProofs only [go_sem,a,t,b,q,g,v,h,y,Option.some.injEq,forall_eq']
     refine⟨by omega,by omega,?_⟩
     refine o _ (k+1,m,m+1) zg zg ?_
     simp only [w,d,f,List.map_append,List.length_append,List.map_cons,List.map_nil,List.length_cons,List.length_nil,zrw]
     exact Xx
    |false=>
     exact Jz
 ·exact Jw
theorem C9h(l:List Int):(F7 l).length≤l.length:=Nat.le_trans (Lib.compact_length_le _) zI
theorem C7h(l:List Int)(v:l.length≤1000):Pure Tryz.prog 121 [.isl (l.map zrw)] (.isl ((F7 l).map zrw)):=by
 refine Pure.of 1 (A0.enter A3p Jk ?_)
 have b: ∀(k:Nat) (x:Int),l[k]? =some x→(l.map zrw)[k]? =some [.int .i64 x]:=fun k x h=>P9 h
 have a:(l.map zrw).length=l.length:=List.length_map ..
 have f:=B3Y l
 generalize l.map zrw=p at*
 refine Run.go 100 ?_
 refine QM ?_
 refine Run.keep [4,3,0] ?_
 refine Run.roundsK (fun(x:Nat)=>⟨[(4,.int .i64 x),(3,.isl ((F7 (l.take x)).map zrw)),(0,.isl p)],[],1⟩) (fun x=>x≤l.length) (fun x=>l.length-x) 0 ?_ (Nat.zero_le _) ?_
 ·refine .turn id ⟨.refl _,?_,.refl _,trivial⟩ trivial
  rw [List.take_zero,J9]
  exact I3.slI
 rintro k y u
 refine Run.unf A1e (Run.go 100 ?_)
 by_cases c:k<l.length
 ·have t:((k:Int)<(l.length:Int))=True:=Ji
  have q:((0:Int)≤(k:Int))=True:=Ji
  obtain⟨x,m⟩: ∃x,l[k]? =some x:=⟨l[k],by simp [c]⟩
  have j:=b k x m
  have i:((k+1:Nat):Int)=(k:Int)+1:=by omega
  have g:(F7 (l.take k)).length≤100000:=by
   have:=Nat.le_trans (C9h (l.take k)) (List.length_take_le k l);omega
  have n:=C7g (F7 (l.take k)) (A6V _) g x
  have o:B6f (F7 (l.take k)) x=F7 (l.take (k+1)):=by rw [B6g,List.take_add_one,m];rfl
  rw [o]at n
  have s:((F7 (l.take k)).map zrw).map (fun r=>r.map (V.sub C7))=(F7 (l.take k)).map zrw:=B7k _
  have w:=fun d h=>O7 d h (F7 (l.take (k+1)))
  generalize (F7 (l.take k)).map zrw=z at*
  simp -implicitDefEqProofs only [go_sem,t,q,a,f,j,c,Option.some.injEq,forall_eq']
  refine A0.pureF n zP ?_
  refine QL ?_
  refine⟨by omega,?_⟩
  exact u _ (k+1) zd zd (C1.wk (by simp -implicitDefEqProofs only [go_sem,i]))
 have e:k=l.length:=by omega
 subst e
 rw [List.take_length]
 simp -implicitDefEqProofs only [go_sem,Int.lt_irrefl,a]
 exact O7 _ _ _
theorem C4j(l:List Int)(a n:Int)(B:l.length≤1000)(A: -100000≤a∧a≤100000)(C:n≤100000)(b st p:Nat):A0 Tryz.prog 123 [.sl b st 0 l.length,.int .i64 a,.int .i64 n] [(b,st,.rows 1 (l.map zrw))] p fun r v _=> ∃o,r= .sl b o 0 (l++G3 a n.toNat).length∧v= [(b,o,.rows 1 ((l++G3 a n.toNat).map zrw))]:=by
 refine A0.enterK d6 Jk fun Q z=>Run.go 100 ?_
 refine QM ?_
 refine Run.keep [7,2,1,0] ?_
 refine Run.rounds (fun(x:Nat×Nat×Nat)=>⟨[(7,.int .i64 x.1),(2,.int .i64 n),(1,.int .i64 a),(0,.sl b x.2.1 0 (l++G3 a x.1).length)],[(b,x.2.1,.rows 1 ((l++G3 a x.1).map zrw))],x.2.2⟩)
   (fun x=>x.1≤n.toNat) (fun x=>n.toNat-x.1) (0,st,p) (by simp -implicitDefEqProofs only [go_sem,C4u,List.append_nil]) zg ?_
 rintro⟨k,st,m⟩ q j
 simp only at q j⊢
 have t:((k+1:Nat):Int)=(k:Int)+1:=by omega
 have w:=B0Q a k
 have y:(l++G3 a k).length=l.length+k:=by simp [w]
 have g:(l++G3 a (k+1)).map zrw=(l++G3 a k).map zrw++ [[.int .i64 (a+k)]]:=by rw [A3J];simp [zrw]
 have i:(l++G3 a (k+1)).length=(l++G3 a k).length+1:=by rw [A3J];simp;try omega
 have d:((l++G3 a k).map zrw).length=(l++G3 a k).length:=List.length_map ..
 refine Run.unf S9 (Run.go 100 ?_)
 by_cases c:(k:Int)<n
 ·have fin:=fun s=>j s (k+1,m,m+1) zg zg
  clear j
  simp only [t,g,i]at fin
  generalize (l++G3 a k).map zrw=f at*
  generalize (l++G3 a k).length=u at*
  refine QO ?_
  have h:f.take u=f:=List.take_of_length_le zd
  rw [h]
  exact⟨by omega,by omega,by omega,by omega,fin _ ze⟩
 ·have e:k=n.toNat:=by omega
  subst e
  have h:((l++G3 a n.toNat).map zrw).take (l++G3 a n.toNat).length=(l++G3 a n.toNat).map zrw:=List.take_of_length_le (by rw [d];exact Nat.le_refl _)
  generalize (l++G3 a n.toNat).map zrw=f at*
  refine QO ?_
  subst z
  exact .is ⟨st,by rw [List.length_append],rfl⟩
theorem B3Z(a n:Int)(y: -100000≤a∧a≤100000)(z:n≤100000)(d:Nat):A0 Tryz.prog 123 [.nils,.int .i64 a,.int .i64 n] [] d fun r u _=>r= .isl ((G3 a n.toNat).map zrw)∧u= []:=by
 refine A0.enterK d6 Jk fun Q v=>Run.go 100 ?_
 refine QM ?_
 refine Run.roundsK (fun(x:Nat×Nat×Nat)=>⟨[(7,.int .i64 x.1),(2,.int .i64 n),(1,.int .i64 a),(0,.sl (123*10000+18) x.2.1 0 (G3 a x.1).length)],[((123*10000+18),x.2.1,.rows 1 ((G3 a x.1).map zrw))],x.2.2⟩)
   (fun x=>x.1≤n.toNat) (fun x=>n.toNat-x.1) (0,d,d+1) ?_ zg ?_
 ·refine .trans (.fresh (123*10000+18) 1 _ _ _) (.turn id ?_ (.at 0 rfl rfl (.refl _) trivial))
  exact⟨.refl _,.refl _,.refl _,.nils,trivial⟩
 rintro⟨k,st,m⟩ p i
 simp only at p i⊢
 have q:((k+1:Nat):Int)=(k:Int)+1:=by omega
 have o:=B0Q a k
 have w:(G3 a k).length=k:=by simp [o]
 have g:(G3 a (k+1)).map zrw=(G3 a k).map zrw++ [[.int .i64 (a+k)]]:=by rw [A3J];simp [zrw]
 have j:(G3 a (k+1)).length=(G3 a k).length+1:=by rw [A3J];simp;try omega
 have f:((G3 a k).map zrw).length=(G3 a k).length:=List.length_map ..
 refine Run.unf S9 (Run.go 100 ?_)
 by_cases c:(k:Int)<n
 ·have fin:=fun s=>i s (k+1,m,m+1) zg zg
  clear i
  simp only [q,g,j]at fin
  generalize (G3 a k).map zrw=l at*
  generalize (G3 a k).length=t at*
  refine QO ?_
  have h:l.take t=l:=List.take_of_length_le zd
  rw [h]
  exact⟨by omega,by omega,by omega,by omega,fin _ (C1.wk ze)⟩
 ·have e:k=n.toNat:=by omega
  subst e
  have h:((G3 a n.toNat).map zrw).take (G3 a n.toNat).length=(G3 a n.toNat).map zrw:=List.take_of_length_le (by rw [f];exact Nat.le_refl _)
  refine QO ?_
  subst v
  exact .to (r2:= .isl _) (n2:=m) ⟨rfl,rfl⟩ (.freeze (b:=(123*10000+18)) (st:=st) (sz:=1) (rs:=(G3 a n.toNat).map zrw) List.mem_cons_self ⟨Frz.all (by simp [o]),trivial⟩ trivial)
theorem C4f(c a n:Int)(j: -100000≤a∧a≤100000)(f:n≤100000)(b st g:Nat):A0 Tryz.prog 122 [.sl b st 0 1,.int .i64 a,.int .i64 n] [(b,st,.rows 1 ([c].map zrw))] g fun r e _=> ∃s,r= .tup [.sl b s 0 (c::(I1 a n).1).length,.int .i64 (I1 a n).2]∧e= [(b,s,.rows 1 ((c::(I1 a n).1).map zrw))]:=by
 have i:=C4j [c] a n zf j f b st
 refine A0.enterK d5 Jk fun Q d=>Run.go 100 ?_
 by_cases h:n<0
 ·rw [A7Q h]at d
  refine Ja ?_
  subst d
  exact .is ⟨st,rfl,rfl⟩
 ·rw [A7R h]at d
  refine Ja ?_
  refine A0.at [0] [] (i _) rfl rfl ?_
  rintro r e k f ⟨s,rfl,rfl⟩
  refine QL ?_
  subst d
  exact .is ⟨s,rfl,rfl⟩
theorem I3.tupN{x:V}:I3 (.tup [.nils,x]) (.tup [.isl [],x]):=fun E y h=>by
 cases h with
 | tup _ f e d=>
  refine .tup _ f e fun i c v a b=> ?_
  match i with
  |0=>
   cases a
   have:=d 0 .nils v rfl b
   cases this
   exact .isl0 _ _
  |i+1=>exact d (i+1) c v a b
theorem B3U(a n:Int)(g: -100000≤a∧a≤100000)(e:n≤100000)(c:Nat):A0 Tryz.prog 122 [.nils,.int .i64 a,.int .i64 n] [] c fun r d _=>r= .tup [.isl ((I1 a n).1.map zrw),.int .i64 (I1 a n).2]∧d= []:=by
 have f:=B3Z a n g e
 refine A0.enterK d5 Jk fun Q b=>Run.go 100 ?_
 by_cases h:n<0
 ·rw [A7Q h]at b
  refine Ja ?_
  subst b
  exact .to (r2:= .tup [.isl [],.int .i64 a]) (n2:=c) ⟨rfl,rfl⟩ (.turn id ⟨I3.tupN,trivial⟩ trivial)
 ·rw [A7R h]at b
  refine Ja ?_
  refine A0.at [] [] (f _) rfl rfl ?_
  rintro r d i e ⟨rfl,rfl⟩
  refine QL ?_
  subst b
  exact XR
end
end Go.Proofs.YtcaaenddpjepiaaGreatDoor
