/-
 The reference's sets of registers: 'registers', 'marks', 'uses', 'defines'. No condition.
-/
import Derived.Test.YtcaaenddpjepiaaGreatDoorLiveP
import Derived.Test.YtcaaenddpjepiaaGreatDoorFlowL
import Derived.Test.YtcaaenddpjepiaaGreatDoorFlowS
set_option linter.unusedVariables false
set_option linter.unusedSimpArgs false
set_option maxRecDepth 100000
set_option maxHeartbeats 0
namespace Go.Proofs.YtcaaenddpjepiaaGreatDoor
section
open Go.Abs
attribute [local irreducible] A0 Run
-- EV: Ins.v, Ins.row
attribute [local go_sem] Ins.v Ins.row
theorem B3x{N x:Nat}{f:Nat→Bool}(h:x<N):(D7 N f).set x [.bool true]=D7 N (fun y=>f y||decide (y=x)):=by
 refine List.ext_getElem? fun j=> ?_
 rw [List.getElem?_set,H6]
 by_cases a:j<N
 ·rw [R0 a,R0 a]
  by_cases d:x=j
  ·subst d;simp [a]
  ·rw [if_neg d];simp [Ne.symm d]
 ·rw [List.getElem?_eq_none (by rw [H6];omega),List.getElem?_eq_none (by rw [H6];omega)]
  split<;>first|omega|rfl
theorem A9R(N:Nat)(f:Nat→Bool):C4 (D7 N f) 1=True:=eq_true fun r h=>by obtain⟨y,_,rfl⟩:=List.mem_map.1 h;rfl
theorem B7S(d:Nat)(h:A2)(N:Nat)(f:Nat→Bool):(D7 N f).map (fun r=>r.map (frz d h))=D7 N f:=by
 unfold D7
 rw [List.map_map]
 exact List.map_congr_left fun y _=>by cases d<;>rfl
theorem B6M(p:Pro):Pure Tryz.prog 72 [.agg p.row] (.int .i64 (j7 p.regs)):=by
 obtain⟨h,a⟩:=A3F p
 have g:p.row[4]? =some (.int .i64 p.regs):=by rw [p.row_eq];rfl
 generalize p.row=b at*
 refine Pure.of 0 (A0.enter p9 Jk (Run.go 100 ?_))
 simp -implicitDefEqProofs only [go_sem,A4,h,a,g]
 unfold j7
 (repeat' split)<;>omega
theorem B6v(N:Nat)(hN:N≤4096)(l:List Int)(hl:l.length≤100000)(d:Int)(n:Nat):A0 Tryz.prog 95 [.int .i64 N,.isl (l.map zrw),.int .i64 d] [] n fun r h' _=> ∃O,r= .sl (95*10000+11) O 0 N∧h'= [((95*10000+11),O,.rows 1 (D7 N (A4m N l d fun _=>false)))]:=by
 have z: ∀(k:Nat) (x:Int),l[k]? =some x→(l.map zrw)[k]? =some [.int .i64 x]:=fun k x h=>P9 h
 have m:(l.map zrw).length=l.length:=List.length_map ..
 have p:=H1 l
 generalize l.map zrw=es at*
 have H: ∃g,g=A4m N l d (fun _=>false):=⟨_,rfl⟩
 obtain⟨g,F⟩:=H
 rw [←F]
 refine A0.enterK A2c Jk fun Q P=>Run.go 100 ?_
 refine QM ?_
 refine⟨by omega,by omega,?_⟩
 rw [←A8b N]
 refine Run.keep [8,7,2,1,0] ?_
 refine Run.rounds (fun(k:Nat)=>⟨[(8,.int .i64 k),(7,.sl (95*10000+11) n 0 N),(2,.int .i64 d),(1,.isl es),(0,.int .i64 N)],[((95*10000+11),n,.rows 1 (D7 N (A3X N l k fun _=>false)))],n+1⟩) (fun k=>k≤l.length) (fun k=>l.length-k) 0 (by simp -implicitDefEqProofs only [go_sem,B8J]) (Nat.zero_le _) ?_
 rintro k Y C
 refine Run.unf A0b (Run.go 100 ?_)
 have v:((k+1:Nat):Int)=(k:Int)+1:=by omega
 by_cases o:k<l.length
 ·have M:((k:Int)<(l.length:Int))=True:=Ji
  have I:((0:Int)≤(k:Int))=True:=Ji
  obtain⟨x,E⟩: ∃x,l[k]? =some x:=⟨l[k],by simp [o]⟩
  have w:=z k x E
  by_cases c:0≤x∧x<(N:Int)
  ·obtain⟨y,rfl⟩: ∃y:Nat,x=y:=⟨x.toNat,by omega⟩
   have W:((0:Int)≤(y:Int))=True:=Ji
   have U:((y:Int)<(N:Int))=True:=eq_true c.2
   have D:y<N:=by omega
   have K:=C1T (f:=fun _=>false) E D
   have A:=B3x (f:=A3X N l k fun _=>false) D
   rw [K]at A
   have q:=H6 N (A3X N l k fun _=>false)
   have u:=A9R N (A3X N l k fun _=>false)
   have fin:=fun s=>C s (k+1) zd zd
   rw [←A]at fin
   obtain⟨S,t⟩: ∃b,(D7 N (A3X N l k fun _=>false))[y]? =some [.bool b]:=⟨_,R0 D⟩
   generalize D7 N (A3X N l k fun _=>false)=B at*
   simp -implicitDefEqProofs only [go_sem,M,I,m,p,w,o,W,U,D,q,u,t,ge_iff_le,Option.some.injEq,forall_eq']
   exact Ya
  ·have X:=C5u (N:=N) (f:=fun _=>false) E c
   have fin:=fun s=>C s (k+1) zd zd
   rw [X]at fin
   by_cases L:0≤x
   ·have Z: ¬x<(N:Int):=fun h=>c ⟨L,h⟩
    simp -implicitDefEqProofs only [go_sem,M,I,m,p,w,o,L,Z,ge_iff_le,Option.some.injEq,forall_eq']
    exact Ya
   ·simp -implicitDefEqProofs only [go_sem,M,I,m,p,w,o,L,ge_iff_le,Option.some.injEq,forall_eq']
    exact Ya
 have e:k=l.length:=by omega
 subst e
 clear C o Y
 simp -implicitDefEqProofs only [go_sem,Int.lt_irrefl,m]
 refine Run.keep [9,7,0] ?_
 by_cases V:0≤d
 case neg=>
  rw [C5t zd]at F
  refine Run.rounds (fun(_:Unit)=>⟨[(9,.int .i64 d),(7,.sl (95*10000+11) n 0 N),(0,.int .i64 N)],[((95*10000+11),n,.rows 1 (D7 N (A3X N l l.length fun _=>false)))],n+1⟩) (fun _=>True) (fun _=>0) () ze trivial ?_
  rintro _ _ _
  refine Run.unf J6 (Run.go 100 ?_)
  simp -implicitDefEqProofs only [go_sem,V,ge_iff_le]
  subst P
  exact .is ⟨n,rfl,by rw [F]⟩
 obtain⟨i,rfl⟩: ∃i:Nat,d=i:=⟨d.toNat,by omega⟩
 refine Run.rounds (fun(j:Nat)=>⟨[(9,.int .i64 (i+j:Nat)),(7,.sl (95*10000+11) n 0 N),(0,.int .i64 N)],[((95*10000+11),n,.rows 1 (D7 N (A7m N l i ((i+j:Nat):Int) fun _=>false)))],n+1⟩) (fun _=>True) (fun j=>N-(i+j)) 0 (by simp only [Nat.add_zero,B6G];simp -implicitDefEqProofs only [go_sem]) trivial ?_
 rintro j _ C
 refine Run.unf J6 (Run.go 100 ?_)
 have R:((0:Int)≤((i+j:Nat):Int))=True:=Ji
 have G:((i+(j+1):Nat):Int)=((i+j:Nat):Int)+1:=by omega
 generalize E:i+j=x at*
 by_cases c:x<N
 ·have J:((x:Int)<(N:Int))=True:=Ji
  have K:=B8K (N:=N) (l:=l) (a:=(i:Int)) (f:=fun _=>false) (x:=x) zd c
  have A:=B3x (f:=A7m N l i x fun _=>false) c
  rw [K]at A
  have q:=H6 N (A7m N l i x fun _=>false)
  have u:=A9R N (A7m N l i x fun _=>false)
  have fin:=fun s=>C s (j+1) trivial zd
  simp only [G]at fin
  rw [←A]at fin
  obtain⟨S,t⟩: ∃b,(D7 N (A7m N l i x fun _=>false))[x]? =some [.bool b]:=⟨_,R0 c⟩
  generalize D7 N (A7m N l i x fun _=>false)=B at*
  simp -implicitDefEqProofs only [go_sem,R,J,c,q,u,t,ge_iff_le,Option.some.injEq,forall_eq']
  refine⟨by omega,fin _ ze⟩
 ·have J:((x:Int)<(N:Int))=False:=Jj
  have T:=C1U (N:=N) (l:=l) (a:=(i:Int)) (x:=(x:Int)) (f:=fun _=>false) zd zd
  simp -implicitDefEqProofs only [go_sem,R,J,ge_iff_le]
  subst P
  exact .is ⟨n,rfl,by rw [F,←T]⟩
theorem C3W(p:Pro)(o:p.row.map (V.sub C7)=p.row)(a:Nat)(s:a<p.code.length)(M:p.code.length≤10000)(x:Int):Pure Tryz.prog 75 [.agg p.row,.int .i64 a,.int .i64 x,.int .i64 (j7 p.regs)] (.isl (D7 (j7 p.regs) (B4V p a x))):=by
 obtain⟨B,A⟩:=A3F p
 have u:p.row[5]? =some (.isl (p.code.map Ins.row)):=by rw [p.row_eq];rfl
 have y:(p.code.map Ins.row).length=p.code.length:=List.length_map ..
 have E:=B6U Ins.row 5 (fun _=>rfl) p.code
 obtain⟨i,q⟩: ∃i,p.code[a]? =some i:=⟨p.code[a],by simp [s]⟩
 have m:(p.code.map Ins.row)[a]? =some i.row:=by rw [List.getElem?_map,q];rfl
 have z:=A8w i
 have w:=A2r i
 have F:=A5R (B1p i) (fun x l=>(w.1 x l).1) (fun x l=>(w.1 x l).2)
 have t:=B2Y p.regs
 have D:=fun n=>B6v (j7 p.regs) t (C6 i).1 zd (C6 i).2 n
 have j:B4V p a x=if (i.op=24∨i.op=26)∧ ¬(x=i.b∧x≠a+1)∨i.op=23∧x=i.b then fun _=>false else A4m (j7 p.regs) (C6 i).1 (C6 i).2 fun _=>false:=by unfold B4V B8c;rw [q]
 have e:=fun d h f=>B7S d h (j7 p.regs) f
 have k:=fun f=>H6 (j7 p.regs) f
 generalize B4V p a x=g at*
 generalize A4m (j7 p.regs) (C6 i).1 (C6 i).2 (fun _=>false)=Q at*
 generalize (C6 i).2=L at*
 generalize (C6 i).1.map zrw=R at*
 generalize j7 p.regs=N at*
 generalize p.code.map Ins.row=O at*
 generalize p.row=P at*
 obtain⟨I,J,b,c,d⟩:=i
 simp only [Ins.v,Ins.row]at*
 have C:((0:Int)≤(a:Int))=True:=Ji
 have v:((a:Int)<(p.code.length:Int))=True:=Ji
 refine Pure.of 1 (A0.enter A0H Jk (Run.go 100 ?_))
 simp -implicitDefEqProofs only [go_sem,A4,B,A,u,y,E,m,s,C,v,Option.some.injEq,forall_eq']
 repeat' (first|refine And.intro ?_ ?_|refine fun h=> ?_)
 all_goals (try simp only [Bool.not_eq_eq_eq_not,Bool.not_true,Bool.not_false,decide_eq_false_iff_not,decide_eq_true_eq,Decidable.not_not]at*)
 all_goals first
  |omega
  | (rw [if_pos zd]at j
     rw [j,List.take_of_length_le zf,←A8b]
     exact e _ _ _)
  | (rw [if_neg zd]at j
     refine A0.pureF z ze ?_
     refine QL ?_
     refine A0.at [] [] (D _) rfl rfl ?_
     rintro r S H K ⟨G,rfl,rfl⟩
     simp -implicitDefEqProofs only [go_sem,k,e]
     rw [j,List.take_of_length_le (by rw [H6];exact Nat.le_refl _)]
     exact e _ _ _)
theorem C7I{N:Nat}{u:List (List UInt8×Bool×Int)}{k:Nat}{c:List UInt8}{a:Bool}{b:Int}{f:Nat→Bool}(h:u[k]? =some (c,a,b)):upsF N (u.take (k+1)) f=if a then A4m N [b] (-1) (upsF N (u.take k) f)else upsF N (u.take k) f:=B8Z h
theorem C9s{N x:Nat}{f:Nat→Bool}(h:x<N):A4m N [(x:Int)] (-1) f=fun y=>f y||decide (y=x):=by
 funext y
 unfold A4m
 by_cases c:y=x
 ·subst c;simp [h]
 ·have: ¬(y:Int)=(x:Int):=by omega
  simp [c,this]
theorem C9t{N:Nat}{z:Int}{f:Nat→Bool}(h: ¬(0≤z∧z<(N:Int))):A4m N [z] (-1) f=f:=by
 funext y
 unfold A4m
 by_cases c:y<N
 ·have: ¬(y:Int)=z:=by omega
  simp [c,this]
 ·simp [c]
theorem C4m(p:Pro)(hsub:p.row.map (V.sub C7)=p.row)(Q: ∀q∈p.protos,q.ups.length≤100000)(a:Nat)(ha:a<p.code.length)(hc:p.code.length≤10000):Pure Tryz.prog 73 [.agg p.row,.int .i64 a,.int .i64 (j7 p.regs)] (.isl (D7 (j7 p.regs) (A7T p a))):=by
 obtain⟨S,R⟩:=A3F p
 have g5:p.row[5]? =some (.isl (p.code.map Ins.row)):=by rw [p.row_eq];rfl
 have k5:(p.code.map Ins.row).length=p.code.length:=List.length_map ..
 have z5:=B6U Ins.row 5 (fun _=>rfl) p.code
 have g8:p.row[8]? =some (.isl (p.protos.map Pro.row)):=by rw [p.row_eq];rfl
 have k8:(p.protos.map Pro.row).length=p.protos.length:=List.length_map ..
 have z8:=B6U Pro.row 11 (fun q=>(A3F q).1) p.protos
 have r8: ∀(k:Nat) x,p.protos[k]? =some x→(p.protos.map Pro.row)[k]? =some (Pro.row x):=fun k x I=>by rw [List.getElem?_map,I];rfl
 obtain⟨i,hi⟩: ∃i,p.code[a]? =some i:=⟨p.code[a],by simp [ha]⟩
 have T:(p.code.map Ins.row)[a]? =some i.row:=by rw [List.getElem?_map,hi];rfl
 have hw:=B0q i
 have w2:=A3Y i
 have l2:=A5R (B0B i) (fun x E=>(w2.1 x E).1) (fun x E=>(w2.1 x E).2)
 have hN:=B2Y p.regs
 have hm:=fun n=>B6v (j7 p.regs) hN (reads i).1 zd (reads i).2 n
 have t:A7T p a=if i.op=22∧0≤i.b∧i.b<p.protos.length then upsF (j7 p.regs) ((p.protos[i.b.toNat]?).elim [] (·.ups)) (A4m (j7 p.regs) (reads i).1 (reads i).2 fun _=>false)else A4m (j7 p.regs) (reads i).1 (reads i).2 fun _=>false:=by
  funext r;unfold A7T;rw [hi];rfl
 have w:=fun d h f=>B7S d h (j7 p.regs) f
 have j:=fun f=>H6 (j7 p.regs) f
 have hbz:=fun f=>A9R (j7 p.regs) f
 generalize A7T p a=g at*
 generalize hg0:A4m (j7 p.regs) (reads i).1 (reads i).2 (fun _=>false)=A at*
 generalize (reads i).2=wf at*
 generalize (reads i).1.map zrw=ws at*
 generalize hNe:j7 p.regs=N at*
 generalize p.code.map Ins.row=es at*
 generalize p.protos.map Pro.row=PR at*
 generalize p.row=pr at*
 obtain⟨op,a',b,c,d⟩:=i
 simp only [Ins.v,Ins.row]at*
 have q0:((0:Int)≤(a:Int))=True:=Ji
 have q1:((a:Int)<(p.code.length:Int))=True:=Ji
 have J: ∀f,(D7 N f).take N=D7 N f:=fun f=>List.take_of_length_le (by rw [j];exact Nat.le_refl _)
 refine Pure.of 1 (A0.enter A2X Jk (Run.go 100 ?_))
 simp -implicitDefEqProofs only [go_sem,A4,S,R,g5,k5,z5,T,ha,q0,q1,Option.some.injEq,forall_eq']
 refine A0.pureF hw ze ?_
 refine QL ?_
 refine A0.at [] [0,1] (hm _) rfl rfl ?_
 rintro r h' n' hn ⟨st,rfl,rfl⟩
 by_cases ho:op=22
 case neg=>
  rw [if_neg (fun h=>ho h.1)]at t
  simp -implicitDefEqProofs only [go_sem,ho,j,J,w]
  rw [t]
 subst ho
 by_cases y:0≤b
 case neg=>
  rw [if_neg (fun h=>y h.2.1)]at t
  have u:(b<0)=True:=Ji
  simp -implicitDefEqProofs only [go_sem,u,j,J,w]
  rw [t]
 have u:(b<0)=False:=Jj
 by_cases m:b<(p.protos.length:Int)
 case neg=>
  rw [if_neg (fun h=>m h.2.2)]at t
  have U:((p.protos.length:Int)≤b)=True:=Ji
  simp -implicitDefEqProofs only [go_sem,u,U,S,R,g8,k8,ge_iff_le,j,J,w]
  rw [t]
 rw [if_pos ⟨rfl,y,m⟩]at t
 obtain⟨q,hq⟩: ∃q,p.protos[b.toNat]? =some q:=⟨p.protos[b.toNat]' zd,by simp⟩
 have hqr:=r8 _ q hq
 have hqu:=Q q (List.mem_of_getElem? hq)
 obtain⟨y1,y2⟩:=A3F q
 have y9:q.row[9]? =some (.isl (q.ups.map A6m)):=by rw [q.row_eq];rfl
 have H:(q.ups.map A6m).length=q.ups.length:=List.length_map ..
 have M:=B6U A6m 3 (fun _=>rfl) q.ups
 have r9: ∀(k:Nat) x,q.ups[k]? =some x→(q.ups.map A6m)[k]? =some [.str x.1,.bool x.2.1,.int .i64 x.2.2]:=fun k x I=>by rw [List.getElem?_map,I];rfl
 rw [hq]at t
 simp only [Option.elim_some]at t
 generalize q.ups.map A6m=us at*
 generalize q.row=qr at*
 have U:((p.protos.length:Int)≤b)=False:=Jj
 have d4:(b.toNat<p.protos.length)=True:=Ji
 have F:=eq_true y
 have G:=eq_true m
 simp -implicitDefEqProofs only [go_sem,u,U,d4,F,G,S,R,g8,k8,z8,hqr,y1,y2,y9,ge_iff_le,Option.some.injEq,forall_eq']
 refine Run.keep [12,11,10,2] ?_
 refine Run.rounds (fun(k:Nat)=>⟨[(12,.int .i64 k),(11,.isl us),(10,.sl (95*10000+11) st 0 N),(2,.int .i64 N)],[((95*10000+11),st,.rows 1 (D7 N (upsF N (q.ups.take k) A)))],n'⟩) (fun k=>k≤q.ups.length) (fun k=>q.ups.length-k) 0 (by simp -implicitDefEqProofs only [go_sem,List.take_zero,upsF,List.foldl_nil]) (Nat.zero_le _) ?_
 rintro k I ih
 refine Run.unf A0I (Run.go 100 ?_)
 have v:((k+1:Nat):Int)=(k:Int)+1:=by omega
 by_cases l:k<q.ups.length
 ·have L:((k:Int)<(q.ups.length:Int))=True:=Ji
  have O:((0:Int)≤(k:Int))=True:=Ji
  obtain⟨⟨un,ul,C⟩,E⟩: ∃x,q.ups[k]? =some x:=⟨q.ups[k],by simp [l]⟩
  have o:=r9 k _ E
  simp only at o
  have z:=C7I (N:=N) (f:=A) E
  have fin:=fun s=>ih s (k+1) zd zd
  clear ih
  cases ul with
  |false=>
   rw [if_neg zf]at z
   rw [z]at fin
   simp -implicitDefEqProofs only [go_sem,L,O,H,M,o,l,Option.some.injEq,forall_eq']
   exact Ya
  | true=>
   rw [if_pos rfl]at z
   by_cases c:0≤C∧C<(N:Int)
   ·obtain⟨D,rfl⟩: ∃D:Nat,C=D:=⟨C.toNat,by omega⟩
    have x0:((0:Int)≤(D:Int))=True:=Ji
    have x1:((D:Int)<(N:Int))=True:=eq_true c.2
    have K:D<N:=by omega
    rw [C9s K]at z
    have X:=B3x (f:=upsF N (q.ups.take k) A) K
    rw [z,←X]at fin
    have P:=j (upsF N (q.ups.take k) A)
    have Y:=hbz (upsF N (q.ups.take k) A)
    obtain⟨bv,Z⟩: ∃b,(D7 N (upsF N (q.ups.take k) A))[D]? =some [.bool b]:=⟨_,R0 K⟩
    generalize D7 N (upsF N (q.ups.take k) A)=B at*
    simp -implicitDefEqProofs only [go_sem,L,O,H,M,o,l,x0,x1,K,P,Y,Z,ge_iff_le,Option.some.injEq,forall_eq']
    exact Ya
   ·rw [C9t c]at z
    rw [z]at fin
    by_cases W:0≤C
    ·have c1: ¬C<(N:Int):=fun h=>c ⟨W,h⟩
     simp -implicitDefEqProofs only [go_sem,L,O,H,M,o,l,W,c1,ge_iff_le,Option.some.injEq,forall_eq']
     exact Ya
    ·simp -implicitDefEqProofs only [go_sem,L,O,H,M,o,l,W,ge_iff_le,Option.some.injEq,forall_eq']
     exact Ya
 have e:k=q.ups.length:=by omega
 subst e
 rw [List.take_length]
 simp -implicitDefEqProofs only [go_sem,Int.lt_irrefl,H,j,J,w]
 rw [t]
end
section
open Go.Abs
attribute [local irreducible] A0 Run
-- EV: Ins.v, Ins.row
attribute [local go_sem] Ins.v Ins.row
def X7(f:Nat→V)(a:Nat):List (List V):=(List.range a).map fun i=> [f i]
theorem A1N(f:Nat→V)(a:Nat):(X7 f a).length=a:=by simp [X7]
theorem B6R{f:Nat→V}{a i:Nat}(h:i<a):(X7 f a)[i]? =some [f i]:=by simp [X7,h]
theorem A8t(f:Nat→V)(a:Nat):X7 f (a+1)=X7 f a++ [[f a]]:=by simp [X7,List.range_succ]
theorem B6S(f:Nat→V)(a:Nat):C4 (X7 f a) 1=True:=eq_true fun r h=>by obtain⟨y,_,rfl⟩:=List.mem_map.1 h;rfl
theorem C2m{f g:Nat→V}{a:Nat}(h: ∀i,i<a→f i=g i):X7 f a=X7 g a:=List.map_congr_left fun i b=>by rw [h i (List.mem_range.1 b)]
theorem B3j{T:List (List V)}{x y:List V}:T++ [x]=(T++ [y]).set T.length x:=by simp
theorem Wk.cellA{b st b2 st2 k n:Nat}{R T:List (List V)}{X:A2}{sl sl':List (Nat×V)}(f:A3d sl sl')(c:b2≠b)(d: ∀e∈X,e.1≠b)(h:k=R.length):
  Wk ⟨sl,(b,st,.rows 1 R)::(b2,st2,.rows 1 (T++ [[.sl b st 0 k]]))::X,n⟩ ⟨sl',(b2,st2,.rows 1 (T++ [[.isl R]]))::X,n⟩:=by
 have:=Wk.cell (b:=b) (st:=st) (b2:=b2) (st2:=st2) (a:=T.length) (k:=k) (n:=n) (R:=R) (T:=T++ [[.nils]]) (X:=X) f c d h
 rwa [←B3j,←B3j]at this
theorem L1.snoc{T:List (List V)}{b b2 st k:Nat}:L1 (.rows 1 (T++ [[.sl b st 0 k]])) (.rows 1 (T++ [[.sl b2 st 0 k]])):=by
 have:=L1.set (T:=T++ [[.nils]]) (a:=T.length) (b:=b) (b2:=b2) (st:=st) (k:=k)
 rwa [←B3j,←B3j]at this
theorem C5M{D:Nat→Int→Nat→Bool}{M:Nat→Nat→Bool}{n:List Int}{a r k:Nat}(h:r6 D M n a r k=true):r6 D M n a r n.length=true:=by
 unfold r6 at*
 rw [List.take_length]
 obtain⟨x,b,c⟩:=List.any_eq_true.1 h
 exact List.any_eq_true.2 ⟨x,List.mem_of_mem_take b,c⟩
def B2W(p:Pro)(N i:Nat):V:= .isl (D7 N (A7T p i))
def B4G(p:Pro)(N a:Nat)(l:List Int):List (List V):=l.map fun x=> [.isl (D7 N (B4V p a x))]
def B2V(p:Pro)(N i:Nat):V:= .isl (B4G p N i (C5 p.code i))
theorem C6T(p:Pro)(N a:Nat)(l:List Int):(B4G p N a l).length=l.length:=by simp [B4G]
theorem C9w{p:Pro}{N a k:Nat}{l:List Int}{x:Int}(h:l[k]? =some x):(B4G p N a l)[k]? =some [.isl (D7 N (B4V p a x))]:=by simp [B4G,h]
theorem C4d(p:Pro)(hc:p.code.length≤10000)(J:p.row.map (V.sub C7)=p.row)(hup: ∀q∈p.protos,q.ups.length≤100000):Pure Tryz.prog 46 [.agg p.row] (B4x p):=by
 obtain⟨h1,h2⟩:=A3F p
 have hz:=B6M p
 have hnx: ∀a:Int,Pure Tryz.prog 74 [.agg p.row,.int .i64 a] (.isl ((C5 p.code a).map zrw)):=fun a=>by rw [p.row_eq];exact B1R p.code a zd _ _ _ _ _ _ _ _ _ _
 have hus:=fun a (ha:a<p.code.length)=>C4m p J hup a ha hc
 have hdf:=fun a (x:Int) (ha:a<p.code.length)=>C3W p J a ha hc x
 have g5:p.row[5]? =some (.isl (p.code.map Ins.row)):=by rw [p.row_eq];rfl
 have k5:(p.code.map Ins.row).length=p.code.length:=List.length_map ..
 have hN:=B2Y p.regs
 generalize hNe:j7 p.regs=N at*
 generalize hpr:p.row=pr at*
 generalize p.code.map Ins.row=rcode at*
 refine Pure.of 1 (A0.enter A2V Jk (Run.go 100 ?_))
 refine QV ?_
 refine A0.pureF hz zK ?_
 refine QL ?_
 refine Run.keep [7,6,5,4,3,1] ?_
 generalize hnn:p.code.length=n at*
 refine Run.roundsK (fun(x:Nat×(Nat→Nat)×Nat×Nat×Nat×Nat)=>⟨[(7,.int .i64 x.1),(6,.sl (46*10000+25) x.2.2.2.2.1 0 x.1),(5,.sl (46*10000+24) x.2.2.2.1 0 x.1),(4,.sl (46*10000+23) x.2.2.1 0 x.1),(3,.int .i64 N),(1,.ptr (46*10000+1) 0 0 0)],
   ((46*10000+25),x.2.2.2.2.1,.rows 1 (X7 (A3R x.2.1 N) x.1))::((46*10000+24),x.2.2.2.1,.rows 1 (X7 (B2V p N) x.1))::((46*10000+23),x.2.2.1,.rows 1 (X7 (B2W p N) x.1))::((46*10000+1),0,.rows 11 [pr])::A1y (fun _=>D7 N fun _=>false) x.2.1 x.1,x.2.2.2.2.2⟩)
  (fun x=>x.1≤n) (fun x=>n-x.1) (0,fun _=>0,1,2,3,4) (C1.wk (by simp -implicitDefEqProofs only [go_sem,X7,List.range_zero,List.map_nil,B8h])) (Nat.zero_le _) ?_
 rintro⟨a,S,su,sd,Q,m⟩ ha ih
 simp only at ha ih⊢
 have G:=fun(b:Nat) hb=>A6Y (F:=fun _=>D7 N fun _=>false) (S:=S) (m:=a) (b:=b) hb
 refine Run.unf A0G (Run.go 100 ?_)
 by_cases hlt:a<n
 ·have q0:((a:Int)<(n:Int))=True:=Ji
  have q1:((0:Int)≤(a:Int))=True:=Ji
  have husa:=hus a hlt
  have l1:=A1N (A3R S N) a
  have l2:=A1N (B2V p N) a
  have l3:=A1N (B2W p N) a
  generalize hT1:X7 (A3R S N) a=T1 at*
  generalize hT2:X7 (B2V p N) a=T2 at*
  generalize hT3:X7 (B2W p N) a=T3 at*
  generalize hfm:A1y (fun _=>D7 N fun _=>false) S a=fm at*
  simp -implicitDefEqProofs only [go_sem,q0,h1,h2,g5,k5]
  refine A0.pureF husa zK ?_
  have tk1:T1.take a=T1:=List.take_of_length_le zd
  have tk2:T2.take a=T2:=List.take_of_length_le zd
  have tk3:T3.take a=T3:=List.take_of_length_le zd
  simp -implicitDefEqProofs only [go_sem,h1,h2,l3,tk3,G]
  refine⟨by omega,?_⟩
  refine A0.pureF (hnx a) zK ?_
  have hnin:=fun x (h:x∈C5 p.code a)=>i2 h
  have hnl2:=R5 p.code a
  generalize hnle:C5 p.code a=o at*
  have hnls: ∀(k:Nat) (x:Int),o[k]? =some x→(o.map zrw)[k]? =some [.int .i64 x]:=fun k x h=>P9 h
  have B:(o.map zrw).length=o.length:=List.length_map ..
  have hnlz:=H1 o
  generalize o.map zrw=nls at*
  refine QT ?_
  refine Run.keep [10,9,8,7,6,5,4,3,1] ?_
  have hRl:=C6T p N a o
  have hRa:=fun k x (h:o[k]? =some x)=>C9w (p:=p) (N:=N) (a:=a) h
  generalize hRR:B4G p N a o=RR at*
  refine Run.roundsK (fun(y:Nat×Nat×Nat)=>⟨[(10,.int .i64 y.1),(9,.sl (46*10000+43) y.2.1 0 y.1),(8,.isl nls),(7,.int .i64 a),(6,.sl (46*10000+25) Q 0 a),(5,.sl (46*10000+24) sd 0 a),(4,.sl (46*10000+23) m 0 (a+1)),(3,.int .i64 N),(1,.ptr (46*10000+1) 0 0 0)],
    ((46*10000+43),y.2.1,.rows 1 (RR.take y.1))::((46*10000+23),m,.rows 1 (T3++ [[.isl (D7 N (A7T p a))]]))::((46*10000+25),Q,.rows 1 T1)::((46*10000+24),sd,.rows 1 T2)::((46*10000+1),0,.rows 11 [pr])::fm,y.2.2⟩)
   (fun y=>y.1≤o.length) (fun y=>o.length-y.1) (0,m+1,m+1+1) ?_ (Nat.zero_le _) ?_
  ·exact Yb
  rintro⟨k,st,I⟩ hk E
  simp only at hk E⊢
  refine Run.unf T6 (Run.go 100 ?_)
  have hzk:((k+1:Nat):Int)=(k:Int)+1:=by omega
  have hRk:(RR.take k).length=k:=by rw [List.length_take];omega
  by_cases hlk:k<o.length
  ·have w0:((k:Int)<(o.length:Int))=True:=Ji
   have w1:((0:Int)≤(k:Int))=True:=Ji
   obtain⟨x,hx⟩: ∃x,o[k]? =some x:=⟨o[k],by simp [hlk]⟩
   have hxr:=hnls k x hx
   have hdx:=hdf a x hlt
   have hRx:=B0R (hRa k x hx)
   have fin:=fun s=>E s (k+1,I,I+1) zg zg
   clear E
   simp only [hRx]at fin
   generalize RR.take k=Rk at*
   have tkk:Rk.take k=Rk:=List.take_of_length_le zd
   simp -implicitDefEqProofs only [go_sem,w0,w1,B,hnlz,hxr,hlk,h1,h2,G,Option.some.injEq,forall_eq']
   refine A0.pureF hdx zK ?_
   simp -implicitDefEqProofs only [go_sem,hRk,tkk,G]
   refine⟨by omega,by omega,fin _ (C1.wk (C1.of zp (fun e t=> ?_) ze))⟩
   simp only [List.mem_cons]at t⊢
   rcases t with h|h|h|h|h|h<;>simp only [h,eq_self,true_or,or_true]
  ·have e:k=o.length:=by omega
   subst e
   clear E
   rw [List.take_of_length_le zd]
   have hza:((a+1:Nat):Int)=(a:Int)+1:=by omega
   have fin:=fun s (S':Nat→Nat) (u v w m3:Nat)=>ih s (a+1,S',u,v,w,m3) zg zg
   clear ih
   have e3:X7 (B2W p N) (a+1)=T3++ [[.isl (D7 N (A7T p a))]]:=by rw [A8t,hT3];rfl
   have e2:X7 (B2V p N) (a+1)=T2++ [[.isl RR]]:=by rw [A8t,hT2,←hRR,←hnle];rfl
   have e1: ∀s,X7 (A3R (fun i=>if i=a then s else S i) N) (a+1)=T1++ [[.sl (1000000000000+a) s 0 N]]:=fun s=>by
    rw [A8t,←hT1]
    congr 1
    ·exact C2m fun i Z=>by simp only [A3R];rw [if_neg zd]
    ·simp [A3R]
   simp only [e3,e2,hza]at fin
   simp -implicitDefEqProofs only [go_sem,Int.lt_irrefl,B,l1,l2,tk1,tk2,G]
   have fin:=fun s=>fin s (fun i=>if i=a then I+1 else S i) m I (I+1+1) (I+1+1+1)
   simp only [e1]at fin
   have hX: ∀e∈(((46*10000+25),I+1+1,Blk.rows 1 (T1++ [[.sl (46*10000+67) (I+1) 0 N]]))::((46*10000+67),I+1,.rows 1 (List.replicate N [.bool false]))::((46*10000+23),m,.rows 1 (T3++ [[.isl (D7 N (A7T p a))]]))::((46*10000+1),0,.rows 11 [pr])::fm:A2),e.1≠(46*10000+43):=by
    exact Xr
   refine⟨by omega,by omega,by omega,by omega,by omega,fin _ (Wk.trans (C1.wk (s':=⟨[(7,.int .i64 ((a:Int)+1)),(6,.sl (46*10000+25) (I+1+1) 0 (a+1)),(5,.sl (46*10000+24) I 0 (a+1)),(4,.sl (46*10000+23) m 0 (a+1)),(3,.int .i64 N),(1,.ptr (46*10000+1) 0 0 0)],((46*10000+43),st,.rows 1 RR)::((46*10000+24),I,.rows 1 (T2++ [[.sl (46*10000+43) st 0 o.length]]))::((46*10000+25),I+1+1,Blk.rows 1 (T1++ [[.sl (46*10000+67) (I+1) 0 N]]))::((46*10000+67),I+1,.rows 1 (List.replicate N [.bool false]))::((46*10000+23),m,.rows 1 (T3++ [[.isl (D7 N (A7T p a))]]))::((46*10000+1),0,.rows 11 [pr])::fm,I+1+1+1⟩) (C1.of ze (fun e t=> ?_) ze)) (Wk.trans (Wk.cellA (sl':= [(7,.int .i64 ((a:Int)+1)),(6,.sl (46*10000+25) (I+1+1) 0 (a+1)),(5,.sl (46*10000+24) I 0 (a+1)),(4,.sl (46*10000+23) m 0 (a+1)),(3,.int .i64 N),(1,.ptr (46*10000+1) 0 0 0)]) ze zh hX zd) (Wk.turn (fun b=>if b=(46*10000+67)then 1000000000000+a else b) (A9e.of (fun p hp=> ?_)) (.at 1 rfl rfl L1.snoc (.at 0 rfl rfl (.refl _) (.at 3 rfl rfl (.refl _) (.at 4 rfl rfl (.refl _) (B8g (b:=(46*10000+67)) (A8b N) ?_ ?_ ?_ ?_))))))))⟩
   ·simp only [List.mem_cons]at t⊢
    rcases t with h|h|h|h|h|h|h<;>simp only [h,eq_self,true_or,or_true]
   ·exact F3.1 (show A3d [(7,.int .i64 ((a:Int)+1)),(6,.sl (46*10000+25) (I+1+1) 0 (a+1)),(5,.sl (46*10000+24) I 0 (a+1)),(4,.sl (46*10000+23) m 0 (a+1)),(3,.int .i64 N),(1,.ptr (46*10000+1) 0 0 0)] [(7,.int .i64 ((a:Int)+1)),(6,.sl (46*10000+25) (I+1+1) 0 (a+1)),(5,.sl (46*10000+24) I 0 (a+1)),(4,.sl (46*10000+23) m 0 (a+1)),(3,.int .i64 N),(1,.ptr (46*10000+1) 0 0 0)] by simp -implicitDefEqProofs only [go_sem]) p hp
   ·exact if_pos rfl
   ·intro j hj;exact if_neg zd
   ·simp
   ·intro e t;rw [hfm]at t;simp [t]
 have e:a=n:=by omega
 subst e
 clear ih hlt ha
 have tl:=fun i (Z:i<a)=>B6R (f:=A3R S N) Z
 have tu:=fun i (Z:i<a)=>B6R (f:=B2W p N) Z
 have td:=fun i (Z:i<a)=>B6R (f:=B2V p N) Z
 have l1:=A1N (A3R S N) a
 have l2:=A1N (B2W p N) a
 have l3:=A1N (B2V p N) a
 have s1:=B6S (A3R S N) a
 have s2:=B6S (B2W p N) a
 have s3:=B6S (B2V p N) a
 generalize X7 (A3R S N) a=LV at*
 generalize X7 (B2W p N) a=UV at*
 generalize X7 (B2V p N) a=DV at*
 simp only [A3R,B2W,B2V]at tl tu td
 clear G
 generalize hUe:A7T p=U at*
 generalize hDe:B4V p=D at*
 have hDR: ∀i (l:List Int),B4G p N i l=l.map fun x=> [.isl (D7 N (D i x))]:=fun i l=>by rw [←hDe];rfl
 have hnin:=fun(i:Nat) x (h:x∈C5 p.code i)=>i2 h
 rw [hnn]at hnin
 simp -implicitDefEqProofs only [go_sem,Int.lt_irrefl,h1,h2,g5,k5]
 refine Run.keep [11,6,5,4,3,1] ?_
 have hbq: ∀k i:Nat,k<1000000000000→(k=1000000000000+i)=False:=fun k i h=>eq_false zd
 have hbq2: ∀k i:Nat,k<1000000000000→(1000000000000+i=k)=False:=fun k i h=>eq_false zd
 refine Run.roundsK (fun(x:(Nat→Nat→Bool)×Bool)=>⟨[(11,.bool x.2),(6,.sl (46*10000+25) Q 0 a),(5,.sl (46*10000+24) sd 0 a),(4,.sl (46*10000+23) su 0 a),(3,.int .i64 N),(1,.ptr (46*10000+1) 0 0 0)],
   ((46*10000+25),Q,.rows 1 LV)::((46*10000+24),sd,.rows 1 DV)::((46*10000+23),su,.rows 1 UV)::((46*10000+1),0,.rows 11 [pr])::A1y (fun i=>D7 N (x.1 i)) S a,m⟩)
  (fun x=>A4T U (fun a=>C5 p.code a) D x.1∧(x.2=false→ ∀i r,i<a→r<N→j9 U (fun a=>C5 p.code a) D x.1 i r)) (fun x=>2*unM a N x.1+(if x.2 then 1 else 0)) (fun _ _=>false,true) ?_ ⟨fun _ _ h=>absurd h zf,fun h=>absurd h zf⟩ ?_
 ·exact Yb
 rintro⟨M,more⟩ ⟨hS0,hcl⟩ ih
 simp only at hS0 hcl ih⊢
 refine Run.unf L0 (Run.go 100 ?_)
 cases more with
 | false=>
  have hcl:=hcl rfl
  clear ih
  have G:=fun(b:Nat) hb=>A6Y (F:=fun i=>D7 N (M i)) (S:=S) (m:=a) (b:=b) hb
  have hfg:=fun(i:Nat) Z=>B2q (F:=fun i=>D7 N (M i)) (S:=S) (m:=a) (i:=i) Z
  have hfn: ∀e∈A1y (fun i=>D7 N (M i)) S a,1000000000000≤e.1:=fun e t=>by
   obtain⟨j,_,rfl⟩:=A0W.1 t
   simp only [t6];omega
  generalize A1y (fun i=>D7 N (M i)) S a=fm at*
  refine QT ?_
  refine Run.keep [18,17,6,3] ?_
  have hLV:B4x p= .isl ((List.range a).map fun i=> [.isl ((((List.range N).filter (M i)).map fun r=>((r:Nat):Int)).map zrw)]):=by
   unfold B4x
   rw [hnn]
   refine congrArg V.isl (List.map_congr_left fun i Z=> ?_)
   have hia:i<a:=List.mem_range.1 Z
   unfold lvL
   rw [hNe,show (List.range N).filter (B6r p i)=(List.range N).filter (M i) from List.filter_congr fun r hr=> ?_]
   have z:=List.mem_range.1 hr
   have e1:B6r p i r=true↔M i r=true:=by
    unfold B6r
    rw [hUe,hDe,B8y]
    exact⟨fun h=>B4l (n:=a) (N:=N) (fun b x hx=>hnin b x hx) hcl h hia z,fun h=>hS0 i r h⟩
   exact Bool.eq_iff_iff.2 e1
  rw [hLV]
  generalize hM:(fun i=>(((List.range N).filter (M i)).map fun r=>((r:Nat):Int)).map zrw)=OV at*
  have hOV: ∀i,(((List.range N).filter (M i)).map fun r=>((r:Nat):Int)).map zrw=OV i:=fun i=>by rw [←hM]
  simp only [hOV]
  refine Run.roundsK (fun(x:Nat×Nat×Nat)=>⟨[(18,.int .i64 x.1),(17,.sl (46*10000+144) x.2.1 0 x.1),(6,.sl (46*10000+25) Q 0 a),(3,.int .i64 N)],
    ((46*10000+144),x.2.1,.rows 1 (X7 (fun i=> .isl (OV i)) x.1))::((46*10000+25),Q,.rows 1 LV)::fm,x.2.2⟩)
   (fun x=>x.1≤a) (fun x=>a-x.1) (0,m,m+1) ?_ (Nat.zero_le _) ?_
  ·refine C1.wk (C1.of ze (fun e t=> ?_) ze)
   simp only [X7,List.range_zero,List.map_nil,List.mem_cons]at t⊢
   rcases t with h|h|h<;>simp only [h,eq_self,true_or,or_true]
  rintro⟨i,s1x,I⟩ Z ih
  simp only at Z ih⊢
  refine Run.unf E2 (Run.go 100 ?_)
  by_cases hia:i<a
  case neg=>
   have e0:i=a:=by omega
   subst e0
   have tl2:=A1N (fun j=>V.isl (OV j)) i
   have tv:X7 (fun j=>V.isl (OV j)) i=(List.range i).map fun j=> [.isl (OV j)]:=rfl
   have hfz: ∀d h,((List.range i).map fun j=> [V.isl (OV j)]).map (fun r=>r.map (frz d h))=(List.range i).map fun j=> [V.isl (OV j)]:=fun d h=>by
    rw [List.map_map]
    refine List.map_congr_left fun j _=> ?_
    have hz:=O7 d h (((List.range N).filter (M j)).map fun r=>((r:Nat):Int))
    rw [hOV]at hz
    have hq:frz d h (.isl (OV j))= .isl (OV j):=by
     cases d<;>exact(by simp only [frz,V.sub,K0];exact congrArg V.isl hz)
    simp only [Function.comp,List.map_cons,List.map_nil,hq]
   rw [tv]at tl2⊢
   generalize ((List.range i).map fun j=> [V.isl (OV j)])=TV at*
   exact XF
  have q0:((i:Int)<(a:Int))=True:=Ji
  have q1:((0:Int)≤(i:Int))=True:=Ji
  have tlen:=A1N (fun j=>V.isl (OV j)) i
  have tsucc:=A8t (fun j=>V.isl (OV j)) i
  have hlx:=tl i hia
  have O:=hfg i hia
  have hOi:=hOV i
  have hOl:(OV i).length=A2v (M i) N:=by rw [←hOi];simp [A2v]
  have hOa: ∀r,r<N→M i r=true→(OV i)[A2v (M i) r]? =some [.int .i64 (r:Nat)]:=fun r hr h=>by
   rw [←hOi,List.getElem?_map,List.getElem?_map,B3D h hr];rfl
  have fin:=fun s (w m3:Nat)=>ih s (i+1,w,m3) zg zg
  clear ih
  simp only [tsucc]at fin
  have hzi:((i+1:Nat):Int)=(i:Int)+1:=by omega
  generalize X7 (fun j=>V.isl (OV j)) i=T at*
  generalize OV i=R at*
  simp -implicitDefEqProofs only [go_sem,q0,G]
  refine Run.keep [20,19,18,17,6,3] ?_
  refine Run.roundsK (fun(y:Nat×Nat×Nat)=>⟨[(20,.int .i64 y.1),(19,.sl (46*10000+151) y.2.1 0 (A2v (M i) y.1)),(18,.int .i64 i),(17,.sl (46*10000+144) s1x 0 i),(6,.sl (46*10000+25) Q 0 a),(3,.int .i64 N)],
    ((46*10000+151),y.2.1,.rows 1 (R.take (A2v (M i) y.1)))::((46*10000+144),s1x,.rows 1 T)::((46*10000+25),Q,.rows 1 LV)::fm,y.2.2⟩)
   (fun y=>y.1≤N) (fun y=>N-y.1) (0,I,I+1) ?_ (Nat.zero_le _) ?_
  ·have hc0:A2v (M i) 0=0:=rfl
   refine C1.wk (C1.of (by simp -implicitDefEqProofs only [go_sem,hc0]) (fun e t=>t) ze)
  rintro⟨r,st,m3⟩ hr E
  simp only at hr E⊢
  refine Run.unf D4 (Run.go 100 ?_)
  have hzr:((r+1:Nat):Int)=(r:Int)+1:=by omega
  by_cases z:r<N
  ·have w0:((r:Int)<(N:Int))=True:=Ji
   have w1:((0:Int)≤(r:Int))=True:=Ji
   have H:=R0 (f:=M i) z
   have L:=H6 N (M i)
   cases Y:M i r with
   |false=>
    have hc:=C4O (q:=M i) Y
    have fin2:=fun s=>E s (r+1,st,m3) zg zg
    clear E
    simp only [hc]at fin2
    rw [Y]at H
    simp -implicitDefEqProofs only [go_sem,q0,q1,w0,w1,hia,l1,s1,hlx,O,hbq,H,L,z,Nat.mul_one,Option.some.injEq,forall_eq']
    refine⟨by omega,fin2 _ (C1.wk (C1.of zw (fun e t=>t) ze))⟩
   | true=>
    have hc:=C0J (q:=M i) Y
    have hRx:=B0R (hOa r z Y)
    have hkl:A2v (M i) r≤r:=by unfold A2v;exact Nat.le_trans (List.length_filter_le _ _) zf
    have fin2:=fun s=>E s (r+1,m3,m3+1) zg zg
    clear E
    simp only [hc,hRx]at fin2
    rw [Y]at H
    have hRk:(R.take (A2v (M i) r)).length=A2v (M i) r:=by
     have:=(List.getElem?_eq_some_iff.1 (hOa r z Y)).1
     rw [List.length_take];omega
    generalize A2v (M i) r=k at*
    generalize R.take k=Rk at*
    have tkk:Rk.take k=Rk:=List.take_of_length_le zd
    simp -implicitDefEqProofs only [go_sem,q0,q1,w0,w1,hia,l1,s1,hRk,tkk,hlx,O,hbq,H,L,G,z,Nat.mul_one,Option.some.injEq,forall_eq']
    refine⟨by omega,by omega,fin2 _ (C1.wk (C1.of zw (fun e t=> ?_) ze))⟩
    exact Xh
  ·have e0:r=N:=by omega
   subst e0
   clear E
   rw [←hOl,List.take_of_length_le (Nat.le_refl _)]
   have hX: ∀e∈(((46*10000+25),Q,Blk.rows 1 LV)::fm:A2),e.1≠(46*10000+151):=by
    exact Yq
   have tki:T.take i=T:=List.take_of_length_le zd
   simp -implicitDefEqProofs only [go_sem,Int.lt_irrefl,tlen,tki,G]
   refine⟨by omega,by omega,fin _ m3 (m3+1) (Wk.trans (C1.wk (s':=⟨[(18,.int .i64 ((i:Int)+1)),(17,.sl (46*10000+144) m3 0 (i+1)),(6,.sl (46*10000+25) Q 0 a),(3,.int .i64 r)],((46*10000+151),st,.rows 1 R)::((46*10000+144),m3,.rows 1 (T++ [[.sl (46*10000+151) st 0 R.length]]))::((46*10000+25),Q,.rows 1 LV)::fm,m3+1⟩) (C1.of ze (fun e t=> ?_) ze)) (Wk.cellA (by simp -implicitDefEqProofs only [go_sem,hzi]) zh hX rfl))⟩
   exact Xh
 | true=>
  clear hcl
  refine Jd ?_
  refine⟨by omega,?_⟩
  refine Run.keep [12,11,6,5,4,3,1] ?_
  refine Run.roundsK (fun(y:Nat×(Nat→Nat→Bool)×Bool)=>⟨[(12,.int .i64 ((a:Int)-1-y.1)),(11,.bool y.2.2),(6,.sl (46*10000+25) Q 0 a),(5,.sl (46*10000+24) sd 0 a),(4,.sl (46*10000+23) su 0 a),(3,.int .i64 N),(1,.ptr (46*10000+1) 0 0 0)],
    ((46*10000+25),Q,.rows 1 LV)::((46*10000+24),sd,.rows 1 DV)::((46*10000+23),su,.rows 1 UV)::((46*10000+1),0,.rows 11 [pr])::A1y (fun i=>D7 N (y.2.1 i)) S a,m⟩)
   (fun y=>y.1≤a∧A4T U (fun a=>C5 p.code a) D y.2.1∧(y.2.2=false→y.2.1=M∧ ∀i r,a≤i+y.1→i<a→r<N→j9 U (fun a=>C5 p.code a) D M i r)∧(y.2.2=true→unM a N y.2.1<unM a N M)) (fun y=>a-y.1) (0,M,false) ?_ ⟨Nat.zero_le _,hS0,fun _=>⟨rfl,fun i r h1 h2=>absurd h1 zg⟩,fun h=>absurd h zf⟩ ?_
  ·refine C1.wk (C1.of Qi (fun e t=>t) ze)
  rintro⟨j,M1,more⟩ ⟨hj,hS1,hc1,hd1⟩ E
  simp only at hj hS1 hc1 hd1 E⊢
  refine Run.unf I0 (Run.go 100 ?_)
  by_cases hja:j<a
  case neg=>
   have e0:j=a:=by omega
   subst e0
   have q0:((0:Int)≤(j:Int)-1-(j:Int))=False:=Jj
   simp -implicitDefEqProofs only [go_sem,q0,ge_iff_le]
   refine ih _ (M1,more) ⟨hS1,fun Y i r Z hr=> ?_⟩ ?_ (C1.wk (C1.of ze (fun e t=>t) ze))
   ·simp only at Y
    obtain⟨rfl,hcc⟩:=hc1 Y
    exact hcc i r zd Z hr
   ·exact YE
  obtain⟨g,hat⟩: ∃g:Nat,g=a-1-j:=⟨_,rfl⟩
  have ea:(a:Int)-1-(j:Int)=(g:Int):=by omega
  have ea2:(a:Int)-1-((j+1:Nat):Int)=(g:Int)-1:=by omega
  have A:g<a:=by omega
  have q0:((0:Int)≤(g:Int))=True:=Ji
  have q1:((g:Int)<(a:Int))=True:=Ji
  have xu:=tu g A
  have xd:=td g A
  have xl:=tl g A
  have hni:=hnin g
  rw [ea]
  simp -implicitDefEqProofs only [go_sem,q0,h1,h2,ge_iff_le]
  refine A0.pureF (hnx g) zK ?_
  have hnl2:=R5 p.code g
  have hcl0: ∀{MM:Nat→Nat→Bool} {r:Nat},(U g r||r6 D MM (C5 p.code g) g r (C5 p.code g).length)=true→A4T U (fun a=>C5 p.code a) D MM→LiveR U (fun a=>C5 p.code a) D g r:=fun h hs=>C1x (Nx:=fun a=>C5 p.code a) hs (fun x hx=>(hni x hx).1) h
  have hcl1: ∀{r:Nat},((U g r||r6 D M (C5 p.code g) g r (C5 p.code g).length)=true→M g r=true)→j9 U (fun a=>C5 p.code a) D M g r:=fun h=>B5M (Nx:=fun a=>C5 p.code a) h
  have hDRl:=hDR g (C5 p.code g)
  generalize B4G p N g (C5 p.code g)=DRl at*
  generalize hnle:C5 p.code g=o at*
  have hnls: ∀(k:Nat) (x:Int),o[k]? =some x→(o.map zrw)[k]? =some [.int .i64 x]:=fun k x h=>P9 h
  have B:(o.map zrw).length=o.length:=List.length_map ..
  have hnlz:=H1 o
  have hDl:DRl.length=o.length:=by rw [hDRl];simp
  have hDz:C4 DRl 1=True:=by rw [hDRl];exact eq_true fun r hr=>by obtain⟨y,_,rfl⟩:=List.mem_map.1 hr;rfl
  have hDa: ∀(k:Nat) (x:Int),o[k]? =some x→DRl[k]? =some [.isl (D7 N (D g x))]:=fun k x h=>by rw [hDRl,List.getElem?_map,h];rfl
  generalize o.map zrw=nls at*
  refine QL ?_
  refine Run.keep [14,13,12,11,6,5,4,3,1] ?_
  refine Run.roundsK (fun(y:Nat×(Nat→Nat→Bool)×Bool)=>⟨[(14,.int .i64 y.1),(13,.isl nls),(12,.int .i64 g),(11,.bool y.2.2),(6,.sl (46*10000+25) Q 0 a),(5,.sl (46*10000+24) sd 0 a),(4,.sl (46*10000+23) su 0 a),(3,.int .i64 N),(1,.ptr (46*10000+1) 0 0 0)],
    ((46*10000+25),Q,.rows 1 LV)::((46*10000+24),sd,.rows 1 DV)::((46*10000+23),su,.rows 1 UV)::((46*10000+1),0,.rows 11 [pr])::A1y (fun i=>D7 N (y.2.1 i)) S a,m⟩)
   (fun y=>y.1≤N∧A4T U (fun a=>C5 p.code a) D y.2.1∧(y.2.2=false→y.2.1=M∧(∀i r,a≤i+j→i<a→r<N→j9 U (fun a=>C5 p.code a) D M i r)∧ ∀r,r<y.1→j9 U (fun a=>C5 p.code a) D M g r)∧(y.2.2=true→unM a N y.2.1<unM a N M)) (fun y=>N-y.1) (0,M1,more) ?_ ⟨Nat.zero_le _,hS1,fun h=>⟨(hc1 h).1,(hc1 h).2,fun r hr=>absurd hr (Nat.not_lt_zero r)⟩,hd1⟩ ?_
  ·exact Yb
  rintro⟨r,M2,mo⟩ ⟨hr,hS2,W,hd2⟩ ih3
  simp only at hr hS2 W hd2 ih3⊢
  refine Run.unf G0 (Run.go 100 ?_)
  by_cases z:r<N
  case neg=>
   have e0:r=N:=by omega
   subst e0
   refine QN ?_
   refine⟨by omega,E _ (j+1,M2,mo) ⟨by simp only;omega,hS2,fun h=>⟨(W h).1,fun i r Z hia hr=> ?_⟩,hd2⟩ zg (C1.wk (C1.of (by simp -implicitDefEqProofs only [go_sem,ea2]) (fun e t=>t) ze))⟩
   simp only at Z
   by_cases ci:a≤i+j
   ·exact(W h).2.1 i r ci hia hr
   ·obtain rfl:i=g:=by omega
    exact(W h).2.2 r hr
  have w0:((r:Int)<(N:Int))=True:=Ji
  have w1:((0:Int)≤(r:Int))=True:=Ji
  have hzr:((r+1:Nat):Int)=(r:Int)+1:=by omega
  have hur:=R0 (f:=U g) z
  have hul:=H6 N (U g)
  have huz:=A9R N (U g)
  have G:=fun(b:Nat) hb=>A6Y (F:=fun i=>D7 N (M2 i)) (S:=S) (m:=a) (b:=b) hb
  have hfg:=fun(i:Nat) Z=>B2q (F:=fun i=>D7 N (M2 i)) (S:=S) (m:=a) (i:=i) Z
  have hputm:=fun X e=>C1c (F:=fun i=>D7 N (M2 i)) (S:=S) (m:=a) (i:=g) (X:=X) (e:=e)
  generalize hfm2:A1y (fun i=>D7 N (M2 i)) S a=fm2 at*
  simp -implicitDefEqProofs only [go_sem,w0,w1,q0,q1,A,z,l2,s2,xu,hur,hul,huz,Nat.mul_one,Option.some.injEq,forall_eq']
  refine Run.keep [16,15,14,13,12,11,6,5,4,3,1] ?_
  refine Run.roundsK (fun(k:Nat)=>⟨[(16,.int .i64 k),(15,.bool (U g r||r6 D M2 o g r k)),(14,.int .i64 r),(13,.isl nls),(12,.int .i64 g),(11,.bool mo),(6,.sl (46*10000+25) Q 0 a),(5,.sl (46*10000+24) sd 0 a),(4,.sl (46*10000+23) su 0 a),(3,.int .i64 N),(1,.ptr (46*10000+1) 0 0 0)],
    ((46*10000+25),Q,.rows 1 LV)::((46*10000+24),sd,.rows 1 DV)::((46*10000+23),su,.rows 1 UV)::((46*10000+1),0,.rows 11 [pr])::fm2,m⟩)
   (fun k=>k≤o.length) (fun k=>o.length-k) 0 ?_ (Nat.zero_le _) ?_
  ·exact YG
  rintro k hk ih4
  refine Run.unf E9 (Run.go 100 ?_)
  have hzk:((k+1:Nat):Int)=(k:Int)+1:=by omega
  have hend:(U g r||r6 D M2 o g r k)=true∨k=o.length→(U g r||r6 D M2 o g r k)=(U g r||r6 D M2 o g r o.length):=fun h=>by
   rcases h with h|h
   ·rw [h]
    rw [Bool.or_eq_true]at h
    symm
    rw [Bool.or_eq_true]
    exact h.imp id C5M
   ·rw [h]
  by_cases hcont:k<o.length∧(U g r||r6 D M2 o g r k)=false
  ·obtain⟨hlk,hisf⟩:=hcont
   have v0:((k:Int)<(o.length:Int))=True:=Ji
   have v1:((0:Int)≤(k:Int))=True:=Ji
   obtain⟨x,hx⟩: ∃x,o[k]? =some x:=⟨o[k],by simp [hlk]⟩
   have hxr:=hnls k x hx
   have hxi:=hni x (List.mem_of_getElem? hx)
   obtain⟨xx,rfl⟩: ∃xx:Nat,x=xx:=⟨x.toNat,by omega⟩
   have x0:((0:Int)≤(xx:Int))=True:=Ji
   have x1:((xx:Int)<(a:Int))=True:=Ji
   have x2:(xx<a)=True:=Ji
   have hdx:=hDa k xx hx
   have hdr:=R0 (f:=D g xx) z
   have hdl:=H6 N (D g xx)
   have hdz:=A9R N (D g xx)
   have hlx:=tl xx zd
   have O:=hfg xx zd
   have H:=R0 (f:=M2 xx) z
   have L:=H6 N (M2 xx)
   have hany:=B7N (D:=D) (M:=M2) (a:=g) (r:=r) hx
   rw [show ((xx:Int)).toNat=xx by omega]at hany
   have fin:=fun s=>ih4 s (k+1) zd zd
   clear ih4 hend
   rw [hany,←Bool.or_assoc,hisf,Bool.false_or]at fin
   rw [hisf]
   generalize D g xx r=dv at*
   generalize M2 xx r=mv at*
   cases mv with
   |false=>
    simp -implicitDefEqProofs only [go_sem,v0,v1,w0,w1,x0,x1,x2,B,hnlz,hxr,hlk,l1,s1,hlx,O,hbq,H,L,z,Nat.mul_one,Option.some.injEq,forall_eq']
    refine⟨by omega,fin _ (C1.wk (C1.of (by simp -implicitDefEqProofs only [go_sem,hzk,Bool.and_false]) (fun e t=>t) ze))⟩
   |true=>
    simp -implicitDefEqProofs only [go_sem,v0,v1,w0,w1,q0,q1,A,x0,x1,x2,B,hnlz,hxr,hlk,l1,s1,l3,s3,xd,hDl,hDz,hdx,hdr,hdl,hdz,hlx,O,hbq,H,L,z,Nat.mul_one,Option.some.injEq,forall_eq']
    refine⟨by omega,fin _ (C1.wk (C1.of (by simp -implicitDefEqProofs only [go_sem,hzk,Bool.and_true]) (fun e t=>t) ze))⟩
  ·have P:(U g r||r6 D M2 o g r k)=true∨k=o.length:=by
    cases hb:(U g r||r6 D M2 o g r k)with
    |true=>exact .inl rfl
    |false=>right;rcases Nat.lt_or_ge k o.length with h|h;exact absurd ⟨h,hb⟩ hcont;omega
   have hend:=hend P
   have O:=hfg g A
   have H:=R0 (f:=M2 g) z
   have L:=H6 N (M2 g)
   have hlive:(U g r||r6 D M2 o g r o.length)=true→LiveR U (fun a=>C5 p.code a) D g r:=fun h=>hcl0 h hS2
   have hclos:(U g r||r6 D M2 o g r o.length)=false∨M2 g r=true→mo=false→j9 U (fun a=>C5 p.code a) D M g r:=fun h Y=>by
    obtain⟨rfl,_⟩:=W Y
    exact hcl1 fun h2=>h.elim (fun h3=>by rw [h2]at h3;cases h3) fun h3=>h3
   have C:(U g r||r6 D M2 o g r o.length)=false∨M2 g r=true→ ∀s,_→_:=fun h s=>ih3 s (r+1,M2,mo) ⟨by simp only;omega,hS2,fun Y=>⟨(W Y).1,(W Y).2.1,fun r' hr'=>by
    by_cases c:r'=r
    ·subst c;exact hclos h Y
    ·exact(W Y).2.2 r' (by simp only at hr';omega)⟩,hd2⟩ zg
   have K:(U g r||r6 D M2 o g r o.length)=true→M2 g r=false→ ∀s,_→_:=fun h Y s=>ih3 s (r+1,A9m M2 g r,true) ⟨by simp only;omega,B7g hS2 (hlive h),fun hx=>absurd hx zf,fun _=>by
    have h1:=C2Q (n:=a) (N:=N) A z Y
    simp only
    cases mo with
    |true=>have:=hd2 rfl;omega
    |false=>obtain⟨rfl,_⟩:=W rfl;exact h1⟩ zg
   have hlen:(U g r||r6 D M2 o g r k)=false→k=o.length:=fun h=>P.elim (fun h2=>by rw [h]at h2;cases h2) id
   clear ih3 hclos hlive hcl0 hcl1 ih4 P hcont
   rw [←hend]at C K
   clear hend
   generalize (U g r||r6 D M2 o g r k)=is at*
   generalize hmv:M2 g r=mv at*
   cases is with
   |false=>
    have C:=C (.inl rfl)
    clear K
    obtain rfl:=hlen rfl
    simp -implicitDefEqProofs only [go_sem,Int.lt_irrefl,B]
    exact XP
   | true=>
    clear hlen
    cases mv with
    | true=>
     have C:=C (.inr rfl)
     clear K
     by_cases hlk:k<o.length
     ·have v0:((k:Int)<(o.length:Int))=True:=Ji
      refine Jf ?_
      exact XP
     ·have v0:((k:Int)<(o.length:Int))=False:=Jj
      refine Jf ?_
      exact XP
    | false=>
     have K:=K rfl rfl
     clear C
     have hmem: ∀e,e∈(((46*10000+25),Q,.rows 1 LV)::((46*10000+24),sd,.rows 1 DV)::((46*10000+23),su,.rows 1 UV)::((46*10000+1),0,.rows 11 [pr])::A1y (fun i=>D7 N (A9m M2 g r i)) S a:A2)→e∈((1000000000000+g,S g,Blk.rows 1 ((D7 N (M2 g)).set r [.bool true]))::((46*10000+25),Q,.rows 1 LV)::((46*10000+24),sd,.rows 1 DV)::((46*10000+23),su,.rows 1 UV)::((46*10000+1),0,.rows 11 [pr])::A2.del fm2 (1000000000000+g):A2):=fun e t=>by
      exact Xk
     by_cases hlk:k<o.length
     ·have v0:((k:Int)<(o.length:Int))=True:=Ji
      exact Kq
     ·have v0:((k:Int)<(o.length:Int))=False:=Jj
      exact Kq
end
end Go.Proofs.YtcaaenddpjepiaaGreatDoor
