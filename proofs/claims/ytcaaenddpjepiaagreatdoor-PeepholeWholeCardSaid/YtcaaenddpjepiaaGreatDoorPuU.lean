/-
 The registers that are used and defined. No condition.
-/
import Derived.Test.YtcaaenddpjepiaaGreatDoorRwM
import Derived.Test.YtcaaenddpjepiaaGreatDoorFlowL
import Derived.Test.YtcaaenddpjepiaaGreatDoorExe
set_option linter.unusedVariables false
set_option linter.unusedSimpArgs false
set_option maxRecDepth 1000000
set_option maxHeartbeats 0
namespace Go.Proofs.YtcaaenddpjepiaaGreatDoor
open Go.Abs
@[go_sem] def uU1 : AC := .seq (.ops [[.h 47 .lss 46 45]]) (.seq (.cond (.t 47) .skip (.exit 0)) (.seq (.block 1 (.seq (.ops [[.i 48 3 44 46, .w 49 3 48, .j 9 (.box 580009 3 (.c (.agg [(.str []), (.bool false), (.int .i64 0)]))), .s 3 9 49]]) (.seq (.ops [[.a 50 1 9, .l 51 50]]) (.cond (.t 51) (.ops [[.m 52 5, .w 53 11 2, .a 54 2 9, .l 55 54, .j 56 (.mkisl 1 [(.t 55)]), .j 57 (.call 80 [(.t 52), (.t 53), (.t 56), (.z (-1))])]]) .skip)))) (.ops [[.b 58 .add 46 1, .m 46 58]])))
def uU2 : AC := uU1
theorem uU3 : uU2 = uU1 := rfl
@[go_sem] def uU4 : AC := .seq (.ops [[.j 2 (.box 580002 11 (.t 0)), .j 3 (.box 580003 5 (.t 1)), .j 4 (.mov (.c .nilp))]]) (.seq (.ops [[.j 10 (.build (List.replicate 4096 (.bool false)) []), .j 11 (.box 580011 4096 (.t 10)), .m 5 11]]) (.seq (.ops [[.w 13 5 3, .c 14 79 13, .m 12 14, .x 15 0 12, .x 16 1 12, .m 6 15, .m 7 16]]) (.seq (.ops [[.m 17 5, .w 18 11 2, .m 19 6, .m 20 7, .j 21 (.call 80 [(.t 17), (.t 18), (.t 19), (.t 20)])]]) (.seq (.seq (.ops [[.a 22 0 3, .l 23 22, .b 24 .eql 23 22, .m 25 24, .k 26 25 true (.faddr 2 (.t 3)), .k 27 25 true (.load 1 false (.t 26)), .k 28 25 true (.bin .geq (.t 27) (.z 0)), .j 29 (.pick (.t 25) (.t 28) (.c (.bool false))), .m 30 29, .k 31 30 true (.faddr 2 (.t 3)), .k 32 30 true (.load 1 false (.t 31)), .k 33 30 true (.faddr 8 (.t 2)), .k 34 30 true (.load 1 false (.t 33)), .k 35 30 true (.len 0 (.t 34)), .k 36 30 true (.bin .lss (.t 32) (.t 35)), .j 37 (.pick (.t 30) (.t 36) (.c (.bool false)))]]) (.cond (.t 37) (.seq (.ops [[.a 38 8 2, .l 39 38, .a 40 2 3, .l 41 40, .i 42 11 39 41, .a 43 9 42, .l 44 43, .r 45 0 44, .n 46 0]]) (.block 0 (.loop uU2))) .skip)) (.seq (.ops [[.m 59 5, .m 4 59]]) .ret)))))
theorem uU5 : B8 Tryz.prog 58 = some (60, uU4, [.t 4]) := by kernel_rfl
@[go_sem] def uU6 : AC := .seq (.ops [[.j 3 (.box 600003 11 (.t 0)), .j 6 (.mov (.c .nilp))]]) (.seq (.ops [[.j 12 (.build (List.replicate 4096 (.bool false)) []), .j 13 (.box 600013 4096 (.t 12)), .m 7 13]]) (.seq (.ops [[.a 14 5 3, .l 15 14, .m 16 1, .i 17 5 15 16, .w 18 5 17, .j 8 (.box 600008 5 (.c (.agg [(.int .i64 0), (.int .i64 0), (.int .i64 0), (.int .i64 0), (.int .i64 0)]))), .s 5 8 18]]) (.seq (.ops [[.m 19 2, .a 20 2 8, .l 21 20, .h 22 .eql 19 21, .m 23 22, .k 24 23 true (.mov (.t 2)), .k 25 23 true (.mov (.t 1)), .k 26 23 true (.bin .add (.t 25) (.z 1)), .k 27 23 true (.bin .neq (.t 24) (.t 26)), .j 28 (.pick (.t 23) (.t 27) (.c (.bool false))), .m 9 28]]) (.seq (.seq (.ops [[.a 29 0 8, .l 30 29]]) (.block 0 (.seq (.seq (.ops [[.b 32 .eql 30 24, .m 31 32]]) (.cond (.t 31) .skip (.ops [[.b 33 .eql 30 26, .m 31 33]]))) (.cond (.t 31) (.seq (.ops [[.m 34 9, .j 35 (.un .not (.t 34))]]) (.cond (.t 35) (.seq (.ops [[.m 36 7, .m 6 36]]) .ret) .skip)) (.seq (.ops [[.b 38 .eql 30 23, .m 37 38]]) (.cond (.t 37) (.seq (.ops [[.m 39 2, .a 40 2 8, .l 41 40, .h 42 .eql 39 41]]) (.cond (.t 42) (.seq (.ops [[.m 43 7, .m 6 43]]) .ret) .skip)) .skip)))))) (.seq (.ops [[.w 45 5 8, .c 46 84 45, .m 44 46, .x 47 0 44, .x 48 1 44, .m 10 47, .m 11 48]]) (.seq (.ops [[.m 49 7, .w 50 11 3, .m 51 10, .m 52 11, .j 53 (.call 80 [(.t 49), (.t 50), (.t 51), (.t 52)])]]) (.seq (.ops [[.m 54 7, .m 6 54]]) .ret)))))))
theorem uU7 : B8 Tryz.prog 60 = some (55, uU6, [.t 6]) := by kernel_rfl
attribute [local irreducible] A0 Run
-- EV: Ins.v, Ins.row
attribute [local go_sem] Ins.v Ins.row
-- EV: Ins.v, Ins.row
def j7(z:Int):Nat:=(min (max z 0) 4096).toNat
theorem B2Y(z:Int):j7 z≤4096:=by unfold j7;omega
theorem B8T(z:Int)(h b a e f g d j i c:V):Pure Tryz.prog 57 [.agg [h,b,a,e,.int .i64 z,f,g,d,j,i,c]] (.int .i64 (j7 z)):=by
 refine Pure.of 0 (A0.enter B2v Jk ?_)
 refine Run.go 100 ?_
 refine QM ?_
 unfold j7
 (repeat' split)<;>omega
def V7(f:Nat→Bool):List V:=(List.range 4096).map fun x=> .bool (f x)
theorem B0p(f:Nat→Bool):(V7 f).length=4096:=by simp [V7]
theorem B3V:V7 (fun _=>false)=List.replicate 4096 (.bool false):=by
 unfold V7;rw [List.map_const'];simp
theorem B5y{f:Nat→Bool}{x:Nat}(h:x<4096):(V7 f)[x]? =some (.bool (f x)):=by simp [V7,h]
theorem C2k{f:Nat→Bool}{x:Nat}(h:x<4096):L3 (V7 f) x [.bool true]=V7 (fun y=>f y||decide (y=x)):=by
 have b:=B0p f
 have e:L3 (V7 f) x [.bool true]=(V7 f).set x (.bool true):=by
  rw [List.set_eq_take_append_cons_drop,if_pos zd]
  simp [L3]
 rw [e]
 refine List.ext_getElem? fun i=> ?_
 rw [List.getElem?_set]
 by_cases a:i<4096
 ·rw [B5y a,B5y a]
  by_cases c:x=i
  ·subst c;simp [b,h]
  ·rw [if_neg c];simp [show¬i=x from fun e=>c e.symm]
 ·rw [if_neg zd,List.getElem?_eq_none (by rw [B0p];omega),List.getElem?_eq_none (by rw [B0p];omega)]
def A4m(N:Nat)(l:List Int)(from_:Int)(f:Nat→Bool):Nat→Bool:=fun r=>f r||(decide (r<N)&&(decide ((r:Int)∈l)||decide (0≤from_∧from_≤r)))
def A3X(N:Nat)(l:List Int)(k:Nat)(f:Nat→Bool):Nat→Bool:=fun r=>f r||(decide (r<N)&&decide ((r:Int)∈l.take k))
def A7m(N:Nat)(l:List Int)(a x:Int)(f:Nat→Bool):Nat→Bool:=fun r=>f r||(decide (r<N)&&(decide ((r:Int)∈l)||decide (a≤r∧(r:Int)<x)))
theorem B8J(N:Nat)(l:List Int)(f:Nat→Bool):A3X N l 0 f=f:=by funext r;simp [A3X]
theorem C1T{N:Nat}{l:List Int}{k:Nat}{f:Nat→Bool}{x:Nat}(h:l[k]? =some (x:Int))(a:x<N):(fun y=>A3X N l k f y||decide (y=x))=A3X N l (k+1) f:=by
 funext r
 unfold A3X
 rw [List.take_add_one,h]
 by_cases c:r=x
 ·subst c;simp [a]
 ·have: ¬(r:Int)=(x:Int):=by omega
  simp [c,this]
theorem C5u{N:Nat}{l:List Int}{k:Nat}{f:Nat→Bool}{x:Int}(h:l[k]? =some x)(a: ¬(0≤x∧x<N)):A3X N l (k+1) f=A3X N l k f:=by
 funext r
 unfold A3X
 rw [List.take_add_one,h]
 by_cases c:r<N
 ·have: ¬(r:Int)=x:=by omega
  simp [this]
 ·simp [c]
theorem B6G{N:Nat}{l:List Int}{a:Int}{f:Nat→Bool}:A7m N l a a f=A3X N l l.length f:=by
 funext r
 unfold A7m A3X
 rw [List.take_length]
 have: ¬(a≤(r:Int)∧(r:Int)<a):=by omega
 simp only [this,decide_false,Bool.or_false]
theorem B8K{N:Nat}{l:List Int}{a:Int}{f:Nat→Bool}{x:Nat}(b:a≤x)(h:x<N):(fun y=>A7m N l a x f y||decide (y=x))=A7m N l a ((x:Int)+1) f:=by
 funext r
 unfold A7m
 by_cases c:r=x
 ·subst c;simp [h,b];omega
 ·have:((r:Int)<(x:Int)+1)=((r:Int)<x):=by rw [eq_iff_iff];omega
  simp only [this,c,decide_false,Bool.or_false]
theorem C1U{N:Nat}{l:List Int}{a x:Int}{f:Nat→Bool}(b:0≤a)(h:(N:Int)≤x):A7m N l a x f=A4m N l a f:=by
 funext r
 unfold A7m A4m
 by_cases c:r<N
 ·have e:(a≤(r:Int)∧(r:Int)<x)=(0≤a∧a≤(r:Int)):=by rw [eq_iff_iff];omega
  simp only [e]
 ·simp [c]
theorem C5t{N:Nat}{l:List Int}{a:Int}{f:Nat→Bool}(h:a<0):A4m N l a f=A3X N l l.length f:=by
 funext r
 unfold A4m A3X
 rw [List.take_length]
 have: ¬(0≤a∧a≤(r:Int)):=by omega
 simp only [this,decide_false,Bool.or_false]
theorem D2p(z:Int)(l:List Int)(a:Int)(hl:l.length≤100000)(hf: -1≤a)(f:Nat→Bool)(b st n:Nat)(Y:b≠(80*10000+5))(E F C w A B D G H i:V)(s: [E,F,C,w,A,B,D,G,H,i].map (V.sub C7)= [E,F,C,w,A,B,D,G,H,i]):
  A0 Tryz.prog 80 [.ptr b st 0 0,.agg [E,F,C,w,.int .i64 z,A,B,D,G,H,i],.isl (l.map zrw),.int .i64 a] [(b,st,.rows 4096 [V7 f])] n
   (fun r h' n'=>r= .tup []∧h'= [(b,st,.rows 4096 [V7 (A4m (j7 z) l a f)])]):=by
 refine A0.enterK A3g Jk fun Q X=>Run.go 100 ?_
 simp only [List.map_cons,List.map_nil,List.cons.injEq,and_true]at s
 have g:(l.map zrw).length=l.length:=List.length_map ..
 have p: ∀(k:Nat) (x:Int),l[k]? =some x→(l.map zrw)[k]? =some [.int .i64 x]:=fun k x h=>(by rw [List.getElem?_map,h];rfl)
 have j:=H1 l
 have hN:=B2Y z
 have J:=B8T z
 generalize j7 z=N at*
 generalize l.map zrw=es at*
 have q:=eq_false Y
 simp only [Nat.reduceMul,Nat.reduceAdd]at q
 simp -implicitDefEqProofs only [go_sem,A4,q]
 refine A0.pureF (J E F C w A B D G H i) zP ?_
 refine QL ?_
 refine Run.rounds (fun(x:Nat)=>⟨[(16,.int .i64 x),(15,.int .i64 l.length),(14,.isl es),(8,.int .i64 N),(3,.int .i64 a),(0,.ptr b st 0 0)],[(b,st,.rows 4096 [V7 (A3X N l x f)])],n+1⟩)
  (fun x=>x≤l.length) (fun x=>l.length-x) 0 (by simp -implicitDefEqProofs only [go_sem,B8J,g]) zd ?_
 intro k hk o
 have u:((k+1:Nat):Int)=(k:Int)+1:=by omega
 refine Run.unf A0X (Run.go 100 ?_)
 by_cases c:(k:Int)<l.length
 ·obtain⟨x,P⟩: ∃x,l[k]? =some x:=⟨l[k]' zd,by simp⟩
  have K:=p k x P
  have I:((0:Int)≤(k:Int))=True:=Ji
  have U:((k:Int)<(l.length:Int))=True:=eq_true c
  have O:(k<l.length)=True:=Ji
  by_cases d:0≤x∧x<N
  ·obtain⟨y,rfl⟩: ∃y:Nat,x=y:=⟨x.toNat,by omega⟩
   have m:=eq_true d.1
   have S:=eq_true d.2
   have T:((y:Int)<4096)=True:=Ji
   have W:(V7 (A3X N l k f)).take y++ [.bool true]++(V7 (A3X N l k f)).drop (y+1)=V7 (A3X N l (k+1) f):=by
    have:=C2k (f:=A3X N l k f) (x:=y) zd
    rwa [C1T P zd]at this
   have L:y+1≤(V7 (A3X N l k f)).length:=by rw [B0p];omega
   generalize V7 (A3X N l k f)=R at*
   simp -implicitDefEqProofs only [go_sem,g,K,j,I,U,O,m,S,T,W,Option.some.injEq,forall_eq',Nat.beq_refl,Nat.mul_one]
   exact YP
  ·have e:=C5u (f:=f) P d
   by_cases m:0≤x
   ·have M:=eq_true m
    have v:=eq_false (fun h=>d ⟨m,h⟩)
    simp -implicitDefEqProofs only [go_sem,g,K,j,I,U,O,M,v,Option.some.injEq,forall_eq']
    exact YI
   ·have M:=eq_false m
    simp -implicitDefEqProofs only [go_sem,g,K,j,I,U,O,M,Option.some.injEq,forall_eq']
    exact YI
 ·have e:k=l.length:=by omega
  subst e
  clear o
  by_cases t:a<0
  ·have v:(0≤a)=False:=Jj
   simp -implicitDefEqProofs only [go_sem,c,v,g]
   rw [←C5t t]
   subst X
   exact XR
  ·have v:(0≤a)=True:=Ji
   simp -implicitDefEqProofs only [go_sem,c,v,g]
   refine Run.rounds (fun(x:Nat)=>⟨[(11,.int .i64 (a+x)),(8,.int .i64 N),(0,.ptr b st 0 0)],[(b,st,.rows 4096 [V7 (A7m N l a (a+x) f)])],n+1⟩)
    (fun x=>x≤N) (fun x=>N-x) 0 (by simp -implicitDefEqProofs only [go_sem,B6G,Int.add_zero]) zd ?_
   intro k hk o
   refine Run.unf V6 (Run.go 100 ?_)
   by_cases c:a+k<N
   ·obtain⟨y,Z⟩: ∃y:Nat,a+k=y:=⟨(a+k).toNat,by omega⟩
    have u:a+((k+1:Nat):Int)=(y:Int)+1:=by omega
    rw [Z]at c⊢
    have m:((0:Int)≤(y:Int))=True:=Ji
    have S:=eq_true c
    have T:((y:Int)<4096)=True:=Ji
    have W:(V7 (A7m N l a y f)).take y++ [.bool true]++(V7 (A7m N l a y f)).drop (y+1)=V7 (A7m N l a ((y:Int)+1) f):=by
     have:=C2k (f:=A7m N l a y f) (x:=y) zd
     rwa [B8K zd zd]at this
    have L:y+1≤(V7 (A7m N l a y f)).length:=by rw [B0p];omega
    generalize V7 (A7m N l a y f)=R at*
    simp -implicitDefEqProofs only [go_sem,m,S,T,W,Option.some.injEq,forall_eq',Nat.beq_refl,Nat.mul_one]
    exact YP
   ·refine QO ?_
    rw [C1U zd zd]
    subst X
    exact XR
-- EV: Ins.v, Ins.row
def upsF(N:Nat)(us:List (List UInt8×Bool×Int))(f:Nat→Bool):Nat→Bool:=us.foldl (fun f u=>if u.2.1 then A4m N [u.2.2] (-1) f else f) f
theorem B8Z{N:Nat}{a:List (List UInt8×Bool×Int)}{k:Nat}{u:List UInt8×Bool×Int}{f:Nat→Bool}(h:a[k]? =some u):upsF N (a.take (k+1)) f=if u.2.1 then A4m N [u.2.2] (-1) (upsF N (a.take k) f)else upsF N (a.take k) f:=by
 unfold upsF
 rw [List.take_add_one,h,Option.toList_some,List.foldl_append];rfl
def B9a(p:Pro)(i:Ins):Nat→Bool:=
 let f:=A4m (j7 p.regs) (reads i).1 (reads i).2 fun _=>false
 if i.op=22∧0≤i.b∧i.b<p.protos.length then upsF (j7 p.regs) ((p.protos[i.b.toNat]?).elim [] (·.ups)) f else f
theorem B8O(f:Nat→Bool): ∀c∈V7 f,∃b,c= .bool b:=fun c h=>by
 unfold V7 at h
 obtain⟨x,_,rfl⟩:=List.mem_map.1 h
 exact⟨_,rfl⟩
theorem C7J(p:Pro)(i:Ins)(d:p.row.map (V.sub C7)=p.row)(L: ∀q∈p.protos,q.ups.length≤4398046510976):Pure Tryz.prog 58 [.agg p.row,i.v] (.iptr [V7 (B9a p i)] 0 0):=by
 refine Pure.ofPtr (B8O _) (A0.enterK uU5 Jk fun Q H=> ?_)
 have t:=fun l a b c f bb st n v=>D2p p.regs l a b c f bb st n v
 have z:=A3Y i
 have I:=p.row_eq
 generalize Z:j7 p.regs=N at*
 have w:B9a p i=if i.op=22∧0≤i.b∧i.b<p.protos.length then upsF N ((p.protos[i.b.toNat]?).elim [] (·.ups)) (A4m N (reads i).1 (reads i).2 fun _=>false)else A4m N (reads i).1 (reads i).2 fun _=>false:=by rw [←Z];rfl
 generalize B9a p i=U at*
 have j:(p.protos.map Pro.row).length=p.protos.length:=List.length_map ..
 have A: ∀(k:Nat) (x:Pro),p.protos[k]? =some x→(p.protos.map Pro.row)[k]? =some x.row:=fun k x h=>by rw [List.getElem?_map,h];rfl
 have D:C4 (p.protos.map Pro.row) 11=True:=eq_true fun r B=>by obtain⟨y,_,rfl⟩:=List.mem_map.1 B;rw [Pro.row_eq];rfl
 have K:(reads i).1.length≤100000:=by
  have:=A5R (B0B i) (fun x C=>(z.1 x C).1) (fun x C=>(z.1 x C).2)
  omega
 rw [I]at d⊢
 generalize p.protos.map Pro.row=PR at*
 generalize p.code.map Ins.row=c5 at*
 generalize p.lines.map C5I=c6 at*
 generalize p.ups.map A6m=c9 at*
 simp only [List.map_cons,List.map_nil,List.cons.injEq,and_true,true_and,V.sub,K0,V.isl.injEq]at d
 refine Run.go 100 ?_
 refine QM ?_
 refine A0.pureF (B1Q i) ze ?_
 simp -implicitDefEqProofs only [go_sem,←B3V]
 refine A0.at [0] [1,2] (t _ _ K z.2.1 _ _ _ _ zh _ _ _ _ _ _ _ _ _ _ zS) rfl rfl ?_
 rintro r h' n' hn ⟨rfl,rfl⟩
 refine QL ?_
 by_cases g:i.op=22∧0≤i.b∧i.b<p.protos.length
 rotate_left
 ·rw [if_neg g]at w
  by_cases v:i.op=22
  ·by_cases s:0≤i.b
   ·have R:=eq_false (fun h=>g ⟨v,s,h⟩)
    have s:=eq_true s
    simp -implicitDefEqProofs only [go_sem,v,s,R,j]
    exact YN
   ·have s:=eq_false s
    simp -implicitDefEqProofs only [go_sem,v,s]
    exact YN
  ·simp -implicitDefEqProofs only [go_sem,v]
   exact YN
 ·rw [if_pos g]at w
  obtain⟨q,M⟩: ∃q,p.protos[i.b.toNat]? =some q:=⟨p.protos[i.b.toNat]' zd,by simp⟩
  have G:=A _ _ M
  have S:=L q (List.mem_of_getElem? M)
  rw [q.row_eq]at G
  rw [M]at w
  simp only [Option.elim_some]at w
  have v:=g.1
  have s:=eq_true g.2.1
  have R:=eq_true g.2.2
  have h4:(i.b.toNat<p.protos.length)=True:=Ji
  have o:(q.ups.map A6m).length=q.ups.length:=List.length_map ..
  have O: ∀(k:Nat) (x:List UInt8×Bool×Int),q.ups[k]? =some x→(q.ups.map A6m)[k]? =some [.str x.1,.bool x.2.1,.int .i64 x.2.2]:=fun k x h=>by rw [List.getElem?_map,h];rfl
  have E:C4 (q.ups.map A6m) 3=True:=eq_true fun r B=>by obtain⟨y,_,rfl⟩:=List.mem_map.1 B;rfl
  generalize q.ups.map A6m=UR at*
  generalize hf0:A4m N (reads i).1 (reads i).2 (fun _=>false)=J at*
  simp -implicitDefEqProofs only [go_sem,v,s,R,h4,j,D,G,Option.some.injEq,forall_eq']
  refine Run.roundsK (fun(x:Nat×Nat)=>⟨[(46,.int .i64 x.1),(45,.int .i64 q.ups.length),(44,.isl UR),(5,.ptr (58*10000+11) 2 0 0),(3,.ptr (58*10000+3) 1 0 0),(2,.ptr (58*10000+2) 0 0 0)],[((58*10000+11),2,.rows 4096 [V7 (upsF N (q.ups.take x.1) J)]),((58*10000+3),1,.rows 5 [[.int .i64 22,.int .i64 i.a,.int .i64 i.b,.int .i64 i.c,.int .i64 i.d]]),((58*10000+2),0,.rows 11 [[.str p.name,.int .i64 p.line,.int .i64 p.params,.bool p.vararg,.int .i64 p.regs,.isl c5,.isl c6,.isl p.consts,.isl PR,.isl c9,.isl p.vars]])],x.2⟩)
   (fun x=>x.1≤q.ups.length) (fun x=>q.ups.length-x.1) (0,n') (C1.wk (by simp -implicitDefEqProofs only [go_sem,o,List.take_zero,upsF,List.foldl_nil])) zg ?_
  rintro⟨k,m⟩ hk P
  simp only at hk P⊢
  have Y:((k+1:Nat):Int)=(k:Int)+1:=by omega
  refine Run.unf uU3 (Run.go 100 ?_)
  by_cases c:(k:Int)<q.ups.length
  ·obtain⟨u,C⟩: ∃u,q.ups[k]? =some u:=⟨q.ups[k]' zd,by simp⟩
   have B:=O k u C
   have T:((0:Int)≤(k:Int))=True:=Ji
   have X:((k:Int)<(q.ups.length:Int))=True:=eq_true c
   have W:(k<q.ups.length)=True:=Ji
   have e:=B8Z (N:=N) (f:=J) C
   generalize upsF N (q.ups.take k) J=F at*
   cases hl:u.2.1 with
   |false=>
    rw [hl]at e
    simp only [Bool.false_eq_true,if_false]at e
    simp -implicitDefEqProofs only [go_sem,o,B,E,T,X,W,hl,Option.some.injEq,forall_eq']
    refine⟨by omega,?_⟩
    refine P _ (k+1,m+1) zg zg (C1.wk ?_)
    simp only [Y,e]
    exact Xx
   |true=>
    rw [hl]at e
    simp only [if_true]at e
    simp -implicitDefEqProofs only [go_sem,o,B,E,T,X,W,hl,Option.some.injEq,forall_eq']
    refine A0.at [1] [2,3] (t [u.2.2] (-1) zf zd _ _ _ _ zh _ _ _ _ _ _ _ _ _ _ zS) rfl rfl ?_
    rintro r h' n2 hn ⟨rfl,rfl⟩
    refine QL ?_
    refine⟨by omega,?_⟩
    refine P _ (k+1,n2) zg zg (C1.wk ?_)
    simp only [Y,e]
    exact ze
  ·have e:k=q.ups.length:=by omega
   subst e
   rw [List.take_length] 
   simp -implicitDefEqProofs only [go_sem,c,o]
   rw [←w]
   subst H
   exact .is ⟨_,_,_,rfl,rfl⟩
def B8c(p:Pro)(at_:Nat)(to_:Int):Nat→Bool:=
 match p.code[at_]? with
 |some i=>if (i.op=24∨i.op=26)∧ ¬(to_=i.b∧to_≠at_+1)∨i.op=23∧to_=i.b then fun _=>false else A4m (j7 p.regs) (C6 i).1 (C6 i).2 fun _=>false
 |none=>fun _=>false
theorem C6c(p:Pro)(d:Nat)(to_:Int)(j:d<p.code.length)(L:p.code.length≤100000)(e:p.row.map (V.sub C7)=p.row):Pure Tryz.prog 60 [.agg p.row,.int .i64 d,.int .i64 to_] (.iptr [V7 (B8c p d to_)] 0 0):=by
 refine Pure.ofPtr (B8O _) (A0.enterK uU7 Jk fun Q z=> ?_)
 have k:=fun l a b c f F C n G=>D2p p.regs l a b c f F C n G
 have s:=p.row_eq
 obtain⟨i,A⟩: ∃i,p.code[d]? =some i:=⟨p.code[d]'j,by simp [j]⟩
 have g:=A2r i
 generalize B:j7 p.regs=N at*
 have o:B8c p d to_=if (i.op=24∨i.op=26)∧ ¬(to_=i.b∧to_≠d+1)∨i.op=23∧to_=i.b then fun _=>false else A4m N (C6 i).1 (C6 i).2 fun _=>false:=by unfold B8c;rw [A,←B]
 generalize B8c p d to_=U at*
 have m:(p.code.map Ins.row).length=p.code.length:=List.length_map ..
 have t:(p.code.map Ins.row)[d]? =some i.row:=by rw [List.getElem?_map,A];rfl
 have q:C4 (p.code.map Ins.row) 5=True:=eq_true fun r t=>by obtain⟨y,_,rfl⟩:=List.mem_map.1 t;rfl
 have u:(C6 i).1.length≤100000:=by
  have:=A5R (B1p i) (fun x w=>(g.1 x w).1) (fun x w=>(g.1 x w).2)
  omega
 rw [s]at e⊢
 generalize p.protos.map Pro.row=O at*
 generalize p.code.map Ins.row=M at*
 generalize p.lines.map C5I=I at*
 generalize p.ups.map A6m=R at*
 simp only [List.map_cons,List.map_nil,List.cons.injEq,and_true,true_and,V.sub,K0,V.isl.injEq]at e
 have D:((0:Int)≤(d:Int))=True:=Ji
 have H:((d:Int)<(p.code.length:Int))=True:=Ji
 have E:(d<p.code.length)=True:=eq_true j
 refine Run.go 100 ?_
 simp -implicitDefEqProofs only [go_sem,A4,m,t,q,D,H,E,Option.some.injEq,forall_eq']
 have v:=B0A i
 repeat' (first|refine And.intro ?_ ?_|refine fun h=> ?_)
 all_goals (try simp only [Bool.not_eq_eq_eq_not,Bool.not_true,Bool.not_false,decide_eq_false_iff_not,decide_eq_true_eq,Decidable.not_not]at*)
 all_goals first
  |omega
  | (rw [if_pos zd]at o
     subst z;subst o
     exact .is ⟨_,_,_,rfl,by rw [B3V];rfl⟩)
  | (rw [if_neg zd]at o
     refine A0.pureF v ze ?_
     simp -implicitDefEqProofs only [go_sem,←B3V]
     refine A0.at [1] [0,2] (k _ _ u g.2.1 _ _ _ _ zh _ _ _ _ _ _ _ _ _ _ QG) rfl rfl ?_
     rintro r P J K ⟨rfl,rfl⟩
     refine QL ?_
     subst z;subst o
     exact .is ⟨_,_,_,rfl,rfl⟩)
end Go.Proofs.YtcaaenddpjepiaaGreatDoor
