/-
 What 'flow.Live' answers: the least solution. No condition.
-/
import Derived.Test.YtcaaenddpjepiaaGreatDoorPuU
import Derived.Test.YtcaaenddpjepiaaGreatDoorFlowN
import Derived.Test.YtcaaenddpjepiaaGreatDoorLiveT
import Derived.Test.YtcaaenddpjepiaaGreatDoorRvA
import Derived.Test.YtcaaenddpjepiaaGreatDoorExe
import Derived.Test.YtcaaenddpjepiaaGreatDoorPeTR
import Derived.Test.YtcaaenddpjepiaaGreatDoorOpc3
import Derived.Test.YtcaaenddpjepiaaGreatDoorFnCk
import Derived.Test.YtcaaenddpjepiaaGreatDoorFnMb
import Derived.Test.YtcaaenddpjepiaaGreatDoorFlowR
set_option linter.unusedVariables false
set_option linter.unusedSimpArgs false
set_option maxRecDepth 100000
set_option maxHeartbeats 0
namespace Go.Proofs.YtcaaenddpjepiaaGreatDoor
section
open Go.Abs
attribute [local irreducible] A0 Run
-- EV: Ins.v, Ins.row
attribute [local go_sem] Ins.v Ins.row
def A3e(f:Nat→V)(z:V)(n a:Nat):List (List V):=(List.range n).map fun i=> [if i<a then f i else z]
theorem i9(f:Nat→V)(z:V)(n a:Nat):(A3e f z n a).length=n:=by simp [A3e]
theorem B8V(f:Nat→V)(z:V)(n:Nat):A3e f z n 0=List.replicate n [z]:=by
 unfold A3e
 simp only [Nat.not_lt_zero,if_false]
 rw [List.map_const'];simp
theorem B5C{f:Nat→V}{z:V}{n a i:Nat}(h:i<n):(A3e f z n a)[i]? =some [if i<a then f i else z]:=by simp [A3e,h]
theorem B3p{f:Nat→V}{z:V}{n a:Nat}(h:a<n):(A3e f z n a)[a]? =some [z]:=by rw [B5C h,if_neg (Nat.lt_irrefl a)]
theorem B7l{f:Nat→V}{z:V}{n a i:Nat}(h:i<n)(b:i<a):(A3e f z n a)[i]? =some [f i]:=by rw [B5C h,if_pos b]
theorem B3q{f g:Nat→V}{z:V}{n a:Nat}(b: ∀i,i<a→g i=f i):(A3e f z n a).set a [g a]=A3e g z n (a+1):=by
 refine List.ext_getElem? fun i=> ?_
 rw [List.getElem?_set]
 by_cases h:i<n
 ·rw [B5C h,B5C h,i9]
  by_cases c:a=i
  ·subst c;simp [h]
  ·rw [if_neg c]
   by_cases d:i<a
   ·rw [if_pos d,if_pos zd,b i d]
   ·rw [if_neg d,if_neg zd]
 ·rw [List.getElem?_eq_none (by rw [i9];omega),List.getElem?_eq_none (by rw [i9];omega)]
  split
  ·rw [i9,if_neg zd]
  ·rfl
theorem A8Z(f:Nat→V)(z:V)(n a:Nat):C4 (A3e f z n a) 1=True:=eq_true fun r h=>by
 obtain⟨i,_,rfl⟩:=List.mem_map.1 h;rfl
def D7(N:Nat)(f:Nat→Bool):List (List V):=(List.range N).map fun r=> [.bool (f r)]
theorem H6(N:Nat)(f:Nat→Bool):(D7 N f).length=N:=by simp [D7]
theorem R0{N r:Nat}{f:Nat→Bool}(h:r<N):(D7 N f)[r]? =some [.bool (f r)]:=by simp [D7,h]
theorem A8b(N:Nat):D7 N (fun _=>false)=List.replicate N [.bool false]:=by
 unfold D7;rw [List.map_const'];simp
theorem C1e{M:Nat→Nat→Bool}{N a r:Nat}:(fun i=>D7 N (A9m M a r i))=D0f (fun i=>D7 N (M i)) a ((D7 N (M a)).set r [.bool true]):=by
 funext i
 unfold D0f
 by_cases c:i=a
 ·subst c
  rw [if_pos rfl]
  refine List.ext_getElem? fun j=> ?_
  rw [List.getElem?_set,H6]
  by_cases h:j<N
  ·rw [R0 h,R0 h]
   by_cases d:r=j
   ·subst d;simp [h,A9m]
   ·rw [if_neg d];simp [A9m,Ne.symm d]
  ·rw [List.getElem?_eq_none (by rw [H6];omega),List.getElem?_eq_none (by rw [H6];omega)]
   split
   ·rw [if_neg zd]
   ·rfl
 ·rw [if_neg c]
  congr 1
  funext y
  simp [A9m,c]
def A2v(q:Nat→Bool)(r:Nat):Nat:=((List.range r).filter q).length
theorem C0J{q:Nat→Bool}{r:Nat}(h:q r=true):A2v q (r+1)=A2v q r+1:=by simp [A2v,List.range_succ,List.filter_append,h]
theorem C4O{q:Nat→Bool}{r:Nat}(h:q r=false):A2v q (r+1)=A2v q r:=by simp [A2v,List.range_succ,List.filter_append,h]
theorem B3D{q:Nat→Bool}{r:Nat}(h:q r=true): ∀{N:Nat},r<N→((List.range N).filter q)[A2v q r]? =some r
 |0,hr=>absurd hr (Nat.not_lt_zero r)
 | N+1,hr=>by
  rw [List.range_succ,List.filter_append]
  by_cases c:r<N
  ·have i:=B3D h c
   rw [List.getElem?_append_left (List.getElem?_eq_some_iff.1 i).1];exact i
  ·obtain rfl:r=N:=by omega
   have e:A2v q r=(List.filter q (List.range r)).length:=rfl
   rw [e,List.getElem?_append_right (Nat.le_refl _)]
   simp [h]
def A7T(p:Pro)(a r:Nat):Bool:=match p.code[a]? with|some i=>B9a p i r|none=>false
def B4V(p:Pro)(a:Nat)(to_:Int)(r:Nat):Bool:=B8c p a to_ r
noncomputable def B6r (p:Pro) (a r:Nat):Bool:=C8T (A7T p) (fun a=>C5 p.code a) (B4V p) a r
noncomputable def lvL (p:Pro) (a:Nat):List Int:=((List.range (j7 p.regs)).filter (B6r p a)).map fun r=>((r:Nat):Int)
noncomputable def B4x (p:Pro):V:= .isl ((List.range p.code.length).map fun a=> [.isl ((lvL p a).map zrw)])
theorem B6U{α:Type}(f:α→List V)(sz:Nat)(h: ∀x,(f x).length=sz)(l:List α):C4 (l.map f) sz=True:=eq_true fun r a=>by obtain⟨y,_,rfl⟩:=List.mem_map.1 a;exact h y
def A3R(S:Nat→Nat)(N:Nat)(i:Nat):V:= .sl (1000000000000+i) (S i) 0 N
def B5j(p:Pro)(i:Nat):V:= .iptr [V7 (A7T p i)] 0 0
def C0T(p:Pro)(a:Nat)(l:List Int):List (List V):=l.map fun x=> [.iptr [V7 (B4V p a x)] 0 0]
def B4W(p:Pro)(i:Nat):V:= .isl (C0T p i (C5 p.code i))
def dcT(T:List (List V))(a b st:Nat):Nat→List (List V)
 |0=>T
 |k+1=>T.set a [.sl b st 0 (k+1)]
def dcH(R:List (List V))(b st:Nat):Nat→A2
 |0=> []
 |k+1=> [(b,st,.rows 1 (R.take (k+1)))]
theorem C8n(p:Pro)(a:Nat)(l:List Int):(C0T p a l).length=l.length:=by simp [C0T]
theorem D0G{p:Pro}{a k:Nat}{l:List Int}{x:Int}(h:l[k]? =some x):(C0T p a l)[k]? =some [.iptr [V7 (B4V p a x)] 0 0]:=by simp [C0T,h]
theorem B0R{R:List (List V)}{k:Nat}{x:List V}(h:R[k]? =some x):R.take (k+1)=R.take k++ [x]:=by rw [List.take_add_one,h];rfl
theorem A3F(p:Pro):p.row.length=11∧p.row.take 11=p.row:=by rw [p.row_eq];exact⟨rfl,rfl⟩
theorem C6J(p:Pro)(hc:p.code.length≤10000)(C:p.row.map (V.sub C7)=p.row)(hup: ∀q∈p.protos,q.ups.length≤4398046510976):Pure Tryz.prog 27 [.agg p.row] (B4x p):=by
 obtain⟨h1,h2⟩:=A3F p
 have hz:Pure Tryz.prog 57 [.agg p.row] (.int .i64 (j7 p.regs)):=by rw [p.row_eq];exact B8T _ _ _ _ _ _ _ _ _ _ _
 have hnx: ∀a:Int,Pure Tryz.prog 59 [.agg p.row,.int .i64 a] (.isl ((C5 p.code a).map zrw)):=fun a=>by rw [p.row_eq];exact A1L p.code a zd _ _ _ _ _ _ _ _ _ _
 have hus: ∀i:Ins,Pure Tryz.prog 58 [.agg p.row,.agg i.row] (.iptr [V7 (B9a p i)] 0 0):=fun i=>C7J p i C hup
 have hdf: ∀(a:Nat) (to_:Int),a<p.code.length→Pure Tryz.prog 60 [.agg p.row,.int .i64 a,.int .i64 to_] (.iptr [V7 (B4V p a to_)] 0 0):=fun a to_ ha=>C6c p a to_ ha zd C
 have g5:p.row[5]? =some (.isl (p.code.map Ins.row)):=by rw [p.row_eq];rfl
 have k5:(p.code.map Ins.row).length=p.code.length:=List.length_map ..
 have z5:=B6U Ins.row 5 (fun _=>rfl) p.code
 have r5: ∀(k:Nat) x,p.code[k]? =some x→(p.code.map Ins.row)[k]? =some (Ins.row x):=fun k x hk=>by rw [List.getElem?_map,hk];rfl
 have hN:=B2Y p.regs
 generalize hNe:j7 p.regs=N at*
 generalize hpr:p.row=pr at*
 generalize p.code.map Ins.row=B at*
 refine Pure.of 1 (A0.enter B2t Jk (Run.go 100 ?_))
 refine QV ?_
 refine A0.pureF hz zt ?_
 refine Jd ?_
 refine⟨by omega,by omega,by omega,by omega,by omega,by omega,?_⟩
 refine Run.keep [40,39,38,6,5,4,3,1] ?_
 generalize hnn:p.code.length=n at*
 refine Run.roundsK (fun(x:Nat×(Nat→Nat)×Nat)=>⟨[(40,.int .i64 x.1),(39,.int .i64 n),(38,.isl B),(6,.sl (27*10000+36) 3 0 n),(5,.sl (27*10000+32) 2 0 n),(4,.sl (27*10000+28) 1 0 n),(3,.int .i64 N),(1,.ptr (27*10000+1) 0 0 0)],
   ((27*10000+36),3,.rows 1 (A3e (B4W p) .nils n x.1))::((27*10000+32),2,.rows 1 (A3e (B5j p) .nilp n x.1))::((27*10000+28),1,.rows 1 (A3e (A3R x.2.1 N) .nils n x.1))::((27*10000+1),0,.rows 11 [pr])::A1y (fun _=>D7 N fun _=>false) x.2.1 x.1,x.2.2⟩)
  (fun x=>x.1≤n) (fun x=>n-x.1) (0,fun _=>0,4) (C1.wk (by simp -implicitDefEqProofs only [go_sem,B8V,B8h])) (Nat.zero_le _) ?_
 rintro⟨a,S,m⟩ ha ih
 simp only at ha ih⊢
 have H:=fun(b:Nat) hb=>A6Y (F:=fun _=>D7 N fun _=>false) (S:=S) (m:=a) (b:=b) hb
 refine Run.unf A9h (Run.go 100 ?_)
 by_cases K:a<n
 ·have q0:((a:Int)<(n:Int))=True:=Ji
  have q1:((0:Int)≤(a:Int))=True:=Ji
  obtain⟨i,J⟩: ∃i,p.code[a]? =some i:=⟨p.code[a]' zd,by simp⟩
  have hir:=r5 a i J
  have t1:=B3p (f:=A3R S N) (z:= .nils) K
  have t2:=B3p (f:=B5j p) (z:= .nilp) K
  have t3:=B3p (f:=B4W p) (z:= .nils) K
  have l1:=i9 (A3R S N) .nils n a
  have l2:=i9 (B5j p) .nilp n a
  have l3:=i9 (B4W p) .nils n a
  have s1:=A8Z (A3R S N) .nils n a
  have s2:=A8Z (B5j p) .nilp n a
  have s3:=A8Z (B4W p) .nils n a
  generalize hT1:A3e (A3R S N) .nils n a=T1 at*
  generalize hT2:A3e (B5j p) .nilp n a=T2 at*
  generalize hT3:A3e (B4W p) .nils n a=T3 at*
  generalize hfm:A1y (fun _=>D7 N fun _=>false) S a=fm at*
  simp -implicitDefEqProofs only [go_sem,q0,q1,k5,z5,hir,Ins.row,t1,t2,t3,l1,l2,l3,K,h1,h2,H,Option.some.injEq,forall_eq']
  refine⟨by omega,by omega,?_⟩
  have husi:=hus i
  simp only [Ins.row]at husi
  refine A0.pureF husi zt ?_
  simp -implicitDefEqProofs only [go_sem,t2,l2,q0,q1,K,h1,h2,H,Option.some.injEq,forall_eq']
  refine A0.pureF (hnx a) zt ?_
  have hnin:=fun x (h:x∈C5 p.code a)=>i2 h
  have hnl2:=R5 p.code a
  have hul:B9a p i=A7T p a:=by unfold A7T;rw [J]
  have hT3':=hT3
  generalize hnle:C5 p.code a=u at*
  have hnls: ∀(k:Nat) (x:Int),u[k]? =some x→(u.map zrw)[k]? =some [.int .i64 x]:=fun k x h=>P9 h
  have G:(u.map zrw).length=u.length:=List.length_map ..
  have W:=H1 u
  generalize u.map zrw=nls at*
  simp -implicitDefEqProofs only [go_sem,G,hul]
  refine Run.keep [60,59,58,40,39,38,7,6,5,4,3,1] ?_
  have hRl:=C8n p a u
  have hRa:=fun k x (h:u[k]? =some x)=>D0G (p:=p) (a:=a) h
  generalize hRR:C0T p a u=RR at*
  refine Run.roundsK (fun(y:Nat×Nat×Nat)=>⟨[(60,.int .i64 y.1),(59,.int .i64 u.length),(58,.isl nls),(40,.int .i64 a),(39,.int .i64 n),(38,.isl B),(7,.int .i64 a),(6,.sl (27*10000+36) 3 0 n),(5,.sl (27*10000+32) 2 0 n),(4,.sl (27*10000+28) 1 0 n),(3,.int .i64 N),(1,.ptr (27*10000+1) 0 0 0)],
    dcH RR (27*10000+75) y.2.1 y.1++((27*10000+36),3,.rows 1 (dcT T3 a (27*10000+75) y.2.1 y.1))::((27*10000+32),2,.rows 1 (T2.set a [.iptr [V7 (A7T p a)] 0 0]))::((27*10000+28),1,.rows 1 (T1.set a [.sl (27*10000+48) (m+1) 0 N]))::((27*10000+48),m+1,.rows 1 (List.replicate N [.bool false]))::((27*10000+1),0,.rows 11 [pr])::fm,y.2.2⟩)
   (fun y=>y.1≤u.length) (fun y=>u.length-y.1) (0,0,m+1+1) ?_ (Nat.zero_le _) ?_
  ·refine C1.wk (C1.of ze ?_ ze)
   intro e t
   simp only [dcH,dcT,List.nil_append,List.mem_cons]at t⊢
   rcases t with h|h|h|h|h|h<;>simp [h]
  rintro⟨k,st,m2⟩ hk A
  simp only at hk A⊢
  refine Run.unf A4k (Run.go 100 ?_)
  have hzk:((k+1:Nat):Int)=(k:Int)+1:=by omega
  by_cases hlk:k<u.length
  ·have w0:((k:Int)<(u.length:Int))=True:=Ji
   have w1:((0:Int)≤(k:Int))=True:=Ji
   obtain⟨x,hx⟩: ∃x,u[k]? =some x:=⟨u[k],by simp [hlk]⟩
   have hxr:=hnls k x hx
   have hdx:=hdf a x zd
   have hRx:=B0R (hRa k x hx)
   have fin:=fun s=>A s (k+1,m2,m2+1) zg zg
   clear A
   have hset: ∀(X:List V),(T3.set a X)[a]? =some X:=fun X=>by rw [List.getElem?_set];simp [l3,K]
   cases k with
   | zero=>
    simp only [dcH,dcT,List.nil_append,hRx,List.take_zero,List.cons_append]at fin⊢
    have w0':((0:Int)<(u.length:Int))=True:=Ji
    simp -implicitDefEqProofs only [go_sem,w0',G,W,hxr,hlk,t3,l3,q0,q1,K,h1,h2,H,Option.some.injEq,forall_eq']
    refine⟨?_,?_,?_⟩<;>
    (refine A0.pureF hdx zt ?_
     simp -implicitDefEqProofs only [go_sem,t3,l3,s3,q0,q1,K,h1,h2,H,Option.some.injEq,forall_eq']
     refine fin _ (C1.wk (C1.of zp (fun e t=> ?_) ze))
     simp only [List.mem_cons]at t⊢
     rcases t with h|h|h|h|h|h|h<;>simp only [h,eq_self,true_or,or_true])
   | succ k=>
    simp only [dcH,dcT,hRx,List.cons_append,List.nil_append]at fin⊢
    have hRk:(RR.take (k+1)).length=k+1:=by rw [List.length_take];omega
    generalize RR.take (k+1)=Rk at*
    simp -implicitDefEqProofs only [go_sem,w0,w1,G,W,hxr,hlk,hset,l3,q0,q1,K,h1,h2,H,List.length_set,Option.some.injEq,forall_eq']
    refine⟨?_,?_,?_⟩<;>
    (refine A0.pureF hdx zt ?_
     simp -implicitDefEqProofs only [go_sem,hset,l3,hRk,q0,q1,K,h1,h2,H,List.length_set,List.set_set,Option.some.injEq,forall_eq']
     refine⟨by omega,by omega,fin _ (C1.wk (C1.of zp (fun e t=> ?_) ze))⟩
     rw [List.take_of_length_le zd]
     simp only [List.mem_cons]at t⊢
     rcases t with h|h|h|h|h|h|h<;>simp only [h,eq_self,true_or,or_true])
  ·have e:k=u.length:=by omega
   subst e
   clear A
   have hza:((a+1:Nat):Int)=(a:Int)+1:=by omega
   have Z:T1.set a [.sl (1000000000000+a) (m+1) 0 N]=A3e (A3R (fun i=>if i=a then m+1 else S i) N) .nils n (a+1):=by
    rw [←hT1]
    have:=B3q (f:=A3R S N) (g:=A3R (fun i=>if i=a then m+1 else S i) N) (z:= .nils) (n:=n) (a:=a) (fun i J=>by simp only [A3R];rw [if_neg zd])
    rw [←this];simp [A3R]
   have hused:T2.set a [.iptr [V7 (A7T p a)] 0 0]=A3e (B5j p) .nilp n (a+1):=by
    rw [←hT2,←B3q (g:=B5j p) (fun i _=>rfl)];rfl
   have hdefd:T3.set a [.isl RR]=A3e (B4W p) .nils n (a+1):=by
    rw [←hT3,←B3q (g:=B4W p) (fun i _=>rfl)];rw [←hRR,←hnle];rfl
   have hfin: ∀(sl:List (Nat×V)) (m3:Nat),A3d sl [(40,.int .i64 ((a:Int)+1)),(39,.int .i64 n),(38,.isl B),(6,.sl (27*10000+36) 3 0 n),(5,.sl (27*10000+32) 2 0 n),(4,.sl (27*10000+28) 1 0 n),(3,.int .i64 N),(1,.ptr (27*10000+1) 0 0 0)]→
     Wk ⟨sl,((27*10000+36),3,.rows 1 (T3.set a [.isl RR]))::((27*10000+32),2,.rows 1 (T2.set a [.iptr [V7 (A7T p a)] 0 0]))::((27*10000+28),1,.rows 1 (T1.set a [.sl (27*10000+48) (m+1) 0 N]))::((27*10000+48),m+1,.rows 1 (List.replicate N [.bool false]))::((27*10000+1),0,.rows 11 [pr])::fm,m3⟩
      ⟨[(40,.int .i64 ((a:Int)+1)),(39,.int .i64 n),(38,.isl B),(6,.sl (27*10000+36) 3 0 n),(5,.sl (27*10000+32) 2 0 n),(4,.sl (27*10000+28) 1 0 n),(3,.int .i64 N),(1,.ptr (27*10000+1) 0 0 0)],((27*10000+36),3,.rows 1 (T3.set a [.isl RR]))::((27*10000+32),2,.rows 1 (T2.set a [.iptr [V7 (A7T p a)] 0 0]))::((27*10000+28),1,.rows 1 (T1.set a [.sl (1000000000000+a) (m+1) 0 N]))::((27*10000+1),0,.rows 11 [pr])::A1y (fun _=>D7 N fun _=>false) (fun i=>if i=a then m+1 else S i) (a+1),m3⟩:=by
    intro sl m3 hsl
    refine Wk.turn (fun b=>if b=(27*10000+48)then 1000000000000+a else b) (A9e.of (F3.1 hsl)) (.at 0 rfl rfl (.refl _) (.at 1 rfl rfl (.refl _) (.at 2 rfl rfl L1.set (.at 4 rfl rfl (.refl _) (B8g (b:=(27*10000+48)) (A8b N) ?_ ?_ ?_ ?_)))))
    ·exact if_pos rfl
    ·intro j hj;exact if_neg zd
    ·simp
    ·intro e t;rw [hfm]at t;simp [t]
   have fin:=fun s=>ih s (a+1,fun i=>if i=a then m+1 else S i,m2) zg zg
   clear ih
   simp only [←Z,←hused,←hdefd,hza]at fin
   have hX: ∀e∈(((27*10000+32),2,Blk.rows 1 (T2.set a [.iptr [V7 (A7T p a)] 0 0]))::((27*10000+28),1,.rows 1 (T1.set a [.sl (27*10000+48) (m+1) 0 N]))::((27*10000+48),m+1,.rows 1 (List.replicate N [.bool false]))::((27*10000+1),0,.rows 11 [pr])::fm:A2),e.1≠(27*10000+75):=by
    exact Xr
   generalize hnl:u.length=L at*
   cases L with
   |zero=>
    simp only [dcH,dcT,List.nil_append]
    have hR0:RR= []:=List.eq_nil_of_length_eq_zero zd
    subst hR0
    simp -implicitDefEqProofs only [go_sem,Int.lt_irrefl,h1,h2]
    refine⟨by omega,fin _ (Wk.trans (Wk.cell0 (sl':= [(40,.int .i64 ((a:Int)+1)),(39,.int .i64 n),(38,.isl B),(6,.sl (27*10000+36) 3 0 n),(5,.sl (27*10000+32) 2 0 n),(4,.sl (27*10000+28) 1 0 n),(3,.int .i64 N),(1,.ptr (27*10000+1) 0 0 0)]) ?_ t3) (hfin _ _ ?_))⟩
    ·exact ze
    ·exact Xx
   |succ k=>
    simp only [dcH,dcT,List.cons_append,List.nil_append]
    rw [List.take_of_length_le zd]
    simp -implicitDefEqProofs only [go_sem,Int.lt_irrefl,h1,h2]
    refine⟨by omega,fin _ (Wk.trans (Wk.cell (sl':= [(40,.int .i64 ((a:Int)+1)),(39,.int .i64 n),(38,.isl B),(6,.sl (27*10000+36) 3 0 n),(5,.sl (27*10000+32) 2 0 n),(4,.sl (27*10000+28) 1 0 n),(3,.int .i64 N),(1,.ptr (27*10000+1) 0 0 0)]) ?_ zh hX zd) (hfin _ _ ?_))⟩
    ·exact ze
    ·exact ze
 have e:a=n:=by omega
 subst e
 clear ih K ha
 have tl:=fun i (J:i<a)=>B7l (f:=A3R S N) (z:= .nils) J J
 have tu:=fun i (J:i<a)=>B7l (f:=B5j p) (z:= .nilp) J J
 have td:=fun i (J:i<a)=>B7l (f:=B4W p) (z:= .nils) J J
 have l1:=i9 (A3R S N) .nils a a
 have l2:=i9 (B5j p) .nilp a a
 have l3:=i9 (B4W p) .nils a a
 have s1:=A8Z (A3R S N) .nils a a
 have s2:=A8Z (B5j p) .nilp a a
 have s3:=A8Z (B4W p) .nils a a
 generalize A3e (A3R S N) .nils a a=LV at*
 generalize A3e (B5j p) .nilp a a=UV at*
 generalize A3e (B4W p) .nils a a=DV at*
 simp only [A3R,B5j,B4W]at tl tu td
 clear H
 generalize hUe:A7T p=U at*
 generalize hDe:B4V p=D at*
 have hDR: ∀i (l:List Int),C0T p i l=l.map fun x=> [.iptr [V7 (D i x)] 0 0]:=fun i l=>by rw [←hDe];rfl
 have hnin:=fun(i:Nat) x (h:x∈C5 p.code i)=>i2 h
 rw [hnn]at hnin
 refine QN ?_
 refine Run.keep [11,6,5,4,3,1] ?_
 have hbq: ∀k i:Nat,k<1000000000000→(k=1000000000000+i)=False:=fun k i h=>eq_false zd
 have hbq2: ∀k i:Nat,k<1000000000000→(1000000000000+i=k)=False:=fun k i h=>eq_false zd
 refine Run.roundsK (fun(x:(Nat→Nat→Bool)×Bool)=>⟨[(11,.bool x.2),(6,.sl (27*10000+36) 3 0 a),(5,.sl (27*10000+32) 2 0 a),(4,.sl (27*10000+28) 1 0 a),(3,.int .i64 N),(1,.ptr (27*10000+1) 0 0 0)],
   ((27*10000+36),3,.rows 1 DV)::((27*10000+32),2,.rows 1 UV)::((27*10000+28),1,.rows 1 LV)::((27*10000+1),0,.rows 11 [pr])::A1y (fun i=>D7 N (x.1 i)) S a,m⟩)
  (fun x=>A4T U (fun a=>C5 p.code a) D x.1∧(x.2=false→ ∀i r,i<a→r<N→j9 U (fun a=>C5 p.code a) D x.1 i r)) (fun x=>2*unM a N x.1+(if x.2 then 1 else 0)) (fun _ _=>false,true) ?_ ⟨fun _ _ h=>absurd h zf,fun h=>absurd h zf⟩ ?_
 ·exact Yb
 rintro⟨M,more⟩ ⟨hS0,hcl⟩ ih
 simp only at hS0 hcl ih⊢
 refine Run.unf A1s (Run.go 100 ?_)
 cases more with
 | false=>
  have hcl:=hcl rfl
  clear ih
  refine Jd ?_
  refine⟨by omega,by omega,?_⟩
  refine Run.keep [161,160,20,4,3] ?_
  have hLV:B4x p= .isl ((List.range a).map fun i=> [.isl ((((List.range N).filter (M i)).map fun r=>((r:Nat):Int)).map zrw)]):=by
   unfold B4x
   rw [hnn]
   refine congrArg V.isl (List.map_congr_left fun i J=> ?_)
   have I:i<a:=List.mem_range.1 J
   unfold lvL
   rw [hNe,show (List.range N).filter (B6r p i)=(List.range N).filter (M i) from List.filter_congr fun r hr=> ?_]
   have w:=List.mem_range.1 hr
   have e1:B6r p i r=true↔M i r=true:=by
    unfold B6r
    rw [hUe,hDe,B8y]
    exact⟨fun h=>B4l (n:=a) (N:=N) (fun b x hx=>hnin b x hx) hcl h I w,fun h=>hS0 i r h⟩
   exact Bool.eq_iff_iff.2 e1
  rw [hLV]
  generalize hM:(fun i=>(((List.range N).filter (M i)).map fun r=>((r:Nat):Int)).map zrw)=Q at*
  have hOV: ∀i,(((List.range N).filter (M i)).map fun r=>((r:Nat):Int)).map zrw=Q i:=fun i=>by rw [←hM]
  simp only [hOV]
  have hfg:=fun(i:Nat) J=>B2q (F:=fun i=>D7 N (M i)) (S:=S) (m:=a) (i:=i) J
  have H:=fun(b:Nat) hb=>A6Y (F:=fun i=>D7 N (M i)) (S:=S) (m:=a) (b:=b) hb
  have hfn: ∀e∈A1y (fun i=>D7 N (M i)) S a,1000000000000≤e.1:=fun e t=>by
   obtain⟨j,_,rfl⟩:=A0W.1 t
   simp only [t6];omega
  rw [H _ zh]
  generalize A1y (fun i=>D7 N (M i)) S a=fm at*
  refine Run.roundsK (fun(x:Nat×Nat)=>⟨[(161,.int .i64 x.1),(160,.int .i64 a),(20,.sl (27*10000+158) m 0 a),(4,.sl (27*10000+28) 1 0 a),(3,.int .i64 N)],
    ((27*10000+158),m,.rows 1 (A3e (fun i=> .isl (Q i)) .nils a x.1))::((27*10000+28),1,.rows 1 LV)::fm,x.2⟩)
   (fun x=>x.1≤a) (fun x=>a-x.1) (0,m+1) ?_ (Nat.zero_le _) ?_
  ·refine C1.wk (C1.of ze (fun e t=> ?_) ze)
   simp only [B8V,List.mem_cons]at t⊢
   rcases t with h|h|h<;>simp only [h,eq_self,true_or,or_true]
  rintro⟨i,m2⟩ J ih
  simp only at J ih⊢
  refine Run.unf K3 (Run.go 100 ?_)
  by_cases I:i<a
  case neg=>
   have e0:i=a:=by omega
   subst e0
   have tl2:=i9 (fun j=>V.isl (Q j)) .nils i i
   have tv:(A3e (fun j=>V.isl (Q j)) .nils i i)=(List.range i).map fun j=> [.isl (Q j)]:=by
    unfold A3e
    exact List.map_congr_left fun j hj=>by rw [if_pos (List.mem_range.1 hj)]
   have hfz: ∀d h,((List.range i).map fun j=> [V.isl (Q j)]).map (fun r=>r.map (frz d h))=(List.range i).map fun j=> [V.isl (Q j)]:=fun d h=>by
    rw [List.map_map]
    refine List.map_congr_left fun j _=> ?_
    have hz:=O7 d h (((List.range N).filter (M j)).map fun r=>((r:Nat):Int))
    rw [hOV]at hz
    have hq:frz d h (.isl (Q j))= .isl (Q j):=by
     cases d<;>exact(by simp only [frz,V.sub,K0];exact congrArg V.isl hz)
    simp only [Function.comp,List.map_cons,List.map_nil,hq]
   rw [tv]at tl2⊢
   generalize ((List.range i).map fun j=> [V.isl (Q j)])=TV at*
   exact XF
  have q0:((i:Int)<(a:Int))=True:=Ji
  have q1:((0:Int)≤(i:Int))=True:=Ji
  have t0:=B3p (f:=fun j=>V.isl (Q j)) (z:= .nils) I
  have tz:=A8Z (fun j=>V.isl (Q j)) .nils a i
  have tlen:=i9 (fun j=>V.isl (Q j)) .nils a i
  have tset:(A3e (fun j=>V.isl (Q j)) .nils a i).set i [.isl (Q i)]=A3e (fun j=>V.isl (Q j)) .nils a (i+1):=B3q (g:=fun j=>V.isl (Q j)) (fun _ _=>rfl)
  have hlx:=tl i I
  have hgx:=hfg i I
  have hOi:=hOV i
  have hOl:(Q i).length=A2v (M i) N:=by rw [←hOi];simp [A2v]
  have hOa: ∀r,r<N→M i r=true→(Q i)[A2v (M i) r]? =some [.int .i64 (r:Nat)]:=fun r hr h=>by
   rw [←hOi,List.getElem?_map,List.getElem?_map,B3D h hr];rfl
  have fin:=fun s (m3:Nat)=>ih s (i+1,m3) zg zg
  clear ih
  simp only [←tset]at fin
  have hzi:((i+1:Nat):Int)=(i:Int)+1:=by omega
  generalize A3e (fun j=>V.isl (Q j)) .nils a i=T at*
  generalize Q i=R at*
  simp -implicitDefEqProofs only [go_sem,q0]
  refine Run.keep [165,164,161,160,21,20,4,3] ?_
  refine Run.roundsK (fun(y:Nat×Nat×Nat)=>⟨[(165,.int .i64 y.1),(164,.int .i64 N),(161,.int .i64 i),(160,.int .i64 a),(21,.int .i64 i),(20,.sl (27*10000+158) m 0 a),(4,.sl (27*10000+28) 1 0 a),(3,.int .i64 N)],
    dcH R (27*10000+183) y.2.1 (A2v (M i) y.1)++((27*10000+158),m,.rows 1 (dcT T i (27*10000+183) y.2.1 (A2v (M i) y.1)))::((27*10000+28),1,.rows 1 LV)::fm,y.2.2⟩)
   (fun y=>y.1≤N) (fun y=>N-y.1) (0,0,m2) ?_ (Nat.zero_le _) ?_
  ·refine C1.wk (C1.of ze (fun e t=> ?_) ze)
   have hc0:A2v (M i) 0=0:=rfl
   simp only [hc0,dcH,dcT,List.nil_append]at t⊢
   exact t
  rintro⟨r,st,m3⟩ hr A
  simp only at hr A⊢
  refine Run.unf I8 (Run.go 100 ?_)
  have hzr:((r+1:Nat):Int)=(r:Int)+1:=by omega
  have hset: ∀(X:List V),(T.set i X)[i]? =some X:=fun X=>by rw [List.getElem?_set];simp [tlen,I]
  by_cases w:r<N
  ·have w0:((r:Int)<(N:Int))=True:=Ji
   have w1:((0:Int)≤(r:Int))=True:=Ji
   have P:=R0 (f:=M i) w
   have Y:=H6 N (M i)
   cases hm:M i r with
   | false=>
    have hc:=C4O (q:=M i) hm
    have v:=fun s=>A s (r+1,st,m3) zg zg
    clear A
    simp only [hc]at v
    rw [hm]at P
    generalize hk:A2v (M i) r=k at*
    cases k with
    |zero=>
     simp only [dcH,dcT,List.nil_append]at v⊢
     exact XH
    |succ k=>
     simp only [dcH,dcT,List.cons_append,List.nil_append]at v⊢
     exact XH
   | true=>
    have hc:=C0J (q:=M i) hm
    have hRx:=B0R (hOa r w hm)
    have hkl:A2v (M i) r≤r:=by unfold A2v;exact Nat.le_trans (List.length_filter_le _ _) zf
    have v:=fun s=>A s (r+1,m3,m3+1) zg zg
    clear A
    simp only [hc]at v
    rw [hm]at P
    generalize hk:A2v (M i) r=k at*
    cases k with
    |zero=>
     simp only [dcH,dcT,List.nil_append,hRx,List.take_zero,List.cons_append]at v⊢
     simp -implicitDefEqProofs only [go_sem,q0,q1,w0,w1,I,l1,s1,t0,tz,tlen,hlx,hgx,hbq,P,Y,H,w,Nat.mul_one,Option.some.injEq,forall_eq']
     refine⟨by omega,v _ (C1.wk (C1.of zw (fun e t=> ?_) ze))⟩
     exact Xh
    | succ k=>
     simp only [dcH,dcT,hRx,List.cons_append,List.nil_append]at v⊢
     have hRk:(R.take (k+1)).length=k+1:=by
      have:=(List.getElem?_eq_some_iff.1 (hOa r w hm)).1
      rw [List.length_take];omega
     generalize R.take (k+1)=Rk at*
     simp -implicitDefEqProofs only [go_sem,q0,q1,w0,w1,I,l1,s1,hset,tlen,hRk,List.length_set,List.set_set,hlx,hgx,hbq,P,Y,H,w,Nat.mul_one,Option.some.injEq,forall_eq']
     refine⟨by omega,by omega,v _ (C1.wk (C1.of zw (fun e t=> ?_) ze))⟩
     rw [List.take_of_length_le zd]
     exact Xh
  ·have e0:r=N:=by omega
   subst e0
   clear A
   rw [←hOl]
   have hX: ∀e∈(((27*10000+28),1,Blk.rows 1 LV)::fm:A2),e.1≠(27*10000+183):=by
    exact Yq
   generalize hL:R.length=L at*
   cases L with
   |zero=>
    simp only [dcH,dcT,List.nil_append]
    have hR0:R= []:=List.eq_nil_of_length_eq_zero hL
    subst hR0
    refine QN ?_
    refine⟨by omega,fin _ m3 (Wk.cell0 ?_ t0)⟩
    simp -implicitDefEqProofs only [go_sem,hzi]
   |succ k=>
    simp only [dcH,dcT,List.cons_append,List.nil_append]
    rw [List.take_of_length_le zd]
    refine QN ?_
    refine⟨by omega,fin _ m3 (Wk.cell ?_ zh hX zd)⟩
    simp -implicitDefEqProofs only [go_sem,hzi]
 | true=>
  clear hcl
  refine Jd ?_
  refine⟨by omega,?_⟩
  refine Run.keep [12,11,6,5,4,3,1] ?_
  refine Run.roundsK (fun(y:Nat×(Nat→Nat→Bool)×Bool)=>⟨[(12,.int .i64 ((a:Int)-1-y.1)),(11,.bool y.2.2),(6,.sl (27*10000+36) 3 0 a),(5,.sl (27*10000+32) 2 0 a),(4,.sl (27*10000+28) 1 0 a),(3,.int .i64 N),(1,.ptr (27*10000+1) 0 0 0)],
    ((27*10000+36),3,.rows 1 DV)::((27*10000+32),2,.rows 1 UV)::((27*10000+28),1,.rows 1 LV)::((27*10000+1),0,.rows 11 [pr])::A1y (fun i=>D7 N (y.2.1 i)) S a,m⟩)
   (fun y=>y.1≤a∧A4T U (fun a=>C5 p.code a) D y.2.1∧(y.2.2=false→y.2.1=M∧ ∀i r,a≤i+y.1→i<a→r<N→j9 U (fun a=>C5 p.code a) D M i r)∧(y.2.2=true→unM a N y.2.1<unM a N M)) (fun y=>a-y.1) (0,M,false) ?_ ⟨Nat.zero_le _,hS0,fun _=>⟨rfl,fun i r h1 h2=>absurd h1 zg⟩,fun h=>absurd h zf⟩ ?_
  ·refine C1.wk (C1.of Qi (fun e t=>t) ze)
  rintro⟨j,M1,more⟩ ⟨hj,hS1,hc1,hd1⟩ A
  simp only at hj hS1 hc1 hd1 A⊢
  refine Run.unf f7 (Run.go 100 ?_)
  by_cases hja:j<a
  case neg=>
   have e0:j=a:=by omega
   subst e0
   have q0:((0:Int)≤(j:Int)-1-(j:Int))=False:=Jj
   simp -implicitDefEqProofs only [go_sem,q0,ge_iff_le]
   refine ih _ (M1,more) ⟨hS1,fun hm i r J hr=> ?_⟩ ?_ (C1.wk (C1.of ze (fun e t=>t) ze))
   ·simp only at hm
    obtain⟨rfl,hcc⟩:=hc1 hm
    exact hcc i r zd J hr
   ·exact YE
  obtain⟨o,hat⟩: ∃o:Nat,o=a-1-j:=⟨_,rfl⟩
  have ea:(a:Int)-1-(j:Int)=(o:Int):=by omega
  have ea2:(a:Int)-1-((j+1:Nat):Int)=(o:Int)-1:=by omega
  have E:o<a:=by omega
  have q0:((0:Int)≤(o:Int))=True:=Ji
  have q1:((o:Int)<(a:Int))=True:=Ji
  have xu:=tu o E
  have xd:=td o E
  have xl:=tl o E
  have hni:=hnin o
  rw [ea]
  simp -implicitDefEqProofs only [go_sem,q0,q1,E,xu,xd,l2,l3,s2,s3,h1,h2,ge_iff_le,Option.some.injEq,forall_eq']
  refine A0.pureF (hnx o) zt ?_
  have hnl2:=R5 p.code o
  have hcl0: ∀{MM:Nat→Nat→Bool} {r:Nat},(U o r||r6 D MM (C5 p.code o) o r (C5 p.code o).length)=true→A4T U (fun a=>C5 p.code a) D MM→LiveR U (fun a=>C5 p.code a) D o r:=fun h hs=>C1x (Nx:=fun a=>C5 p.code a) hs (fun x hx=>(hni x hx).1) h
  have hcl1: ∀{r:Nat},((U o r||r6 D M (C5 p.code o) o r (C5 p.code o).length)=true→M o r=true)→j9 U (fun a=>C5 p.code a) D M o r:=fun h=>B5M (Nx:=fun a=>C5 p.code a) h
  have hDRl:=hDR o (C5 p.code o)
  generalize C0T p o (C5 p.code o)=DRl at*
  generalize hnle:C5 p.code o=u at*
  have hnls: ∀(k:Nat) (x:Int),u[k]? =some x→(u.map zrw)[k]? =some [.int .i64 x]:=fun k x h=>P9 h
  have G:(u.map zrw).length=u.length:=List.length_map ..
  have W:=H1 u
  have hDl:DRl.length=u.length:=by rw [hDRl];simp
  have hDz:C4 DRl 1=True:=by rw [hDRl];exact eq_true fun r hr=>by obtain⟨y,_,rfl⟩:=List.mem_map.1 hr;rfl
  have hDa: ∀(k:Nat) (x:Int),u[k]? =some x→DRl[k]? =some [.iptr [V7 (D o x)] 0 0]:=fun k x h=>by rw [hDRl,List.getElem?_map,h];rfl
  generalize u.map zrw=nls at*
  refine QL ?_
  refine Run.keep [100,99,15,14,13,12,11,6,5,4,3,1] ?_
  refine Run.roundsK (fun(y:Nat×(Nat→Nat→Bool)×Bool)=>⟨[(100,.int .i64 y.1),(99,.int .i64 N),(15,.isl nls),(14,.isl DRl),(13,.iptr [V7 (U o)] 0 0),(12,.int .i64 o),(11,.bool y.2.2),(6,.sl (27*10000+36) 3 0 a),(5,.sl (27*10000+32) 2 0 a),(4,.sl (27*10000+28) 1 0 a),(3,.int .i64 N),(1,.ptr (27*10000+1) 0 0 0)],
    ((27*10000+36),3,.rows 1 DV)::((27*10000+32),2,.rows 1 UV)::((27*10000+28),1,.rows 1 LV)::((27*10000+1),0,.rows 11 [pr])::A1y (fun i=>D7 N (y.2.1 i)) S a,m⟩)
   (fun y=>y.1≤N∧A4T U (fun a=>C5 p.code a) D y.2.1∧(y.2.2=false→y.2.1=M∧(∀i r,a≤i+j→i<a→r<N→j9 U (fun a=>C5 p.code a) D M i r)∧ ∀r,r<y.1→j9 U (fun a=>C5 p.code a) D M o r)∧(y.2.2=true→unM a N y.2.1<unM a N M)) (fun y=>N-y.1) (0,M1,more) ?_ ⟨Nat.zero_le _,hS1,fun h=>⟨(hc1 h).1,(hc1 h).2,fun r hr=>absurd hr (Nat.not_lt_zero r)⟩,hd1⟩ ?_
  ·exact Yb
  rintro⟨r,M2,mo⟩ ⟨hr,hS2,hc2,hd2⟩ ih3
  simp only at hr hS2 hc2 hd2 ih3⊢
  refine Run.unf U3 (Run.go 100 ?_)
  by_cases w:r<N
  case neg=>
   have e0:r=N:=by omega
   subst e0
   refine QN ?_
   refine⟨by omega,A _ (j+1,M2,mo) ⟨by simp only;omega,hS2,fun h=>⟨(hc2 h).1,fun i r J I hr=> ?_⟩,hd2⟩ zg (C1.wk (C1.of (by simp -implicitDefEqProofs only [go_sem,ea2]) (fun e t=>t) ze))⟩
   simp only at J
   by_cases ci:a≤i+j
   ·exact(hc2 h).2.1 i r ci I hr
   ·obtain rfl:i=o:=by omega
    exact(hc2 h).2.2 r hr
  have w0:((r:Int)<(N:Int))=True:=Ji
  have w1:((0:Int)≤(r:Int))=True:=Ji
  have w2:((r:Int)<4096)=True:=Ji
  have hzr:((r+1:Nat):Int)=(r:Int)+1:=by omega
  have hur:=B5y (f:=U o) (x:=r) zd
  have H:=fun(b:Nat) hb=>A6Y (F:=fun i=>D7 N (M2 i)) (S:=S) (m:=a) (b:=b) hb
  have hfg:=fun(i:Nat) J=>B2q (F:=fun i=>D7 N (M2 i)) (S:=S) (m:=a) (i:=i) J
  have hputm:=fun X e=>C1c (F:=fun i=>D7 N (M2 i)) (S:=S) (m:=a) (i:=o) (X:=X) (e:=e)
  generalize hfm2:A1y (fun i=>D7 N (M2 i)) S a=fm2 at*
  simp -implicitDefEqProofs only [go_sem,w0,w1,w2,hur,G,Nat.mul_one,Option.some.injEq,forall_eq']
  refine Run.keep [110,109,108,100,99,17,16,15,14,13,12,11,6,5,4,3,1] ?_
  refine Run.roundsK (fun(k:Nat)=>⟨[(110,.int .i64 k),(109,.int .i64 u.length),(108,.isl nls),(100,.int .i64 r),(99,.int .i64 N),(17,.bool (U o r||r6 D M2 u o r k)),(16,.int .i64 r),(15,.isl nls),(14,.isl DRl),(13,.iptr [V7 (U o)] 0 0),(12,.int .i64 o),(11,.bool mo),(6,.sl (27*10000+36) 3 0 a),(5,.sl (27*10000+32) 2 0 a),(4,.sl (27*10000+28) 1 0 a),(3,.int .i64 N),(1,.ptr (27*10000+1) 0 0 0)],
    ((27*10000+36),3,.rows 1 DV)::((27*10000+32),2,.rows 1 UV)::((27*10000+28),1,.rows 1 LV)::((27*10000+1),0,.rows 11 [pr])::fm2,m⟩)
   (fun k=>k≤u.length) (fun k=>u.length-k) 0 ?_ (Nat.zero_le _) ?_
  ·exact YG
  rintro k hk ih4
  refine Run.unf N7 (Run.go 100 ?_)
  have hzk:((k+1:Nat):Int)=(k:Int)+1:=by omega
  by_cases hlk:k<u.length
  ·have v0:((k:Int)<(u.length:Int))=True:=Ji
   have v1:((0:Int)≤(k:Int))=True:=Ji
   obtain⟨x,hx⟩: ∃x,u[k]? =some x:=⟨u[k],by simp [hlk]⟩
   have hxr:=hnls k x hx
   have hxi:=hni x (List.mem_of_getElem? hx)
   obtain⟨xx,rfl⟩: ∃xx:Nat,x=xx:=⟨x.toNat,by omega⟩
   have x0:((0:Int)≤(xx:Int))=True:=Ji
   have x1:((xx:Int)<(a:Int))=True:=Ji
   have x2:(xx<a)=True:=Ji
   have hdx:=hDa k xx hx
   have hdr:=B5y (f:=D o xx) (x:=r) zd
   have hlx:=tl xx zd
   have hgx:=hfg xx zd
   have P:=R0 (f:=M2 xx) w
   have Y:=H6 N (M2 xx)
   have hany:=B7N (D:=D) (M:=M2) (a:=o) (r:=r) hx
   rw [show ((xx:Int)).toNat=xx by omega]at hany
   have fin:=fun s=>ih4 s (k+1) zd zd
   clear ih4
   rw [hany,←Bool.or_assoc]at fin
   generalize (U o r||r6 D M2 u o r k)=is at*
   generalize D o xx r=dv at*
   generalize M2 xx r=mv at*
   cases is with
   |true=>
    simp -implicitDefEqProofs only [go_sem,v0,v1,G,W,hxr,hlk,Option.some.injEq,forall_eq']
    refine⟨by omega,fin _ (C1.wk (C1.of (by simp -implicitDefEqProofs only [go_sem,hzk,Bool.true_or]) (fun e t=>t) ze))⟩
   | false=>
    cases dv with
    |true=>
     simp -implicitDefEqProofs only [go_sem,v0,v1,w1,w2,G,W,hxr,hlk,hDl,hDz,hdx,hdr,Nat.mul_one,Option.some.injEq,forall_eq']
     refine⟨by omega,fin _ (C1.wk (C1.of (by simp -implicitDefEqProofs only [go_sem,hzk,Bool.not_true,Bool.false_and,Bool.or_false]) (fun e t=>t) ze))⟩
    |false=>
     simp -implicitDefEqProofs only [go_sem,v0,v1,w0,w1,w2,x0,x1,x2,G,W,hxr,hlk,hDl,hDz,hdx,hdr,l1,s1,hlx,hgx,hbq,P,Y,w,Nat.mul_one,Option.some.injEq,forall_eq']
     refine⟨by omega,fin _ (C1.wk (C1.of (by simp -implicitDefEqProofs only [go_sem,hzk,Bool.not_false,Bool.true_and,Bool.false_or]) (fun e t=>t) ze))⟩
  ·have e0:k=u.length:=by omega
   subst e0
   clear ih4 hlk hk
   have hgx:=hfg o E
   have P:=R0 (f:=M2 o) w
   have Y:=H6 N (M2 o)
   have Z:(U o r||r6 D M2 u o r u.length)=true→LiveR U (fun a=>C5 p.code a) D o r:=fun h=>hcl0 h hS2
   have hclos:(U o r||r6 D M2 u o r u.length)=false∨M2 o r=true→mo=false→j9 U (fun a=>C5 p.code a) D M o r:=fun h hm=>by
    obtain⟨rfl,_⟩:=hc2 hm
    exact hcl1 fun h2=>h.elim (fun h3=>by rw [h2]at h3;cases h3) fun h3=>h3
   have O:(U o r||r6 D M2 u o r u.length)=false∨M2 o r=true→ ∀s,_→_:=fun h s=>ih3 s (r+1,M2,mo) ⟨by simp only;omega,hS2,fun hm=>⟨(hc2 hm).1,(hc2 hm).2.1,fun r' hr'=>by
    by_cases c:r'=r
    ·subst c;exact hclos h hm
    ·exact(hc2 hm).2.2 r' (by simp only at hr';omega)⟩,hd2⟩ zg
   have mark:(U o r||r6 D M2 u o r u.length)=true→M2 o r=false→ ∀s,_→_:=fun h hm s=>ih3 s (r+1,A9m M2 o r,true) ⟨by simp only;omega,B7g hS2 (Z h),fun hx=>absurd hx zf,fun _=>by
    have h1:=C2Q (n:=a) (N:=N) E w hm
    simp only
    cases mo with
    |true=>have:=hd2 rfl;omega
    |false=>obtain⟨rfl,_⟩:=hc2 rfl;exact h1⟩ zg
   clear ih3 hclos Z hcl0 hcl1
   generalize (U o r||r6 D M2 u o r u.length)=is at*
   generalize hmv:M2 o r=mv at*
   cases is with
   |false=>
    have O:=O (.inl rfl)
    clear mark
    refine QN ?_
    exact Ka
   | true=>
    cases mv with
    |true=>
     have O:=O (.inr rfl)
     clear mark
     simp -implicitDefEqProofs only [go_sem,Int.lt_irrefl,q0,q1,w0,w1,E,l1,s1,xl,hgx,hbq,P,Y,w,Nat.mul_one,Option.some.injEq,forall_eq']
     exact Ka
    | false=>
     have mark:=mark rfl rfl
     clear O
     simp -implicitDefEqProofs only [go_sem,Int.lt_irrefl,q0,q1,w0,w1,E,l1,s1,xl,hgx,hbq,P,Y,w,Nat.mul_one,Option.some.injEq,forall_eq']
     refine⟨by omega,mark _ (C1.wk (C1.of zw (fun e t=> ?_) ze))⟩
     exact Xk
end
section
open Go.Abs
attribute [local irreducible] A0 Run
-- EV: Ins.v, Ins.row, Vr.row, Upv.row
attribute [local go_sem] Ins.v Ins.row Vr.row Upv.row
def C4x(o:Int):Bool:=decide (o=1∨o=2∨o=3∨o=4∨o=5∨o=6∨o=7∨o=8∨o=20∨o=22∨o=19)
def Z7:List Ins→Bool
 | []=>false
 |i::r=>if C4x i.op=true then Z7 r else if i.op=29 then(if i.a=0 then true else Z7 r)else false
def A4o(code:List Ins)(a:Nat):Bool:=Z7 (code.drop (a+1))
theorem C3U(code:List Ins)(a:Nat)(U:a<code.length)(S:code.length≤20000):Pure Tryz.prog 30 [.isl (code.map Ins.row),.int .i64 a] (.bool (A4o code a)):=by
 have p:(code.map Ins.row).length=code.length:=List.length_map ..
 have H: ∀k,((code.map Ins.row).drop (a+1))[k]? =(code[a+1+k]?).map Ins.row:=fun k=>by rw [List.getElem?_drop,List.getElem?_map]
 have d:((code.map Ins.row).drop (a+1)).length=code.length-(a+1):=by simp
 have e:C4 ((code.map Ins.row).drop (a+1)) 5=True:=eq_true (fun r G=>by obtain⟨y,_,rfl⟩:=List.mem_map.1 (List.mem_of_mem_drop G);rfl)
 have q:C4 (code.map Ins.row) 5=True:=eq_true (B3 Ins.row 5 (fun _=>rfl) code)
 unfold A4o
 generalize code.map Ins.row=C at*
 refine Pure.of 0 (A0.enter A6c Jk (Run.go 100 ?_))
 have l:(a+1≤code.length)=True:=Ji
 have E:((a:Int)+1).toNat=a+1:=by omega
 have A:((code.length:Int)-((a:Int)+1)).toNat=code.length-(a+1):=by omega
 have z:(C.drop (a+1)).take (code.length-(a+1))=C.drop (a+1):=List.take_of_length_le zd
 simp -implicitDefEqProofs only [go_sem,A4,p,q,l,E,A,z,d]
 refine⟨⟨by omega,by omega⟩,by omega,by omega,Int.le_refl _,?_⟩
 generalize C.drop (a+1)=D at*
 generalize T:code.length-(a+1)=m at*
 clear E A z l q p
 refine Run.rounds (fun(x:Nat)=>⟨[(12,.int .i64 x),(11,.int .i64 m),(10,.isl D)],[],x⟩) (fun x=>x≤m∧Z7 (code.drop (a+1))=Z7 (code.drop (a+1+x))) (fun x=>m-x) 0 ze ⟨Nat.zero_le _,rfl⟩ ?_
 rintro k ⟨R,t⟩ F
 refine Run.unf A3V (Run.go 100 ?_)
 rw [t]
 by_cases c:(k:Int)<m
 ·obtain⟨i,B⟩: ∃i,code[a+1+k]? =some i:=⟨code[a+1+k]' zd,by simp⟩
  have j:code.drop (a+1+k)=i::code.drop (a+1+(k+1)):=by rw [List.drop_eq_getElem_cons zd];congr 1;exact Option.some.inj (by rw [←B];simp)
  have f:D[k]? =some i.row:=by rw [H,B];rfl
  have u:((0:Int)≤(k:Int))=True:=Ji
  have l:(k<m)=True:=Ji
  rw [j,Z7]
  by_cases g:C4x i.op=true
  ·rw [if_pos g]
   have fin:=fun s=>F s (k+1) ⟨by omega,by rw [t,j,Z7,if_pos g]⟩ zd
   rw [t,j,Z7,if_pos g]at fin
   have b:i.op=1∨i.op=2∨i.op=3∨i.op=4∨i.op=5∨i.op=6∨i.op=7∨i.op=8∨i.op=20∨i.op=22∨i.op=19:=of_decide_eq_true g
   rcases b with b|b|b|b|b|b|b|b|b|b|b
   all_goals
    simp -implicitDefEqProofs only [go_sem,c,u,l,d,e,f,b,Option.some.injEq,forall_eq']
    exact Km
  ·rw [if_neg g]
   have b: ¬(i.op=1∨i.op=2∨i.op=3∨i.op=4∨i.op=5∨i.op=6∨i.op=7∨i.op=8∨i.op=20∨i.op=22∨i.op=19):=fun h=>g (decide_eq_true h)
   simp only [not_or]at b
   obtain⟨I,N,L,P,J,O,Q,K,M,v,w⟩:=b
   by_cases n:i.op=29
   ·rw [if_pos n]
    by_cases o:i.a=0
    ·rw [if_pos o]
     simp -implicitDefEqProofs only [go_sem,c,u,l,d,e,f,n,o,Option.some.injEq,forall_eq']
     done
    ·rw [if_neg o]
     have fin:=fun s=>F s (k+1) ⟨by omega,by rw [t,j,Z7,if_neg g,if_pos n,if_neg o]⟩ zd
     rw [t,j,Z7,if_neg g,if_pos n,if_neg o]at fin
     simp -implicitDefEqProofs only [go_sem,c,u,l,d,e,f,n,eq_false o,Option.some.injEq,forall_eq']
     exact Km
   ·rw [if_neg n]
    simp -implicitDefEqProofs only [go_sem,c,u,l,d,e,f,eq_false I,eq_false N,eq_false L,eq_false P,eq_false J,eq_false O,eq_false Q,eq_false K,eq_false M,eq_false v,eq_false w,eq_false n,Option.some.injEq,forall_eq']
    done
 ·have j:code.drop (a+1+k)= []:=List.drop_of_length_le zd
  rw [j]
  simp -implicitDefEqProofs only [go_sem,c,Z7]
theorem B9q(l:List Ins)(H:l.length≤17592186043904)(f:Ins→Bool)(g:FuncId)(cs:List V)(h:A2)(v:K8 Tryz.prog g=true)(B: ∀x∈l,∀n,A0 Tryz.prog g (.agg (Ins.row x)::cs) h n fun r c d=>r= .bool (f x)∧c=h)(n:Nat):
  A0 Tryz.prog 64 [.isl (l.map Ins.row),.fn g cs] h n fun r c d=>r= .bool (l.any f)∧c=h:=by
 have o: ∀n,A0 Tryz.prog 86 [.isl (l.map Ins.row),.fn g cs] h n fun r c d=>(∃z:Int,r= .int .i64 z∧decide (0≤z)=l.any f)∧c=h:=by
  intro n
  have u:(l.map Ins.row).length=l.length:=List.length_map ..
  have D:=eq_true (B3 Ins.row 5 (fun _=>rfl) l)
  have C: ∀(k:Nat) x,l[k]? =some x→(l.map Ins.row)[k]? =some (Ins.row x):=fun k x q=>by rw [List.getElem?_map,q];rfl
  generalize l.map Ins.row=A at*
  refine A0.enterK M4 Jk fun Q i=>Run.go 100 ?_
  simp -implicitDefEqProofs only [go_sem,A4,u]
  refine Run.roundsK (fun(x:Nat×Nat)=>⟨[(8,.int .i64 x.1),(7,.int .i64 l.length),(1,.fn g cs),(0,.isl A)],h,x.2⟩) (fun x=>x.1≤l.length∧(l.take x.1).any f=false) (fun x=>l.length-x.1) (0,n) (C1.wk ⟨F3.1 ze,fun _ h=>h,Nat.le_refl _⟩) ⟨Nat.zero_le _,rfl⟩ ?_
  rintro⟨k,m⟩ ⟨q,b⟩ w
  simp only at q b w⊢
  refine Run.unf J8 (Run.go 100 ?_)
  by_cases p:k<l.length
  ·have F:((k:Int)<(l.length:Int))=True:=Ji
   have y:((0:Int)≤(k:Int))=True:=Ji
   obtain⟨x,j⟩: ∃x,l[k]? =some x:=⟨l[k],by simp [p]⟩
   have t:=C k x j
   have E:=B x (List.mem_of_getElem? j)
   have s:((k+1:Nat):Int)=(k:Int)+1:=by omega
   simp -implicitDefEqProofs only [go_sem,F,y,u,D,t,Ins.row,v,Option.some.injEq,forall_eq']
   exact Jn
  ·exact JQ
 generalize l.map Ins.row=A at*
 refine A0.enterK J7 Jk fun Q i=>Run.go 100 ?_
 exact JT
def B4v(p:Fn)(r:Int):Bool:=p.vars.any (fun v=>decide (v.reg=r))||(p.code.any (fun i=>decide (i.op=26∧i.a≤r∧r≤i.a+2))||p.protos.any (fun q=>q.ups.any fun u=>u.loc&&decide (u.idx=r)))
theorem C6G(p:Fn)(l:p.bd)(r:Int)(E:r≤1000000)(O: ∀i∈p.code,i.op=26→0≤i.a):Pure Tryz.prog 32 [.agg p.row,.int .i64 r] (.bool (B4v p r)):=by
 have f:(p.protos.map Fn.row).length=p.protos.length:=List.length_map ..
 have C:C4 (p.protos.map Fn.row) 11=True:=eq_true (fun r E=>by obtain⟨y,_,rfl⟩:=List.mem_map.1 E;exact Fn.row_len y)
 have A: ∀(k:Nat) x,p.protos[k]? =some x→(p.protos.map Fn.row)[k]? =some x.row:=fun k x h=>by rw [List.getElem?_map,h];rfl
 have I:=B4n p.vars (by have:=l.self.vars;omega) (fun v=>decide (v.reg=r)) 63 [.ptr (32*10000+3) 1 0 0]
 have S:=B9q p.code (by have:=l.self.code;omega) (fun i=>decide (i.op=26∧i.a≤r∧r≤i.a+2)) 65 [.ptr (32*10000+3) 1 0 0]
 rw [Fn.row_eq p]
 unfold B4v
 generalize p.protos.map Fn.row=V at*
 generalize p.vars.map Vr.row=Y at*
 generalize p.code.map Ins.row=X at*
 refine Pure.of 0 (A0.enter A7k Jk (Run.go 100 ?_))
 refine QM ?_
 refine(I _ rfl (fun v N n=> ?_) _).mono ?_
 ·refine A0.enterK A5h Jk fun Q b=>Run.go 100 ?_
  refine QM ?_
  subst b
  exact .to (r2:= .bool (decide (v.reg=r))) ⟨rfl,rfl⟩ (.turn id ⟨.refl _,trivial⟩ (.at 1 rfl rfl (.refl _) (.at 2 rfl rfl (.refl _) (.of fun e a=>by cases a))))
 rintro F G D ⟨rfl,rfl⟩
 cases N:p.vars.any (fun v=>decide (v.reg=r))with
 |true=>simp -implicitDefEqProofs only [go_sem];simp
 |false=>
 refine QL ?_
 refine(S _ rfl (fun i R n=> ?_) _).mono ?_
 ·refine A0.enterK A5i Jk fun Q b=>Run.go 100 ?_
  by_cases d:i.op=26
  ·have M:=O i R d
   by_cases j:i.a≤r
   ·simp -implicitDefEqProofs only [go_sem,A4,d,j]
    refine⟨⟨by omega,by omega⟩,?_⟩
    subst b
    exact .to (r2:= .bool (decide (r≤i.a+2))) ⟨by simp [d,j],rfl⟩ (.turn id ⟨.refl _,trivial⟩ (.at 1 rfl rfl (.refl _) (.at 2 rfl rfl (.refl _) (.of fun e a=>by cases a))))
   ·have z:=eq_false j
    simp -implicitDefEqProofs only [go_sem,A4,d,z]
    subst b
    exact .to (r2:= .bool false) ⟨by simp [j],rfl⟩ (.turn id ⟨.refl _,trivial⟩ (.at 1 rfl rfl (.refl _) (.at 2 rfl rfl (.refl _) (.of fun e a=>by cases a))))
  ·have z:=eq_false d
   simp -implicitDefEqProofs only [go_sem,A4,z]
   subst b
   exact .to (r2:= .bool false) ⟨by simp [d],rfl⟩ (.turn id ⟨.refl _,trivial⟩ (.at 1 rfl rfl (.refl _) (.at 2 rfl rfl (.refl _) (.of fun e a=>by cases a))))
 rintro F G D ⟨rfl,rfl⟩
 cases hc:p.code.any (fun i=>decide (i.op=26∧i.a≤r∧r≤i.a+2))with
 |true=>simp -implicitDefEqProofs only [go_sem];simp
 |false=>
 simp -implicitDefEqProofs only [go_sem,f]
 simp only [Bool.false_or]
 refine Run.rounds (fun(x:Nat×Nat)=>⟨[(18,.int .i64 x.1),(17,.int .i64 p.protos.length),(16,.isl V),(3,.ptr (32*10000+3) 1 0 0)],[((32*10000+3),1,.rows 1 [[.int .i64 r]])],x.2⟩)
  (fun x=>x.1≤p.protos.length∧(p.protos.any fun q=>q.ups.any fun u=>u.loc&&decide (u.idx=r))=((p.protos.drop x.1).any fun q=>q.ups.any fun u=>u.loc&&decide (u.idx=r))) (fun x=>p.protos.length-x.1) (0,D) ze ⟨Nat.zero_le _,rfl⟩ ?_
 rintro⟨k,m⟩ ⟨P,o⟩ H
 dsimp only at P o H⊢
 refine Run.unf A4A (Run.go 100 ?_)
 rw [o]
 by_cases c:(k:Int)<p.protos.length
 ·obtain⟨q,w⟩: ∃q,p.protos[k]? =some q:=⟨p.protos[k]' zd,by simp⟩
  have t:p.protos.drop k=q::p.protos.drop (k+1):=by rw [List.drop_eq_getElem_cons zd];congr 1;exact Option.some.inj (by rw [←w];simp)
  have g:=A k q w
  have J:=l.self.protos
  have K:=(l.child (List.mem_of_getElem? w)).self.ups
  have U:=A9V q.ups zd (fun u=>u.loc&&decide (u.idx=r)) 67 [.ptr (32*10000+3) 1 0 0]
  rw [Fn.row_eq q]at g
  have L:((0:Int)≤(k:Int))=True:=Ji
  have T:(k<p.protos.length)=True:=Ji
  rw [t,List.any_cons]
  generalize q.ups.map Upv.row=W at*
  simp -implicitDefEqProofs only [go_sem,c,L,T,f,C,g,Option.some.injEq,forall_eq']
  refine(U _ rfl (fun u Z n=> ?_) _).mono ?_
  ·refine A0.enterK A5j Jk fun Q b=>Run.go 100 ?_
   cases hu2:u.loc with
   |true=>
    simp -implicitDefEqProofs only [go_sem,A4,hu2]
    subst b
    exact .to (r2:= .bool (decide (u.idx=r))) ⟨by simp [hu2],rfl⟩ (.turn id ⟨.refl _,trivial⟩ (.at 1 rfl rfl (.refl _) (.at 2 rfl rfl (.refl _) (.of fun e a=>by cases a))))
   |false=>
    simp -implicitDefEqProofs only [go_sem,A4,hu2]
    subst b
    exact .to (r2:= .bool false) ⟨by simp [hu2],rfl⟩ (.turn id ⟨.refl _,trivial⟩ (.at 1 rfl rfl (.refl _) (.at 2 rfl rfl (.refl _) (.of fun e a=>by cases a))))
  rintro F G B ⟨rfl,rfl⟩
  cases hc2:(q.ups.any fun u=>u.loc&&decide (u.idx=r))with
  |true=>simp -implicitDefEqProofs only [go_sem];simp
  |false=>
   have fin:=fun s=>H s (k+1,B) ⟨by dsimp only;omega,by dsimp only;rw [o,t,List.any_cons,hc2,Bool.false_or]⟩ zk
   rw [o,t,List.any_cons,hc2]at fin
   refine QL ?_
   exact Km
 ·rw [List.drop_of_length_le zd]
  simp -implicitDefEqProofs only [go_sem,c]
  try rfl
end
section
open Go.Abs
attribute [local irreducible] A0 Run
-- EV: Ins.v, Ins.row
attribute [local go_sem] Ins.v Ins.row
theorem C8G(l:List Int)(F:l.length≤1000000)(w:Int)(h:A2)(n:Nat):A0 Tryz.prog 31 [.isl (l.map zrw),.int .i64 w] h n fun r f t=>r= .bool (l.any fun y=>decide (w=y))∧f=h:=by
 have g: ∀n,A0 Tryz.prog 61 [.isl (l.map zrw),.int .i64 w] h n fun r f t=>(∃z:Int,r= .int .i64 z∧decide (0≤z)=l.any fun y=>decide (w=y))∧f=h:=by
  intro n
  have s:(l.map zrw).length=l.length:=List.length_map ..
  have v:=eq_true (B3 zrw 1 (fun _=>rfl) l)
  have D: ∀(k:Nat) x,l[k]? =some x→(l.map zrw)[k]? =some (zrw x):=fun k x j=>by rw [List.getElem?_map,j];rfl
  generalize l.map zrw=A at*
  refine A0.enterK A2q Jk fun Q d=>Run.go 100 ?_
  simp -implicitDefEqProofs only [go_sem,A4,s]
  refine Run.roundsK (fun(x:Nat×Nat)=>⟨[(8,.int .i64 x.1),(7,.int .i64 l.length),(1,.int .i64 w),(0,.isl A)],h,x.2⟩) (fun x=>x.1≤l.length∧(l.take x.1).any (fun y=>decide (w=y))=false) (fun x=>l.length-x.1) (0,n) (C1.wk ⟨F3.1 ze,fun _ h=>h,Nat.le_refl _⟩) ⟨Nat.zero_le _,rfl⟩ ?_
  rintro⟨k,m⟩ ⟨j,b⟩ C
  simp only at j b C⊢
  refine Run.unf A0s (Run.go 100 ?_)
  by_cases i:k<l.length
  ·have B:((k:Int)<(l.length:Int))=True:=Ji
   have u:((0:Int)≤(k:Int))=True:=Ji
   obtain⟨x,p⟩: ∃x,l[k]? =some x:=⟨l[k],by simp [i]⟩
   have c:=D k x p
   have o:((k+1:Nat):Int)=(k:Int)+1:=by omega
   by_cases a:w=x
   ·simp -implicitDefEqProofs only [go_sem,B,u,s,v,c,zrw,a,Option.some.injEq,forall_eq']
    subst d
    have:decide ((0:Int)≤k)=true:=decide_eq_true zd
    refine⟨by omega,.is ⟨⟨k,rfl,?_⟩,rfl⟩⟩
    rw [this,K4 p (decide_eq_true a)]
   ·have q:=eq_false a
    simp -implicitDefEqProofs only [go_sem,B,u,s,v,c,zrw,q,Option.some.injEq,forall_eq']
    refine⟨by omega,by omega,?_⟩
    exact C _ (k+1,m) ⟨by simp only;omega,E8 b p (decide_eq_false a)⟩ zg (C1.wk ⟨F3.1 zU,fun _ h=>h,Nat.le_refl _⟩)
  ·have e:k=l.length:=by omega
   subst e
   refine QN ?_
   subst d
   exact .is ⟨⟨-1,rfl,by rw [I4 b];rfl⟩,rfl⟩
 generalize l.map zrw=A at*
 refine A0.enterK A0p Jk fun Q d=>Run.go 100 ?_
 refine QM ?_
 refine(g n).mono ?_
 rintro r f t ⟨⟨z,rfl,E⟩,rfl⟩
 simp -implicitDefEqProofs only [go_sem,E]
 subst d
 exact XR
mutual
def A5B:Fn→Pro
 |⟨a,b,c,d,e,f,l,k,ps,u,v⟩=>⟨a,b,c,d,e,f,l,k.map Kst.row,toPros ps,u.map fun u=>(u.name,u.loc,u.idx),v.map Vr.row⟩
def toPros:List Fn→List Pro
 | []=> []
 |p::r=>A5B p::toPros r
end
theorem B1Z: ∀l,toPros l=l.map A5B
 | []=>rfl
 |p::r=>by rw [toPros,B1Z r];rfl
theorem B0S(p:Fn):(A5B p).row=p.row:=by
 induction p using Fn.ind with
 | h p n=>
  rw [Fn.row_eq,Pro.row_eq]
  obtain⟨a,b,c,d,e,f,l,k,g,u,v⟩:=p
  rw [A5B,B1Z]
  have m:(g.map A5B).map Pro.row=g.map Fn.row:=by
   rw [List.map_map];exact List.map_congr_left fun q j=>n q j
  have i:(u.map fun u=>(u.name,u.loc,u.idx)).map A6m=u.map Upv.row:=by
   rw [List.map_map];rfl
  dsimp only
  rw [m,i]
  rfl
theorem A9b(p:Fn):(A5B p).code=p.code:=by obtain⟨a,b,c,d,e,f,l,k,g,u,v⟩:=p;rw [A5B]
theorem C4y(p:Fn):(A5B p).regs=p.regs:=by obtain⟨a,b,c,d,e,f,l,k,g,u,v⟩:=p;rw [A5B]
theorem B8W{p:Fn}{z:Nat}(h: ∀q∈p.protos,q.ups.length≤z): ∀q∈(A5B p).protos,q.ups.length≤z:=by
 obtain⟨a,b,c,d,e,f,l,k,i,u,v⟩:=p
 rw [A5B,B1Z]
 intro q j
 obtain⟨x,g,rfl⟩:=List.mem_map.1 j
 have:=h x g
 obtain⟨a,b,c,d,e,f,l,k,i,u,v⟩:=x
 rw [A5B]
 simpa using this
noncomputable def lvF (p:Fn) (a:Nat):List Int:=lvL (A5B p) a
theorem C5k(p:Fn)(h:p.regs≤4096)(a:Nat):(lvF p a).length≤1000000:=by
 unfold lvF lvL
 rw [List.length_map,C4y]
 refine Nat.le_trans (List.length_filter_le _ _) ?_
 rw [List.length_range]
 unfold j7
 omega
theorem C3L(p:Fn)(c:p.code.length≤10000)(b: ∀q∈p.protos,q.ups.length≤4398046510976):Pure Tryz.prog 27 [.agg p.row] (.isl ((List.range p.code.length).map fun a=> [.isl ((lvF p a).map zrw)])):=by
 have h:=C6J (A5B p) (by rw [A9b];exact c) (by rw [B0S];exact Fn.row_sub C7 p) (fun q d=>Nat.le_trans (B8W b q d) zd)
 rw [B0S]at h
 unfold B4x at h
 rw [A9b]at h
 exact h
noncomputable def I9 (p:Fn) (k:Nat):Bool:=match p.code[k]? with
 |some i=>decide (i.op=1)&&(A4o p.code k&&(decide (i.a=i.b)||(!((lvF p (k+1)).any fun y=>decide (i.a=y))&& !B4v p i.a)))
 |none=>false
noncomputable def E4 (p:Fn):Fn:=E6 (I9 p) p
theorem B6H{code:List Ins}{a:Nat}(h:A4o code a=true):a+1<code.length:=by
 rcases Nat.lt_or_ge (a+1) code.length with b|b
 ·exact b
 ·unfold A4o at h
  rw [List.drop_of_length_le b]at h
  cases h
theorem B1F(p:Fn)(E:RemOK p)(hc:p.code.length≤10000)(hp:p.bd)(G: ∀q∈p.protos,q.ups.length≤4398046510976)(H:p.regs≤4096)(hn: ∀i∈p.code,i.op=26→0≤i.a)(hm: ∀i∈p.code,i.op=1→i.a≤1000000):
  Pure Tryz.prog 26 [.agg p.row] (.agg (E4 p).row):=by
 have L:=C3L p hc G
 have J:=B4I p E (I9 p) 29
 obtain⟨u,t⟩:=B4 p
 have d:=Fn.row_sub C7 p
 have Z: ∀i,i<p.code.length→((List.range p.code.length).map fun a=> [V.isl ((lvF p a).map zrw)])[i]? =some [.isl ((lvF p i).map zrw)]:=fun i s=>by simp [s]
 have O:((List.range p.code.length).map fun a=> [V.isl ((lvF p a).map zrw)]).length=p.code.length:=by simp
 have F:C4 ((List.range p.code.length).map fun a=> [V.isl ((lvF p a).map zrw)]) 1=True:=eq_true (fun r D=>by obtain⟨y,_,rfl⟩:=List.mem_map.1 D;rfl)
 have N:=fun a ha=>C3U p.code a ha zd
 have I:=fun r D=>C6G p hp r D hn
 have T:p.row[5]? =some (.isl (p.code.map Ins.row)):=by rw [Fn.row_eq];rfl
 have l:(p.code.map Ins.row).length=p.code.length:=List.length_map ..
 have A: ∀(k:Nat) x,p.code[k]? =some x→(p.code.map Ins.row)[k]? =some x.row:=fun k x h=>by rw [List.getElem?_map,h];rfl
 have o:C4 (p.code.map Ins.row) 5=True:=eq_true (B3 Ins.row 5 (fun _=>rfl) p.code)
 have M:(p.code.map Ins.row).map (fun r=>r.map (V.sub C7))=p.code.map Ins.row:=D4A C7 p.code
 refine Pure.of 0 (A0.enter A4y Jk (Run.go 100 ?_))
 unfold E4
 have o1:(E6 (I9 p) p).row.length=11:=(B4 _).1
 have o2:(E6 (I9 p) p).row.take 11=(E6 (I9 p) p).row:=(B4 _).2
 have S:=Fn.row_sub C7 (E6 (I9 p) p)
 generalize (E6 (I9 p) p).row=z at*
 generalize p.row=pr at*
 generalize ((List.range p.code.length).map fun a=> [V.isl ((lvF p a).map zrw)])=B at*
 generalize p.code.map Ins.row=CR at*
 simp -implicitDefEqProofs only [go_sem,A4,u,t]
 refine A0.pureF L zS ?_
 simp -implicitDefEqProofs only [go_sem,u,t,Nat.reduceDiv]
 refine(J _ _ rfl (fun b hb e c=> ?_) (fun k U n=> ?_) _).wk ?_
 ·simp only [List.mem_cons,List.not_mem_nil,or_false]at c
  intro X
  rcases c with rfl|rfl|rfl<;>(dsimp only at X;omega)
 ·refine A0.enterK A3i Jk fun Q j=>Run.go 100 ?_
  have R:((0:Int)≤(k:Int))=True:=Ji
  have W:(k<p.code.length)=True:=eq_true U
  obtain⟨i,s⟩: ∃i,p.code[k]? =some i:=⟨p.code[k]' zd,by simp⟩
  have v:=A k i s
  have C:I9 p k=(decide (i.op=1)&&(A4o p.code k&&(decide (i.a=i.b)||(!((lvF p (k+1)).any fun y=>decide (i.a=y))&& !B4v p i.a)))):=by unfold I9;rw [s]
  rw [C]at j
  have hq:=N k U
  by_cases f:i.op=1
  ·have w:=I i.a (hm i (List.mem_of_getElem? s) f)
   simp -implicitDefEqProofs only [go_sem,A4,u,t,T,l,o,v,R,W,f,Option.some.injEq,forall_eq']
   refine⟨by omega,A0.pureF hq (by simp -implicitDefEqProofs only [go_sem,M]) ?_⟩
   cases hqt:A4o p.code k with
   |false=>
    refine QL ?_
    subst j
    exact .to (r2:= .bool false) ⟨by simp [hqt],rfl⟩ (.turn id ⟨.refl _,trivial⟩ (.at 1 rfl rfl (.refl _) (.at 2 rfl rfl (.refl _) (.at 3 rfl rfl (.refl _) (.of fun e c=>by cases c)))))
   | true=>
    have m:=B6H hqt
    by_cases g:i.a=i.b
    ·simp -implicitDefEqProofs only [go_sem,g]
     subst j
     exact .to (r2:= .bool true) ⟨by simp [hqt,f,g],rfl⟩ (.turn id ⟨.refl _,trivial⟩ (.at 1 rfl rfl (.refl _) (.at 2 rfl rfl (.refl _) (.at 3 rfl rfl (.refl _) (.of fun e c=>by cases c)))))
    ·have a3:=eq_false g
     have k2:((0:Int)≤(k:Int)+1)=True:=Ji
     have Y:(((k:Int)+1).toNat)=k+1:=by omega
     have k4:(k+1<p.code.length)=True:=eq_true m
     have K:=Z (k+1) m
     simp -implicitDefEqProofs only [go_sem,a3,O,F,K,k2,Y,k4,Option.some.injEq,forall_eq']
     refine⟨⟨by omega,by omega⟩,by omega,(C8G (lvF p (k+1)) (C5k p H _) i.a _ _).mono ?_⟩
     rintro r h' P ⟨rfl,rfl⟩
     cases hany:((lvF p (k+1)).any fun y=>decide (i.a=y))with
     |true=>
      refine QL ?_
      subst j
      exact .to (r2:= .bool false) ⟨by simp only [hqt,f,g,hany];rfl,rfl⟩ (.turn id ⟨.refl _,trivial⟩ (.at 1 rfl rfl (.refl _) (.at 2 rfl rfl (.refl _) (.at 3 rfl rfl (.refl _) (.of fun e c=>by cases c)))))
     |false=>
      simp -implicitDefEqProofs only [go_sem,u,t]
      refine A0.pureF w zS ?_
      refine QL ?_
      subst j
      exact .to (r2:= .bool (!B4v p i.a)) ⟨by simp only [hqt,f,g,hany];simp,rfl⟩ (.turn id ⟨.refl _,trivial⟩ (.at 1 rfl rfl (.refl _) (.at 2 rfl rfl (.refl _) (.at 3 rfl rfl (.refl _) (.of fun e c=>by cases c)))))
  ·have g:=eq_false f
   simp -implicitDefEqProofs only [go_sem,A4,u,t,T,l,o,v,R,W,g,Option.some.injEq,forall_eq']
   subst j
   refine⟨by omega,.to (r2:= .bool false) ⟨by simp [f],rfl⟩ (.turn id ⟨.refl _,trivial⟩ (.at 1 rfl rfl (.refl _) (.at 2 rfl rfl (.refl _) (.at 3 rfl rfl (.refl _) (.of fun e c=>by cases c)))))⟩
 ·rintro r h' P ⟨rfl,rfl⟩
  refine QU ?_
  refine⟨.agg z,_,P,.refl _,?_⟩
  simp -implicitDefEqProofs only [go_sem,o1,o2,S,Nat.reduceDiv]
  exact S
end
section
open Go.Abs
attribute [local irreducible] A0 Run
abbrev quN(k:Nat):Nat:=47*10000+k
-- EV: quN, Ins.row
attribute [local go_sem] quN Ins.row
theorem C2o(p:Fn)(a:Nat)(U:a<p.code.length)(T:p.code.length≤20000):Pure Tryz.prog 47 [.agg p.row,.int .i64 a] (.bool (A4o p.code a)):=by
 have e:(p.code.map Ins.row).length=p.code.length:=List.length_map ..
 have g:C4 (p.code.map Ins.row) 5=True:=eq_true fun r H=>by obtain⟨y,_,rfl⟩:=List.mem_map.1 H;rfl
 have C: ∀(k:Nat) x,p.code[k]? =some x→(p.code.map Ins.row)[k]? =some x.row:=fun k x h=>by rw [List.getElem?_map,h];rfl
 rw [Fn.row_eq]
 unfold A4o
 generalize p.code.map Ins.row=E at*
 generalize p.code=b at*
 refine Pure.of 0 (A0.enter A2o Jk (Run.go 100 ?_))
 simp -implicitDefEqProofs only [go_sem,A4,e]
 refine⟨⟨by omega,by omega⟩,?_⟩
 generalize n: [V.str p.name,_,_,_,_,.isl E,_,_,_,_,_]=o
 have v:o[5]? =some (.isl E):=by rw [←n];rfl
 have f:o.length=11:=by rw [←n];rfl
 clear n
 refine Run.rounds (fun(x:Nat)=>⟨[(5,.int .i64 x),(2,.ptr (quN 2) 0 0 0),(1,.int .i64 a)],[(quN 2,0,.rows 11 [o])],1⟩) (fun x=>a+1≤x∧x≤b.length∧Z7 (b.drop (a+1))=Z7 (b.drop x)) (fun x=>b.length-x) (a+1) Qo ⟨Nat.le_refl _,by omega,rfl⟩ ?_
 rintro k ⟨R,S,u⟩ G
 refine Run.unf A0n (Run.go 100 ?_)
 rw [u]
 by_cases c:(k:Int)<b.length
 ·obtain⟨i,F⟩: ∃i,b[k]? =some i:=⟨b[k]' zd,by simp⟩
  have m:b.drop k=i::b.drop (k+1):=by rw [List.drop_eq_getElem_cons zd];congr 1;exact Option.some.inj (by rw [←F];simp)
  have j:=C k i F
  have z:((0:Int)≤(k:Int))=True:=Ji
  have A:(k<b.length)=True:=Ji
  have w:((k+1:Nat):Int)=(k:Int)+1:=by omega
  rw [m,Z7]
  by_cases l:C4x i.op=true
  ·rw [if_pos l]
   have fin:=fun s=>G s (k+1) ⟨by omega,by omega,by rw [u,m,Z7,if_pos l]⟩ zd
   rw [u,m,Z7,if_pos l]at fin
   have d:i.op=1∨i.op=2∨i.op=3∨i.op=4∨i.op=5∨i.op=6∨i.op=7∨i.op=8∨i.op=20∨i.op=22∨i.op=19:=of_decide_eq_true l
   rcases d with d|d|d|d|d|d|d|d|d|d|d
   all_goals
    simp -implicitDefEqProofs only [go_sem,c,z,A,v,f,e,g,j,d,Option.some.injEq,forall_eq']
    exact⟨⟨by omega,by omega⟩,fin _ QH⟩
  ·rw [if_neg l]
   have d: ¬(i.op=1∨i.op=2∨i.op=3∨i.op=4∨i.op=5∨i.op=6∨i.op=7∨i.op=8∨i.op=20∨i.op=22∨i.op=19):=fun h=>l (decide_eq_true h)
   simp only [not_or]at d
   obtain⟨I,N,L,P,J,O,Q,K,M,B,D⟩:=d
   by_cases q:i.op=29
   ·rw [if_pos q]
    by_cases t:i.a=0
    ·rw [if_pos t]
     simp -implicitDefEqProofs only [go_sem,c,z,A,v,f,e,g,j,q,t,Option.some.injEq,forall_eq']
     done
    ·rw [if_neg t]
     have fin:=fun s=>G s (k+1) ⟨by omega,by omega,by rw [u,m,Z7,if_neg l,if_pos q,if_neg t]⟩ zd
     rw [u,m,Z7,if_neg l,if_pos q,if_neg t]at fin
     simp -implicitDefEqProofs only [go_sem,c,z,A,v,f,e,g,j,q,eq_false t,Option.some.injEq,forall_eq']
     exact⟨⟨by omega,by omega⟩,fin _ QH⟩
   ·rw [if_neg q]
    simp -implicitDefEqProofs only [go_sem,c,z,A,v,f,e,g,j,eq_false I,eq_false N,eq_false L,eq_false P,eq_false J,eq_false O,eq_false Q,eq_false K,eq_false M,eq_false B,eq_false D,eq_false q,Option.some.injEq,forall_eq']
    done
 ·have m:b.drop k= []:=List.drop_of_length_le zd
  rw [m]
  simp -implicitDefEqProofs only [go_sem,c,v,e,f,Z7]
end
end Go.Proofs.YtcaaenddpjepiaaGreatDoor
