/-
 The reference's verifier: the rounds. No condition.
-/
import Derived.Test.YtcaaenddpjepiaaGreatDoorRvJ
set_option linter.unusedVariables false
set_option linter.unusedSimpArgs false
set_option maxRecDepth 100000
set_option maxHeartbeats 0
namespace Go.Proofs.YtcaaenddpjepiaaGreatDoor
open Go.Abs
attribute [local irreducible] A0 Run
-- EV: Ins.v, Ins.row
attribute [local go_sem] Ins.v Ins.row
theorem C0h(N:Nat)(code:List Ins)(p:List V)(u:p.length=11)(j:p.take 11=p)(C:p[5]? =some (.isl (code.map Ins.row)))(l:p.map (V.sub C7)=p)(a:Nat)(i:Ins)(I:code[a]? =some i)
  (m:Pure Tryz.prog 74 [.agg p,.int .i64 a] (.isl ((C5 code a).map zrw))) (b:Int) (F:code.length≤1000000) (s:Stt) (w:N≤100000) (E:Fit N i) (H:s.marks.length≤1000000)
  (v:List V) (h:A2) (n d:Nat) (Q:Res) (q:v.map (frz d h)= [.agg p,.agg [.isl (B0 N s.set),.int .i64 s.opn,.isl (s.marks.map zrw)],.int .i64 a,.int .i64 b]) (nm:Nat) (A: ∀e∈h,e.1≠nm) (y: ∀e∈h,e.1≠(181*10000+9)) (z: ∀e∈h,e.1≠(181*10000+3))
  (D: ∀st g,n≤g→Q (.agg [.sl nm st 0 N,.int .i64 (C9 N i a b s).opn,.isl ((C9 N i a b s).marks.map zrw)]) ((nm,st,.rows 1 (B0 N (C9 N i a b s).set))::h) g):A0 Tryz.prog 117 v h n Q:=by
 refine(A0.lend (k:=fun r t g=>n≤g∧ ∃st c,r= .agg [.sl (181*10000+3) st 0 N,.int .i64 (C6 i).2,.sl (181*10000+9) c 0 (I7 i s.marks).length]∧
   t= [((181*10000+3),st,.rows 1 (B0 N (C9 N i a b s).set)),((181*10000+9),c,.rows 1 ((I7 i s.marks).map zrw))]++h)
  (B3c N code p u j C l a i I m b F s w E H n) d q ?_).wk ?_
 ·rintro r t g o ⟨st,c,rfl,rfl⟩
  refine⟨rfl,fun e f=> ?_,o,st,c,rfl,rfl⟩
  exact Yr
 ·rintro r t g ⟨o,st,c,rfl,rfl⟩
  have B:Wk ⟨[(0,.agg [.sl (181*10000+3) st 0 N,.int .i64 (C6 i).2,.sl (181*10000+9) c 0 (I7 i s.marks).length])],
    [((181*10000+3),st,.rows 1 (B0 N (C9 N i a b s).set)),((181*10000+9),c,.rows 1 ((I7 i s.marks).map zrw))]++h,g⟩
    ⟨[(0,.agg [.sl (181*10000+3) st 0 N,.int .i64 (C6 i).2,.isl ((I7 i s.marks).map zrw)])],
    ((181*10000+3),st,.rows 1 (B0 N (C9 N i a b s).set))::h,g⟩:=by
   refine Wk.freeze (b:=(181*10000+9)) (st:=c) (sz:=1) (rs:=(I7 i s.marks).map zrw) zf ⟨.agg ⟨.of (.refl _),.of (.refl _),.all zf,trivial⟩,trivial⟩ (A4E.of fun e f=> ?_)
   rcases List.mem_cons.1 f with rfl|f
   ·exact⟨by simp,by simp only;decide⟩
   ·exact⟨by simp [f],y e f⟩
  have G:Wk ⟨[(0,.agg [.sl (181*10000+3) st 0 N,.int .i64 (C6 i).2,.isl ((I7 i s.marks).map zrw)])],
    ((181*10000+3),st,.rows 1 (B0 N (C9 N i a b s).set))::h,g⟩
    ⟨[(0,.agg [.sl nm st 0 N,.int .i64 (C9 N i a b s).opn,.isl ((C9 N i a b s).marks.map zrw)])],(nm,st,.rows 1 (B0 N (C9 N i a b s).set))::h,g⟩:=by
   rw [A7h,A1M]
   refine Wk.turn (fun x=>if x=(181*10000+3)then nm else x) ⟨.agg ⟨.sl,.refl _,.refl _,trivial⟩,trivial⟩ (A0z.of fun e f=> ?_)
   rcases List.mem_cons.1 f with rfl|f
   ·exact⟨_,List.mem_cons_self,by simp,rfl,.refl _⟩
   ·exact⟨e,List.mem_cons_of_mem _ f,by rw [if_neg (z e f)],rfl,.refl _⟩
  exact⟨_,_,_,B.trans G,D st g o⟩
theorem C7a(p:List V)(c:p.length=11)(h:p.take 11=p)(params:Int)(N:Nat)(g:p[4]? =some (.int .i64 N))(h2:p[2]? =some (.int .i64 params))(b:N≤100000)(a:0≤params)(d:params≤N)(nm n:Nat):
  A0 Tryz.prog 116 [.agg p] [] n fun r e f=> ∃s,r= .agg [.sl nm s 0 N,.int .i64 (-1),.isl []]∧e= [(nm,s,.rows 1 (B0 N (A9F N params).set))]:=by
 refine(C2d p c h params N g h2 b a d n).wk ?_
 rintro r e f ⟨s,rfl,rfl⟩
 exact⟨.agg [.sl nm s 0 N,.int .i64 (-1),.isl []],[(nm,s,.rows 1 (B0 N (A9F N params).set))],f,.turn (fun _=>nm) ⟨.agg ⟨.sl,.refl _,.refl _,trivial⟩,trivial⟩ (.at 0 rfl rfl (.refl _) trivial),s,rfl,rfl⟩
theorem C2j(N:Nat)(code:List Ins)(params:Int)(G:List V)(L:G.length=11)(u:G.take 11=G)(h5:G[5]? =some (.isl (code.map Ins.row)))(h4:G[4]? =some (.int .i64 N))(h2:G[2]? =some (.int .i64 params))(hps:G.map (V.sub C7)=G)(X: ∀d h,G.map (frz d h)=G)
  (hnx: ∀a:Nat,Pure Tryz.prog 74 [.agg G,.int .i64 a] (.isl ((C5 code a).map zrw)))
  (hc:code.length≤100000) (hc0:0<code.length) (hN:N≤100000) (hp0:0≤params) (hp1:params≤N) (hfit: ∀i∈code,Fit N i):
  Pure Tryz.prog 92 [.agg G] (.tup [.isl (rvL N code.length (stM N code params)),.isl (B0 code.length fun k=>(stM N code params k).isSome)]):=by
 have hent:=fun n=>C7a G L u params N h4 h2 hN hp0 hp1 (1000000000000+0) n
 have l5:(code.map Ins.row).length=code.length:=List.length_map ..
 have hz0:=C2t N code.length fun _=>0
 have hb0:=B1q code.length
 generalize hCR:code.map Ins.row=CR at*
 refine Pure.of 2 (A0.enterK A1n Jk fun Q hQ=>Run.go 100 ?_)
 simp -implicitDefEqProofs only [go_sem,A4,L,u,h5,l5]
 refine⟨by omega,by omega,by omega,by omega,?_⟩
 refine A0.at [] [0,1,2] (hent _) rfl rfl ?_
 rintro r h' n1 hn1 ⟨st0,rfl,rfl⟩
 have c0:((0:Int)<(code.length:Int))=True:=Ji
 have hr0:(List.replicate code.length [V.nils,.int .i64 0,.nils])[0]? =some [V.nils,.int .i64 0,.nils]:=by simp [hc0]
 have hb1:(List.replicate code.length [V.bool false])[0]? =some [V.bool false]:=by simp [hc0]
 simp -implicitDefEqProofs only [go_sem,List.length_replicate,c0,hr0,hb1,hc0,Option.some.injEq,forall_eq']
 have hr00:(List.replicate code.length [V.nils,.int .i64 0,.nils]).set 0 [.sl 1000000000000 st0 0 N,.int .i64 (-1),.isl []]=L7 N code.length (fun _=>st0) (M0 N params):=by
  rw [←hz0]
  exact B6Y (S:=fun _=>0) (S':=fun _=>st0) (M:=fun _=>none) (M':=M0 N params) (b:=0) fun j hj=>by simp only [A3l,M0,if_neg hj]
 have hb00:(List.replicate code.length [V.bool false]).set 0 [.bool true]=B0 code.length fun k=>(M0 N params k).isSome:=by
  rw [←hb0]
  refine U0 _ fun x K=> ?_
  by_cases c:x=0
  ·subst c;rfl
  ·rw [if_neg c];simp only [M0,if_neg c];rfl
 simp only [hr00,hb00]
 clear hent hz0 hb0 hr0 hb1 hr00 hb00
 refine Run.roundsK (fun(x:List Nat×(Nat→Nat)×(Nat→Option Stt)×Bool×Nat)=>⟨[(6,.bool x.2.2.2.1),(5,.sl (92*10000+20) 2 0 code.length),(4,.sl (92*10000+16) 1 0 code.length),(1,.ptr (92*10000+1) 0 0 0)],
   ((92*10000+20),2,.rows 1 (B0 code.length fun k=>(x.2.2.1 k).isSome))::((92*10000+16),1,.rows 3 (L7 N code.length x.2.1 x.2.2.1))::((92*10000+1),0,.rows 11 [G])::O6 (K7 N x.2.2.1) x.2.1 x.1,x.2.2.2.2⟩)
  (fun x=>Kn N code.length x.1 x.2.2.1∧(∃j,x.2.2.1=A3h N code params j)∧(x.2.2.2.1=false→A5r N code x.2.2.1=x.2.2.1)) (fun x=>2*mu N code.length x.2.2.1+(if x.2.2.2.1 then 1 else 0)) ([0],(fun _=>st0),M0 N params,true,n1) ?_ ⟨Kn.zero hc0,⟨0,rfl⟩,fun h=>absurd h zf⟩ ?_
 ·exact .turn id ⟨.refl _,.refl _,.refl _,.refl _,trivial⟩ (.at 0 rfl rfl (.refl _) (.at 1 rfl rfl (.refl _) (.at 3 rfl rfl (.refl _) (.at 2 rfl rfl (.refl _) trivial))))
 rintro⟨l,S,M,Z,m⟩ ⟨hK,hit,hfix⟩ ih
 simp only at hK hit hfix ih⊢
 refine Run.unf q7 (Run.go 100 ?_)
 have E:=fun(b:Nat) hb=>B5Y (F:=K7 N M) (S:=S) (l:=l) (b:=b) hb
 have hfg0:=fun(b st:Nat) hb=>C6s (F:=K7 N M) (S:=S) (l:=l) (b:=b) (st:=st) hb
 cases Z with
 | false=>
  have hst:A0T N code params M:=by
   obtain⟨j,hj⟩:=hit
   exact⟨j,hj,hfix rfl⟩
  have hS:=C4v hst
  refine QL ?_
  subst hQ
  refine .is ?_
  rw [←hS]
  have hg: ∀k s,M k=some s→A2.get (((92*10000+20),2,.rows 1 (B0 code.length fun k=>(M k).isSome))::((92*10000+16),1,.rows 3 (L7 N code.length S M))::((92*10000+1),0,.rows 11 [G])::O6 (K7 N M) S l) (1000000000000+k) (S k)=some (.rows 1 (B0 N s.set)):=fun k s hk=>by
   have hb: ∀x,x<1000000000000→Nat.beq x (1000000000000+k)=false:=fun x K=>B5t K
   rw [A2.get,hb _ (by simp only;decide),cond_false,A2.get,hb _ (by simp only;decide),cond_false,A2.get,hb _ (by simp only;decide),cond_false]
   exact B8Q (fun k s hk=>hK.yes hk) hk
  have hv:=C4n (n:=code.length) hg
  have lr:=A5s N code.length S M
  have lb:=D6 code.length fun k=>(M k).isSome
  have hsb:=fun d h=>(G8 (d:=d) (h:=h)).elim fun φ e=>show (B0 code.length fun k=>(M k).isSome).map (fun r=>r.map (frz d h))=B0 code.length fun k=>(M k).isSome by rw [e];exact U1 φ _ _
  generalize L7 N code.length S M=RR at*
  generalize (B0 code.length fun k=>(M k).isSome)=BR at*
  have t1:RR.take code.length=RR:=List.take_of_length_le zd
  have t2:BR.take code.length=BR:=List.take_of_length_le zd
  simp -implicitDefEqProofs only [go_sem,lr,lb,t1,t2,hv,hsb]
 | true=>
  refine QL ?_
  refine Run.roundsK (fun(y:Nat×List Nat×(Nat→Nat)×(Nat→Option Stt)×Bool×Nat)=>⟨[(7,.int .i64 y.1),(6,.bool y.2.2.2.2.1),(5,.sl (92*10000+20) 2 0 code.length),(4,.sl (92*10000+16) 1 0 code.length),(1,.ptr (92*10000+1) 0 0 0)],
    ((92*10000+20),2,.rows 1 (B0 code.length fun k=>(y.2.2.2.1 k).isSome))::((92*10000+16),1,.rows 3 (L7 N code.length y.2.2.1 y.2.2.2.1))::((92*10000+1),0,.rows 11 [G])::O6 (K7 N y.2.2.2.1) y.2.2.1 y.2.1,y.2.2.2.2.2⟩)
   (fun y=>y.1≤code.length∧Kn N code.length y.2.1 y.2.2.2.1∧y.2.2.2.1=(Z4 code y.1).foldl (G6 N code) M∧(y.2.2.2.2.1=false→y.2.2.2.1=M)∧(y.2.2.2.2.1=true→mu N code.length y.2.2.2.1<mu N code.length M)) (fun y=>code.length-y.1) (0,l,S,M,false,m) (C1.wk (C1.of ze (fun e g=>g) ze)) ⟨Nat.zero_le _,hK,rfl,fun _=>rfl,fun h=>absurd h zf⟩ ?_
  clear E hfg0
  rintro⟨a,l1,S1,M1,Z,m1⟩ ⟨ha,hK1,hM1,hc1,hd1⟩ ih1
  simp only at ha hK1 hM1 hc1 hd1 ih1⊢
  refine Run.unf P5 (Run.go 100 ?_)
  by_cases R:a<code.length
  case neg=>
   have ek:a=code.length:=by omega
   subst ek
   have hrd:M1=A5r N code M:=hM1
   simp -implicitDefEqProofs only [go_sem,L,u,h5,l5,Int.lt_irrefl]
   refine ih _ (l1,S1,M1,Z,m1) ⟨hK1,?_,fun h=> ?_⟩ ?_ (C1.wk (C1.of ze (fun e g=>g) (Nat.le_refl _)))
   ·obtain⟨j,hj⟩:=hit
    exact⟨j+1,by rw [A3h,←hj];exact hrd⟩
   ·simp only at h⊢
    rw [hc1 h]at hrd⊢;exact hrd.symm
   ·simp only
    cases Z with
    |true=>have:=hd1 rfl;simp;omega
    |false=>rw [hc1 rfl];simp
  have w0:((a:Int)<(code.length:Int))=True:=Ji
  have w1:((0:Int)≤(a:Int))=True:=Ji
  have hza:((a+1:Nat):Int)=(a:Int)+1:=by omega
  have lb:=D6 code.length fun k=>(M1 k).isSome
  have zb:=H8 code.length fun k=>(M1 k).isSome
  have hat:=H7 (f:=fun k=>(M1 k).isSome) R
  have hes:Z4 code (a+1)=Z4 code a++(C5 code a).map fun(b:Int)=>(a,b):=by
   have:=A8f code a
   rw [←this,K6,List.take_length]
  cases q:M1 a with
  |none=>
   have fin:=fun s m2=>ih1 s (a+1,l1,S1,M1,Z,m2) ⟨by simp only;omega,hK1,by simp only;rw [hes,List.foldl_append,←hM1,B8p _ q],hc1,hd1⟩ zg
   simp only at fin
   rw [q]at hat
   generalize (B0 code.length fun k=>(M1 k).isSome)=BR at*
   generalize O6 (K7 N M1) S1 l1=fm at*
   simp -implicitDefEqProofs only [go_sem,L,u,h5,l5,w0,w1,lb,zb,hat,R,Option.isSome_none,Option.some.injEq,forall_eq']
   exact⟨⟨by omega,by omega⟩,fin _ m1 (C1.wk (C1.of (by simp -implicitDefEqProofs only [go_sem,hza]) (fun e g=>g) (Nat.le_refl _)))⟩
  | some s0=>
   rw [q]at hat
   have hnl2:=R5 code a
   have hnin:=fun x (K:x∈C5 code a)=>i2 K
   obtain⟨i,hi⟩: ∃i,code[a]? =some i:=⟨code[a],by simp [R]⟩
   have hins:G5 code a=i:=by unfold G5;rw [List.getD_eq_getElem?_getD,hi];rfl
   have hfi:=hfit i (List.mem_of_getElem? hi)
   have hpl:=fun(b:Int) (s:Stt) hm=>C0h N code G L u (by rw [h5,hCR]) hps a i hi (hnx a) b zd s hN hfi hm
   have hk0:=B4r code a
   have hkA:=A8f code a
   have hkS:=fun k (x:Int) h=>B4q (code:=code) (a:=a) (k:=k) (x:=x) h
   have hnxa:=hnx a
   generalize hnl:C5 code a=nl at*
   have hnls: ∀(k:Nat) (x:Int),nl[k]? =some x→(nl.map zrw)[k]? =some [.int .i64 x]:=fun k x h=>P9 h
   have A:(nl.map zrw).length=nl.length:=List.length_map ..
   have H:=H1 nl
   generalize nl.map zrw=nls at*
   have fin1:=fun s J S2 M2 ch2 m2 v hM2 W U=>ih1 s (a+1,J,S2,M2,ch2,m2) ⟨by simp only;omega,v,hM2,W,U⟩ zg
   clear ih1
   have hR1:L7 N code.length S1 M1=L7 N code.length S1 M1:=rfl
   generalize hBR:(B0 code.length fun k=>(M1 k).isSome)=BR at*
   generalize hfm:O6 (K7 N M1) S1 l1=fm at*
   simp -implicitDefEqProofs only [go_sem,L,u,h5,l5,w0,w1,lb,zb,hat,R,Option.isSome_some,Option.some.injEq,forall_eq']
   refine A0.pureF hnxa (by simp -implicitDefEqProofs only [go_sem,hps]) ?_
   refine QL ?_
   refine Run.keep [9,8,7,6,5,4,1] ?_
   subst hBR hfm
   refine Run.roundsK (fun(y:Nat×List Nat×(Nat→Nat)×(Nat→Option Stt)×Bool×Nat)=>⟨[(9,.int .i64 y.1),(8,.isl nls),(7,.int .i64 a),(6,.bool y.2.2.2.2.1),(5,.sl (92*10000+20) 2 0 code.length),(4,.sl (92*10000+16) 1 0 code.length),(1,.ptr (92*10000+1) 0 0 0)],
     ((92*10000+20),2,.rows 1 (B0 code.length fun k=>(y.2.2.2.1 k).isSome))::((92*10000+16),1,.rows 3 (L7 N code.length y.2.2.1 y.2.2.2.1))::((92*10000+1),0,.rows 11 [G])::O6 (K7 N y.2.2.2.1) y.2.2.1 y.2.1,y.2.2.2.2.2⟩)
    (fun y=>y.1≤nl.length∧Kn N code.length y.2.1 y.2.2.2.1∧y.2.2.2.1=(K6 code a y.1).foldl (G6 N code) M∧(y.2.2.2.2.1=false→y.2.2.2.1=M)∧(y.2.2.2.2.1=true→mu N code.length y.2.2.2.1<mu N code.length M)∧ ∃s,y.2.2.2.1 a=some s) (fun y=>nl.length-y.1) (0,l1,S1,M1,Z,m1) (C1.wk (C1.of ze (fun e g=>g) (Nat.le_refl _))) ⟨Nat.zero_le _,hK1,by simp only;rw [hk0];exact hM1,hc1,hd1,s0,q⟩ ?_
   clear hK1 hM1 hc1 hd1 q s0 lb zb hat
   rintro⟨k,J,S2,M2,Z,m2⟩ ⟨hk,v,hM2,W,U,s,q⟩ ih2
   simp only at hk v hM2 W U q ih2⊢
   refine Run.unf J2 (Run.go 100 ?_)
   by_cases T:k<nl.length
   case neg=>
    have ek:k=nl.length:=by omega
    subst ek
    simp -implicitDefEqProofs only [go_sem,A,Int.lt_irrefl]
    refine⟨by omega,fin1 _ J S2 M2 Z m2 v (by rw [hkA]at hM2;exact hM2) W U (C1.wk (C1.of (by simp -implicitDefEqProofs only [go_sem,hza]) (fun e g=>g) (Nat.le_refl _)))⟩
   have v0:((k:Int)<(nl.length:Int))=True:=Ji
   have v1:((0:Int)≤(k:Int))=True:=Ji
   have hzk:((k+1:Nat):Int)=(k:Int)+1:=by omega
   obtain⟨b,K⟩: ∃x,nl[k]? =some x:=⟨nl[k],by simp [T]⟩
   have hxr:=hnls k b K
   obtain⟨hb0,hbn⟩:=hnin b (List.mem_of_getElem? K)
   obtain⟨B,rfl⟩: ∃B:Nat,b=B:=⟨b.toNat,by omega⟩
   have D:B<code.length:=by omega
   have u0:((B:Int)<(code.length:Int))=True:=Ji
   have u1:((0:Int)≤(B:Int))=True:=Ji
   have hstep:(K6 code a (k+1)).foldl (G6 N code) M=G6 N code M2 (a,(B:Int)):=by rw [hkS k _ K,List.foldl_append,←hM2];rfl
   have lr:=A5s N code.length S2 M2
   have zr:=C7j N code.length S2 M2
   have hra:=A7n (N:=N) (S:=S2) (M:=M2) R
   have hrw:A3l N S2 M2 a= [.sl (1000000000000+a) (S2 a) 0 N,.int .i64 s.opn,.isl (s.marks.map zrw)]:=by simp only [A3l,q]
   rw [hrw]at hra
   have lb:=D6 code.length fun k=>(M2 k).isSome
   have zb:=H8 code.length fun k=>(M2 k).isSome
   have hbB:=H7 (f:=fun k=>(M2 k).isSome) D
   have hll:=v.len
   have hml:=v.ml a s q
   have Y:=hpl (B:Int) s zd
   have hmlo:(C9 N i a (B:Int) s).marks.length≤J.length+1:=by rw [A1M];have:=A9X i s.marks;omega
   have hout:=fun r (hr:N≤r)=>B0I (N:=N) (i:=i) (a:=a) (b:=(B:Int)) (s:=s) hr
   have E:=fun(b:Nat) hb=>B5Y (F:=K7 N M2) (S:=S2) (l:=J) (b:=b) hb
   have hfga:=B8Q (N:=N) (S:=S2) (M:=M2) (l:=J) (fun k s hk=>v.yes hk) q
   have O: ∀e∈O6 (K7 N M2) S2 J,1000000000000≤e.1:=fun e g=>by
    obtain⟨j,hj,rfl⟩:=u5.1 g
    simp only [t6];omega
   have hsz:=fun d h=>(G8 (d:=d) (h:=h)).elim fun φ e=>show (s.marks.map zrw).map (fun r=>r.map (frz d h))=s.marks.map zrw by rw [e];exact W9 φ _
   have hsb:=fun d h=>(G8 (d:=d) (h:=h)).elim fun φ e=>show (B0 N s.set).map (fun r=>r.map (frz d h))=B0 N s.set by rw [e];exact U1 φ _ _
   have hlb:=D6 N s.set
   have hbqa: ∀k:Nat,k<1000000000000→(k=1000000000000+a)=False:=fun k h=>eq_false zd
   have I: ∀k:Nat,k<1000000000000→(1000000000000+a=k)=False:=fun k h=>eq_false zd
   cases hMb:M2 B with
   | none=>
    have hBl:=v.no hMb
    have hst:G6 N code M2 (a,(B:Int))=H0 M2 B (C9 N i a (B:Int) s):=by simp only [G6,q,Int.toNat_natCast,hMb,hins]
    have hKn:=v.new hMb D hout hmlo
    have hmu:=C3P (N:=N) (s:=C9 N i a (B:Int) s) D hMb
    have C: ∀st,L7 N code.length (fun j=>if j=B then st else S2 j) (H0 M2 B (C9 N i a (B:Int) s))=(L7 N code.length S2 M2).set B [.sl (1000000000000+B) st 0 N,.int .i64 (C9 N i a (B:Int) s).opn,.isl ((C9 N i a (B:Int) s).marks.map zrw)]:=fun st=>by
     rw [←B6Y (b:=B) (S:=S2) (M:=M2) (fun j hj=>by simp only [A3l,H0,if_neg hj])]
     simp only [A3l,H0,if_true]
    have hbs:(B0 code.length fun k=>(H0 M2 B (C9 N i a (B:Int) s) k).isSome)=(B0 code.length fun k=>(M2 k).isSome).set B [.bool true]:=by
     refine(U0 _ fun x K=> ?_).symm
     by_cases c:x=B
     ·subst c;simp only [H0,if_true];rfl
     ·simp only [H0,if_neg c]
    have hfam: ∀st,O6 (K7 N (H0 M2 B (C9 N i a (B:Int) s))) (fun j=>if j=B then st else S2 j) (J++ [B])=O6 (K7 N M2) S2 J++ [(1000000000000+B,st,.rows 1 (B0 N (C9 N i a (B:Int) s).set))]:=fun st=>by
     rw [B8i (F:=K7 N M2) (S:=S2) fun j hj=> ?_]
     ·simp only [K7,H0,if_true]
     ·have hjB:j≠B:=fun e=>hBl (e ▸ hj)
      simp only [K7,H0,if_neg hjB,and_self]
    have hfn: ∀e∈O6 (K7 N M2) S2 J,e.1≠1000000000000+B:=fun e g=>by
     obtain⟨j,hj,rfl⟩:=u5.1 g
     have hjB:j≠B:=fun e=>hBl (e ▸ hj)
     simp only [t6];omega
    have fin:=fun sg st m3=>ih2 sg (k+1,J++ [B],(fun j=>if j=B then st else S2 j),H0 M2 B (C9 N i a (B:Int) s),true,m3) ⟨by simp only;omega,hKn,by simp only;rw [hstep,hst],fun h=>absurd h zf,fun _=>by
     simp only
     cases Z with
     |true=>have:=U rfl;omega
     |false=>rw [W rfl]at hmu⊢;exact hmu,by
     by_cases c:a=B
     ·exact⟨C9 N i a (B:Int) s,by simp only [H0,if_pos c]⟩
     ·exact⟨s,by simp only [H0,if_neg c];exact q⟩⟩ zg
    simp only [hfam,C,hbs]at fin
    rw [hMb]at hbB
    have hrB:(L7 N code.length S2 M2)[B]? =some [.nils,.int .i64 0,.nils]:=by rw [A7n D];simp only [A3l,hMb]
    clear ih2 hfam C hbs
    generalize L7 N code.length S2 M2=RR at*
    generalize (B0 code.length fun k=>(M2 k).isSome)=BR at*
    generalize O6 (K7 N M2) S2 J=fm at*
    generalize hFS:B0 N s.set=FSs at*
    have p: ∀(x:Nat),(x<1000000000000→x≠(92*10000+20)∧x≠(92*10000+16)∧x≠(92*10000+1))→(∀e∈fm,e.1≠x)→ ∀X2 X3 X4 y2 y3 y4,∀e∈(((92*10000+20),y2,X2)::((92*10000+16),y3,X3)::((92*10000+1),y4,X4)::fm:A2),e.1≠x:=by
     intro x K hxf X2 X3 X4 y2 y3 y4 e g
     simp only [List.mem_cons]at g
     by_cases c:x<1000000000000
     ·obtain⟨d2,d3,d4⟩:=K c
      rcases g with h|h|h|h
      ·rw [h];exact d2.symm
      ·rw [h];exact d3.symm
      ·rw [h];exact d4.symm
      ·exact hxf e h
     ·rcases g with h|h|h|h
      ·exact YO
      ·exact YO
      ·exact YO
      ·exact hxf e h
    have w: ∀(x:Nat),(x<1000000000000→x≠(92*10000+10)∧x≠(92*10000+20)∧x≠(92*10000+16)∧x≠(92*10000+1))→(∀e∈fm,e.1≠x)→ ∀X1 X2 X3 X4 y1 y2 y3 y4,∀e∈(((92*10000+10),y1,X1)::((92*10000+20),y2,X2)::((92*10000+16),y3,X3)::((92*10000+1),y4,X4)::fm:A2),e.1≠x:=by
     intro x K hxf X1 X2 X3 X4 y1 y2 y3 y4 e g
     rcases List.mem_cons.1 g with h|h
     ·rw [h]
      by_cases c:x<1000000000000
      ·exact(K c).1.symm
      ·simp only;omega
     ·exact p x (fun c=>(K c).2) hxf X2 X3 X4 y2 y3 y4 e h
    have htk:FSs.take N=FSs:=List.take_of_length_le zd
    have P: ∀k:Nat,k<1000000000000→(k=1000000000000+B)=False:=fun k h=>eq_false zd
    have z: ∀k:Nat,k<1000000000000→(1000000000000+B=k)=False:=fun k h=>eq_false zd
    simp -implicitDefEqProofs only [go_sem,L,u,v0,v1,w0,w1,A,H,hxr,T,lr,zr,hra,R,E,Option.some.injEq,forall_eq']
    refine⟨?_,?_⟩
    ·refine Y _ _ _ 1 _ ?_ (1000000000000+B) (w _ (fun h=>by omega) hfn _ _ _ _ _ _ _ _) (w _ (fun h=>by decide) (fun e g=>by have:=O e g;omega) _ _ _ _ _ _ _ _) (w _ (fun h=>by decide) (fun e g=>by have:=O e g;omega) _ _ _ _ _ _ _ _) ?_
     ·exact Qr
     intro st n' hn'
     simp -implicitDefEqProofs only [go_sem,v0,v1,A,H,hxr,T,u0,u1,D,lb,zb,hbB,Option.isSome_none,lr,zr,hrB,E,P,z,Option.some.injEq,forall_eq']
     refine⟨⟨by omega,by omega⟩,fin _ st n' (C1.wk (C1.of zp (fun e g=> ?_) (Nat.le_refl _)))⟩
     exact XW
    ·refine Y _ _ _ 1 _ ?_ (1000000000000+B) (p _ (fun h=>by omega) hfn _ _ _ _ _ _) (p _ (fun h=>by decide) (fun e g=>by have:=O e g;omega) _ _ _ _ _ _) (p _ (fun h=>by decide) (fun e g=>by have:=O e g;omega) _ _ _ _ _ _) ?_
     ·exact Qr
     intro st n' hn'
     simp -implicitDefEqProofs only [go_sem,v0,v1,A,H,hxr,T,u0,u1,D,lb,zb,hbB,Option.isSome_none,lr,zr,hrB,E,P,z,Option.some.injEq,forall_eq']
     refine⟨⟨by omega,by omega⟩,fin _ st (n'+1) (C1.wk (C1.of zp (fun e g=> ?_) (Nat.le_refl _)))⟩
     exact XW
   | some t=>
    have hbl2:=v.yes hMb
    have hmemB:(1000000000000+B,S2 B,Blk.rows 1 (B0 N t.set))∈O6 (K7 N M2) S2 J:=u5.2 ⟨B,hbl2,by simp only [t6,K7,hMb]⟩
    have hst:G6 N code M2 (a,(B:Int))=H0 M2 B (M7 t (C9 N i a (B:Int) s)):=by simp only [G6,q,Int.toNat_natCast,hMb,hins]
    have hKn:=v.join (o:=C9 N i a (B:Int) s) hMb
    obtain⟨hj0,hj1⟩:=B8r (o:=C9 N i a (B:Int) s) v hMb D
    have C:L7 N code.length S2 (H0 M2 B (M7 t (C9 N i a (B:Int) s)))=L7 N code.length S2 M2:=by
     refine List.map_congr_left fun j hj=> ?_
     by_cases c:j=B
     ·subst c;simp only [A3l,H0,if_true,hMb,M7]
     ·simp only [A3l,H0,if_neg c]
    have hbs:(B0 code.length fun k=>(H0 M2 B (M7 t (C9 N i a (B:Int) s)) k).isSome)=B0 code.length fun k=>(M2 k).isSome:=E3 fun x K=>by
     by_cases c:x=B
     ·subst c;simp only [H0,if_true,hMb];rfl
     ·simp only [H0,if_neg c]
    have hput: ∀e∈O6 (K7 N (H0 M2 B (M7 t (C9 N i a (B:Int) s)))) S2 J,e=(1000000000000+B,S2 B,.rows 1 (B0 N fun r=>t.set r&&(C9 N i a (B:Int) s).set r))∨e∈A2.del (O6 (K7 N M2) S2 J) (1000000000000+B):=fun e g=>by
     rcases C1d (F:=K7 N M2) (b:=B) (fun j _ hjB=>by simp only [K7,H0,if_neg hjB]) g with h|h
     ·left;rw [h];simp only [K7,H0,if_true,M7]
     ·exact .inr h
    have fin:=fun(ch':Bool) (hch:(ch'=false→H0 M2 B (M7 t (C9 N i a (B:Int) s))=M)∧(ch'=true→mu N code.length (H0 M2 B (M7 t (C9 N i a (B:Int) s)))<mu N code.length M)) sg m3=>ih2 sg (k+1,J,S2,H0 M2 B (M7 t (C9 N i a (B:Int) s)),ch',m3) ⟨by simp only;omega,hKn,by simp only;rw [hstep,hst],hch.1,hch.2,by
     by_cases c:a=B
     ·exact⟨M7 t (C9 N i a (B:Int) s),by simp only [H0,if_pos c]⟩
     ·exact⟨s,by simp only [H0,if_neg c];exact q⟩⟩ zg
    simp only [C,hbs]at fin
    rw [hMb]at hbB
    have hrB:(L7 N code.length S2 M2)[B]? =some [.sl (1000000000000+B) (S2 B) 0 N,.int .i64 t.opn,.isl (t.marks.map zrw)]:=by rw [A7n D];simp only [A3l,hMb]
    clear ih2 C hbs
    generalize L7 N code.length S2 M2=RR at*
    generalize (B0 code.length fun k=>(M2 k).isSome)=BR at*
    generalize O6 (K7 N (H0 M2 B (M7 t (C9 N i a (B:Int) s)))) S2 J=fm2 at*
    generalize O6 (K7 N M2) S2 J=fm at*
    generalize hFS:B0 N s.set=FSs at*
    have p: ∀(x:Nat),x<1000000000000→x≠(92*10000+20)∧x≠(92*10000+16)∧x≠(92*10000+1)→ ∀X2 X3 X4 y2 y3 y4,∀e∈(((92*10000+20),y2,X2)::((92*10000+16),y3,X3)::((92*10000+1),y4,X4)::fm:A2),e.1≠x:=by
     intro x K ⟨d2,d3,d4⟩ X2 X3 X4 y2 y3 y4 e g
     simp only [List.mem_cons]at g
     rcases g with h|h|h|h
     ·rw [h];exact d2.symm
     ·rw [h];exact d3.symm
     ·rw [h];exact d4.symm
     ·have:=O e h;omega
    have w: ∀(x:Nat),x<1000000000000→x≠(92*10000+10)∧x≠(92*10000+20)∧x≠(92*10000+16)∧x≠(92*10000+1)→ ∀X1 X2 X3 X4 y1 y2 y3 y4,∀e∈(((92*10000+10),y1,X1)::((92*10000+20),y2,X2)::((92*10000+16),y3,X3)::((92*10000+1),y4,X4)::fm:A2),e.1≠x:=by
     intro x K hd X1 X2 X3 X4 y1 y2 y3 y4 e g
     rcases List.mem_cons.1 g with h|h
     ·rw [h];exact hd.1.symm
     ·exact p x K hd.2 X2 X3 X4 y2 y3 y4 e h
    have htk:FSs.take N=FSs:=List.take_of_length_le zd
    have P: ∀k:Nat,k<1000000000000→(k=1000000000000+B)=False:=fun k h=>eq_false zd
    have z: ∀k:Nat,k<1000000000000→(1000000000000+B=k)=False:=fun k h=>eq_false zd
    have hch:((Z||(List.range N).any fun r=>t.set r&& !(C9 N i a (B:Int) s).set r)=false→H0 M2 B (M7 t (C9 N i a (B:Int) s))=M)∧((Z||(List.range N).any fun r=>t.set r&& !(C9 N i a (B:Int) s).set r)=true→mu N code.length (H0 M2 B (M7 t (C9 N i a (B:Int) s)))<mu N code.length M):=by
     cases hjc:(List.range N).any fun r=>t.set r&& !(C9 N i a (B:Int) s).set r with
     |true=>
      refine⟨fun h=>by simp at h,fun _=> ?_⟩
      have:=hj1 hjc
      cases Z with
      |true=>have:=U rfl;omega
      |false=>rw [W rfl]at this⊢;exact this
     |false=>
      rw [Bool.or_false,hj0 hjc]
      exact⟨W,U⟩
    have fin:=fin _ hch
    clear hch hj0 hj1
    have hdd:A2.del (A2.del fm (1000000000000+B)) (1000000000000+B)=A2.del fm (1000000000000+B):=List.filter_eq_self.2 fun e g=>(List.mem_filter.1 g).2
    have hRd:A2.del (((92*10000+20),2,Blk.rows 1 BR)::((92*10000+16),1,.rows 3 RR)::((92*10000+1),0,.rows 11 [G])::A2.del fm (1000000000000+B)) (1000000000000+B)=((92*10000+20),2,Blk.rows 1 BR)::((92*10000+16),1,.rows 3 RR)::((92*10000+1),0,.rows 11 [G])::A2.del fm (1000000000000+B):=by
     refine List.filter_eq_self.2 fun e g=> ?_
     simp only [List.mem_cons]at g
     rcases g with h|h|h|h
     ·rw [h];simp only;rw [B5t zh];rfl
     ·rw [h];simp only;rw [B5t zh];rfl
     ·rw [h];simp only;rw [B5t zh];rfl
     ·exact(List.mem_filter.1 h).2
    simp -implicitDefEqProofs only [go_sem,L,u,v0,v1,w0,w1,A,H,hxr,T,lr,zr,hra,R,E,Option.some.injEq,forall_eq']
    refine⟨?_,?_⟩
    ·refine Y _ _ _ 1 _ ?_ (181*10000+3) (w _ zh zh _ _ _ _ _ _ _ _) (w _ zh zh _ _ _ _ _ _ _ _) (w _ zh zh _ _ _ _ _ _ _ _) ?_
     ·exact Qr
     intro st n' hn'
     simp -implicitDefEqProofs only [go_sem,v0,v1,A,H,hxr,T,u0,u1,D,lb,zb,hbB,Option.isSome_some,lr,zr,hrB,E,P,z,Option.some.injEq,forall_eq']
     refine Run.keep [12,11,10,9,8,7,6,5,4,1] ?_
     refine Run.wk (C1.wk ?_) (B4K N B st m2 n' (S2 B) t.set (C9 N i a (B:Int) s).set (.int .i64 t.opn) (.isl (t.marks.map zrw)) (.int .i64 (C9 N i a (B:Int) s).opn) (.isl ((C9 N i a (B:Int) s).marks.map zrw)) (.int .i64 k) (.isl nls) (.int .i64 a) (.sl (92*10000+20) 2 0 code.length) (.sl (92*10000+16) 1 0 code.length) (.ptr (92*10000+1) 0 0 0) Z _ hN hRd (n'+1) ?_)
     ·exact JO
     refine Run.go 100 ?_
     simp -implicitDefEqProofs only [go_sem,E]
     refine⟨⟨by omega,by omega⟩,fin _ (n'+1) (C1.wk (C1.of zp (fun e g=> ?_) (Nat.le_refl _)))⟩
     exact XE
    ·refine Y _ _ _ 1 _ ?_ (181*10000+3) (p _ zh zh _ _ _ _ _ _) (p _ zh zh _ _ _ _ _ _) (p _ zh zh _ _ _ _ _ _) ?_
     ·exact Qr
     intro st n' hn'
     simp -implicitDefEqProofs only [go_sem,v0,v1,A,H,hxr,T,u0,u1,D,lb,zb,hbB,Option.isSome_some,lr,zr,hrB,E,P,z,Option.some.injEq,forall_eq']
     refine Run.keep [12,11,10,9,8,7,6,5,4,1] ?_
     refine Run.wk (C1.wk ?_) (B4K N B st n' (n'+1) (S2 B) t.set (C9 N i a (B:Int) s).set (.int .i64 t.opn) (.isl (t.marks.map zrw)) (.int .i64 (C9 N i a (B:Int) s).opn) (.isl ((C9 N i a (B:Int) s).marks.map zrw)) (.int .i64 k) (.isl nls) (.int .i64 a) (.sl (92*10000+20) 2 0 code.length) (.sl (92*10000+16) 1 0 code.length) (.ptr (92*10000+1) 0 0 0) Z _ hN hRd (n'+1+1) ?_)
     ·exact JO
     refine Run.go 100 ?_
     simp -implicitDefEqProofs only [go_sem,E]
     refine⟨⟨by omega,by omega⟩,fin _ (n'+1+1) (C1.wk (C1.of zp (fun e g=> ?_) (Nat.le_refl _)))⟩
     exact XE
end Go.Proofs.YtcaaenddpjepiaaGreatDoor
