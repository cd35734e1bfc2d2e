/-
 The reference's verifier: the rounds. No condition.
-/
import Derived.Test.YtnihmhbcjpcobaaGreatDoorRvJ
import Derived.Test.YtnihmhbcjpcobaaGreatDoorVerP4
import Derived.Test.YtnihmhbcjpcobaaGreatDoorVerEj
import Derived.Test.YtnihmhbcjpcobaaGreatDoorFlowS
import Derived.Test.YtnihmhbcjpcobaaGreatDoorFnRc
set_option linter.unusedVariables false
set_option linter.unusedSimpArgs false
set_option maxRecDepth 100000
set_option maxHeartbeats 0
namespace Go.Proofs.YtnihmhbcjpcobaaGreatDoor
open Go.Abs
attribute [local irreducible] A2 Run
-- EV: Ins.v, Ins.row
attribute [local go_sem] Ins.v Ins.row
theorem B5O(N:Nat)(code:List Ins)(pr:List V)(h11:pr.length=11)(ht11:pr.take 11=pr)(h5:pr[5]? =some (.isl (code.map Ins.row)))(hps:pr.map (V.sub H0)=pr)(a:Nat)(i:Ins)(ha:code[a]? =some i)
  (hnx:Pure Tryz.prog 37 [.agg pr,.int .i64 a] (.isl ((C7 code a).map zrw))) (b:Int) (hc:code.length≤1000000) (s:Stt) (hN:N≤100000) (hi:Fit N i) (hm:s.marks.length≤1000000)
  (xs:List V) (h:A0) (n d:Nat) (Q:Res) (has:xs.map (frz d h)= [.agg pr,.agg [.isl (A6 N s.set),.int .i64 s.opn,.isl (s.marks.map zrw)],.int .i64 a,.int .i64 b]) (nm:Nat) (hnm: ∀e∈h,e.1≠nm) (hM: ∀e∈h,e.1≠(102*10000+9)) (hB: ∀e∈h,e.1≠(102*10000+3))
  (hk: ∀st n',n≤n'→Q (.agg [.sl nm st 0 N,.int .i64 (B4 N i a b s).opn,.isl ((B4 N i a b s).marks.map zrw)]) ((nm,st,.rows 1 (A6 N (B4 N i a b s).set))::h) n'):A2 Tryz.prog 38 xs h n Q:=by
 refine(A2.lend (k:=fun r h' n'=>n≤n'∧ ∃st st2,r= .agg [.sl (102*10000+3) st 0 N,.int .i64 (B7 i).2,.sl (102*10000+9) st2 0 (F1 i s.marks).length]∧
   h'= [((102*10000+3),st,.rows 1 (A6 N (B4 N i a b s).set)),((102*10000+9),st2,.rows 1 ((F1 i s.marks).map zrw))]++h)
  (B0z N code pr h11 ht11 h5 hps a i ha hnx b hc s hN hi hm n) d has ?_).wk ?_
 ·rintro r h' n' hn ⟨st,st2,rfl,rfl⟩
  refine⟨rfl,fun e he=> ?_,hn,st,st2,rfl,rfl⟩
  simp only [List.mem_cons,List.not_mem_nil,or_false]at he
  rcases he with rfl|rfl
  ·exact B2C _ _
  ·exact B7V _
 ·rintro r h' n' ⟨hn,st,st2,rfl,rfl⟩
  have w1:Wk ⟨[(0,.agg [.sl (102*10000+3) st 0 N,.int .i64 (B7 i).2,.sl (102*10000+9) st2 0 (F1 i s.marks).length])],
    [((102*10000+3),st,.rows 1 (A6 N (B4 N i a b s).set)),((102*10000+9),st2,.rows 1 ((F1 i s.marks).map zrw))]++h,n'⟩
    ⟨[(0,.agg [.sl (102*10000+3) st 0 N,.int .i64 (B7 i).2,.isl ((F1 i s.marks).map zrw)])],
    ((102*10000+3),st,.rows 1 (A6 N (B4 N i a b s).set))::h,n'⟩:=by
   refine Wk.freeze (b:=(102*10000+9)) (st:=st2) (sz:=1) (rs:=(F1 i s.marks).map zrw) (by simp) ⟨.agg ⟨.of (.refl _),.of (.refl _),.all (by simp),trivial⟩,trivial⟩ (A7c.of fun e he=> ?_)
   rcases List.mem_cons.1 he with rfl|he
   ·exact⟨by simp,by simp only;decide⟩
   ·exact⟨by simp [he],hM e he⟩
  have w2:Wk ⟨[(0,.agg [.sl (102*10000+3) st 0 N,.int .i64 (B7 i).2,.isl ((F1 i s.marks).map zrw)])],
    ((102*10000+3),st,.rows 1 (A6 N (B4 N i a b s).set))::h,n'⟩
    ⟨[(0,.agg [.sl nm st 0 N,.int .i64 (B4 N i a b s).opn,.isl ((B4 N i a b s).marks.map zrw)])],(nm,st,.rows 1 (A6 N (B4 N i a b s).set))::h,n'⟩:=by
   rw [A4M,j6]
   refine Wk.turn (fun x=>if x=(102*10000+3)then nm else x) ⟨.agg ⟨.sl,.refl _,.refl _,trivial⟩,trivial⟩ (A0m.of fun e he=> ?_)
   rcases List.mem_cons.1 he with rfl|he
   ·exact⟨_,List.mem_cons_self,by simp,rfl,.refl _⟩
   ·exact⟨e,List.mem_cons_of_mem _ he,by rw [if_neg (hB e he)],rfl,.refl _⟩
  exact⟨_,_,_,w1.trans w2,hk st n' hn⟩
theorem C1g(pr:List V)(h11:pr.length=11)(ht11:pr.take 11=pr)(params:Int)(N:Nat)(h4:pr[4]? =some (.int .i64 N))(h2:pr[2]? =some (.int .i64 params))(hNl:N≤100000)(hp0:0≤params)(hp1:params≤N)(nm n:Nat):
  A2 Tryz.prog 36 [.agg pr] [] n fun r h' n'=> ∃st,r= .agg [.sl nm st 0 N,.int .i64 (-1),.isl []]∧h'= [(nm,st,.rows 1 (A6 N (A1G N params).set))]:=by
 refine(B7u pr h11 ht11 params N h4 h2 hNl hp0 hp1 n).wk ?_
 rintro r h' n' ⟨st,rfl,rfl⟩
 exact⟨.agg [.sl nm st 0 N,.int .i64 (-1),.isl []],[(nm,st,.rows 1 (A6 N (A1G N params).set))],n',.turn (fun _=>nm) ⟨.agg ⟨.sl,.refl _,.refl _,trivial⟩,trivial⟩ (.at 0 rfl rfl (.refl _) trivial),st,rfl,rfl⟩
theorem B7x(N:Nat)(code:List Ins)(params:Int)(pr:List V)(h11:pr.length=11)(ht11:pr.take 11=pr)(h5:pr[5]? =some (.isl (code.map Ins.row)))(h4:pr[4]? =some (.int .i64 N))(h2:pr[2]? =some (.int .i64 params))(hps:pr.map (V.sub H0)=pr)(hsub: ∀d h,pr.map (frz d h)=pr)
  (hnx: ∀a:Nat,Pure Tryz.prog 37 [.agg pr,.int .i64 a] (.isl ((C7 code a).map zrw)))
  (hc:code.length≤100000) (hc0:0<code.length) (hN:N≤100000) (hp0:0≤params) (hp1:params≤N) (hfit: ∀i∈code,Fit N i):
  Pure Tryz.prog 22 [.agg pr] (.tup [.isl (rvL N code.length (stM N code params)),.isl (A6 code.length fun k=>(stM N code params k).isSome)]):=by
 have hent:=fun n=>C1g pr h11 ht11 params N h4 h2 hN hp0 hp1 (1000000000000+0) n
 have l5:(code.map Ins.row).length=code.length:=List.length_map ..
 have hz0:=B7B N code.length fun _=>0
 have hb0:=A8W code.length
 generalize hCR:code.map Ins.row=CR at*
 refine Pure.of 2 (A2.enterK f0 (Nat.le_of_ble_eq_true rfl) fun Q hQ=>Run.go 100 ?_)
 simp -implicitDefEqProofs only [go_sem,A4,h11,ht11,h5,l5]
 refine⟨by omega,by omega,by omega,by omega,?_⟩
 refine A2.at [] [0,1,2] (hent _) rfl rfl ?_
 rintro r h' n1 hn1 ⟨st0,rfl,rfl⟩
 have c0:((0:Int)<(code.length:Int))=True:=eq_true (by omega)
 have hr0:(List.replicate code.length [V.nils,.int .i64 0,.nils])[0]? =some [V.nils,.int .i64 0,.nils]:=by simp [hc0]
 have hb1:(List.replicate code.length [V.bool false])[0]? =some [V.bool false]:=by simp [hc0]
 simp -implicitDefEqProofs only [go_sem,List.length_replicate,c0,hr0,hb1,hc0,Option.some.injEq,forall_eq']
 have hr00:(List.replicate code.length [V.nils,.int .i64 0,.nils]).set 0 [.sl 1000000000000 st0 0 N,.int .i64 (-1),.isl []]=H1 N code.length (fun _=>st0) (M0 N params):=by
  rw [←hz0]
  exact B3A (S:=fun _=>0) (S':=fun _=>st0) (M:=fun _=>none) (M':=M0 N params) (b:=0) fun j hj=>by simp only [A1l,M0,if_neg hj]
 have hb00:(List.replicate code.length [V.bool false]).set 0 [.bool true]=A6 code.length fun k=>(M0 N params k).isSome:=by
  rw [←hb0]
  refine K6 _ fun x hx=> ?_
  by_cases c:x=0
  ·subst c;rfl
  ·rw [if_neg c];simp only [M0,if_neg c];rfl
 simp only [hr00,hb00]
 clear hent hz0 hb0 hr0 hb1 hr00 hb00
 refine Run.roundsK (fun(x:List Nat×(Nat→Nat)×(Nat→Option Stt)×Bool×Nat)=>⟨[(6,.bool x.2.2.2.1),(5,.sl (22*10000+20) 2 0 code.length),(4,.sl (22*10000+16) 1 0 code.length),(1,.ptr (22*10000+1) 0 0 0)],
   ((22*10000+20),2,.rows 1 (A6 code.length fun k=>(x.2.2.1 k).isSome))::((22*10000+16),1,.rows 3 (H1 N code.length x.2.1 x.2.2.1))::((22*10000+1),0,.rows 11 [pr])::I4 (G6 N x.2.2.1) x.2.1 x.1,x.2.2.2.2⟩)
  (fun x=>Kn N code.length x.1 x.2.2.1∧(∃j,x.2.2.1=A1k N code params j)∧(x.2.2.2.1=false→i6 N code x.2.2.1=x.2.2.1)) (fun x=>2*mu N code.length x.2.2.1+(if x.2.2.2.1 then 1 else 0)) ([0],(fun _=>st0),M0 N params,true,n1) ?_ ⟨Kn.zero hc0,⟨0,rfl⟩,fun h=>absurd h (by simp)⟩ ?_
 ·exact .turn id ⟨.refl _,.refl _,.refl _,.refl _,trivial⟩ (.at 0 rfl rfl (.refl _) (.at 1 rfl rfl (.refl _) (.at 3 rfl rfl (.refl _) (.at 2 rfl rfl (.refl _) trivial))))
 rintro⟨l,S,M,ch,m⟩ ⟨hK,hit,hfix⟩ ih
 simp only at hK hit hfix ih⊢
 refine Run.unf A2K (Run.go 100 ?_)
 have hfd:=fun(b:Nat) hb=>B2N (F:=G6 N M) (S:=S) (l:=l) (b:=b) hb
 have hfg0:=fun(b st:Nat) hb=>C0E (F:=G6 N M) (S:=S) (l:=l) (b:=b) (st:=st) hb
 cases ch with
 | false=>
  have hst:W9 N code params M:=by
   obtain⟨j,hj⟩:=hit
   exact⟨j,hj,hfix rfl⟩
  have hS:=B3G hst
  simp -implicitDefEqProofs only [go_sem]
  subst hQ
  refine .is ?_
  rw [←hS]
  have hg: ∀k s,M k=some s→A0.get (((22*10000+20),2,.rows 1 (A6 code.length fun k=>(M k).isSome))::((22*10000+16),1,.rows 3 (H1 N code.length S M))::((22*10000+1),0,.rows 11 [pr])::I4 (G6 N M) S l) (1000000000000+k) (S k)=some (.rows 1 (A6 N s.set)):=fun k s hk=>by
   have hb: ∀x,x<1000000000000→Nat.beq x (1000000000000+k)=false:=fun x hx=>B2n hx
   rw [A0.get,hb _ (by simp only;decide),cond_false,A0.get,hb _ (by simp only;decide),cond_false,A0.get,hb _ (by simp only;decide),cond_false]
   exact B4R (fun k s hk=>hK.yes hk) hk
  have hv:=B9f (n:=code.length) hg
  have lr:=A3g N code.length S M
  have lb:=C2 code.length fun k=>(M k).isSome
  have hsb:=fun d h=>(D8 (d:=d) (h:=h)).elim fun φ e=>show (A6 code.length fun k=>(M k).isSome).map (fun r=>r.map (frz d h))=A6 code.length fun k=>(M k).isSome by rw [e];exact K7 φ _ _
  generalize H1 N code.length S M=RR at*
  generalize (A6 code.length fun k=>(M k).isSome)=BR at*
  have t1:RR.take code.length=RR:=List.take_of_length_le (by omega)
  have t2:BR.take code.length=BR:=List.take_of_length_le (by omega)
  simp -implicitDefEqProofs only [go_sem,lr,lb,t1,t2,hv,hsb]
 | true=>
  simp -implicitDefEqProofs only [go_sem]
  refine Run.roundsK (fun(y:Nat×List Nat×(Nat→Nat)×(Nat→Option Stt)×Bool×Nat)=>⟨[(7,.int .i64 y.1),(6,.bool y.2.2.2.2.1),(5,.sl (22*10000+20) 2 0 code.length),(4,.sl (22*10000+16) 1 0 code.length),(1,.ptr (22*10000+1) 0 0 0)],
    ((22*10000+20),2,.rows 1 (A6 code.length fun k=>(y.2.2.2.1 k).isSome))::((22*10000+16),1,.rows 3 (H1 N code.length y.2.2.1 y.2.2.2.1))::((22*10000+1),0,.rows 11 [pr])::I4 (G6 N y.2.2.2.1) y.2.2.1 y.2.1,y.2.2.2.2.2⟩)
   (fun y=>y.1≤code.length∧Kn N code.length y.2.1 y.2.2.2.1∧y.2.2.2.1=(O5 code y.1).foldl (D7 N code) M∧(y.2.2.2.2.1=false→y.2.2.2.1=M)∧(y.2.2.2.2.1=true→mu N code.length y.2.2.2.1<mu N code.length M)) (fun y=>code.length-y.1) (0,l,S,M,false,m) (B6.wk (B6.of (by simp -implicitDefEqProofs only [go_sem]) (fun e he=>he) (by simp -implicitDefEqProofs only [go_sem]))) ⟨Nat.zero_le _,hK,rfl,fun _=>rfl,fun h=>absurd h (by simp)⟩ ?_
  clear hfd hfg0
  rintro⟨a,l1,S1,M1,ch,m1⟩ ⟨ha,hK1,hM1,hc1,hd1⟩ ih1
  simp only at ha hK1 hM1 hc1 hd1 ih1⊢
  refine Run.unf A2L (Run.go 100 ?_)
  by_cases hlt:a<code.length
  case neg=>
   have ek:a=code.length:=by omega
   subst ek
   have hrd:M1=i6 N code M:=hM1
   simp -implicitDefEqProofs only [go_sem,h11,ht11,h5,l5,Int.lt_irrefl]
   refine ih _ (l1,S1,M1,ch,m1) ⟨hK1,?_,fun h=> ?_⟩ ?_ (B6.wk (B6.of (by simp -implicitDefEqProofs only [go_sem]) (fun e he=>he) (Nat.le_refl _)))
   ·obtain⟨j,hj⟩:=hit
    exact⟨j+1,by rw [A1k,←hj];exact hrd⟩
   ·simp only at h⊢
    rw [hc1 h]at hrd⊢;exact hrd.symm
   ·simp only
    cases ch with
    |true=>have:=hd1 rfl;simp;omega
    |false=>rw [hc1 rfl];simp
  have w0:((a:Int)<(code.length:Int))=True:=eq_true (by omega)
  have w1:((0:Int)≤(a:Int))=True:=eq_true (by omega)
  have hza:((a+1:Nat):Int)=(a:Int)+1:=by omega
  have lb:=C2 code.length fun k=>(M1 k).isSome
  have zb:=E6 code.length fun k=>(M1 k).isSome
  have hat:=E5 (f:=fun k=>(M1 k).isSome) hlt
  have hes:O5 code (a+1)=O5 code a++(C7 code a).map fun(b:Int)=>(a,b):=by
   have:=A5G code a
   rw [←this,G5,List.take_length]
  cases hMa:M1 a with
  |none=>
   have fin:=fun s m2=>ih1 s (a+1,l1,S1,M1,ch,m2) ⟨by simp only;omega,hK1,by simp only;rw [hes,List.foldl_append,←hM1,B4v _ hMa],hc1,hd1⟩ (by simp only;omega)
   simp only at fin
   rw [hMa]at hat
   generalize (A6 code.length fun k=>(M1 k).isSome)=BR at*
   generalize I4 (G6 N M1) S1 l1=fm at*
   simp -implicitDefEqProofs only [go_sem,h11,ht11,h5,l5,w0,w1,lb,zb,hat,hlt,Option.isSome_none,Option.some.injEq,forall_eq']
   exact⟨⟨by omega,by omega⟩,fin _ m1 (B6.wk (B6.of (by simp -implicitDefEqProofs only [go_sem,hza]) (fun e he=>he) (Nat.le_refl _)))⟩
  | some s0=>
   rw [hMa]at hat
   have hnl2:=A3a code a
   have hnin:=fun x (hx:x∈C7 code a)=>A4C hx
   obtain⟨i,hi⟩: ∃i,code[a]? =some i:=⟨code[a],by simp [hlt]⟩
   have hins:D3 code a=i:=by unfold D3;rw [List.getD_eq_getElem?_getD,hi];rfl
   have hfi:=hfit i (List.mem_of_getElem? hi)
   have hpl:=fun(b:Int) (s:Stt) hm=>B5O N code pr h11 ht11 (by rw [h5,hCR]) hps a i hi (hnx a) b (by omega) s hN hfi hm
   have hk0:=B1C code a
   have hkA:=A5G code a
   have hkS:=fun k (x:Int) h=>B1B (code:=code) (a:=a) (k:=k) (x:=x) h
   have hnxa:=hnx a
   generalize hnl:C7 code a=nl at*
   have hnls: ∀(k:Nat) (x:Int),nl[k]? =some x→(nl.map zrw)[k]? =some [.int .i64 x]:=fun k x h=>W8 h
   have hnll:(nl.map zrw).length=nl.length:=List.length_map ..
   have hnlz:=F7 nl
   generalize nl.map zrw=nls at*
   have fin1:=fun s l2 S2 M2 ch2 m2 hK2 hM2 hc2 hd2=>ih1 s (a+1,l2,S2,M2,ch2,m2) ⟨by simp only;omega,hK2,hM2,hc2,hd2⟩ (by simp only;omega)
   clear ih1
   have hR1:H1 N code.length S1 M1=H1 N code.length S1 M1:=rfl
   generalize hBR:(A6 code.length fun k=>(M1 k).isSome)=BR at*
   generalize hfm:I4 (G6 N M1) S1 l1=fm at*
   simp -implicitDefEqProofs only [go_sem,h11,ht11,h5,l5,w0,w1,lb,zb,hat,hlt,Option.isSome_some,Option.some.injEq,forall_eq']
   refine A2.pureF hnxa (by simp -implicitDefEqProofs only [go_sem,hps]) ?_
   simp -implicitDefEqProofs only [go_sem]
   refine Run.keep [9,8,7,6,5,4,1] ?_
   subst hBR hfm
   refine Run.roundsK (fun(y:Nat×List Nat×(Nat→Nat)×(Nat→Option Stt)×Bool×Nat)=>⟨[(9,.int .i64 y.1),(8,.isl nls),(7,.int .i64 a),(6,.bool y.2.2.2.2.1),(5,.sl (22*10000+20) 2 0 code.length),(4,.sl (22*10000+16) 1 0 code.length),(1,.ptr (22*10000+1) 0 0 0)],
     ((22*10000+20),2,.rows 1 (A6 code.length fun k=>(y.2.2.2.1 k).isSome))::((22*10000+16),1,.rows 3 (H1 N code.length y.2.2.1 y.2.2.2.1))::((22*10000+1),0,.rows 11 [pr])::I4 (G6 N y.2.2.2.1) y.2.2.1 y.2.1,y.2.2.2.2.2⟩)
    (fun y=>y.1≤nl.length∧Kn N code.length y.2.1 y.2.2.2.1∧y.2.2.2.1=(G5 code a y.1).foldl (D7 N code) M∧(y.2.2.2.2.1=false→y.2.2.2.1=M)∧(y.2.2.2.2.1=true→mu N code.length y.2.2.2.1<mu N code.length M)∧ ∃s,y.2.2.2.1 a=some s) (fun y=>nl.length-y.1) (0,l1,S1,M1,ch,m1) (B6.wk (B6.of (by simp -implicitDefEqProofs only [go_sem]) (fun e he=>he) (Nat.le_refl _))) ⟨Nat.zero_le _,hK1,by simp only;rw [hk0];exact hM1,hc1,hd1,s0,hMa⟩ ?_
   clear hK1 hM1 hc1 hd1 hMa s0 lb zb hat
   rintro⟨k,l2,S2,M2,ch,m2⟩ ⟨hk,hK2,hM2,hc2,hd2,s,hMa⟩ ih2
   simp only at hk hK2 hM2 hc2 hd2 hMa ih2⊢
   refine Run.unf A2M (Run.go 100 ?_)
   by_cases hkl:k<nl.length
   case neg=>
    have ek:k=nl.length:=by omega
    subst ek
    simp -implicitDefEqProofs only [go_sem,hnll,Int.lt_irrefl]
    refine⟨by omega,fin1 _ l2 S2 M2 ch m2 hK2 (by rw [hkA]at hM2;exact hM2) hc2 hd2 (B6.wk (B6.of (by simp -implicitDefEqProofs only [go_sem,hza]) (fun e he=>he) (Nat.le_refl _)))⟩
   have v0:((k:Int)<(nl.length:Int))=True:=eq_true (by omega)
   have v1:((0:Int)≤(k:Int))=True:=eq_true (by omega)
   have hzk:((k+1:Nat):Int)=(k:Int)+1:=by omega
   obtain⟨b,hx⟩: ∃x,nl[k]? =some x:=⟨nl[k],by simp [hkl]⟩
   have hxr:=hnls k b hx
   obtain⟨hb0,hbn⟩:=hnin b (List.mem_of_getElem? hx)
   obtain⟨B,rfl⟩: ∃B:Nat,b=B:=⟨b.toNat,by omega⟩
   have hBn:B<code.length:=by omega
   have u0:((B:Int)<(code.length:Int))=True:=eq_true (by omega)
   have u1:((0:Int)≤(B:Int))=True:=eq_true (by omega)
   have hstep:(G5 code a (k+1)).foldl (D7 N code) M=D7 N code M2 (a,(B:Int)):=by rw [hkS k _ hx,List.foldl_append,←hM2];rfl
   have lr:=A3g N code.length S2 M2
   have zr:=C1r N code.length S2 M2
   have hra:=A5d (N:=N) (S:=S2) (M:=M2) hlt
   have hrw:A1l N S2 M2 a= [.sl (1000000000000+a) (S2 a) 0 N,.int .i64 s.opn,.isl (s.marks.map zrw)]:=by simp only [A1l,hMa]
   rw [hrw]at hra
   have lb:=C2 code.length fun k=>(M2 k).isSome
   have zb:=E6 code.length fun k=>(M2 k).isSome
   have hbB:=E5 (f:=fun k=>(M2 k).isSome) hBn
   have hll:=hK2.len
   have hml:=hK2.ml a s hMa
   have hcal:=hpl (B:Int) s (by omega)
   have hmlo:(B4 N i a (B:Int) s).marks.length≤l2.length+1:=by rw [j6];have:=A7i i s.marks;omega
   have hout:=fun r (hr:N≤r)=>A8i (N:=N) (i:=i) (a:=a) (b:=(B:Int)) (s:=s) hr
   have hfd:=fun(b:Nat) hb=>B2N (F:=G6 N M2) (S:=S2) (l:=l2) (b:=b) hb
   have hfga:=B4R (N:=N) (S:=S2) (M:=M2) (l:=l2) (fun k s hk=>hK2.yes hk) hMa
   have hfn0: ∀e∈I4 (G6 N M2) S2 l2,1000000000000≤e.1:=fun e he=>by
    obtain⟨j,hj,rfl⟩:=S5.1 he
    simp only [A7k];omega
   have hsz:=fun d h=>(D8 (d:=d) (h:=h)).elim fun φ e=>show (s.marks.map zrw).map (fun r=>r.map (frz d h))=s.marks.map zrw by rw [e];exact M5 φ _
   have hsb:=fun d h=>(D8 (d:=d) (h:=h)).elim fun φ e=>show (A6 N s.set).map (fun r=>r.map (frz d h))=A6 N s.set by rw [e];exact K7 φ _ _
   have hlb:=C2 N s.set
   have hbqa: ∀k:Nat,k<1000000000000→(k=1000000000000+a)=False:=fun k h=>eq_false (by omega)
   have hbqa2: ∀k:Nat,k<1000000000000→(1000000000000+a=k)=False:=fun k h=>eq_false (by omega)
   cases hMb:M2 B with
   | none=>
    have hBl:=hK2.no hMb
    have hst:D7 N code M2 (a,(B:Int))=D6 M2 B (B4 N i a (B:Int) s):=by simp only [D7,hMa,Int.toNat_natCast,hMb,hins]
    have hKn:=hK2.new hMb hBn hout hmlo
    have hmu:=B8K (N:=N) (s:=B4 N i a (B:Int) s) hBn hMb
    have hrows: ∀st,H1 N code.length (fun j=>if j=B then st else S2 j) (D6 M2 B (B4 N i a (B:Int) s))=(H1 N code.length S2 M2).set B [.sl (1000000000000+B) st 0 N,.int .i64 (B4 N i a (B:Int) s).opn,.isl ((B4 N i a (B:Int) s).marks.map zrw)]:=fun st=>by
     rw [←B3A (b:=B) (S:=S2) (M:=M2) (fun j hj=>by simp only [A1l,D6,if_neg hj])]
     simp only [A1l,D6,if_true]
    have hbs:(A6 code.length fun k=>(D6 M2 B (B4 N i a (B:Int) s) k).isSome)=(A6 code.length fun k=>(M2 k).isSome).set B [.bool true]:=by
     refine(K6 _ fun x hx=> ?_).symm
     by_cases c:x=B
     ·subst c;simp only [D6,if_true];rfl
     ·simp only [D6,if_neg c]
    have hfam: ∀st,I4 (G6 N (D6 M2 B (B4 N i a (B:Int) s))) (fun j=>if j=B then st else S2 j) (l2++ [B])=I4 (G6 N M2) S2 l2++ [(1000000000000+B,st,.rows 1 (A6 N (B4 N i a (B:Int) s).set))]:=fun st=>by
     rw [B4p (F:=G6 N M2) (S:=S2) fun j hj=> ?_]
     ·simp only [G6,D6,if_true]
     ·have hjB:j≠B:=fun e=>hBl (e ▸ hj)
      simp only [G6,D6,if_neg hjB,and_self]
    have hfn: ∀e∈I4 (G6 N M2) S2 l2,e.1≠1000000000000+B:=fun e he=>by
     obtain⟨j,hj,rfl⟩:=S5.1 he
     have hjB:j≠B:=fun e=>hBl (e ▸ hj)
     simp only [A7k];omega
    have fin:=fun sg st m3=>ih2 sg (k+1,l2++ [B],(fun j=>if j=B then st else S2 j),D6 M2 B (B4 N i a (B:Int) s),true,m3) ⟨by simp only;omega,hKn,by simp only;rw [hstep,hst],fun h=>absurd h (by simp),fun _=>by
     simp only
     cases ch with
     |true=>have:=hd2 rfl;omega
     |false=>rw [hc2 rfl]at hmu⊢;exact hmu,by
     by_cases c:a=B
     ·exact⟨B4 N i a (B:Int) s,by simp only [D6,if_pos c]⟩
     ·exact⟨s,by simp only [D6,if_neg c];exact hMa⟩⟩ (by simp only;omega)
    simp only [hfam,hrows,hbs]at fin
    rw [hMb]at hbB
    have hrB:(H1 N code.length S2 M2)[B]? =some [.nils,.int .i64 0,.nils]:=by rw [A5d hBn];simp only [A1l,hMb]
    clear ih2 hfam hrows hbs
    generalize H1 N code.length S2 M2=RR at*
    generalize (A6 code.length fun k=>(M2 k).isSome)=BR at*
    generalize I4 (G6 N M2) S2 l2=fm at*
    generalize hFS:A6 N s.set=FSs at*
    have hap3: ∀(x:Nat),(x<1000000000000→x≠(22*10000+20)∧x≠(22*10000+16)∧x≠(22*10000+1))→(∀e∈fm,e.1≠x)→ ∀X2 X3 X4 y2 y3 y4,∀e∈(((22*10000+20),y2,X2)::((22*10000+16),y3,X3)::((22*10000+1),y4,X4)::fm:A0),e.1≠x:=by
     intro x hx hxf X2 X3 X4 y2 y3 y4 e he
     simp only [List.mem_cons]at he
     by_cases c:x<1000000000000
     ·obtain⟨d2,d3,d4⟩:=hx c
      rcases he with h|h|h|h
      ·rw [h];exact d2.symm
      ·rw [h];exact d3.symm
      ·rw [h];exact d4.symm
      ·exact hxf e h
     ·rcases he with h|h|h|h
      ·rw [h];simp only;omega
      ·rw [h];simp only;omega
      ·rw [h];simp only;omega
      ·exact hxf e h
    have hap4: ∀(x:Nat),(x<1000000000000→x≠(22*10000+10)∧x≠(22*10000+20)∧x≠(22*10000+16)∧x≠(22*10000+1))→(∀e∈fm,e.1≠x)→ ∀X1 X2 X3 X4 y1 y2 y3 y4,∀e∈(((22*10000+10),y1,X1)::((22*10000+20),y2,X2)::((22*10000+16),y3,X3)::((22*10000+1),y4,X4)::fm:A0),e.1≠x:=by
     intro x hx hxf X1 X2 X3 X4 y1 y2 y3 y4 e he
     rcases List.mem_cons.1 he with h|h
     ·rw [h]
      by_cases c:x<1000000000000
      ·exact(hx c).1.symm
      ·simp only;omega
     ·exact hap3 x (fun c=>(hx c).2) hxf X2 X3 X4 y2 y3 y4 e h
    have htk:FSs.take N=FSs:=List.take_of_length_le (by omega)
    have hbqB: ∀k:Nat,k<1000000000000→(k=1000000000000+B)=False:=fun k h=>eq_false (by omega)
    have hbqB2: ∀k:Nat,k<1000000000000→(1000000000000+B=k)=False:=fun k h=>eq_false (by omega)
    simp -implicitDefEqProofs only [go_sem,h11,ht11,v0,v1,w0,w1,hnll,hnlz,hxr,hkl,lr,zr,hra,hlt,hfd,Option.some.injEq,forall_eq']
    refine⟨?_,?_⟩
    ·refine hcal _ _ _ 1 _ ?_ (1000000000000+B) (hap4 _ (fun h=>by omega) hfn _ _ _ _ _ _ _ _) (hap4 _ (fun h=>by decide) (fun e he=>by have:=hfn0 e he;omega) _ _ _ _ _ _ _ _) (hap4 _ (fun h=>by decide) (fun e he=>by have:=hfn0 e he;omega) _ _ _ _ _ _ _ _) ?_
     ·simp -implicitDefEqProofs only [go_sem,hsub,hfga,hsz,hsb,hlb,htk,hbqa,hbqa2]
     intro st n' hn'
     simp -implicitDefEqProofs only [go_sem,v0,v1,hnll,hnlz,hxr,hkl,u0,u1,hBn,lb,zb,hbB,Option.isSome_none,lr,zr,hrB,hfd,hbqB,hbqB2,Option.some.injEq,forall_eq']
     refine⟨⟨by omega,by omega⟩,fin _ st n' (B6.wk (B6.of (by simp -implicitDefEqProofs only [go_sem,hzk]) (fun e he=> ?_) (Nat.le_refl _)))⟩
     simp only [List.mem_cons,List.mem_append,List.not_mem_nil,or_false]at he⊢
     rcases he with h|h|h|h|h<;>simp only [h,eq_self,true_or,or_true]
    ·refine hcal _ _ _ 1 _ ?_ (1000000000000+B) (hap3 _ (fun h=>by omega) hfn _ _ _ _ _ _) (hap3 _ (fun h=>by decide) (fun e he=>by have:=hfn0 e he;omega) _ _ _ _ _ _) (hap3 _ (fun h=>by decide) (fun e he=>by have:=hfn0 e he;omega) _ _ _ _ _ _) ?_
     ·simp -implicitDefEqProofs only [go_sem,hsub,hfga,hsz,hsb,hlb,htk,hbqa,hbqa2]
     intro st n' hn'
     simp -implicitDefEqProofs only [go_sem,v0,v1,hnll,hnlz,hxr,hkl,u0,u1,hBn,lb,zb,hbB,Option.isSome_none,lr,zr,hrB,hfd,hbqB,hbqB2,Option.some.injEq,forall_eq']
     refine⟨⟨by omega,by omega⟩,fin _ st (n'+1) (B6.wk (B6.of (by simp -implicitDefEqProofs only [go_sem,hzk]) (fun e he=> ?_) (Nat.le_refl _)))⟩
     simp only [List.mem_cons,List.mem_append,List.not_mem_nil,or_false]at he⊢
     rcases he with h|h|h|h|h<;>simp only [h,eq_self,true_or,or_true]
   | some t=>
    have hbl2:=hK2.yes hMb
    have hmemB:(1000000000000+B,S2 B,Blk.rows 1 (A6 N t.set))∈I4 (G6 N M2) S2 l2:=S5.2 ⟨B,hbl2,by simp only [A7k,G6,hMb]⟩
    have hst:D7 N code M2 (a,(B:Int))=D6 M2 B (G3 t (B4 N i a (B:Int) s)):=by simp only [D7,hMa,Int.toNat_natCast,hMb,hins]
    have hKn:=hK2.join (o:=B4 N i a (B:Int) s) hMb
    obtain⟨hj0,hj1⟩:=B4x (o:=B4 N i a (B:Int) s) hK2 hMb hBn
    have hrows:H1 N code.length S2 (D6 M2 B (G3 t (B4 N i a (B:Int) s)))=H1 N code.length S2 M2:=by
     refine List.map_congr_left fun j hj=> ?_
     by_cases c:j=B
     ·subst c;simp only [A1l,D6,if_true,hMb,G3]
     ·simp only [A1l,D6,if_neg c]
    have hbs:(A6 code.length fun k=>(D6 M2 B (G3 t (B4 N i a (B:Int) s)) k).isSome)=A6 code.length fun k=>(M2 k).isSome:=C6 fun x hx=>by
     by_cases c:x=B
     ·subst c;simp only [D6,if_true,hMb];rfl
     ·simp only [D6,if_neg c]
    have hput: ∀e∈I4 (G6 N (D6 M2 B (G3 t (B4 N i a (B:Int) s)))) S2 l2,e=(1000000000000+B,S2 B,.rows 1 (A6 N fun r=>t.set r&&(B4 N i a (B:Int) s).set r))∨e∈A0.del (I4 (G6 N M2) S2 l2) (1000000000000+B):=fun e he=>by
     rcases B6H (F:=G6 N M2) (b:=B) (fun j _ hjB=>by simp only [G6,D6,if_neg hjB]) he with h|h
     ·left;rw [h];simp only [G6,D6,if_true,G3]
     ·exact .inr h
    have fin:=fun(ch':Bool) (hch:(ch'=false→D6 M2 B (G3 t (B4 N i a (B:Int) s))=M)∧(ch'=true→mu N code.length (D6 M2 B (G3 t (B4 N i a (B:Int) s)))<mu N code.length M)) sg m3=>ih2 sg (k+1,l2,S2,D6 M2 B (G3 t (B4 N i a (B:Int) s)),ch',m3) ⟨by simp only;omega,hKn,by simp only;rw [hstep,hst],hch.1,hch.2,by
     by_cases c:a=B
     ·exact⟨G3 t (B4 N i a (B:Int) s),by simp only [D6,if_pos c]⟩
     ·exact⟨s,by simp only [D6,if_neg c];exact hMa⟩⟩ (by simp only;omega)
    simp only [hrows,hbs]at fin
    rw [hMb]at hbB
    have hrB:(H1 N code.length S2 M2)[B]? =some [.sl (1000000000000+B) (S2 B) 0 N,.int .i64 t.opn,.isl (t.marks.map zrw)]:=by rw [A5d hBn];simp only [A1l,hMb]
    clear ih2 hrows hbs
    generalize H1 N code.length S2 M2=RR at*
    generalize (A6 code.length fun k=>(M2 k).isSome)=BR at*
    generalize I4 (G6 N (D6 M2 B (G3 t (B4 N i a (B:Int) s)))) S2 l2=fm2 at*
    generalize I4 (G6 N M2) S2 l2=fm at*
    generalize hFS:A6 N s.set=FSs at*
    have hap3: ∀(x:Nat),x<1000000000000→x≠(22*10000+20)∧x≠(22*10000+16)∧x≠(22*10000+1)→ ∀X2 X3 X4 y2 y3 y4,∀e∈(((22*10000+20),y2,X2)::((22*10000+16),y3,X3)::((22*10000+1),y4,X4)::fm:A0),e.1≠x:=by
     intro x hx ⟨d2,d3,d4⟩ X2 X3 X4 y2 y3 y4 e he
     simp only [List.mem_cons]at he
     rcases he with h|h|h|h
     ·rw [h];exact d2.symm
     ·rw [h];exact d3.symm
     ·rw [h];exact d4.symm
     ·have:=hfn0 e h;omega
    have hap4: ∀(x:Nat),x<1000000000000→x≠(22*10000+10)∧x≠(22*10000+20)∧x≠(22*10000+16)∧x≠(22*10000+1)→ ∀X1 X2 X3 X4 y1 y2 y3 y4,∀e∈(((22*10000+10),y1,X1)::((22*10000+20),y2,X2)::((22*10000+16),y3,X3)::((22*10000+1),y4,X4)::fm:A0),e.1≠x:=by
     intro x hx hd X1 X2 X3 X4 y1 y2 y3 y4 e he
     rcases List.mem_cons.1 he with h|h
     ·rw [h];exact hd.1.symm
     ·exact hap3 x hx hd.2 X2 X3 X4 y2 y3 y4 e h
    have htk:FSs.take N=FSs:=List.take_of_length_le (by omega)
    have hbqB: ∀k:Nat,k<1000000000000→(k=1000000000000+B)=False:=fun k h=>eq_false (by omega)
    have hbqB2: ∀k:Nat,k<1000000000000→(1000000000000+B=k)=False:=fun k h=>eq_false (by omega)
    have hch:((ch||(List.range N).any fun r=>t.set r&& !(B4 N i a (B:Int) s).set r)=false→D6 M2 B (G3 t (B4 N i a (B:Int) s))=M)∧((ch||(List.range N).any fun r=>t.set r&& !(B4 N i a (B:Int) s).set r)=true→mu N code.length (D6 M2 B (G3 t (B4 N i a (B:Int) s)))<mu N code.length M):=by
     cases hjc:(List.range N).any fun r=>t.set r&& !(B4 N i a (B:Int) s).set r with
     |true=>
      refine⟨fun h=>by simp at h,fun _=> ?_⟩
      have:=hj1 hjc
      cases ch with
      |true=>have:=hd2 rfl;omega
      |false=>rw [hc2 rfl]at this⊢;exact this
     |false=>
      rw [Bool.or_false,hj0 hjc]
      exact⟨hc2,hd2⟩
    have fin:=fin _ hch
    clear hch hj0 hj1
    have hdd:A0.del (A0.del fm (1000000000000+B)) (1000000000000+B)=A0.del fm (1000000000000+B):=List.filter_eq_self.2 fun e he=>(List.mem_filter.1 he).2
    have hRd:A0.del (((22*10000+20),2,Blk.rows 1 BR)::((22*10000+16),1,.rows 3 RR)::((22*10000+1),0,.rows 11 [pr])::A0.del fm (1000000000000+B)) (1000000000000+B)=((22*10000+20),2,Blk.rows 1 BR)::((22*10000+16),1,.rows 3 RR)::((22*10000+1),0,.rows 11 [pr])::A0.del fm (1000000000000+B):=by
     refine List.filter_eq_self.2 fun e he=> ?_
     simp only [List.mem_cons]at he
     rcases he with h|h|h|h
     ·rw [h];simp only;rw [B2n (by decide)];rfl
     ·rw [h];simp only;rw [B2n (by decide)];rfl
     ·rw [h];simp only;rw [B2n (by decide)];rfl
     ·exact(List.mem_filter.1 h).2
    simp -implicitDefEqProofs only [go_sem,h11,ht11,v0,v1,w0,w1,hnll,hnlz,hxr,hkl,lr,zr,hra,hlt,hfd,Option.some.injEq,forall_eq']
    refine⟨?_,?_⟩
    ·refine hcal _ _ _ 1 _ ?_ (102*10000+3) (hap4 _ (by decide) (by decide) _ _ _ _ _ _ _ _) (hap4 _ (by decide) (by decide) _ _ _ _ _ _ _ _) (hap4 _ (by decide) (by decide) _ _ _ _ _ _ _ _) ?_
     ·simp -implicitDefEqProofs only [go_sem,hsub,hfga,hsz,hsb,hlb,htk,hbqa,hbqa2]
     intro st n' hn'
     simp -implicitDefEqProofs only [go_sem,v0,v1,hnll,hnlz,hxr,hkl,u0,u1,hBn,lb,zb,hbB,Option.isSome_some,lr,zr,hrB,hfd,hbqB,hbqB2,Option.some.injEq,forall_eq']
     refine Run.keep [12,11,10,9,8,7,6,5,4,1] ?_
     refine Run.wk (B6.wk ?_) (B1R N B st m2 n' (S2 B) t.set (B4 N i a (B:Int) s).set (.int .i64 t.opn) (.isl (t.marks.map zrw)) (.int .i64 (B4 N i a (B:Int) s).opn) (.isl ((B4 N i a (B:Int) s).marks.map zrw)) (.int .i64 k) (.isl nls) (.int .i64 a) (.sl (22*10000+20) 2 0 code.length) (.sl (22*10000+16) 1 0 code.length) (.ptr (22*10000+1) 0 0 0) ch _ hN hRd (n'+1) ?_)
     ·refine B6.of (by simp -implicitDefEqProofs only [go_sem]) (fun e he=> ?_) (Nat.le_refl _)
      simp only [List.mem_cons]at he⊢
      rcases he with h|h|h|h|h|h|h|h
      ·simp only [h,eq_self,true_or,or_true]
      ·simp only [h,eq_self,true_or,or_true]
      ·simp only [h,eq_self,true_or,or_true]
      ·simp only [h,hmemB,eq_self,true_or,or_true]
      ·simp only [h,eq_self,true_or,or_true]
      ·simp only [h,eq_self,true_or,or_true]
      ·simp only [h,eq_self,true_or,or_true]
      ·simp only [(A0.mem_del.1 h).1,or_true]
     refine Run.go 100 ?_
     simp -implicitDefEqProofs only [go_sem,hfd]
     refine⟨⟨by omega,by omega⟩,fin _ (n'+1) (B6.wk (B6.of (by simp -implicitDefEqProofs only [go_sem,hzk]) (fun e he=> ?_) (Nat.le_refl _)))⟩
     simp only [List.mem_cons]at he⊢
     rcases he with h|h|h|h
     ·simp only [h,eq_self,true_or,or_true]
     ·simp only [h,eq_self,true_or,or_true]
     ·simp only [h,eq_self,true_or,or_true]
     ·rcases hput e h with h|h<;>simp only [h,eq_self,true_or,or_true]
    ·refine hcal _ _ _ 1 _ ?_ (102*10000+3) (hap3 _ (by decide) (by decide) _ _ _ _ _ _) (hap3 _ (by decide) (by decide) _ _ _ _ _ _) (hap3 _ (by decide) (by decide) _ _ _ _ _ _) ?_
     ·simp -implicitDefEqProofs only [go_sem,hsub,hfga,hsz,hsb,hlb,htk,hbqa,hbqa2]
     intro st n' hn'
     simp -implicitDefEqProofs only [go_sem,v0,v1,hnll,hnlz,hxr,hkl,u0,u1,hBn,lb,zb,hbB,Option.isSome_some,lr,zr,hrB,hfd,hbqB,hbqB2,Option.some.injEq,forall_eq']
     refine Run.keep [12,11,10,9,8,7,6,5,4,1] ?_
     refine Run.wk (B6.wk ?_) (B1R N B st n' (n'+1) (S2 B) t.set (B4 N i a (B:Int) s).set (.int .i64 t.opn) (.isl (t.marks.map zrw)) (.int .i64 (B4 N i a (B:Int) s).opn) (.isl ((B4 N i a (B:Int) s).marks.map zrw)) (.int .i64 k) (.isl nls) (.int .i64 a) (.sl (22*10000+20) 2 0 code.length) (.sl (22*10000+16) 1 0 code.length) (.ptr (22*10000+1) 0 0 0) ch _ hN hRd (n'+1+1) ?_)
     ·refine B6.of (by simp -implicitDefEqProofs only [go_sem]) (fun e he=> ?_) (Nat.le_refl _)
      simp only [List.mem_cons]at he⊢
      rcases he with h|h|h|h|h|h|h|h
      ·simp only [h,eq_self,true_or,or_true]
      ·simp only [h,eq_self,true_or,or_true]
      ·simp only [h,eq_self,true_or,or_true]
      ·simp only [h,hmemB,eq_self,true_or,or_true]
      ·simp only [h,eq_self,true_or,or_true]
      ·simp only [h,eq_self,true_or,or_true]
      ·simp only [h,eq_self,true_or,or_true]
      ·simp only [(A0.mem_del.1 h).1,or_true]
     refine Run.go 100 ?_
     simp -implicitDefEqProofs only [go_sem,hfd]
     refine⟨⟨by omega,by omega⟩,fin _ (n'+1+1) (B6.wk (B6.of (by simp -implicitDefEqProofs only [go_sem,hzk]) (fun e he=> ?_) (Nat.le_refl _)))⟩
     simp only [List.mem_cons]at he⊢
     rcases he with h|h|h|h
     ·simp only [h,eq_self,true_or,or_true]
     ·simp only [h,eq_self,true_or,or_true]
     ·simp only [h,eq_self,true_or,or_true]
     ·rcases hput e h with h|h<;>simp only [h,eq_self,true_or,or_true]
-- EV: Ins.v, Ins.row
attribute [local go_sem] Ins.v Ins.row
theorem B7o(S1 S2:List (List V))(o1 o2:Int)(m1 m2:List Int)(hm:m1.length≤1000000):
  Pure Tryz.prog 41 [.agg [.isl S1,.int .i64 o1,.isl (m1.map zrw)],.agg [.isl S2,.int .i64 o2,.isl (m2.map zrw)]] (.bool (decide (o1=o2)&&decide (m1=m2))):=by
 have la:(m1.map zrw).length=m1.length:=List.length_map ..
 have lb:(m2.map zrw).length=m2.length:=List.length_map ..
 have za:=F7 m1
 have zb:=F7 m2
 have ra: ∀(k:Nat) x,m1[k]? =some x→(m1.map zrw)[k]? =some [.int .i64 x]:=fun k x hk=>W8 hk
 have rb: ∀(k:Nat) x,m2[k]? =some x→(m2.map zrw)[k]? =some [.int .i64 x]:=fun k x hk=>W8 hk
 generalize m1.map zrw=A at*
 generalize m2.map zrw=B at*
 refine Pure.of 0 (A2.enter w9 (Nat.le_of_ble_eq_true rfl) (Run.go 100 ?_))
 by_cases ho:o1=o2
 case neg=>
  have e:decide (o1=o2)=false:=decide_eq_false ho
  simp -implicitDefEqProofs only [go_sem,A4,ho,e,Bool.false_and]
 have e:decide (o1=o2)=true:=decide_eq_true ho
 rw [e,Bool.true_and]
 by_cases hl:m1.length=m2.length
 case neg=>
  have hl':((m1.length:Int)=(m2.length:Int))=False:=eq_false (by omega)
  have hne: ¬m1=m2:=fun e=>hl (by rw [e])
  have e2:decide (m1=m2)=false:=decide_eq_false hne
  simp -implicitDefEqProofs only [go_sem,A4,ho,la,lb,hl',e2]
 have hl':((m1.length:Int)=(m2.length:Int))=True:=eq_true (by omega)
 simp -implicitDefEqProofs only [go_sem,A4,ho,la,lb,hl']
 refine Run.keep [5,4,3,2] ?_
 refine Run.rounds (fun(k:Nat)=>⟨[(5,.int .i64 k),(4,.bool false),(3,.ptr (41*10000+3) 1 0 0),(2,.ptr (41*10000+2) 0 0 0)],
   [((41*10000+3),1,.rows 3 [[.isl S2,.int .i64 o2,.isl B]]),((41*10000+2),0,.rows 3 [[.isl S1,.int .i64 o1,.isl A]])],2⟩) (fun k=>k≤m1.length∧m1.take k=m2.take k) (fun k=>m1.length-k) 0 (by simp -implicitDefEqProofs only [go_sem,ho]) ⟨Nat.zero_le _,rfl⟩ ?_
 rintro k ⟨hk,heq⟩ ih
 refine Run.unf A3n (Run.go 100 ?_)
 by_cases hlt:k<m1.length
 ·have q0:((k:Int)<(m1.length:Int))=True:=eq_true (by omega)
  have q1:((0:Int)≤(k:Int))=True:=eq_true (by omega)
  have q2:((k:Int)<(m2.length:Int))=True:=eq_true (by omega)
  obtain⟨x,hx⟩: ∃x,m1[k]? =some x:=⟨m1[k],by simp [hlt]⟩
  obtain⟨y,hy⟩: ∃y,m2[k]? =some y:=⟨m2[k]'(by omega),by simp [show k<m2.length by omega]⟩
  have hxr:=ra k x hx
  have hyr:=rb k y hy
  have hk2:k<m2.length:=by omega
  have hzk:((k+1:Nat):Int)=(k:Int)+1:=by omega
  by_cases hxy:x=y
  ·simp -implicitDefEqProofs only [go_sem,q0,q1,q2,la,lb,za,zb,hxr,hyr,hxy,hlt,hk2,Option.some.injEq,forall_eq']
   exact⟨⟨by omega,by omega⟩,ih _ (k+1) ⟨by omega,B3L heq hx (hxy ▸ hy)⟩ (by omega) (by simp -implicitDefEqProofs only [go_sem,hzk])⟩
  ·have e2:decide (m1=m2)=false:=decide_eq_false (C3L hx hy hxy)
   simp -implicitDefEqProofs only [go_sem,q0,q1,q2,la,lb,za,zb,hxr,hyr,hxy,hlt,hk2,Option.some.injEq,forall_eq',e2]
 ·have ek:k=m1.length:=by omega
  subst ek
  have e2:decide (m1=m2)=true:=decide_eq_true (C0a hl heq)
  simp -implicitDefEqProofs only [go_sem,la,Int.lt_irrefl,e2]
theorem C3S{f o:Int}{g:Int→Bool}(hf:0≤f){r:Nat}(hr:f+r<o)(h:g (f+r)=true):(A2B f o).any g=true:=by
 unfold A2B
 rw [if_pos hf]
 exact List.any_eq_true.2 ⟨f+r,List.mem_map.2 ⟨r,List.mem_range.2 (by omega),rfl⟩,h⟩
theorem B7X{f o:Int}{g:Int→Bool}(hf:0≤f)(h: ∀r:Nat,f+r<o→g (f+r)=false):(A2B f o).any g=false:=by
 unfold A2B
 rw [if_pos hf]
 refine List.any_eq_false.2 fun x hx=> ?_
 obtain⟨r,hr,rfl⟩:=List.mem_map.1 hx
 have:=List.mem_range.1 hr
 rw [h r (by omega)];simp
theorem B6g{f o:Int}{g:Int→Bool}(hf: ¬0≤f):(A2B f o).any g=false:=by unfold A2B;rw [if_neg hf];rfl
theorem B5V(N:Nat)(i:Ins)(s:Stt)(hN:N≤100000)(hrd: ∀r∈(reads i).1,0≤r∧r<N)(hal:(reads i).1.length≤1000000)(hr1: -1≤(reads i).2)(ho:s.opn≤N)(ho1: -1≤s.opn):
  Pure Tryz.prog 40 [.agg [.isl (A6 N s.set),.int .i64 s.opn,.isl (s.marks.map zrw)],i.v] (.bool (!A0q (reads i).2 s.opn||((reads i).1.any (fun r=> !s.set r.toNat)||(A2B (reads i).2 s.opn).any fun r=> !s.set r.toNat))):=by
 have hr:=B1S i
 have hbl:=C2 N s.set
 have hbz:=E6 N s.set
 have hba: ∀r,r<N→(A6 N s.set)[r]? =some [.bool (s.set r)]:=fun r h=>E5 h
 generalize A6 N s.set=FR at*
 generalize s.marks.map zrw=MR at*
 generalize s.opn=o at*
 generalize s.set=f at*
 generalize reads i=rr at*
 obtain⟨rs,fr⟩:=rr
 simp only at hr hrd hal hr1⊢
 have lr:(rs.map zrw).length=rs.length:=List.length_map ..
 have zr:=F7 rs
 have ar: ∀(k:Nat) x,rs[k]? =some x→(rs.map zrw)[k]? =some [.int .i64 x]:=fun k x hk=>W8 hk
 generalize rs.map zrw=RR at*
 simp only [Ins.v,Ins.row]at hr
 refine Pure.of 0 (A2.enter A0e (Nat.le_of_ble_eq_true rfl) (Run.go 100 ?_))
 simp -implicitDefEqProofs only [go_sem,A4]
 refine A2.pureF hr (by simp -implicitDefEqProofs only [go_sem]) ?_
 -- the open range
 by_cases hop:A0q fr o=true
 case neg=>
  have hop:A0q fr o=false:=by simpa using hop
  rw [hop,Bool.not_false,Bool.true_or]
  unfold A0q at hop
  by_cases c1:fr<0
  ·have c2:0≤o:=by
    refine Decidable.byContradiction fun h=> ?_
    have:(0≤fr↔0≤o):=⟨fun _=>by omega,fun _=>by omega⟩
    simp [this]at hop
    omega
   simp -implicitDefEqProofs only [go_sem,c1,c2,ge_iff_le]
  ·have c3:0≤fr:=by omega
   by_cases c4:o<0
   ·simp -implicitDefEqProofs only [go_sem,c1,c3,c4,ge_iff_le]
   ·have c5:o<fr:=by
     refine Decidable.byContradiction fun h=> ?_
     have h1:(0≤fr↔0≤o):=⟨fun _=>by omega,fun _=>by omega⟩
     have h2:fr≤o:=by omega
     simp [h1,h2]at hop
    simp -implicitDefEqProofs only [go_sem,c1,c3,c4,c5,ge_iff_le]
 rw [hop,Bool.not_true,Bool.false_or]
 have hopc:(fr<0∧ ¬0≤o∧ ¬0≤fr)∨(¬fr<0∧0≤fr∧ ¬o<0∧ ¬o<fr):=by
  unfold A0q at hop
  rw [Bool.and_eq_true]at hop
  obtain⟨h1,h2⟩:=hop
  have h1:=of_decide_eq_true h1
  have h2:=of_decide_eq_true h2
  by_cases c:fr<0
  ·exact .inl ⟨c,fun h=>by have:=h1.2 h;omega,by omega⟩
  ·have:=h1.1 (by omega)
   exact .inr ⟨c,by omega,by omega,by omega⟩
 rcases hopc with⟨c1,c2,c3⟩|⟨c1,c2,c3,c4⟩
 simp -implicitDefEqProofs only [go_sem,c1,c2,c3,ge_iff_le]
 rotate_left
 simp -implicitDefEqProofs only [go_sem,c1,c2,c3,c4,ge_iff_le]
 all_goals
  refine Run.keep [7,6,5,4,3,2] ?_
  refine Run.rounds (fun(k:Nat)=>⟨[(7,.int .i64 k),(6,.int .i64 fr),(5,.isl RR),(4,.bool false),(3,.ptr (40*10000+3) 1 0 0),(2,.ptr (40*10000+2) 0 0 0)],
    [((40*10000+3),1,.rows 5 [[.int .i64 i.op,.int .i64 i.a,.int .i64 i.b,.int .i64 i.c,.int .i64 i.d]]),((40*10000+2),0,.rows 3 [[.isl FR,.int .i64 o,.isl MR]])],2⟩) (fun k=>k≤rs.length∧(rs.take k).any (fun r=> !f r.toNat)=false) (fun k=>rs.length-k) 0 (by simp -implicitDefEqProofs only [go_sem]) ⟨Nat.zero_le _,rfl⟩ ?_
  rintro k ⟨hk,hno⟩ ih
  refine Run.unf A3r (Run.go 100 ?_)
  by_cases hlt:k<rs.length
  ·have q0:((k:Int)<(rs.length:Int))=True:=eq_true (by omega)
   have q1:((0:Int)≤(k:Int))=True:=eq_true (by omega)
   obtain⟨x,hx⟩: ∃x,rs[k]? =some x:=⟨rs[k],by simp [hlt]⟩
   have hxr:=ar k x hx
   obtain⟨hx0,hxN⟩:=hrd x (List.mem_of_getElem? hx)
   obtain⟨X,rfl⟩: ∃X:Nat,x=X:=⟨x.toNat,by omega⟩
   have hXN:X<N:=by omega
   have q2:((0:Int)≤(X:Int))=True:=eq_true (by omega)
   have q3:((X:Int)<(N:Int))=True:=eq_true (by omega)
   have hat:=hba X hXN
   have hzk:((k+1:Nat):Int)=(k:Int)+1:=by omega
   cases hfx:f X with
   |false=>
    rw [hfx]at hat
    have hyes:rs.any (fun r=> !f r.toNat)=true:=H6 hx (by simp [hfx])
    simp -implicitDefEqProofs only [go_sem,q0,q1,q2,q3,lr,zr,hxr,hlt,hbl,hbz,hat,hXN,hyes,Bool.true_or,Option.some.injEq,forall_eq']
   |true=>
    rw [hfx]at hat
    simp -implicitDefEqProofs only [go_sem,q0,q1,q2,q3,lr,zr,hxr,hlt,hbl,hbz,hat,hXN,Option.some.injEq,forall_eq']
    exact⟨⟨by omega,by omega⟩,ih _ (k+1) ⟨by omega,D0 hno hx (by simp [hfx])⟩ (by omega) (by simp -implicitDefEqProofs only [go_sem,hzk])⟩
  have ek:k=rs.length:=by omega
  subst ek
  have hno:=F6 hno
  rw [hno,Bool.false_or]
  by_cases hf:0≤fr
  case neg=>
   simp -implicitDefEqProofs only [go_sem,lr,Int.lt_irrefl,hf,ge_iff_le,B6g hf]
  simp -implicitDefEqProofs only [go_sem,lr,Int.lt_irrefl,hf,ge_iff_le]
  obtain⟨F,rfl⟩: ∃F:Nat,fr=F:=⟨fr.toNat,by omega⟩
  refine Run.keep [8,4,2] ?_
  refine Run.rounds (fun(x:Nat)=>⟨[(8,.int .i64 ((F+x:Nat):Int)),(4,.bool false),(2,.ptr (40*10000+2) 0 0 0)],
    [((40*10000+3),1,.rows 5 [[.int .i64 i.op,.int .i64 i.a,.int .i64 i.b,.int .i64 i.c,.int .i64 i.d]]),((40*10000+2),0,.rows 3 [[.isl FR,.int .i64 o,.isl MR]])],2⟩) (fun x=> ∀j:Nat,j<x→(F:Int)+j<o→(!f ((F:Int)+j).toNat)=false) (fun x=>o.toNat-(F+x)) 0 (by simp -implicitDefEqProofs only [go_sem,Nat.add_zero]) (fun j hj=>absurd hj (Nat.not_lt_zero _)) ?_
  intro x hx ih3
  refine Run.unf A3s (Run.go 100 ?_)
  by_cases hlx:((F+x:Nat):Int)<o
  ·have hXN:F+x<N:=by omega
   have q1:((0:Int)≤((F+x:Nat):Int))=True:=eq_true (by omega)
   have q3:(((F+x:Nat):Int)<(N:Int))=True:=eq_true (by omega)
   have hat:=hba (F+x) hXN
   have hzx:((F+(x+1):Nat):Int)=((F+x:Nat):Int)+1:=by omega
   cases hfx:f (F+x)with
   | false=>
    rw [hfx]at hat
    have hyes:(A2B (F:Int) o).any (fun r=> !f r.toNat)=true:=C3S hf (r:=x) (by omega) (by
     have:((F:Int)+(x:Int)).toNat=F+x:=by omega
     rw [this,hfx];rfl)
    simp -implicitDefEqProofs only [go_sem,hlx,q1,q3,hbl,hbz,hat,hXN,hyes,Option.some.injEq,forall_eq']
   | true=>
    rw [hfx]at hat
    simp -implicitDefEqProofs only [go_sem,hlx,q1,q3,hbl,hbz,hat,hXN,Option.some.injEq,forall_eq']
    refine⟨⟨by omega,by omega⟩,ih3 _ (x+1) (fun j hj hjo=> ?_) (by omega) (by simp -implicitDefEqProofs only [go_sem,hzx])⟩
    by_cases c:j=x
    ·subst c
     have:((F:Int)+(j:Int)).toNat=F+j:=by omega
     rw [this,hfx];rfl
    ·exact hx j (by omega) hjo
  ·have hno2:(A2B (F:Int) o).any (fun r=> !f r.toNat)=false:=B7X hf fun r hr=>hx r (by omega) hr
   simp -implicitDefEqProofs only [go_sem,hlx,hno2]
end Go.Proofs.YtnihmhbcjpcobaaGreatDoor
