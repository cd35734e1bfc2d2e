/-
 What peephole.each answers. No condition.
-/
import Derived.Test.YtcaaenddpjepiaaGreatDoorFnCk
import Derived.Test.YtcaaenddpjepiaaGreatDoorFnMb
import Derived.Test.YtcaaenddpjepiaaGreatDoorVerP2
import Derived.Test.YtcaaenddpjepiaaGreatDoorRvA
import Derived.Test.YtcaaenddpjepiaaGreatDoorVerP1
set_option linter.unusedVariables false
set_option linter.unusedSimpArgs false
set_option maxRecDepth 1000000
set_option maxHeartbeats 0
namespace Go.Proofs.YtcaaenddpjepiaaGreatDoor
section
open Go.Abs
attribute [local irreducible] A0 Run V5
def Upv.bare(u:Upv):Upv:=⟨[],u.loc,u.idx⟩
mutual
def Fn.strip:Fn→Fn
 |⟨_,_,params,vararg,regs,code,_,consts,protos,ups,_⟩=>⟨[],0,params,vararg,regs,code,[],consts,Fn.strips protos,ups.map Upv.bare,[]⟩
def Fn.strips:List Fn→List Fn
 | []=> []
 |p::r=>Fn.strip p::Fn.strips r
end
theorem Fn.strips_map: ∀l:List Fn,Fn.strips l=l.map Fn.strip
 | []=>rfl
 |p::r=>by rw [Fn.strips,Fn.strips_map r];rfl
theorem Fn.strip_eq(p:Fn):p.strip=⟨[],0,p.params,p.vararg,p.regs,p.code,[],p.consts,p.protos.map Fn.strip,p.ups.map Upv.bare,[]⟩:=by
 obtain⟨a,b,c,d,e,f,g,h,i,j,k⟩:=p
 rw [Fn.strip,Fn.strips_map]
theorem A5U: ∀{l:List Int},J5 l=0↔ ∀x∈l,x=0
 | []=>by simp [J5]
 |x::r=>by
  rw [J5]
  split
  ·rename_i h;rw [A5U,List.forall_mem_cons];simp [h]
  ·rename_i h;rw [List.forall_mem_cons];simp [h]
theorem A9T(p:Fn):L5 p=0↔p.depth≤64∧ ∀q∈p.each,A3b q=0:=by
 unfold L5 B1r
 split
 ·rename_i h;constructor
  ·intro h;omega
  ·intro h;omega
 ·rename_i h
  rw [A5U]
  simp only [List.mem_map,forall_exists_index,and_imp,forall_apply_eq_imp_iff₂]
  exact⟨fun a=>⟨by omega,a⟩,fun a=>a.2⟩
theorem Fn.depth_within(p:Fn): ∀q∈p.each,q.depth≤p.depth:=by
 induction p using Fn.ind with
 | h p i=>
  intro q a
  rw [Fn.each_eq]at a
  rcases List.mem_cons.1 a with rfl|a
  ·exact Nat.le_refl _
  ·obtain⟨r,b,a⟩:=Fn.mem_eachs.1 a
   have d:=i r b q a
   have c:=Fn.depths_mem b
   rw [Fn.depth_eq p]
   omega
theorem B4k{p q:Fn}(h:L5 p=0)(a:q∈p.each):L5 q=0:=by
 rw [A9T]at h⊢
 have:=Fn.depth_within p q a
 exact⟨by omega,fun x b=>h.2 x (Fn.each_trans p q a x b)⟩
theorem Fn.eachs_strip: ∀(l:List Fn),(∀q∈l,q.strip.each=q.each.map Fn.strip)→Fn.eachs (l.map Fn.strip)=(Fn.eachs l).map Fn.strip
 | [],_=>rfl
 |p::r,h=>by
  rw [List.map_cons,Fn.eachs,Fn.eachs,List.map_append,h p List.mem_cons_self,Fn.eachs_strip r fun q a=>h q (List.mem_cons_of_mem _ a)]
theorem Fn.strip_each(p:Fn):p.strip.each=p.each.map Fn.strip:=by
 induction p using Fn.ind with
 |h p i=>
  rw [Fn.each_eq p,Fn.each_eq p.strip,List.map_cons]
  congr 1
  rw [Fn.strip_eq p]
  exact Fn.eachs_strip p.protos i
theorem Fn.Le.strip{p:Fn}(h:p.Le):p.strip.Le:=by
 rw [Fn.strip_eq]
 exact⟨h.code,Nat.zero_le _,h.consts,by simpa using h.protos,by simpa using h.ups,Nat.zero_le _⟩
theorem Fn.bd.strip{p:Fn}(h:p.bd):p.strip.bd:=fun q a=>by
 rw [Fn.strip_each]at a
 obtain⟨x,b,rfl⟩:=List.mem_map.1 a
 exact(h x b).strip
end
section
open Go.Abs
attribute [local irreducible] A0 Run
-- EV: Ins.v, Ins.row
attribute [local go_sem] Ins.v Ins.row
theorem L1.mapF{es e:List (V×V)}(h:e.length=es.length)(d: ∀(i:Nat) a,e[i]? =some a→ ∃p,es[i]? =some p∧I3 p.1 a.1∧I3 p.2 a.2):L1 (.map es) (.map e):=by
 rintro E w ⟨o,b,c,n,v,u,f⟩
 refine⟨o,b,c,n,v.trans h.symm,fun i a m l t=> ?_,f⟩
 obtain⟨p,s,g,r⟩:=d i a l
 obtain⟨q,j,k⟩:=u i p m s t
 exact⟨g _ _ q,r _ _ j,k⟩
theorem Wk.sub'{r:V}{h h2:A2}{n:Nat}(b: ∀e∈h2,e∈h):Wk ⟨[(0,r)],h,n⟩ ⟨[(0,r)],h2,n⟩:=C1.wk ⟨fun p a=>by rw [List.mem_singleton.1 a];rfl,b,Nat.le_refl _⟩
structure Kn(N n:Nat)(l:List Nat)(M:Nat→Option Stt):Prop where
 nd:l.Nodup
 mem: ∀k,k∈l↔(M k).isSome=true
 lt: ∀k∈l,k<n
 out: ∀k s,M k=some s→ ∀r,N≤r→s.set r=false
 ml: ∀k s,M k=some s→s.marks.length≤l.length
theorem Kn.len{N n:Nat}{l:List Nat}{M:Nat→Option Stt}(h:Kn N n l M):l.length≤n:=by
 have:=B6B l (List.range n) h.nd fun x a=>List.mem_range.2 (h.lt x a)
 simpa using this
theorem Kn.no{N n:Nat}{l:List Nat}{M:Nat→Option Stt}(h:Kn N n l M){k:Nat}(a:M k=none):k∉l:=fun b=>by
 have:=(h.mem k).1 b
 rw [a]at this;cases this
theorem Kn.yes{N n:Nat}{l:List Nat}{M:Nat→Option Stt}(h:Kn N n l M){k:Nat}{s:Stt}(a:M k=some s):k∈l:=(h.mem k).2 (by rw [a];rfl)
theorem A9X(i:Ins)(m:List Int):(I7 i m).length≤m.length+1:=by
 unfold I7
 split
 ·simp
 split
 ·exact Nat.le_trans (List.length_filter_le _ _) (Nat.le_succ _)
 ·exact Nat.le_succ _
theorem Kn.new{N n:Nat}{l:List Nat}{M:Nat→Option Stt}(h:Kn N n l M){b:Nat}{s:Stt}(p:M b=none)(f:b<n)(o: ∀r,N≤r→s.set r=false)(j:s.marks.length≤l.length+1):Kn N n (l++ [b]) (H0 M b s):=by
 refine⟨?_,fun k=> ?_,fun k d=> ?_,fun k t a r g=> ?_,fun k t a=> ?_⟩
 ·refine List.nodup_append.2 ⟨h.nd,by simp,fun x i y m=> ?_⟩
  rw [List.mem_singleton.1 m]
  intro e;subst e
  exact h.no p i
 ·unfold H0
  by_cases c:k=b
  ·subst c;simp
  ·rw [if_neg c,←h.mem k];simp [c]
 ·rcases List.mem_append.1 d with d|d
  ·exact h.lt k d
  ·rw [List.mem_singleton.1 d];exact f
 ·unfold H0 at a
  by_cases c:k=b
  ·rw [if_pos c]at a;injection a with a;subst a;exact o r g
  ·rw [if_neg c]at a;exact h.out k t a r g
 ·rw [List.length_append,List.length_singleton]
  unfold H0 at a
  by_cases c:k=b
  ·rw [if_pos c]at a;injection a with a;subst a;exact j
  ·rw [if_neg c]at a;have:=h.ml k t a;omega
theorem Kn.join{N n:Nat}{l:List Nat}{M:Nat→Option Stt}(h:Kn N n l M){b:Nat}{t o:Stt}(e:M b=some t):Kn N n l (H0 M b (M7 t o)):=by
 refine⟨h.nd,fun k=> ?_,h.lt,fun k d a r f=> ?_,fun k d a=> ?_⟩
 ·unfold H0
  by_cases c:k=b
  ·subst c;simp;exact h.yes e
  ·rw [if_neg c];exact h.mem k
 ·unfold H0 at a
  by_cases c:k=b
  ·rw [if_pos c]at a;injection a with a;subst a
   simp only [M7];rw [h.out b t e r f];rfl
  ·rw [if_neg c]at a;exact h.out k d a r f
 ·unfold H0 at a
  by_cases c:k=b
  ·rw [if_pos c]at a;injection a with a;subst a;exact h.ml b t e
  ·rw [if_neg c]at a;exact h.ml k d a
theorem Kn.zero{N n:Nat}{params:Int}(b:0<n):Kn N n [0] (M0 N params):=by
 refine⟨by simp,fun k=> ?_,fun k a=>by rw [List.mem_singleton.1 a];exact b,fun k s h r d=> ?_,fun k s h=> ?_⟩
 ·unfold M0
  by_cases c:k=0<;>simp [c]
 ·unfold M0 at h
  by_cases c:k=0
  ·rw [if_pos c]at h;injection h with h;subst h
   have: ¬r<N:=by omega
   simp [A9F,this]
  ·rw [if_neg c]at h;cases h
 ·unfold M0 at h
  by_cases c:k=0
  ·rw [if_pos c]at h;injection h with h;subst h;simp [A9F]
  ·rw [if_neg c]at h;cases h
theorem B8r{N n:Nat}{l:List Nat}{M:Nat→Option Stt}(h:Kn N n l M){b:Nat}{t o:Stt}(e:M b=some t)(c:b<n):
  ((List.range N).any (fun r=>t.set r&& !o.set r)=false→H0 M b (M7 t o)=M)∧((List.range N).any (fun r=>t.set r&& !o.set r)=true→mu N n (H0 M b (M7 t o))<mu N n M):=by
 refine⟨fun f=> ?_,fun g=> ?_⟩
 ·rw [B6j (N:=N) (fun r a i=> ?_) (h.out b t e),B8Y e]
  have:=List.any_eq_false.1 f r (List.mem_range.2 a)
  cases ho:o.set r with
  |true=>rfl
  |false=>simp [i,ho]at this
 ·obtain⟨r,a,d⟩:=List.any_eq_true.1 g
  rw [Bool.and_eq_true]at d
  exact C5m c e (List.mem_range.1 a) d.1 (by simpa using d.2)
theorem C2K(N:Nat)(code:List Ins)(params:Int)(A:List V)(G:A.length=11)(q:A.take 11=A)(h5:A[5]? =some (.isl (code.map Ins.row)))(h4:A[4]? =some (.int .i64 N))(h2:A[2]? =some (.int .i64 params))(hsub: ∀d h,A.map (frz d h)=A)
  (hc:code.length≤100000) (hc0:0<code.length) (hN:N≤100000) (hp0:0≤params) (hp1:params≤N) (hfit: ∀i∈code,Fit N i) (n:Nat):
  A0 Tryz.prog 110 [.agg A,.isl ((F8 code).map A4i)] [] n fun r I n'=> ∃w L,r= .mp (110*10000+14) w∧I= [((110*10000+14),w,.map (Q7 L (n7 N (stM N code params))))]∧Kn N code.length L (stM N code params)∧A0T N code params (stM N code params):=by
 have hent:=C3p A G q N params h4 h2 N rfl hN hp0 hp1
 have hpl: ∀(a:Nat) (i:Ins) (ha:code[a]? =some i) (b:Int) (s:Stt) (hm:s.marks.length≤1000000),_:=fun a i ha b s hm=>B4F N code A G q h5 a i ha b zd s hN (hfit i (List.mem_of_getElem? ha)) hm
 have lE:((F8 code).map A4i).length=(F8 code).length:=List.length_map ..
 have zE:=A8v A4i 2 (fun _=>rfl) (F8 code)
 have rE: ∀(k:Nat) e,(F8 code)[k]? =some e→((F8 code).map A4i)[k]? =some [.int .i64 (e.1:Nat),.int .i64 e.2]:=fun k e Z=>by rw [List.getElem?_map,Z];rfl
 have hElen:(F8 code).length≤2*code.length:=B5V code code.length
 have hEin:=fun e (h:e∈F8 code)=>A9W h
 generalize hE:(F8 code).map A4i=ER at*
 refine A0.enterK A7X Jk fun Q hQ=>Run.go 100 ?_
 simp -implicitDefEqProofs only [go_sem,A4,G,q]
 refine A0.at [] [0,1] (hent _) rfl rfl ?_
 rintro r I n1 hn1 ⟨W,rfl,rfl⟩
 simp -implicitDefEqProofs only [go_sem,G,q]
 refine Run.keep [6,5,2,1] ?_
 have hkn:=fun l M (Z:Kn N code.length l M)=>Z.len
 refine Run.roundsK (fun(x:List Nat×(Nat→Nat)×(Nat→Option Stt)×Bool×Nat)=>⟨[(6,.bool x.2.2.2.1),(5,.mp (110*10000+14) (n+1)),(2,.ptr (110*10000+2) n 0 0),(1,.isl ER)],
   ((110*10000+14),n+1,.map (Q7 x.1 (V8 N x.2.1 x.2.2.1)))::((110*10000+2),n,.rows 11 [A])::O6 (K7 N x.2.2.1) x.2.1 x.1,x.2.2.2.2⟩)
  (fun x=>Kn N code.length x.1 x.2.2.1∧(∃j,x.2.2.1=A3h N code params j)∧(x.2.2.2.1=false→A5r N code x.2.2.1=x.2.2.1)) (fun x=>2*mu N code.length x.2.2.1+(if x.2.2.2.1 then 1 else 0)) ([0],(fun _=>W),M0 N params,true,n1) ?_ ⟨Kn.zero hc0,⟨0,rfl⟩,fun h=>absurd h zf⟩ ?_
 ·have e0:Q7 [0] (V8 N (fun _=>W) (M0 N params))= [(.int .i64 0,.agg [.sl (1000000000000+0) W 0 N,.int .i64 (-1),.isl []])]:=rfl
  have e1:O6 (K7 N (M0 N params)) (fun _=>W) [0]= [(1000000000000+0,W,.rows 1 (B0 N (A9F N params).set))]:=rfl
  simp only [e0,e1]
  refine .turn (fun x=>if x=(152*10000+7)then 1000000000000+0 else x) ⟨.refl _,.refl _,.refl _,.refl _,trivial⟩ (.at 0 rfl rfl (L1.mapF rfl fun i p2 hi=> ?_) (.at 2 rfl rfl (.refl _) (.at 1 rfl rfl (.refl _) trivial)))
  cases i with
  |zero=>
   simp only [List.getElem?_cons_zero,Option.some.injEq]at hi
   subst hi
   exact⟨_,rfl,.refl _,.agg ⟨.sl,.refl _,.refl _,trivial⟩⟩
  |succ i=>simp at hi
 rintro⟨l,S,M,ch,m⟩ ⟨hK,hit,hfix⟩ ih
 simp only at hK hit hfix ih⊢
 refine Run.unf A4C (Run.go 100 ?_)
 cases ch with
 | false=>
  have u:A0T N code params M:=by
   obtain⟨j,hj⟩:=hit
   exact⟨j,hj,hfix rfl⟩
  refine QL ?_
  have hS:=C4v u
  subst hQ
  refine .to (n2:=m) ⟨n+1,l,rfl,rfl,hS ▸ hK,hS ▸ u⟩ ?_
  rw [←hS]
  have w1:Wk ⟨[(0,.mp (110*10000+14) (n+1))],((110*10000+14),n+1,.map (Q7 l (V8 N S M)))::((110*10000+2),n,.rows 11 [A])::O6 (K7 N M) S l,m⟩
    ⟨[(0,.mp (110*10000+14) (n+1))],((110*10000+14),n+1,.map (Q7 l fun k=>if k∈l then V8 N S M k else n7 N M k))::O6 (K7 N M) S l,m⟩:=by
   have:(Q7 l fun k=>if k∈l then V8 N S M k else n7 N M k)=Q7 l (V8 N S M):=B1C fun x X=>by rw [if_pos X]
   rw [this]
   refine Wk.sub' fun e f=> ?_
   simp only [List.mem_cons]at f⊢
   rcases f with h|h<;>simp only [h,eq_self,true_or,or_true]
  exact w1.trans (B6d N _ _ _ zh S M l (fun k Z=>(hK.mem k).1 Z) l hK.nd fun k Z=>Z)
 | true=>
  simp -implicitDefEqProofs only [go_sem,lE]
  refine Run.keep [21,20,19,6,5,2,1] ?_
  refine Run.roundsK (fun(y:Nat×List Nat×(Nat→Nat)×(Nat→Option Stt)×Bool×Nat)=>⟨[(21,.int .i64 y.1),(20,.int .i64 (F8 code).length),(19,.isl ER),(6,.bool y.2.2.2.2.1),(5,.mp (110*10000+14) (n+1)),(2,.ptr (110*10000+2) n 0 0),(1,.isl ER)],
    ((110*10000+14),n+1,.map (Q7 y.2.1 (V8 N y.2.2.1 y.2.2.2.1)))::((110*10000+2),n,.rows 11 [A])::O6 (K7 N y.2.2.2.1) y.2.2.1 y.2.1,y.2.2.2.2.2⟩)
   (fun y=>y.1≤(F8 code).length∧Kn N code.length y.2.1 y.2.2.2.1∧y.2.2.2.1=((F8 code).take y.1).foldl (G6 N code) M∧(y.2.2.2.2.1=false→y.2.2.2.1=M)∧(y.2.2.2.2.1=true→mu N code.length y.2.2.2.1<mu N code.length M)) (fun y=>(F8 code).length-y.1) (0,l,S,M,false,m) (C1.wk (C1.of ze (fun e f=>f) ze)) ⟨Nat.zero_le _,hK,rfl,fun _=>rfl,fun h=>absurd h zf⟩ ?_
  rintro⟨k,g,S1,M1,ch,m1⟩ ⟨Z,p,hM1,E,H⟩ ih2
  simp only at Z p hM1 E H ih2⊢
  refine Run.unf A0S (Run.go 100 ?_)
  by_cases hlk:k<(F8 code).length
  case neg=>
   have ek:k=(F8 code).length:=by omega
   subst ek
   rw [List.take_length]at hM1
   have hrd:M1=A5r N code M:=hM1
   refine QN ?_
   refine ih _ (g,S1,M1,ch,m1) ⟨p,?_,fun h=> ?_⟩ ?_ (C1.wk (C1.of ze (fun e f=>f) (Nat.le_refl _)))
   ·obtain⟨j,hj⟩:=hit
    exact⟨j+1,by rw [A3h,←hj];exact hrd⟩
   ·simp only at h⊢
    rw [E h]at hrd⊢;exact hrd.symm
   ·simp only
    cases ch with
    |true=>have:=H rfl;simp;omega
    |false=>rw [E rfl];simp
  have w0:((k:Int)<((F8 code).length:Int))=True:=Ji
  have w1:((0:Int)≤(k:Int))=True:=Ji
  obtain⟨⟨a,b⟩,X⟩: ∃e,(F8 code)[k]? =some e:=⟨(F8 code)[k],by simp [hlk]⟩
  have hxr:=rE k _ X
  obtain⟨han,hbx,hb0,hbn⟩:=hEin _ (List.mem_of_getElem? X)
  simp only at hxr han hbx hb0 hbn
  obtain⟨B,rfl⟩: ∃B:Nat,b=B:=⟨b.toNat,by omega⟩
  have hBn:B<code.length:=by omega
  obtain⟨i,hi⟩: ∃i,code[a]? =some i:=⟨code[a],by simp [han]⟩
  have hins:G5 code a=i:=by unfold G5;rw [List.getD_eq_getElem?_getD,hi];rfl
  have D:((F8 code).take (k+1)).foldl (G6 N code) M=G6 N code M1 (a,(B:Int)):=by rw [List.take_add_one,X,List.foldl_append,←hM1];rfl
  have hzk:((k+1:Nat):Int)=(k:Int)+1:=by omega
  have K: ∀z:Int,A5X (.int .i64 z) (Q7 g (V8 N S1 M1))=True:=fun z=>eq_true ((B3K _ _).ok z)
  have T:=fun(b:Nat) hb=>B5Y (F:=K7 N M1) (S:=S1) (l:=g) (b:=b) hb
  cases hMa:M1 a with
  |none=>
   have Y:=B9O (F:=V8 N S1 M1) (p.no hMa)
   have u:G6 N code M1 (a,(B:Int))=M1:=by simp only [G6,hMa]
   have fin:=fun s m2=>ih2 s (k+1,g,S1,M1,ch,m2) ⟨by simp only;omega,p,by simp only;rw [D,u],E,H⟩ zg
   simp only at fin
   generalize Q7 g (V8 N S1 M1)=es at*
   generalize O6 (K7 N M1) S1 g=fm at*
   simp -implicitDefEqProofs only [go_sem,w0,w1,lE,zE,hxr,hlk,Y,K,T,Option.some.injEq,forall_eq']
   refine⟨by omega,fin _ (m1+1+1) (C1.wk (C1.of zp (fun e f=> ?_) (Nat.le_refl _)))⟩
   simp only [List.mem_cons]at f⊢
   rcases f with h|h|h<;>simp only [h,eq_self,true_or,or_true]
  | some s=>
   have hal1:=p.yes hMa
   have Y:u7 (.int .i64 (a:Nat)) (Q7 g (V8 N S1 M1))=some (.agg [.sl (1000000000000+a) (S1 a) 0 N,.int .i64 s.opn,.isl (s.marks.map zrw)]):=by
    rw [B2C hal1];simp only [V8,hMa,A4s]
   have hfg:A2.get (O6 (K7 N M1) S1 g) (1000000000000+a) (S1 a)=some (.rows 1 (B0 N s.set)):=by
    rw [B5Z hal1];simp only [K7,hMa]
   have hbqa: ∀k:Nat,k<1000000000000→(k=1000000000000+a)=False:=fun k h=>eq_false zd
   have R: ∀k:Nat,k<1000000000000→(1000000000000+a=k)=False:=fun k h=>eq_false zd
   have hml:=p.ml a s hMa
   have hll:=p.len
   have hcal:=hpl a i hi (B:Int) s zd
   have hsz:=fun d h=>(G8 (d:=d) (h:=h)).elim fun φ e=>show (s.marks.map zrw).map (fun r=>r.map (frz d h))=s.marks.map zrw by rw [e];exact W9 φ _
   have hsb:=fun d h=>(G8 (d:=d) (h:=h)).elim fun φ e=>show (B0 N s.set).map (fun r=>r.map (frz d h))=B0 N s.set by rw [e];exact U1 φ _ _
   have hlb:=D6 N s.set
   have hout:=fun r (hr:N≤r)=>B0I (N:=N) (i:=i) (a:=a) (b:=(B:Int)) (s:=s) hr
   have hmlo:(C9 N i a (B:Int) s).marks.length≤g.length+1:=by rw [A1M];have:=A9X i s.marks;omega
   have v: ∀e∈O6 (K7 N M1) S1 g,1000000000000≤e.1:=fun e f=>by obtain⟨j,_,rfl⟩:=u5.1 f;simp only [t6];omega
   cases hMb:M1 B with
   | none=>
    have O:=p.no hMb
    have hfb:=B9O (F:=V8 N S1 M1) O
    have u:G6 N code M1 (a,(B:Int))=H0 M1 B (C9 N i a (B:Int) s):=by simp only [G6,hMa,Int.toNat_natCast,hMb,hins]
    have hKn:=p.new hMb hBn hout hmlo
    have hmu:=C3P (N:=N) (s:=C9 N i a (B:Int) s) hBn hMb
    have hmset: ∀w,A7b (.int .i64 (B:Nat)) (A4s (.sl (1000000000000+B) w 0 N) (C9 N i a (B:Int) s)) (Q7 g (V8 N S1 M1))=Q7 (g++ [B]) (V8 N (fun j=>if j=B then w else S1 j) (H0 M1 B (C9 N i a (B:Int) s))):=fun w=>by
     refine C1z O (fun x X=> ?_) ?_
     ·have hxB:x≠B:=fun e=>O (e ▸ X)
      simp only [V8,H0,if_neg hxB]
     ·simp only [V8,H0,if_true]
    have hfam: ∀w,O6 (K7 N (H0 M1 B (C9 N i a (B:Int) s))) (fun j=>if j=B then w else S1 j) (g++ [B])=O6 (K7 N M1) S1 g++ [(1000000000000+B,w,.rows 1 (B0 N (C9 N i a (B:Int) s).set))]:=fun w=>by
     rw [B8i (F:=K7 N M1) (S:=S1) fun j hj=> ?_]
     ·simp only [K7,H0,if_true]
     ·have hjB:j≠B:=fun e=>O (e ▸ hj)
      simp only [K7,H0,if_neg hjB,and_self]
    have hfn: ∀e∈O6 (K7 N M1) S1 g,e.1≠1000000000000+B:=fun e f=>by
     obtain⟨j,hj,rfl⟩:=u5.1 f
     have hjB:j≠B:=fun e=>O (e ▸ hj)
     simp only [t6];omega
    have fin:=fun sg w m2=>ih2 sg (k+1,g++ [B],(fun j=>if j=B then w else S1 j),H0 M1 B (C9 N i a (B:Int) s),true,m2) ⟨by simp only;omega,hKn,by simp only;rw [D,u],fun h=>absurd h zf,fun _=>by
     simp only
     cases ch with
     |true=>have:=H rfl;omega
     |false=>rw [E rfl]at hmu⊢;exact hmu⟩ zg
    simp only [hfam,←hmset]at fin
    generalize hes:Q7 g (V8 N S1 M1)=es at*
    generalize O6 (K7 N M1) S1 g=fm at*
    generalize B0 N s.set=U at*
    simp -implicitDefEqProofs only [go_sem,w0,w1,lE,zE,hxr,hlk,Y,K,T,G,q,Option.some.injEq,forall_eq']
    have C: ∀(x:Nat),(x<1000000000000→x≠(110*10000+9)∧x≠(110*10000+8)∧x≠(110*10000+14)∧x≠(110*10000+2))→(∀e∈fm,e.1≠x)→ ∀X1 X2 X3 X4 y1 y2 y3 y4,∀e∈(((110*10000+9),y1,X1)::((110*10000+8),y2,X2)::((110*10000+14),y3,X3)::((110*10000+2),y4,X4)::fm:A2),e.1≠x:=by
     intro x X hxf X1 X2 X3 X4 y1 y2 y3 y4 e f
     simp only [List.mem_cons]at f
     by_cases c:x<1000000000000
     ·obtain⟨d1,d2,d3,d4⟩:=X c
      rcases f with h|h|h|h|h
      ·rw [h];exact d1.symm
      ·rw [h];exact d2.symm
      ·rw [h];exact d3.symm
      ·rw [h];exact d4.symm
      ·exact hxf e h
     ·rcases f with h|h|h|h|h
      ·exact YO
      ·exact YO
      ·exact YO
      ·exact YO
      ·exact hxf e h
    refine hcal _ _ _ 1 _ ?_ (1000000000000+B) (C _ (fun h=>by omega) hfn _ _ _ _ _ _ _ _) (C _ (fun h=>by decide) (fun e f=>by have:=v e f;omega) _ _ _ _ _ _ _ _) (C _ (fun h=>by decide) (fun e f=>by have:=v e f;omega) _ _ _ _ _ _ _ _) ?_
    ·exact Yd
    intro w n' hn'
    have hbqB: ∀k:Nat,k<1000000000000→(k=1000000000000+B)=False:=fun k h=>eq_false zd
    have J: ∀k:Nat,k<1000000000000→(1000000000000+B=k)=False:=fun k h=>eq_false zd
    simp -implicitDefEqProofs only [go_sem,K,hfb,T,hbqB,J,A4s]
    refine⟨by omega,fin _ w (n'+1+1) (C1.wk (C1.of zp (fun e f=> ?_) (Nat.le_refl _)))⟩
    simp only [A4s,List.mem_cons,List.mem_append,List.not_mem_nil,or_false]at f⊢
    rcases f with h|h|h|h<;>simp only [h,eq_self,true_or,or_true]
   | some t=>
    have hbl1:=p.yes hMb
    have hfb:u7 (.int .i64 (B:Nat)) (Q7 g (V8 N S1 M1))=some (.agg [.sl (1000000000000+B) (S1 B) 0 N,.int .i64 t.opn,.isl (t.marks.map zrw)]):=by
     rw [B2C hbl1];simp only [V8,hMb,A4s]
    have hmemB:(1000000000000+B,S1 B,Blk.rows 1 (B0 N t.set))∈O6 (K7 N M1) S1 g:=u5.2 ⟨B,hbl1,by simp only [t6,K7,hMb]⟩
    have u:G6 N code M1 (a,(B:Int))=H0 M1 B (M7 t (C9 N i a (B:Int) s)):=by simp only [G6,hMa,Int.toNat_natCast,hMb,hins]
    have hKn:=p.join (o:=C9 N i a (B:Int) s) hMb
    obtain⟨hj0,hj1⟩:=B8r (o:=C9 N i a (B:Int) s) p hMb hBn
    have hcells:Q7 g (V8 N S1 (H0 M1 B (M7 t (C9 N i a (B:Int) s))))=Q7 g (V8 N S1 M1):=B1C fun x X=>by
     by_cases c:x=B
     ·subst c;simp only [V8,H0,if_true,hMb,M7,A4s]
     ·simp only [V8,H0,if_neg c]
    have hput: ∀e∈O6 (K7 N (H0 M1 B (M7 t (C9 N i a (B:Int) s)))) S1 g,e=(1000000000000+B,S1 B,.rows 1 (B0 N fun r=>t.set r&&(C9 N i a (B:Int) s).set r))∨e∈A2.del (O6 (K7 N M1) S1 g) (1000000000000+B):=fun e f=>by
     rcases C1d (F:=K7 N M1) (b:=B) (fun j _ hjB=>by simp only [K7,H0,if_neg hjB]) f with h|h
     ·left;rw [h];simp only [K7,H0,if_true,M7]
     ·exact .inr h
    have fin:=fun(ch':Bool) (hch:(ch'=false→H0 M1 B (M7 t (C9 N i a (B:Int) s))=M)∧(ch'=true→mu N code.length (H0 M1 B (M7 t (C9 N i a (B:Int) s)))<mu N code.length M)) sg m2=>ih2 sg (k+1,g,S1,H0 M1 B (M7 t (C9 N i a (B:Int) s)),ch',m2) ⟨by simp only;omega,hKn,by simp only;rw [D,u],hch.1,hch.2⟩ zg
    simp only [hcells]at fin
    have hjc:=C6B N t.set (C9 N i a (B:Int) s).set hN B (S1 B)
    generalize ((List.range N).any fun r=>t.set r&& !(C9 N i a (B:Int) s).set r)=jc at*
    generalize hes:Q7 g (V8 N S1 M1)=es at*
    generalize O6 (K7 N (H0 M1 B (M7 t (C9 N i a (B:Int) s)))) S1 g=fm2 at*
    generalize O6 (K7 N M1) S1 g=fm at*
    generalize B0 N s.set=U at*
    simp -implicitDefEqProofs only [go_sem,w0,w1,lE,zE,hxr,hlk,Y,K,T,G,q,Option.some.injEq,forall_eq']
    have C: ∀(x:Nat),x<1000000000000→x≠(110*10000+9)∧x≠(110*10000+8)∧x≠(110*10000+14)∧x≠(110*10000+2)→ ∀X1 X2 X3 X4 y1 y2 y3 y4,∀e∈(((110*10000+9),y1,X1)::((110*10000+8),y2,X2)::((110*10000+14),y3,X3)::((110*10000+2),y4,X4)::fm:A2),e.1≠x:=by
     intro x X ⟨d1,d2,d3,d4⟩ X1 X2 X3 X4 y1 y2 y3 y4 e f
     simp only [List.mem_cons]at f
     rcases f with h|h|h|h|h
     ·rw [h];exact d1.symm
     ·rw [h];exact d2.symm
     ·rw [h];exact d3.symm
     ·rw [h];exact d4.symm
     ·have:=v e h;omega
    refine hcal _ _ _ 1 _ ?_ (190*10000+5) (C _ zh zh _ _ _ _ _ _ _ _) (C _ zh zh _ _ _ _ _ _ _ _) (C _ zh zh _ _ _ _ _ _ _ _) ?_
    ·exact Yd
    intro w n' hn'
    have hbqB: ∀k:Nat,k<1000000000000→(k=1000000000000+B)=False:=fun k h=>eq_false zd
    have J: ∀k:Nat,k<1000000000000→(1000000000000+B=k)=False:=fun k h=>eq_false zd
    simp -implicitDefEqProofs only [go_sem,K,hfb,T,A4s]
    refine A0.frame (rest:=((110*10000+14),n+1,.map es)::((110*10000+2),n,.rows 11 [A])::A2.del fm (1000000000000+B)) (hjc w _ _ _ _ _) (fun e f=> ?_) (fun e f=> ?_) ?_
    ·simp only [List.mem_cons,List.not_mem_nil,or_false]at f⊢
     rcases f with h|h
     ·rw [h];simp only [hmemB,or_true]
     ·exact Jt
    ·simp only [List.mem_cons,List.not_mem_nil,or_false]at f⊢
     rcases f with h|h|h
     ·exact Yi
     ·exact Yi
     ·obtain⟨h1,h2⟩:=A2.mem_del.1 h
      refine⟨by simp only [h1,or_true],fun e' P=> ?_⟩
      have:=v e h1
      rcases P with I|I<;>rw [I]<;>simp only<;>omega
    rintro r I n2 hn2 ⟨rfl,rfl⟩
    have hdd: ∀b,b<1000000000000→A2.del (A2.del fm (1000000000000+B)) b=A2.del fm (1000000000000+B):=fun b hb=>by
     refine List.filter_eq_self.2 fun e f=> ?_
     have h1:=v e (A2.mem_del.1 f).1
     cases hbb:Nat.beq e.1 b with
     |false=>rfl
     |true=>have:=Nat.eq_of_beq_eq_true hbb;omega
    generalize A2.del fm (1000000000000+B)=fd at*
    cases jc with
    | true=>
     have fin:=fin true ⟨fun h=>absurd h zf,fun _=>by
      have:=hj1 rfl
      cases ch with
      |true=>have:=H rfl;omega
      |false=>rw [E rfl]at this⊢;exact this⟩
     exact JV
    |false=>
     have fin:=fin ch ⟨fun h=>by rw [hj0 rfl];exact E h,fun h=>by rw [hj0 rfl];exact H h⟩
     exact JV
end
section
open Go.Abs
def C0w(p:Fn)(i:Ins):List Int:=if i.op=22 then((((p.protos[i.b.toNat]?).map Fn.ups).getD []).filter Upv.loc).map Upv.idx else []
def A4I(a b:Int):List Int:=if 0≤a then(List.range (b-a).toNat).map fun(k:Nat)=>a+(k:Int)else []
def A2A(f o:Int):Bool:=decide (0≤f↔0≤o)&&decide (f≤o)
def A8s(p:Fn)(i:Ins)(s:Stt):List Int:=(reads i).1++A4I (reads i).2 s.opn++C0w p i
def A6v(p:Fn)(i:Ins)(s:Stt):Bool:=A2A (reads i).2 s.opn&& !(A8s p i s).any fun r=> !s.set r.toNat
def B9k(code:List Ins)(M:Nat→Option Stt)(a:Nat)(i:Ins)(s:Stt)(t:Int):Bool:=
 match M t.toNat with
 |none=>true
 |some o=>decide ((C6 i).2≠o.opn)||(!decide (I7 i s.marks=o.marks)||(decide (t≤(a:Int))&&decide ((G5 code t.toNat).op≠29)))
def A3x(p:Fn)(M:Nat→Option Stt)(a:Nat):Bool:=
 match M a with
 |none=>false
 |some s=>
  let i:=G5 p.code a
  V9 i.op&&decide ((a:Int)=(p.code.length:Int)-1)||(!A6v p i s||(decide (i.op=28)&&s.marks.any (fun r=>decide (i.a≤r))||(decide (i.op=17)&&decide (0<s.marks.length)||(C5 p.code a).any (B9k p.code M a i s))))
noncomputable def P8 (p:Fn):Nat→Option Stt:=stM p.regs.toNat p.code p.params
noncomputable def M5 (p:Fn):Int:=
 match (List.range p.code.length).find? (A3x p (P8 p))with
 |some a=>(a:Int)
 |none=> -1
theorem B4t{p:Fn}:M5 p= -1↔ ∀a,a<p.code.length→A3x p (P8 p) a=false:=by
 unfold M5
 cases h:(List.range p.code.length).find? (A3x p (P8 p))with
 |none=>
  have:=List.find?_eq_none.1 h
  simp only [true_iff]
  intro a c
  simpa using this a (List.mem_range.2 c)
 |some a=>
  have b:=List.find?_some h
  have d:=List.mem_range.1 (List.mem_of_find?_eq_some h)
  simp only
  constructor
  ·intro h;omega
  ·intro h;rw [h a d]at b;cases b
theorem C6u(p:Fn):M5 p= -1∨0≤M5 p:=by
 unfold M5
 split
 ·right;omega
 ·left;rfl
mutual
noncomputable def Fn.srch:Fn→List Int→Option (List Int×Int)
 |⟨a,b,c,d,e,f,g,h,l,j,k⟩,w=>if 0≤M5 ⟨a,b,c,d,e,f,g,h,l,j,k⟩then some (w,M5 ⟨a,b,c,d,e,f,g,h,l,j,k⟩)else Fn.srchs l 0 w
noncomputable def Fn.srchs:List Fn→Nat→List Int→Option (List Int×Int)
 | [],_,_=>none
 |q::r,n,w=>match Fn.srch q (w++ [(n:Int)])with
  |some x=>some x
  |none=>Fn.srchs r (n+1) w
end
theorem Fn.srch_eq(p:Fn)(w:List Int):p.srch w=if 0≤M5 p then some (w,M5 p)else Fn.srchs p.protos 0 w:=by
 obtain⟨a,b,c,d,e,f,g,h,i,j,k⟩:=p
 rw [Fn.srch]
theorem Fn.srchs_none(l:List Fn)(h: ∀q∈l,∀w,q.srch w=none↔ ∀x∈q.each,M5 x= -1): ∀(n:Nat) (w:List Int),Fn.srchs l n w=none↔ ∀x∈Fn.eachs l,M5 x= -1:=by
 induction l with
 |nil=>intro n w;simp [Fn.srchs,Fn.eachs]
 | cons q r i=>
  intro n w
  have b:=h q List.mem_cons_self (w++ [(n:Int)])
  have c:=i (fun q d=>h q (List.mem_cons_of_mem _ d)) (n+1) w
  rw [Fn.srchs,Fn.eachs]
  cases hs:Fn.srch q (w++ [(n:Int)])with
  |some x=>
   rw [hs]at b
   simp only
   constructor
   ·intro h;cases h
   ·intro h;exact b.2 fun x a=>h x (List.mem_append_left _ a)
  | none=>
   rw [hs]at b
   simp only
   rw [c]
   constructor
   ·intro h x a
    rcases List.mem_append.1 a with a|a
    ·exact b.1 rfl x a
    ·exact h x a
   ·intro h x a;exact h x (List.mem_append_right _ a)
theorem Fn.srch_none(p:Fn): ∀w,p.srch w=none↔ ∀x∈p.each,M5 x= -1:=by
 induction p using Fn.ind with
 | h p i=>
  intro w
  rw [Fn.srch_eq,Fn.each_eq]
  have:=Fn.srchs_none p.protos i 0 w
  by_cases c:0≤M5 p
  ·rw [if_pos c]
   constructor
   ·intro h;cases h
   ·intro h;have:=h p List.mem_cons_self;omega
  ·rw [if_neg c,this]
   have b:M5 p= -1:=(C6u p).elim id fun h=>absurd h c
   constructor
   ·intro h x a
    rcases List.mem_cons.1 a with rfl|a
    ·exact b
    ·exact h x a
   ·intro h x a;exact h x (List.mem_cons_of_mem _ a)
noncomputable def A5Q (p:Fn):Int:=if L5 p≠0 then L5 p else if p.srch []=none then 0 else 21
theorem D0g(p:Fn):A5Q p=0↔L5 p=0∧ ∀x∈p.each,M5 x= -1:=by
 unfold A5Q
 by_cases c:L5 p=0
 ·rw [if_neg (fun h=>h c)]
  by_cases d:p.srch []=none
  ·rw [if_pos d];exact⟨fun _=>⟨c,(Fn.srch_none p []).1 d⟩,fun _=>rfl⟩
  ·rw [if_neg d]
   constructor
   ·intro h;omega
   ·intro h;exact absurd ((Fn.srch_none p []).2 h.2) d
 ·rw [if_pos c]
  constructor
  ·intro h;exact absurd h c
  ·intro h;exact absurd h.1 c
structure Sound(p:Fn):Prop where
 code:p.code.length≤16384
 code0:0<p.code.length
 regs:0≤p.regs∧p.regs≤4096
 params:0≤p.params∧p.params≤p.regs
 inst: ∀i∈p.code,R4 p i=0
 ups: ∀q∈p.protos,∀u∈q.ups,u.loc=true→0≤u.idx∧u.idx<p.regs
 upsl: ∀q∈p.protos,q.ups.length≤60
theorem B1W{p:Fn}(h:A3b p=0):A3Q p=0∧f8 p=0∧(∀i∈p.code,R4 p i=0)∧p.protos.any (B9l p)=false:=by
 unfold A3b at h
 split at h
 ·rename_i c;exact absurd h c
 rename_i c
 split at h
 ·rename_i b;exact absurd h b
 rename_i b
 split at h
 ·rename_i a;exact absurd h a
 rename_i a
 split at h
 ·omega
 rename_i e
 refine⟨by simpa using c,by simpa using b,fun i d=> ?_,by simpa using e⟩
 have a:J5 (p.code.map (R4 p))=0:=by simpa using a
 rw [A5U]at a
 exact a _ (List.mem_map_of_mem d)
theorem Sound.of{p:Fn}(h:L5 p=0):Sound p:=by
 have b:=((A9T p).1 h).2
 obtain⟨l,f,i,q⟩:=B1W (b p (Fn.self_mem p))
 unfold A3Q at l
 split at l
 rotate_left
 ·omega
 rename_i L
 unfold f8 at f
 split at f
 rotate_left
 ·omega
 rename_i F
 refine⟨L.1,by omega,⟨F.2.1,L.2.2.2.2.2.1⟩,⟨F.2.2.1,F.2.2.2.2.1⟩,i,fun x a u e j=> ?_,fun x a=> ?_⟩
 ·obtain⟨_,c,_,_⟩:=B1W (b x (Fn.child_mem (Fn.self_mem p) a))
  unfold f8 at c
  split at c
  rotate_left
  ·omega
  rename_i F2
  have k:=List.any_eq_false.1 F2.2.2.2.2.2.2.2.1 u e
  have g:=List.any_eq_false.1 q x a
  simp only [B9l,Bool.not_eq_true]at g
  have m:=List.any_eq_false.1 g u e
  simp only [A4V,j,if_true,decide_eq_true_eq]at m
  simp at k
  omega
 ·obtain⟨d,_⟩:=B1W (b x (Fn.child_mem (Fn.self_mem p) a))
  unfold A3Q at d
  split at d
  ·rename_i L2;exact L2.2.2.2.1
  ·omega
theorem B1A{p:Fn}{i:Ins}(h:R4 p i=0):chk i=0∧V0 p.regs (reads i)=true∧V0 p.regs (C6 i)=true∧(G9 i.op=true→0≤i.b∧i.b<p.code.length)∧Z8 p i=true:=by
 unfold R4 at h
 split at h
 ·rename_i a;exact absurd h a
 rename_i a
 split at h
 ·rename_i b;exact⟨by simpa using a,b⟩
 ·omega
theorem B7v{a:Int}{l:List Int×Int}(h:V0 a l=true):l.2≤a∧ ∀r∈l.1,r<a:=by
 unfold V0 at h
 rw [Bool.and_eq_true,Bool.not_eq_true']at h
 refine⟨of_decide_eq_true h.1,fun r b=> ?_⟩
 have:=List.any_eq_false.1 h.2 r b
 simp at this;omega
theorem Sound.fit{p:Fn}(h:Sound p): ∀i∈p.code,Fit p.regs.toNat i:=fun i b=>by
 obtain⟨c,_,d,_⟩:=B1A (h.inst i b)
 obtain⟨e,w⟩:=B7v d
 have a:=h.regs
 exact⟨c,fun r a=>by have:=((A2r i).1 r a).1;have:=w r a;omega,by omega⟩
theorem Sound.reads{p:Fn}(h:Sound p): ∀i∈p.code,∀r∈(reads i).1,0≤r∧r<p.regs:=fun i c r a=>by
 obtain⟨_,b,_⟩:=B1A (h.inst i c)
 exact⟨((A3Y i).1 r a).1,(B7v b).2 r a⟩
theorem Sound.proto{p:Fn}(h:Sound p){i:Ins}(j:i∈p.code)(g:i.op=22):0≤i.b∧ ∃q,p.protos[i.b.toNat]? =some q:=by
 obtain⟨f,_,_,_,e⟩:=B1A (h.inst i j)
 have k:0≤i.b:=by
  unfold chk at f
  obtain⟨o,a,b,c,d⟩:=i
  simp only at f g⊢
  subst g
  simp [frm,B3E,C1h,u6,A5a,A4j,low,high,C1y,B4u,A9k,mm2]at f
  omega
 unfold Z8 at e
 split at e
 ·cases e
 split at e
 ·cases e
 simp [g]at e
 exact⟨k,p.protos[i.b.toNat]' zd,by simp⟩
theorem B1Y{N:Nat}{code:List Ins}{M:Nat→Option Stt}{e:Nat×Int}{k:Nat}(h:(M k).isSome=true):(G6 N code M e k).isSome=true:=by
 have a: ∀s,(H0 M e.2.toNat s k).isSome=true:=fun s=>by
  unfold H0
  split
  ·rfl
  ·exact h
 cases h1:M e.1 with
 |none=>simp only [G6,h1];exact h
 |some o=>
  cases h2:M e.2.toNat with
  |none=>simp only [G6,h1,h2];exact a _
  |some t=>simp only [G6,h1,h2];exact a _
theorem B1y{N:Nat}{code:List Ins}: ∀(l:List (Nat×Int)) {M:Nat→Option Stt} {k:Nat},(M k).isSome=true→(l.foldl (G6 N code) M k).isSome=true
 | [],_,_,h=>h
 |e::l,_,_,h=>B1y l (B1Y h)
theorem C9X{N:Nat}{code:List Ins}{M:Nat→Option Stt}{e:Nat×Int}(h:(M e.1).isSome=true):(G6 N code M e e.2.toNat).isSome=true:=by
 obtain⟨s,a⟩:=Option.isSome_iff_exists.1 h
 cases h2:M e.2.toNat with
 |none=>simp [G6,a,h2,H0]
 |some t=>simp [G6,a,h2,H0]
theorem C7f{N:Nat}{code:List Ins}{M:Nat→Option Stt}{e:Nat×Int}(a:e∈F8 code)(h:(M e.1).isSome=true):(A5r N code M e.2.toNat).isSome=true:=by
 obtain⟨l,r,b⟩:=List.append_of_mem a
 unfold A5r
 rw [b,List.foldl_append,List.foldl_cons]
 exact B1y r (C9X (B1y l h))
theorem C6g{code:List Ins}{a:Nat}{t:Int}(h:a<code.length)(b:t∈C5 code a):(a,t)∈F8 code:=by
 simp only [F8,List.mem_flatMap,List.mem_range,List.mem_map]
 exact⟨a,h,t,b,rfl⟩
theorem A0T.next{N:Nat}{code:List Ins}{params:Int}{M:Nat→Option Stt}(h:A0T N code params M){a:Nat}{s:Stt}(b:a<code.length)(d:M a=some s){t:Int}(c:t∈C5 code a): ∃o,M t.toNat=some o:=by
 obtain⟨k,_,e⟩:=h
 have:=C7f (N:=N) (M:=M) (C6g b c) (by rw [d];rfl)
 rw [e]at this
 exact Option.isSome_iff_exists.1 this
theorem C1f{N:Nat}{code:List Ins}{P:(Nat→Option Stt)→Prop}(a: ∀M e,e∈F8 code→P M→P (G6 N code M e)): ∀(l:List (Nat×Int)),(∀e∈l,e∈F8 code)→ ∀M,P M→P (l.foldl (G6 N code) M)
 | [],_,_,h=>h
 |e::l,hl,M,h=>C1f a l (fun x b=>hl x (List.mem_cons_of_mem _ b)) _ (a M e (hl e List.mem_cons_self) h)
theorem C1n{N:Nat}{code:List Ins}{params:Int}{P:(Nat→Option Stt)→Prop}(a:P (M0 N params))(b: ∀M e,e∈F8 code→P M→P (G6 N code M e)): ∀j,P (A3h N code params j)
 |0=>a
 |j+1=>C1f b _ (fun _ h=>h) _ (C1n a b j)
theorem A0T.ind{N:Nat}{code:List Ins}{params:Int}{M:Nat→Option Stt}(h:A0T N code params M){P:(Nat→Option Stt)→Prop}(a:P (M0 N params))(b: ∀M e,e∈F8 code→P M→P (G6 N code M e)):P M:=by
 obtain⟨k,rfl,_⟩:=h
 exact C1n a b k
theorem A4a{N:Nat}{code:List Ins}{M:Nat→Option Stt}{e:Nat×Int}{k:Nat}{s:Stt}(h:G6 N code M e k=some s):
  M k=some s∨(∃o,M e.1=some o∧k=e.2.toNat∧M k=none∧s=C9 N (G5 code e.1) e.1 e.2 o)∨(∃o t,M e.1=some o∧k=e.2.toNat∧M k=some t∧s=M7 t (C9 N (G5 code e.1) e.1 e.2 o)):=by
 cases h1:M e.1 with
 |none=>simp only [G6,h1]at h;exact .inl h
 | some o=>
  cases h2:M e.2.toNat with
  | none=>
   simp only [G6,h1,h2,H0]at h
   by_cases a:k=e.2.toNat
   ·rw [if_pos a]at h
    exact .inr (.inl ⟨o,rfl,a,a ▸ h2,(Option.some.inj h).symm⟩)
   ·rw [if_neg a]at h;exact .inl h
  | some t=>
   simp only [G6,h1,h2,H0]at h
   by_cases a:k=e.2.toNat
   ·rw [if_pos a]at h
    exact .inr (.inr ⟨o,t,rfl,a,a ▸ h2,(Option.some.inj h).symm⟩)
   ·rw [if_neg a]at h;exact .inl h
theorem A3D{code:List Ins}{a:Nat}(h:a<code.length):code[a]? =some (G5 code a)∧G5 code a∈code:=by
 have b:code[a]? =some (G5 code a):=by unfold G5;rw [List.getD_eq_getElem?_getD,List.getElem?_eq_getElem h];rfl
 exact⟨b,List.mem_of_getElem? b⟩
theorem A0T.opn{N:Nat}{code:List Ins}{params:Int}{M:Nat→Option Stt}(h:A0T N code params M)(c: ∀i∈code,Fit N i): ∀k s,M k=some s→s.opn≤N:=by
 refine h.ind (P:=fun M=> ∀k s,M k=some s→s.opn≤N) ?_ ?_
 ·exact Yx
 ·intro M e f b k s a
  rcases A4a a with h|⟨o,d,_,_,rfl⟩|⟨o,t,d,_,g,rfl⟩
  ·exact b k s h
  ·rw [A7h];exact(c _ (A3D (A9W f).1).2).wo
  ·exact b k t g
theorem A0T.zero{N:Nat}{code:List Ins}{params:Int}{M:Nat→Option Stt}(h:A0T N code params M): ∃o,M 0=some o∧o.marks= []:=by
 refine h.ind (P:=fun M=> ∃o,M 0=some o∧o.marks= []) ⟨A9F N params,rfl,rfl⟩ ?_
 rintro M e i ⟨o,a,d⟩
 have:=B1Y (N:=N) (code:=code) (e:=e) (show (M 0).isSome=true by rw [a];rfl)
 obtain⟨s,c⟩:=Option.isSome_iff_exists.1 this
 refine⟨s,c,?_⟩
 rcases A4a c with h|⟨g,_,_,f,rfl⟩|⟨g,t,_,_,b,rfl⟩
 ·rw [a]at h;injection h with h;rw [←h];exact d
 ·rw [a]at f;cases f
 ·rw [a]at b;injection b with b;rw [←b];exact d
def D1J(N:Nat)(m:List Int):Prop:=Asc m∧ ∀r∈m,0≤r∧r<N
theorem D1J.at{N:Nat}{m:List Int}(h:D1J N m){i:Nat}{x:Int}(a:m[i]? =some x):0≤x∧x<N∧ ∀y,0<i→m[i-1]? =some y→y<x:=by
 refine⟨(h.2 x (List.mem_of_getElem? a)).1,(h.2 x (List.mem_of_getElem? a)).2,fun y e c=> ?_⟩
 obtain⟨d,rfl⟩:=List.getElem?_eq_some_iff.1 a
 obtain⟨b,rfl⟩:=List.getElem?_eq_some_iff.1 c
 exact List.pairwise_iff_getElem.1 h.1 (i-1) i b d zd
end
end Go.Proofs.YtcaaenddpjepiaaGreatDoor
