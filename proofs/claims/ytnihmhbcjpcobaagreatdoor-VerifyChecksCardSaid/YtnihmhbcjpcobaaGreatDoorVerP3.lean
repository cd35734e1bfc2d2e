/-
 What is accepted, plain. No condition.
-/
import Derived.Test.YtnihmhbcjpcobaaGreatDoorVerT
import Derived.Test.YtnihmhbcjpcobaaGreatDoorVerP1
import Derived.Test.YtnihmhbcjpcobaaGreatDoorFnSW
set_option linter.unusedVariables false
set_option linter.unusedSimpArgs false
set_option maxRecDepth 100000
set_option maxHeartbeats 0
namespace Go.Proofs.YtnihmhbcjpcobaaGreatDoor
open Go.Abs
def B6a(p:Fn)(i:Ins):List Int:=if i.op=22 then((((p.protos[i.b.toNat]?).map Fn.ups).getD []).filter Upv.loc).map Upv.idx else []
def A2B(a b:Int):List Int:=if 0≤a then(List.range (b-a).toNat).map fun(k:Nat)=>a+(k:Int)else []
def A0q(f o:Int):Bool:=decide (0≤f↔0≤o)&&decide (f≤o)
def A5S(p:Fn)(i:Ins)(s:Stt):List Int:=(reads i).1++A2B (reads i).2 s.opn++B6a p i
def A4m(p:Fn)(i:Ins)(s:Stt):Bool:=A0q (reads i).2 s.opn&& !(A5S p i s).any fun r=> !s.set r.toNat
def B5d(code:List Ins)(M:Nat→Option Stt)(a:Nat)(i:Ins)(s:Stt)(t:Int):Bool:=
 match M t.toNat with
 |none=>true
 |some o=>decide ((B7 i).2≠o.opn)||(!decide (F1 i s.marks=o.marks)||(decide (t≤(a:Int))&&decide ((D3 code t.toNat).op≠29)))
def A0j(p:Fn)(M:Nat→Option Stt)(a:Nat):Bool:=
 match M a with
 |none=>false
 |some s=>
  let i:=D3 p.code a
  L5 i.op&&decide ((a:Int)=(p.code.length:Int)-1)||(!A4m p i s||(decide (i.op=28)&&s.marks.any (fun r=>decide (i.a≤r))||(decide (i.op=17)&&decide (0<s.marks.length)||(C7 p.code a).any (B5d p.code M a i s))))
noncomputable def I1 (p:Fn):Nat→Option Stt:=stM p.regs.toNat p.code p.params
noncomputable def G9 (p:Fn):Int:=
 match (List.range p.code.length).find? (A0j p (I1 p))with
 |some a=>(a:Int)
 |none=> -1
theorem A7l{p:Fn}:G9 p= -1↔ ∀a,a<p.code.length→A0j p (I1 p) a=false:=by
 unfold G9
 cases h:(List.range p.code.length).find? (A0j p (I1 p))with
 |none=>
  have:=List.find?_eq_none.1 h
  simp only [true_iff]
  intro a ha
  simpa using this a (List.mem_range.2 ha)
 |some a=>
  have h1:=List.find?_some h
  have h2:=List.mem_range.1 (List.mem_of_find?_eq_some h)
  simp only
  constructor
  ·intro h;omega
  ·intro h;rw [h a h2]at h1;cases h1
theorem C0G(p:Fn):G9 p= -1∨0≤G9 p:=by
 unfold G9
 split
 ·right;omega
 ·left;rfl
mutual
noncomputable def Fn.srch:Fn→List Int→Option (List Int×Int)
 |⟨a,b,c,d,e,f,g,h,l,j,k⟩,w=>if 0≤G9 ⟨a,b,c,d,e,f,g,h,l,j,k⟩then some (w,G9 ⟨a,b,c,d,e,f,g,h,l,j,k⟩)else Fn.srchs l 0 w
noncomputable def Fn.srchs:List Fn→Nat→List Int→Option (List Int×Int)
 | [],_,_=>none
 |q::r,n,w=>match Fn.srch q (w++ [(n:Int)])with
  |some x=>some x
  |none=>Fn.srchs r (n+1) w
end
theorem Fn.srch_eq(p:Fn)(w:List Int):p.srch w=if 0≤G9 p then some (w,G9 p)else Fn.srchs p.protos 0 w:=by
 obtain⟨a,b,c,d,e,f,g,h,i,j,k⟩:=p
 rw [Fn.srch]
theorem Fn.srchs_none(l:List Fn)(h: ∀q∈l,∀w,q.srch w=none↔ ∀x∈q.each,G9 x= -1): ∀(n:Nat) (w:List Int),Fn.srchs l n w=none↔ ∀x∈Fn.eachs l,G9 x= -1:=by
 induction l with
 |nil=>intro n w;simp [Fn.srchs,Fn.eachs]
 | cons q r ih=>
  intro n w
  have h1:=h q List.mem_cons_self (w++ [(n:Int)])
  have h2:=ih (fun q hq=>h q (List.mem_cons_of_mem _ hq)) (n+1) w
  rw [Fn.srchs,Fn.eachs]
  cases hs:Fn.srch q (w++ [(n:Int)])with
  |some x=>
   rw [hs]at h1
   simp only
   constructor
   ·intro h;cases h
   ·intro h;exact h1.2 fun x hx=>h x (List.mem_append_left _ hx)
  | none=>
   rw [hs]at h1
   simp only
   rw [h2]
   constructor
   ·intro h x hx
    rcases List.mem_append.1 hx with hx|hx
    ·exact h1.1 rfl x hx
    ·exact h x hx
   ·intro h x hx;exact h x (List.mem_append_right _ hx)
theorem Fn.srch_none(p:Fn): ∀w,p.srch w=none↔ ∀x∈p.each,G9 x= -1:=by
 induction p using Fn.ind with
 | h p ih=>
  intro w
  rw [Fn.srch_eq,Fn.each_eq]
  have:=Fn.srchs_none p.protos ih 0 w
  by_cases c:0≤G9 p
  ·rw [if_pos c]
   constructor
   ·intro h;cases h
   ·intro h;have:=h p List.mem_cons_self;omega
  ·rw [if_neg c,this]
   have c1:G9 p= -1:=(C0G p).elim id fun h=>absurd h c
   constructor
   ·intro h x hx
    rcases List.mem_cons.1 hx with rfl|hx
    ·exact c1
    ·exact h x hx
   ·intro h x hx;exact h x (List.mem_cons_of_mem _ hx)
noncomputable def B7S (p:Fn):Int:=if A2e p≠0 then A2e p else if p.srch []=none then 0 else 21
theorem C3K(p:Fn):B7S p=0↔A2e p=0∧ ∀x∈p.each,G9 x= -1:=by
 unfold B7S
 by_cases c:A2e p=0
 ·rw [if_neg (fun h=>h c)]
  by_cases d:p.srch []=none
  ·rw [if_pos d];exact⟨fun _=>⟨c,(Fn.srch_none p []).1 d⟩,fun _=>rfl⟩
  ·rw [if_neg d]
   constructor
   ·intro h;omega
   ·intro h;exact absurd ((Fn.srch_none p []).2 h.2) d
 ·rw [if_pos c]
  constructor
  ·intro h;exact absurd h c
  ·intro h;exact absurd h.1 c
structure Sound(p:Fn):Prop where
 code:p.code.length≤16384
 code0:0<p.code.length
 regs:0≤p.regs∧p.regs≤4096
 params:0≤p.params∧p.params≤p.regs
 inst: ∀i∈p.code,A0p p i=0
 ups: ∀q∈p.protos,∀u∈q.ups,u.loc=true→0≤u.idx∧u.idx<p.regs
 upsl: ∀q∈p.protos,q.ups.length≤60
theorem A9w{p:Fn}(h:A5W p=0):A6Y p=0∧A1j p=0∧(∀i∈p.code,A0p p i=0)∧p.protos.any (C1Y p)=false:=by
 unfold A5W at h
 split at h
 ·rename_i h1;exact absurd h h1
 rename_i h1
 split at h
 ·rename_i h2;exact absurd h h2
 rename_i h2
 split at h
 ·rename_i h3;exact absurd h h3
 rename_i h3
 split at h
 ·omega
 rename_i h4
 refine⟨by simpa using h1,by simpa using h2,fun i hi=> ?_,by simpa using h4⟩
 have h3:J7 (p.code.map (A0p p))=0:=by simpa using h3
 rw [A7m]at h3
 exact h3 _ (List.mem_map_of_mem hi)
theorem Sound.of{p:Fn}(h:A2e p=0):Sound p:=by
 have hs:=((A9R p).1 h).2
 obtain⟨l,f,i,q⟩:=A9w (hs p (Fn.self_mem p))
 unfold A6Y at l
 split at l
 rotate_left
 ·omega
 rename_i L
 unfold A1j at f
 split at f
 rotate_left
 ·omega
 rename_i F
 refine⟨L.1,by omega,⟨F.2.1,L.2.2.2.2.2.1⟩,⟨F.2.2.1,F.2.2.2.2.1⟩,i,fun x hx u hu hl=> ?_,fun x hx=> ?_⟩
 ·obtain⟨_,f2,_,_⟩:=A9w (hs x (Fn.child_mem (Fn.self_mem p) hx))
  unfold A1j at f2
  split at f2
  rotate_left
  ·omega
  rename_i F2
  have h1:=List.any_eq_false.1 F2.2.2.2.2.2.2.2.1 u hu
  have h2:=List.any_eq_false.1 q x hx
  simp only [C1Y,Bool.not_eq_true]at h2
  have h3:=List.any_eq_false.1 h2 u hu
  simp only [A6X,hl,if_true,decide_eq_true_eq]at h3
  simp at h1
  omega
 ·obtain⟨l2,_⟩:=A9w (hs x (Fn.child_mem (Fn.self_mem p) hx))
  unfold A6Y at l2
  split at l2
  ·rename_i L2;exact L2.2.2.2.1
  ·omega
theorem A9e{p:Fn}{i:Ins}(h:A0p p i=0):chk i=0∧P4 p.regs (reads i)=true∧P4 p.regs (B7 i)=true∧(W5 i.op=true→0≤i.b∧i.b<p.code.length)∧U1 p i=true:=by
 unfold A0p at h
 split at h
 ·rename_i h1;exact absurd h h1
 rename_i h1
 split at h
 ·rename_i h2;exact⟨by simpa using h1,h2⟩
 ·omega
theorem B3N{regs:Int}{l:List Int×Int}(h:P4 regs l=true):l.2≤regs∧ ∀r∈l.1,r<regs:=by
 unfold P4 at h
 rw [Bool.and_eq_true,Bool.not_eq_true']at h
 refine⟨of_decide_eq_true h.1,fun r hr=> ?_⟩
 have:=List.any_eq_false.1 h.2 r hr
 simp at this;omega
theorem Sound.fit{p:Fn}(h:Sound p): ∀i∈p.code,Fit p.regs.toNat i:=fun i hi=>by
 obtain⟨h1,_,h3,_⟩:=A9e (h.inst i hi)
 obtain⟨w1,w2⟩:=B3N h3
 have hr:=h.regs
 exact⟨h1,fun r hr=>by have:=((A2R i).1 r hr).1;have:=w2 r hr;omega,by omega⟩
theorem Sound.reads{p:Fn}(h:Sound p): ∀i∈p.code,∀r∈(reads i).1,0≤r∧r<p.regs:=fun i hi r hr=>by
 obtain⟨_,h2,_⟩:=A9e (h.inst i hi)
 exact⟨((A5c i).1 r hr).1,(B3N h2).2 r hr⟩
theorem Sound.proto{p:Fn}(h:Sound p){i:Ins}(hi:i∈p.code)(ho:i.op=22):0≤i.b∧ ∃q,p.protos[i.b.toNat]? =some q:=by
 obtain⟨hk,_,_,_,hr⟩:=A9e (h.inst i hi)
 have hb:0≤i.b:=by
  unfold chk at hk
  obtain⟨op,a,b,c,d⟩:=i
  simp only at hk ho⊢
  subst ho
  simp [frm,B0Y,B6K,S6,A2V,A2z,low,high,B6W,B1F,A6f,mm2]at hk
  omega
 unfold U1 at hr
 split at hr
 ·cases hr
 split at hr
 ·cases hr
 simp [ho]at hr
 exact⟨hb,p.protos[i.b.toNat]'(by omega),by simp⟩
theorem A9y{N:Nat}{code:List Ins}{M:Nat→Option Stt}{e:Nat×Int}{k:Nat}(h:(M k).isSome=true):(D7 N code M e k).isSome=true:=by
 have hu: ∀s,(D6 M e.2.toNat s k).isSome=true:=fun s=>by
  unfold D6
  split
  ·rfl
  ·exact h
 cases h1:M e.1 with
 |none=>simp only [D7,h1];exact h
 |some o=>
  cases h2:M e.2.toNat with
  |none=>simp only [D7,h1,h2];exact hu _
  |some t=>simp only [D7,h1,h2];exact hu _
theorem A9d{N:Nat}{code:List Ins}: ∀(l:List (Nat×Int)) {M:Nat→Option Stt} {k:Nat},(M k).isSome=true→(l.foldl (D7 N code) M k).isSome=true
 | [],_,_,h=>h
 |e::l,_,_,h=>A9d l (A9y h)
theorem C3E{N:Nat}{code:List Ins}{M:Nat→Option Stt}{e:Nat×Int}(h:(M e.1).isSome=true):(D7 N code M e e.2.toNat).isSome=true:=by
 obtain⟨s,hs⟩:=Option.isSome_iff_exists.1 h
 cases h2:M e.2.toNat with
 |none=>simp [D7,hs,h2,D6]
 |some t=>simp [D7,hs,h2,D6]
theorem C1m{N:Nat}{code:List Ins}{M:Nat→Option Stt}{e:Nat×Int}(he:e∈D1 code)(h:(M e.1).isSome=true):(i6 N code M e.2.toNat).isSome=true:=by
 obtain⟨l,r,hl⟩:=List.append_of_mem he
 unfold i6
 rw [hl,List.foldl_append,List.foldl_cons]
 exact A9d r (C3E (A9d l h))
theorem C0x{code:List Ins}{a:Nat}{t:Int}(ha:a<code.length)(ht:t∈C7 code a):(a,t)∈D1 code:=by
 simp only [D1,List.mem_flatMap,List.mem_range,List.mem_map]
 exact⟨a,ha,t,ht,rfl⟩
theorem W9.next{N:Nat}{code:List Ins}{params:Int}{M:Nat→Option Stt}(h:W9 N code params M){a:Nat}{s:Stt}(ha:a<code.length)(hs:M a=some s){t:Int}(ht:t∈C7 code a): ∃o,M t.toNat=some o:=by
 obtain⟨k,_,hf⟩:=h
 have:=C1m (N:=N) (M:=M) (C0x ha ht) (by rw [hs];rfl)
 rw [hf]at this
 exact Option.isSome_iff_exists.1 this
theorem B6I{N:Nat}{code:List Ins}{P:(Nat→Option Stt)→Prop}(hs: ∀M e,e∈D1 code→P M→P (D7 N code M e)): ∀(l:List (Nat×Int)),(∀e∈l,e∈D1 code)→ ∀M,P M→P (l.foldl (D7 N code) M)
 | [],_,_,h=>h
 |e::l,hl,M,h=>B6I hs l (fun x hx=>hl x (List.mem_cons_of_mem _ hx)) _ (hs M e (hl e List.mem_cons_self) h)
theorem B6R{N:Nat}{code:List Ins}{params:Int}{P:(Nat→Option Stt)→Prop}(h0:P (M0 N params))(hs: ∀M e,e∈D1 code→P M→P (D7 N code M e)): ∀j,P (A1k N code params j)
 |0=>h0
 |j+1=>B6I hs _ (fun _ h=>h) _ (B6R h0 hs j)
theorem W9.ind{N:Nat}{code:List Ins}{params:Int}{M:Nat→Option Stt}(h:W9 N code params M){P:(Nat→Option Stt)→Prop}(h0:P (M0 N params))(hs: ∀M e,e∈D1 code→P M→P (D7 N code M e)):P M:=by
 obtain⟨k,rfl,_⟩:=h
 exact B6R h0 hs k
theorem A2a{N:Nat}{code:List Ins}{M:Nat→Option Stt}{e:Nat×Int}{k:Nat}{s:Stt}(h:D7 N code M e k=some s):
  M k=some s∨(∃o,M e.1=some o∧k=e.2.toNat∧M k=none∧s=B4 N (D3 code e.1) e.1 e.2 o)∨(∃o t,M e.1=some o∧k=e.2.toNat∧M k=some t∧s=G3 t (B4 N (D3 code e.1) e.1 e.2 o)):=by
 cases h1:M e.1 with
 |none=>simp only [D7,h1]at h;exact .inl h
 | some o=>
  cases h2:M e.2.toNat with
  | none=>
   simp only [D7,h1,h2,D6]at h
   by_cases hk:k=e.2.toNat
   ·rw [if_pos hk]at h
    exact .inr (.inl ⟨o,rfl,hk,hk ▸ h2,(Option.some.inj h).symm⟩)
   ·rw [if_neg hk]at h;exact .inl h
  | some t=>
   simp only [D7,h1,h2,D6]at h
   by_cases hk:k=e.2.toNat
   ·rw [if_pos hk]at h
    exact .inr (.inr ⟨o,t,rfl,hk,hk ▸ h2,(Option.some.inj h).symm⟩)
   ·rw [if_neg hk]at h;exact .inl h
theorem A1I{code:List Ins}{a:Nat}(h:a<code.length):code[a]? =some (D3 code a)∧D3 code a∈code:=by
 have h1:code[a]? =some (D3 code a):=by unfold D3;rw [List.getD_eq_getElem?_getD,List.getElem?_eq_getElem h];rfl
 exact⟨h1,List.mem_of_getElem? h1⟩
theorem W9.opn{N:Nat}{code:List Ins}{params:Int}{M:Nat→Option Stt}(h:W9 N code params M)(hf: ∀i∈code,Fit N i): ∀k s,M k=some s→s.opn≤N:=by
 refine h.ind (P:=fun M=> ∀k s,M k=some s→s.opn≤N) ?_ ?_
 ·intro k s hs
  unfold M0 at hs
  split at hs
  ·injection hs with hs;subst hs;simp only [A1G];omega
  ·cases hs
 ·intro M e he hP k s hs
  rcases A2a hs with h|⟨o,ho,_,_,rfl⟩|⟨o,t,ho,_,ht,rfl⟩
  ·exact hP k s h
  ·rw [A4M];exact(hf _ (A1I (A7h he).1).2).wo
  ·exact hP k t ht
theorem W9.zero{N:Nat}{code:List Ins}{params:Int}{M:Nat→Option Stt}(h:W9 N code params M): ∃o,M 0=some o∧o.marks= []:=by
 refine h.ind (P:=fun M=> ∃o,M 0=some o∧o.marks= []) ⟨A1G N params,rfl,rfl⟩ ?_
 rintro M e he ⟨o,ho,hm⟩
 have:=A9y (N:=N) (code:=code) (e:=e) (show (M 0).isSome=true by rw [ho];rfl)
 obtain⟨s,hs⟩:=Option.isSome_iff_exists.1 this
 refine⟨s,hs,?_⟩
 rcases A2a hs with h|⟨o2,_,_,hn,rfl⟩|⟨o2,t,_,_,ht,rfl⟩
 ·rw [ho]at h;injection h with h;rw [←h];exact hm
 ·rw [ho]at hn;cases hn
 ·rw [ho]at ht;injection ht with ht;rw [←ht];exact hm
def C5h(N:Nat)(m:List Int):Prop:=Asc m∧ ∀r∈m,0≤r∧r<N
theorem C5h.at{N:Nat}{m:List Int}(h:C5h N m){i:Nat}{x:Int}(hx:m[i]? =some x):0≤x∧x<N∧ ∀y,0<i→m[i-1]? =some y→y<x:=by
 refine⟨(h.2 x (List.mem_of_getElem? hx)).1,(h.2 x (List.mem_of_getElem? hx)).2,fun y hi hy=> ?_⟩
 obtain⟨h1,rfl⟩:=List.getElem?_eq_some_iff.1 hx
 obtain⟨h2,rfl⟩:=List.getElem?_eq_some_iff.1 hy
 exact List.pairwise_iff_getElem.1 h.1 (i-1) i h2 h1 (by omega)
end Go.Proofs.YtnihmhbcjpcobaaGreatDoor
