/-
 The evaluator of abstract code, functions and their contracts. No condition.
-/
import Derived.Test.YtflobbpcabopjaaGreatDoorComp
set_option linter.unusedSimpArgs false set_option linter.unusedVariables false namespace Go.Abs
variable {PK:R8}
structure Cf where
 P:Program
 N:Nat
 rs:List RV
 Q:Res
 rd:Option (Nat×Nat)
 pk:Option R8
def Run(c:Cf)(k:List AItem)(s:St):Prop:= ∀fn bs,(c.rd=none→A5c c.P fn.results.toList=some c.rs)∧bs.isNone=c.pk.isSome∧(c.pk=none∨c.rd=none)→OK ⟨c.P,fn,c.N,c.Q,bs,c.rd,c.pk⟩ k s
def C5b(c:Cf)(s:St):Prop:=
 match A7D s c.rs with
 |some vs=>c.Q (B2i vs) s.h s.n
 |none=>False
def vo(P:Program)(PK:R8):List AI→(St→Prop)→St→Prop
 | [],K,s=>K s
 |i::r,K,s=>H7 P PK i s (vo P PK r K)
def B3S(P:Program)(PK:R8):List (List AI)→(St→Prop)→St→Prop
 | [],_,_=>True
 |l::r,K,s=>vo P PK l K s∧B3S P PK r K s
def B1F(v:V)(A B:Prop):Prop:=
 match v with
 | .bool b=>(b=true→A)∧(b=false→B)
 |_=>False
def B4S(k:Option (List AItem))(f:List AItem→Prop)(g:Prop):Prop:=
 match k with
 |some k=>f k
 |none=>g
def A3e(c:Cf)(j:Option Code)(s:St):Prop:=
 match c.rd with
 |none=>match j with
  |some (.exit _)=>False
  |_=>C5b c s
 |some q=>C5c q j c.Q s
def B9M(K:List AItem→St→Prop)(k:List AItem):Option Code→St→Prop
 |none,s=>K k s
 |some .ret,s=>K (.code .ret::k) s
 |some (.exit id),s=>K (.code (.exit id)::k) s
 |_,_=>False
def C5d(c:Cf)(nm:Nat)(v:V)(ps:List Nat)(x y:AC)(s:St)(K:Option Code→St→Prop):Prop:=
 match v with
 | .fn f cs=>M4 c.P f=true∧(c.rd=none∧c.pk=none)∧A0 c.P f (.yld nm s.n::cs) (A2.put s.h nm s.n (.loop c.N s.sl ps (A0l c.P c.N x y) .ready none)) (s.n+1) (C2l nm s.n s.sl K)
 |_=>False
def D1z(c:Cf)(s:St)(K:St→Prop):Prop:=
 match c.rd with
 |none=>False
 |some q=>C3O q s K
def know(s:St)(x:Opd)(b:Bool):St:=
 match x with
 | .t i=>⟨G0 s.sl i (.bool b),s.h,s.n⟩
 |_=>s
def B9v(b:Bool)(A:Prop):Prop:=
 match b with
 |false=>A
 |true=>False
def D5I(rd:Option (Nat×Nat))(pk:Option R8)(A:Prop):Prop:=
 match rd,pk with
 |none,none=>A
 |_,_=>False
def go(c:Cf):Nat→List AItem→St→Prop
 |0,k,s=>Run c k s
 |_+1,[],s=>A3e c none s
 |m+1,.code .skip::k,s=>go c m k s
 |m+1,.code (.ops l)::k,s=>B3S c.P (C0k c.pk) l (go c m k) s
 |_+1,.code .bad::_,_=>False
 |m+1,.code (.seq a b)::k,s=>go c m (.code a:: .code b::k) s
 |m+1,.code (.cond x a b)::k,s=>B1F (s.ev x) (go c m (.code a::k) (know s x true)) (go c m (.code b::k) (know s x false))
 |m+1,.code (.block id a)::k,s=>go c m (.code a:: .blk id::k) s
 |_+1,.code (.loop a)::k,s=>Run c (.code (.loop a)::k) s
 |m+1,.code (.exit id)::k,s=>B9v (Nat.beq 999999999 id) (B4S (Y3 id k) (fun k'=>go c m k' s) (A3e c (some (.exit id)) s))
 |_+1,.code .ret::_,s=>A3e c (some .ret) s
 |m+1,.code (.dfr d)::k,s=>D5I c.rd c.pk (go c m k ⟨G0 s.sl d .undef,s.h,s.n⟩)
 |m+1,.code (.rng nm g ps x y)::k,s=>C5d c nm (s.ev g) ps x y s (B9M (fun k' s'=>go c m k' s') k)
 |m+1,.blk _::k,s=>go c m k s
 |_+1,.lp a::k,s=>Run c (.lp a::k) s
 |m+1,.beg::k,s=>D1z c s (go c m k)
section
variable {c:Cf} {k:List AItem} {s:St}
theorem C3C{P:Program}: ∀{l:List AI} {K:St→Prop} {s:St},vo P PK l K s→A7K P PK l s K
 | [],_,_,h=>h
 |_::_,_,_,h=>A3I (fun _=>C3C) h
theorem B7M{P:Program}{K:St→Prop}{s:St}: ∀{ls:List (List AI)},B3S P PK ls K s→ ∀l∈ls,vo P PK l K s
 | [],_,l,hl=>by cases hl
 |x::r,h,l,hl=>by
  rcases List.mem_cons.1 hl with rfl|hl
  ·exact h.1
  ·exact B7M h.2 l hl
theorem B7h{fn:Func}{bs:Option Nat}{x:Opd}{b:Bool}(hv:s.ev x= .bool b)(h:OK ⟨c.P,fn,c.N,c.Q,bs,c.rd,c.pk⟩ k (know s x b)):OK ⟨c.P,fn,c.N,c.Q,bs,c.rd,c.pk⟩ k s:=by
 cases x with
 |t i=>
  refine OK.resp ⟨G0 s.sl i (.bool b),s.h,s.n⟩ s ⟨fun j=>S3 hv j,rfl,rfl⟩ h
 |c v=>exact h
 |f g=>exact h
 |g g=>exact h
theorem A4d{fn:Func}{bs:Option Nat}(hrs:(c.rd=none→A5c c.P fn.results.toList=some c.rs)∧bs.isNone=c.pk.isSome∧(c.pk=none∨c.rd=none)): ∀(m:Nat) (k:List AItem) (s:St),go c m k s→OK ⟨c.P,fn,c.N,c.Q,bs,c.rd,c.pk⟩ k s
 |0,_,_,h=>h fn bs hrs
 |m+1,[],s,h=>by
  simp only [go,A3e]at h
  cases hrd:c.rd with
  |none=>rw [hrd]at h;exact OK.nil rfl (hrs.1 hrd) h
  |some q=>rw [hrd]at h;exact OK.nilR (q:=q) rfl h
 |m+1,.code .skip::k,s,h=>OK.skip (A4d hrs m k s h)
 |m+1,.code (.ops l)::k,s,h=>OK.ops hrs.2.2 fun is his=>B6x (fun s' h'=>A4d hrs m k s' h') (C3C (B7M h is his))
 |m+1,.code .bad::k,s,h=>h.elim
 |m+1,.code (.seq a b)::k,s,h=>OK.seq (A4d hrs m _ s h)
 | m+1,.code (.cond x a b)::k,s,h=>by
  simp only [go,B1F]at h
  split at h
  ·rename_i t ht
   exact OK.cond ht (fun e=>B7h (by rw [ht,e]) (A4d hrs m _ _ (h.1 e))) (fun e=>B7h (by rw [ht,e]) (A4d hrs m _ _ (h.2 e)))
  ·exact h.elim
 |m+1,.code (.block id a)::k,s,h=>OK.block (A4d hrs m _ s h)
 |m+1,.code (.loop a)::k,s,h=>h fn bs hrs
 | m+1,.code (.exit id)::k,s,h=>by
  simp only [go]at h
  cases hsc:Nat.beq 999999999 id with
  |true=>rw [hsc]at h;exact h.elim
  |false=>
  rw [hsc]at h
  have h:B4S (Y3 id k) (fun k'=>go c m k' s) (A3e c (some (.exit id)) s):=h
  simp only [B4S]at h
  split at h
  ·rename_i k' hk';exact OK.exit hsc hk' (A4d hrs m k' s h)
  ·rename_i hk'
   simp only [A3e]at h
   cases hrd:c.rd with
   |none=>rw [hrd]at h;exact h.elim
   |some q=>rw [hrd]at h;exact OK.exitR (q:=q) rfl hsc hk' h
 |m+1,.code .ret::k,s,h=>by
  simp only [go,A3e]at h
  cases hrd:c.rd with
  |none=>rw [hrd]at h;exact OK.ret rfl (hrs.1 hrd) h
  |some q=>rw [hrd]at h;exact OK.retR (q:=q) rfl h
 | m+1,.code (.dfr d)::k,s,h=>by
  simp only [go]at h
  have hbs:=hrs.2.1
  cases hrd:c.rd with
  | none=>
   cases hpk:c.pk with
   |none=>
    rw [hrd,hpk]at h
    have:=A4d (bs:=bs) hrs m k ⟨G0 s.sl d .undef,s.h,s.n⟩ h
    rw [hrd,hpk]at this
    rw [hpk]at hbs
    exact OK.dfr (fun e=>by have e:bs=none:=e;rw [e]at hbs;cases hbs) rfl this
   |some p=>rw [hrd,hpk]at h;exact h.elim
  |some q=>rw [hrd]at h;exact h.elim
 | m+1,.code (.rng nm g ps x y)::k,s,h=>by
  simp only [go,C5d]at h
  split at h
  ·rename_i f cs hv
   obtain⟨hb,⟨hrd,hpk⟩,hC⟩:=h
   refine OK.rng (fun e=>by have e:bs=none:=e;have hbs:=hrs.2.1;rw [hpk,e]at hbs;cases hbs) hrd hv hb (B0y (fun r h' n' h1=> ?_) hC)
   unfold C2l at h1⊢
   split at h1
   ·rename_i st pend _
    refine⟨h1.1,?_⟩
    have h2:=h1.2
    unfold B9M at h2
    split at h2
    ·exact A4d hrs m _ _ h2
    ·exact A4d hrs m _ _ h2
    ·exact A4d hrs m _ _ h2
    ·exact h2.elim
   ·exact h1.elim
  ·exact h.elim
 |m+1,.blk id::k,s,h=>OK.blk (A4d hrs m k s h)
 |m+1,.lp a::k,s,h=>h fn bs hrs
 | m +1,.beg::k,s,h=>by
  simp only [go,D1z]at h
  cases hrd:c.rd with
  |none=>rw [hrd]at h;exact h.elim
  | some q=>
   rw [hrd]at h
   refine OK.beg (q:=q) rfl ?_
   have h:C3O q s (go c m k):=h
   show C3O q s _
   unfold C3O at h⊢
   cases hg:A2.get s.h q.1 q.2 with
   |none=>rw [hg]at h;exact h.elim
   | some B=>
    rw [hg]at h
    cases B with
    |rows sz rs=>exact h.elim
    |map es=>exact h.elim
    |mapb=>exact h.elim
    |iter=>exact h.elim
    |raw=>exact h.elim
    |tb=>exact h.elim
    |fz=>exact h.elim
    | loop N sl ps p st pend=>
     cases st with
     |ready=>
      have:=A4d (bs:=bs) hrs m _ _ h
      rw [hrd]at this
      exact this
     |busy=>exact h.elim
     |done=>exact h.elim
     |exhausted=>exact h.elim
theorem Run.go(m:Nat)(h:go c m k s):Run c k s:=fun _ _ hrs=>A4d hrs m k s h
theorem Run.weak{s':St}(hw:E8 s s')(h:Run c k s'):Run c k s:=fun fn bs hrs=>OK.weak hw (h fn bs hrs)
theorem Run.lp{x:AC}(h:Run c (.code x:: .lp x::k) s):Run c (.lp x::k) s:=fun fn bs hrs=>OK.lp (h fn bs hrs)
theorem Run.loop{x:AC}(h:Run c (.code x:: .lp x::k) s):Run c (.code (.loop x)::k) s:=fun fn bs hrs=>OK.loop (h fn bs hrs)
theorem Run.rounds{α:Type}{x:AC}(S:α→St)(J:α→Prop)(μ:α→Nat)(x0:α)(hw:E8 s (S x0))(h0:J x0)
  (round: ∀y,J y→(∀s z,J z→μ z<μ y→E8 s (S z)→Run c (.lp x::k) s)→Run c (.code x:: .lp x::k) (S y)):Run c (.code (.loop x)::k) s:=by
 have key: ∀m y,μ y=m→J y→Run c (.code x:: .lp x::k) (S y):=by
  intro m
  induction m using Nat.strongRecOn with
  |_ m ih=>
   intro y hm hJ
   exact round y hJ fun s z hz hlt hw=>Run.weak hw (Run.lp (ih (μ z) (hm ▸ hlt) z rfl hz))
 exact Run.loop (Run.weak hw (key _ x0 rfl h0))
end
def B8(P:Program)(f:FuncId):Option (Nat×AC×List RV):=
 match P.funcs[f]? with
 | some fn=>match fn.body with
  |some code=>match Q7 P (f*10000) fn.ntmps code,A5c P fn.results.toList with
   |some ac,some rs=>some (fn.ntmps,ac,rs)
   |_,_=>none
  |none=>none
 |none=>none
def A3:Nat→List V→List (Nat×V)
 |_,[]=> []
 |i,a::r=>A3 (i+1) r++ [(i,a)]
theorem B3O: ∀(l l':List (Nat×V)) (i:Nat),(∀p∈l,p.1≠i)→E0 (l++l') i=E0 l' i
 | [],_,_,_=>rfl
 | p::r,l',i,h=>by
  have:Nat.beq p.1 i=false:=by
   cases hb:Nat.beq p.1 i with
   |false=>rfl
   |true=>exact(h p List.mem_cons_self (Nat.eq_of_beq_eq_true hb)).elim
  simp only [List.cons_append,E0,this,cond_false]
  exact B3O r l' i fun q hq=>h q (List.mem_cons_of_mem _ hq)
theorem A7G: ∀(l l':List (Nat×V)) (i:Nat) (p:Nat×V),(∀q∈l',q.1≠i)→E0 (l++l') i=E0 l i
 | [],l',i,p,h=>by
  induction l' with
  |nil=>rfl
  | cons q r ih=>
   have:Nat.beq q.1 i=false:=by
    cases hb:Nat.beq q.1 i with
    |false=>rfl
    |true=>exact(h q List.mem_cons_self (Nat.eq_of_beq_eq_true hb)).elim
   simp only [List.nil_append,E0,this,cond_false]
   exact ih fun x hx=>h x (List.mem_cons_of_mem _ hx)
 |q::r,l',i,p,h=>by
  simp only [List.cons_append,E0]
  cases Nat.beq q.1 i with
  |true=>rfl
  |false=>exact A7G r l' i p h
theorem C3b: ∀(as:List V) (k:Nat),∀p∈A3 k as,k≤p.1
 | [],_,p,h=>by cases h
 |a::r,k,p,h=>by
  rcases List.mem_append.1 h with h|h
  ·have:=C3b r (k+1) p h;omega
  ·rw [List.mem_singleton.1 h];exact Nat.le_refl _
theorem A9P: ∀(as:List V) (k i:Nat),E0 (A3 k as) i=if k≤i then(as[i-k]?).getD .undef else .undef
 | [],k,i=>by simp [A3,E0]
 | a::r,k,i=>by
  simp only [A3]
  by_cases h:k=i
  ·subst h
   rw [B3O _ _ _ fun p hp=>by have:=C3b r (k+1) p hp;omega]
   simp [E0]
  ·rw [A7G _ _ _ (0,.undef) fun p hp=>by rw [List.mem_singleton.1 hp];exact h,A9P r (k+1) i]
   by_cases h2:k≤i
   ·rw [if_pos zd,if_pos h2,show i-k=(i-(k+1))+1 from by omega,List.getElem?_cons_succ]
   ·rw [if_neg zd,if_neg h2]
theorem R.inCells{E:Env}{w:World}(hc: ∀a,w.cell? a=E.w.cell? a){v:V}{x:Value}(h:R E v x):R {E with w:=w} v x:=by
 induction h with
 |undef v=>exact .undef v
 |bool b=>exact .bool b
 |int k n=>exact .int k n
 |str s=>exact .str s
 |agg cs vs hl h1 _ ih=>exact .agg cs vs hl h1 ih
 |tup cs vs hl _ ih=>exact .tup cs vs hl ih
 |nilp=>exact .nilp
 |ptr b st i j h=>exact .ptr (E:={E with w:=w}) b st i j h
 |nils=>exact .nils
 |sl b st i n cap h hn hc=>exact .sl (E:={E with w:=w}) b st i n cap h hn hc
 |sl0 b st i a=>exact .sl0 b st i a
 | isl es p cap sz f hp hcap hrow hcell _ ih=>
  exact .isl (E:={E with w:=w}) es p cap sz f hp hcap hrow (fun i row j c h1 h2=>by
   obtain⟨q1,q2⟩:=hcell i row j c h1 h2
   exact⟨(hc _).trans q1,q2⟩) ih
 |isl0 a cap=>exact .isl0 a cap
 | iptr es i0 j0 p sz f hp hrow hcell _ ih=>
  exact .iptr (E:={E with w:=w}) es i0 j0 p sz f hp hrow (fun i row j c h1 h2=>by
   obtain⟨q1,q2⟩:=hcell i row j c h1 h2
   exact⟨(hc _).trans q1,q2⟩) ih
 |nilm=>exact .nilm
 |mp b st h=>exact .mp (E:={E with w:=w}) b st h
 |yld b st h=>exact .yld (E:={E with w:=w}) b st h
 |fn f cs vs hl _ ih=>exact .fn f cs vs hl ih
 |cst v=>exact .cst v
 |err t v=>exact .err t v
 |anyi k n=>exact .anyi k n
theorem HeapR.shut{w:World}{O:Nat→Prop}{ρ:Nat→Loc}{n:Nat}{h:A2}{r:Nat}(hr:HeapR w O ρ n h)(hno: ¬Own ρ h r)(hd:w.heap[r]? =some (.deferred (some []))):
  HeapR (w.putObj r (.deferred none)) O ρ n h∧ ∀a,(w.putObj r (.deferred none)).cell? a=w.cell? a:=by
 have hother: ∀x,x≠r→(w.putObj r (.deferred none)).heap[x]? =w.heap[x]? :=fun x hx=>World.putObj_heap_other hx
 have hlt:=(Array.getElem?_eq_some_iff.1 hd).1
 have hcell: ∀a,(w.putObj r (.deferred none)).cell? a=w.cell? a:=by
  intro a
  by_cases e:a.block=r
  ·have h1:w.cell? a=none:=by unfold World.cell?;rw [e,hd]
   have h2:(w.putObj r (.deferred none)).cell? a=none:=by unfold World.cell?;rw [e,World.putObj_heap_same hlt]
   rw [h1,h2]
  ·exact World.cell?_of_block (hother _ e)
 have hne: ∀e∈h,(ρ e.2.1).cap≠0→(ρ e.2.1).blk≠r:=fun e he hc hb=>hno ⟨e,he,hc,hb⟩
 refine⟨⟨hr.lt,hr.inj,fun x hx=>by rw [World.putObj_size];exact hr.out x hx,hr.notO,fun e he=> ?_,?_⟩,hcell⟩
 ·have hb:=hr.blk e he
  have hrows: ∀sz rs,A9X (A4 w O ρ n h) e.2.1 sz rs→A9X (A4 (w.putObj r (.deferred none)) O ρ n h) e.2.1 sz rs:=by
   intro sz rs hb
   obtain⟨h1,h2,h3,h4⟩:=hb
   refine⟨h1,h2,fun hc=> ?_,fun i row hi=> ?_⟩
   ·obtain⟨h5,h6⟩:=h3 hc
    have hb':=hother _ (hne e he hc)
    refine⟨fun j hj=> ?_,by rw [World.putObj_size];exact h6⟩
    show ((w.putObj r (.deferred none)).cell? ⟨(ρ e.2.1).blk,(ρ e.2.1).off+j,none⟩).isSome=true∧(w.putObj r (.deferred none)).frozen? ⟨(ρ e.2.1).blk,(ρ e.2.1).off+j,none⟩=false
    rw [hcell,World.frozen?_of_block (a:=⟨(ρ e.2.1).blk,(ρ e.2.1).off+j,none⟩) hb']
    exact h5 j hj
   ·obtain⟨h5,h6⟩:=h4 i row hi
    refine⟨h5,fun j c hj=> ?_⟩
    obtain⟨x,x1,x2,x3⟩:=h6 j c hj
    exact⟨x,(hcell _).trans x1,x2,x3.inCells (E:=A4 w O ρ n h) hcell⟩
  cases hx:e.2.2 with
  |rows sz rs=>rw [hx]at hb;exact hrows sz rs hb
  |tb T sz rs=>
   rw [hx]at hb
   exact⟨hrows sz rs hb.1,hb.2.1,fun hc=>by simp only [World.shape?,hother _ (hne e he hc)];exact hb.2.2 hc⟩
  |map es=>
   rw [hx]at hb
   obtain⟨h1,mes,clock,h2,h3,h4,h5⟩:=hb
   refine⟨h1,mes,clock,(hother _ (hne e he h1)).trans h2,h3,fun i p m hp hm=> ?_,h5⟩
   exact YC
  |loop N sl ps p s pend=>
   rw [hx]at hb
   obtain⟨h1,h0,q,h2,h3,h4,h5,h6,h7,h8⟩:=hb
   exact⟨h1,h0,q,(hother _ (hne e he h1)).trans h2,h3,h4,h5,h6,fun i=>(h7 i).inCells (E:=A4 w O ρ n h) hcell,h8⟩
  |mapb es bs ck=>
   rw [hx]at hb
   obtain⟨h1,mes,h2,h3,h0,h4,h5⟩:=hb
   refine⟨h1,mes,(hother _ (hne e he h1)).trans h2,h3,h0,fun i p m hp hm=> ?_,h5⟩
   exact YC
  |fz T l=>
   rw [hx]at hb
   obtain⟨h1,h2,cs,hi,h3,h4⟩:=hb
   exact⟨h1,h2,cs,hi,(hother _ (hne e he h1)).trans h3,h4⟩
  |iter mst es bs ck left last=>
   rw [hx]at hb
   obtain⟨h1,h2,h3,sn,h4,h5⟩:=hb
   exact⟨h1,h2,h3,sn,(hother _ (hne e he h1)).trans h4,h5⟩
  |raw rs=>
   rw [hx]at hb
   obtain⟨h1,h2,⟨cs,el,h3,h4⟩,h5⟩:=hb
   refine⟨h1,h2,⟨cs,el,(hother _ (hne e he h1)).trans h3,h4⟩,fun i row hi=> ?_⟩
   obtain⟨h6,h7⟩:=h5 i row hi
   refine⟨h6,fun j c hj=> ?_⟩
   obtain⟨x,x1,x2,x3⟩:=h7 j c hj
   exact⟨x,(hcell _).trans x1,x2,x3.inCells (E:=A4 w O ρ n h) hcell⟩
 ·intro e he
  obtain⟨⟨cs,t,z,g1,g2,g3,g4⟩,g5⟩:=hr.gl e he
  have g1:w.heap[e.1]? =some (.cells cs t z):=g1
  have hne:e.1≠r:=fun e'=>by rw [e',hd]at g1;cases g1
  refine⟨⟨cs,t,z,(hother _ hne).trans g1,g2,g3,g4⟩,fun j c hj=> ?_⟩
  obtain⟨x,x1,x2,x3,x4,x5⟩:=g5 j c hj
  exact⟨x,(hcell _).trans x1,x2,x3,x4,x5.inCells (E:=A2Y w fun x=>Own ρ h x∨O x) hcell⟩
theorem B3j{P:Program}{bs:Option Nat}{O:Nat→Prop}{ρ:Nat→Loc}{s:St}: ∀(ds:List Deferred) (w:World) (fr:Frame) (cs:List Frame),fr.mode= .returning→fr.defers=ds→A6O P bs (A4 w O ρ s.n s.h) ds→HeapR w O ρ s.n s.h→
  ∃w',Steps P (lone fr cs w) (lone {fr with defers:= []} cs w')∧HeapR w' O ρ s.n s.h∧Wd w w'∧ ∀x,(∀a,w'.cell? a=w.cell? a)∧((∀b,bs=some b→x<b)→w'.heap[x]? =w.heap[x]?)
 | [],w,fr,cs,_,hd,_,hr=>⟨w,by rw [←hd];exact .refl _ _,hr,Wd.refl _,fun x=>⟨fun _=>rfl,fun _=>rfl⟩⟩
 | d::ds,w,fr,cs,hm,hd,hk,hr=>by
  have hn:=List.pairwise_cons.1 hk.2.1
  have hbs:bs≠none:=fun e=>by have:=hk.1 e;cases this
  rcases hk.2.2 d List.mem_cons_self with⟨fv,cap,f,args,q1,q2,q3⟩|⟨r,rfl,h2,h3,h4⟩
  ·have s1:=step_defer (P:=P) (cs:=cs) (by rw [hm];simp) hd q1 (q2 w)
   obtain⟨e,u',w1,frX,⟨⟨v,rfl⟩,rfl,rfl⟩,hsteps,hkX,hgo⟩:=q3 w {fr with defers:=ds} cs hm
   have s2:=step_going_returned (c:={{fr with defers:=ds}with mode:= .returning}) (cs:=cs) hkX hgo
   have hk1:A6O P bs (A4 w1 O ρ s.n s.h) ds:=⟨fun e=>(hbs e).elim,hn.2,fun d hd'=>hk.2.2 d (List.mem_cons_of_mem _ hd')⟩
   have hset:settle FrameMode.returning= .returning:=rfl
   obtain⟨w',t1,t2,t3,t4⟩:=B3j (P:=P) ds w1 {fr with defers:=ds} cs hm rfl hk1 hr
   refine⟨w',.head s1 (Steps.trans hsteps (.head s2 ?_)),t2,t3,t4⟩
   rw [hset]
   have e1:({{{fr with defers:=ds}with mode:= .returning}with mode:= .returning}:Frame)={fr with defers:=ds}:=by rw [←hm]
   rw [e1]
   exact t1
  have h4:w.heap[r]? =some (.deferred (some [])):=h4
  have s1:=step_collected (P:=P) (cs:=cs) (by rw [hm];simp) hd rfl (run_takeDeferred h4)
  obtain⟨hr1,hc1⟩:=hr.shut h3 h4
  have hk1:A6O P bs (A4 (w.putObj r (.deferred none)) O ρ s.n s.h) ds:=by
   refine⟨fun e=>(hbs e).elim,hn.2,fun d hd'=> ?_⟩
   rcases hk.2.2 d (List.mem_cons_of_mem _ hd')with hq|⟨r',rfl,g2,g3,g4⟩
   ·exact .inl hq
   have hne:r'≠r:=fun e=>by
    obtain⟨fv,cap,f,args,q1,_⟩:=hn.1 _ hd' zm
    cases q1
   exact .inr ⟨r',rfl,g2,g3,(World.putObj_heap_other hne).trans g4⟩
  obtain⟨w',t1,t2,t3,t4⟩:=B3j (P:=P) ds (w.putObj r (.deferred none)) {fr with defers:= []++ds} cs hm rfl hk1 hr1
  refine⟨w',.head s1 t1,t2,Wd.trans (Wd.setObj w r _) t3,fun x=>⟨fun a=>((t4 x).1 a).trans (hc1 a),fun hx=>((t4 x).2 hx).trans (World.putObj_heap_other (fun e=>by cases hb:bs with|none=>exact hbs hb|some b=>have:=hx b hb;have:=h2 b hb;omega))⟩⟩
theorem A0.enter{P:Program}{f:FuncId}{N:Nat}{ac:AC}{rs:List RV}{as:List V}{h:A2}{n:Nat}{Q:Res}(hc:B8 P f=some (N,ac,rs))(hl:as.length≤N)
  (hok:Run ⟨P,N,rs,Q,none,none⟩ [.code ac] ⟨A3 0 as,h,n⟩):A0 P f as h n Q:=by
 intro w O ρ cargs hr hR cs
 unfold B8 at hc
 split at hc
 ·rename_i fn hf
  split at hc
  ·rename_i code hb
   split at hc
   ·rename_i ac' rs' h1 h2
    injection hc with hc
    injection hc with e1 hc
    injection hc with e2 e3
    subst e1;subst e2;subst e3
    let b:Frame:={(default:Frame)with fn:=f,kind:= .normal,roundOf:=none}
    have henter:Frame.enter P f cargs .normal=b.atR {tmps:=cargs++Array.replicate (fn.ntmps-cargs.size) Go.undef,defers:= []} [.code code]:=by
     simp [Frame.enter,Frame.atR,hf,hb,b]
    have hsim:Sim P (some w.heap.size) fn.ntmps (A4 w O ρ n h) (A3 0 as) {tmps:=cargs++Array.replicate (fn.ntmps-cargs.size) Go.undef,defers:= []}:=by
     refine⟨by simp;have:=hR.1;omega,fun b e=>by injection e with e;exact e ▸ Nat.le_refl _,.nil,fun i=> ?_⟩
     rw [A9P,if_pos (Nat.zero_le _),Nat.sub_zero]
     cases hi:as[i]? with
     |none=>exact .undef _
     |some v=>
      have hlt:i<cargs.size:=by have:=(List.getElem?_eq_some_iff.1 hi).1;have:=hR.1;omega
      simp only [Array.getD_eq_getD_getElem?,Array.getElem?_append_left hlt,Array.getElem?_eq_getElem hlt,Option.getD_some]
      exact hR.2 i v _ hi zn
    rcases hok fn (some w.heap.size) ⟨fun _=>h2,rfl,.inl rfl⟩ O ρ _ w [.code code] b cs hr hsim rfl (.code h1 .nil)with⟨todo,a',w',ρ',s',rs',q1,q2,q3,q4,q5,q6⟩|⟨_,_,_,_,_,_,_,_,_,_,q,_⟩
    rotate_left
    ·exact q.elim
    rw [←henter]at q1
    obtain⟨w2,m1,m2,m3,m4⟩:=B3j (P:=P) (bs:=some w.heap.size) (O:=O) (ρ:=ρ') (s:=s') a'.defers w' {b.atR a' todo with mode:= .returning} cs rfl rfl q3.defers q2
    rw [h2]at q5
    injection q5 with q5
    subst q5
    have hx2:Ext (A4 w O ρ n h) (A4 w2 O ρ' s'.n s'.h):=⟨rfl,q4.n,q4.ρ,⟨Nat.le_trans q4.wd.size m3.size,m3.os.trans q4.wd.os,m3.out.trans q4.wd.out⟩,fun x hx ho=>by
     obtain⟨z1,z2⟩:=q4.blk x hx ho
     exact⟨((m4 x).2 fun b e=>by injection e with e;exact e ▸ hx).trans z1,z2⟩⟩
    have hs2:Sim P (some 0) fn.ntmps (A4 w2 O ρ' s'.n s'.h) s'.sl {a' with defers:= []}:=⟨q3.size,fun b e=>by injection e with e;exact e ▸ Nat.zero_le _,.nil,fun i=>(q3.slot i).inCells (fun a=>((m4 0).1 a))⟩
    unfold C9B at q6
    split at q6
    ·rename_i vs hvs
     obtain⟨v,g1,g2⟩:=C0w m2 hs2 h2 hvs
     exact⟨.returned v,w2,_,⟨v,_,_,_,ρ',rfl,q6,m2,g2,hx2⟩,q1.trans m1,rfl,rfl,rfl,rfl,fn,hf,g1⟩
    ·exact q6.elim
   ·cases hc
  ·cases hc
 ·cases hc
mutual
def V.sub(φ:Nat→Nat→Nat→Nat→V):V→V
 | .agg cs=> .agg (V.subL φ cs)
 | .tup cs=> .tup (V.subL φ cs)
 | .isl es=> .isl (V.subLL φ es)
 | .iptr es i j=> .iptr (V.subLL φ es) i j
 | .fn f cs=> .fn f (V.subL φ cs)
 | .sl b st i n=>φ b st i n
 | .ptr .. => .undef
 | .mp .. => .undef
 | .yld .. => .undef
 | .nils=> .isl []
 | .undef=> .undef
 | .bool b=> .bool b
 | .int k n=> .int k n
 | .str s=> .str s
 | .nilp=> .nilp
 | .nilm=> .nilm
 | .cst v=> .cst v
 | .err=> .err
 | .anyi k=> .anyi k
def V.subL(φ:Nat→Nat→Nat→Nat→V):List V→List V
 | []=> []
 |c::r=>V.sub φ c::V.subL φ r
def V.subLL(φ:Nat→Nat→Nat→Nat→V):List (List V)→List (List V)
 | []=> []
 |c::r=>V.subL φ c::V.subLL φ r
end
theorem A1Z(φ:Nat→Nat→Nat→Nat→V): ∀l,V.subL φ l=l.map (V.sub φ)
 | []=>by simp [V.subL]
 |c::r=>by simp [V.subL,A1Z φ r]
theorem A0g(φ:Nat→Nat→Nat→Nat→V): ∀l,V.subLL φ l=l.map fun r=>r.map (V.sub φ)
 | []=>by simp [V.subLL]
 |c::r=>by simp [V.subLL,A1Z φ c,A0g φ r]
theorem R.sub{E:Env}{φ:Nat→Nat→Nat→Nat→V}{O':Nat→Prop}(hO: ∀x,¬E.own x→ ¬E.O x→ ¬O' x)(hφ: ∀b st i n x,R E (.sl b st i n) x→R (A2Y E.w O') (φ b st i n) x){v:V}{x:Value}(h:R E v x):R (A2Y E.w O') (V.sub φ v) x:=by
 have row: ∀{es:List (List V)} {i:Nat} {row':List V},(V.subLL φ es)[i]? =some row'→ ∃row,es[i]? =some row∧row'=row.map (V.sub φ):=by
  intro es i row' hi
  rw [A0g,List.getElem?_map,Option.map_eq_some_iff]at hi
  obtain⟨row,h1,h2⟩:=hi
  exact⟨row,h1,h2.symm⟩
 have cell: ∀{row:List V} {j:Nat} {c':V},(row.map (V.sub φ))[j]? =some c'→ ∃c,row[j]? =some c∧c'=V.sub φ c:=by
  intro row j c' hj
  rw [List.getElem?_map,Option.map_eq_some_iff]at hj
  obtain⟨c,h1,h2⟩:=hj
  exact⟨c,h1,h2.symm⟩
 induction h with
 |undef v=>rw [V.sub];exact .undef v
 |bool b=>rw [V.sub];exact .bool b
 |int k n=>rw [V.sub];exact .int k n
 |str s=>rw [V.sub];exact .str s
 |agg cs vs hl h1 _ ih=>
  rw [V.sub,A1Z]
  refine .agg _ vs zy h1 fun i c v hc hv=> ?_
  exact YX
 |tup cs vs hl _ ih=>
  rw [V.sub,A1Z]
  refine .tup _ vs zy fun i c v hc hv=> ?_
  exact YX
 |nilp=>rw [V.sub];exact .nilp
 |ptr b st i j h=>rw [V.sub];exact .undef _
 |nils=>rw [V.sub];exact .isl0 none 0
 |sl b st i n cap h hn hc=>rw [V.sub];exact hφ b st i n _ (.sl b st i n cap h hn hc)
 |sl0 b st i a=>rw [V.sub];exact hφ b st i 0 _ (.sl0 b st i a)
 | isl es p cap sz f hp hcap hrow hcell _ ih=>
  rw [V.sub]
  have:=R.isl (E:=A2Y E.w O') (V.subLL φ es) p cap sz f hp (by rw [A0g];simpa using hcap) (fun i row' hi=>by
   obtain⟨row,h1,rfl⟩:=row hi
   rw [List.length_map];exact hrow i row h1) (fun i row' j c' hi hj=>by
   obtain⟨row,h1,rfl⟩:=row hi
   obtain⟨c,h2,rfl⟩:=cell hj
   obtain⟨q1,q2,q3,q4⟩:=hcell i row j c h1 h2
   exact⟨q1,q2,fun h=>h,hO _ q3 q4⟩) (fun i row' j c' hi hj=>by
   obtain⟨row,h1,rfl⟩:=row hi
   obtain⟨c,h2,rfl⟩:=cell hj
   exact ih i row j c h1 h2)
  rw [show es.length=(V.subLL φ es).length from by rw [A0g];simp]
  exact this
 |isl0 a cap=>rw [V.sub,V.subLL];exact .isl0 a cap
 | iptr es i0 j0 p sz f hp hrow hcell _ ih=>
  rw [V.sub]
  exact R.iptr (E:=A2Y E.w O') (V.subLL φ es) i0 j0 p sz f hp (fun i row' hi=>by
   obtain⟨row,h1,rfl⟩:=row hi
   rw [List.length_map];exact hrow i row h1) (fun i row' j c' hi hj=>by
   obtain⟨row,h1,rfl⟩:=row hi
   obtain⟨c,h2,rfl⟩:=cell hj
   obtain⟨q1,q2,q3,q4⟩:=hcell i row j c h1 h2
   exact⟨q1,q2,fun h=>h,hO _ q3 q4⟩) (fun i row' j c' hi hj=>by
   obtain⟨row,h1,rfl⟩:=row hi
   obtain⟨c,h2,rfl⟩:=cell hj
   exact ih i row j c h1 h2)
 |nilm=>rw [V.sub];exact .nilm
 |mp b st h=>rw [V.sub];exact .undef _
 |yld b st h=>rw [V.sub];exact .undef _
 |fn f cs vs hl _ ih=>
  rw [V.sub,A1Z]
  refine .fn f _ vs zy fun i c v hc hv=> ?_
  exact YX
 |cst v=>rw [V.sub];exact .cst v
 |err t v=>rw [V.sub];exact .err t v
 |anyi k n=>rw [V.sub];exact .anyi k n
def I6:Nat→Nat→Nat→Nat→V:=fun _ _ _ _=> .undef
def frz:Nat→A2→V→V
 |0,_=>V.sub I6
 |d+1,h=>V.sub fun b st i n=>match A4E h (.sl b st i n)with
  |some rs=> .isl (rs.map fun r=>r.map (frz d h))
  |none=> .undef
theorem R.frz{w:World}{O:Nat→Prop}{ρ:Nat→Loc}{h:A2}{n:Nat}(hr:HeapR w O ρ n h): ∀(d:Nat) {v:V} {x:Value},R (A4 w O ρ n h) v x→R (A2Y w O) (frz d h v) x
 |0,_,_,hR=>R.sub (fun _ _ h=>h) (fun _ _ _ _ _ _=> .undef _) hR
 | d + 1, v,x,hR=>by
  refine R.sub (E:=A4 w O ρ n h) (fun _ _ h=>h) (fun b st i m x hsl=> ?_) hR
  split
  ·rename_i rs hv
   simp only [A4E]at hv
   ·skip
    split at hv
    ·rename_i sz rs' hg
     cases hb:Nat.ble (i+m) rs'.length with
     |false=>rw [hb]at hv;cases hv
     | true=>
      rw [hb,cond_true]at hv
      injection hv with hv
      have hle:=Nat.le_of_ble_eq_true hb
      have hl:rs.length=m:=by rw [←hv];simp;omega
      cases hsl with
      | sl _ _ _ _ cap hst hn hc=>
       obtain⟨hsz,hlen,hcell,hrows⟩:=hr.blk _ (A2.mem_of_get hg)
       have hsz':(ρ st).sz=sz:=hsz
       have get: ∀{q:Nat} {row:List V},rs[q]? =some row→rs'[i+q]? =some row:=by
        intro q row hq
        rw [←hv,List.getElem?_take]at hq
        exact KL
       have hex: ∀(q j:Nat),∃y,∀row c,rs[q]? =some row→row[j]? =some c→w.cell? ⟨(ρ st).blk,(ρ st).off+i*(ρ st).sz+q*sz+j,none⟩=some y∧y.oneCell'=true∧R (A4 w O ρ n h) c y:=by
        intro q j
        cases hq:rs[q]? with
        |none=>exact⟨Go.undef,fun row c h=>by cases h⟩
        | some row=>
         exact JD
       let f:=fun q j=>(hex q j).choose
       have hf:=fun q j=>(hex q j).choose_spec
       have unmap: ∀{q:Nat} {row':List V},(rs.map fun r=>r.map (Go.Abs.frz d h))[q]? =some row'→ ∃row,rs[q]? =some row∧row'=row.map (Go.Abs.frz d h):=by
        intro q row' hq
        rw [List.getElem?_map,Option.map_eq_some_iff]at hq
        obtain⟨row,h1,h2⟩:=hq
        exact⟨row,h1,h2.symm⟩
       by_cases hm:m=0
       ·subst hm
        exact Kg
       have hc0:(ρ st).cap≠0:=by have hc':i+cap≤(ρ st).cap:=hc;omega
       have hnotO: ¬O (ρ st).blk:=hr.notO _ (A2.mem_of_get hg) hc0
       have hmain:=R.isl (E:=A2Y w O) (rs.map fun r=>r.map (Go.Abs.frz d h)) ⟨(ρ st).blk,(ρ st).off+i*(ρ st).sz,none⟩ cap sz f rfl zr (fun q row' hq=>by
        obtain⟨row,h1,rfl⟩:=unmap hq
        rw [List.length_map];exact(hrows _ row (get h1)).1) (fun q row' j c' hq hj=>by
        obtain⟨row,h1,rfl⟩:=unmap hq
        rw [List.getElem?_map,Option.map_eq_some_iff]at hj
        obtain⟨c,h2,rfl⟩:=hj
        obtain⟨q1,q2,_⟩:=hf q j row c h1 h2
        exact⟨q1,q2,fun h=>h,hnotO⟩) (fun q row' j c' hq hj=>by
        obtain⟨row,h1,rfl⟩:=unmap hq
        rw [List.getElem?_map,Option.map_eq_some_iff]at hj
        obtain⟨c,h2,rfl⟩:=hj
        exact R.frz hr d (hf q j row c h1 h2).2.2)
       rw [show m=(rs.map fun r=>r.map (Go.Abs.frz d h)).length from by simp [hl]]
       exact hmain
      |sl0 _ _ _ a=>
       exact Kg
    ·cases hb:Nat.beq m 0 with
     |false=>rw [hb]at hv;cases hv
     |true=>
      rw [hb,cond_true]at hv
      injection hv with hv
      have:=Nat.eq_of_beq_eq_true hb
      subst this
      subst hv
      obtain⟨p,c,hp⟩:=hsl.sl_inv
      rw [hp]
      exact .isl0 _ _
  ·exact .undef _
def Pure(P:Program)(f:FuncId)(as:List V)(r:V):Prop:=
 ∀w O cargs,(∀x,O x→x<w.heap.size)→GlR (A2Y w O)→RL (A2Y w O) as cargs→Calls P f cargs w fun e w'=>
  ∃v,e= .returned v∧R (A2Y w' O) r v∧Wd w w'∧ ∀x,x<w.heap.size→w'.heap[x]? =w.heap[x]?
theorem D5L(w:World)(O:Nat→Prop)(ρ:Nat→Loc):Ext (A2Y w O) (A4 w O ρ 0 []):=
 ⟨rfl,Nat.le_refl _,fun st h=>absurd h (Nat.not_lt_zero _),Wd.refl _,fun _ _ _=>⟨rfl,fun⟨e,he,_⟩=>by cases he⟩⟩
theorem Pure.of{P:Program}{f:FuncId}{as:List V}{res:V}(d:Nat)(h:A0 P f as [] 0 fun r h _=>frz d h r=res):Pure P f as res:=by
 intro w O cargs hO hgl hR
 have hr:HeapR w O (fun _=>default) 0 []:=⟨by simp,by simp,hO,by simp,by simp,hgl.mono (D5L w O _).imm⟩
 refine(h w O _ cargs hr ⟨hR.1,fun i c v hc hv=>(hR.2 i c v hc hv).mono (D5L w O _)⟩).mono ?_
 rintro e w' ⟨v,r,h',n',ρ',rfl,hk,hr',hRv,hx⟩
 refine⟨v,rfl,?_,hx.wd,fun x hx'=>(hx.blk x hx' fun⟨e,he,_⟩=>by cases he).1⟩
 rw [←hk]
 exact R.frz hr' d hRv
theorem A0.pure{P:Program}{f:FuncId}{as as':List V}{r:V}{h:A2}{n:Nat}{k:Res}(hp:Pure P f as r)(has:as'.map (V.sub I6)=as)(hk:k r h n):A0 P f as' h n k:=by
 intro w O ρ cargs hr hR
 have hb: ∀x,Own ρ h x∨O x→x<w.heap.size:=fun x hx=>hx.elim (fun h=>hr.real h) (fun h=>hr.out x h)
 refine(hp w (fun x=>Own ρ h x∨O x) cargs hb (hr.gl.to (Nat.le_refl _) fun x _ h1 h2=>⟨rfl,fun h=>h,fun h=>h.elim h1 h2⟩) ?_).mono ?_
 ·refine⟨by rw [←has,List.length_map];exact hR.1,fun i c v hc hv=> ?_⟩
  rw [←has,List.getElem?_map,Option.map_eq_some_iff]at hc
  obtain⟨c0,hc0,rfl⟩:=hc
  exact R.sub (E:=A4 w O ρ n h) (fun x h1 h2 h3=>h3.elim h1 h2) (fun _ _ _ _ _ _=> .undef _) (hR.2 i c0 v hc0 hv)
 ·rintro e w' ⟨v,rfl,hRv,hs,hold⟩
  obtain⟨hr',hx⟩:=hr.world hs hold
  exact⟨v,r,h,n,ρ,rfl,hk,hr',R.back (E:=A4 w' O ρ n h) rfl (fun x hx=>⟨fun h=>hx (.inl h),fun h=>hx (.inr h)⟩) hRv,hx⟩
mutual
def A9Z:V→Bool
 | .agg cs| .tup cs| .fn _ cs=>flatL cs
 | .isl es=>es.isEmpty
 | .iptr .. =>false
 |_=>true
def flatL:List V→Bool
 | []=>true
 |c::r=>A9Z c&&flatL r
end
theorem A9B: ∀{l:List V} {i:Nat} {c:V},flatL l=true→l[i]? =some c→A9Z c=true
 | [],i,c,_,h=>by simp at h
 |x::r,i,c,hf,h=>by
  simp only [flatL,Bool.and_eq_true]at hf
  cases i with
  |zero=>simp at h;subst h;exact hf.1
  |succ i=>exact A9B hf.2 zp
theorem R.flat{E:Env}{w:World}{O':Nat→Prop}{v:V}{x:Value}(h:R (A2Y w O') v x)(hf:A9Z v=true):R E v x:=by
 induction h with
 |undef v=>exact .undef v
 |bool b=>exact .bool b
 |int k n=>exact .int k n
 |str s=>exact .str s
 |agg cs vs hl h1 _ ih=>rw [A9Z]at hf;exact .agg cs vs hl h1 fun i c v hc hv=>ih i c v hc hv (A9B hf hc)
 |tup cs vs hl _ ih=>rw [A9Z]at hf;exact .tup cs vs hl fun i c v hc hv=>ih i c v hc hv (A9B hf hc)
 |nilp=>exact .nilp
 |ptr b st i j h=>exact absurd h (Nat.not_lt_zero _)
 |nils=>exact .nils
 |sl b st i n cap h hn hc=>exact absurd h (Nat.not_lt_zero _)
 |sl0 b st i a=>exact .sl0 b st i a
 |isl es p cap sz f hp hcap hrow hcell _ ih=>
  rw [A9Z]at hf
  have:es= []:=by simpa using hf
  subst this
  exact .isl0 _ _
 |isl0 a cap=>exact .isl0 a cap
 |iptr es i0 j0 p sz f=>rw [A9Z]at hf;cases hf
 |nilm=>exact .nilm
 |mp b st h=>exact absurd h (Nat.not_lt_zero _)
 |yld b st h=>exact absurd h (Nat.not_lt_zero _)
 |fn f cs vs hl _ ih=>rw [A9Z]at hf;exact .fn f cs vs hl fun i c v hc hv=>ih i c v hc hv (A9B hf hc)
 |cst v=>exact .cst v
 |err t v=>exact .err t v
 |anyi k n=>exact .anyi k n
theorem A0.view{P:Program}{f:FuncId}{as as':List V}{r:V}{h:A2}{n:Nat}{k:Res}(hp:Pure P f as r)(d:Nat)(has:as'.map (frz d h)=as)(hf:A9Z r=true)(hk:k r h n):A0 P f as' h n k:=by
 intro w O ρ cargs hr hR
 refine(hp w O cargs hr.out (hr.gl.to (Nat.le_refl _) fun x _ h1 h2=>⟨rfl,fun h=>h,h2⟩) ?_).mono ?_
 ·refine⟨by rw [←has,List.length_map];exact hR.1,fun i c v hc hv=> ?_⟩
  rw [←has,List.getElem?_map,Option.map_eq_some_iff]at hc
  obtain⟨c0,hc0,rfl⟩:=hc
  exact R.frz hr d (hR.2 i c0 v hc0 hv)
 ·rintro e w' ⟨v,rfl,hRv,hs,hold⟩
  obtain⟨hr',hx⟩:=hr.world hs hold
  exact⟨v,r,h,n,ρ,rfl,hk,hr',hRv.flat hf,hx⟩
theorem A0.frame{P:Program}{f:FuncId}{as:List V}{h h1 rest:A2}{n:Nat}{k k1:Res}(hc:A0 P f as h1 n k1)(hs1: ∀e∈h1,e∈h)(hs2: ∀e∈rest,e∈h∧ ∀e'∈h1,e'.1≠e.1)
  (hk: ∀r h' n',n≤n'→k1 r h' n'→k r (h'++rest) n'):A0 P f as h n k:=by
 intro w O ρ cargs hr hR
 let O':Nat→Prop:=fun x=>O x∨Own ρ rest x
 have hsub: ∀x,Own ρ h1 x→Own ρ h x:=fun x ⟨e,he,hc⟩=>⟨e,hs1 e he,hc⟩
 have hsub2: ∀x,Own ρ rest x→Own ρ h x:=fun x ⟨e,he,hc⟩=>⟨e,(hs2 e he).1,hc⟩
 have hi:Imm (A4 w O ρ n h) (A4 w O' ρ n h1):=⟨Nat.le_refl _,fun _ _=>rfl,Nat.le_refl _,fun x _ ho hO=>⟨rfl,fun h=>ho (hsub x h),fun h=>h.elim hO fun h=>ho (hsub2 x h)⟩⟩
 have hdis: ∀e∈h1,(ρ e.2.1).cap≠0→ ¬Own ρ rest (ρ e.2.1).blk:=by
  exact YH
 have hr1:HeapR w O' ρ n h1:=⟨fun e he=>hr.lt e (hs1 e he),fun e he e' he'=>hr.inj e (hs1 e he) e' (hs1 e' he'),fun x hx=>hx.elim (hr.out x) fun h=>hr.real (hsub2 x h),
  fun e he hc hO=>hO.elim (hr.notO e (hs1 e he) hc) (hdis e he hc),fun e he=>(hr.blk e (hs1 e he)).monoI hi (hr.lt e (hs1 e he)) fun _=>rfl,hr.gl.mono hi⟩
 refine(hc w O' ρ cargs hr1 ⟨hR.1,fun i c v hc hv=>(hR.2 i c v hc hv).monoI hi⟩).mono ?_
 rintro e w' ⟨v,r,h',n',ρ',rfl,hk1,hr',hRv,hx⟩
 have hlt: ∀e∈rest,e.2.1<n:=fun e he=>hr.lt e (hs2 e he).1
 have hρ: ∀e∈rest,ρ' e.2.1=ρ e.2.1:=fun e he=>hx.ρ _ (hlt e he)
 have hnot1: ∀x,Own ρ rest x→ ¬Own ρ h1 x:=by
  rintro x hx' ⟨e,he,hc,rfl⟩
  exact hdis e he hc hx'
 have hreal: ∀x,Own ρ rest x→x<w.heap.size:=fun x h=>hr.real (hsub2 x h)
 have hown: ∀x,Own ρ' (h'++rest) x→Own ρ' h' x∨Own ρ rest x:=by
  rintro x ⟨e,he,hc,hb⟩
  rcases List.mem_append.1 he with he|he
  ·exact .inl ⟨e,he,hc,hb⟩
  ·rw [hρ e he]at hc hb
   exact .inr ⟨e,he,hc,hb⟩
 have hxall:Ext (A4 w O ρ n h) (A4 w' O ρ' n' (h'++rest)):=by
  exact XA
 exact Xl
end Go.Abs
