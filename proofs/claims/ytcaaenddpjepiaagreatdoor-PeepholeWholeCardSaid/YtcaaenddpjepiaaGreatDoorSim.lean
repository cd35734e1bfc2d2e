/-
 The evaluator of abstract code, functions and their contracts. No condition.
-/
import Derived.Test.YtcaaenddpjepiaaGreatDoorComp
set_option linter.unusedVariables false
set_option linter.unusedSimpArgs false
namespace Go.Abs
section
structure Cf where
 P:Program
 N:Nat
 rs:List RV
 Q:Res
 rd:Option (Nat×Nat)
def Run(c:Cf)(k:List AItem)(s:St):Prop:= ∀fn bs,(c.rd=none→A6W c.P fn.results.toList=some c.rs)→OK ⟨c.P,fn,c.N,c.Q,bs,c.rd⟩ k s
def C7b(c:Cf)(s:St):Prop:=
 match A9y s c.rs with
 |some vs=>c.Q (B2K vs) s.h s.n
 |none=>False
def vo(P:Program):List AI→(St→Prop)→St→Prop
 | [],K,s=>K s
 |i::r,K,s=>G4 P i s (vo P r K)
def B4Q(P:Program):List (List AI)→(St→Prop)→St→Prop
 | [],_,_=>True
 |l::r,K,s=>vo P l K s∧B4Q P r K s
def B2n(v:V)(A B:Prop):Prop:=
 match v with
 | .bool b=>(b=true→A)∧(b=false→B)
 |_=>False
def B5T(k:Option (List AItem))(f:List AItem→Prop)(g:Prop):Prop:=
 match k with
 |some k=>f k
 |none=>g
def A5c(c:Cf)(j:Option Code)(s:St):Prop:=
 match c.rd with
 |none=>match j with
  |some (.exit _)=>False
  |_=>C7b c s
 |some q=>C7d q j c.Q s
def C1o(K:List AItem→St→Prop)(k:List AItem):Option Code→St→Prop
 |none,s=>K k s
 |some .ret,s=>K (.code .ret::k) s
 |some (.exit id),s=>K (.code (.exit id)::k) s
 |_,_=>False
def C7e(c:Cf)(nm:Nat)(v:V)(ps:List Nat)(x y:AC)(s:St)(K:Option Code→St→Prop):Prop:=
 match v with
 | .fn f cs=>K8 c.P f=true∧c.rd=none∧A0 c.P f (.yld nm s.n::cs) (A2.put s.h nm s.n (.loop c.N s.sl ps (A2u c.P c.N x y) .ready none)) (s.n+1) (C4e nm s.n s.sl K)
 |_=>False
def D2L(c:Cf)(s:St)(K:St→Prop):Prop:=
 match c.rd with
 |none=>False
 |some q=>C5O q s K
def know(s:St)(x:Opd)(b:Bool):St:=
 match x with
 | .t i=>⟨I2 s.sl i (.bool b),s.h,s.n⟩
 |_=>s
def C1b(b:Bool)(A:Prop):Prop:=
 match b with
 |false=>A
 |true=>False
def D6v(rd:Option (Nat×Nat))(A:Prop):Prop:=
 match rd with
 |none=>A
 |some _=>False
def go(c:Cf):Nat→List AItem→St→Prop
 |0,k,s=>Run c k s
 |_+1,[],s=>A5c c none s
 |m+1,.code .skip::k,s=>go c m k s
 |m+1,.code (.ops l)::k,s=>B4Q c.P l (go c m k) s
 |_+1,.code .bad::_,_=>False
 |m+1,.code (.seq a b)::k,s=>go c m (.code a:: .code b::k) s
 |m+1,.code (.cond x a b)::k,s=>B2n (s.ev x) (go c m (.code a::k) (know s x true)) (go c m (.code b::k) (know s x false))
 |m+1,.code (.block id a)::k,s=>go c m (.code a:: .blk id::k) s
 |_+1,.code (.loop a)::k,s=>Run c (.code (.loop a)::k) s
 |m+1,.code (.exit id)::k,s=>C1b (Nat.beq 999999999 id) (B5T (A0O id k) (fun k'=>go c m k' s) (A5c c (some (.exit id)) s))
 |_+1,.code .ret::_,s=>A5c c (some .ret) s
 |m+1,.code (.dfr d)::k,s=>D6v c.rd (go c m k ⟨I2 s.sl d .undef,s.h,s.n⟩)
 |m+1,.code (.rng nm g ps x y)::k,s=>C7e c nm (s.ev g) ps x y s (C1o (fun k' s'=>go c m k' s') k)
 |m+1,.blk _::k,s=>go c m k s
 |_+1,.lp a::k,s=>Run c (.lp a::k) s
 |m+1,.beg::k,s=>D2L c s (go c m k)
section
variable {c:Cf} {k:List AItem} {s:St}
theorem C5D{P:Program}: ∀{l:List AI} {K:St→Prop} {s:St},vo P l K s→A6r P l s K
 | [],_,_,h=>h
 |_::_,_,_,h=>A5A (fun _=>C5D) h
theorem B9d{P:Program}{K:St→Prop}{s:St}: ∀{b:List (List AI)},B4Q P b K s→ ∀l∈b,vo P l K s
 | [],_,l,a=>by cases a
 |x::r,h,l,a=>by
  rcases List.mem_cons.1 a with rfl|a
  ·exact h.1
  ·exact B9d h.2 l a
theorem B8x{a:Func}{bs:Nat}{x:Opd}{b:Bool}(d:s.ev x= .bool b)(h:OK ⟨c.P,a,c.N,c.Q,bs,c.rd⟩ k (know s x b)):OK ⟨c.P,a,c.N,c.Q,bs,c.rd⟩ k s:=by
 cases x with
 |t i=>
  refine OK.resp ⟨I2 s.sl i (.bool b),s.h,s.n⟩ s ⟨fun j=>d7 d j,rfl,rfl⟩ h
 |c v=>exact h
 |f g=>exact h
 |g g=>exact h
theorem A5V{u:Func}{bs:Nat}(j:c.rd=none→A6W c.P u.results.toList=some c.rs): ∀(m:Nat) (k:List AItem) (s:St),go c m k s→OK ⟨c.P,u,c.N,c.Q,bs,c.rd⟩ k s
 |0,_,_,h=>h u bs j
 |m+1,[],s,h=>by
  simp only [go,A5c]at h
  cases i:c.rd with
  |none=>rw [i]at h;exact OK.nil rfl (j i) h
  |some q=>rw [i]at h;exact OK.nilR (q:=q) rfl h
 |m+1,.code .skip::k,s,h=>OK.skip (A5V j m k s h)
 |m+1,.code (.ops l)::k,s,h=>OK.ops fun F C=>B7L (fun K E=>A5V j m k K E) (C5D (B9d h F C))
 |m+1,.code .bad::k,s,h=>h.elim
 |m+1,.code (.seq a b)::k,s,h=>OK.seq (A5V j m _ s h)
 | m+1,.code (.cond x a b)::k,s,h=>by
  simp only [go,B2n]at h
  split at h
  ·rename_i t z
   exact OK.cond z (fun e=>B8x (by rw [z,e]) (A5V j m _ _ (h.1 e))) (fun e=>B8x (by rw [z,e]) (A5V j m _ _ (h.2 e)))
  ·exact h.elim
 |m+1,.code (.block id a)::k,s,h=>OK.block (A5V j m _ s h)
 |m+1,.code (.loop a)::k,s,h=>h u bs j
 | m+1,.code (.exit id)::k,s,h=>by
  simp only [go]at h
  cases hsc:Nat.beq 999999999 id with
  |true=>rw [hsc]at h;exact h.elim
  |false=>
  rw [hsc]at h
  have h:B5T (A0O id k) (fun A=>go c m A s) (A5c c (some (.exit id)) s):=h
  simp only [B5T]at h
  split at h
  ·rename_i A n;exact OK.exit hsc n (A5V j m A s h)
  ·rename_i n
   simp only [A5c]at h
   cases i:c.rd with
   |none=>rw [i]at h;exact h.elim
   |some q=>rw [i]at h;exact OK.exitR (q:=q) rfl hsc n h
 |m+1,.code .ret::k,s,h=>by
  simp only [go,A5c]at h
  cases i:c.rd with
  |none=>rw [i]at h;exact OK.ret rfl (j i) h
  |some q=>rw [i]at h;exact OK.retR (q:=q) rfl h
 | m+1,.code (.dfr d)::k,s,h=>by
  simp only [go]at h
  cases i:c.rd with
  |none=>
   rw [i]at h
   have:=A5V (bs:=bs) j m k ⟨I2 s.sl d .undef,s.h,s.n⟩ h
   rw [i]at this
   exact OK.dfr rfl this
  |some q=>rw [i]at h;exact h.elim
 | m+1,.code (.rng nm g I x y)::k,s,h=>by
  simp only [go,C7e]at h
  split at h
  ·rename_i f M H
   obtain⟨G,i,J⟩:=h
   refine OK.rng i H G (B1l (fun r E L v=> ?_) J)
   unfold C4e at v⊢
   split at v
   ·rename_i D w _
    refine⟨v.1,?_⟩
    have o:=v.2
    unfold C1o at o
    split at o
    ·exact A5V j m _ _ o
    ·exact A5V j m _ _ o
    ·exact A5V j m _ _ o
    ·exact o.elim
   ·exact v.elim
  ·exact h.elim
 |m+1,.blk id::k,s,h=>OK.blk (A5V j m k s h)
 |m+1,.lp a::k,s,h=>h u bs j
 | m +1,.beg::k,s,h=>by
  simp only [go,D2L]at h
  cases i:c.rd with
  |none=>rw [i]at h;exact h.elim
  | some q=>
   rw [i]at h
   refine OK.beg (q:=q) rfl ?_
   have h:C5O q s (go c m k):=h
   show C5O q s _
   unfold C5O at h⊢
   cases hg:A2.get s.h q.1 q.2 with
   |none=>rw [hg]at h;exact h.elim
   | some B=>
    rw [hg]at h
    cases B with
    |rows R Q=>exact h.elim
    |map O=>exact h.elim
    |mapb=>exact h.elim
    |iter=>exact h.elim
    |raw=>exact h.elim
    | loop N P I p D w=>
     cases D with
     |ready=>
      have:=A5V (bs:=bs) j m _ _ h
      rw [i]at this
      exact this
     |busy=>exact h.elim
     |done=>exact h.elim
     |exhausted=>exact h.elim
theorem Run.go(m:Nat)(h:go c m k s):Run c k s:=fun _ _ a=>A5V a m k s h
theorem Run.weak{s':St}(d:C1 s s')(h:Run c k s'):Run c k s:=fun f b a=>OK.weak d (h f b a)
theorem Run.lp{x:AC}(h:Run c (.code x:: .lp x::k) s):Run c (.lp x::k) s:=fun f b a=>OK.lp (h f b a)
theorem Run.loop{x:AC}(h:Run c (.code x:: .lp x::k) s):Run c (.code (.loop x)::k) s:=fun f b a=>OK.loop (h f b a)
theorem Run.rounds{α:Type}{x:AC}(S:α→St)(J:α→Prop)(μ:α→Nat)(a:α)(b:C1 s (S a))(g:J a)
  (r: ∀y,J y→(∀s z,J z→μ z<μ y→C1 s (S z)→Run c (.lp x::k) s)→Run c (.code x:: .lp x::k) (S y)):Run c (.code (.loop x)::k) s:=by
 have d: ∀m y,μ y=m→J y→Run c (.code x:: .lp x::k) (S y):=by
  intro m
  induction m using Nat.strongRecOn with
  |_ m i=>
   intro y f j
   exact r y j fun s z e h b=>Run.weak b (Run.lp (i (μ z) (f ▸ h) z rfl e))
 exact Run.loop (Run.weak b (d _ a rfl g))
end
def B8(P:Program)(f:FuncId):Option (Nat×AC×List RV):=
 match P.funcs[f]? with
 | some fn=>match fn.body with
  |some code=>match Y6 P (f*10000) fn.ntmps code,A6W P fn.results.toList with
   |some ac,some rs=>some (fn.ntmps,ac,rs)
   |_,_=>none
  |none=>none
 |none=>none
def A4:Nat→List V→List (Nat×V)
 |_,[]=> []
 |i,a::r=>A4 (i+1) r++ [(i,a)]
theorem B4M: ∀(l a:List (Nat×V)) (i:Nat),(∀p∈l,p.1≠i)→D9 (l++a) i=D9 a i
 | [],_,_,_=>rfl
 | p::r,a,i,h=>by
  have:Nat.beq p.1 i=false:=by
   cases hb:Nat.beq p.1 i with
   |false=>rfl
   |true=>exact(h p List.mem_cons_self (Nat.eq_of_beq_eq_true hb)).elim
  simp only [List.cons_append,D9,this,cond_false]
  exact B4M r a i fun q b=>h q (List.mem_cons_of_mem _ b)
theorem A9A: ∀(l a:List (Nat×V)) (i:Nat) (p:Nat×V),(∀q∈a,q.1≠i)→D9 (l++a) i=D9 l i
 | [],a,i,p,h=>by
  induction a with
  |nil=>rfl
  | cons q r b=>
   have:Nat.beq q.1 i=false:=by
    cases hb:Nat.beq q.1 i with
    |false=>rfl
    |true=>exact(h q List.mem_cons_self (Nat.eq_of_beq_eq_true hb)).elim
   simp only [List.nil_append,D9,this,cond_false]
   exact b fun x c=>h x (List.mem_cons_of_mem _ c)
 |q::r,a,i,p,h=>by
  simp only [List.cons_append,D9]
  cases Nat.beq q.1 i with
  |true=>rfl
  |false=>exact A9A r a i p h
theorem C5f: ∀(b:List V) (k:Nat),∀p∈A4 k b,k≤p.1
 | [],_,p,h=>by cases h
 |a::r,k,p,h=>by
  rcases List.mem_append.1 h with h|h
  ·have:=C5f r (k+1) p h;omega
  ·rw [List.mem_singleton.1 h];exact Nat.le_refl _
theorem B0P: ∀(c:List V) (k i:Nat),D9 (A4 k c) i=if k≤i then(c[i-k]?).getD .undef else .undef
 | [],k,i=>by simp [A4,D9]
 | a::r,k,i=>by
  simp only [A4]
  by_cases h:k=i
  ·subst h
   rw [B4M _ _ _ fun p b=>by have:=C5f r (k+1) p b;omega]
   simp [D9]
  ·rw [A9A _ _ _ (0,.undef) fun p b=>by rw [List.mem_singleton.1 b];exact h,B0P r (k+1) i]
   by_cases d:k≤i
   ·rw [if_pos zd,if_pos d,show i-k=(i-(k+1))+1 from by omega,List.getElem?_cons_succ]
   ·rw [if_neg zd,if_neg d]
theorem R.inCells{E:Env}{w:World}(A: ∀a,w.cell? a=E.w.cell? a){v:V}{x:Value}(h:R E v x):R {E with w:=w} v x:=by
 induction h with
 |undef v=>exact .undef v
 |bool b=>exact .bool b
 |int k n=>exact .int k n
 |str s=>exact .str s
 |agg q y o u _ m=>exact .agg q y o u m
 |tup q y o _ m=>exact .tup q y o m
 |nilp=>exact .nilp
 |ptr b l i j h=>exact .ptr (E:={E with w:=w}) b l i j h
 |nils=>exact .nils
 |sl b l i n g h J A=>exact .sl (E:={E with w:=w}) b l i n g h J A
 |sl0 b l i a=>exact .sl0 b l i a
 | isl C p g H f G z e d _ m=>
  exact .isl (E:={E with w:=w}) C p g H f G z e (fun i r j c u D=>by
   obtain⟨B,F⟩:=d i r j c u D
   exact⟨(A _).trans B,F⟩) m
 |isl0 a g=>exact .isl0 a g
 | iptr C K I p H f G e d _ m=>
  exact .iptr (E:={E with w:=w}) C K I p H f G e (fun i r j c u D=>by
   obtain⟨B,F⟩:=d i r j c u D
   exact⟨(A _).trans B,F⟩) m
 |nilm=>exact .nilm
 |mp b l h=>exact .mp (E:={E with w:=w}) b l h
 |yld b l h=>exact .yld (E:={E with w:=w}) b l h
 |fn f q y o _ m=>exact .fn f q y o m
 |cst v=>exact .cst v
 |err t v=>exact .err t v
 |anyi k n=>exact .anyi k n
theorem HeapR.shut{w:World}{O:Nat→Prop}{ρ:Nat→Loc}{n:Nat}{h:A2}{r:Nat}(I:HeapR w O ρ n h)(X: ¬Own ρ h r)(S:w.heap[r]? =some (.deferred (some []))):
  HeapR (w.putObj r (.deferred none)) O ρ n h∧ ∀a,(w.putObj r (.deferred none)).cell? a=w.cell? a:=by
 have f: ∀x,x≠r→(w.putObj r (.deferred none)).heap[x]? =w.heap[x]? :=fun x B=>World.putObj_heap_other B
 have T:=(Array.getElem?_eq_some_iff.1 S).1
 have d: ∀a,(w.putObj r (.deferred none)).cell? a=w.cell? a:=by
  intro a
  by_cases e:a.block=r
  ·have g:w.cell? a=none:=by unfold World.cell?;rw [e,S]
   have u:(w.putObj r (.deferred none)).cell? a=none:=by unfold World.cell?;rw [e,World.putObj_heap_same T]
   rw [g,u]
  ·exact World.cell?_of_block (f _ e)
 have k: ∀e∈h,(ρ e.2.1).cap≠0→(ρ e.2.1).blk≠r:=fun e v Q l=>X ⟨e,v,Q,l⟩
 refine⟨⟨I.lt,I.inj,fun x B=>by rw [World.putObj_size];exact I.out x B,I.notO,fun e v=> ?_,?_⟩,d⟩
 ·have l:=I.blk e v
  cases B:e.2.2 with
  | rows sz rs=>
   rw [B]at l
   obtain⟨g,u,A,y⟩:=l
   refine⟨g,u,fun Q=> ?_,fun i D V=> ?_⟩
   ·obtain⟨o,G⟩:=A Q
    have R:=f _ (k e v Q)
    refine⟨fun j H=> ?_,by rw [World.putObj_size];exact G⟩
    show ((w.putObj r (.deferred none)).cell? ⟨(ρ e.2.1).blk,(ρ e.2.1).off+j,none⟩).isSome=true∧(w.putObj r (.deferred none)).frozen? ⟨(ρ e.2.1).blk,(ρ e.2.1).off+j,none⟩=false
    rw [d,World.frozen?_of_block (a:=⟨(ρ e.2.1).blk,(ρ e.2.1).off+j,none⟩) R]
    exact o j H
   ·obtain⟨o,G⟩:=y i D V
    refine⟨o,fun j c H=> ?_⟩
    obtain⟨x,L,K,J⟩:=G j c H
    exact⟨x,(d _).trans L,K,J.inCells (E:=A8 w O ρ n h) d⟩
  |map es=>
   rw [B]at l
   obtain⟨g,F,C,u,A,y,o⟩:=l
   refine⟨g,F,C,(f _ (k e v g)).trans u,A,fun i p m Y Z=> ?_,o⟩
   exact Yw
  |loop N sl ps p s pend=>
   rw [B]at l
   obtain⟨g,W,q,u,A,y,o,G,U,h8⟩:=l
   exact⟨g,W,q,(f _ (k e v g)).trans u,A,y,o,G,fun i=>(U i).inCells (E:=A8 w O ρ n h) d,h8⟩
  |mapb es bs ck=>
   rw [B]at l
   obtain⟨g,F,u,A,W,y,o⟩:=l
   refine⟨g,F,(f _ (k e v g)).trans u,A,W,fun i p m Y Z=> ?_,o⟩
   exact Yw
  |iter mst es bs ck left last=>
   rw [B]at l
   obtain⟨g,u,A,sn,y,o⟩:=l
   exact⟨g,u,A,sn,(f _ (k e v g)).trans y,o⟩
  |raw rs=>
   rw [B]at l
   obtain⟨g,u,⟨P,el,A,y⟩,o⟩:=l
   refine⟨g,u,⟨P,el,(f _ (k e v g)).trans A,y⟩,fun i D V=> ?_⟩
   obtain⟨G,U⟩:=o i D V
   refine⟨G,fun j c H=> ?_⟩
   obtain⟨x,L,K,J⟩:=U j c H
   exact⟨x,(d _).trans L,K,J.inCells (E:=A8 w O ρ n h) d⟩
 ·intro e v
  obtain⟨⟨P,t,z,M,g2,g3,g4⟩,g5⟩:=I.gl e v
  have M:w.heap[e.1]? =some (.cells P t z):=M
  have k:e.1≠r:=fun e'=>by rw [e',S]at M;cases M
  refine⟨⟨P,t,z,(f _ k).trans M,g2,g3,g4⟩,fun j c H=> ?_⟩
  obtain⟨x,L,K,J,x4,x5⟩:=g5 j c H
  exact⟨x,(d _).trans L,K,J,x4,x5.inCells (E:=A6t w fun x=>Own ρ h x∨O x) d⟩
theorem B3L{P:Program}{bs:Nat}{O:Nat→Prop}{ρ:Nat→Loc}{s:St}: ∀(b:List Deferred) (w:World) (fr:Frame) (cs:List Frame),fr.mode= .returning→fr.defers=b→A9d P bs (A8 w O ρ s.n s.h) b→HeapR w O ρ s.n s.h→
  ∃g,Steps P (lone fr cs w) (lone {fr with defers:= []} cs g)∧HeapR g O ρ s.n s.h∧Wd w g∧ ∀x,(∀a,g.cell? a=w.cell? a)∧(x<bs→g.heap[x]? =w.heap[x]?)
 | [],w,fr,cs,_,hd,_,hr=>⟨w,by rw [←hd];exact .refl _ _,hr,Wd.refl _,fun x=>⟨fun _=>rfl,fun _=>rfl⟩⟩
 | d::b,w,fr,cs,hm,hd,hk,hr=>by
  have y:=List.pairwise_cons.1 hk.1
  rcases hk.2 d List.mem_cons_self with⟨I,A,f,k,q,K,N⟩|⟨r,rfl,Q,G,m⟩
  ·have D:=step_defer (P:=P) (cs:=cs) (by rw [hm];simp) hd q (K w)
   obtain⟨e,R,F,H,⟨⟨v,rfl⟩,rfl,rfl⟩,i,n,E⟩:=N w {fr with defers:=b} cs hm
   have L:=step_going_returned (c:={{fr with defers:=b}with mode:= .returning}) (cs:=cs) n E
   have j:A9d P bs (A8 F O ρ s.n s.h) b:=⟨y.2,fun d h=>hk.2 d (List.mem_cons_of_mem _ h)⟩
   have l:settle FrameMode.returning= .returning:=rfl
   obtain⟨g,B,u,o,t⟩:=B3L (P:=P) b F {fr with defers:=b} cs hm rfl j hr
   refine⟨g,.head D (Steps.trans i (.head L ?_)),u,o,t⟩
   rw [l]
   have M:({{{fr with defers:=b}with mode:= .returning}with mode:= .returning}:Frame)={fr with defers:=b}:=by rw [←hm]
   rw [M]
   exact B
  have m:w.heap[r]? =some (.deferred (some [])):=m
  have D:=step_collected (P:=P) (cs:=cs) (by rw [hm];simp) hd rfl (run_takeDeferred m)
  obtain⟨p,C⟩:=hr.shut G m
  have j:A9d P bs (A8 (w.putObj r (.deferred none)) O ρ s.n s.h) b:=by
   refine⟨y.2,fun d h=> ?_⟩
   rcases hk.2 d (List.mem_cons_of_mem _ h)with hq|⟨r',rfl,g2,g3,g4⟩
   ·exact .inl hq
   have z:r'≠r:=fun e=>by
    obtain⟨I,A,f,k,q,_⟩:=y.1 _ h zm
    cases q
   exact .inr ⟨r',rfl,g2,g3,(World.putObj_heap_other z).trans g4⟩
  obtain⟨g,B,u,o,t⟩:=B3L (P:=P) b (w.putObj r (.deferred none)) {fr with defers:= []++b} cs hm rfl j p
  refine⟨g,.head D B,u,Wd.trans (Wd.setObj w r _) o,fun x=>⟨fun a=>((t x).1 a).trans (C a),fun J=>((t x).2 J).trans (World.putObj_heap_other zd)⟩⟩
theorem A0.enter{P:Program}{f:FuncId}{N:Nat}{ac:AC}{rs:List RV}{m:List V}{h:A2}{n:Nat}{Q:Res}(d:B8 P f=some (N,ac,rs))(hl:m.length≤N)
  (y:Run ⟨P,N,rs,Q,none⟩ [.code ac] ⟨A4 0 m,h,n⟩):A0 P f m h n Q:=by
 intro w O ρ c U E L
 unfold B8 at d
 split at d
 ·rename_i k K
  split at d
  ·rename_i g T
   split at d
   ·rename_i ac' u h1 C
    injection d with d
    injection d with e1 d
    injection d with e2 e3
    subst e1;subst e2;subst e3
    let b:Frame:={(default:Frame)with fn:=f,kind:= .normal,roundOf:=none}
    have e:Frame.enter P f c .normal=b.atR {tmps:=c++Array.replicate (k.ntmps-c.size) Go.undef,defers:= []} [.code g]:=by
     simp [Frame.enter,Frame.atR,K,T,b]
    have o:Sim P w.heap.size k.ntmps (A8 w O ρ n h) (A4 0 m) {tmps:=c++Array.replicate (k.ntmps-c.size) Go.undef,defers:= []}:=by
     refine⟨by simp;have:=E.1;omega,Nat.le_refl _,.nil,fun i=> ?_⟩
     rw [B0P,if_pos (Nat.zero_le _),Nat.sub_zero]
     cases hi:m[i]? with
     |none=>exact .undef _
     |some v=>
      have j:i<c.size:=by have:=(List.getElem?_eq_some_iff.1 hi).1;have:=E.1;omega
      simp only [Array.getD_eq_getD_getElem?,Array.getElem?_append_left j,Array.getElem?_eq_getElem j,Option.getD_some]
      exact E.2 i v _ hi (by simp [j])
    obtain⟨t,B,Y,ρ',l,u,J,q2,G,q,r,p⟩:=y k w.heap.size (fun _=>C) O ρ _ w [.code g] b L U o rfl (.code h1 .nil)
    rw [←e]at J
    obtain⟨D,S,M,z,I⟩:=B3L (P:=P) (bs:=w.heap.size) (O:=O) (ρ:=ρ') (s:=l) B.defers Y {b.atR B t with mode:= .returning} L rfl rfl G.defers q2
    rw [C]at r
    injection r with r
    subst r
    have F:Ext (A8 w O ρ n h) (A8 D O ρ' l.n l.h):=⟨rfl,q.n,q.ρ,⟨Nat.le_trans q.wd.size z.size,z.os.trans q.wd.os,z.out.trans q.wd.out⟩,fun x R Z=>by
     obtain⟨X,z2⟩:=q.blk x R Z
     exact⟨((I x).2 R).trans X,z2⟩⟩
    have H:Sim P 0 k.ntmps (A8 D O ρ' l.n l.h) l.sl {B with defers:= []}:=⟨G.size,Nat.zero_le _,.nil,fun i=>(G.slot i).inCells (fun a=>((I 0).1 a))⟩
    unfold D1m at p
    split at p
    ·rename_i vs A
     obtain⟨v,W,g2⟩:=C2e M H C A
     exact⟨.returned v,D,_,⟨v,_,_,_,ρ',rfl,p,M,g2,F⟩,J.trans S,rfl,rfl,rfl,rfl,k,K,W⟩
    ·exact p.elim
   ·cases d
  ·cases d
 ·cases d
mutual
def V.sub(φ:Nat→Nat→Nat→Nat→V):V→V
 | .agg cs=> .agg (V.subL φ cs)
 | .tup cs=> .tup (V.subL φ cs)
 | .isl es=> .isl (V.subLL φ es)
 | .iptr es i j=> .iptr (V.subLL φ es) i j
 | .fn f cs=> .fn f (V.subL φ cs)
 | .sl b st i n=>φ b st i n
 | .ptr .. => .undef
 | .mp .. => .undef
 | .yld .. => .undef
 | .nils=> .isl []
 | .undef=> .undef
 | .bool b=> .bool b
 | .int k n=> .int k n
 | .str s=> .str s
 | .nilp=> .nilp
 | .nilm=> .nilm
 | .cst v=> .cst v
 | .err=> .err
 | .anyi k=> .anyi k
def V.subL(φ:Nat→Nat→Nat→Nat→V):List V→List V
 | []=> []
 |c::r=>V.sub φ c::V.subL φ r
def V.subLL(φ:Nat→Nat→Nat→Nat→V):List (List V)→List (List V)
 | []=> []
 |c::r=>V.subL φ c::V.subLL φ r
end
theorem A4c(φ:Nat→Nat→Nat→Nat→V): ∀l,V.subL φ l=l.map (V.sub φ)
 | []=>by simp [V.subL]
 |c::r=>by simp [V.subL,A4c φ r]
theorem K0(φ:Nat→Nat→Nat→Nat→V): ∀l,V.subLL φ l=l.map fun r=>r.map (V.sub φ)
 | []=>by simp [V.subLL]
 |c::r=>by simp [V.subLL,A4c φ c,K0 φ r]
theorem R.sub{E:Env}{φ:Nat→Nat→Nat→Nat→V}{O:Nat→Prop}(S: ∀x,¬E.own x→ ¬E.O x→ ¬O x)(U: ∀b q i n x,R E (.sl b q i n) x→R (A6t E.w O) (φ b q i n) x){v:V}{x:Value}(h:R E v x):R (A6t E.w O) (V.sub φ v) x:=by
 have r: ∀{A:List (List V)} {i:Nat} {d:List V},(V.subLL φ A)[i]? =some d→ ∃r,A[i]? =some r∧d=r.map (V.sub φ):=by
  intro A i d m
  rw [K0,List.getElem?_map,Option.map_eq_some_iff]at m
  obtain⟨r,g,w⟩:=m
  exact⟨r,g,w.symm⟩
 have e: ∀{r:List V} {j:Nat} {C:V},(r.map (V.sub φ))[j]? =some C→ ∃c,r[j]? =some c∧C=V.sub φ c:=by
  intro r j C z
  rw [List.getElem?_map,Option.map_eq_some_iff]at z
  obtain⟨c,g,w⟩:=z
  exact⟨c,g,w.symm⟩
 induction h with
 |undef v=>rw [V.sub];exact .undef v
 |bool b=>rw [V.sub];exact .bool b
 |int k n=>rw [V.sub];exact .int k n
 |str s=>rw [V.sub];exact .str s
 |agg T I F g _ B=>
  rw [V.sub,A4c]
  refine .agg _ I (by simpa using F) g fun i c v D G=> ?_
  exact Kf
 |tup T I F _ B=>
  rw [V.sub,A4c]
  refine .tup _ I (by simpa using F) fun i c v D G=> ?_
  exact Kf
 |nilp=>rw [V.sub];exact .nilp
 |ptr b q i j h=>rw [V.sub];exact .undef _
 |nils=>rw [V.sub];exact .isl0 none 0
 |sl b q i n y h X D=>rw [V.sub];exact U b q i n _ (.sl b q i n y h X D)
 |sl0 b q i a=>rw [V.sub];exact U b q i 0 _ (.sl0 b q i a)
 | isl A p y P f N J o l _ B=>
  rw [V.sub]
  have:=R.isl (E:=A6t E.w O) (V.subLL φ A) p y P f N (by rw [K0];simpa using J) (fun i d m=>by
   obtain⟨r,g,rfl⟩:=r m
   rw [List.length_map];exact o i r g) (fun i d j C m z=>by
   obtain⟨r,g,rfl⟩:=r m
   obtain⟨c,w,rfl⟩:=e z
   obtain⟨K,M,Q,L⟩:=l i r j c g w
   exact⟨K,M,fun h=>h,S _ Q L⟩) (fun i d j C m z=>by
   obtain⟨r,g,rfl⟩:=r m
   obtain⟨c,w,rfl⟩:=e z
   exact B i r j c g w)
  rw [show A.length=(V.subLL φ A).length from by rw [K0];simp]
  exact this
 |isl0 a y=>rw [V.sub,V.subLL];exact .isl0 a y
 | iptr A Y W p P f N o l _ B=>
  rw [V.sub]
  exact R.iptr (E:=A6t E.w O) (V.subLL φ A) Y W p P f N (fun i d m=>by
   obtain⟨r,g,rfl⟩:=r m
   rw [List.length_map];exact o i r g) (fun i d j C m z=>by
   obtain⟨r,g,rfl⟩:=r m
   obtain⟨c,w,rfl⟩:=e z
   obtain⟨K,M,Q,L⟩:=l i r j c g w
   exact⟨K,M,fun h=>h,S _ Q L⟩) (fun i d j C m z=>by
   obtain⟨r,g,rfl⟩:=r m
   obtain⟨c,w,rfl⟩:=e z
   exact B i r j c g w)
 |nilm=>rw [V.sub];exact .nilm
 |mp b q h=>rw [V.sub];exact .undef _
 |yld b q h=>rw [V.sub];exact .undef _
 |fn f T I F _ B=>
  rw [V.sub,A4c]
  refine .fn f _ I (by simpa using F) fun i c v D G=> ?_
  exact Kf
 |cst v=>rw [V.sub];exact .cst v
 |err t v=>rw [V.sub];exact .err t v
 |anyi k n=>rw [V.sub];exact .anyi k n
def C7:Nat→Nat→Nat→Nat→V:=fun _ _ _ _=> .undef
def frz:Nat→A2→V→V
 |0,_=>V.sub C7
 |d+1,h=>V.sub fun b st i n=>match A4e h (.sl b st i n)with
  |some rs=> .isl (rs.map fun r=>r.map (frz d h))
  |none=> .undef
theorem R.frz{w:World}{O:Nat→Prop}{ρ:Nat→Loc}{h:A2}{n:Nat}(Q:HeapR w O ρ n h): ∀(d:Nat) {v:V} {x:Value},R (A8 w O ρ n h) v x→R (A6t w O) (frz d h v) x
 |0,_,_,hR=>R.sub (fun _ _ h=>h) (fun _ _ _ _ _ _=> .undef _) hR
 | d + 1, v,x,hR=>by
  refine R.sub (E:=A8 w O ρ n h) (fun _ _ h=>h) (fun b s i m x K=> ?_) hR
  split
  ·rename_i z k
   simp only [A4e]at k
   ·skip
    split at k
    ·rename_i U F hg
     cases hb:Nat.ble (i+m) F.length with
     |false=>rw [hb]at k;cases k
     | true=>
      rw [hb,cond_true]at k
      injection k with k
      have hle:=Nat.le_of_ble_eq_true hb
      have M:z.length=m:=by rw [←k];simp;omega
      cases K with
      | sl _ _ _ _ J hst hn hc=>
       obtain⟨P,Z,S,o⟩:=Q.blk _ (A2.mem_of_get hg)
       have G:(ρ s).sz=U:=P
       have I: ∀{q:Nat} {e:List V},z[q]? =some e→F[i+q]? =some e:=by
        intro q e l
        rw [←k,List.getElem?_take]at l
        split at l
        ·rwa [List.getElem?_drop]at l
        ·cases l
       have H: ∀(q j:Nat),∃y,∀e c,z[q]? =some e→e[j]? =some c→w.cell? ⟨(ρ s).blk,(ρ s).off+i*(ρ s).sz+q*U+j,none⟩=some y∧y.oneCell'=true∧R (A8 w O ρ n h) c y:=by
        intro q j
        cases l:z[q]? with
        |none=>exact⟨Go.undef,fun e c h=>by cases h⟩
        | some e=>
         cases A:e[j]? with
         |none=>exact⟨Go.undef,fun g c h Y=>by injection h with h;subst h;rw [A]at Y;cases Y⟩
         |some c=>
          obtain⟨y,t,B,h3⟩:=(o (i+q) e (I l)).2 j c A
          refine⟨y,fun g X T L=> ?_⟩
          injection T with T
          subst T
          rw [A]at L
          injection L with L
          subst L
          refine⟨?_,B,h3⟩
          rw [Nat.add_mul,←Nat.add_assoc]at t
          rw [G]
          exact t
       let f:=fun q j=>(H q j).choose
       have W:=fun q j=>(H q j).choose_spec
       have u: ∀{q:Nat} {g:List V},(z.map fun r=>r.map (Go.Abs.frz d h))[q]? =some g→ ∃e,z[q]? =some e∧g=e.map (Go.Abs.frz d h):=by
        intro q g l
        rw [List.getElem?_map,Option.map_eq_some_iff]at l
        obtain⟨e,t,B⟩:=l
        exact⟨e,t,B.symm⟩
       by_cases hm:m=0
       ·subst hm
        exact YH
       have N:(ρ s).cap≠0:=by have hc':i+J≤(ρ s).cap:=hc;omega
       have C: ¬O (ρ s).blk:=Q.notO _ (A2.mem_of_get hg) N
       have D:=R.isl (E:=A6t w O) (z.map fun r=>r.map (Go.Abs.frz d h)) ⟨(ρ s).blk,(ρ s).off+i*(ρ s).sz,none⟩ J U f rfl zl (fun q g l=>by
        obtain⟨e,t,rfl⟩:=u l
        rw [List.length_map];exact(o _ e (I t)).1) (fun q g j X l A=>by
        obtain⟨e,t,rfl⟩:=u l
        rw [List.getElem?_map,Option.map_eq_some_iff]at A
        obtain⟨c,B,rfl⟩:=A
        obtain⟨q1,q2,_⟩:=W q j e c t B
        exact⟨q1,q2,fun h=>h,C⟩) (fun q g j X l A=>by
        obtain⟨e,t,rfl⟩:=u l
        rw [List.getElem?_map,Option.map_eq_some_iff]at A
        obtain⟨c,B,rfl⟩:=A
        exact R.frz Q d (W q j e c t B).2.2)
       rw [show m=(z.map fun r=>r.map (Go.Abs.frz d h)).length from by simp [M]]
       exact D
      |sl0 _ _ _ a=>
       exact YH
    ·cases hb:Nat.beq m 0 with
     |false=>rw [hb]at k;cases k
     |true=>
      rw [hb,cond_true]at k
      injection k with k
      have:=Nat.eq_of_beq_eq_true hb
      subst this
      subst k
      obtain⟨p,c,hp⟩:=K.sl_inv
      rw [hp]
      exact .isl0 _ _
  ·exact .undef _
def Pure(P:Program)(f:FuncId)(as:List V)(r:V):Prop:=
 ∀w O cargs,(∀x,O x→x<w.heap.size)→GlR (A6t w O)→RL (A6t w O) as cargs→Calls P f cargs w fun e w'=>
  ∃v,e= .returned v∧R (A6t w' O) r v∧Wd w w'∧ ∀x,x<w.heap.size→w'.heap[x]? =w.heap[x]?
theorem D0I(w:World)(O:Nat→Prop)(ρ:Nat→Loc):Ext (A6t w O) (A8 w O ρ 0 []):=
 ⟨rfl,Nat.le_refl _,fun s h=>absurd h (Nat.not_lt_zero _),Wd.refl _,fun _ _ _=>⟨rfl,fun⟨e,a,_⟩=>by cases a⟩⟩
theorem Pure.of{P:Program}{f:FuncId}{n:List V}{b:V}(d:Nat)(h:A0 P f n [] 0 fun r h _=>frz d h r=b):Pure P f n b:=by
 intro w O a p k o
 have s:HeapR w O (fun _=>default) 0 []:=⟨by simp,by simp,p,by simp,by simp,k.mono (D0I w O _).imm⟩
 refine(h w O _ a s ⟨o.1,fun i c v t u=>(o.2 i c v t u).mono (D0I w O _)⟩).mono ?_
 rintro e z ⟨v,r,A,B,ρ',rfl,q,j,l,m⟩
 refine⟨v,rfl,?_,m.wd,fun x g=>(m.blk x g fun⟨e,y,_⟩=>by cases y).1⟩
 rw [←q]
 exact R.frz j d l
theorem A0.pure{P:Program}{f:FuncId}{t d:List V}{r:V}{h:A2}{n:Nat}{k:Res}(G:Pure P f t r)(j:d.map (V.sub C7)=t)(D:k r h n):A0 P f d h n k:=by
 intro w O ρ a l y
 have z: ∀x,Own ρ h x∨O x→x<w.heap.size:=fun x b=>b.elim (fun h=>l.real h) (fun h=>l.out x h)
 refine(G w (fun x=>Own ρ h x∨O x) a z (l.gl.to (Nat.le_refl _) fun x _ s q=>⟨rfl,fun h=>h,fun h=>h.elim s q⟩) ?_).mono ?_
 ·refine⟨by rw [←j,List.length_map];exact y.1,fun i c v u B=> ?_⟩
  rw [←j,List.getElem?_map,Option.map_eq_some_iff]at u
  obtain⟨C,o,rfl⟩:=u
  exact R.sub (E:=A8 w O ρ n h) (fun x s q H=>H.elim s q) (fun _ _ _ _ _ _=> .undef _) (y.2 i C v o B)
 ·rintro e A ⟨v,rfl,p,F,g⟩
  obtain⟨m,b⟩:=l.world F g
  exact⟨v,r,h,n,ρ,rfl,D,m,R.back (E:=A8 A O ρ n h) rfl (fun x b=>⟨fun h=>b (.inl h),fun h=>b (.inr h)⟩) p,b⟩
mutual
def A4v:V→Bool
 | .agg cs| .tup cs| .fn _ cs=>flatL cs
 | .isl es=>es.isEmpty
 | .iptr .. =>false
 |_=>true
def flatL:List V→Bool
 | []=>true
 |c::r=>A4v c&&flatL r
end
theorem A1K: ∀{l:List V} {i:Nat} {c:V},flatL l=true→l[i]? =some c→A4v c=true
 | [],i,c,_,h=>by simp at h
 |x::r,i,c,hf,h=>by
  simp only [flatL,Bool.and_eq_true]at hf
  cases i with
  |zero=>simp at h;subst h;exact hf.1
  |succ i=>exact A1K hf.2 zx
theorem R.flat{E:Env}{w:World}{O:Nat→Prop}{v:V}{x:Value}(h:R (A6t w O) v x)(d:A4v v=true):R E v x:=by
 induction h with
 |undef v=>exact .undef v
 |bool b=>exact .bool b
 |int k n=>exact .int k n
 |str s=>exact .str s
 |agg r u o C _ l=>rw [A4v]at d;exact .agg r u o C fun i c v e q=>l i c v e q (A1K d e)
 |tup r u o _ l=>rw [A4v]at d;exact .tup r u o fun i c v e q=>l i c v e q (A1K d e)
 |nilp=>exact .nilp
 |ptr b m i j h=>exact absurd h (Nat.not_lt_zero _)
 |nils=>exact .nils
 |sl b m i n g h G e=>exact absurd h (Nat.not_lt_zero _)
 |sl0 b m i a=>exact .sl0 b m i a
 |isl A p g D f I B z y _ l=>
  rw [A4v]at d
  have:A= []:=by simpa using d
  subst this
  exact .isl0 _ _
 |isl0 a g=>exact .isl0 a g
 |iptr A H F p D f=>rw [A4v]at d;cases d
 |nilm=>exact .nilm
 |mp b m h=>exact absurd h (Nat.not_lt_zero _)
 |yld b m h=>exact absurd h (Nat.not_lt_zero _)
 |fn f r u o _ l=>rw [A4v]at d;exact .fn f r u o fun i c v e q=>l i c v e q (A1K d e)
 |cst v=>exact .cst v
 |err t v=>exact .err t v
 |anyi k n=>exact .anyi k n
theorem A0.view{P:Program}{f:FuncId}{q b:List V}{r:V}{h:A2}{n:Nat}{k:Res}(E:Pure P f q r)(d:Nat)(j:b.map (frz d h)=q)(u:A4v r=true)(A:k r h n):A0 P f b h n k:=by
 intro w O ρ a l t
 refine(E w O a l.out (l.gl.to (Nat.le_refl _) fun x _ G C=>⟨rfl,fun h=>h,C⟩) ?_).mono ?_
 ·refine⟨by rw [←j,List.length_map];exact t.1,fun i c v s y=> ?_⟩
  rw [←j,List.getElem?_map,Option.map_eq_some_iff]at s
  obtain⟨z,o,rfl⟩:=s
  exact R.frz l d (t.2 i z v o y)
 ·rintro e F ⟨v,rfl,p,D,g⟩
  obtain⟨m,B⟩:=l.world D g
  exact⟨v,r,h,n,ρ,rfl,A,m,p.flat u,B⟩
theorem A0.frame{P:Program}{f:FuncId}{Z:List V}{h E rest:A2}{n:Nat}{k k1:Res}(b:A0 P f Z E n k1)(m: ∀e∈E,e∈h)(o: ∀e∈rest,e∈h∧ ∀j∈E,j.1≠e.1)
  (hk: ∀r C D,n≤D→k1 r C D→k r (C++rest) D):A0 P f Z h n k:=by
 intro w O ρ L t hR
 let S:Nat→Prop:=fun x=>O x∨Own ρ rest x
 have F: ∀x,Own ρ E x→Own ρ h x:=fun x ⟨e,a,b⟩=>⟨e,m e a,b⟩
 have g: ∀x,Own ρ rest x→Own ρ h x:=fun x ⟨e,a,b⟩=>⟨e,(o e a).1,b⟩
 have Y:Imm (A8 w O ρ n h) (A8 w S ρ n E):=⟨Nat.le_refl _,fun _ _=>rfl,Nat.le_refl _,fun x _ p B=>⟨rfl,fun h=>p (F x h),fun h=>h.elim B fun h=>p (g x h)⟩⟩
 have H: ∀e∈E,(ρ e.2.1).cap≠0→ ¬Own ρ rest (ρ e.2.1).blk:=by
  rintro e a b ⟨j,d,l,N⟩
  exact t.inj e (m e a) j (o j d).1 ((o j d).2 e a) b l N.symm
 have W:HeapR w S ρ n E:=⟨fun e a=>t.lt e (m e a),fun e a j d=>t.inj e (m e a) j (m j d),fun x u=>u.elim (t.out x) fun h=>t.real (g x h),
  fun e a b B=>B.elim (t.notO e (m e a) b) (H e a b),fun e a=>(t.blk e (m e a)).monoI Y (t.lt e (m e a)) fun _=>rfl,t.gl.mono Y⟩
 refine(b w S ρ L W ⟨hR.1,fun i c v b hv=>(hR.2 i c v b hv).monoI Y⟩).mono ?_
 rintro e U ⟨v,r,C,D,ρ',rfl,T,y,X,u⟩
 have K: ∀e∈rest,e.2.1<n:=fun e a=>t.lt e (o e a).1
 have M: ∀e∈rest,ρ' e.2.1=ρ e.2.1:=fun e a=>u.ρ _ (K e a)
 have s: ∀x,Own ρ rest x→ ¬Own ρ E x:=by
  rintro x z ⟨e,a,b,rfl⟩
  exact H e a b z
 have q: ∀x,Own ρ rest x→x<w.heap.size:=fun x h=>t.real (g x h)
 have G: ∀x,Own ρ' (C++rest) x→Own ρ' C x∨Own ρ rest x:=by
  rintro x ⟨e,a,b,N⟩
  rcases List.mem_append.1 a with a|a
  ·exact .inl ⟨e,a,b,N⟩
  ·rw [M e a]at b N
   exact .inr ⟨e,a,b,N⟩
 have A:Ext (A8 w O ρ n h) (A8 U O ρ' D (C++rest)):=by
  refine⟨rfl,u.n,u.ρ,u.wd,fun x z p=> ?_⟩
  have Q: ¬Own ρ E x:=fun h=>p (F x h)
  refine⟨(u.blk x z Q).1,fun h=> ?_⟩
  rcases G x h with h|h
  ·exact(u.blk x z Q).2 h
  ·exact p (g x h)
 have I:Imm (A8 U S ρ' D C) (A8 U O ρ' D (C++rest)):=⟨Nat.le_refl _,fun _ _=>rfl,Nat.le_refl _,fun x _ p B=>⟨rfl,fun h=>(G x h).elim p fun h=>B (.inr h),fun h=>B (.inl h)⟩⟩
 refine⟨v,r,C++rest,D,ρ',rfl,hk r C D u.n T,⟨?_,?_,fun x z=>Nat.lt_of_lt_of_le (t.out x z) u.size,?_,?_,y.gl.mono I⟩,X.monoI I,A⟩
 ·intro e a
  rcases List.mem_append.1 a with a|a
  ·exact y.lt e a
  ·exact Nat.lt_of_lt_of_le (K e a) u.n
 ·intro e a j d R b l
  rcases List.mem_append.1 a with a|a<;>rcases List.mem_append.1 d with d|d
  ·exact y.inj e a j d R b l
  ·rw [M j d]at l⊢
   intro J
   have p:Own ρ rest (ρ j.2.1).blk:=⟨j,d,l,rfl⟩
   exact(u.blk _ (q _ p) (s _ p)).2 ⟨e,a,b,J⟩
  ·rw [M e a]at b⊢
   intro J
   have p:Own ρ rest (ρ e.2.1).blk:=⟨e,a,b,rfl⟩
   exact(u.blk _ (q _ p) (s _ p)).2 ⟨j,d,l,J.symm⟩
  ·rw [M e a]at b⊢
   rw [M j d]at l⊢
   exact t.inj e (o e a).1 j (o j d).1 R b l
 ·intro e a b B
  rcases List.mem_append.1 a with a|a
  ·exact y.notO e a b (.inl B)
  ·rw [M e a]at b B
   exact t.notO e (o e a).1 b B
 ·intro e a
  rcases List.mem_append.1 a with a|a
  ·exact(y.blk e a).monoI I (y.lt e a) fun _=>rfl
  ·refine(t.blk e (o e a).1).monoI A.imm (K e a) fun b=> ?_
   have p:Own ρ rest (ρ e.2.1).blk:=⟨e,a,b,rfl⟩
   exact(u.blk _ (q _ p) (s _ p)).1
end
section
theorem Run.unf{c:Cf}{x y:AC}{k:List AItem}{s:St}(h:x=y)(a:Run c (.code y::k) s):Run c (.code x::k) s:=h ▸ a
section
variable {c:Cf} {P:Program} {m:Nat} {k:List AItem} {s:St}
attribute [go_sem] go.eq_1 go.eq_2 go.eq_3 go.eq_4 go.eq_5 go.eq_6 go.eq_7 go.eq_8 go.eq_9 go.eq_10 go.eq_11 go.eq_12 go.eq_13 go.eq_14 go.eq_15 go.eq_16
@[go_sem] theorem D5X{K:St→Prop}:B4Q P [] K s=True:=rfl
@[go_sem] theorem D4G{l:List AI}{r:List (List AI)}{K:St→Prop}:B4Q P (l::r) K s=(vo P l K s∧B4Q P r K s):=rfl
@[go_sem] theorem D8b{K:St→Prop}:vo P [] K s=K s:=rfl
@[go_sem] theorem D7P{i:AI}{r:List AI}{K:St→Prop}:vo P (i::r) K s=G4 P i s (vo P r K):=rfl
@[go_sem ↓] theorem D4n{sl:List (Nat×V)}{h:A2}{n:Nat}{d:Option Nat}{o:AO}{K:St→Prop}:G4 P ⟨d,none,o⟩ ⟨sl,h,n⟩ K=C3 P o ⟨sl,h,n⟩ (fin d sl K):=rfl
@[go_sem ↓] theorem D4o{sl:List (Nat×V)}{h:A2}{n:Nat}{d:Option Nat}{o:AO}{j:Nat}{b:Bool}{K:St→Prop}:G4 P ⟨d,some (j,b),o⟩ ⟨sl,h,n⟩ K=stepG (D9 sl j) b (vo P [⟨d,none,o⟩] K ⟨I2 sl j (.bool b),h,n⟩) (fin d (I2 sl j (.bool !b)) K (.cst Go.undef) h n) (fin d sl K (.cst Go.undef) h n):=rfl
@[congr] theorem D2t{v v':V}{w:Bool}{A B C:Prop}(h:v=v'):stepG v w A B C=stepG v' w A B C:=by rw [h]
@[congr] theorem D1P{v v':V}{A B:Prop}(h:v=v'):B2n v A B=B2n v' A B:=by rw [h]
@[go_sem] theorem D7i{A B C:Prop}:stepG (.bool true) true A B C=A:=by simp [stepG]
@[go_sem] theorem D7f{A B C:Prop}:stepG (.bool false) false A B C=A:=by simp [stepG]
@[go_sem] theorem D7h{A B C:Prop}:stepG (.bool true) false A B C=B:=by simp [stepG]
@[go_sem] theorem D7g{A B C:Prop}:stepG (.bool false) true A B C=B:=by simp [stepG]
@[go_sem] theorem D7J{w:Bool}{A B C:Prop}:stepG (.cst Go.undef) w A B C=C:=by simp [stepG,B2H,Go.undef]
@[go_sem low] theorem D7L{b:Bool}{A B C:Prop}:stepG (.bool b) true A B C=((b=true→A)∧(b=false→B)):=rfl
@[go_sem low] theorem D7K{b:Bool}{A B C:Prop}:stepG (.bool b) false A B C=((b=false→A)∧(b=true→B)):=rfl
@[go_sem] theorem D7u{A B:Prop}:B2n (.bool true) A B=A:=by simp [B2n]
@[go_sem] theorem D7t{A B:Prop}:B2n (.bool false) A B=B:=by simp [B2n]
@[go_sem low] theorem D7s{b:Bool}{A B:Prop}:B2n (.bool b) A B=((b=true→A)∧(b=false→B)):=rfl
@[go_sem ↓] theorem D6A{d:Nat}{sl:List (Nat×V)}{K:St→Prop}{r:V}{h:A2}{n:Nat}:fin (some d) sl K r h n=K ⟨I2 sl d r,h,n⟩:=rfl
@[go_sem ↓] theorem D6z{sl:List (Nat×V)}{K:St→Prop}{r:V}{h:A2}{n:Nat}:fin none sl K r h n=K ⟨sl,h,n⟩:=rfl
@[go_sem ↓] theorem D5T{x:Opd}{sl:List (Nat×V)}{h:A2}{n:Nat}{k:Res}:C3 P (.mov x) ⟨sl,h,n⟩ k=k (St.ev ⟨sl,h,n⟩ x) h n:=rfl
@[go_sem ↓] theorem D4y{c a b:Opd}{sl:List (Nat×V)}{h:A2}{n:Nat}{k:Res}:C3 P (.pick c a b) ⟨sl,h,n⟩ k=S7 (C1Q (St.ev ⟨sl,h,n⟩ c) (St.ev ⟨sl,h,n⟩ a) (St.ev ⟨sl,h,n⟩ b)) k h n:=rfl
@[go_sem ↓] theorem D2B{x:Opd}{sl:List (Nat×V)}{h:A2}{n:Nat}{k:Res}:C3 P (.nilck x) ⟨sl,h,n⟩ k=S7 (B6A (St.ev ⟨sl,h,n⟩ x)) k h n:=rfl
@[go_sem ↓] theorem D5K{nm sz:Nat}{x:Opd}{sl:List (Nat×V)}{h:A2}{n:Nat}{k:Res}:C3 P (.box nm sz x) ⟨sl,h,n⟩ k=B7x nm sz (A3y (St.ev ⟨sl,h,n⟩ x)) k h n:=rfl
@[go_sem ↓] theorem D2u{z:List V}{ps:List (Nat×Nat×Opd)}{sl:List (Nat×V)}{h:A2}{n:Nat}{k:Res}:C3 P (.build z ps) ⟨sl,h,n⟩ k=S7 ((A4u ⟨sl,h,n⟩ z ps).map .agg) k h n:=rfl
@[go_sem ↓] theorem D2A{nm sz:Nat}{xs:List Opd}{sl:List (Nat×V)}{h:A2}{n:Nat}{k:Res}:C3 P (.mkrow nm sz xs) ⟨sl,h,n⟩ k=C2l nm sz (O8 sz ⟨sl,h,n⟩ xs) k h n:=rfl
@[go_sem ↓] theorem D2y{sz:Nat}{xs:List Opd}{sl:List (Nat×V)}{h:A2}{n:Nat}{k:Res}:C3 P (.mkisl sz xs) ⟨sl,h,n⟩ k=C1m (O8 sz ⟨sl,h,n⟩ xs) k h n:=rfl
def A4U(rs:List (List V))(i:Nat)(f:List V→Prop):Prop:=
 match rs[i]? with
 |some row=>f row
 |none=>False
def B2h(b:Option Blk)(f:Nat→List (List V)→Prop):Prop:=
 match b with
 |some (.rows sz rs)=>f sz rs
 |_=>False
def B6s(h0:A2)(x:V)(m:Nat)(agg:Bool)(k:Res)(h:A2)(n:Nat):Prop:=S7 (A4w h0 x m agg) k h n
def B4d(h0:A2)(x:V)(cs:Option (List V))(m:Nat)(k:Res)(n:Nat):Prop:=
 match x with
 | .ptr b st i j=>B0Z (B5B h0 b st i j m (A2.get h0 b st) cs) k n
 |_=>False
@[congr] theorem D1M{rs rs':List (List V)}{i i':Nat}{f:List V→Prop}(e0:rs=rs')(e1:i=i'):A4U rs i f=A4U rs' i' f:=by rw [e0,e1]
@[congr] theorem D1L{b b':Option Blk}{f:Nat→List (List V)→Prop}(e0:b=b'):B2h b f=B2h b' f:=by rw [e0]
@[congr] theorem D2e{h0:A2}{x x':V}{m:Nat}{agg:Bool}{k:Res}{h:A2}{n:Nat}(e:x=x'):B6s h0 x m agg k h n=B6s h0 x' m agg k h n:=by rw [e]
@[congr] theorem D1D{h0:A2}{x x':V}{cs cs':Option (List V)}{m:Nat}{k:Res}{n:Nat}(e:x=x')(e1:cs=cs'):B4d h0 x cs m k n=B4d h0 x' cs' m k n:=by rw [e,e1]
@[go_sem ↓] theorem D4t{m:Nat}{agg:Bool}{x:Opd}{sl:List (Nat×V)}{h:A2}{n:Nat}{k:Res}:C3 P (.load m agg x) ⟨sl,h,n⟩ k=B6s h (St.ev ⟨sl,h,n⟩ x) m agg k h n:=rfl
@[go_sem ↓] theorem D2D{m:Nat}{x v:Opd}{sl:List (Nat×V)}{h:A2}{n:Nat}{k:Res}:C3 P (.store m x v) ⟨sl,h,n⟩ k=B4d h (St.ev ⟨sl,h,n⟩ x) (A3y (St.ev ⟨sl,h,n⟩ v)) m k n:=by
 simp only [C3,B4d,B7j]
 cases St.ev ⟨sl,h,n⟩ x<;>rfl
@[go_sem] theorem D5p{h0:A2}{b st i j m:Nat}{agg:Bool}{k:Res}{h:A2}{n:Nat}:B6s h0 (.ptr b st i j) m agg k h n=B2h (A2.get h0 b st) fun _ rs=>A4U rs i fun row=>S7 (S5 row j m agg) k h n:=by
 simp only [B6s,A4w,B2h,A4U]
 cases A2.get h0 b st with
 |none=>rfl
 |some x=>
  cases x with
  |rows sz rs=>simp only;cases rs[i]? <;>rfl
  |map es=>rfl
  |loop=>rfl
  |mapb=>rfl
  |iter=>rfl
  |raw=>rfl
@[go_sem] theorem D3K{h0:A2}{es:List (List V)}{i j m:Nat}{agg:Bool}{k:Res}{h:A2}{n:Nat}:B6s h0 (.iptr es i j) m agg k h n=A4U es i fun row=>S7 (S5 row j m agg) k h n:=by
 simp only [B6s,A4w,A4U]
 cases es[i]? <;>rfl
@[go_sem] theorem D4z{h0:A2}{b st i j m:Nat}{cs:List V}{k:Res}{n:Nat}:B4d h0 (.ptr b st i j) (some cs) m k n=
  B2h (A2.get h0 b st) fun sz rs=>A4U rs i fun row=>cs.length=m∧j+m≤row.length∧k .undef (A2.put h0 b st (.rows sz (rs.set i (L3 row j cs)))) n:=by
 simp only [B4d,B5B,B2h,A4U]
 cases A2.get h0 b st with
 |none=>rfl
 | some x=>
  cases x with
  |map es=>rfl
  |loop=>rfl
  |mapb=>rfl
  |iter=>rfl
  |raw=>rfl
  | rows sz rs=>
   simp only
   cases rs[i]? with
   |none=>rfl
   | some row=>
    simp only
    by_cases h1:cs.length=m
    ·by_cases h2:j+m≤row.length
     ·rw [h1,Nat.beq_refl,Nat.ble_eq_true_of_le h2];simp [B0Z,h2]
     ·have:Nat.ble (j+m) row.length=false:=by
       cases hb:Nat.ble (j+m) row.length with
       |false=>rfl
       |true=>exact(h2 (Nat.le_of_ble_eq_true hb)).elim
      rw [this];simp [B0Z,h2]
    ·have:Nat.beq cs.length m=false:=by
      cases hb:Nat.beq cs.length m with
      |false=>rfl
      |true=>exact(h1 (Nat.eq_of_beq_eq_true hb)).elim
     rw [this];simp [B0Z,h1]
@[go_sem] theorem D2J{sz:Nat}{rs:List (List V)}{f:Nat→List (List V)→Prop}:B2h (some (.rows sz rs)) f=f sz rs:=rfl
@[go_sem] theorem D2I{f:Nat→List (List V)→Prop}:B2h none f=False:=rfl
@[go_sem] theorem D4M{es:List (V×V)}{f:Nat→List (List V)→Prop}:B2h (some (.map es)) f=False:=rfl
@[go_sem high] theorem D4P{i:Nat}{f:List V→Prop}:A4U [] i f=False:=by simp [A4U]
@[go_sem high] theorem D2K{r:List V}{rs:List (List V)}{f:List V→Prop}:A4U (r::rs) 0 f=f r:=rfl
theorem C0D{rs:List (List V)}{i:Nat}{f:List V→Prop}:A4U rs i f=(i<rs.length∧ ∀r,rs[i]? =some r→f r):=by
 unfold A4U
 cases h:rs[i]? with
 |none=>
  have:=List.getElem?_eq_none_iff.1 h
  simp;omega
 |some r=>
  have:=(List.getElem?_eq_some_iff.1 h).1
  simp [this]
@[go_sem low] theorem D4N{rs:List (List V)}{i:Nat}{f:List V→Prop}:A4U rs i f=(i<rs.length∧ ∀row,rs[i]? =some row→f row):=C0D
@[go_sem] theorem D4O{α:Type}{xs:List α}{F:α→List V}{i:Nat}{f:List V→Prop}:A4U (xs.map F) i f=(i<xs.length∧ ∀x,xs[i]? =some x→f (F x)):=by
 rw [C0D,List.length_map]
 refine propext (and_congr_right fun _=> ?_)
 rw [List.getElem?_map]
 constructor
 ·intro h x hx;exact h _ (by rw [hx];rfl)
 ·intro h row hr
  rw [Option.map_eq_some_iff]at hr
  obtain⟨x,hx,rfl⟩:=hr
  exact h x hx
@[go_sem] theorem D0m{α:Type}{xs:List α}{F:α→List V}:(xs.map F).take xs.length=xs.map F:=by
 rw [List.take_of_length_le];simp
@[go_sem ↓] theorem D2w{off:Nat}{x:Opd}{sl:List (Nat×V)}{h:A2}{n:Nat}{k:Res}:C3 P (.faddr off x) ⟨sl,h,n⟩ k=S7 (B5X off (St.ev ⟨sl,h,n⟩ x)) k h n:=rfl
@[go_sem ↓] theorem D2x{sz:Nat}{x i:Opd}{sl:List (Nat×V)}{h:A2}{n:Nat}{k:Res}:C3 P (.iaddr sz x i) ⟨sl,h,n⟩ k=A3C sz (St.ev ⟨sl,h,n⟩ x) (St.ev ⟨sl,h,n⟩ i) k h n:=rfl
@[go_sem ↓] theorem D1B{len sz:Nat}{x i:Opd}{sl:List (Nat×V)}{h:A2}{n:Nat}{k:Res}:C3 P (.iaddrA len sz x i) ⟨sl,h,n⟩ k=A3M len sz (St.ev ⟨sl,h,n⟩ x) (St.ev ⟨sl,h,n⟩ i) k h n:=rfl
@[go_sem ↓] theorem D5Q{off m:Nat}{agg:Bool}{x:Opd}{sl:List (Nat×V)}{h:A2}{n:Nat}{k:Res}:C3 P (.fld off m agg x) ⟨sl,h,n⟩ k=S7 (C8x off m agg (St.ev ⟨sl,h,n⟩ x)) k h n:=rfl
@[go_sem ↓] theorem D5R{x i:Opd}{sl:List (Nat×V)}{h:A2}{n:Nat}{k:Res}:C3 P (.idx x i) ⟨sl,h,n⟩ k=B9K (St.ev ⟨sl,h,n⟩ x) (St.ev ⟨sl,h,n⟩ i) k h n:=rfl
@[go_sem ↓] theorem D5P{i:Nat}{x:Opd}{sl:List (Nat×V)}{h:A2}{n:Nat}{k:Res}:C3 P (.ext i x) ⟨sl,h,n⟩ k=S7 (C8w i (St.ev ⟨sl,h,n⟩ x)) k h n:=rfl
@[go_sem] theorem D4Y{j:IntKind}{a b:Int}:C7U .add (.int j a) (.int j b)=some (.int j (j.wrap (a+b))):=if_pos rfl
@[go_sem] theorem D5a{j:IntKind}{a b:Int}:C7U .sub (.int j a) (.int j b)=some (.int j (j.wrap (a-b))):=if_pos rfl
@[go_sem] theorem D4Z{j:IntKind}{a b:Int}:C7U .mul (.int j a) (.int j b)=some (.int j (j.wrap (a*b))):=if_pos rfl
@[go_sem ↓] theorem D5J{op:BinOp}{x y:Opd}{sl:List (Nat×V)}{h:A2}{n:Nat}{k:Res}:C3 P (.bin op x y) ⟨sl,h,n⟩ k=u3 op (St.ev ⟨sl,h,n⟩ x) (St.ev ⟨sl,h,n⟩ y) k h n:=rfl
@[go_sem ↓] theorem D5O{kind:Nat}{neg:Bool}{x y:Opd}{sl:List (Nat×V)}{h:A2}{n:Nat}{k:Res}:C3 P (.eqp kind neg x y) ⟨sl,h,n⟩ k=S7 (bif B4w kind (St.ev ⟨sl,h,n⟩ x)then C3r neg (St.ev ⟨sl,h,n⟩ x) (St.ev ⟨sl,h,n⟩ y)else none) k h n:=rfl
@[go_sem ↓] theorem D5M{neg:Bool}{t:ETy}{x y:Opd}{sl:List (Nat×V)}{h:A2}{n:Nat}{k:Res}:C3 P (.eqa neg t x y) ⟨sl,h,n⟩ k=S7 (C8u neg t (St.ev ⟨sl,h,n⟩ x) (St.ev ⟨sl,h,n⟩ y)) k h n:=rfl
@[go_sem] theorem D5v{j:IntKind}{a:Int}:D2l (.int j a)=some (.int j (j.wrap (0-a))):=by rw [D2l]
@[go_sem ↓] theorem D7k{op:UnOp}{x:Opd}{sl:List (Nat×V)}{h:A2}{n:Nat}{k:Res}:C3 P (.un op x) ⟨sl,h,n⟩ k=unK op (St.ev ⟨sl,h,n⟩ x) k h n:=rfl
@[go_sem ↓] theorem D4q{j:IntKind}{x:Opd}{sl:List (Nat×V)}{h:A2}{n:Nat}{k:Res}:C3 P (.conv j x) ⟨sl,h,n⟩ k=S7 (C0R j (St.ev ⟨sl,h,n⟩ x)) k h n:=rfl
@[go_sem ↓] theorem D5S{kind:Nat}{x:Opd}{sl:List (Nat×V)}{h:A2}{n:Nat}{k:Res}:C3 P (.len kind x) ⟨sl,h,n⟩ k=S7 (B6p h kind (St.ev ⟨sl,h,n⟩ x)) k h n:=rfl
@[go_sem ↓] theorem D7j{mx:Bool}{xs:List Opd}{sl:List (Nat×V)}{h:A2}{n:Nat}{k:Res}:C3 P (.mm mx xs) ⟨sl,h,n⟩ k=S7 (mmV mx (xs.map (St.ev ⟨sl,h,n⟩))) k h n:=rfl
@[go_sem ↓] theorem D5H{nm sz:Nat}{b x:Opd}{sl:List (Nat×V)}{h:A2}{n:Nat}{k:Res}:C3 P (.app nm sz b x) ⟨sl,h,n⟩ k=A9P 137438953472 nm sz (St.ev ⟨sl,h,n⟩ b) (A5P h (St.ev ⟨sl,h,n⟩ x)) k h n:=rfl
@[go_sem ↓] theorem D5G{L nm sz:Nat}{b x:Opd}{sl:List (Nat×V)}{h:A2}{n:Nat}{k:Res}:C3 P (.apb L nm sz b x) ⟨sl,h,n⟩ k=A9P L nm sz (St.ev ⟨sl,h,n⟩ b) (A5P h (St.ev ⟨sl,h,n⟩ x)) k h n:=rfl
@[go_sem ↓] theorem D4r{sz:Nat}{d x:Opd}{sl:List (Nat×V)}{h:A2}{n:Nat}{k:Res}:C3 P (.copy sz d x) ⟨sl,h,n⟩ k=A9g sz (St.ev ⟨sl,h,n⟩ d) (A5P h (St.ev ⟨sl,h,n⟩ x)) k h n:=rfl
@[go_sem ↓] theorem D4w{nm:Nat}{z:List V}{x:Opd}{sl:List (Nat×V)}{h:A2}{n:Nat}{k:Res}:C3 P (.mksl nm z x) ⟨sl,h,n⟩ k=B4B nm z (St.ev ⟨sl,h,n⟩ x) k h n:=rfl
@[go_sem ↓] theorem D5U{sz:Nat}{x:Opd}{lo hi:Option Opd}{sl:List (Nat×V)}{h:A2}{n:Nat}{k:Res}:C3 P (.slc sz x lo hi) ⟨sl,h,n⟩ k=B3i sz (St.ev ⟨sl,h,n⟩ x) (lo.map (St.ev ⟨sl,h,n⟩)) (hi.map (St.ev ⟨sl,h,n⟩)) k h n:=rfl
@[go_sem ↓] theorem D5V{x:Opd}{lo hi:Option Opd}{sl:List (Nat×V)}{h:A2}{n:Nat}{k:Res}:C3 P (.sls x lo hi) ⟨sl,h,n⟩ k=B5i (St.ev ⟨sl,h,n⟩ x) (lo.map (St.ev ⟨sl,h,n⟩)) (hi.map (St.ev ⟨sl,h,n⟩)) k h n:=rfl
@[go_sem ↓] theorem D2C{f:FuncId}{xs:List Opd}{sl:List (Nat×V)}{h:A2}{n:Nat}{k:Res}:C3 P (.pcall f xs) ⟨sl,h,n⟩ k=A5f P f (xs.map (St.ev ⟨sl,h,n⟩)) k h n:=rfl
@[congr] theorem D1g{f:FuncId}{as as':List V}{k:Res}{h:A2}{n:Nat}(e:as=as'):A5f P f as k h n=A5f P f as' k h n:=by rw [e]
@[go_sem ↓] theorem D5N{fn neg:Bool}{x:Opd}{sl:List (Nat×V)}{h:A2}{n:Nat}{k:Res}:C3 P (.eqn fn neg x) ⟨sl,h,n⟩ k=A8h fn neg (St.ev ⟨sl,h,n⟩ x) k h n:=rfl
@[congr] theorem D3j{fn neg:Bool}{x x':V}{k:Res}{h:A2}{n:Nat}(e:x=x'):A8h fn neg x k h n=A8h fn neg x' k h n:=by rw [e]
@[go_sem] theorem D5i{neg:Bool}{k:Res}{h:A2}{n:Nat}:A8h false neg .nils k h n=k (.bool !neg) h n:=rfl
@[go_sem] theorem D6w{neg:Bool}{es:List (List V)}{k:Res}{h:A2}{n:Nat}:A8h false neg (.isl es) k h n=(k (.bool neg) h n∧(es= []→k (.bool !neg) h n)):=rfl
@[go_sem] theorem D7y{neg:Bool}{b st i m:Nat}{k:Res}{h:A2}{n:Nat}:A8h false neg (.sl b st i m) k h n=(k (.bool neg) h n∧(m=0→k (.bool !neg) h n)):=rfl
@[go_sem] theorem D7x{neg:Bool}{f:FuncId}{cs:List V}{k:Res}{h:A2}{n:Nat}:A8h true neg (.fn f cs) k h n=k (.bool neg) h n:=rfl
@[go_sem] theorem D5h{neg:Bool}{k:Res}{h:A2}{n:Nat}:A8h true neg (.cst .nilFunc) k h n=k (.bool !neg) h n:=rfl
@[go_sem ↓] theorem D4v{f:FuncId}{xs:List Opd}{sl:List (Nat×V)}{h:A2}{n:Nat}{k:Res}:C3 P (.mkfn f xs) ⟨sl,h,n⟩ k=k (.fn f (xs.map (St.ev ⟨sl,h,n⟩))) h n:=rfl
@[go_sem ↓] theorem D2z{nm:Nat}{sl:List (Nat×V)}{h:A2}{n:Nat}{k:Res}:C3 P (.mkmap nm) ⟨sl,h,n⟩ k=k (.mp nm n) (A2.put h nm n (.map [])) (n+1):=rfl
@[go_sem ↓] theorem D4u{kd:Nat}{z:V}{ok:Bool}{m x:Opd}{sl:List (Nat×V)}{h:A2}{n:Nat}{k:Res}:C3 P (.look kd z ok m x) ⟨sl,h,n⟩ k=A9l kd z ok (St.ev ⟨sl,h,n⟩ m) (St.ev ⟨sl,h,n⟩ x) k h n:=rfl
@[go_sem ↓] theorem D4x{kd:Nat}{m x v:Opd}{sl:List (Nat×V)}{h:A2}{n:Nat}{k:Res}:C3 P (.mput kd m x v) ⟨sl,h,n⟩ k=B2E kd (St.ev ⟨sl,h,n⟩ m) (St.ev ⟨sl,h,n⟩ x) (St.ev ⟨sl,h,n⟩ v) k h n:=rfl
@[go_sem ↓] theorem D4s{len sz m:Nat}{agg:Bool}{x y:Opd}{sl:List (Nat×V)}{h:A2}{n:Nat}{k:Res}:C3 P (.idxA len sz m agg x y) ⟨sl,h,n⟩ k=B0a len sz m agg (St.ev ⟨sl,h,n⟩ x) (St.ev ⟨sl,h,n⟩ y) k h n:=rfl
@[go_sem] theorem D2W:D6q .nils=some (.int .i64 0):=rfl
@[go_sem] theorem D1d{e:Nat×Nat×Blk}{r:A2}{st:Nat}:B9V (e::r) st=bif Nat.beq e.2.1 st then some (e.1,e.2.2)else B9V r st:=rfl
@[go_sem] theorem D0y{s:List UInt8}:D6o (some (A1w s))=some (.str s):=by
 have: ∀s:List UInt8,C4L (A1w s)=some s:=by
  intro s
  induction s with
  |nil=>rfl
  |cons b s ih=>
   have e:A1w (b::s)= [.int .u8 b.toNat]::A1w s:=rfl
   rw [e,C4L,ih]
   simp
 simp only [D6o,this]
@[go_sem ↓] theorem D5L{z:List V}{x:Opd}{sl:List (Nat×V)}{h:A2}{n:Nat}{k:Res}:C3 P (.clr z x) ⟨sl,h,n⟩ k=B4U z (St.ev ⟨sl,h,n⟩ x) k h n:=rfl
@[congr] theorem D2b{len sz m:Nat}{agg:Bool}{x x' y y':V}{k:Res}{h:A2}{n:Nat}(e0:x=x')(e1:y=y'):B0a len sz m agg x y k h n=B0a len sz m agg x' y' k h n:=by rw [e0,e1]
@[go_sem] theorem D5l{len sz m:Nat}{agg:Bool}{cs:List V}{j:IntKind}{z:Int}{k:Res}{h:A2}{n:Nat}:B0a len sz m agg (.agg cs) (.int j z) k h n=(0≤z∧z<len∧S7 (S5 cs (z.toNat*sz) m agg) k h n):=rfl
@[congr] theorem D3b{z:List V}{x x':V}{k:Res}{h:A2}{n:Nat}(e0:x=x'):B4U z x k h n=B4U z x' k h n:=by rw [e0]
@[go_sem] theorem D5f{z:List V}{k:Res}{h:A2}{n:Nat}:B4U z .nils k h n=k (.tup []) h n:=rfl
@[go_sem ↓] theorem D4p{f:FuncId}{xs:List Opd}{sl:List (Nat×V)}{h:A2}{n:Nat}{k:Res}:C3 P (.call f xs) ⟨sl,h,n⟩ k=A0 P f (xs.map (St.ev ⟨sl,h,n⟩)) h n k:=rfl
@[go_sem ↓] theorem D2v{x:Opd}{xs:List Opd}{sl:List (Nat×V)}{h:A2}{n:Nat}{k:Res}:C3 P (.callv x xs) ⟨sl,h,n⟩ k=A9S P (St.ev ⟨sl,h,n⟩ x) (xs.map (St.ev ⟨sl,h,n⟩)) h n k:=rfl
@[go_sem ↓] theorem D5I{sl:List (Nat×V)}{h:A2}{n:Nat}{k:Res}:C3 P (.bad) ⟨sl,h,n⟩ k=False:=rfl
@[congr] theorem D3R{o o':Option V}{k:Res}{h:A2}{n:Nat}(e0:o=o'):S7 o k h n=S7 o' k h n:=by rw [e0]
@[go_sem] theorem D7E{v:V}{k:Res}{h:A2}{n:Nat}:S7 (some v) k h n=k v h n:=rfl
@[go_sem] theorem D5y  {k:Res}{h:A2}{n:Nat}:S7 none k h n=False:=rfl
@[congr] theorem D2T{nm sz:Nat}{o o':Option (List V)}{k:Res}{h:A2}{n:Nat}(e0:o=o'):B7x nm sz o k h n=B7x nm sz o' k h n:=by rw [e0]
@[go_sem] theorem D5d{nm sz:Nat}{cs:List V}{k:Res}{h:A2}{n:Nat}:B7x nm sz (some cs) k h n=(cs.length=sz∧k (.ptr nm n 0 0) (A2.put h nm n (.rows sz [cs])) (n+1)):=rfl
@[congr] theorem D3Z{nm sz:Nat}{o o':Option (List (List V))}{k:Res}{h:A2}{n:Nat}(e0:o=o'):C2l nm sz o k h n=C2l nm sz o' k h n:=by rw [e0]
@[go_sem] theorem D5C{nm sz:Nat}{rs:List (List V)}{k:Res}{h:A2}{n:Nat}:C2l nm sz (some rs) k h n=k (.sl nm n 0 rs.length) (A2.put h nm n (.rows sz rs)) (n+1):=rfl
@[congr] theorem D3z{o o':Option (List (List V))}{k:Res}{h:A2}{n:Nat}(e0:o=o'):C1m o k h n=C1m o' k h n:=by rw [e0]
@[go_sem] theorem D5m{rs:List (List V)}{k:Res}{h:A2}{n:Nat}:C1m (some rs) k h n=k (.isl rs) h n:=rfl
@[congr] theorem D1Y{o o':Option A2}{k:Res}{n:Nat}(e:o=o'):B0Z o k n=B0Z o' k n:=by rw [e]
@[go_sem] theorem D3r{h:A2}{k:Res}{n:Nat}:B0Z (some h) k n=k .undef h n:=rfl
@[congr] theorem D0P{sz:Nat}{x x' i i':V}{k:Res}{h:A2}{n:Nat}(e0:x=x')(e1:i=i'):A3C sz x i k h n=A3C sz x' i' k h n:=by rw [e0,e1]
@[go_sem] theorem D5k{sz b st i0 m:Nat}{j:IntKind}{z:Int}{k:Res}{h:A2}{n:Nat}:A3C sz (.sl b st i0 m) (.int j z) k h n=(0≤z∧z<m∧B2i (A2.get h b st)=some sz∧k (.ptr b st (i0+z.toNat) 0) h n):=rfl
@[go_sem] theorem D3t{sz:Nat}{es:List (List V)}{j:IntKind}{z:Int}{k:Res}{h:A2}{n:Nat}:A3C sz (.isl es) (.int j z) k h n=(0≤z∧z<es.length∧C4 es sz∧k (.iptr es z.toNat 0) h n):=rfl
@[go_sem] theorem D2a{sz:Nat}{i:V}{k:Res}{h:A2}{n:Nat}:A3C sz .nils i k h n=False:=by cases i<;>rfl
@[congr] theorem D0l{len sz:Nat}{x x' i i':V}{k:Res}{h:A2}{n:Nat}(e0:x=x')(e1:i=i'):A3M len sz x i k h n=A3M len sz x' i' k h n:=by rw [e0,e1]
@[go_sem] theorem D1Z{len sz b st i0 q:Nat}{j:IntKind}{z:Int}{k:Res}{h:A2}{n:Nat}:A3M len sz (.ptr b st i0 q) (.int j z) k h n=(0≤z∧z<len∧k (.ptr b st i0 (q+z.toNat*sz)) h n):=rfl
@[go_sem] theorem D0O{len sz i0 q:Nat}{es:List (List V)}{j:IntKind}{z:Int}{k:Res}{h:A2}{n:Nat}:A3M len sz (.iptr es i0 q) (.int j z) k h n=(0≤z∧z<len∧k (.iptr es i0 (q+z.toNat*sz)) h n):=rfl
@[congr] theorem D3v{x x' i i':V}{k:Res}{h:A2}{n:Nat}(e0:x=x')(e1:i=i'):B9K x i k h n=B9K x' i' k h n:=by rw [e0,e1]
@[go_sem] theorem D6H{s:List UInt8}{j:IntKind}{z:Int}{k:Res}{h:A2}{n:Nat}:B9K (.str s) (.int j z) k h n=(0≤z∧S7 ((s[z.toNat]?).map fun b=> .int .u8 b.toNat) k h n):=rfl
@[go_sem] theorem D4L{j:IntKind}{z:Int}{k:Res}{h:A2}{n:Nat}:u2 j z k h n=(inR j z∧k (B9e j z) h n):=rfl
@[congr] theorem D2P{op:BinOp}{x x' y y':V}{k:Res}{h:A2}{n:Nat}(e0:x=x')(e1:y=y'):u3 op x y k h n=u3 op x' y' k h n:=by rw [e0,e1]
@[go_sem] theorem D6b{j j':IntKind}{a b:Int}{k:Res}{h:A2}{n:Nat}:u3 .add (.int j a) (.int j' b) k h n=(j=j'∧u2 j (a+b) k h n):=rfl
@[go_sem] theorem D6m{j j':IntKind}{a b:Int}{k:Res}{h:A2}{n:Nat}:u3 .sub (.int j a) (.int j' b) k h n=(j=j'∧u2 j (a-b) k h n):=rfl
@[go_sem] theorem D6i{j j':IntKind}{a b:Int}{k:Res}{h:A2}{n:Nat}:u3 .mul (.int j a) (.int j' b) k h n=(j=j'∧u2 j (a*b) k h n):=rfl
@[go_sem] theorem D6k{j j':IntKind}{a b:Int}{k:Res}{h:A2}{n:Nat}:u3 .quo (.int j a) (.int j' b) k h n=(j=j'∧b≠0∧u2 j (a.tdiv b) k h n):=rfl
@[go_sem] theorem D6l{j j':IntKind}{a b:Int}{k:Res}{h:A2}{n:Nat}:u3 .rem (.int j a) (.int j' b) k h n=(j=j'∧b≠0∧k (.int j (a.tmod b)) h n):=rfl
@[go_sem] theorem D6d{j j':IntKind}{a b:Int}{k:Res}{h:A2}{n:Nat}:u3 .eql (.int j a) (.int j' b) k h n=(j=j'∧k (.bool (decide (a=b))) h n):=rfl
@[go_sem] theorem D6j{j j':IntKind}{a b:Int}{k:Res}{h:A2}{n:Nat}:u3 .neq (.int j a) (.int j' b) k h n=(j=j'∧k (.bool (decide (¬a=b))) h n):=rfl
@[go_sem] theorem D6h{j j':IntKind}{a b:Int}{k:Res}{h:A2}{n:Nat}:u3 .lss (.int j a) (.int j' b) k h n=(j=j'∧k (.bool (decide (a<b))) h n):=rfl
@[go_sem] theorem D6g{j j':IntKind}{a b:Int}{k:Res}{h:A2}{n:Nat}:u3 .leq (.int j a) (.int j' b) k h n=(j=j'∧k (.bool (decide (a≤b))) h n):=rfl
@[go_sem] theorem D6f{j j':IntKind}{a b:Int}{k:Res}{h:A2}{n:Nat}:u3 .gtr (.int j a) (.int j' b) k h n=(j=j'∧k (.bool (decide (b<a))) h n):=rfl
@[go_sem] theorem D6e{j j':IntKind}{a b:Int}{k:Res}{h:A2}{n:Nat}:u3 .geq (.int j a) (.int j' b) k h n=(j=j'∧k (.bool (decide (b≤a))) h n):=rfl
@[go_sem] theorem D6c{j j':IntKind}{a b:Int}{k:Res}{h:A2}{n:Nat}:u3 .and (.int j a) (.int j' b) k h n=(j=j'∧k (.int j (A4f .and j a b)) h n):=rfl
@[go_sem] theorem D7q{j j':IntKind}{a b:Int}{k:Res}{h:A2}{n:Nat}:u3 .or (.int j a) (.int j' b) k h n=(j=j'∧k (.int j (A4f .or j a b)) h n):=rfl
@[go_sem] theorem D6n{j j':IntKind}{a b:Int}{k:Res}{h:A2}{n:Nat}:u3 .xor (.int j a) (.int j' b) k h n=(j=j'∧k (.int j (A4f .xor j a b)) h n):=rfl
@[go_sem] theorem D1N{j j':IntKind}{a b:Int}{k:Res}{h:A2}{n:Nat}:u3 .andNot (.int j a) (.int j' b) k h n=(j=j'∧k (.int j (A4f .andNot j a b)) h n):=rfl
@[go_sem] theorem D4V{a b:List UInt8}{k:Res}{h:A2}{n:Nat}:u3 .leq (.str a) (.str b) k h n=k (.bool (W6 a b||decide (a=b))) h n:=rfl
@[go_sem] theorem D4U{a b:List UInt8}{k:Res}{h:A2}{n:Nat}:u3 .gtr (.str a) (.str b) k h n=k (.bool !(W6 a b||decide (a=b))) h n:=rfl
@[go_sem] theorem D4R{a b:List UInt8}{k:Res}{h:A2}{n:Nat}:u3 .add (.str a) (.str b) k h n=(a.length+b.length≤1099511627776∧k (.str (a++b)) h n):=rfl
@[go_sem] theorem D4S{a b:List UInt8}{k:Res}{h:A2}{n:Nat}:u3 .eql (.str a) (.str b) k h n=k (.bool (decide (a=b))) h n:=rfl
@[go_sem] theorem D4X{a b:List UInt8}{k:Res}{h:A2}{n:Nat}:u3 .neq (.str a) (.str b) k h n=k (.bool (decide (¬a=b))) h n:=rfl
@[go_sem] theorem D4W{a b:List UInt8}{k:Res}{h:A2}{n:Nat}:u3 .lss (.str a) (.str b) k h n=k (.bool (W6 a b)) h n:=rfl
@[go_sem] theorem D4T{a b:List UInt8}{k:Res}{h:A2}{n:Nat}:u3 .geq (.str a) (.str b) k h n=k (.bool (!W6 a b)) h n:=rfl
@[congr] theorem D5W{op:UnOp}{x x':V}{k:Res}{h:A2}{n:Nat}(e0:x=x'):unK op x k h n=unK op x' k h n:=by rw [e0]
@[go_sem] theorem D7M{j:IntKind}{a:Int}{k:Res}{h:A2}{n:Nat}:unK .neg (.int j a) k h n=u2 j (0-a) k h n:=rfl
@[go_sem] theorem D7O{j:IntKind}{a:Int}{k:Res}{h:A2}{n:Nat}:unK .xor (.int j a) k h n=k (.int j (A4f .xor j (bif j.signed then -1 else j.max) a)) h n:=rfl
@[go_sem] theorem D7N{b:Bool}{k:Res}{h:A2}{n:Nat}:unK .not (.bool b) k h n=k (.bool !b) h n:=rfl
def B3W(o:Option Blk)(f:Nat→List (List V)→Prop):Prop:=
 match o with
 |some (.rows sz rs)=>f sz rs
 |_=>False
def B8C(o:Option Blk)(f:List (V×V)→Prop):Prop:=
 match o with
 |some (.map es)=>f es
 |_=>False
def C3b(a b:Option Int)(f:Int→Int→Prop):Prop:=
 match a,b with
 |some a,some b=>f a b
 |_,_=>False
@[congr] theorem D1q{o o':Option Blk}{f:Nat→List (List V)→Prop}(e:o=o'):B3W o f=B3W o' f:=by rw [e]
@[congr] theorem D2g{o o':Option Blk}{f:List (V×V)→Prop}(e:o=o'):B8C o f=B8C o' f:=by rw [e]
@[congr] theorem D2R{a a' b b':Option Int}{f:Int→Int→Prop}(e:a=a')(e':b=b'):C3b a b f=C3b a' b' f:=by rw [e,e']
@[go_sem] theorem D2q{sz:Nat}{rs:List (List V)}{f:Nat→List (List V)→Prop}:B3W (some (.rows sz rs)) f=f sz rs:=rfl
@[go_sem] theorem D5s{es:List (V×V)}{f:List (V×V)→Prop}:B8C (some (.map es)) f=f es:=rfl
@[go_sem] theorem D5c{a b:Int}{f:Int→Int→Prop}:C3b (some a) (some b) f=f a b:=rfl
@[congr] theorem D2H{L nm sz:Nat}{b b':V}{o o':Option (List (List V))}{k:Res}{h:A2}{n:Nat}(e0:b=b')(e1:o=o'):A9P L nm sz b o k h n=A9P L nm sz b' o' k h n:=by rw [e0,e1]
@[go_sem] theorem D4K{L nm sz:Nat}{xs:List (List V)}{k:Res}{h:A2}{n:Nat}:A9P L nm sz .nils (some xs) k h n=(C4 xs sz∧xs.length≤L∧k (.sl nm n 0 xs.length) (A2.put h nm n (.rows sz xs)) (n+1)):=rfl
@[go_sem] theorem D7o{L nm sz b st i m:Nat}{xs:List (List V)}{k:Res}{h:A2}{n:Nat}:A9P L nm sz (.sl b st i m) (some xs) k h n=(C4 xs sz∧B3W (A2.get h b st) fun sz' rs=>sz'=sz∧i+m≤rs.length∧m+xs.length≤L∧k (.sl b n 0 (m+xs.length)) (A2.put h b n (.rows sz ((rs.drop i).take m++xs))) (n+1)):=rfl
@[congr] theorem D1Q{sz:Nat}{b b':V}{o o':Option (List (List V))}{k:Res}{h:A2}{n:Nat}(e0:b=b')(e1:o=o'):A9g sz b o k h n=A9g sz b' o' k h n:=by rw [e0,e1]
@[go_sem] theorem D3d{sz:Nat}{xs:List (List V)}{k:Res}{h:A2}{n:Nat}:A9g sz .nils (some xs) k h n=(C4 xs sz∧k (.int .i64 0) h n):=rfl
@[go_sem] theorem D6t{sz b st i m:Nat}{xs:List (List V)}{k:Res}{h:A2}{n:Nat}:A9g sz (.sl b st i m) (some xs) k h n=(C4 xs sz∧B3W (A2.get h b st) fun sz' rs=>sz'=sz∧i+m≤rs.length∧k (.int .i64 (min xs.length m:Nat)) (A2.put h b st (.rows sz (rs.take i++xs.take (min xs.length m)++rs.drop (i+min xs.length m)))) n):=rfl
@[congr] theorem D2h{nm:Nat}{z:List V}{x x':V}{k:Res}{h:A2}{n:Nat}(e0:x=x'):B4B nm z x k h n=B4B nm z x' k h n:=by rw [e0]
@[go_sem] theorem D5u{nm:Nat}{z:List V}{m:Int}{k:Res}{h:A2}{n:Nat}:B4B nm z (.int .i64 m) k h n=(0≤m∧m≤137438953472∧k (.sl nm n 0 m.toNat) (A2.put h nm n (.rows z.length (List.replicate m.toNat z))) (n+1)):=rfl
@[go_sem] theorem D7r{z:List V}{b st i m:Nat}{k:Res}{h:A2}{n:Nat}:B4U z (.sl b st i m) k h n=B3W (A2.get h b st) fun sz rs=>sz=z.length∧i+m≤rs.length∧k (.tup []) (A2.put h b st (.rows sz (rs.take i++List.replicate m z++rs.drop (i+m)))) n:=rfl
@[congr] theorem D4g{sz:Nat}{x x':V}{lo lo' hi hi':Option V}{k:Res}{h:A2}{n:Nat}(e0:x=x')(e1:lo=lo')(e2:hi=hi'):B3i sz x lo hi k h n=B3i sz x' lo' hi' k h n:=by rw [e0,e1,e2]
@[go_sem] theorem D7I{sz b st i m:Nat}{lo hi:Option V}{k:Res}{h:A2}{n:Nat}:B3i sz (.sl b st i m) lo hi k h n=C3b (K5 0 lo) (K5 m hi) fun l u=>B2i (A2.get h b st)=some sz∧0≤l∧l≤u∧u≤m∧k (.sl b st (i+l.toNat) (u-l).toNat) h n:=rfl
@[go_sem] theorem D7c{sz:Nat}{es:List (List V)}{lo hi:Option V}{k:Res}{h:A2}{n:Nat}:B3i sz (.isl es) lo hi k h n=C3b (K5 0 lo) (K5 es.length hi) fun l u=>C4 es sz∧0≤l∧l≤u∧u≤es.length∧k (.isl ((es.drop l.toNat).take (u-l).toNat)) h n:=rfl
@[go_sem] theorem D5E{sz:Nat}{lo hi:Option V}{k:Res}{h:A2}{n:Nat}:B3i sz .nils lo hi k h n=C3b (K5 0 lo) (K5 0 hi) fun l u=>l=0∧u=0∧k .nils h n:=rfl
@[congr] theorem D4j{x x':V}{lo lo' hi hi':Option V}{k:Res}{h:A2}{n:Nat}(e0:x=x')(e1:lo=lo')(e2:hi=hi'):B5i x lo hi k h n=B5i x' lo' hi' k h n:=by rw [e0,e1,e2]
@[go_sem] theorem D7d{s:List UInt8}{lo hi:Option V}{k:Res}{h:A2}{n:Nat}:B5i (.str s) lo hi k h n=C3b (K5 0 lo) (K5 s.length hi) fun l u=>0≤l∧l≤u∧u≤s.length∧k (.str ((s.drop l.toNat).take (u-l).toNat)) h n:=rfl
@[congr] theorem D2f{kd:Nat}{z:V}{ok:Bool}{m m' x x':V}{k:Res}{h:A2}{n:Nat}(e0:m=m')(e1:x=x'):A9l kd z ok m x k h n=A9l kd z ok m' x' k h n:=by rw [e0,e1]
@[go_sem] theorem D3M{kd:Nat}{z:V}{ok:Bool}{x:V}{k:Res}{h:A2}{n:Nat}:A9l kd z ok .nilm x k h n=(A8k kd x=true∧k (B2B z ok none) h n):=rfl
def C3S(o:Option V)(f:V→Prop)(g:Prop):Prop:=
 match o with
 |some v=>f v
 |none=>g
@[congr] theorem D3Q{o o':Option V}{f:V→Prop}{g:Prop}(e:o=o'):C3S o f g=C3S o' f g:=by rw [e]
@[go_sem] theorem D5x{v:V}{f:V→Prop}{g:Prop}:C3S (some v) f g=f v:=rfl
@[go_sem] theorem D5w{f:V→Prop}{g:Prop}:C3S none f g=g:=rfl
@[go_sem] theorem D6V{α:Type}{o:Option α}{F:α→V}{f:V→Prop}{g:Prop}:C3S (o.map F) f g=((∀x,o=some x→f (F x))∧(o=none→g)):=by
 cases o<;>simp [C3S]
@[go_sem] theorem D6N{kd b st:Nat}{z:V}{ok:Bool}{x:V}{k:Res}{h:A2}{n:Nat}:A9l kd z ok (.mp b st) x k h n=B8C (A2.get h b st) fun es=>A8k kd x=true∧A5X x es∧C3S (u7 x es) (fun v=>k (B2B z ok (some v)) h n) (k (B2B z ok none) h n):=by
 simp only [A9l,B8C]
 cases A2.get h b st with
 |none=>rfl
 | some x=>
  cases x with
  |rows sz rs=>rfl
  |map es=>
   simp only
   refine propext (and_congr_right fun _=>and_congr_right fun _=> ?_)
   cases u7 _ es<;>exact Iff.rfl
  |loop=>rfl
  |mapb=>rfl
  |iter=>rfl
  |raw=>rfl
@[congr] theorem D2i{kd:Nat}{m m' x x' v v':V}{k:Res}{h:A2}{n:Nat}(e0:m=m')(e1:x=x')(e2:v=v'):B2E kd m x v k h n=B2E kd m' x' v' k h n:=by rw [e0,e1,e2]
@[go_sem] theorem D6Q{kd b st:Nat}{x v:V}{k:Res}{h:A2}{n:Nat}:B2E kd (.mp b st) x v k h n=B8C (A2.get h b st) fun es=>A8k kd x=true∧A5X x es∧k .undef (A2.put h b st (.map (A7b x v es))) n:=rfl
@[go_sem] theorem D5e{g:FuncId}{cs as:List V}{k:Res}{h:A2}{n:Nat}:A9S P (.fn g cs) as h n k=(K8 P g=true∧A0 P g (as++cs) h n k):=rfl
@[congr] theorem D0z{x x':V}{as as':List V}{k:Res}{h:A2}{n:Nat}(e:x=x')(e':as=as'):A9S P x as h n k=A9S P x' as' h n k:=by rw [e,e']
@[congr] theorem D1I{f:FuncId}{as as':List V}{k:Res}{h h':A2}{n n':Nat}(e:as=as')(e':h=h')(e'':n=n'):A0 P f as h n k=A0 P f as' h' n' k:=by rw [e,e',e'']
def D1n(Q:Res)(o:Option (List V))(h:A2)(n:Nat):Prop:=
 match o with
 |some vs=>Q (B2K vs) h n
 |none=>False
@[congr] theorem D3U{Q:Res}{o o':Option (List V)}{h:A2}{n:Nat}(e:o=o'):D1n Q o h n=D1n Q o' h n:=by rw [e]
@[go_sem] theorem D5z{Q:Res}{vs:List V}{h:A2}{n:Nat}:D1n Q (some vs) h n=Q (B2K vs) h n:=rfl
@[go_sem ↓] theorem D7F{N:Nat}{rs:List RV}{Q:Res}{sl:List (Nat×V)}{h:A2}{n:Nat}:C7b ⟨P,N,rs,Q,none⟩ ⟨sl,h,n⟩=D1n Q (A9y ⟨sl,h,n⟩ rs) h n:=rfl
@[congr] theorem D1S{b b':Bool}{A:Prop}(e:b=b'):C1b b A=C1b b' A:=by rw [e]
@[go_sem] theorem D1T{A:Prop}:C1b false A=A:=rfl
@[go_sem] theorem D6y{i j:Nat}{A:Prop}:C1b (Nat.beq i j) A=if i=j then False else A:=by
 cases h:Nat.beq i j with
 |true=>rw [if_pos (Nat.eq_of_beq_eq_true h)];rfl
 |false=>rw [if_neg fun e=>by rw [e,Nat.beq_refl]at h;cases h];rfl
@[congr] theorem D1R{o o':Option (List AItem)}{f:List AItem→Prop}{g:Prop}(e:o=o'):B5T o f g=B5T o' f g:=by rw [e]
@[go_sem] theorem D3h{l:List AItem}{f:List AItem→Prop}{g:Prop}:B5T (some l) f g=f l:=rfl
@[go_sem] theorem D3g{f:List AItem→Prop}{g:Prop}:B5T none f g=g:=rfl
@[go_sem ↓] theorem D3F{N:Nat}{rs:List RV}{Q:Res}{s:St}:A5c ⟨P,N,rs,Q,none⟩ none s=C7b ⟨P,N,rs,Q,none⟩ s:=rfl
@[go_sem ↓] theorem D3G{N:Nat}{rs:List RV}{Q:Res}{s:St}:A5c ⟨P,N,rs,Q,none⟩ (some .ret) s=C7b ⟨P,N,rs,Q,none⟩ s:=rfl
@[go_sem ↓] theorem D2d{N id:Nat}{rs:List RV}{Q:Res}{s:St}:A5c ⟨P,N,rs,Q,none⟩ (some (.exit id)) s=False:=rfl
def C9B(o:Option Blk)(b st:Nat)(j:Option Code)(Q:Res)(h:A2)(n:Nat):Prop:=
 match o with
 |some (.loop N sl ps p _ _)=>Q (.bool j.isNone) (A2.put h b st (.loop N sl ps p (if j.isNone then .ready else .done) j)) n
 |_=>False
@[congr] theorem D3V{o o':Option Blk}{b st:Nat}{j:Option Code}{Q:Res}{h:A2}{n:Nat}(e:o=o'):C9B o b st j Q h n=C9B o' b st j Q h n:=by rw [e]
@[go_sem ↓] theorem D5o{N b st:Nat}{rs:List RV}{Q:Res}{j:Option Code}{sl:List (Nat×V)}{h:A2}{n:Nat}:A5c ⟨P,N,rs,Q,some (b,st)⟩ j ⟨sl,h,n⟩=C9B (A2.get h b st) b st j Q h n:=rfl
@[go_sem] theorem D6Z{b st N:Nat}{sl:List (Nat×V)}{ps:List Nat}{p:Code→Code→Prop}{s:LoopState}{pd:Option Code}{Q:Res}{h:A2}{n:Nat}:C9B (some (.loop N sl ps p s pd)) b st none Q h n=Q (.bool true) (A2.put h b st (.loop N sl ps p .ready none)) n:=rfl
@[go_sem] theorem D5A{b st N:Nat}{sl:List (Nat×V)}{ps:List Nat}{p:Code→Code→Prop}{s:LoopState}{pd:Option Code}{c:Code}{Q:Res}{h:A2}{n:Nat}:C9B (some (.loop N sl ps p s pd)) b st (some c) Q h n=Q (.bool false) (A2.put h b st (.loop N sl ps p .done (some c))) n:=rfl
def D0w(o:Option Blk)(b st:Nat)(K:St→Prop)(sl:List (Nat×V))(h:A2)(n:Nat):Prop:=
 match o with
 |some (.loop N sl' ps p .ready pend)=>K ⟨sl,A2.put h b st (.loop N sl' ps p .busy pend),n⟩
 |_=>False
@[congr] theorem D2M{o o':Option Blk}{b st:Nat}{K:St→Prop}{sl:List (Nat×V)}{h:A2}{n:Nat}(e:o=o'):D0w o b st K sl h n=D0w o' b st K sl h n:=by rw [e]
@[go_sem ↓] theorem D7p{N b st:Nat}{rs:List RV}{Q:Res}{K:St→Prop}{sl:List (Nat×V)}{h:A2}{n:Nat}:D2L ⟨P,N,rs,Q,some (b,st)⟩ ⟨sl,h,n⟩ K=D0w (A2.get h b st) b st K sl h n:=rfl
@[go_sem] theorem D2N{b st N:Nat}{sl sl':List (Nat×V)}{ps:List Nat}{p:Code→Code→Prop}{pd:Option Code}{K:St→Prop}{h:A2}{n:Nat}:D0w (some (.loop N sl' ps p .ready pd)) b st K sl h n=K ⟨sl,A2.put h b st (.loop N sl' ps p .busy pd),n⟩:=rfl
@[go_sem] theorem D5g{A:Prop}:D6v none A=A:=rfl
@[congr] theorem D3W{c:Cf}{nm:Nat}{v v':V}{ps:List Nat}{x y:AC}{s:St}{K:Option Code→St→Prop}(e:v=v'):C7e c nm v ps x y s K=C7e c nm v' ps x y s K:=by rw [e]
@[go_sem] theorem D7G{N nm:Nat}{rs:List RV}{Q:Res}{f:FuncId}{cs:List V}{ps:List Nat}{x y:AC}{sl:List (Nat×V)}{h:A2}{n:Nat}{K:Option Code→St→Prop}:
  C7e ⟨P,N,rs,Q,none⟩ nm (.fn f cs) ps x y ⟨sl,h,n⟩ K=(K8 P f=true∧A0 P f (.yld nm n::cs) (A2.put h nm n (.loop N sl ps (A2u P N x y) .ready none)) (n+1) (C4e nm n sl K)):=by
 simp [C7e]
def C9D(o:Option Blk)(K:Option Code→Prop):Prop:=
 match o with
 |some (.loop _ _ _ _ s pend)=>s≠ .busy∧K pend
 |_=>False
@[congr] theorem D3X{o o':Option Blk}{K:Option Code→Prop}(e:o=o'):C9D o K=C9D o' K:=by rw [e]
@[go_sem] theorem D7H{nm st:Nat}{sl:List (Nat×V)}{K:Option Code→St→Prop}{r:V}{h:A2}{n:Nat}:C4e nm st sl K r h n=C9D (A2.get h nm st) fun pend=>K pend ⟨sl,A2.del h nm,n⟩:=by
 unfold C4e C9D
 cases A2.get h nm st with
 |none=>rfl
 |some x=>cases x<;>rfl
@[go_sem] theorem D5B{N:Nat}{sl:List (Nat×V)}{ps:List Nat}{p:Code→Code→Prop}{s:LoopState}{pd:Option Code}{K:Option Code→Prop}:C9D (some (.loop N sl ps p s pd)) K=(s≠ .busy∧K pd):=rfl
@[go_sem] theorem D3D{K:List AItem→St→Prop}{k:List AItem}{s:St}:C1o K k none s=K k s:=rfl
@[go_sem] theorem D5n{K:List AItem→St→Prop}{k:List AItem}{s:St}:C1o K k (some .ret) s=K (.code .ret::k) s:=rfl
@[go_sem] theorem D3C{K:List AItem→St→Prop}{k:List AItem}{id:Nat}{s:St}:C1o K k (some (.exit id)) s=K (.code (.exit id)::k) s:=rfl
@[go_sem] theorem D2o{sl:List (Nat×V)}{p:Nat}{ps:List Nat}{a:V}{as:List V}:A8r sl (p::ps) (a::as)=A8r (I2 sl p a) ps as:=rfl
@[go_sem] theorem D3S{sl:List (Nat×V)}{as:List V}:A8r sl [] as=sl:=by cases as<;>rfl
@[go_sem] theorem D2V{b st:Nat}{as:List V}{k:Res}{h:A2}{n:Nat}:A9S P (.yld b st) as h n k=V5 P b st as h n k:=rfl
@[congr] theorem D2G{b st:Nat}{as as':List V}{k:Res}{h h':A2}{n n':Nat}(e:as=as')(e':h=h')(e'':n=n'):V5 P b st as h n k=V5 P b st as' h' n' k:=by rw [e,e',e'']
@[congr] theorem D7m{l l':List AI}{K:St→Prop}{s s':St}(e':l=l')(e:s=s'):vo P l K s=vo P l' K s':=by rw [e,e']
@[congr] theorem D6G{k k':List AItem}{s s':St}(e':k=k')(e:s=s'):go c m k s=go c m k' s':=by rw [e,e']
@[congr] theorem D4J{s s':St}(e:s=s'):Run c k s=Run c k s':=by rw [e]
@[go_sem] theorem D5D{sz:Nat}:C4 [] sz=True:=by simp [C4]
@[go_sem] theorem D4b{sz:Nat}{r:List V}{rs:List (List V)}:C4 (r::rs) sz=(r.length=sz∧C4 rs sz):=by simp [C4]
@[go_sem] theorem C9I{i:Nat}:D9 [] i= .undef:=rfl
theorem B3v{α:Type}{i j:Nat}{a b:α}:(bif Nat.beq i j then a else b)=if i=j then a else b:=by
 by_cases h:i=j
 ·subst h;simp
 ·rw [if_neg h]
  have:Nat.beq i j=false:=by
   cases hb:Nat.beq i j with
   |false=>rfl
   |true=>exact(h (Nat.eq_of_beq_eq_true hb)).elim
  rw [this];rfl
@[go_sem] theorem C7n{p:Nat×V}{r:List (Nat×V)}{i:Nat}:D9 (p::r) i=if p.1=i then p.2 else D9 r i:=B3v
@[go_sem] theorem D7e{i:Nat}{v:V}:I2 [] i v= [(i,v)]:=rfl
@[go_sem] theorem D5F{p:Nat×V}{r:List (Nat×V)}{i:Nat}{v:V}:I2 (p::r) i v=if p.1<i then(i,v)::p::r else if p.1=i then(i,v)::r else p::I2 r i v:=by
 simp only [I2]
 rw [B3v]
 by_cases h:p.1<i
 ·rw [if_pos h,if_neg zd,show Nat.blt p.1 i=true from Nat.ble_eq_true_of_le h];rfl
 ·rw [if_neg h]
  have:Nat.blt p.1 i=false:=by
   cases hb:Nat.blt p.1 i with
   |false=>rfl
   |true=>exact(h (Nat.le_of_ble_eq_true hb)).elim
  rw [this];rfl
attribute [go_sem] St.ev.eq_1 St.ev.eq_2 St.ev.eq_3 St.ev.eq_4 know A9y B2K A0O B2B B4w C3r B6A C1Q A3y B5X C8x C8w C0R D3A C3M B6p A5P A4e A8k u7 A7b D6R A5X K5 B2i K8
attribute [go_sem] inR B9e C8u eqE eqE.eqFs B9u D0o mmV mm2 A4u O8 L3 A4w A1w
attribute [go_sem] Option.map_some Option.map_none Option.bind_some Option.bind_none Option.getD_some Option.getD_none Option.isSome_some
attribute [go_sem] List.getElem?_cons_zero List.getElem?_cons_succ List.getElem?_nil List.length_cons List.length_nil List.drop_zero List.drop_succ_cons List.drop_nil List.take_zero List.take_succ_cons List.take_nil List.map_cons List.map_nil List.cons_append List.nil_append List.append_nil List.set_cons_zero List.set_cons_succ
attribute [go_sem] if_true if_false cond_true cond_false Bool.not_true Bool.not_false true_and and_true false_and and_false true_implies forall_const Bool.true_and Bool.and_true Bool.false_and Bool.and_false ite_true ite_false reduceIte
attribute [go_sem] Bool.not_eq_true Bool.not_eq_false decide_eq_true_eq decide_eq_false_iff_not Classical.not_not Bool.not_not decide_true decide_false Nat.zero_add Nat.add_zero ne_eq reduceCtorEq
@[go_sem] theorem D7v{α:Type}{a b:α}{p:Prop} [Decidable p]:(bif decide p then a else b)=if p then a else b:=by by_cases h:p<;>simp [h]
@[go_sem] theorem D7D{b st:Nat}:A2.get [] b st=none:=rfl
@[go_sem] theorem D6F{b' st' b st:Nat}{x:Blk}{r:A2}:A2.get ((b',st',x)::r) b st=if b'=b then(if st'=st then some x else none)else A2.get r b st:=B3v
@[go_sem] theorem D7W{h:A2}{b st:Nat}{x:Blk}:A2.put h b st x=(b,st,x)::A2.del h b:=rfl
@[go_sem] theorem D7w{b:Nat}:A2.del [] b= []:=rfl
@[go_sem] theorem D6u{b' st' b:Nat}{x:Blk}{r:A2}:A2.del ((b',st',x)::r) b=if b'=b then A2.del r b else(b',st',x)::A2.del r b:=by
 unfold A2.del
 rw [List.filter_cons,←B3v]
 cases Nat.beq b' b<;>simp
@[go_sem] theorem D5r{row:List V}{j n:Nat}:S5 row j n true=if j+n≤row.length then some (.agg ((row.drop j).take n))else none:=by
 unfold S5
 by_cases h:j+n≤row.length
 ·rw [if_pos h,Nat.ble_eq_true_of_le h];rfl
 ·rw [if_neg h]
  have:Nat.ble (j+n) row.length=false:=by
   cases hb:Nat.ble (j+n) row.length with
   |false=>rfl
   |true=>exact(h (Nat.le_of_ble_eq_true hb)).elim
  rw [this];rfl
@[go_sem] theorem D5q{row:List V}{j n:Nat}:S5 row j n false=row[j]? :=rfl
theorem C7V{α:Type}{i j:Nat}{a b:α}:(bif Nat.ble i j then a else b)=if i≤j then a else b:=by
 by_cases h:i≤j
 ·rw [if_pos h,Nat.ble_eq_true_of_le h];rfl
 ·rw [if_neg h]
  have:Nat.ble i j=false:=by
   cases hb:Nat.ble i j with
   |false=>rfl
   |true=>exact(h (Nat.le_of_ble_eq_true hb)).elim
  rw [this];rfl
@[go_sem] theorem D4Q{α:Type}{i j k l:Nat}{a b:α}:(bif Nat.beq i j&&Nat.ble k l then a else b)=if i=j then(if k≤l then a else b)else b:=by
 rw [←B3v,←C7V]
 cases Nat.beq i j<;>rfl
attribute [go_sem] B3v C7V
@[go_sem] theorem D8c{sl:List (Nat×V)}{h:A2}{n i:Nat}:St.ev ⟨sl,h,n⟩ (.t i)=D9 sl i:=rfl
section
variable {d:Nat} {h:A2} {φ:Nat→Nat→Nat→Nat→V}
attribute [go_sem] V.sub A4c K0
theorem G8: ∃φ,frz d h=V.sub φ:=by cases d<;>exact⟨_,rfl⟩
@[go_sem] theorem B9I{j:IntKind}{z:Int}:frz d h (.int j z)= .int j z:=by obtain⟨φ,e⟩:=G8 (d:=d) (h:=h);rw [e,V.sub]
@[go_sem] theorem C8A{b:Bool}:frz d h (.bool b)= .bool b:=by obtain⟨φ,e⟩:=G8 (d:=d) (h:=h);rw [e,V.sub]
@[go_sem] theorem D7B{b:List UInt8}:frz d h (.str b)= .str b:=by obtain⟨φ,e⟩:=G8 (d:=d) (h:=h);rw [e,V.sub]
@[go_sem] theorem D5j:frz d h .undef= .undef:=by obtain⟨φ,e⟩:=G8 (d:=d) (h:=h);rw [e,V.sub]
@[go_sem] theorem D6E:frz d h .nilp= .nilp:=by obtain⟨φ,e⟩:=G8 (d:=d) (h:=h);rw [e,V.sub]
@[go_sem] theorem D7A:frz d h .err= .err:=by obtain⟨φ,e⟩:=G8 (d:=d) (h:=h);rw [e,V.sub]
@[go_sem] theorem D6C{k:IntKind}:frz d h (.anyi k)= .anyi k:=by obtain⟨φ,e⟩:=G8 (d:=d) (h:=h);rw [e,V.sub]
@[go_sem] theorem D6D:frz d h .nilm= .nilm:=by obtain⟨φ,e⟩:=G8 (d:=d) (h:=h);rw [e,V.sub]
@[go_sem] theorem C8B:frz d h .nils= .isl []:=by obtain⟨φ,e⟩:=G8 (d:=d) (h:=h);rw [e,V.sub]
@[go_sem] theorem D7z{cs:List V}:frz d h (.agg cs)= .agg (cs.map (frz d h)):=by obtain⟨φ,e⟩:=G8 (d:=d) (h:=h);rw [e,V.sub,A4c]
@[go_sem] theorem D7C{cs:List V}:frz d h (.tup cs)= .tup (cs.map (frz d h)):=by obtain⟨φ,e⟩:=G8 (d:=d) (h:=h);rw [e,V.sub,A4c]
@[go_sem] theorem D0K{es:List (List V)}:frz d h (.isl es)= .isl (es.map fun r=>r.map (frz d h)):=by obtain⟨φ,e⟩:=G8 (d:=d) (h:=h);rw [e,V.sub,K0]
@[go_sem] theorem D3o{b st i n:Nat}:frz (d+1) h (.sl b st i n)=match A4e h (.sl b st i n)with|some rs=> .isl (rs.map fun r=>r.map (frz d h))|none=> .undef:=by rw [frz,V.sub]<;>rfl
end
theorem A0.pureF{f:FuncId}{x:List V}{r:V}{h:A2}{n:Nat}{k:Res}(c:Pure P f x r)(a:x.map (V.sub C7)=x)(b:k r h n):A0 P f x h n k:=A0.pure c a b
theorem A5f.pureF{f:FuncId}{x:List V}{r:V}{h:A2}{n:Nat}{k:Res}(c:Pure P f x r)(a:x.map (V.sub C7)=x)(b:k r h n):A5f P f x k h n:=⟨r,fun _ d=>A0.pureF c a d,b⟩
def A3d(s:List (Nat×V)):List (Nat×V)→Prop
 | []=>True
 |p::r=>D9 s p.1=p.2∧A3d s r
def B9P(e:Nat×Nat×Blk):A2→Prop
 | []=>False
 |x::r=>x=e∨B9P e r
def B2j(h:A2):A2→Prop
 | []=>True
 |e::r=>B9P e h∧B2j h r
theorem F3{s:List (Nat×V)}: ∀{l:List (Nat×V)},A3d s l↔ ∀p∈l,p.2=D9 s p.1
 | []=>by simp [A3d]
 |p::r=>by simp only [A3d,F3,List.forall_mem_cons];rw [eq_comm]
theorem C1B{e:Nat×Nat×Blk}: ∀{l:A2},B9P e l↔e∈l
 | []=>by simp [B9P]
 |p::r=>by simp only [B9P,C1B,List.mem_cons];rw [eq_comm]
theorem B3w{h:A2}: ∀{l:A2},B2j h l↔ ∀p∈l,p∈h
 | []=>by simp [B2j]
 |p::r=>by simp only [B2j,B3w,List.forall_mem_cons,C1B]
@[go_sem] theorem D7n{s s':St}:C1 s s'=(A3d s.sl s'.sl∧B2j s.h s'.h∧s.n≤s'.n):=by
 rw [eq_iff_iff,F3,B3w];exact Iff.rfl
@[go_sem] theorem D4h{s:List (Nat×V)}:A3d s []=True:=rfl
@[go_sem] theorem D2s{s:List (Nat×V)}{p:Nat×V}{r:List (Nat×V)}:A3d s (p::r)=(D9 s p.1=p.2∧A3d s r):=rfl
@[go_sem] theorem D6O{e:Nat×Nat×Blk}:B9P e []=False:=rfl
@[go_sem] theorem D5t{e x:Nat×Nat×Blk}{r:A2}:B9P e (x::r)=(x=e∨B9P e r):=rfl
@[go_sem] theorem D5b{h:A2}:B2j h []=True:=rfl
@[go_sem] theorem D2Q{h r:A2}{e:Nat×Nat×Blk}:B2j h (e::r)=(B9P e h∧B2j h r):=rfl
attribute [go_sem] Prod.mk.injEq V.int.injEq V.bool.injEq V.str.injEq V.agg.injEq V.tup.injEq V.isl.injEq V.sl.injEq V.ptr.injEq V.mp.injEq V.yld.injEq Blk.loop.injEq Blk.rows.injEq List.cons.injEq
attribute [go_sem] List.length_map List.drop_zero List.take_length List.length_append List.length_cons List.length_nil List.length_set List.length_replicate
attribute [go_sem] List.cons_append List.nil_append
attribute [go_sem] true_or or_true or_false false_or Nat.le_refl false_implies implies_true forall_const
end
end
end Go.Abs
attribute [go_sem] Nat.reduceEqDiff Nat.reduceAdd Nat.reduceSub Nat.reduceMul Nat.reduceLeDiff Nat.reduceLT Nat.reduceBEq Int.reduceToNat Int.reduceLE Int.reduceLT Int.reduceEq Int.reduceNe Int.reduceAdd Int.reduceSub Int.reduceNeg Int.toNat_natCast Int.cast_ofNat_Int Int.natCast_zero Int.natCast_one reduceCtorEq reduceIte Nat.lt_irrefl and_self not_false_eq_true not_true_eq_false
