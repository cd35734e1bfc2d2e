/-
 Rounds of a range over a function that need a part of the heap. No condition.
-/
import Derived.Test.YtflobbpcabopjaaGreatDoorWk
set_option linter.unusedVariables false
set_option linter.unusedSimpArgs false
namespace Go.Abs
theorem G9.frame{P:Program}{b st:Nat}{as:List V}{h h1 rest:A2}{n:Nat}{k k1:Res}(hc:G9 P b st as h1 n k1)(hs1: ∀e∈h1,e∈h)(hs2: ∀e∈rest,e∈h∧ ∀e'∈h1,e'.1≠e.1)
  (hk: ∀r h' n',n≤n'→k1 r h' n'→k r (h'++rest) n'):G9 P b st as h n k:=by
 intro w O ρ cargs hr hst hR
 let O':Nat→Prop:=fun x=>O x∨Own ρ rest x
 have hsub: ∀x,Own ρ h1 x→Own ρ h x:=fun x ⟨e,he,hc⟩=>⟨e,hs1 e he,hc⟩
 have hsub2: ∀x,Own ρ rest x→Own ρ h x:=fun x ⟨e,he,hc⟩=>⟨e,(hs2 e he).1,hc⟩
 have hi:Imm (A4 w O ρ n h) (A4 w O' ρ n h1):=⟨Nat.le_refl _,fun _ _=>rfl,Nat.le_refl _,fun x _ ho hO=>⟨rfl,fun h=>ho (hsub x h),fun h=>h.elim hO fun h=>ho (hsub2 x h)⟩⟩
 have hdis: ∀e∈h1,(ρ e.2.1).cap≠0→ ¬Own ρ rest (ρ e.2.1).blk:=by
  rintro e he hc ⟨e',he',hc',hb⟩
  exact hr.inj e (hs1 e he) e' (hs2 e' he').1 ((hs2 e' he').2 e he) hc hc' hb.symm
 have hr1:HeapR w O' ρ n h1:=⟨fun e he=>hr.lt e (hs1 e he),fun e he e' he'=>hr.inj e (hs1 e he) e' (hs1 e' he'),fun x hx=>hx.elim (hr.out x) fun h=>hr.real (hsub2 x h),
  fun e he hc hO=>hO.elim (hr.notO e (hs1 e he) hc) (hdis e he hc),fun e he=>(hr.blk e (hs1 e he)).monoI hi (hr.lt e (hs1 e he)) fun _=>rfl,hr.gl.mono hi⟩
 obtain⟨q,qa,qb,qc⟩:=hc w O' ρ cargs hr1 hst ⟨hR.1,fun i c v hc hv=>(hR.2 i c v hc hv).monoI hi⟩
 refine⟨q,qa,qb,qc.mono ?_⟩
 rintro e w' ⟨v,r,h',n',ρ',rfl,hk1,hr',hRv,hx⟩
 have hlt: ∀e∈rest,e.2.1<n:=fun e he=>hr.lt e (hs2 e he).1
 have hρ: ∀e∈rest,ρ' e.2.1=ρ e.2.1:=fun e he=>hx.ρ _ (hlt e he)
 have hnot1: ∀x,Own ρ rest x→ ¬Own ρ h1 x:=by
  rintro x hx' ⟨e,he,hc,rfl⟩
  exact hdis e he hc hx'
 have hreal: ∀x,Own ρ rest x→x<w.heap.size:=fun x h=>hr.real (hsub2 x h)
 have hown: ∀x,Own ρ' (h'++rest) x→Own ρ' h' x∨Own ρ rest x:=by
  rintro x ⟨e,he,hc,hb⟩
  rcases List.mem_append.1 he with he|he
  ·exact .inl ⟨e,he,hc,hb⟩
  ·rw [hρ e he]at hc hb
   exact .inr ⟨e,he,hc,hb⟩
 have hxall:Ext (A4 w O ρ n h) (A4 w' O ρ' n' (h'++rest)):=by
  refine⟨rfl,hx.n,hx.ρ,hx.wd,fun x hx' ho=> ?_⟩
  have ho1: ¬Own ρ h1 x:=fun h=>ho (hsub x h)
  refine⟨(hx.blk x hx' ho1).1,fun h=> ?_⟩
  rcases hown x h with h|h
  ·exact(hx.blk x hx' ho1).2 h
  ·exact ho (hsub2 x h)
 have hi2:Imm (A4 w' O' ρ' n' h') (A4 w' O ρ' n' (h'++rest)):=⟨Nat.le_refl _,fun _ _=>rfl,Nat.le_refl _,fun x _ ho hO=>⟨rfl,fun h=>(hown x h).elim ho fun h=>hO (.inr h),fun h=>hO (.inl h)⟩⟩
 refine⟨v,r,h'++rest,n',ρ',rfl,hk r h' n' hx.n hk1,⟨?_,?_,fun x hx'=>Nat.lt_of_lt_of_le (hr.out x hx') hx.size,?_,?_,hr'.gl.mono hi2⟩,hRv.monoI hi2,hxall⟩
 ·intro e he
  rcases List.mem_append.1 he with he|he
  ·exact hr'.lt e he
  ·exact Nat.lt_of_lt_of_le (hlt e he) hx.n
 ·intro e he e' he' hne hc hc'
  rcases List.mem_append.1 he with he|he<;>rcases List.mem_append.1 he' with he'|he'
  ·exact hr'.inj e he e' he' hne hc hc'
  ·rw [hρ e' he']at hc'⊢
   intro heq
   have ho:Own ρ rest (ρ e'.2.1).blk:=⟨e',he',hc',rfl⟩
   exact(hx.blk _ (hreal _ ho) (hnot1 _ ho)).2 ⟨e,he,hc,heq⟩
  ·rw [hρ e he]at hc⊢
   intro heq
   have ho:Own ρ rest (ρ e.2.1).blk:=⟨e,he,hc,rfl⟩
   exact(hx.blk _ (hreal _ ho) (hnot1 _ ho)).2 ⟨e',he',hc',heq.symm⟩
  ·rw [hρ e he]at hc⊢
   rw [hρ e' he']at hc'⊢
   exact hr.inj e (hs2 e he).1 e' (hs2 e' he').1 hne hc hc'
 ·intro e he hc hO
  rcases List.mem_append.1 he with he|he
  ·exact hr'.notO e he hc (.inl hO)
  ·rw [hρ e he]at hc hO
   exact hr.notO e (hs2 e he).1 hc hO
 ·intro e he
  rcases List.mem_append.1 he with he|he
  ·exact(hr'.blk e he).monoI hi2 (hr'.lt e he) fun _=>rfl
  ·refine(hr.blk e (hs2 e he).1).monoI hxall.imm (hlt e he) fun hc=> ?_
   have ho:Own ρ rest (ρ e.2.1).blk:=⟨e,he,hc,rfl⟩
   exact(hx.blk _ (hreal _ ho) (hnot1 _ ho)).1
theorem G9.use{P:Program}{b st:Nat}{xs:List V}{h h1 rest:A2}{n:Nat}{k k1:Res}(hc:G9 P b st xs h1 n k1)(hh:h=rest++h1)(hs2: ∀e∈rest,∀e'∈h1,e'.1≠e.1)
  (hk: ∀r h' n',n≤n'→k1 r h' n'→k r (rest++h') n'):G9 P b st xs h n k:=by
 subst hh
 refine(G9.frame (rest:=rest) (k:=fun r h' n'=> ∃h2,(∀e∈h2,e∈h')∧k r h2 n') hc (fun e he=>List.mem_append.2 (.inr he)) (fun e he=>⟨List.mem_append.2 (.inl he),hs2 e he⟩) ?_).wk fun r h' n' h=> ?_
 ·intro r h' n' hn h1
  refine⟨rest++h',fun e he=> ?_,hk r h' n' hn h1⟩
  rcases List.mem_append.1 he with h|h
  ·exact List.mem_append.2 (.inr h)
  ·exact List.mem_append.2 (.inl h)
 ·obtain⟨h2,hs,hk2⟩:=h
  exact⟨r,h2,n',F7.wk ⟨fun p hp=>by rw [List.mem_singleton.1 hp];rfl,hs,Nat.le_refl _⟩,hk2⟩
theorem G9.enterU{P:Program}{b st N:Nat}{sl:List (Nat×V)}{ps:List Nat}{x y x' y':AC}(ex:x=x')(ey:y=y'){pend:Option Code}{xs:List V}{h:A2}{n:Nat}{Q:Res}(hg:A2.get h b st=some (.loop N sl ps (o7 P N x y) .ready pend))(hl:xs.length=ps.length)
  (hok: ∀Q',Q'=Q→Run ⟨P,N,[],B0N Q',some (b,st),none⟩ [.code x',.beg,.code y'] ⟨A6z sl ps xs,h,n⟩):G9 P b st xs h n Q:=by
 subst ex;subst ey
 exact G9.enterK hg hl hok
theorem H6.of{h:A2}{b:Nat}(ha:(h.all fun e=> !(Nat.beq e.1 b))=true):H6 h b:=fun e he h2=>by
 have:=List.all_eq_true.1 ha e he
 rw [h2,Nat.beq_refl]at this
 cases this
end Go.Abs
