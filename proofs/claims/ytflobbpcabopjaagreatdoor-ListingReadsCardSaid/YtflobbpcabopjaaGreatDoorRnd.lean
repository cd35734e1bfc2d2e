/-
 Rounds of a range over a function that need a part of the heap. No condition.
-/
import Derived.Test.YtflobbpcabopjaaGreatDoorWk
set_option linter.unusedVariables false namespace Go.Abs
theorem J4.frame{P:Program}{b st:Nat}{as:List V}{h h1 rest:A2}{n:Nat}{k k1:Res}(hc:J4 P b st as h1 n k1)(hs1: ∀e∈h1,e∈h)(hs2: ∀e∈rest,e∈h∧ ∀e'∈h1,e'.1≠e.1)
  (hk: ∀r h' n',n≤n'→k1 r h' n'→k r (h'++rest) n'):J4 P b st as h n k:=by
 intro w O ρ cargs hr hst hR
 let O':Nat→Prop:=fun x=>O x∨Own ρ rest x
 have hsub: ∀x,Own ρ h1 x→Own ρ h x:=fun x ⟨e,he,hc⟩=>⟨e,hs1 e he,hc⟩
 have hsub2: ∀x,Own ρ rest x→Own ρ h x:=fun x ⟨e,he,hc⟩=>⟨e,(hs2 e he).1,hc⟩
 have hi:Imm (A4 w O ρ n h) (A4 w O' ρ n h1):=⟨Nat.le_refl _,fun _ _=>rfl,Nat.le_refl _,fun x _ ho hO=>⟨rfl,fun h=>ho (hsub x h),fun h=>h.elim hO fun h=>ho (hsub2 x h)⟩⟩
 have hdis: ∀e∈h1,(ρ e.2.1).cap≠0→ ¬Own ρ rest (ρ e.2.1).blk:=by
  exact YH
 have hr1:HeapR w O' ρ n h1:=⟨fun e he=>hr.lt e (hs1 e he),fun e he e' he'=>hr.inj e (hs1 e he) e' (hs1 e' he'),fun x hx=>hx.elim (hr.out x) fun h=>hr.real (hsub2 x h),
  fun e he hc hO=>hO.elim (hr.notO e (hs1 e he) hc) (hdis e he hc),fun e he=>(hr.blk e (hs1 e he)).monoI hi (hr.lt e (hs1 e he)) fun _=>rfl,hr.gl.mono hi⟩
 obtain⟨q,qa,qb,qc⟩:=hc w O' ρ cargs hr1 hst ⟨hR.1,fun i c v hc hv=>(hR.2 i c v hc hv).monoI hi⟩
 refine⟨q,qa,qb,qc.mono ?_⟩
 rintro e w' ⟨v,r,h',n',ρ',rfl,hk1,hr',hRv,hx⟩
 have hlt: ∀e∈rest,e.2.1<n:=fun e he=>hr.lt e (hs2 e he).1
 have hρ: ∀e∈rest,ρ' e.2.1=ρ e.2.1:=fun e he=>hx.ρ _ (hlt e he)
 have hnot1: ∀x,Own ρ rest x→ ¬Own ρ h1 x:=by
  rintro x hx' ⟨e,he,hc,rfl⟩
  exact hdis e he hc hx'
 have hreal: ∀x,Own ρ rest x→x<w.heap.size:=fun x h=>hr.real (hsub2 x h)
 have hown: ∀x,Own ρ' (h'++rest) x→Own ρ' h' x∨Own ρ rest x:=by
  rintro x ⟨e,he,hc,hb⟩
  rcases List.mem_append.1 he with he|he
  ·exact .inl ⟨e,he,hc,hb⟩
  ·rw [hρ e he]at hc hb
   exact .inr ⟨e,he,hc,hb⟩
 have hxall:Ext (A4 w O ρ n h) (A4 w' O ρ' n' (h'++rest)):=by
  exact XA
 exact Xl
theorem J4.use{P:Program}{b st:Nat}{xs:List V}{h h1 rest:A2}{n:Nat}{k k1:Res}(hc:J4 P b st xs h1 n k1)(hh:h=rest++h1)(hs2: ∀e∈rest,∀e'∈h1,e'.1≠e.1)
  (hk: ∀r h' n',n≤n'→k1 r h' n'→k r (rest++h') n'):J4 P b st xs h n k:=by
 subst hh
 refine(J4.frame (rest:=rest) (k:=fun r h' n'=> ∃h2,(∀e∈h2,e∈h')∧k r h2 n') hc (fun e he=>List.mem_append.2 (.inr he)) (fun e he=>⟨List.mem_append.2 (.inl he),hs2 e he⟩) ?_).wk fun r h' n' h=> ?_
 ·exact XP
 ·obtain⟨h2,hs,hk2⟩:=h
  exact⟨r,h2,n',E8.wk ⟨fun p hp=>by rw [List.mem_singleton.1 hp];rfl,hs,Nat.le_refl _⟩,hk2⟩
theorem J4.enterU{P:Program}{b st N:Nat}{sl:List (Nat×V)}{ps:List Nat}{x y x' y':AC}(ex:x=x')(ey:y=y'){pend:Option Code}{xs:List V}{h:A2}{n:Nat}{Q:Res}(hg:A2.get h b st=some (.loop N sl ps (A0l P N x y) .ready pend))(hl:xs.length=ps.length)
  (hok: ∀Q',Q'=Q→Run ⟨P,N,[],P2 Q',some (b,st),none⟩ [.code x',.beg,.code y'] ⟨A6E sl ps xs,h,n⟩):J4 P b st xs h n Q:=by
 subst ex;subst ey
 exact J4.enterK hg hl hok
theorem B4.of{h:A2}{b:Nat}(ha:(h.all fun e=> !(Nat.beq e.1 b))=true):B4 h b:=fun e he h2=>by
 have:=List.all_eq_true.1 ha e he
 rw [h2,Nat.beq_refl]at this
 cases this
end Go.Abs
