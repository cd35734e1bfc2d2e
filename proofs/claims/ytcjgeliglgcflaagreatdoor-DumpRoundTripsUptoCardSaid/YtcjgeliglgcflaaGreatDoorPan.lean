/-
 Rounds of a range over a function that need a part of the heap. No condition.
-/
import Derived.Test.YtcjgeliglgcflaaGreatDoorWk
import Derived.Sort.Grow
set_option linter.unusedVariables false
set_option linter.unusedSimpArgs false
namespace Go.Abs
theorem J0.frame{P:Program}{b st:Nat}{as:List V}{h h1 rest:A2}{n:Nat}{k k1:Res}(hc:J0 P b st as h1 n k1)(hs1: ∀e∈h1,e∈h)(hs2: ∀e∈rest,e∈h∧ ∀e'∈h1,e'.1≠e.1)
  (hk: ∀r h' n',n≤n'→k1 r h' n'→k r (h'++rest) n'):J0 P b st as h n k:=by
 intro w O ρ cargs hr hst hR
 let O':Nat→Prop:=fun x=>O x∨Own ρ rest x
 have hsub: ∀x,Own ρ h1 x→Own ρ h x:=fun x ⟨e,he,hc⟩=>⟨e,hs1 e he,hc⟩
 have hsub2: ∀x,Own ρ rest x→Own ρ h x:=fun x ⟨e,he,hc⟩=>⟨e,(hs2 e he).1,hc⟩
 have hi:Imm (A4 w O ρ n h) (A4 w O' ρ n h1):=⟨Nat.le_refl _,fun _ _=>rfl,Nat.le_refl _,fun x _ ho hO=>⟨rfl,fun h=>ho (hsub x h),fun h=>h.elim hO fun h=>ho (hsub2 x h)⟩⟩
 have hdis: ∀e∈h1,(ρ e.2.1).cap≠0→ ¬Own ρ rest (ρ e.2.1).blk:=by
  rintro e he hc ⟨e',he',hc',hb⟩
  exact hr.inj e (hs1 e he) e' (hs2 e' he').1 ((hs2 e' he').2 e he) hc hc' hb.symm
 have hr1:HeapR w O' ρ n h1:=⟨fun e he=>hr.lt e (hs1 e he),fun e he e' he'=>hr.inj e (hs1 e he) e' (hs1 e' he'),fun x hx=>hx.elim (hr.out x) fun h=>hr.real (hsub2 x h),
  fun e he hc hO=>hO.elim (hr.notO e (hs1 e he) hc) (hdis e he hc),fun e he=>(hr.blk e (hs1 e he)).monoI hi (hr.lt e (hs1 e he)) fun _=>rfl,hr.gl.mono hi⟩
 obtain⟨q,qa,qb,qc⟩:=hc w O' ρ cargs hr1 hst ⟨hR.1,fun i c v hc hv=>(hR.2 i c v hc hv).monoI hi⟩
 refine⟨q,qa,qb,qc.mono ?_⟩
 rintro e w' ⟨v,r,h',n',ρ',rfl,hk1,hr',hRv,hx⟩
 have hlt: ∀e∈rest,e.2.1<n:=fun e he=>hr.lt e (hs2 e he).1
 have hρ: ∀e∈rest,ρ' e.2.1=ρ e.2.1:=fun e he=>hx.ρ _ (hlt e he)
 have hnot1: ∀x,Own ρ rest x→ ¬Own ρ h1 x:=by
  rintro x hx' ⟨e,he,hc,rfl⟩
  exact hdis e he hc hx'
 have hreal: ∀x,Own ρ rest x→x<w.heap.size:=fun x h=>hr.real (hsub2 x h)
 have hown: ∀x,Own ρ' (h'++rest) x→Own ρ' h' x∨Own ρ rest x:=by
  rintro x ⟨e,he,hc,hb⟩
  rcases List.mem_append.1 he with he|he
  ·exact .inl ⟨e,he,hc,hb⟩
  ·rw [hρ e he]at hc hb
   exact .inr ⟨e,he,hc,hb⟩
 have hxall:Ext (A4 w O ρ n h) (A4 w' O ρ' n' (h'++rest)):=by
  refine⟨rfl,hx.n,hx.ρ,hx.wd,fun x hx' ho=> ?_⟩
  have ho1: ¬Own ρ h1 x:=fun h=>ho (hsub x h)
  refine⟨(hx.blk x hx' ho1).1,fun h=> ?_⟩
  rcases hown x h with h|h
  ·exact(hx.blk x hx' ho1).2 h
  ·exact ho (hsub2 x h)
 have hi2:Imm (A4 w' O' ρ' n' h') (A4 w' O ρ' n' (h'++rest)):=⟨Nat.le_refl _,fun _ _=>rfl,Nat.le_refl _,fun x _ ho hO=>⟨rfl,fun h=>(hown x h).elim ho fun h=>hO (.inr h),fun h=>hO (.inl h)⟩⟩
 refine⟨v,r,h'++rest,n',ρ',rfl,hk r h' n' hx.n hk1,⟨?_,?_,fun x hx'=>Nat.lt_of_lt_of_le (hr.out x hx') hx.size,?_,?_,hr'.gl.mono hi2⟩,hRv.monoI hi2,hxall⟩
 ·intro e he
  rcases List.mem_append.1 he with he|he
  ·exact hr'.lt e he
  ·exact Nat.lt_of_lt_of_le (hlt e he) hx.n
 ·intro e he e' he' hne hc hc'
  rcases List.mem_append.1 he with he|he<;>rcases List.mem_append.1 he' with he'|he'
  ·exact hr'.inj e he e' he' hne hc hc'
  ·rw [hρ e' he']at hc'⊢
   intro heq
   have ho:Own ρ rest (ρ e'.2.1).blk:=⟨e',he',hc',rfl⟩
   exact(hx.blk _ (hreal _ ho) (hnot1 _ ho)).2 ⟨e,he,hc,heq⟩
  ·rw [hρ e he]at hc⊢
   intro heq
   have ho:Own ρ rest (ρ e.2.1).blk:=⟨e,he,hc,rfl⟩
   exact(hx.blk _ (hreal _ ho) (hnot1 _ ho)).2 ⟨e',he',hc',heq.symm⟩
  ·rw [hρ e he]at hc⊢
   rw [hρ e' he']at hc'⊢
   exact hr.inj e (hs2 e he).1 e' (hs2 e' he').1 hne hc hc'
 ·intro e he hc hO
  rcases List.mem_append.1 he with he|he
  ·exact hr'.notO e he hc (.inl hO)
  ·rw [hρ e he]at hc hO
   exact hr.notO e (hs2 e he).1 hc hO
 ·intro e he
  rcases List.mem_append.1 he with he|he
  ·exact(hr'.blk e he).monoI hi2 (hr'.lt e he) fun _=>rfl
  ·refine(hr.blk e (hs2 e he).1).monoI hxall.imm (hlt e he) fun hc=> ?_
   have ho:Own ρ rest (ρ e.2.1).blk:=⟨e,he,hc,rfl⟩
   exact(hx.blk _ (hreal _ ho) (hnot1 _ ho)).1
theorem J0.use{P:Program}{b st:Nat}{xs:List V}{h h1 rest:A2}{n:Nat}{k k1:Res}(hc:J0 P b st xs h1 n k1)(hh:h=rest++h1)(hs2: ∀e∈rest,∀e'∈h1,e'.1≠e.1)
  (hk: ∀r h' n',n≤n'→k1 r h' n'→k r (rest++h') n'):J0 P b st xs h n k:=by
 subst hh
 refine(J0.frame (rest:=rest) (k:=fun r h' n'=> ∃h2,(∀e∈h2,e∈h')∧k r h2 n') hc (fun e he=>List.mem_append.2 (.inr he)) (fun e he=>⟨List.mem_append.2 (.inl he),hs2 e he⟩) ?_).wk fun r h' n' h=> ?_
 ·intro r h' n' hn h1
  refine⟨rest++h',fun e he=> ?_,hk r h' n' hn h1⟩
  rcases List.mem_append.1 he with h|h
  ·exact List.mem_append.2 (.inr h)
  ·exact List.mem_append.2 (.inl h)
 ·obtain⟨h2,hs,hk2⟩:=h
  exact⟨r,h2,n',O8.wk ⟨fun p hp=>by rw [List.mem_singleton.1 hp];rfl,hs,Nat.le_refl _⟩,hk2⟩
theorem J0.enterU{P:Program}{b st N:Nat}{sl:List (Nat×V)}{ps:List Nat}{x y x' y':AC}(ex:x=x')(ey:y=y'){pend:Option Code}{xs:List V}{h:A2}{n:Nat}{Q:Res}(hg:A2.get h b st=some (.loop N sl ps (d9 P N x y) .ready pend))(hl:xs.length=ps.length)
  (hok: ∀Q',Q'=Q→Run ⟨P,N,[],A2H Q',some (b,st),none⟩ [.code x',.beg,.code y'] ⟨A4I sl ps xs,h,n⟩):J0 P b st xs h n Q:=by
 subst ex;subst ey
 exact J0.enterK hg hl hok
theorem G7.of{h:A2}{b:Nat}(ha:(h.all fun e=> !(Nat.beq e.1 b))=true):G7 h b:=fun e he h2=>by
 have:=List.all_eq_true.1 ha e he
 rw [h2,Nat.beq_refl]at this
 cases this
def zrw(z:Int):List V:= [.int .i64 z]
theorem A3.inplace{P:Program}{f:FuncId}(zs ds:List Int)(hm:0<zs.length)(hlen:ds.length=zs.length)(rv:Nat→Nat→Nat→Value)(r:V)(b st n:Nat)
  (hrv: ∀(E:Env) cap,st<E.n→zs.length≤cap→cap≤(E.ρ st).cap→(E.ρ st).sz=1→R E r (rv (E.ρ st).blk (E.ρ st).off cap))
  (hc: ∀(blk off cap:Nat) (w:World),Sort.Holds (Value.int .i64) w blk off zs.toArray→blk<w.heap.size→zs.length≤cap→
    Calls P f #[.slice (some ⟨blk,off,none⟩) zs.length cap] w fun e w'=>e= .returned (rv blk off cap)∧ ∃q os,w'=Sort.grow (Sort.putRow (Value.int .i64) (Sort.ahead w q) blk off ds.toArray) os):
  A3 P f [.sl b st 0 zs.length] [(b,st,.rows 1 (zs.map zrw))] n (fun r' h' n'=>r'=r∧h'= [(b,st,.rows 1 (ds.map zrw))]):=by
 intro w O ρ cargs hr hR
 obtain⟨hl,hR⟩:=hR
 obtain⟨cs⟩:=cargs
 match cs,hl with
 | [v], _=>
  have h0:=hR 0 _ v rfl rfl
  generalize hz:zs.length=m at h0 hm
  cases h0 with
  |sl0 _ _ _ a=>exact absurd hm (Nat.lt_irrefl _)
  | sl _ _ _ _ cap hst hn hcp=>
   subst hz
   have hmem:(b,st,Blk.rows 1 (zs.map zrw))∈ [(b,st,Blk.rows 1 (zs.map zrw))]:=List.mem_singleton.2 rfl
   obtain⟨hsz,hlen',hcell,hrows⟩:=hr.blk _ hmem
   simp only at hsz hlen' hcell hrows hcp
   simp only [Nat.zero_add]at hcp
   have hcap0:(ρ st).cap≠0:=by omega
   obtain⟨hc1,hc2⟩:=hcell hcap0
   have hH:Sort.Holds (Value.int .i64) w (ρ st).blk ((ρ st).off+0*(ρ st).sz) zs.toArray:=by
    intro j hj
    have hj':j<zs.length:=by simpa using hj
    have hrow:=(hrows j (zrw zs[j]) (by simp [hj'])).2 0 (.int .i64 zs[j]) rfl
    obtain⟨x,q1,_,q3⟩:=hrow
    have hx:=q3.int_inv
    subst hx
    have hf:=(hc1 j (by omega)).2
    rw [Nat.zero_mul,Nat.add_zero]
    refine⟨?_,hf⟩
    rw [Nat.mul_one,Nat.add_zero]at q1
    rw [q1]
    simp [hj']
   refine(hc (ρ st).blk ((ρ st).off+0*(ρ st).sz) cap w hH hc2 hn).mono ?_
   rintro e w' ⟨rfl,q,os,rfl⟩
   have hds:ds.toArray.size=zs.toArray.size:=by simpa using hlen
   have hHa:Sort.Holds (Value.int .i64) (Sort.ahead w q) (ρ st).blk ((ρ st).off+0*(ρ st).sz) zs.toArray:=hH
   have hsp:(ρ st).blk<(Sort.putRow (Value.int .i64) (Sort.ahead w q) (ρ st).blk ((ρ st).off+0*(ρ st).sz) ds.toArray).heap.size:=by
    rw [Sort.size_putRow];exact hc2
   have hother: ∀y,y≠(ρ st).blk→(Sort.putRow (Value.int .i64) (Sort.ahead w q) (ρ st).blk ((ρ st).off+0*(ρ st).sz) ds.toArray).heap[y]? =w.heap[y]? :=by
    intro y hy
    simp only [Sort.putRow,Sort.mapBlock,Sort.heap_ahead]
    rw [Array.getElem?_modify]
    rw [if_neg (fun h=>hy h.symm)]
   obtain⟨s1,s2⟩:=HeapR.step (w':=Sort.grow (Sort.putRow (Value.int .i64) (Sort.ahead w q) (ρ st).blk ((ρ st).off+0*(ρ st).sz) ds.toArray) os) (ρ':=ρ) (n':=n) (b:=b) (st:=st) (x:= .rows 1 (ds.map zrw)) hr (Nat.le_refl _) (fun _ _=>rfl) hst
    ⟨by rw [Sort.size_grow,Sort.size_putRow];exact Nat.le_add_right _ _,rfl,rfl⟩
    (fun y hy hyc=>by
      have hne:y≠(ρ st).blk:=fun h=>hcap0 (hyc h)
      rw [Sort.heap_grow_old _ _ (by rw [Sort.size_putRow];exact hy)]
      exact hother y hne)
    (.inr (.inr ⟨_,hmem,rfl,hcap0,rfl⟩))
    (fun _=>by
      refine⟨hsz,by simp only [List.length_map];omega,fun _=>⟨fun j hj=> ?_,?_⟩,fun i row hi=> ?_⟩
      ·rw [Sort.cell?_grow _ _ _ hsp,Sort.frozen?_grow _ _ _ hsp,Sort.frozen?_putRow]
       obtain⟨k1,k2⟩:=hc1 j hj
       refine⟨?_,k2⟩
       by_cases hjl:j<ds.length
       ·have:=Sort.cell?_putRow (Value.int .i64) (Sort.ahead w q) (ρ st).blk ((ρ st).off+0*(ρ st).sz) zs.toArray ds.toArray hHa hds j (by simpa using hjl)
        rw [Nat.zero_mul,Nat.add_zero]at this⊢
        rw [this];rfl
       ·rw [Sort.cell?_putRow_other _ _ _ _ _ _ (.inr (.inr (by simp;omega)))]
        exact k1
      ·rw [Sort.size_grow,Sort.size_putRow]
       exact Nat.lt_of_lt_of_le hc2 (Nat.le_add_right _ _)
      ·rw [List.getElem?_map,Option.map_eq_some_iff]at hi
       obtain⟨z,hz,rfl⟩:=hi
       have hil:=(List.getElem?_eq_some_iff.1 hz).1
       refine⟨rfl,fun j c hj=> ?_⟩
       have hj0:j=0∧c= .int .i64 z:=by
        cases j with
        |zero=>simp [zrw]at hj;exact⟨rfl,hj.symm⟩
        |succ j=>simp [zrw]at hj
       obtain⟨rfl,rfl⟩:=hj0
       refine⟨.int .i64 z,?_,rfl,.int _ _⟩
       have:=Sort.cell?_putRow (Value.int .i64) (Sort.ahead w q) (ρ st).blk ((ρ st).off+0*(ρ st).sz) zs.toArray ds.toArray hHa hds i (by simpa using hil)
       rw [Sort.cell?_grow _ _ _ hsp]
       rw [Nat.mul_one,Nat.add_zero]
       rw [Nat.zero_mul,Nat.add_zero]at this⊢
       rw [this]
       have hget:ds[i]=z:=by
        have:=List.getElem?_eq_getElem hil
        rw [hz]at this
        injection this with this
        exact this.symm
       simp [hil,hget])
   have hput:A2.put [(b,st,Blk.rows 1 (zs.map zrw))] b st (.rows 1 (ds.map zrw))= [(b,st,.rows 1 (ds.map zrw))]:=by
    simp [A2.put,A2.del]
   rw [hput]at s1 s2
   refine⟨_,r,_,n,ρ,rfl,⟨rfl,rfl⟩,s1,?_,s2⟩
   have:=hrv (A4 (Sort.grow (Sort.putRow (Value.int .i64) (Sort.ahead w q) (ρ st).blk ((ρ st).off+0*(ρ st).sz) ds.toArray) os) O ρ n [(b,st,.rows 1 (ds.map zrw))]) cap hst hn hcp hsz
   rw [Nat.zero_mul,Nat.add_zero]at this⊢
   exact this
theorem C1m{w:World}{O:Nat→Prop}{ρ:Nat→Loc}{n:Nat}{h h1 rest:A2}(hr:HeapR w O ρ n h)(hs1: ∀e∈h1,e∈h)(hs2: ∀e∈rest,e∈h∧ ∀e'∈h1,e'.1≠e.1):
  Imm (A4 w O ρ n h) (A4 w (fun x=>O x∨Own ρ rest x) ρ n h1)∧HeapR w (fun x=>O x∨Own ρ rest x) ρ n h1:=by
 let O':Nat→Prop:=fun x=>O x∨Own ρ rest x
 have hsub: ∀x,Own ρ h1 x→Own ρ h x:=fun x ⟨e,he,hc⟩=>⟨e,hs1 e he,hc⟩
 have hsub2: ∀x,Own ρ rest x→Own ρ h x:=fun x ⟨e,he,hc⟩=>⟨e,(hs2 e he).1,hc⟩
 have hi:Imm (A4 w O ρ n h) (A4 w O' ρ n h1):=⟨Nat.le_refl _,fun _ _=>rfl,Nat.le_refl _,fun x _ ho hO=>⟨rfl,fun h=>ho (hsub x h),fun h=>h.elim hO fun h=>ho (hsub2 x h)⟩⟩
 have hdis: ∀e∈h1,(ρ e.2.1).cap≠0→ ¬Own ρ rest (ρ e.2.1).blk:=by
  rintro e he hc ⟨e',he',hc',hb⟩
  exact hr.inj e (hs1 e he) e' (hs2 e' he').1 ((hs2 e' he').2 e he) hc hc' hb.symm
 have hr1:HeapR w O' ρ n h1:=⟨fun e he=>hr.lt e (hs1 e he),fun e he e' he'=>hr.inj e (hs1 e he) e' (hs1 e' he'),fun x hx=>hx.elim (hr.out x) fun h=>hr.real (hsub2 x h),
  fun e he hc hO=>hO.elim (hr.notO e (hs1 e he) hc) (hdis e he hc),fun e he=>(hr.blk e (hs1 e he)).monoI hi (hr.lt e (hs1 e he)) fun _=>rfl,hr.gl.mono hi⟩
 exact⟨hi,hr1⟩
theorem B1L{w w':World}{O:Nat→Prop}{ρ ρ':Nat→Loc}{n n':Nat}{h h1 rest h':A2}(hr:HeapR w O ρ n h)(hs1: ∀e∈h1,e∈h)(hs2: ∀e∈rest,e∈h∧ ∀e'∈h1,e'.1≠e.1)
  (hr':HeapR w' (fun x=>O x∨Own ρ rest x) ρ' n' h') (hx:Ext (A4 w (fun x=>O x∨Own ρ rest x) ρ n h1) (A4 w' (fun x=>O x∨Own ρ rest x) ρ' n' h')):
  HeapR w' O ρ' n' (h'++rest)∧Ext (A4 w O ρ n h) (A4 w' O ρ' n' (h'++rest))∧Imm (A4 w' (fun x=>O x∨Own ρ rest x) ρ' n' h') (A4 w' O ρ' n' (h'++rest)):=by
 let O':Nat→Prop:=fun x=>O x∨Own ρ rest x
 have hsub: ∀x,Own ρ h1 x→Own ρ h x:=fun x ⟨e,he,hc⟩=>⟨e,hs1 e he,hc⟩
 have hsub2: ∀x,Own ρ rest x→Own ρ h x:=fun x ⟨e,he,hc⟩=>⟨e,(hs2 e he).1,hc⟩
 have hi:Imm (A4 w O ρ n h) (A4 w O' ρ n h1):=⟨Nat.le_refl _,fun _ _=>rfl,Nat.le_refl _,fun x _ ho hO=>⟨rfl,fun h=>ho (hsub x h),fun h=>h.elim hO fun h=>ho (hsub2 x h)⟩⟩
 have hdis: ∀e∈h1,(ρ e.2.1).cap≠0→ ¬Own ρ rest (ρ e.2.1).blk:=by
  rintro e he hc ⟨e',he',hc',hb⟩
  exact hr.inj e (hs1 e he) e' (hs2 e' he').1 ((hs2 e' he').2 e he) hc hc' hb.symm
 have hlt: ∀e∈rest,e.2.1<n:=fun e he=>hr.lt e (hs2 e he).1
 have hρ: ∀e∈rest,ρ' e.2.1=ρ e.2.1:=fun e he=>hx.ρ _ (hlt e he)
 have hnot1: ∀x,Own ρ rest x→ ¬Own ρ h1 x:=by
  rintro x hx' ⟨e,he,hc,rfl⟩
  exact hdis e he hc hx'
 have hreal: ∀x,Own ρ rest x→x<w.heap.size:=fun x h=>hr.real (hsub2 x h)
 have hown: ∀x,Own ρ' (h'++rest) x→Own ρ' h' x∨Own ρ rest x:=by
  rintro x ⟨e,he,hc,hb⟩
  rcases List.mem_append.1 he with he|he
  ·exact .inl ⟨e,he,hc,hb⟩
  ·rw [hρ e he]at hc hb
   exact .inr ⟨e,he,hc,hb⟩
 have hxall:Ext (A4 w O ρ n h) (A4 w' O ρ' n' (h'++rest)):=by
  refine⟨rfl,hx.n,hx.ρ,hx.wd,fun x hx' ho=> ?_⟩
  have ho1: ¬Own ρ h1 x:=fun h=>ho (hsub x h)
  refine⟨(hx.blk x hx' ho1).1,fun h=> ?_⟩
  rcases hown x h with h|h
  ·exact(hx.blk x hx' ho1).2 h
  ·exact ho (hsub2 x h)
 have hi2:Imm (A4 w' O' ρ' n' h') (A4 w' O ρ' n' (h'++rest)):=⟨Nat.le_refl _,fun _ _=>rfl,Nat.le_refl _,fun x _ ho hO=>⟨rfl,fun h=>(hown x h).elim ho fun h=>hO (.inr h),fun h=>hO (.inl h)⟩⟩
 refine⟨⟨?_,?_,fun x hx'=>Nat.lt_of_lt_of_le (hr.out x hx') hx.size,?_,?_,hr'.gl.mono hi2⟩,hxall,hi2⟩
 ·intro e he
  rcases List.mem_append.1 he with he|he
  ·exact hr'.lt e he
  ·exact Nat.lt_of_lt_of_le (hlt e he) hx.n
 ·intro e he e' he' hne hc hc'
  rcases List.mem_append.1 he with he|he<;>rcases List.mem_append.1 he' with he'|he'
  ·exact hr'.inj e he e' he' hne hc hc'
  ·rw [hρ e' he']at hc'⊢
   intro heq
   have ho:Own ρ rest (ρ e'.2.1).blk:=⟨e',he',hc',rfl⟩
   exact(hx.blk _ (hreal _ ho) (hnot1 _ ho)).2 ⟨e,he,hc,heq⟩
  ·rw [hρ e he]at hc⊢
   intro heq
   have ho:Own ρ rest (ρ e.2.1).blk:=⟨e,he,hc,rfl⟩
   exact(hx.blk _ (hreal _ ho) (hnot1 _ ho)).2 ⟨e',he',hc',heq.symm⟩
  ·rw [hρ e he]at hc⊢
   rw [hρ e' he']at hc'⊢
   exact hr.inj e (hs2 e he).1 e' (hs2 e' he').1 hne hc hc'
 ·intro e he hc hO
  rcases List.mem_append.1 he with he|he
  ·exact hr'.notO e he hc (.inl hO)
  ·rw [hρ e he]at hc hO
   exact hr.notO e (hs2 e he).1 hc hO
 ·intro e he
  rcases List.mem_append.1 he with he|he
  ·exact(hr'.blk e he).monoI hi2 (hr'.lt e he) fun _=>rfl
  ·refine(hr.blk e (hs2 e he).1).monoI hxall.imm (hlt e he) fun hc=> ?_
   have ho:Own ρ rest (ρ e.2.1).blk:=⟨e,he,hc,rfl⟩
   exact(hx.blk _ (hreal _ ho) (hnot1 _ ho)).1
theorem C2.frame{P:Program}{f:FuncId}{as:List V}{h h1 rest:A2}{n:Nat}{k k1:Res}{pk pk1:H1}(hc:C2 P f as h1 n k1 pk1)(hs1: ∀e∈h1,e∈h)(hs2: ∀e∈rest,e∈h∧ ∀e'∈h1,e'.1≠e.1)
  (hk: ∀r h' n',n≤n'→k1 r h' n'→k r (h'++rest) n') (hp: ∀x h' n',n≤n'→pk1 x h' n'→pk x (h'++rest) n'):C2 P f as h n k pk:=by
 intro w O ρ cargs hr hR
 obtain⟨hi,hr1⟩:=C1m hr hs1 hs2
 refine(hc w _ ρ cargs hr1 ⟨hR.1,fun i c v hc hv=>(hR.2 i c v hc hv).monoI hi⟩).mono ?_
 rintro e w' (⟨v,r,h',n',ρ',rfl,hk1,hr',hRv,hx⟩|⟨x,h',n',ρ',rfl,hk1,hr',hx⟩)
 ·obtain⟨g1,g2,g3⟩:=B1L hr hs1 hs2 hr' hx
  exact .inl ⟨v,r,h'++rest,n',ρ',rfl,hk r h' n' hx.n hk1,g1,hRv.monoI g3,g2⟩
 ·obtain⟨g1,g2,g3⟩:=B1L hr hs1 hs2 hr' hx
  exact .inr ⟨x,h'++rest,n',ρ',rfl,hp x h' n' hx.n hk1,g1,g2⟩
theorem C2.at(l1 l2:List Nat){P:Program}{f:FuncId}{xs:List V}{h h1:A2}{n:Nat}{k k1:Res}{pk pk1:H1}(hc:C2 P f xs h1 n k1 pk1)(he:A0d h l1=h1)(hs3:A5L (A0d h l1) (A0d h l2)=true)
  (hk: ∀r h' n',n≤n'→k1 r h' n'→k r (h'++A0d h l2) n') (hp: ∀x h' n',n≤n'→pk1 x h' n'→pk x (h'++A0d h l2) n'):C2 P f xs h n k pk:=by
 subst he
 refine C2.frame hc (fun e he=>A1E he) (fun e he=>⟨A1E he,fun e' he'=> ?_⟩) hk hp
 unfold A5L at hs3
 have h1:=List.all_eq_true.1 (List.all_eq_true.1 hs3 e he) e' he'
 intro h2
 rw [h2,Nat.beq_refl]at h1
 cases h1
theorem C2.mono{P:Program}{f:FuncId}{xs:List V}{h:A2}{n:Nat}{k k1:Res}{pk pk1:H1}(hc:C2 P f xs h n k1 pk1)
  (hk: ∀r h' n',k1 r h' n'→k r h' n') (hp: ∀x h' n',pk1 x h' n'→pk x h' n'):C2 P f xs h n k pk:=by
 intro w O ρ cargs hr hR
 refine(hc w O ρ cargs hr hR).mono ?_
 rintro e w' (⟨v,r,h',n',ρ',rfl,hk1,q⟩|⟨x,h',n',ρ',rfl,hk1,q⟩)
 ·exact .inl ⟨v,r,h',n',ρ',rfl,hk _ _ _ hk1,q⟩
 ·exact .inr ⟨x,h',n',ρ',rfl,hp _ _ _ hk1,q⟩
def B4Z(pk:H1):H1:=fun x h n=> ∃h2,(∀e∈h2,e∈h)∧pk x h2 n
theorem B4Z.none{pk:H1}{x:Value}{h:A2}{n:Nat}(hk:pk x [] n):B4Z pk x h n:=⟨[],(fun e he=>by cases he),hk⟩
theorem C2.wk{P:Program}{f:FuncId}{xs:List V}{h:A2}{n:Nat}{k:Res}{pk:H1}(hc:C2 P f xs h n (A2H k) (B4Z pk)):C2 P f xs h n k pk:=by
 intro w O ρ cargs hr hR
 refine(hc w O ρ cargs hr hR).mono ?_
 rintro e w' (⟨v,r,h',n',ρ',rfl,⟨r2,h2,n2,hw,hk2⟩,hr',hRv,hx⟩|⟨x,h',n',ρ',rfl,⟨h2,hs,hk2⟩,hr',hx⟩)
 ·obtain⟨ρ2,hr2,hx2,hv⟩:=hw w' O ρ' hr'
  refine .inl ⟨v,r2,h2,n2,ρ2,rfl,hk2,hr2,?_,hx.trans hx2⟩
  have:=hv (fun i=>if i=0 then v else Go.undef) (fun i=>by
   cases i with
   |zero=>exact hRv
   |succ i=>exact .undef _) 0
  exact this
 ·obtain⟨hr2,hx2⟩:=hr'.drop hs
  exact .inr ⟨x,h2,n',ρ',rfl,hk2,hr2,hx.trans hx2⟩
theorem C2.enter{P:Program}{f:FuncId}{N:Nat}{ac:AC}{rs:List RV}{as:List V}{h:A2}{n:Nat}{Q:Res}{pk:H1}(hc:B3 P f=some (N,ac,rs))(hl:as.length≤N)
  (hok:Run ⟨P,N,rs,Q,none,some pk⟩ [.code ac] ⟨A8 0 as,h,n⟩):C2 P f as h n Q pk:=by
 intro w O ρ cargs hr hR cs
 unfold B3 at hc
 split at hc
 ·rename_i fn hf
  split at hc
  ·rename_i code hb
   split at hc
   ·rename_i ac' rs' h1 h2
    injection hc with hc
    injection hc with e1 hc
    injection hc with e2 e3
    subst e1;subst e2;subst e3
    let b:Frame:={(default:Frame)with fn:=f,kind:= .normal,roundOf:=none}
    have henter:Frame.enter P f cargs .normal=b.atR {tmps:=cargs++Array.replicate (fn.ntmps-cargs.size) Go.undef,defers:= []} [.code code]:=by
     simp [Frame.enter,Frame.atR,hf,hb,b]
    have hsim:Sim P none fn.ntmps (A4 w O ρ n h) (A8 0 as) {tmps:=cargs++Array.replicate (fn.ntmps-cargs.size) Go.undef,defers:= []}:=by
     refine⟨by simp;have:=hR.1;omega,(fun b e=>by cases e),.nil,fun i=> ?_⟩
     rw [A0r,if_pos (Nat.zero_le _),Nat.sub_zero]
     cases hi:as[i]? with
     |none=>exact .undef _
     |some v=>
      have hlt:i<cargs.size:=by have:=(List.getElem?_eq_some_iff.1 hi).1;have:=hR.1;omega
      simp only [Array.getD_eq_getD_getElem?,Array.getElem?_append_left hlt,Array.getElem?_eq_getElem hlt,Option.getD_some]
      exact hR.2 i v _ hi (by simp [hlt])
    rcases hok fn none ⟨fun _=>h2,rfl,.inr rfl⟩ O ρ _ w [.code code] b cs hr hsim rfl (.code h1 .nil)with⟨todo,a',w',ρ',s',rs',q1,q2,q3,q4,q5,q6⟩|⟨x,ρ',h',n',a',w',todo,g1,g2,g3,g4,g5⟩
    ·rw [←henter]at q1
     rw [h2]at q5
     injection q5 with q5
     subst q5
     unfold B6q at q6
     split at q6
     ·rename_i vs hvs
      obtain⟨v,g1,g2⟩:=A0M q2 q3 h2 hvs
      exact⟨.returned v,w',_,.inl ⟨v,_,_,_,ρ',rfl,q6,q2,g2,q4⟩,q1,rfl,rfl,q3.defers.1 rfl,rfl,fn,hf,g1⟩
     ·exact q6.elim
    ·rw [←henter]at g5
     exact⟨.panicked [{v:=x,recovered:=false}],w',_,.inr ⟨x,h',n',ρ',rfl,g4,g1,g2⟩,g5,rfl,rfl,g3 rfl,fn,hf⟩
   ·cases hc
  ·cases hc
 ·cases hc
theorem C2.enterK{P:Program}{f:FuncId}{N:Nat}{ac:AC}{rs:List RV}{xs:List V}{h:A2}{n:Nat}{Q:Res}{pk:H1}(hc:B3 P f=some (N,ac,rs))(hl:xs.length≤N)
  (hok: ∀Q' pk',Q'=Q→pk'=pk→Run ⟨P,N,rs,A2H Q',none,some (B4Z pk')⟩ [.code ac] ⟨A8 0 xs,h,n⟩):C2 P f xs h n Q pk:=(C2.enter hc hl (hok Q pk rfl rfl)).wk
def A8M(ds:List Nat):Code→Bool
 | .skip| .label _| .ret=>true
 | .seq x y=>A8M ds x&&A8M ds y
 | .cond _ x y=>A8M ds x&&A8M ds y
 | .region _ ops _=>ops.all fun o=>match o.dst with|some i=> !(ds.any (Nat.beq i))|none=>true
 |_=>false
def B5L(ds:List Nat):Item→Bool
 | .code c=>A8M ds c
 |_=>false
def B8e(c:Cx)(keep:List Nat)(O:Nat→Prop)(E:Env)(m:Machine)(b:Frame)(cs:List Frame)(a0:Act):Prop:=
 (∃ todo a' w' ρ',∃(s':St) (rs:List RV),Steps c.P m (lone {b.atR a' todo with mode:= .returning} cs w')∧HeapR w' O ρ' s'.n s'.h∧Sim c.P c.bs c.N (A4 w' O ρ' s'.n s'.h) s'.sl a'∧
    Ext E (A4 w' O ρ' s'.n s'.h)∧A0V c.P c.fn.results.toList=some rs∧B6q c rs s')∨
    ∃x ρ' h' n' a' w' todo,HeapR w' O ρ' n' h'∧Ext E (A4 w' O ρ' n' h')∧PutsOf (fun i=>i∉keep) a0 a'∧B0B c.pk x h' n'∧Steps c.P m (lone {b.atR a' todo with mode:= .panicking [{v:=x,recovered:=false}]} cs w')
def OKr(c:Cx)(keep:List Nat)(k:List AItem)(s:St):Prop:=
 ∀O ρ a w k' b cs,HeapR w O ρ s.n s.h→Sim c.P c.bs c.N (A4 w O ρ s.n s.h) s.sl a→b.roundOf=none→RelL c.P c.N k k'→k'.all (B5L keep)=true→B8e c keep O (A4 w O ρ s.n s.h) (lone (b.atR a k') cs w) b cs a
section
variable {c:Cx} {keep:List Nat} {k:List AItem} {s:St}
theorem B8e.step{O:Nat→Prop}{E E':Env}{m m':Machine}{b:Frame}{cs:List Frame}{a a1:Act}(hs:Steps c.P m m')(hx:Ext E E')(hp:PutsOf (fun i=>i∉keep) a a1)(h:B8e c keep O E' m' b cs a1):B8e c keep O E m b cs a:=by
 rcases h with⟨todo,a',w',ρ',s',rs,h1,h2,h3,h4,h5,h6⟩|⟨x,ρ',h',n',a',w',todo,h1,h2,h3,h4,h5⟩
 ·exact .inl ⟨todo,a',w',ρ',s',rs,hs.trans h1,h2,h3,hx.trans h4,h5,h6⟩
 ·exact .inr ⟨x,ρ',h',n',a',w',todo,h1,hx.trans h2,hp.trans h3,h4,hs.trans h5⟩
theorem OKr.resp:A5J (OKr c keep k):=by
 rintro s s' ⟨h1,h2,h3⟩ h O ρ a w k' b cs hr hs hd hk hq
 rw [←h2,←h3]at hr hs⊢
 exact h O ρ a w k' b cs hr ⟨hs.size,hs.base,hs.defers,fun i=>by rw [h1];exact hs.slot i⟩ hd hk hq
theorem OKr.skip(h:OKr c keep k s):OKr c keep (.code .skip::k) s:=by
 intro O ρ a w k' b cs hr hs hd hk hq
 cases hk with
 |code hc hk=>
  rename_i cd _
  simp only [List.all_cons,Bool.and_eq_true]at hq
  cases cd<;>simp only [G8]at hc<;>try (cases hc;done)
  case skip=>exact(h O ρ a w _ b cs hr hs hd hk hq.2).step (.one stepR_skip) (Ext.refl _) (.refl _ _)
  case label=>exact(h O ρ a w _ b cs hr hs hd hk hq.2).step (.one stepR_label) (Ext.refl _) (.refl _ _)
  case region id ops draw=>split at hc<;>first|(cases hc;done)|(split at hc<;>cases hc)
  case seq x y=>split at hc<;>cases hc
  case cond x y z=>split at hc<;>cases hc
  case block id x=>rw [Option.map_eq_some_iff]at hc;obtain⟨_,_,hc⟩:=hc;cases hc
  case scope x=>rw [Option.map_eq_some_iff]at hc;obtain⟨_,_,hc⟩:=hc;cases hc
  case loop x=>rw [Option.map_eq_some_iff]at hc;obtain⟨_,_,hc⟩:=hc;cases hc
  case rangeFunc g ps x y=>split at hc<;>first|(cases hc;done)|(split at hc<;>cases hc)
theorem OKr.seq{x y:AC}(h:OKr c keep (.code x:: .code y::k) s):OKr c keep (.code (.seq x y)::k) s:=by
 intro O ρ a w k' b cs hr hs hd hk hq
 cases hk with
 | code hc hk=>
  rename_i cd _
  simp only [List.all_cons,Bool.and_eq_true]at hq
  cases cd<;>simp only [G8]at hc<;>try (cases hc;done)
  case seq x y=>
   split at hc
   ·rename_i x' y' hx hy
    injection hc with hc
    injection hc with e1 e2
    subst e1;subst e2
    have hq1:=hq.1
    simp only [B5L,A8M,Bool.and_eq_true]at hq1
    exact(h O ρ a w _ b cs hr hs hd (.code hx (.code hy hk)) (by simp only [List.all_cons,Bool.and_eq_true];exact⟨hq1.1,hq1.2,hq.2⟩)).step (.one stepR_seq) (Ext.refl _) (.refl _ _)
   ·cases hc
  case region id ops draw=>split at hc<;>first|(cases hc;done)|(split at hc<;>cases hc)
  case cond x y z=>split at hc<;>cases hc
  case block id x=>rw [Option.map_eq_some_iff]at hc;obtain⟨_,_,hc⟩:=hc;cases hc
  case scope x=>rw [Option.map_eq_some_iff]at hc;obtain⟨_,_,hc⟩:=hc;cases hc
  case loop x=>rw [Option.map_eq_some_iff]at hc;obtain⟨_,_,hc⟩:=hc;cases hc
  case rangeFunc g ps x y=>split at hc<;>first|(cases hc;done)|(split at hc<;>cases hc)
theorem OKr.cond{x:Opd}{y z:AC}{t:Bool}(hv:s.ev x= .bool t)(h1:t=true→OKr c keep (.code y::k) s)(h2:t=false→OKr c keep (.code z::k) s):OKr c keep (.code (.cond x y z)::k) s:=by
 intro O ρ a w k' b cs hr hs hd hk hq
 cases hk with
 | code hc hk=>
  rename_i cd _
  simp only [List.all_cons,Bool.and_eq_true]at hq
  cases cd<;>simp only [G8]at hc<;>try (cases hc;done)
  case cond x y z=>
   split at hc
   ·rename_i x' y' z' hx hy hz
    injection hc with hc
    injection hc with e1 e2 e3
    subst e1;subst e2;subst e3
    have hq1:=hq.1
    simp only [B5L,A8M,Bool.and_eq_true]at hq1
    have hev:=(hs.evr hr.gl).ev hx
    rw [hv]at hev
    have hev:=hev.bool_inv
    have hst:=stepR_cond (P:=c.P) (b:=b) (k:= ‹List Item›) (cs:=cs) (w:=w) (x:=y) (y:=z) hev
    cases t with
    |true=>exact(h1 rfl O ρ a w _ b cs hr hs hd (.code hy hk) (by simp only [List.all_cons,Bool.and_eq_true];exact⟨hq1.1,hq.2⟩)).step (.one hst) (Ext.refl _) (.refl _ _)
    |false=>exact(h2 rfl O ρ a w _ b cs hr hs hd (.code hz hk) (by simp only [List.all_cons,Bool.and_eq_true];exact⟨hq1.2,hq.2⟩)).step (.one hst) (Ext.refl _) (.refl _ _)
   ·cases hc
  case region id ops draw=>split at hc<;>first|(cases hc;done)|(split at hc<;>cases hc)
  case seq x y=>split at hc<;>cases hc
  case block id x=>rw [Option.map_eq_some_iff]at hc;obtain⟨_,_,hc⟩:=hc;cases hc
  case scope x=>rw [Option.map_eq_some_iff]at hc;obtain⟨_,_,hc⟩:=hc;cases hc
  case loop x=>rw [Option.map_eq_some_iff]at hc;obtain⟨_,_,hc⟩:=hc;cases hc
  case rangeFunc g ps x y=>split at hc<;>first|(cases hc;done)|(split at hc<;>cases hc)
theorem OKr.ret{rs:List RV}(hrs:A0V c.P c.fn.results.toList=some rs)(h:B6q c rs s):OKr c keep (.code .ret::k) s:=by
 intro O ρ a w k' b cs hr hs hd hk hq
 cases hk with
 |code hc hk=>
  rename_i cd _
  cases cd<;>simp only [G8]at hc<;>try (cases hc;done)
  case ret=>exact .inl ⟨_,a,w,ρ,s,rs,.one (stepR_ret hd),hr,hs,Ext.refl _,hrs,h⟩
  all_goals first|(split at hc<;>first|(cases hc;done)|(split at hc<;>cases hc))|(rw [Option.map_eq_some_iff]at hc;obtain⟨_,_,hc⟩:=hc;cases hc)
theorem OKr.ops{iss:List (List AI)}(h: ∀is∈iss,A3r c.P (B0B c.pk) is s (OKr c keep k)):OKr c keep (.code (.ops iss)::k) s:=by
 intro O ρ a w k' b cs hr hs hd hk hq
 cases hk with
 | code hc hk=>
  rename_i cd _
  simp only [List.all_cons,Bool.and_eq_true]at hq
  cases cd<;>simp only [G8]at hc<;>try (cases hc;done)
  case region id ops draw=>
   split at hc
   ·cases hc
   split at hc
   ·rename_i iss' h1
    injection hc with hc
    injection hc with hc
    subst hc
    have hq1:=hq.1
    simp only [B5L,A8M]at hq1
    have hkp: ∀i,(∃o∈ops,o.dst=some i)→i∉keep:=by
     rintro i ⟨o,ho,hd'⟩ hi
     rw [Array.all_eq_true_iff_forall_mem]at hq1
     have:=hq1 o ho
     rw [hd']at this
     simp only [Bool.not_eq_true']at this
     rw [List.any_eq_false]at this
     exact this i hi (Nat.beq_refl i)
    rcases A4N (id:=id) OKr.resp h1 h hr hs b _ cs with⟨ρ',s',a',w',q1,q2,q3,q6,q4,q5⟩|⟨x,ρ',h',n',a',w',todo,q1,q2,q3,q6,q4,q5⟩
    ·exact(q4 O ρ' a' w' _ b cs q1 q2 hd hk hq.2).step q5 q3 (q6.weak hkp)
    ·exact .inr ⟨x,ρ',h',n',a',w',todo,q1,q2,q6.weak hkp,q4,q5⟩
   ·cases hc
  case seq x y=>split at hc<;>cases hc
  case cond x y z=>split at hc<;>cases hc
  case block id x=>rw [Option.map_eq_some_iff]at hc;obtain⟨_,_,hc⟩:=hc;cases hc
  case scope x=>rw [Option.map_eq_some_iff]at hc;obtain⟨_,_,hc⟩:=hc;cases hc
  case loop x=>rw [Option.map_eq_some_iff]at hc;obtain⟨_,_,hc⟩:=hc;cases hc
  case rangeFunc g ps x y=>split at hc<;>first|(cases hc;done)|(split at hc<;>cases hc)
end
def goR(c:Cf):Nat→List AItem→St→Prop
 |0,_,_=>False
 |_+1,[],_=>False
 |m+1,.code .skip::k,s=>goR c m k s
 |m+1,.code (.ops l)::k,s=>A7N c.P (B0B c.pk) l (goR c m k) s
 |m+1,.code (.seq a b)::k,s=>goR c m (.code a:: .code b::k) s
 |m+1,.code (.cond x a b)::k,s=>A5T (s.ev x) (goR c m (.code a::k) (know s x true)) (goR c m (.code b::k) (know s x false))
 |_+1,.code .ret::_,s=>B4H c s
 |_+1,_::_,_=>False
theorem B1X{c:Cx}{keep:List Nat}{k:List AItem}{s:St}{x:Opd}{b:Bool}(hv:s.ev x= .bool b)(h:OKr c keep k (know s x b)):OKr c keep k s:=by
 cases x with
 |t i=>exact OKr.resp ⟨E1 s.sl i (.bool b),s.h,s.n⟩ s ⟨fun j=>L7 hv j,rfl,rfl⟩ h
 |c v=>exact h
 |f g=>exact h
 |g g=>exact h
theorem A6Y{c:Cf}{keep:List Nat}{fn:Func}{bs:Option Nat}(hrs:A0V c.P fn.results.toList=some c.rs): ∀(m:Nat) (k:List AItem) (s:St),goR c m k s→OKr ⟨c.P,fn,c.N,c.Q,bs,none,c.pk⟩ keep k s
 |0,_,_,h=>h.elim
 |m+1,[],s,h=>h.elim
 |m+1,.code .skip::k,s,h=>OKr.skip (A6Y hrs m k s h)
 |m+1,.code (.ops l)::k,s,h=>OKr.ops fun is his=>A6Q (fun s' h'=>A6Y hrs m k s' h') (B1i (A7i h is his))
 |m+1,.code (.seq a b)::k,s,h=>OKr.seq (A6Y hrs m _ s h)
 | m+1,.code (.cond x a b)::k,s,h=>by
  simp only [goR,A5T]at h
  split at h
  ·rename_i t ht
   exact OKr.cond ht (fun e=>B1X (by rw [ht,e]) (A6Y hrs m _ _ (h.1 e))) (fun e=>B1X (by rw [ht,e]) (A6Y hrs m _ _ (h.2 e)))
  ·exact h.elim
 |m+1,.code .ret::k,s,h=>OKr.ret hrs h
 |m+1,.code .bad::_,_,h=>h.elim
 |m+1,.code (.block _ _)::_,_,h=>h.elim
 |m+1,.code (.loop _)::_,_,h=>h.elim
 |m+1,.code (.exit _)::_,_,h=>h.elim
 |m+1,.code (.rng ..)::_,_,h=>h.elim
 |m+1,.code (.dfr _)::_,_,h=>h.elim
 |m+1,.blk _::_,_,h=>h.elim
 |m+1,.lp _::_,_,h=>h.elim
 |m+1,.beg::_,_,h=>h.elim
def C6O(f g:FuncId)(caps:List Nat)(P:Program):Bool:=
 match P.funcs[f]? with
 | some fn=>match fn.body with
  | some (.seq _ (.seq (.region _ ops false) r))=>(match ops.toList with
   | [o0,_]=>(match o0.op with
    | .makeFunc (.func g') first cs=>Nat.beq g' g&&first.isEmpty&&(cs.toList.map fun x=>match x with| .tmp i=>some i|_=>none)==caps.map some
    |_=>false)
   |_=>false)&&A8M caps r
  |_=>false
 |none=>false
theorem B6M: ∀{cs:List Operand} {caps:List Nat},(cs.map fun x=>match x with| .tmp i=>some i|_=>none)=caps.map some→cs=caps.map Operand.tmp
 | [],[],_=>rfl
 | [],_::_,h=>by cases h
 |_::_,[],h=>by cases h
 |x::r,i::l,h=>by
  simp only [List.map_cons,List.cons.injEq]at h
  obtain⟨h1,h2⟩:=h
  cases x<;>simp at h1
  subst h1
  rw [B6M h2]
  rfl
theorem C0L{α:Type}{x:Bool}{a b:α}(h:(bif x then some a else none)=some b):x=true∧a=b:=by
 cases x with
 |true=>exact⟨rfl,Option.some.inj h⟩
 |false=>cases h
theorem B7e{P:Program}{bs:Option Nat}{N:Nat}{E:Env}{s:St}{o0 o1:Oper}{d id:Nat}{a:Act}{w:World}{g:FuncId}{cs0:Array Operand}{caps:List Nat}(hc:A6T P N #[o0,o1] false=some d)(h0:o0.op= .makeFunc (.func g) #[] cs0)(hcs:cs0.toList=caps.map Operand.tmp)
  (hbs:bs≠none) (hs:Sim P bs N E s.sl a) (b:Frame) (hb:b.roundOf=none) (k':List Item) (cs:List Frame):
  H9 P g=true∧ ∃a' vs,Sim P bs N E (E1 s.sl d .undef) a'∧a'.defers={target:= .fn (.func g) vs,args:= #[]}::a.defers∧vs.size=caps.length∧(∀(i:Nat) j v,caps[i]? =some j→vs[i]? =some v→v=a.tmps.getD j Go.undef)∧
   (∀i,i≠d→a'.tmps.getD i Go.undef=a.tmps.getD i Go.undef)∧Steps P (lone (b.atR a (.code (.region id #[o0,o1] false)::k')) cs w) (lone (b.atR a' k') cs w):=by
 unfold A6T at hc
 simp only at hc
 ·split at hc
  ·rename_i f first caps' q d' p0 p1 p2
   obtain⟨hb2,rfl⟩:=C0L hc
   simp only [Bool.and_eq_true]at hb2
   obtain⟨h1,h2,h3,h4,h5,h6,h7,h8,h9⟩:=hb2
   obtain⟨d0,g0⟩:=X2 h2
   have h7:=Nat.le_of_ble_eq_true h7
   have hf0:first= #[]:=by simpa using h1
   subst hf0
   have hd1:o1.dst=none:=by simpa using h4
   have hg1:o1.guard=none:=by simpa using h5
   obtain⟨qc,qa,qt⟩:=q
   have hqa:qa= #[]:=by simpa using h6
   subst hqa
   have hqc:qc= .value (.tmp d'):=by
    simp only at h3
    split at h3
    ·rw [Nat.eq_of_beq_eq_true h3]
    ·cases h3
   subst hqc
   rw [p0]at h0
   injection h0 with e1 e2 e3
   injection e1 with e1
   subst e1;subst e3
   have r0:(execOp a.eval o0).run P w= .ok (.value (.func (.func f) #[] (caps'.map a.eval))) w:=by simp [execOp,p0,Instr.makeFunc]
   have r1: ∀η:Operand→Value,η (.tmp d')= .func (.func f) #[] (caps'.map a.eval)→(execOp η o1).run P w= .ok (.defer {target:= .fn (.func f) (caps'.map a.eval),args:= #[]}) w:=fun η h=>by simp [execOp,p1,resolve,Deferred.ofValue,h]
   have hq:B1m P {target:= .fn (.func f) (caps'.map a.eval),args:= #[]}:=⟨.func f,caps'.map a.eval,f, #[]++caps'.map a.eval,rfl,fun w=>by simp [invoke,P7 h8],fun w=>B6k h9 _ w⟩
   have hvs:(caps'.map a.eval).size=caps.length∧ ∀(i:Nat) j v,caps[i]? =some j→(caps'.map a.eval)[i]? =some v→v=a.tmps.getD j Go.undef:=by
    have hm:(caps'.map a.eval).toList=caps.map fun j=>a.tmps.getD j Go.undef:=by
     rw [Array.toList_map,hcs,List.map_map]
     rfl
    refine⟨by rw [←Array.length_toList,hm,List.length_map],fun i j v hj hv=> ?_⟩
    have h2:(caps'.map a.eval).toList[i]? =some v:=by rw [Array.getElem?_toList];exact hv
    rw [hm,List.getElem?_map,hj]at h2
    injection h2 with h2
    exact h2.symm
   generalize hfv:(Value.func (.func f) #[] (caps'.map a.eval))=fv at*
   generalize hdd:({target:= .fn (.func f) (caps'.map a.eval),args:= #[]}:Deferred)=dd at*
   have hs1:=hs.set (d:=d') (v:= .undef) (x:=fv) h7 (.undef _)
   have hs2:Sim P bs N E (E1 s.sl d' .undef) {a.put (some d') fv with defers:=dd::a.defers}:=⟨hs1.size,hs1.base,hs1.defers.push hbs hq,hs1.slot⟩
   refine⟨h8,_,caps'.map a.eval,hs2,by rw [hdd],hvs.1,hvs.2,fun i hi=> ?_,?_⟩
   ·exact(PutsOf.put (ds:=fun i=>i=d') (d:=some d') (v:=fv) (a:=a) (fun i e=>by injection e with e;exact e.symm)).3 i hi
   have hops:wpOpsIn (Fr none) 0 P #[o0,o1] (fun e a' w'=>e= .normal∧a'={a.put (some d') fv with defers:=dd::a.defers}∧w'=w) [0,1] a w:=by
    refine B6e (o:=o0) rfl g0 r0 ?_
    rw [d0]
    refine B2l (o:=o1) rfl hg1 (r1 _ (A1X (by rw [hs.size];exact h7))) ?_
    rw [hd1]
    exact⟨rfl,rfl,rfl⟩
   obtain⟨e,a',w',⟨rfl,rfl,rfl⟩,harr⟩:=wp_opsIn _ a w hops b k' cs hb trivial (room_wide _)
   exact(Steps.one stepR_region).trans (StepsIn.steps harr)
  ·cases hc
def C0F(P:Program)(g:FuncId)(cv:List V)(x:Value)(h:A2)(n:Nat)(h2:A2)(n2:Nat):Prop:=
 ∀w O ρ vs,HeapR w O ρ n h→RL (A4 w O ρ n h) cv vs→CallsD P g vs (.panicking [{v:=x,recovered:=false}]) w fun e u' w'=>
  (∃v,e= .returned v)∧u'= .panicking [{v:=x,recovered:=true}]∧ ∃ρ',HeapR w' O ρ' n2 h2∧Ext (A4 w O ρ n h) (A4 w' O ρ' n2 h2)
def B0i(sl:List (Nat×V))(caps:List Nat):List (Nat×V):=caps.map fun i=>(i,C8 sl i)
def B0S(P:Program)(g:FuncId)(caps:List Nat)(rs:List RV)(Q:Res)(sl:List (Nat×V)):H1:=fun x h n=>
 ∃h2 n2,C0F P g (caps.map (C8 sl)) x h n h2 n2∧B4H ⟨P,0,rs,Q,none,none⟩ ⟨B0i sl caps,h2,n2⟩
theorem B2v(sl:List (Nat×V)): ∀(caps:List Nat) (i:Nat),C8 (B0i sl caps) i= .undef∨(i∈caps∧C8 (B0i sl caps) i=C8 sl i)
 | [],i=> .inl rfl
 | j::r,i=>by
  unfold B0i
  simp only [List.map_cons,C8]
  cases hb:Nat.beq j i with
  |true=>
   have:=Nat.eq_of_beq_eq_true hb
   subst this
   exact .inr ⟨List.mem_cons_self,rfl⟩
  |false=>
   rw [cond_false]
   exact(B2v sl r i).imp id fun h=>⟨List.mem_cons_of_mem _ h.1,h.2⟩
theorem A3.recover{P:Program}{f g:FuncId}{N d:Nat}{A:List (List AI)}{B:AC}{rs:List RV}{as:List V}{h:A2}{n:Nat}{Q:Res}{caps:List Nat}(hc:B3 P f=some (N,.seq (.ops A) (.seq (.dfr d) B),rs))(hl:as.length≤N)(hrec:C6O f g caps P=true)(hd:d∉caps)
  (hok: ∀is∈A,A3r P B6a is ⟨A8 0 as,h,n⟩ fun s1=>goR ⟨P,N,rs,Q,none,some (B0S P g caps rs Q s1.sl)⟩ 100 [.code B] ⟨E1 s1.sl d .undef,s1.h,s1.n⟩):A3 P f as h n Q:=by
 intro w O ρ cargs hr hR cs
 unfold B3 at hc
 split at hc
 ·rename_i fn hf
  split at hc
  ·rename_i code hb
   split at hc
   ·rename_i ac' rs' h1 h2
    injection hc with hc
    injection hc with e1 hc
    injection hc with e2 e3
    subst e1;subst e2
    have e3:=e3.symm
    subst e3
    unfold C6O at hrec
    simp only [hf,hb]at hrec
    split at hrec
    ·rename_i c1 id2 ops2 r hcode
     injection hcode with hcode
     subst hcode
     rw [Bool.and_eq_true]at hrec
     obtain⟨hrec,hkeep⟩:=hrec
     split at hrec
     ·rename_i o0 o1 hl2
      have e0:ops2= #[o0,o1]:=Array.ext' hl2
      subst e0
      split at hrec
      ·rename_i g' first cs0 ho0
       simp only [Bool.and_eq_true]at hrec
       obtain⟨⟨hg,hfirst⟩,hcaps⟩:=hrec
       have hg:=(Nat.eq_of_beq_eq_true hg).symm
       subst hg
       have hf0:first= #[]:=by simpa using hfirst
       subst hf0
       have hcs0:=B6M (eq_of_beq hcaps)
       -- the code's parts
       simp only [G8]at h1
       split at h1
       ·rename_i x' y' hx hy
        injection h1 with h1
        injection h1 with e1 e2
        have e1:=e1.symm
        subst e1;subst e2
        split at hy
        ·rename_i x2 y2 hx2 hy2
         injection hy with hy
         injection hy with e1 e2
         have e2:=e2.symm
         subst e1;subst e2
         have hD:A6T P fn.ntmps #[o0,o1] false=some d:=by
          split at hx2
          ·rename_i d' hd'
           injection hx2 with hx2
           injection hx2 with hx2
           rw [hd',hx2]
          ·split at hx2<;>cases hx2
         have hA: ∃id1 ops1 draw1,c1= .region id1 ops1 draw1∧A4y P (f*10000) fn.ntmps ops1 draw1=some A:=by
          cases c1<;>simp only [G8]at hx<;>try (cases hx;done)
          case region id ops draw=>
           split at hx
           ·cases hx
           split at hx
           ·rename_i iss' h1
            injection hx with hx
            injection hx with hx
            subst hx
            exact⟨_,_,_,rfl,h1⟩
           ·cases hx
          case seq x y=>split at hx<;>cases hx
          case cond x y z=>split at hx<;>cases hx
          case block id x=>rw [Option.map_eq_some_iff]at hx;obtain⟨_,_,hx⟩:=hx;cases hx
          case scope x=>rw [Option.map_eq_some_iff]at hx;obtain⟨_,_,hx⟩:=hx;cases hx
          case loop x=>rw [Option.map_eq_some_iff]at hx;obtain⟨_,_,hx⟩:=hx;cases hx
          case rangeFunc g ps x y=>split at hx<;>first|(cases hx;done)|(split at hx<;>cases hx)
         obtain⟨id1,ops1,draw1,rfl,hA⟩:=hA
         let b:Frame:={(default:Frame)with fn:=f,kind:= .normal,roundOf:=none}
         have henter:Frame.enter P f cargs .normal=b.atR {tmps:=cargs++Array.replicate (fn.ntmps-cargs.size) Go.undef,defers:= []} [.code (.seq (.region id1 ops1 draw1) (.seq (.region id2 #[o0,o1] false) r))]:=by
          simp [Frame.enter,Frame.atR,hf,hb,b]
         have hsim:Sim P (some w.heap.size) fn.ntmps (A4 w O ρ n h) (A8 0 as) {tmps:=cargs++Array.replicate (fn.ntmps-cargs.size) Go.undef,defers:= []}:=by
          refine⟨by simp;have:=hR.1;omega,(fun b e=>by injection e with e;exact e ▸ Nat.le_refl _),.nil,fun i=> ?_⟩
          rw [A0r,if_pos (Nat.zero_le _),Nat.sub_zero]
          cases hi:as[i]? with
          |none=>exact .undef _
          |some v=>
           have hlt:i<cargs.size:=by have:=(List.getElem?_eq_some_iff.1 hi).1;have:=hR.1;omega
           simp only [Array.getD_eq_getD_getElem?,Array.getElem?_append_left hlt,Array.getElem?_eq_getElem hlt,Option.getD_some]
           exact hR.2 i v _ hi (by simp [hlt])
         have s0:Steps P (lone (Frame.enter P f cargs .normal) cs w) (lone (b.atR {tmps:=cargs++Array.replicate (fn.ntmps-cargs.size) Go.undef,defers:= []} [.code (.region id1 ops1 draw1),.code (.seq (.region id2 #[o0,o1] false) r)]) cs w):=by
          rw [henter];exact .one stepR_seq
         have hK: ∀is∈A,A3r P B6a is ⟨A8 0 as,h,n⟩ fun s1=> ∃sl,(∀i,C8 s1.sl i=C8 sl i)∧goR ⟨P,fn.ntmps,rs,Q,none,some (B0S P g caps rs Q sl)⟩ 100 [.code B] ⟨E1 sl d .undef,s1.h,s1.n⟩:=
          fun is his=>A6Q (fun s1 h1=>⟨s1.sl,fun _=>rfl,h1⟩) (hok is his)
         have hresp:A5J fun s1:St=> ∃sl,(∀i,C8 s1.sl i=C8 sl i)∧goR ⟨P,fn.ntmps,rs,Q,none,some (B0S P g caps rs Q sl)⟩ 100 [.code B] ⟨E1 sl d .undef,s1.h,s1.n⟩:=by
          rintro x y ⟨q1,q2,q3⟩ ⟨sl,q4,q5⟩
          exact⟨sl,fun i=>(q1 i).symm.trans (q4 i),by rw [←q2,←q3];exact q5⟩
         rcases A4N (id:=id1) hresp hA hK hr hsim b [.code (.seq (.region id2 #[o0,o1] false) r)] cs with⟨ρ1,s1,a1,w1,hr1,hs1,hx1,hp1,⟨sl,hsl,hg1⟩,st1⟩|⟨_,_,_,_,_,_,_,_,_,_,_,q,_⟩
         rotate_left
         ·exact q.elim
         have hda:a1.defers= []:=hp1.1
         obtain⟨hgb,a2,vs,hs2,hd2,hvl,hvv,hk2,st2⟩:=B7e (s:=s1) (w:=w1) (id:=id2) hD ho0 hcs0 (by simp) hs1 b rfl [.code r] cs
         rw [hda]at hd2
         have hs2':Sim P (some w.heap.size) fn.ntmps (A4 w1 O ρ1 s1.n s1.h) (E1 sl d .undef) a2:=⟨hs2.size,hs2.base,hs2.defers,fun i=>by
          have:=hs2.slot i
          rw [G9]at this⊢
          rw [←hsl i]
          exact this⟩
         have hE:=A6Y (keep:=caps) (fn:=fn) (bs:=some w.heap.size) h2 100 _ _ hg1 O ρ1 a2 w1 [.code r] b cs hr1 hs2' rfl (.code hy2 .nil) (by simp only [List.all_cons,List.all_nil,Bool.and_true,B5L];exact hkeep)
         have s02:Steps P (lone (Frame.enter P f cargs .normal) cs w) (lone (b.atR a2 [.code r]) cs w1):=(s0.trans st1).trans (Steps.head stepR_seq st2)
         rcases hE with⟨todo,a',w',ρ',s',rs',q1,q2,q3,q4,q5,q6⟩|⟨x,ρ',h',n',a',w',todo,g1,g2,g3,g4,g5⟩
         ·have q1:=s02.trans q1
          have q4:=hx1.trans q4
          obtain⟨w2,m1,m2,m3,m4⟩:=A3P (P:=P) (bs:=some w.heap.size) (O:=O) (ρ:=ρ') (s:=s') a'.defers w' {b.atR a' todo with mode:= .returning} cs rfl rfl q3.defers q2
          rw [h2]at q5
          injection q5 with q5
          subst q5
          have hx2:Ext (A4 w O ρ n h) (A4 w2 O ρ' s'.n s'.h):=⟨rfl,q4.n,q4.ρ,⟨Nat.le_trans q4.wd.size m3.size,m3.os.trans q4.wd.os,m3.out.trans q4.wd.out⟩,fun x hx ho=>by
           obtain⟨z1,z2⟩:=q4.blk x hx ho
           exact⟨((m4 x).2 fun b e=>by injection e with e;exact e ▸ hx).trans z1,z2⟩⟩
          have hs2:Sim P (some 0) fn.ntmps (A4 w2 O ρ' s'.n s'.h) s'.sl {a' with defers:= []}:=⟨q3.size,fun b e=>by injection e with e;exact e ▸ Nat.zero_le _,.nil,fun i=>(q3.slot i).inCells (fun a=>((m4 0).1 a))⟩
          unfold B6q at q6
          split at q6
          ·rename_i vs hvs
           obtain⟨v,g1,g2⟩:=A0M m2 hs2 h2 hvs
           exact⟨.returned v,w2,_,⟨v,_,_,_,ρ',rfl,q6,m2,g2,hx2⟩,q1.trans m1,rfl,rfl,rfl,rfl,fn,hf,g1⟩
          ·exact q6.elim
         ·obtain⟨h3,n3,hrec,hret⟩:=g4
          have hda':a'.defers= [{target:= .fn (.func g) vs,args:= #[]}]:=by rw [g3.1];exact hd2
          have hi:(invoke (.fn (.func g) vs) #[]).run P w'= .ok (.enter g (#[]++vs)) w':=by simp [invoke,P7 hgb]
          have t1:=step_defer (P:=P) (fr:={b.atR a' todo with mode:= .panicking [{v:=x,recovered:=false}]}) (cs:=cs) (w:=w') (by simp) hda' rfl hi
          have hslot: ∀i,i∈caps→R (A4 w' O ρ' n' h') (C8 sl i) (a'.tmps.getD i Go.undef):=fun i hi=>by
           have hne:i≠d:=fun e=>hd (e ▸ hi)
           rw [g3.3 i (fun h=>h hi),hk2 i hne,←hsl i]
           exact(hs1.slot i).mono g2
          have hRL:RL (A4 w' O ρ' n' h') (caps.map (C8 sl)) (#[]++vs):=by
           refine⟨by simp [hvl],fun i c v hc hv=> ?_⟩
           have hv:vs[i]? =some v:=by simpa using hv
           rw [List.getElem?_map,Option.map_eq_some_iff]at hc
           obtain⟨j,hj,rfl⟩:=hc
           rw [hvv i j v hj hv,←hsl j]
           exact(hs1.slot j).mono g2
          obtain⟨e,u',w3,frX,⟨⟨v,rfl⟩,rfl,ρ3,hr3,hx3⟩,hsteps,hkX,hgo⟩:=hrec w' O ρ' _ g1 hRL {{b.atR a' todo with mode:= .panicking [{v:=x,recovered:=false}]}with defers:= []} cs rfl
          have t2:=step_going_returned (P:=P) (c:={{{b.atR a' todo with mode:= .panicking [{v:=x,recovered:=false}]}with defers:= []}with mode:= .panicking [{v:=x,recovered:=true}]}) (cs:=cs) hkX hgo
          have hs3:Sim P (some 0) fn.ntmps (A4 w3 O ρ3 n3 h3) (B0i sl caps) {a' with defers:= []}:=⟨g3.2.trans hs2.size,fun b e=>by injection e with e;exact e ▸ Nat.zero_le _,.nil,fun i=>by
           rcases B2v sl caps i with hu|⟨hi,he⟩
           ·rw [hu];exact .undef _
           ·rw [he];exact(hslot i hi).mono hx3⟩
          unfold B4H at hret
          split at hret
          ·rename_i us hus
           obtain⟨v2,k1,k2⟩:=A0M (s:=⟨B0i sl caps,h3,n3⟩) hr3 hs3 h2 hus
           exact⟨.returned v2,w3,_,⟨v2,_,_,_,ρ3,rfl,hret,hr3,k2,(hx1.trans g2).trans hx3⟩,(s02.trans g5).trans (.head t1 (Steps.trans hsteps (.one t2))),rfl,rfl,rfl,rfl,fn,hf,k1⟩
          ·exact hret.elim
        ·cases hy
       ·cases h1
      ·cases hrec
     ·cases hrec
    ·cases hrec
   ·cases hc
  ·cases hc
 ·cases hc
def C4Y(P:Program)(g:FuncId)(a t:Nat):Bool:=
 match P.funcs[g]? with
 | some fn=>match fn.body with
  | some (.seq (.region _ ops false) _)=>(match ops.toList with
   | [o0,o1]=>(match o0.op,o1.op with
    | .call q,.assign (.tmp b)=>(match q.callee with| .builtin .recover=>true|_=>false)&&Nat.beq b a
    |_,_=>false)&&(A7s o0 a&&(A7s o1 t&&(Nat.blt a fn.ntmps&&Nat.blt t fn.ntmps)))
   |_=>false)
  |_=>false
 |none=>false
theorem B9Q{P:Program}{ops:Array Oper}{Q:Exit→Act→List Frame→World→Prop}{i:Nat}{rest:List Nat}{a:Act}{cs cs':List Frame}{w:World}{o:Oper}{x:Value}(ho:ops[i]? =some o)(hg:o.guard=none)(hr:(execOp a.eval o).run P w= .ok .recover w)(hn:recoverD cs=some (x,cs'))
  (h:wpOpsS P ops Q rest (a.put o.dst x) cs' w):wpOpsS P ops Q (i::rest) a cs w:=by
 simp only [wpOpsS,ho,y0 hg,if_true,hr,hn]
 exact h
theorem C0F.of{P:Program}{g:FuncId}{N a0 t0:Nat}{A B:AC}{cv:List V}{x:Value}{h h2:A2}{n n2:Nat}(hc:B3 P g=some (N,.seq A B,[]))(hl:cv.length≤N)(hrec:C4Y P g a0 t0=true)
  (hok:Run ⟨P,N,[],A2H (fun _ h' n'=>h'=h2∧n'=n2),none,none⟩ [.code B] ⟨E1 (E1 (A8 0 cv) a0 (.cst x)) t0 (.cst x),h,n⟩):C0F P g cv x h n h2 n2:=by
 intro w O ρ cargs hr hR c cs hu
 unfold B3 at hc
 split at hc
 ·rename_i fn hf
  split at hc
  ·rename_i code hb
   split at hc
   ·rename_i ac' rs' h1 h3
    injection hc with hc
    injection hc with e1 hc
    injection hc with e2 e3
    subst e1;subst e2;subst e3
    unfold C4Y at hrec
    simp only [hf,hb]at hrec
    split at hrec
    ·rename_i id0 ops0 rest hcode
     injection hcode with hcode
     subst hcode
     split at hrec
     ·rename_i o0 o1 hl2
      have e0:ops0= #[o0,o1]:=Array.ext' hl2
      subst e0
      rw [Bool.and_eq_true]at hrec
      obtain⟨hrec,hd⟩:=hrec
      simp only [Bool.and_eq_true]at hd
      obtain⟨d0,d1,n0,n1⟩:=hd
      obtain⟨d0,g0⟩:=X2 d0
      obtain⟨d1,g1⟩:=X2 d1
      have n0:=Nat.le_of_ble_eq_true n0
      have n1:=Nat.le_of_ble_eq_true n1
      split at hrec
      ·rename_i q b1 p0 p1
       rw [Bool.and_eq_true]at hrec
       obtain⟨hq,hb1⟩:=hrec
       have hb1:=(Nat.eq_of_beq_eq_true hb1).symm
       subst hb1
       have hcal:q.callee= .builtin .recover:=by
        revert hq
        cases hcc:q.callee with
        |builtin b=>cases b<;>simp
        |value f=>simp
        |invoke r m=>simp
       obtain⟨qc,qa,qt⟩:=q
       subst hcal
       simp only [G8]at h1
       split at h1
       ·rename_i x' y' hx hy
        injection h1 with h1
        injection h1 with e1 e2
        have e2:=e2.symm
        subst e2
        let b:Frame:={(default:Frame)with fn:=g,kind:= .deferred,roundOf:=none}
        generalize hA:({tmps:=cargs++Array.replicate (fn.ntmps-cargs.size) Go.undef,defers:= []}:Act)=A0
        have hAd:A0.defers= []:=by rw [←hA]
        have henter:Frame.enter P g cargs .deferred=b.at A0 [.code (.seq (.region id0 #[o0,o1] false) rest)]:=by
         rw [←hA]
         simp [Frame.enter,Frame.at,hf,hb,b]
        have hsim:Sim P (some w.heap.size) fn.ntmps (A4 w O ρ n h) (A8 0 cv) A0:=by
         rw [←hA]
         refine⟨by simp;have:=hR.1;omega,(fun b e=>by injection e with e;exact e ▸ Nat.le_refl _),.nil,fun i=> ?_⟩
         rw [A0r,if_pos (Nat.zero_le _),Nat.sub_zero]
         cases hi:cv[i]? with
         |none=>exact .undef _
         |some v=>
          have hlt:i<cargs.size:=by have:=(List.getElem?_eq_some_iff.1 hi).1;have:=hR.1;omega
          simp only [Array.getD_eq_getD_getElem?,Array.getElem?_append_left hlt,Array.getElem?_eq_getElem hlt,Option.getD_some]
          exact hR.2 i v _ hi (by simp [hlt])
        have hrd:recoverD (c::cs)=some (x,{c with mode:= .panicking [{v:=x,recovered:=true}]}::cs):=by simp [recoverD,hu]
        have r0: ∀η:Operand→Value,(execOp η o0).run P w= .ok .recover w:=fun η=>by simp [execOp,p0,resolve,invoke,builtin]
        have r1: ∀η:Operand→Value,(execOp η o1).run P w= .ok (.value (η (.tmp a0))) w:=fun η=>by simp [execOp,p1]
        have hsz:a0<A0.tmps.size:=by rw [hsim.size];exact n0
        have hw0:(Code.region id0 #[o0,o1] false).wpS P (fun e a' cs' w'=>e= .normal∧a'=(A0.put (some a0) x).put (some t0) x∧cs'={c with mode:= .panicking [{v:=x,recovered:=true}]}::cs∧w'=w) A0 (c::cs) w:=by
         refine wpS_region ?_
         refine B9Q (o:=o0) rfl g0 (r0 _) hrd (A8Y (o:=o1) rfl g1 (r1 _) ?_)
         rw [d0,d1,A1X hsz]
         exact⟨rfl,rfl,rfl,rfl⟩
        obtain⟨e,a',cs',w',⟨rfl,rfl,rfl,hww⟩,harr⟩:=hw0 b [.code rest] rfl rfl
        have hww:=hww.symm
        subst hww
        have s0:Steps P (lone (Frame.enter P g cargs .deferred) (c::cs) w) (lone (b.at A0 [.code (.region id0 #[o0,o1] false),.code rest]) (c::cs) w):=by
         rw [henter];exact .one step_seq
        have hs2:=(hsim.set (d:=a0) (v:= .cst x) n0 (.cst x)).set (d:=t0) (v:= .cst x) n1 (.cst x)
        rcases hok fn (some w.heap.size) ⟨fun _=>h3,rfl,.inl rfl⟩ O ρ _ w [.code rest] b ({c with mode:= .panicking [{v:=x,recovered:=true}]}::cs) hr hs2 rfl (.code hy .nil)with⟨todo,a',w',ρ',s',rs',q1,q2,q3,q4,q5,q6⟩|⟨_,_,_,_,_,_,_,_,_,_,q,_⟩
        rotate_left
        ·exact q.elim
        obtain⟨w2,m1,m2,m3,m4⟩:=A3P (P:=P) (bs:=some w.heap.size) (O:=O) (ρ:=ρ') (s:=s') a'.defers w' {b.atR a' todo with mode:= .returning} _ rfl rfl q3.defers q2
        rw [h3]at q5
        injection q5 with q5
        subst q5
        have hx2:Ext (A4 w O ρ n h) (A4 w2 O ρ' s'.n s'.h):=⟨rfl,q4.n,q4.ρ,⟨Nat.le_trans q4.wd.size m3.size,m3.os.trans q4.wd.os,m3.out.trans q4.wd.out⟩,fun x hx ho=>by
         obtain⟨z1,z2⟩:=q4.blk x hx ho
         exact⟨((m4 x).2 fun b e=>by injection e with e;exact e ▸ hx).trans z1,z2⟩⟩
        have hs3:Sim P (some 0) fn.ntmps (A4 w2 O ρ' s'.n s'.h) s'.sl {a' with defers:= []}:=⟨q3.size,fun b e=>by injection e with e;exact e ▸ Nat.zero_le _,.nil,fun i=>(q3.slot i).inCells (fun a=>((m4 0).1 a))⟩
        obtain⟨v,k1,k2⟩:=A0M m2 hs3 h3 (rfl:A4m s' []=some [])
        have q6:A2H (fun _ h' n'=>h'=h2∧n'=n2) (A7w []) s'.h s'.n:=q6
        obtain⟨r2,h2',n2',hwk,rfl,rfl⟩:=q6
        obtain⟨ρ2,hr2,hx3,_⟩:=hwk w2 O ρ' m2
        have hbe:b.at ((A0.put (some a0) x).put (some t0) x) [.code rest]=b.atR ((A0.put (some a0) x).put (some t0) x) [.code rest]:=rfl
        refine⟨.returned v,_,w2,{{b.atR a' todo with mode:= .returning}with defers:= []},⟨⟨v,rfl⟩,rfl,ρ2,hr2,hx2.trans hx3⟩,(s0.trans (Steps.trans harr ?_)),rfl,rfl,rfl,fn,hf,k1⟩
        rw [hbe]
        exact q1.trans m1
       ·cases h1
      ·cases hrec
     ·cases hrec
    ·cases hrec
   ·cases hc
  ·cases hc
 ·cases hc
attribute [go_sem] goR.eq_3 goR.eq_4 goR.eq_5 goR.eq_6 goR.eq_7
theorem A3.recoverV{P:Program}{f g:FuncId}{N d:Nat}{A:List (List AI)}{B:AC}{rs:List RV}{as:List V}{h:A2}{n:Nat}{Q:Res}(caps:List Nat)(hc:B3 P f=some (N,.seq (.ops A) (.seq (.dfr d) B),rs))(hl:as.length≤N)(hrec:C6O f g caps P=true)(hd:d∉caps)
  (hok: ∀Q',Q'=Q→A7N P B6a A (fun s1:St=>goR ⟨P,N,rs,A2H Q',none,some (B0S P g caps rs (A2H Q') s1.sl)⟩ 100 [.code B] ⟨E1 s1.sl d .undef,s1.h,s1.n⟩) ⟨A8 0 as,h,n⟩):A3 P f as h n Q:=
 A3.wk (A3.recover hc hl hrec hd fun is his=>B1i (A7i (hok Q rfl) is his)) fun _ _ _ h=>h
end Go.Abs
