/-
  Abstract code, what it is to run well, and the rules. No condition.
-/
import Derived.Test.YtlckjdhammcpaaaDoorOrd
set_option linter.unusedVariables false
set_option linter.unusedSimpArgs false
namespace Go.Abs

instance : Inhabited AI := ⟨⟨none, none, .mkmap 0⟩⟩

/-! The translation of code. -/

def compList (P : Program) (B N : Nat) (ops : Array Oper) : List Oper → Option (List AI)
  | [] => some []
  | o :: r => match compA P B N ops o, compList P B N ops r with
    | some i, some is => some (i :: is)
    | _, _ => none

def canonGo (m : Region.Mode) (ops : Array Oper) (extra : List (Nat × Nat)) (light : Nat → Bool) : Nat → List Nat → List Nat → List Nat
  | 0, _, acc => acc.reverse
  | fuel + 1, todo, acc =>
    let ready := todo.filter fun i => (match ops[i]? with
      | some o => o.after.toList.all fun e => !(Region.binds m e) || acc.any (Nat.beq e.on)
      | none => false) && extra.all fun p => !(Nat.beq p.2 i) || acc.any (Nat.beq p.1)
    match (ready.find? light).orElse fun _ => ready.head? with
    | some i => canonGo m ops extra light fuel (todo.filter fun j => !(Nat.beq j i)) (i :: acc)
    | none => acc.reverse

def conflicts (f : Nat → AI) (anc : Nat → Nat → Bool) : List Nat → List (Nat × Nat)
  | [] => []
  | a :: r => ((r.filter fun i => !(okPair (f a) (f i) || anc a i)).map fun i => (a, i)) ++ conflicts f anc r

/-- An orientation that no order can have. -/
def cyclic (anc : Nat → Nat → Bool) (E : List (Nat × Nat)) : Bool := E.any fun p => E.any fun q => Nat.beq p.2 q.1 && anc q.2 p.1

def pairsOk (f : Nat → AI) (anc : Nat → Nat → Bool) : List Nat → Bool
  | [] => true
  | a :: r => (r.all fun i => okPair (f a) (f i) || anc a i) && pairsOk f anc r

def nodupB : List Nat → Bool
  | [] => true
  | a :: r => !(r.any (Nat.beq a)) && nodupB r

def wholeB (n : Nat) (T : List Nat) : Bool := nodupB T && (Nat.beq T.length n && T.all fun i => Nat.blt i n)

/-- The orders, one for each way in which steps that meet can come. -/
def regionMode (f : Nat → AI) (m : Region.Mode) (ops : Array Oper) : Option (List (List Nat)) :=
  let light := fun i => Nat.ble (cls (f i).o) 1
  let T0 := canonGo m ops [] light ops.size (List.range ops.size) []
  let anc := ancM (masks m ops [] T0 [])
  let C := conflicts f anc T0
  let Es := (orients C).filter fun E => !cyclic anc E
  let Ts := Es.map fun E => canonGo m ops E light ops.size (List.range ops.size) []
  if (wholeB ops.size T0 && beforeB m ops T0.reverse) && (Nat.ble C.length 5 && ((C.all fun p => Nat.blt p.1 ops.size && Nat.blt p.2 ops.size && !(Nat.beq p.1 p.2)) &&
    ((Es.zip Ts).all fun q => wholeB ops.size q.2 && pairsOk f (ancM (masks m ops q.1 q.2 [])) q.2)))
  then some Ts else none

def eqNL : List Nat → List Nat → Bool
  | [], [] => true
  | a :: r, b :: s => Nat.beq a b && eqNL r s
  | _, _ => false

def compRegion (P : Program) (B N : Nat) (ops : Array Oper) (draw : Bool) : Option (List (List AI)) :=
  match compList P B N ops ops.toList with
  | none => none
  | some is =>
    if draw then
      let f := fun i => is.getD i default
      if P.follows .mixedOrders || !Region.departs ops then (regionMode f .any ops).map fun Ts => Ts.map fun T => T.map f
      else match regionMode f .text ops, regionMode f .gc ops with
        | some Ts, some Us => some ((Ts ++ Us.filter fun U => !(Ts.any (eqNL U))).map fun T => T.map f)
        | _, _ => none
    else some [is]

def compC (P : Program) (B N : Nat) : Code → Option AC
  | .skip => some .skip
  | .label _ => some .skip
  | .region _ ops draw => match compRegion P B N ops draw with
    | some l => some (.ops l)
    | none => some .bad
  | .seq a b => match compC P B N a, compC P B N b with
    | some a, some b => some (.seq a b)
    | _, _ => none
  | .cond c a b => match compX c, compC P B N a, compC P B N b with
    | some c, some a, some b => some (.cond c a b)
    | _, _, _ => none
  | .block id a => (compC P B N a).map (.block id)
  | .loop a => (compC P B N a).map .loop
  | .exit id => some (.exit id)
  | .ret => some .ret
  | _ => some .bad

inductive RV where
  | t (i : Nat)
  | c (i n : Nat) (agg : Bool)

def compR (P : Program) : List ResultVar → Option (List RV)
  | [] => some []
  | .tmp i :: r => (compR P r).map (.t i :: ·)
  | .cell i t :: r => match tyOf P t, compR P r with
    | some (n, a), some rs => some (.c i n a :: rs)
    | _, _ => none

/-! Running well. -/

structure Cx where
  P : Program
  fn : Func
  N : Nat
  Q : Res

inductive RelL (P : Program) (N : Nat) : List AItem → List Item → Prop
  | nil : RelL P N [] []
  | code {B : Nat} {ac : AC} {c : Code} {k : List AItem} {k' : List Item} (h : compC P B N c = some ac) (hk : RelL P N k k') : RelL P N (.code ac :: k) (.code c :: k')
  | blk {id : Nat} {k : List AItem} {k' : List Item} (hk : RelL P N k k') : RelL P N (.blk id :: k) (.inBlock id :: k')
  | lp {B : Nat} {ac : AC} {c : Code} {k : List AItem} {k' : List Item} (h : compC P B N c = some ac) (hk : RelL P N k k') : RelL P N (.lp ac :: k) (.inLoop c :: k')

def Ends (c : Cx) (O : Nat → Prop) (E : Env) (m : Machine) (b : Frame) (cs : List Frame) : Prop :=
  ∃ todo a' w' ρ' h' n' v r, Steps c.P m (lone { b.at a' todo with mode := .returning } cs w') ∧ a'.defers = [] ∧ (results c.fn a'.tmps).run c.P w' = .ok v w' ∧ HeapR w' O ρ' n' h' ∧
    R (envOf w' O ρ' n' h') r v ∧ Ext E (envOf w' O ρ' n' h') ∧ c.Q r h' n'

def OK (c : Cx) (k : List AItem) (s : St) : Prop :=
  ∀ O ρ a w k' b cs, HeapR w O ρ s.n s.h → Sim c.N (envOf w O ρ s.n s.h) s.sl a → RelL c.P c.N k k' → Ends c O (envOf w O ρ s.n s.h) (lone (b.at a k') cs w) b cs

section
variable {c : Cx} {k : List AItem} {s : St}

theorem Ends.step {O : Nat → Prop} {E E' : Env} {m m' : Machine} {b : Frame} {cs : List Frame} (hs : Steps c.P m m') (hx : Ext E E') (h : Ends c O E' m' b cs) : Ends c O E m b cs := by
  obtain ⟨todo, a', w', ρ', h', n', v, r, h1, h2, h3, h4, h5, h6, h7⟩ := h
  exact ⟨todo, a', w', ρ', h', n', v, r, hs.trans h1, h2, h3, h4, h5, hx.trans h6, h7⟩

theorem OK.resp : Resp (OK c k) := by
  rintro s s' ⟨h1, h2, h3⟩ h O ρ a w k' b cs hr hs hk
  rw [← h2, ← h3] at hr hs ⊢
  exact h O ρ a w k' b cs hr ⟨hs.size, hs.defers, fun i => by rw [h1]; exact hs.slot i⟩ hk

theorem OK.skip (h : OK c k s) : OK c (.code .skip :: k) s := by
  intro O ρ a w k' b cs hr hs hk
  cases hk with
  | code hc hk =>
    rename_i cd _
    cases cd <;> simp only [compC] at hc <;> try (cases hc; done)
    case skip => exact (h O ρ a w _ b cs hr hs hk).step (.one step_skip) (Ext.refl _)
    case label => exact (h O ρ a w _ b cs hr hs hk).step (.one step_label) (Ext.refl _)
    case region id ops draw => split at hc <;> cases hc
    case seq x y => split at hc <;> cases hc
    case cond x y z => split at hc <;> cases hc
    case block id x => rw [Option.map_eq_some_iff] at hc; obtain ⟨_, _, hc⟩ := hc; cases hc
    case loop x => rw [Option.map_eq_some_iff] at hc; obtain ⟨_, _, hc⟩ := hc; cases hc

theorem OK.seq {x y : AC} (h : OK c (.code x :: .code y :: k) s) : OK c (.code (.seq x y) :: k) s := by
  intro O ρ a w k' b cs hr hs hk
  cases hk with
  | code hc hk =>
    rename_i cd _
    cases cd <;> simp only [compC] at hc <;> try (cases hc; done)
    case seq x y =>
      split at hc
      · rename_i x' y' hx hy
        injection hc with hc
        injection hc with e1 e2
        subst e1; subst e2
        exact (h O ρ a w _ b cs hr hs (.code hx (.code hy hk))).step (.one step_seq) (Ext.refl _)
      · cases hc
    case region id ops draw => split at hc <;> cases hc
    case cond x y z => split at hc <;> cases hc
    case block id x => rw [Option.map_eq_some_iff] at hc; obtain ⟨_, _, hc⟩ := hc; cases hc
    case loop x => rw [Option.map_eq_some_iff] at hc; obtain ⟨_, _, hc⟩ := hc; cases hc

theorem OK.cond {x : Opd} {y z : AC} {t : Bool} (hv : s.ev x = .bool t) (h1 : t = true → OK c (.code y :: k) s) (h2 : t = false → OK c (.code z :: k) s) : OK c (.code (.cond x y z) :: k) s := by
  intro O ρ a w k' b cs hr hs hk
  cases hk with
  | code hc hk =>
    rename_i cd _
    cases cd <;> simp only [compC] at hc <;> try (cases hc; done)
    case cond x y z =>
      split at hc
      · rename_i x' y' z' hx hy hz
        injection hc with hc
        injection hc with e1 e2 e3
        subst e1; subst e2; subst e3
        have hev := (hs.evr hr.gl).ev hx
        rw [hv] at hev
        have hev := hev.bool_inv
        have hst := step_cond (P := c.P) (b := b) (k := ‹List Item›) (cs := cs) (w := w) (x := y) (y := z) hev
        cases t with
        | true => exact (h1 rfl O ρ a w _ b cs hr hs (.code hy hk)).step (.one hst) (Ext.refl _)
        | false => exact (h2 rfl O ρ a w _ b cs hr hs (.code hz hk)).step (.one hst) (Ext.refl _)
      · cases hc
    case region id ops draw => split at hc <;> cases hc
    case seq x y => split at hc <;> cases hc
    case block id x => rw [Option.map_eq_some_iff] at hc; obtain ⟨_, _, hc⟩ := hc; cases hc
    case loop x => rw [Option.map_eq_some_iff] at hc; obtain ⟨_, _, hc⟩ := hc; cases hc

theorem OK.block {id : Nat} {x : AC} (h : OK c (.code x :: .blk id :: k) s) : OK c (.code (.block id x) :: k) s := by
  intro O ρ a w k' b cs hr hs hk
  cases hk with
  | code hc hk =>
    rename_i cd _
    cases cd <;> simp only [compC] at hc <;> try (cases hc; done)
    case block id x =>
      rw [Option.map_eq_some_iff] at hc
      obtain ⟨x', hx, hc⟩ := hc
      injection hc with e1 e2
      subst e1; subst e2
      exact (h O ρ a w _ b cs hr hs (.code hx (.blk hk))).step (.one step_block) (Ext.refl _)
    case region id ops draw => split at hc <;> cases hc
    case seq x y => split at hc <;> cases hc
    case cond x y z => split at hc <;> cases hc
    case loop x => rw [Option.map_eq_some_iff] at hc; obtain ⟨_, _, hc⟩ := hc; cases hc

theorem OK.blk {id : Nat} (h : OK c k s) : OK c (.blk id :: k) s := by
  intro O ρ a w k' b cs hr hs hk
  cases hk with
  | blk hk => exact (h O ρ a w _ b cs hr hs hk).step (.one step_inBlock) (Ext.refl _)

def dropTo (id : Nat) : List AItem → Option (List AItem)
  | [] => none
  | .blk id' :: k => bif Nat.beq id' id then some k else dropTo id k
  | .code _ :: k => dropTo id k
  | .lp _ :: k => dropTo id k

theorem dropTo_rel {id : Nat} {P : Program} {N : Nat} {k : List AItem} {k' : List Item} (h : RelL P N k k') : ∀ {k2 : List AItem}, dropTo id k = some k2 → ∃ k2', exitTo id k' = some k2' ∧ RelL P N k2 k2' := by
  induction h with
  | nil => intro k2 h; cases h
  | code _ _ ih => intro k2 h; exact ih h
  | lp _ _ ih => intro k2 h; exact ih h
  | blk hk ih =>
    rename_i id' k k'
    intro k2 h
    simp only [dropTo] at h
    cases hb : Nat.beq id' id with
    | true =>
      rw [hb] at h
      injection h with h
      subst h
      have := Nat.eq_of_beq_eq_true hb
      exact ⟨k', by simp [exitTo, this], hk⟩
    | false =>
      rw [hb] at h
      obtain ⟨k2', h1, h2⟩ := ih h
      refine ⟨k2', ?_, h2⟩
      have hne : (id' == id) = false := by
        cases hq : id' == id with
        | false => rfl
        | true => have := eq_of_beq hq; subst this; rw [Nat.beq_refl] at hb; cases hb
      simp only [exitTo, hne]
      exact h1

theorem OK.exit {id : Nat} {k2 : List AItem} (hd : dropTo id k = some k2) (h : OK c k2 s) : OK c (.code (.exit id) :: k) s := by
  intro O ρ a w k' b cs hr hs hk
  cases hk with
  | code hc hk =>
    rename_i cd _
    cases cd <;> simp only [compC] at hc <;> try (cases hc; done)
    case exit id =>
      injection hc with hc
      injection hc with e1
      subst e1
      obtain ⟨k2', h1, h2⟩ := dropTo_rel hk hd
      exact (h O ρ a w _ b cs hr hs h2).step (.one (step_exit h1)) (Ext.refl _)
    case region id ops draw => split at hc <;> cases hc
    case seq x y => split at hc <;> cases hc
    case cond x y z => split at hc <;> cases hc
    case block id x => rw [Option.map_eq_some_iff] at hc; obtain ⟨_, _, hc⟩ := hc; cases hc
    case loop x => rw [Option.map_eq_some_iff] at hc; obtain ⟨_, _, hc⟩ := hc; cases hc

/-! The end of a function. -/

def resOf (s : St) : List RV → Option (List V)
  | [] => some []
  | .t i :: r => (resOf s r).map (sget s.sl i :: ·)
  | .c i n agg :: r => match loadV s.h (sget s.sl i) n agg, resOf s r with
    | some v, some vs => some (v :: vs)
    | _, _ => none

def oneOf : List V → V
  | [v] => v
  | vs => .tup vs

def retK (c : Cx) (rs : List RV) (s : St) : Prop :=
  match resOf s rs with
  | some vs => c.Q (oneOf vs) s.h s.n
  | none => False

theorem load_R {P : Program} {O : Nat → Prop} {ρ : Nat → Loc} {w : World} {h : Heap} {m : Nat} (hr : HeapR w O ρ m h) {vx : V} {pv : Value} (hx : R (envOf w O ρ m h) vx pv) {t : TypeId} {n : Nat} {agg : Bool} {r : V} (ht : tyOf P t = some (n, agg)) (h1 : loadV h vx n agg = some r) :
    ∃ ad u, pv = .pointer (some ad) ∧ (loadVar t ad).run P w = .ok u w ∧ R (envOf w O ρ m h) r u := by
  unfold loadV at h1
  split at h1
  · rename_i b st i j
    split at h1
    · rename_i sz rs hg
      split at h1
      · rename_i row hrow
        obtain ⟨hsz, hlen, hcell, hrows⟩ := hr.blk _ (Heap.mem_of_get hg)
        obtain ⟨hl, hR⟩ := hrows i row hrow
        obtain ⟨v, hv, hRv⟩ := row_load (P := P) hR ht h1
        obtain ⟨_, hp⟩ := hx.ptr_inv
        have hsz' : (ρ st).sz = sz := hsz
        refine ⟨_, v, hp, ?_, hRv⟩
        simp only [hsz']
        exact hv
      · cases h1
    · cases h1
  · rename_i es i j
    split at h1
    · rename_i row hrow
      cases hx with
      | iptr _ _ _ p sz f hp hrowl hcell hR =>
        have hR' : RowR (envOf w O ρ m h) p.block (p.off + i * sz) row := fun j' c hj => ⟨f i j', (hcell i row j' c hrow hj).1, (hcell i row j' c hrow hj).2.1, hR i row j' c hrow hj⟩
        obtain ⟨v, hv, hRv⟩ := row_load (P := P) hR' ht h1
        exact ⟨_, v, rfl, hv, hRv⟩
    · cases h1
  · cases h1

theorem res_run {P : Program} {N : Nat} {O : Nat → Prop} {ρ : Nat → Loc} {a : Act} {w : World} (hr : HeapR w O ρ s.n s.h) (hs : Sim N (envOf w O ρ s.n s.h) s.sl a) : ∀ (l : List ResultVar) (rs : List RV) (vs : List V), compR P l = some rs → resOf s rs = some vs →
    ∃ us : List Value, (l.mapM (m := Sem) fun | .tmp t => pure (a.tmps.getD t Go.undef) | .cell q t => do loadVar t (← asAddr (a.tmps.getD q Go.undef))).run P w = .ok us w ∧ RL (envOf w O ρ s.n s.h) vs us.toArray
  | [], rs, vs, h, hv => by
    simp [compR] at h; subst h
    simp [resOf] at hv; subst hv
    exact ⟨[], rfl, rfl, by simp⟩
  | .tmp t :: l, rs, vs, h, hv => by
    simp only [compR, Option.map_eq_some_iff] at h
    obtain ⟨rs', h1, rfl⟩ := h
    simp only [resOf, Option.map_eq_some_iff] at hv
    obtain ⟨vs', h2, rfl⟩ := hv
    obtain ⟨us, h3, h4, h5⟩ := res_run hr hs l rs' vs' h1 h2
    refine ⟨a.tmps.getD t Go.undef :: us, ?_, by simpa using h4, fun i c v hc hv => ?_⟩
    · rw [List.mapM_cons]
      simp only [Sem.run_bind, Sem.run_pure, Result.andThen_ok, h3]
    · cases i with
      | zero =>
        injection hc with hc
        simp only [List.getElem?_toArray, List.getElem?_cons_zero, Option.some.injEq] at hv
        subst hc; subst hv; exact hs.slot t
      | succ i => exact h5 i c v (by simpa using hc) (by simpa using hv)
  | .cell q t :: l, rs, vs, h, hv => by
    simp only [compR] at h
    split at h
    · rename_i n ag rs' ht h1
      injection h with h
      subst h
      simp only [resOf] at hv
      split at hv
      · rename_i v vs' hl h2
        injection hv with hv
        subst hv
        obtain ⟨us, h3, h4, h5⟩ := res_run hr hs l rs' vs' h1 h2
        have key := load_R hr (hs.slot q) ht hl
        obtain ⟨ad, u, e1, e2, e3⟩ := key
        refine ⟨u :: us, ?_, by simpa using h4, fun i c v' hc hv => ?_⟩
        · have e4 : (do loadVar t (← asAddr (a.tmps.getD q Go.undef)) : Sem Value).run P w = .ok u w := by
            rw [e1]; simp [asAddr, e2]
          rw [List.mapM_cons, Sem.run_bind]
          show ((do loadVar t (← asAddr (a.tmps.getD q Go.undef)) : Sem Value).run P w).andThen _ = _
          rw [e4, Result.andThen_ok, Sem.run_bind, h3]
          rfl
        · cases i with
          | zero => simp at hc hv; subst hc; subst hv; exact e3
          | succ i => exact h5 i c v' (by simpa using hc) (by simpa using hv)
      · cases hv
    · cases h

theorem results_run {fn : Func} {P : Program} {N : Nat} {O : Nat → Prop} {ρ : Nat → Loc} {a : Act} {w : World} {rs : List RV} {vs : List V} (hr : HeapR w O ρ s.n s.h) (hs : Sim N (envOf w O ρ s.n s.h) s.sl a) (h : compR P fn.results.toList = some rs) (hv : resOf s rs = some vs) :
    ∃ v, (results fn a.tmps).run P w = .ok v w ∧ R (envOf w O ρ s.n s.h) (oneOf vs) v := by
  obtain ⟨us, h1, h2⟩ := res_run hr hs _ rs vs h hv
  have hm : (fn.results.mapM (m := Sem) fun | .tmp t => pure (a.tmps.getD t Go.undef) | .cell q t => do loadVar t (← asAddr (a.tmps.getD q Go.undef))).run P w = .ok us.toArray w := by
    rw [Array.mapM_eq_mapM_toList]
    simp only [Sem.run_map]
    rw [h1]; rfl
  have hres : (results fn a.tmps).run P w = (Result.ok us.toArray w).andThen fun vs w' => (pure (if h : vs.size = 1 then vs[0] else .tuple vs) : Sem Value).run P w' := by
    unfold results
    rw [Sem.run_bind]
    exact congrArg (fun r => Result.andThen r _) hm
  rw [hres, Result.andThen_ok]
  by_cases h1' : us.length = 1
  · obtain ⟨u, rfl⟩ := List.length_eq_one_iff.1 h1'
    have hl := h2.1
    obtain ⟨x, rfl⟩ := List.length_eq_one_iff.1 (by simpa using hl : vs.length = 1)
    exact ⟨u, rfl, h2.2 0 x u rfl rfl⟩
  · have hne : ¬ us.toArray.size = 1 := by simpa using h1'
    refine ⟨.tuple us.toArray, by rw [dif_neg hne]; rfl, ?_⟩
    have : oneOf vs = .tup vs := by
      unfold oneOf
      split
      · rename_i v
        have := h2.1
        simp at this
        exact (h1' this.symm).elim
      · rfl
    rw [this]
    exact .tup _ _ h2.1 h2.2

theorem OK.ret {rs : List RV} (hrs : compR c.P c.fn.results.toList = some rs) (h : retK c rs s) : OK c (.code .ret :: k) s := by
  intro O ρ a w k' b cs hr hs hk
  unfold retK at h
  split at h
  · rename_i vs hvs
    obtain ⟨v, h1, h2⟩ := results_run hr hs hrs hvs
    cases hk with
    | code hc hk =>
      rename_i cd _
      cases cd <;> simp only [compC] at hc <;> try (cases hc; done)
      case ret => exact ⟨_, a, w, ρ, s.h, s.n, v, _, .one step_ret, hs.defers, h1, hr, h2, Ext.refl _, h⟩
      case region id ops draw => split at hc <;> cases hc
      case seq x y => split at hc <;> cases hc
      case cond x y z => split at hc <;> cases hc
      case block id x => rw [Option.map_eq_some_iff] at hc; obtain ⟨_, _, hc⟩ := hc; cases hc
      case loop x => rw [Option.map_eq_some_iff] at hc; obtain ⟨_, _, hc⟩ := hc; cases hc
  · exact h.elim

theorem OK.nil {rs : List RV} (hrs : compR c.P c.fn.results.toList = some rs) (h : retK c rs s) : OK c [] s := by
  intro O ρ a w k' b cs hr hs hk
  unfold retK at h
  split at h
  · rename_i vs hvs
    obtain ⟨v, h1, h2⟩ := results_run hr hs hrs hvs
    cases hk with
    | nil => exact ⟨_, a, w, ρ, s.h, s.n, v, _, .one step_end, hs.defers, h1, hr, h2, Ext.refl _, h⟩
  · exact h.elim

/-! Regions. -/

theorem compList_get {P : Program} {B N : Nat} {ops : Array Oper} : ∀ {l : List Oper} {is : List AI}, compList P B N ops l = some is → is.length = l.length ∧ ∀ (q : Nat) o, l[q]? = some o → ∃ i, is[q]? = some i ∧ compA P B N ops o = some i
  | [], is, h => by simp [compList] at h; subst h; simp
  | o :: r, is, h => by
    simp only [compList] at h
    split at h
    · rename_i i is' h1 h2
      injection h with h
      subst h
      obtain ⟨h3, h4⟩ := compList_get h2
      refine ⟨by simp [h3], fun q o' hq => ?_⟩
      cases q with
      | zero => simp at hq; subst hq; exact ⟨i, rfl, h1⟩
      | succ q => simpa using h4 q o' (by simpa using hq)
    · cases h

theorem any_beq {a : Nat} {l : List Nat} : l.any (Nat.beq a) = true ↔ a ∈ l := by
  rw [List.any_eq_true]
  constructor
  · rintro ⟨x, hx, h⟩; rw [Nat.eq_of_beq_eq_true h]; exact hx
  · intro h; exact ⟨a, h, Nat.beq_refl a⟩

theorem nodupB_spec : ∀ {l : List Nat}, nodupB l = true → l.Nodup
  | [], _ => .nil
  | a :: r, h => by
    simp only [nodupB, Bool.and_eq_true, Bool.not_eq_true'] at h
    refine List.nodup_cons.2 ⟨fun hm => ?_, nodupB_spec h.2⟩
    rw [any_beq.2 hm] at h
    cases h.1

theorem wholeB_spec {n : Nat} {T : List Nat} (h : wholeB n T = true) : T.Nodup ∧ T.Perm (List.range n) := by
  unfold wholeB at h
  simp only [Bool.and_eq_true, List.all_eq_true] at h
  obtain ⟨h1, h2, h3⟩ := h
  have hn := nodupB_spec h1
  exact ⟨hn, nodup_perm _ _ hn (fun x hx => List.mem_range.2 (Nat.le_of_ble_eq_true (h3 x hx))) (by rw [Nat.eq_of_beq_eq_true h2]; simp)⟩

theorem eqNL_spec : ∀ {a b : List Nat}, eqNL a b = true → a = b
  | [], [], _ => rfl
  | x :: r, y :: s, h => by
    simp only [eqNL, Bool.and_eq_true] at h
    rw [Nat.eq_of_beq_eq_true h.1, eqNL_spec h.2]
  | [], _ :: _, h => by cases h
  | _ :: _, [], h => by cases h

theorem pairsOk_spec {f : Nat → AI} {anc : Nat → Nat → Bool} : ∀ {l : List Nat}, pairsOk f anc l = true → l.Pairwise fun a i => okPair (f a) (f i) = true ∨ anc a i = true
  | [], _ => .nil
  | a :: r, h => by
    simp only [pairsOk, Bool.and_eq_true, List.all_eq_true, Bool.or_eq_true] at h
    exact .cons (fun i hi => h.1 i hi) (pairsOk_spec h.2)

theorem mode_sound {P : Program} {f : Nat → AI} {m : Region.Mode} {ops : Array Oper} {Ts : List (List Nat)} {K : St → Prop} {s : St} (hK : Resp K) (hc : regionMode f m ops = some Ts) (hk : ∀ T ∈ Ts, VOps P (T.map f) s K) (t : Nat) :
    (Region.linearise m ops t).Perm (List.range ops.size) ∧ VOps P ((Region.linearise m ops t).map f) s K := by
  unfold regionMode at hc
  simp only at hc
  split at hc
  · rename_i hcond
    injection hc with hc
    subst hc
    simp only [Bool.and_eq_true] at hcond
    obtain ⟨⟨c1, c2⟩, _, c4, c5⟩ := hcond
    generalize canonGo m ops [] _ _ _ _ = T0 at *
    obtain ⟨n1, n2⟩ := wholeB_spec c1
    obtain ⟨p1, p2⟩ := linearise_spec (m := m) (ops := ops) (T := T0.reverse) (beforeB_spec c2) (fun i hi => List.mem_reverse.2 (n2.mem_iff.2 (List.mem_range.2 hi))) (fun i hi => List.mem_range.1 (n2.mem_iff.1 (List.mem_reverse.1 hi))) t
    refine ⟨p1, ?_⟩
    generalize hL : Region.linearise m ops t = L at *
    generalize hC : conflicts _ _ _ = C at hk c4 c5
    have hnl : L.Nodup := p1.symm.nodup List.nodup_range
    have hpos := pos_pairwise hnl
    have hmem : ∀ i, i ∈ L ↔ i < ops.size := fun i => by rw [p1.mem_iff]; simp
    have hC' : ∀ p ∈ C, p.1 < ops.size ∧ p.2 < ops.size ∧ p.1 ≠ p.2 := fun p hp => by
      rw [List.all_eq_true] at c4
      have := c4 p hp
      simp only [Bool.and_eq_true] at this
      refine ⟨Nat.le_of_ble_eq_true this.1.1, Nat.le_of_ble_eq_true this.1.2, fun e => ?_⟩
      have h3 := this.2
      rw [e, Nat.beq_refl] at h3
      cases h3
    generalize hE : C.map (orient L) = E
    have hElt : ∀ p ∈ E, pos p.1 L < pos p.2 L ∧ p.1 < ops.size ∧ p.2 < ops.size := by
      intro p hp
      rw [← hE, List.mem_map] at hp
      obtain ⟨q, hq, rfl⟩ := hp
      obtain ⟨h1, h2, h3⟩ := hC' q hq
      refine ⟨orient_lt (pos_ne ((hmem _).2 h1) h3 hnl), ?_⟩
      unfold orient
      cases Nat.blt _ _ <;> exact ⟨by assumption, by assumption⟩
    have later : ∀ x y, x < ops.size → y < ops.size → pos x L < pos y L → ¬ Anc m ops y x := by
      intro x y hx hy hlt
      have hboth := hpos.and p2
      obtain ⟨l1, l2, hl⟩ := List.append_of_mem ((hmem x).2 hx)
      have hy' := (hmem y).2 hy
      rw [hl] at hy'
      rw [hl] at hboth
      rcases List.mem_append.1 hy' with h | h
      · have := ((List.pairwise_append.1 hboth).2.2 y h x (by simp)).1
        rw [← hl] at this
        omega
      · rcases List.mem_cons.1 h with rfl | h
        · omega
        · exact ((List.pairwise_cons.1 (List.pairwise_append.1 hboth).2.1).1 y h).2
    have hcyc : cyclic (ancM (masks m ops [] T0 [])) E = false := by
      cases hb : cyclic (ancM (masks m ops [] T0 [])) E with
      | false => rfl
      | true =>
        unfold cyclic at hb
        rw [List.any_eq_true] at hb
        obtain ⟨p, hp, hb⟩ := hb
        rw [List.any_eq_true] at hb
        obtain ⟨q, hq, hb⟩ := hb
        rw [Bool.and_eq_true] at hb
        have e := Nat.eq_of_beq_eq_true hb.1
        obtain ⟨a1, a2, a3⟩ := hElt p hp
        obtain ⟨b1, b2, b3⟩ := hElt q hq
        rw [← e] at b1
        exact (later p.1 q.2 a2 b3 (by omega) (ancM_sound hb.2).anc).elim
    have hEm : E ∈ (orients C).filter fun E => !cyclic (ancM (masks m ops [] T0 [])) E := by
      rw [List.mem_filter]
      exact ⟨by rw [← hE]; exact orients_mem _ C, by rw [hcyc]; rfl⟩
    generalize hT : canonGo m ops E (fun i => Nat.ble (cls (f i).o) 1) ops.size (List.range ops.size) [] = T
    have hc5 : wholeB ops.size T = true ∧ pairsOk f (ancM (masks m ops E T [])) T = true := by
      rw [List.all_eq_true] at c5
      have := c5 (E, T) (by
        rw [List.zip_map_right, List.mem_map]
        refine ⟨(E, E), ?_, by simp only [Prod.map]; rw [← hT]; rfl⟩
        have hz : ∀ (l : List (List (Nat × Nat))) x, x ∈ l → (x, x) ∈ l.zip l := by
          intro l x hx
          induction l with
          | nil => cases hx
          | cons y r ih =>
            rw [List.zip_cons_cons]
            rcases List.mem_cons.1 hx with rfl | hx
            · simp
            · exact List.mem_cons_of_mem _ (ih hx)
        exact hz _ E hEm)
      simpa only [Bool.and_eq_true] using this
    obtain ⟨d1, d4⟩ := hc5
    obtain ⟨hnT, hTr⟩ := wholeB_spec d1
    have hk := hk T (by
      rw [List.mem_map]
      exact ⟨E, hEm, hT⟩)
    have hpair := (pairsOk_spec d4).imp (S := fun a i => okPair (f a) (f i) = true ∨ AncE m ops E a i) (fun h => h.imp (fun h => h) ancM_sound)
    have hmono : ∀ a i, AncE m ops E a i → i < ops.size → a < ops.size ∧ pos a L < pos i L := by
      have one : ∀ a i, Edge' m ops a i ∨ (a, i) ∈ E → i < ops.size → a < ops.size ∧ pos a L < pos i L := by
        intro a i h hi
        rcases h with h | h
        · have ha : a < ops.size := by
            have hb : BeforeR m ops T0.reverse := beforeB_spec c2
            obtain ⟨t1, t2, ht⟩ := List.append_of_mem (List.mem_reverse.2 (n2.mem_iff.2 (List.mem_range.2 hi)))
            rw [ht] at hb
            have h3 := (BeforeR.tail hb).1 a h
            have h4 : a ∈ T0.reverse := by rw [ht]; simp [h3]
            exact List.mem_range.1 (n2.mem_iff.1 (List.mem_reverse.1 h4))
          refine ⟨ha, ?_⟩
          have hanc : Anc m ops a i := .one h
          rcases Nat.lt_trichotomy (pos a L) (pos i L) with h1 | h1 | h1
          · exact h1
          · exfalso
            have : a = i := by
              by_cases e : a = i
              · exact e
              · exact (pos_ne ((hmem a).2 ha) e hnl h1).elim
            subst this
            have hb : BeforeR m ops T0.reverse := beforeB_spec c2
            obtain ⟨t1, t2, ht⟩ := List.append_of_mem (List.mem_reverse.2 (n2.mem_iff.2 (List.mem_range.2 hi)))
            rw [ht] at hb
            have h3 := (BeforeR.tail hb).1 a h
            have hnr : T0.reverse.Nodup := (List.reverse_perm T0).symm.nodup n1
            rw [ht] at hnr
            exact (List.nodup_cons.1 (List.nodup_append.1 hnr).2.1).1 h3
          · exact (later i a hi ha h1 hanc).elim
        · exact ⟨(hElt _ h).2.1, (hElt _ h).1⟩
      intro a i h
      induction h with
      | one h => exact one _ _ h
      | more h _ ih =>
        intro hi
        obtain ⟨h1, h2⟩ := one _ _ h hi
        obtain ⟨h3, h4⟩ := ih h1
        exact ⟨h3, Nat.lt_trans h4 h2⟩
    have hl' : L.Pairwise fun i a => ¬ AncE m ops E a i := hpos.imp_of_mem fun hi ha hlt h => by
      have := (hmono _ _ h ((hmem _).1 hi)).2
      omega
    exact reorder f (AncE m ops E) hK L T s hnT (p1.trans hTr.symm) hpair hl' hk
  · cases hc

theorem region_sound {P : Program} {B N : Nat} {ops : Array Oper} {draw : Bool} {iss : List (List AI)} {id : Nat} {K : St → Prop} (hK : Resp K) (hc : compRegion P B N ops draw = some iss) (hk : ∀ is ∈ iss, VOps P is s K)
    {O : Nat → Prop} {ρ : Nat → Loc} {a : Act} {w : World} (hr : HeapR w O ρ s.n s.h) (hs : Sim N (envOf w O ρ s.n s.h) s.sl a) (b : Frame) (k' : List Item) (cs : List Frame) :
    ∃ ρ' s' a' w', HeapR w' O ρ' s'.n s'.h ∧ Sim N (envOf w' O ρ' s'.n s'.h) s'.sl a' ∧ Ext (envOf w O ρ s.n s.h) (envOf w' O ρ' s'.n s'.h) ∧ K s' ∧ Steps P (lone (b.at a (.code (.region id ops draw) :: k')) cs w) (lone (b.at a' k') cs w') := by
  unfold compRegion at hc
  split at hc
  · cases hc
  · rename_i js hjs
    obtain ⟨hlen, hget⟩ := compList_get hjs
    let Q : Exit → Act → World → Prop := fun e a' w' => e = .normal ∧ ∃ ρ' s', HeapR w' O ρ' s'.n s'.h ∧ Sim N (envOf w' O ρ' s'.n s'.h) s'.sl a' ∧ Ext (envOf w O ρ s.n s.h) (envOf w' O ρ' s'.n s'.h) ∧ K s'
    have close : ∀ m, (∃ e a' w', Q e a' w' ∧ Arrives P m b k' cs e a' w') → Steps P (lone (b.at a (.code (.region id ops draw) :: k')) cs w) m → ∃ ρ' s' a' w', HeapR w' O ρ' s'.n s'.h ∧ Sim N (envOf w' O ρ' s'.n s'.h) s'.sl a' ∧ Ext (envOf w O ρ s.n s.h) (envOf w' O ρ' s'.n s'.h) ∧ K s' ∧ Steps P (lone (b.at a (.code (.region id ops draw) :: k')) cs w) (lone (b.at a' k') cs w') := by
      rintro m ⟨e, a', w', ⟨rfl, ρ', s', q1, q2, q3, q4⟩, harr⟩ hst
      exact ⟨ρ', s', a', w', q1, q2, q3, q4, hst.trans harr⟩
    cases draw with
    | false =>
      simp only [Bool.false_eq_true, if_false] at hc
      injection hc with hc
      subst hc
      have hk := hk js (by simp)
      have hl : (List.range ops.size).length = js.length := by rw [hlen]; simp
      have hops := ops_sound (Q := Q) (ops := ops) (P := P) (N := N) (List.range ops.size) js a w ρ s K hl.symm (fun q j hq => by
        have hqn : q < ops.size := by have := (List.getElem?_eq_some_iff.1 hq).1; simpa using this
        have hj : j = q := by have := (List.getElem?_eq_some_iff.1 hq).2; simpa using this.symm
        subst hj
        obtain ⟨i, h1, h2⟩ := hget j ops[j] (by simp [hqn])
        exact ⟨ops[j], i, by simp [hqn], h1, h2⟩) hr hs hk fun ρ' s' a' w' h1 h2 h3 h4 => ⟨rfl, ρ', s', h1, h2, h3, h4⟩
      exact close _ (wp_ops _ a w hops b k' cs) (.one step_region)
    | true =>
      simp only [if_true] at hc
      let f := fun i => js.getD i default
      generalize ht : w.tape w.drawn (.order b.fn id) = t
      have fin : ∀ L : List Nat, Region.schedule (P.follows .mixedOrders) ops t = L → L.Perm (List.range ops.size) → VOps P (L.map f) s K →
          ∃ ρ' s' a' w', HeapR w' O ρ' s'.n s'.h ∧ Sim N (envOf w' O ρ' s'.n s'.h) s'.sl a' ∧ Ext (envOf w O ρ s.n s.h) (envOf w' O ρ' s'.n s'.h) ∧ K s' ∧ Steps P (lone (b.at a (.code (.region id ops true) :: k')) cs w) (lone (b.at a' k') cs w') := by
        intro L hL p1 hk'
        obtain ⟨hr2, hx2⟩ := hr.drew
        have hops := ops_sound (Q := Q) (ops := ops) (P := P) (N := N) L (L.map f) a w.drew ρ s K (by simp) (fun q j hq => by
          have hj : j < ops.size := by simpa using p1.subset (List.mem_of_getElem? hq)
          obtain ⟨i, h1, h2⟩ := hget j ops[j] (by simp [hj])
          refine ⟨ops[j], i, by simp [hj], ?_, h2⟩
          rw [List.getElem?_map, hq]
          simp [f, List.getD_eq_getElem?_getD, h1]) hr2 (hs.mono hx2) hk' fun ρ' s' a' w' h1 h2 h3 h4 => ⟨rfl, ρ', s', h1, h2, hx2.trans h3, h4⟩
        refine close _ (wp_ops _ a w.drew hops b k' cs) (.one ?_)
        rw [step_region_draw, ht, hL]
        rfl
      split at hc
      · rename_i hcond
        rw [Option.map_eq_some_iff] at hc
        obtain ⟨Ts, hTs, rfl⟩ := hc
        obtain ⟨p1, p2⟩ := mode_sound (P := P) (s := s) hK hTs (fun T hT => hk _ (List.mem_map.2 ⟨T, hT, rfl⟩)) t
        exact fin _ (by unfold Region.schedule; rw [if_pos hcond]) p1 p2
      · rename_i hcond
        split at hc
        · rename_i Ts Us hTs hUs
          injection hc with hc
          subst hc
          have kT : ∀ T ∈ Ts, VOps P (T.map f) s K := fun T hT => hk _ (List.mem_map.2 ⟨T, List.mem_append.2 (.inl hT), rfl⟩)
          have kU : ∀ U ∈ Us, VOps P (U.map f) s K := fun U hU => by
            cases hb : Ts.any (eqNL U) with
            | false => exact hk _ (List.mem_map.2 ⟨U, List.mem_append.2 (.inr (List.mem_filter.2 ⟨hU, by rw [hb]; rfl⟩)), rfl⟩)
            | true =>
              rw [List.any_eq_true] at hb
              obtain ⟨T, hT, he⟩ := hb
              rw [eqNL_spec he]
              exact kT T hT
          by_cases h2 : (t % 2 == 0) = true
          · obtain ⟨p1, p2⟩ := mode_sound (P := P) (s := s) hK hTs kT (t / 2)
            exact fin _ (by unfold Region.schedule; rw [if_neg hcond, if_pos h2]) p1 p2
          · obtain ⟨p1, p2⟩ := mode_sound (P := P) (s := s) hK hUs kU (t / 2)
            exact fin _ (by unfold Region.schedule; rw [if_neg hcond, if_neg h2]) p1 p2
        · cases hc

theorem OK.ops {iss : List (List AI)} (h : ∀ is ∈ iss, VOps c.P is s (OK c k)) : OK c (.code (.ops iss) :: k) s := by
  intro O ρ a w k' b cs hr hs hk
  cases hk with
  | code hc hk =>
    rename_i cd _
    cases cd <;> simp only [compC] at hc <;> try (cases hc; done)
    case region id ops draw =>
      split at hc
      · rename_i iss' h1
        injection hc with hc
        injection hc with hc
        subst hc
        obtain ⟨ρ', s', a', w', q1, q2, q3, q4, q5⟩ := region_sound (id := id) OK.resp h1 h hr hs b _ cs
        exact (q4 O ρ' a' w' _ b cs q1 q2 hk).step q5 q3
      · cases hc
    case seq x y => split at hc <;> cases hc
    case cond x y z => split at hc <;> cases hc
    case block id x => rw [Option.map_eq_some_iff] at hc; obtain ⟨_, _, hc⟩ := hc; cases hc
    case loop x => rw [Option.map_eq_some_iff] at hc; obtain ⟨_, _, hc⟩ := hc; cases hc

/-! Loops. -/

theorem OK.lp {x : AC} (h : OK c (.code x :: .lp x :: k) s) : OK c (.lp x :: k) s := by
  intro O ρ a w k' b cs hr hs hk
  cases hk with
  | lp hc hk => exact (h O ρ a w _ b cs hr hs (.code hc (.lp hc hk))).step (.one step_inLoop) (Ext.refl _)

theorem OK.loop {x : AC} (h : OK c (.code x :: .lp x :: k) s) : OK c (.code (.loop x) :: k) s := by
  intro O ρ a w k' b cs hr hs hk
  cases hk with
  | code hc hk =>
    rename_i cd _
    cases cd <;> simp only [compC] at hc <;> try (cases hc; done)
    case loop x =>
      rw [Option.map_eq_some_iff] at hc
      obtain ⟨x', hx, hc⟩ := hc
      injection hc with e1
      subst e1
      exact (h O ρ a w _ b cs hr hs (.code hx (.lp hx hk))).step (.one step_loop) (Ext.refl _)
    case region id ops draw => split at hc <;> cases hc
    case seq x y => split at hc <;> cases hc
    case cond x y z => split at hc <;> cases hc
    case block id x => rw [Option.map_eq_some_iff] at hc; obtain ⟨_, _, hc⟩ := hc; cases hc

/-- One state may stand for another that says less. -/
def Weak (s s' : St) : Prop := (∀ p ∈ s'.sl, p.2 = sget s.sl p.1) ∧ (∀ e ∈ s'.h, e ∈ s.h) ∧ s.n ≤ s'.n

theorem sget_mem {sl : List (Nat × V)} {i : Nat} (h : ∀ v, (i, v) ∉ sl) : sget sl i = .undef := by
  induction sl with
  | nil => rfl
  | cons p r ih =>
    simp only [sget]
    cases hb : Nat.beq p.1 i with
    | true => have := Nat.eq_of_beq_eq_true hb; subst this; exact (h p.2 (by simp)).elim
    | false => exact ih fun v hv => h v (by simp [hv])

theorem sget_of {sl : List (Nat × V)} (i : Nat) : sget sl i = .undef ∨ (i, sget sl i) ∈ sl := by
  induction sl with
  | nil => exact .inl rfl
  | cons p r ih =>
    simp only [sget]
    cases hb : Nat.beq p.1 i with
    | true => have := Nat.eq_of_beq_eq_true hb; subst this; exact .inr (by simp)
    | false => exact ih.imp id fun h => by simp [h]

theorem HeapR.up {w : World} {O : Nat → Prop} {ρ : Nat → Loc} {n n' : Nat} {h : Heap} (hr : HeapR w O ρ n h) (hn : n ≤ n') : HeapR w O ρ n' h ∧ Ext (envOf w O ρ n h) (envOf w O ρ n' h) := by
  have hx : Ext (envOf w O ρ n h) (envOf w O ρ n' h) := ⟨rfl, hn, fun _ _ => rfl, Wd.refl _, fun _ _ h => ⟨rfl, h⟩⟩
  exact ⟨⟨fun e he => Nat.lt_of_lt_of_le (hr.lt e he) hn, hr.inj, hr.out, hr.notO, fun e he => (hr.blk e he).mono hx (hr.lt e he) fun _ => rfl, hr.gl.mono hx.imm⟩, hx⟩

theorem OK.weak {s' : St} (hw : Weak s s') (h : OK c k s') : OK c k s := by
  intro O ρ a w k' b cs hr hs hk
  obtain ⟨h1, h2, h3⟩ := hw
  obtain ⟨hr1, hx1⟩ := hr.drop h2
  obtain ⟨hr2, hx2⟩ := hr1.up h3
  have hx := hx1.trans hx2
  refine (h O ρ a w k' b cs hr2 ⟨hs.size, hs.defers, fun i => ?_⟩ hk).step (Steps.refl _ _) hx
  rcases sget_of (sl := s'.sl) i with hu | hm
  · rw [hu]; exact .undef _
  · have := h1 _ hm
    simp only at this
    rw [this]
    exact (hs.slot i).mono hx

/-- The rule for a loop: a family of states at its head, and a measure. -/
theorem OK.rounds {α : Type} {x : AC} (S : α → St) (J : α → Prop) (μ : α → Nat) (x0 : α) (hw : Weak s (S x0)) (h0 : J x0)
    (round : ∀ y, J y → (∀ s z, J z → μ z < μ y → Weak s (S z) → OK c (.lp x :: k) s) → OK c (.code x :: .lp x :: k) (S y)) : OK c (.code (.loop x) :: k) s := by
  have key : ∀ m y, μ y = m → J y → OK c (.code x :: .lp x :: k) (S y) := by
    intro m
    induction m using Nat.strongRecOn with
    | _ m ih =>
      intro y hm hJ
      exact round y hJ fun s z hz hlt hw => OK.weak hw (OK.lp (ih (μ z) (hm ▸ hlt) z rfl hz))
  exact OK.loop (OK.weak hw (key _ x0 rfl h0))

end
end Go.Abs
