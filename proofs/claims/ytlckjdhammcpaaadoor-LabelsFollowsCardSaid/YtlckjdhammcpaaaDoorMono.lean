/-
  The abstract steps: what they depend on, and that they are monotone. No condition.
-/
import Derived.Test.YtlckjdhammcpaaaDoorTri
set_option linter.unusedVariables false
set_option linter.unusedSimpArgs false
namespace Go.Abs

def usesX : Opd → List Nat
  | .t i => [i]
  | _ => []
def usesXo : Option Opd → List Nat
  | some x => usesX x
  | none => []

def usesO : AO → List Nat
  | .mov x | .nilck x | .box _ _ x | .load _ _ x | .faddr _ x | .fld _ _ _ x | .ext _ x | .un _ x | .conv _ x | .len _ x | .mksl _ _ x | .clr _ x | .slz _ _ x => usesX x
  | .pick c a b => usesX c ++ usesX a ++ usesX b
  | .build _ ps => ps.flatMap fun p => usesX p.2.2
  | .mkrow _ _ xs | .mkisl _ xs | .mm _ xs | .mkfn _ xs | .call _ xs => xs.flatMap usesX
  | .store _ x v | .iaddr _ x v | .iaddrA _ _ x v | .idx x v | .bin _ x v | .eqp _ _ x v | .eqa _ _ x v | .app _ _ x v | .copy _ x v | .look _ _ _ x v | .mdel _ x v | .sh _ x v | .idxA _ _ _ _ x v => usesX x ++ usesX v
  | .slc _ x lo hi | .sls x lo hi => usesX x ++ usesXo lo ++ usesXo hi
  | .lenc _ | .mkmap _ | .bad => []
  | .mput _ m k v => usesX m ++ usesX k ++ usesX v
  | .callv f xs => usesX f ++ xs.flatMap usesX

section
variable {P : Program} {s s' : St}

def Agree (l : List Nat) (s s' : St) : Prop := ∀ i ∈ l, sget s.sl i = sget s'.sl i

theorem Agree.left {l r : List Nat} (h : Agree (l ++ r) s s') : Agree l s s' := fun i hi => h i (by simp [hi])
theorem Agree.right {l r : List Nat} (h : Agree (l ++ r) s s') : Agree r s s' := fun i hi => h i (by simp [hi])
theorem Agree.ev {x : Opd} (h : Agree (usesX x) s s') : s.ev x = s'.ev x := by
  cases x with
  | t i => exact h i (by simp [usesX])
  | c v => rfl
  | f g => rfl
  | g g => rfl
theorem Agree.evo {x : Option Opd} (h : Agree (usesXo x) s s') : x.map s.ev = x.map s'.ev := by
  cases x with
  | none => rfl
  | some x => simp only [Option.map_some]; rw [Agree.ev h]
theorem Agree.evs : ∀ {xs : List Opd} (_ : Agree (xs.flatMap usesX) s s'), xs.map s.ev = xs.map s'.ev
  | [], _ => rfl
  | x :: r, h => by
    rw [List.flatMap_cons] at h
    simp only [List.map_cons, h.left.ev, Agree.evs h.right]
theorem Agree.rows {sz : Nat} : ∀ {xs : List Opd} (_ : Agree (xs.flatMap usesX) s s'), rowsOf sz s xs = rowsOf sz s' xs
  | [], _ => rfl
  | x :: r, h => by
    rw [List.flatMap_cons] at h
    simp only [rowsOf, h.left.ev, Agree.rows h.right]
theorem Agree.fill : ∀ {ps : List (Nat × Nat × Opd)} {z : List V} (_ : Agree (ps.flatMap fun p => usesX p.2.2) s s'), fillV s z ps = fillV s' z ps
  | [], _, _ => rfl
  | p :: r, z, h => by
    rw [List.flatMap_cons] at h
    simp only [fillV, h.left.ev]
    cases cellsV (s'.ev p.2.2) with
    | none => rfl
    | some cs =>
      simp only
      rw [Agree.fill (z := putCells z p.1 cs) h.right]

/-- A step depends on the slots that it uses, and on the heap. -/
theorem stepO_congr {ao : AO} {k : Res} (h : Agree (usesO ao) s s') (hh : s.h = s'.h) (hn : s.n = s'.n) : stepO P ao s k = stepO P ao s' k := by
  cases ao <;> simp only [usesO] at h <;> simp only [stepO, hh, hn]
  case mov => rw [h.ev]
  case nilck => rw [h.ev]
  case box => rw [h.ev]
  case load => rw [h.ev]
  case faddr => rw [h.ev]
  case fld => rw [h.ev]
  case ext => rw [h.ev]
  case un => rw [h.ev]
  case conv => rw [h.ev]
  case len => rw [h.ev]
  case mksl => rw [h.ev]
  case pick => rw [h.left.left.ev, h.left.right.ev, h.right.ev]
  case build => rw [h.fill]
  case mkrow => rw [h.rows]
  case mkisl => rw [h.rows]
  case mm => rw [h.evs]
  case mkfn => rw [h.evs]
  case call => rw [h.evs]
  case store => rw [h.left.ev, h.right.ev]
  case iaddr => rw [h.left.ev, h.right.ev]
  case iaddrA => rw [h.left.ev, h.right.ev]
  case idx => rw [h.left.ev, h.right.ev]
  case bin => rw [h.left.ev, h.right.ev]
  case eqp => rw [h.left.ev, h.right.ev]
  case eqa => rw [h.left.ev, h.right.ev]
  case app => rw [h.left.ev, h.right.ev]
  case copy => rw [h.left.ev, h.right.ev]
  case look => rw [h.left.ev, h.right.ev]
  case mdel => rw [h.left.ev, h.right.ev]
  case sh => rw [h.left.ev, h.right.ev]
  case idxA => rw [h.left.ev, h.right.ev]
  case clr => rw [h.ev]
  case slz => rw [h.ev]
  case slc => rw [h.left.left.ev, h.left.right.evo, h.right.evo]
  case sls => rw [h.left.left.ev, h.left.right.evo, h.right.evo]
  case mput => rw [h.left.left.ev, h.left.right.ev, h.right.ev]
  case callv => rw [h.left.ev, h.right.evs]

section mono
variable {k k' : Res} {hp : Heap} {n : Nat} (hk : ∀ v h n, k v h n → k' v h n)
include hk

theorem optR_mono {o : Option V} (h : optR o k hp n) : optR o k' hp n := by
  cases o with
  | none => exact h
  | some v => exact hk _ _ _ h
theorem CallS_mono {f : FuncId} {as : List V} (h : CallS P f as hp n k) : CallS P f as hp n k' := fun w O ρ cargs h1 h2 => (h w O ρ cargs h1 h2).mono fun _ _ ⟨v, r, h', n', ρ', a, b, c⟩ => ⟨v, r, h', n', ρ', a, hk _ _ _ b, c⟩
theorem binK_mono {op : BinOp} {x y : V} (h : binK op x y k hp n) : binK op x y k' hp n := by
  unfold binK at h ⊢
  split at h
  · cases op <;> first
      | exact h
      | exact ⟨h.1, hk _ _ _ h.2⟩
      | exact ⟨h.1, h.2.1, hk _ _ _ h.2.2⟩
      | exact ⟨h.1, h.2.1, h.2.2.1, hk _ _ _ h.2.2.2⟩
  · cases op <;> first
      | exact h
      | exact hk _ _ _ h
      | exact ⟨h.1, hk _ _ _ h.2⟩
  · exact h
theorem shK_mono {l : Bool} {x y : V} (h : shK l x y k hp n) : shK l x y k' hp n := by
  unfold shK at h ⊢
  split at h
  · exact ⟨h.1, hk _ _ _ h.2⟩
  · exact h
theorem idxAK_mono {len sz m : Nat} {agg : Bool} {x y : V} (h : idxAK len sz m agg x y k hp n) : idxAK len sz m agg x y k' hp n := by
  unfold idxAK at h ⊢
  split at h
  · exact ⟨h.1, h.2.1, optR_mono hk h.2.2⟩
  · exact h
theorem clrK_mono {z : List V} {x : V} (h : clrK z x k hp n) : clrK z x k' hp n := by
  unfold clrK at h ⊢
  split at h
  · exact hk _ _ _ h
  · split at h
    · exact ⟨h.1, h.2.1, hk _ _ _ h.2.2⟩
    · exact h
  · exact h
theorem slzK_mono {nm sz : Nat} {x : V} (h : slzK nm sz x k hp n) : slzK nm sz x k' hp n := by
  unfold slzK at h ⊢
  split at h
  · exact hk _ _ _ h
  · exact hk _ _ _ h
  · exact hk _ _ _ h
  · exact h
theorem unK_mono {op : UnOp} {x : V} (h : unK op x k hp n) : unK op x k' hp n := by
  unfold unK at h ⊢
  split at h
  · exact ⟨h.1, hk _ _ _ h.2⟩
  · exact hk _ _ _ h
  · exact hk _ _ _ h
  · exact h
theorem appK_mono {nm sz : Nat} {b : V} {xs : Option (List (List V))} (h : appK nm sz b xs k hp n) : appK nm sz b xs k' hp n := by
  unfold appK at h ⊢
  cases xs with
  | none => exact h
  | some xs =>
    obtain ⟨h1, h⟩ := h
    refine ⟨h1, ?_⟩
    cases b <;> first
      | exact h
      | exact ⟨h.1, hk _ _ _ h.2⟩
      | skip
    simp only at h ⊢
    split at h
    · exact ⟨h.1, h.2.1, h.2.2.1, hk _ _ _ h.2.2.2⟩
    · exact h
theorem copyK_mono {sz : Nat} {b : V} {xs : Option (List (List V))} (h : copyK sz b xs k hp n) : copyK sz b xs k' hp n := by
  unfold copyK at h ⊢
  cases xs with
  | none => exact h
  | some xs =>
    obtain ⟨h1, h⟩ := h
    refine ⟨h1, ?_⟩
    cases b <;> first
      | exact h
      | exact hk _ _ _ h
      | skip
    simp only at h ⊢
    split at h
    · exact ⟨h.1, h.2.1, hk _ _ _ h.2.2⟩
    · exact h
theorem slcK_mono {sz : Nat} {x : V} {lo hi : Option V} (h : slcK sz x lo hi k hp n) : slcK sz x lo hi k' hp n := by
  unfold slcK at h ⊢
  cases x <;> first
    | exact h
    | (simp only at h ⊢
       split at h
       · first
           | exact ⟨h.1, h.2.1, h.2.2.1, h.2.2.2.1, hk _ _ _ h.2.2.2.2⟩
           | exact ⟨h.1, h.2.1, hk _ _ _ h.2.2⟩
       · exact h)
theorem slsK_mono {x : V} {lo hi : Option V} (h : slsK x lo hi k hp n) : slsK x lo hi k' hp n := by
  unfold slsK at h ⊢
  cases x <;> first
    | exact h
    | (simp only at h ⊢
       split at h
       · exact ⟨h.1, h.2.1, h.2.2.1, hk _ _ _ h.2.2.2⟩
       · exact h)

theorem stepO_mono {ao : AO} (h : stepO P ao s k) : stepO P ao s k' := by
  cases ao <;> simp only [stepO] at h ⊢
  case mov => exact hk _ _ _ h
  case pick => exact optR_mono hk h
  case nilck => exact optR_mono hk h
  case build => exact optR_mono hk h
  case load => exact optR_mono hk h
  case faddr => exact optR_mono hk h
  case fld => exact optR_mono hk h
  case ext => exact optR_mono hk h
  case eqp => exact optR_mono hk h
  case eqa => exact optR_mono hk h
  case conv => exact optR_mono hk h
  case len => exact optR_mono hk h
  case mm => exact optR_mono hk h
  case lenc => exact hk _ _ _ h
  case mkfn => exact hk _ _ _ h
  case mkmap => exact hk _ _ _ h
  case bin => exact binK_mono hk h
  case un => exact unK_mono hk h
  case sh => exact shK_mono hk h
  case idxA => exact idxAK_mono hk h
  case clr => exact clrK_mono hk h
  case slz => exact slzK_mono hk h
  case app => exact appK_mono hk h
  case copy => exact copyK_mono hk h
  case slc => exact slcK_mono hk h
  case sls => exact slsK_mono hk h
  case call => exact CallS_mono hk h
  case callv =>
    unfold callvK at h ⊢
    split at h
    · exact ⟨h.1, CallS_mono hk h.2⟩
    · exact h
  case box =>
    unfold boxK at h ⊢
    split at h
    · exact ⟨h.1, hk _ _ _ h.2⟩
    · exact h
  case mkrow =>
    unfold rowK at h ⊢
    split at h
    · exact hk _ _ _ h
    · exact h
  case mkisl =>
    unfold islK at h ⊢
    split at h
    · exact hk _ _ _ h
    · exact h
  case store =>
    unfold heapK at h ⊢
    split at h
    · exact hk _ _ _ h
    · exact h
  case iaddr =>
    unfold iaddrK at h ⊢
    split at h
    · split at h
      · exact ⟨h.1, h.2.1, h.2.2.1, hk _ _ _ h.2.2.2⟩
      · exact ⟨h.1, h.2.1, h.2.2.1, hk _ _ _ h.2.2.2⟩
      · exact h
    · exact h
  case iaddrA =>
    unfold iaddrAK at h ⊢
    split at h
    · split at h
      · exact ⟨h.1, h.2.1, hk _ _ _ h.2.2⟩
      · exact ⟨h.1, h.2.1, hk _ _ _ h.2.2⟩
      · exact h
    · exact h
  case idx =>
    unfold idxK at h ⊢
    split at h
    · exact ⟨h.1, optR_mono hk h.2⟩
    · exact h
  case mksl =>
    unfold mkslK at h ⊢
    split at h
    · exact ⟨h.1, h.2.1, hk _ _ _ h.2.2⟩
    · exact h
  case look =>
    unfold lookK at h ⊢
    split at h
    · exact ⟨h.1, hk _ _ _ h.2⟩
    · split at h
      · exact ⟨h.1, h.2.1, hk _ _ _ h.2.2⟩
      · exact h
    · exact h
  case mput =>
    unfold mputK at h ⊢
    split at h
    · split at h
      · exact ⟨h.1, h.2.1, hk _ _ _ h.2.2⟩
      · exact h
    · exact h
  case mdel =>
    unfold mdelK at h ⊢
    split at h
    · exact ⟨h.1, hk _ _ _ h.2⟩
    · split at h
      · exact ⟨h.1, h.2.1, hk _ _ _ h.2.2⟩
      · exact h
    · exact h
end mono

/-- Operations that depend on slots alone (0), that read the heap (1), others (2). -/
def cls : AO → Nat
  | .mov _ | .pick .. | .nilck _ | .build .. | .mkisl .. | .faddr .. | .iaddrA .. | .fld .. | .idx .. | .ext .. | .bin .. | .eqp .. | .eqa .. | .un .. | .conv .. | .lenc _ | .mm .. | .mkfn .. | .sls .. | .sh .. | .idxA .. => 0
  | .load .. | .iaddr .. | .len .. | .slc .. | .look .. => 1
  | _ => 2

/-- The form of an operation that changes nothing of the heap. -/
def Form (P : Program) (ao : AO) (s : St) (pre : Prop) (v : V) : Prop := ∀ (k : Res) h n, (cls ao = 0 ∨ h = s.h) → (stepO P ao ⟨s.sl, h, n⟩ k ↔ pre ∧ k v h n)

theorem optR_form (o : Option V) : ∃ (pre : Prop) (v : V), ∀ (k : Res) h n, optR o k h n ↔ pre ∧ k v h n := by
  cases o with
  | none => exact ⟨False, .undef, fun k h n => by simp [optR]⟩
  | some v => exact ⟨True, v, fun k h n => by simp [optR]⟩
theorem af2 {a b x : Prop} : (a ∧ b ∧ x) ↔ ((a ∧ b) ∧ x) := and_assoc.symm
theorem af3 {a b c x : Prop} : (a ∧ b ∧ c ∧ x) ↔ ((a ∧ b ∧ c) ∧ x) := by simp only [and_assoc]
theorem af4 {a b c d x : Prop} : (a ∧ b ∧ c ∧ d ∧ x) ↔ ((a ∧ b ∧ c ∧ d) ∧ x) := by simp only [and_assoc]
theorem no_form : ∃ (pre : Prop) (v : V), ∀ (k : Res) (h : Heap) (n : Nat), False ↔ pre ∧ k v h n := ⟨False, .undef, fun _ _ _ => by simp⟩
theorem binK_form (op : BinOp) (x y : V) : ∃ (pre : Prop) (v : V), ∀ (k : Res) h n, binK op x y k h n ↔ pre ∧ k v h n := by
  unfold binK
  split
  · cases op
    case add => unfold arithK; exact ⟨_, _, fun k h n => af2⟩
    case sub => unfold arithK; exact ⟨_, _, fun k h n => af2⟩
    case mul => unfold arithK; exact ⟨_, _, fun k h n => af2⟩
    case quo => unfold arithK; exact ⟨_, _, fun k h n => af3⟩
    case rem => exact ⟨_, _, fun k h n => af2⟩
    case eql => exact ⟨_, _, fun k h n => Iff.rfl⟩
    case neq => exact ⟨_, _, fun k h n => Iff.rfl⟩
    case lss => exact ⟨_, _, fun k h n => Iff.rfl⟩
    case leq => exact ⟨_, _, fun k h n => Iff.rfl⟩
    case gtr => exact ⟨_, _, fun k h n => Iff.rfl⟩
    case geq => exact ⟨_, _, fun k h n => Iff.rfl⟩
    case and => exact ⟨_, _, fun k h n => Iff.rfl⟩
    case or => exact ⟨_, _, fun k h n => Iff.rfl⟩
    case xor => exact ⟨_, _, fun k h n => Iff.rfl⟩
    case andNot => exact ⟨_, _, fun k h n => Iff.rfl⟩
    all_goals exact ⟨False, .undef, fun k h n => by simp⟩
  · cases op
    case add => exact ⟨_, _, fun k h n => Iff.rfl⟩
    case eql => exact ⟨True, _, fun k h n => by rw [true_and]⟩
    case neq => exact ⟨True, _, fun k h n => by rw [true_and]⟩
    case lss => exact ⟨True, _, fun k h n => by rw [true_and]⟩
    case geq => exact ⟨True, _, fun k h n => by rw [true_and]⟩
    case leq => exact ⟨True, _, fun k h n => by rw [true_and]⟩
    case gtr => exact ⟨True, _, fun k h n => by rw [true_and]⟩
    all_goals exact ⟨False, .undef, fun k h n => by simp⟩
  · exact no_form
theorem unK_form (op : UnOp) (x : V) : ∃ (pre : Prop) (v : V), ∀ (k : Res) h n, unK op x k h n ↔ pre ∧ k v h n := by
  unfold unK
  split
  · unfold arithK; exact ⟨_, _, fun k h n => Iff.rfl⟩
  · exact ⟨True, _, fun k h n => by rw [true_and]⟩
  · exact ⟨True, _, fun k h n => by rw [true_and]⟩
  · exact no_form

theorem form_of {ao : AO} (h : cls ao ≤ 1) (s : St) : ∃ pre v, Form P ao s pre v := by
  have c0 : ∀ {ao : AO}, cls ao = 0 → (∃ (pre : Prop) (v : V), ∀ (k : Res) h n, stepO P ao ⟨s.sl, h, n⟩ k ↔ pre ∧ k v h n) → ∃ pre v, Form P ao s pre v := fun _ ⟨pre, v, hf⟩ => ⟨pre, v, fun k h n _ => hf k h n⟩
  have c1 : ∀ {ao : AO}, cls ao = 1 → (∃ (pre : Prop) (v : V), ∀ (k : Res) n, stepO P ao ⟨s.sl, s.h, n⟩ k ↔ pre ∧ k v s.h n) → ∃ pre v, Form P ao s pre v := fun hc ⟨pre, v, hf⟩ => ⟨pre, v, fun k h n hh => by
    rcases hh with hh | rfl
    · rw [hc] at hh; cases hh
    · exact hf k n⟩
  have o1 : ∀ (o : Option V), ∃ (pre : Prop) (v : V), ∀ (k : Res) (n : Nat), optR o k s.h n ↔ pre ∧ k v s.h n := fun o => let ⟨p, v, hf⟩ := optR_form o; ⟨p, v, fun k n => hf k s.h n⟩
  cases ao <;> simp only [cls] at h <;> try omega
  case mov x =>
    have e1 : ∀ h n, (⟨s.sl, h, n⟩ : St).ev x = s.ev x := fun h n => Agree.ev fun _ _ => rfl
    exact c0 rfl ⟨True, s.ev x, fun k h n => by rw [true_and]; simp only [stepO, e1]⟩
  case pick c a b =>
    refine c0 rfl ?_
    have e0 : ∀ h n, (⟨s.sl, h, n⟩ : St).ev c = s.ev c := fun h n => Agree.ev fun _ _ => rfl
    have e1 : ∀ h n, (⟨s.sl, h, n⟩ : St).ev a = s.ev a := fun h n => Agree.ev fun _ _ => rfl
    have e2 : ∀ h n, (⟨s.sl, h, n⟩ : St).ev b = s.ev b := fun h n => Agree.ev fun _ _ => rfl
    simp only [stepO, e0, e1, e2]
    exact optR_form _
  case nilck x =>
    refine c0 rfl ?_
    have e0 : ∀ h n, (⟨s.sl, h, n⟩ : St).ev x = s.ev x := fun h n => Agree.ev fun _ _ => rfl
    simp only [stepO, e0]
    exact optR_form _
  case build z ps =>
    refine c0 rfl ?_
    have e : ∀ h n, fillV ⟨s.sl, h, n⟩ z ps = fillV s z ps := fun h n => Agree.fill fun _ _ => rfl
    simp only [stepO, e]
    exact optR_form _
  case mkisl sz xs =>
    refine c0 rfl ?_
    have e : ∀ h n, rowsOf sz ⟨s.sl, h, n⟩ xs = rowsOf sz ⟨s.sl, [], 0⟩ xs := fun h n => Agree.rows fun _ _ => rfl
    simp only [stepO, e]
    unfold islK
    split
    · exact ⟨True, _, fun k h n => by rw [true_and]⟩
    · exact no_form
  case faddr off x =>
    refine c0 rfl ?_
    have e0 : ∀ h n, (⟨s.sl, h, n⟩ : St).ev x = s.ev x := fun h n => Agree.ev fun _ _ => rfl
    simp only [stepO, e0]
    exact optR_form _
  case iaddrA len sz x i =>
    refine c0 rfl ?_
    simp only [stepO]
    have e1 : ∀ h n, (⟨s.sl, h, n⟩ : St).ev x = s.ev x := fun h n => Agree.ev fun _ _ => rfl
    have e2 : ∀ h n, (⟨s.sl, h, n⟩ : St).ev i = s.ev i := fun h n => Agree.ev fun _ _ => rfl
    simp only [e1, e2]
    unfold iaddrAK
    split
    · split
      · exact ⟨_, _, fun k h n => af2⟩
      · exact ⟨_, _, fun k h n => af2⟩
      · exact no_form
    · exact no_form
  case fld off m agg x =>
    refine c0 rfl ?_
    have e0 : ∀ h n, (⟨s.sl, h, n⟩ : St).ev x = s.ev x := fun h n => Agree.ev fun _ _ => rfl
    simp only [stepO, e0]
    exact optR_form _
  case idx x i =>
    refine c0 rfl ?_
    simp only [stepO]
    have e1 : ∀ h n, (⟨s.sl, h, n⟩ : St).ev x = s.ev x := fun h n => Agree.ev fun _ _ => rfl
    have e2 : ∀ h n, (⟨s.sl, h, n⟩ : St).ev i = s.ev i := fun h n => Agree.ev fun _ _ => rfl
    simp only [e1, e2]
    unfold idxK
    split
    · rename_i b _ z _ _
      obtain ⟨p, v, hf⟩ := optR_form ((b[z.toNat]?).map fun b => .int .u8 b.toNat)
      exact ⟨_ ∧ p, v, fun k h n => by rw [and_assoc, ← hf k h n]⟩
    · exact no_form
  case ext i x =>
    refine c0 rfl ?_
    have e0 : ∀ h n, (⟨s.sl, h, n⟩ : St).ev x = s.ev x := fun h n => Agree.ev fun _ _ => rfl
    simp only [stepO, e0]
    exact optR_form _
  case bin op x y =>
    refine c0 rfl ?_
    have e0 : ∀ h n, (⟨s.sl, h, n⟩ : St).ev x = s.ev x := fun h n => Agree.ev fun _ _ => rfl
    have e1 : ∀ h n, (⟨s.sl, h, n⟩ : St).ev y = s.ev y := fun h n => Agree.ev fun _ _ => rfl
    simp only [stepO, e0, e1]
    exact binK_form _ _ _
  case sh l x y =>
    refine c0 rfl ?_
    have e0 : ∀ h n, (⟨s.sl, h, n⟩ : St).ev x = s.ev x := fun h n => Agree.ev fun _ _ => rfl
    have e1 : ∀ h n, (⟨s.sl, h, n⟩ : St).ev y = s.ev y := fun h n => Agree.ev fun _ _ => rfl
    simp only [stepO, e0, e1]
    unfold shK
    split
    · exact ⟨_, _, fun k h n => Iff.rfl⟩
    · exact no_form
  case idxA len sz m agg x y =>
    refine c0 rfl ?_
    have e0 : ∀ h n, (⟨s.sl, h, n⟩ : St).ev x = s.ev x := fun h n => Agree.ev fun _ _ => rfl
    have e1 : ∀ h n, (⟨s.sl, h, n⟩ : St).ev y = s.ev y := fun h n => Agree.ev fun _ _ => rfl
    simp only [stepO, e0, e1]
    unfold idxAK
    split
    · rename_i cs _ z _ _
      obtain ⟨p, v, hf⟩ := optR_form (loadRow cs (z.toNat * sz) m agg)
      exact ⟨_ ∧ _ ∧ p, v, fun k h n => by rw [hf k h n]; exact af3⟩
    · exact no_form
  case eqp kd neg x y =>
    refine c0 rfl ?_
    have e0 : ∀ h n, (⟨s.sl, h, n⟩ : St).ev x = s.ev x := fun h n => Agree.ev fun _ _ => rfl
    have e1 : ∀ h n, (⟨s.sl, h, n⟩ : St).ev y = s.ev y := fun h n => Agree.ev fun _ _ => rfl
    simp only [stepO, e0, e1]
    exact optR_form _
  case eqa neg t x y =>
    refine c0 rfl ?_
    have e0 : ∀ h n, (⟨s.sl, h, n⟩ : St).ev x = s.ev x := fun h n => Agree.ev fun _ _ => rfl
    have e1 : ∀ h n, (⟨s.sl, h, n⟩ : St).ev y = s.ev y := fun h n => Agree.ev fun _ _ => rfl
    simp only [stepO, e0, e1]
    exact optR_form _
  case un op x =>
    refine c0 rfl ?_
    have e0 : ∀ h n, (⟨s.sl, h, n⟩ : St).ev x = s.ev x := fun h n => Agree.ev fun _ _ => rfl
    simp only [stepO, e0]
    exact unK_form _ _
  case conv j x =>
    refine c0 rfl ?_
    have e0 : ∀ h n, (⟨s.sl, h, n⟩ : St).ev x = s.ev x := fun h n => Agree.ev fun _ _ => rfl
    simp only [stepO, e0]
    exact optR_form _
  case lenc m => exact c0 rfl ⟨True, .int .i64 m, fun k h n => by rw [true_and]; exact Iff.rfl⟩
  case mm mx xs =>
    refine c0 rfl ?_
    have e : ∀ h n, xs.map (⟨s.sl, h, n⟩ : St).ev = xs.map s.ev := fun h n => Agree.evs fun _ _ => rfl
    simp only [stepO, e]
    exact optR_form _
  case mkfn f xs =>
    refine c0 rfl ?_
    have e : ∀ h n, xs.map (⟨s.sl, h, n⟩ : St).ev = xs.map s.ev := fun h n => Agree.evs fun _ _ => rfl
    simp only [stepO, e]
    exact ⟨True, _, fun k h n => by rw [true_and]⟩
  case sls x lo hi =>
    refine c0 rfl ?_
    have e1 : ∀ h n, (⟨s.sl, h, n⟩ : St).ev x = s.ev x := fun h n => Agree.ev fun _ _ => rfl
    have e2 : ∀ h n, lo.map (⟨s.sl, h, n⟩ : St).ev = lo.map s.ev := fun h n => Agree.evo fun _ _ => rfl
    have e3 : ∀ h n, hi.map (⟨s.sl, h, n⟩ : St).ev = hi.map s.ev := fun h n => Agree.evo fun _ _ => rfl
    simp only [stepO, e1, e2, e3]
    unfold slsK
    split
    · split
      · exact ⟨_, _, fun k h n => af3⟩
      · exact no_form
    · exact no_form
  case load m agg x =>
    have e1 : ∀ h n, (⟨s.sl, h, n⟩ : St).ev x = s.ev x := fun h n => Agree.ev fun _ _ => rfl
    refine c1 rfl ?_
    simp only [stepO, e1]
    exact o1 _
  case len kd x =>
    have e1 : ∀ h n, (⟨s.sl, h, n⟩ : St).ev x = s.ev x := fun h n => Agree.ev fun _ _ => rfl
    refine c1 rfl ?_
    simp only [stepO, e1]
    exact o1 _
  case iaddr sz x i =>
    refine c1 rfl ?_
    simp only [stepO]
    have e1 : ∀ h n, (⟨s.sl, h, n⟩ : St).ev x = s.ev x := fun h n => Agree.ev fun _ _ => rfl
    have e2 : ∀ h n, (⟨s.sl, h, n⟩ : St).ev i = s.ev i := fun h n => Agree.ev fun _ _ => rfl
    simp only [e1, e2]
    unfold iaddrK
    split
    · split
      · exact ⟨_, _, fun k n => af3⟩
      · exact ⟨_, _, fun k n => af3⟩
      · exact ⟨False, .undef, fun _ _ => by simp⟩
    · exact ⟨False, .undef, fun _ _ => by simp⟩
  case slc sz x lo hi =>
    refine c1 rfl ?_
    have e1 : ∀ h n, (⟨s.sl, h, n⟩ : St).ev x = s.ev x := fun h n => Agree.ev fun _ _ => rfl
    have e2 : ∀ h n, lo.map (⟨s.sl, h, n⟩ : St).ev = lo.map s.ev := fun h n => Agree.evo fun _ _ => rfl
    have e3 : ∀ h n, hi.map (⟨s.sl, h, n⟩ : St).ev = hi.map s.ev := fun h n => Agree.evo fun _ _ => rfl
    simp only [stepO, e1, e2, e3]
    unfold slcK
    split
    · split
      · exact ⟨_, _, fun k n => af4⟩
      · exact ⟨False, .undef, fun _ _ => by simp⟩
    · split
      · exact ⟨_, _, fun k n => af4⟩
      · exact ⟨False, .undef, fun _ _ => by simp⟩
    · split
      · exact ⟨_, _, fun k n => af2⟩
      · exact ⟨False, .undef, fun _ _ => by simp⟩
    · exact ⟨False, .undef, fun _ _ => by simp⟩
  case look kd z ok m x =>
    refine c1 rfl ?_
    have e1 : ∀ h n, (⟨s.sl, h, n⟩ : St).ev m = s.ev m := fun h n => Agree.ev fun _ _ => rfl
    have e2 : ∀ h n, (⟨s.sl, h, n⟩ : St).ev x = s.ev x := fun h n => Agree.ev fun _ _ => rfl
    simp only [stepO, e1, e2]
    unfold lookK
    split
    · exact ⟨_, _, fun k n => Iff.rfl⟩
    · split
      · exact ⟨_, _, fun k n => af2⟩
      · exact ⟨False, .undef, fun _ _ => by simp⟩
    · exact ⟨False, .undef, fun _ _ => by simp⟩

end
end Go.Abs
