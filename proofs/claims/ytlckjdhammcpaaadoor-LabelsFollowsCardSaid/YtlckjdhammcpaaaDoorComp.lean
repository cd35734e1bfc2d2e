/-
  The translation of operations into abstract ones, and that it keeps the meaning. No condition.
-/
import Derived.Test.YtlckjdhammcpaaaDoorSndK
set_option linter.unusedVariables false
set_option linter.unusedSimpArgs false
namespace Go.Abs

def zV (z : Value) : Option V :=
  match z with
  | .agg cs => (cVs cs.toList).map .agg
  | v => cV v

def hasInt (P : Program) (t : TypeId) : Option IntKind :=
  match P.underlying t with
  | some (.int j) => some j
  | _ => none

def kdOf (P : Program) (kt : TypeId) : Option Nat :=
  match P.underlying kt with
  | some (.int _) => some 0
  | some .string => some 1
  | some .bool => some 2
  | _ => none

def sliceElem (P : Program) (t : TypeId) : Option (TypeId × TypeInfo) :=
  match P.underlying t with
  | some (.slice e) => (P.info? e).map fun i => (e, i)
  | _ => none

def compAlloc (P : Program) (d : Option Nat) (e : TypeId) : Option AO :=
  match d, P.info? e with
  | some d, some i => match i.zero with
    | some z => (zV z).map fun zv => .box d i.size (.c zv)
    | none => none
  | _, _ => none

def compBox (P : Program) (d : Option Nat) (e : TypeId) (x : Operand) : Option AO :=
  match d, P.info? e, compX x with
  | some d, some i, some x => some (.box d i.size x)
  | _, _, _ => none

def compBuild (P : Program) (t : TypeId) (parts : Array (Nat × Operand)) : Option AO :=
  match P.underlying t, P.info? t with
  | some (.struct fs), some i => match i.zero, fs.toList.mapM (placeOf P) with
    | some z, some pl => match cVs z.cells.toList, compPs (pl[·]?) parts.toList with
      | some zs, some qs => some (.build zs qs)
      | _, _ => none
    | _, _ => none
  | some (.array _ e), some i => match i.zero, P.info? e with
    | some z, some ei => match cVs z.cells.toList, compPs (fun i => some (i * ei.size, ei.size)) parts.toList with
      | some zs, some qs => some (.build zs qs)
      | _, _ => none
    | _, _ => none
  | _, _ => none

def compBuildSlice (P : Program) (hint : Bool) (d : Option Nat) (t : TypeId) (len : Nat) (parts : Array (Nat × Operand)) : Option AO :=
  match sliceElem P t, d with
  | some (_, i), some d => match i.zero, compXs (parts.toList.map (·.2)) with
    | some z, some ys => match cVs z.cells.toList with
      | some zs => if zs.length = i.size ∧ len * i.size ≤ 16777216 ∧ parts.toList.map (·.1) = List.range' 0 parts.toList.length ∧ parts.toList.length = len then
          some (if hint then .mkisl i.size ys else .mkrow d i.size ys) else none
      | none => none
    | _, _ => none
  | _, _ => none

def compLoad (P : Program) (t : TypeId) (x : Operand) : Option AO :=
  match tyOf P t, compX x with
  | some (n, a), some x => some (.load n a x)
  | _, _ => none

def compStore (P : Program) (t : TypeId) (x v : Operand) : Option AO :=
  match P.info? t, compX x, compX v with
  | some i, some x, some v => some (.store i.size x v)
  | _, _, _ => none

def eqKind (P : Program) (t : TypeId) : Option Nat :=
  match P.underlying t with
  | some (.pointer _) => some 0
  | some (.map _ _) => some 1
  | some .bool => some 2
  | _ => none

def isStruct (P : Program) (t : TypeId) : Bool :=
  match P.underlying t with
  | some (.struct _) => true
  | _ => false

def eqNeg : BinOp → Option Bool
  | .eql => some false
  | .neq => some true
  | _ => none

def shOf : BinOp → Option Bool
  | .shl => some true
  | .shr => some false
  | _ => none

def compBin (P : Program) (op : BinOp) (t : TypeId) (x y : Operand) : Option AO :=
  match compX x, compX y with
  | some x, some y => match shOf op with
   | some l => some (.sh l x y)
   | none => match eqNeg op with
    | some neg => match eqKind P t with
      | some k => some (.eqp k neg x y)
      | none => if isStruct P t then
          match shapeOf P 8 t with
          | some e => if P.eqGuardType P.depth t = false then some (.eqa neg e x y) else none
          | none => none
        else some (.bin op x y)
    | none => some (.bin op x y)
  | _, _ => none

def compConv (P : Program) (a b : TypeId) (x : Operand) : Option AO :=
  match P.underlying a, hasInt P b, compX x with
  | some _, some j, some x => some (.conv j x)
  | _, _, _ => none

def compFaddr (P : Program) (t : TypeId) (x : Operand) (i : Nat) : Option AO :=
  match P.underlying t, compX x with
  | some (.struct fs), some x => match fs[i]? with
    | some f => match P.info? f.type with
      | some ti => if ti.size = 0 then none else some (.faddr f.offset x)
      | none => none
    | none => none
  | _, _ => none

def compFld (P : Program) (t : TypeId) (x : Operand) (i : Nat) : Option AO :=
  match P.underlying t, compX x with
  | some (.struct fs), some x => match fs[i]? with
    | some f => (tyOf P f.type).map fun q => .fld f.offset q.1 q.2 x
    | none => none
  | _, _ => none

def compIaddr (P : Program) (t : TypeId) (x i : Operand) : Option AO :=
  match P.underlying t, compX x, compX i with
  | some (.slice e), some x, some i => (P.info? e).map fun ti => .iaddr ti.size x i
  | some (.array n e), some x, some i => (P.info? e).map fun ti => .iaddrA n ti.size x i
  | _, _, _ => none

def compIdx (P : Program) (t : TypeId) (x i : Operand) : Option AO :=
  match P.underlying t, compX x, compX i with
  | some .string, some x, some i => some (.idx x i)
  | some (.array n e), some x, some i => match P.info? e, tyOf P e with
    | some ti, some q => some (.idxA n ti.size q.1 q.2 x i)
    | _, _ => none
  | _, _, _ => none

def compSlz (P : Program) (d : Option Nat) (t : TypeId) (x : Operand) : Option AO :=
  match d, sliceElem P t, compX x with
  | some d, some (_, i), some x => some (.slz d i.size x)
  | _, _, _ => none

def compClr (P : Program) (t : TypeId) (x : Operand) : Option AO :=
  match sliceElem P t, compX x with
  | some (_, i), some x => match i.zero with
    | some z => (cVs z.cells.toList).map fun zs => .clr zs x
    | none => none
  | _, _ => none

def compMksl (P : Program) (d : Option Nat) (t : TypeId) (l c : Operand) : Option AO :=
  match l, c, d, sliceElem P t with
  | .tmp a, .tmp b, some d, some (_, i) => if a = b ∧ i.bytes ≤ 1024 then
      match i.zero with
      | some z => match cVs z.cells.toList with
        | some zs => if zs.length = i.size then some (.mksl d zs (.t a)) else none
        | none => none
      | none => none
    else none
  | .const (.int .i64 a), .const (.int .i64 b), some d, some (_, i) => if a = b ∧ i.bytes ≤ 1024 then
      match i.zero with
      | some z => match cVs z.cells.toList with
        | some zs => if zs.length = i.size then some (.mksl d zs (.c (.int .i64 a))) else none
        | none => none
      | none => none
    else none
  | _, _, _, _ => none

def compSlc (P : Program) (t : TypeId) (x : Operand) (lo hi : Option Operand) : Option AO :=
  match P.underlying t, compX x, compXo lo, compXo hi with
  | some (.slice e), some x, some lo, some hi => (P.info? e).map fun ti => .slc ti.size x lo hi
  | some .string, some x, some lo, some hi => some (.sls x lo hi)
  | _, _, _, _ => none

def zeroOp : Operand → Option IntKind
  | .const (.int j 0) => some j
  | _ => none
theorem zeroOp_inv {x : Operand} {j : IntKind} (h : zeroOp x = some j) : x = .const (.int j 0) := by
  unfold zeroOp at h
  split at h
  · injection h with h; subst h; rfl
  · cases h

def compSl (P : Program) (d : Option Nat) (t : TypeId) (x : Operand) (lo hi mx : Option Operand) : Option AO :=
  match mx with
  | none => compSlc P t x lo hi
  | some m => match lo, hi.bind zeroOp, zeroOp m with
    | none, some _, some _ => compSlz P d t x
    | _, _, _ => none

def compMkmap (P : Program) (d : Option Nat) (t : TypeId) (r : Option Operand) : Option AO :=
  match d, r with
  | some d, none => some (.mkmap d)
  | some d, some (.const (.int _ _)) => match P.underlying t with
    | some (.map _ _) => some (.mkmap d)
    | _ => none
  | _, _ => none

def mapKd (P : Program) (t : TypeId) : Option (Nat × TypeId) :=
  match P.underlying t with
  | some (.map k e) => (kdOf P k).map fun kd => (kd, e)
  | _ => none

def compLook (P : Program) (t : TypeId) (m x : Operand) (ok : Bool) : Option AO :=
  match mapKd P t, compX m, compX x with
  | some (kd, e), some m, some x => match P.info? e with
    | some i => match i.zero with
      | some z => (zV z).map fun zv => .look kd zv ok m x
      | none => none
    | none => none
  | _, _, _ => none

def compMput (P : Program) (t : TypeId) (m x v : Operand) : Option AO :=
  match mapKd P t, compX m, compX x, compX v with
  | some (kd, _), some m, some x, some v => some (.mput kd m x v)
  | _, _, _, _ => none

def compLen (P : Program) (t : TypeId) (x : Operand) : Option AO :=
  match P.underlying t, compX x with
  | some (.slice _), some x => some (.len 0 x)
  | some .string, some x => some (.len 1 x)
  | some (.map _ _), some x => some (.len 2 x)
  | some (.array n _), some _ => some (.lenc n)
  | _, _ => none

def isSrc (P : Program) (u : TypeId) : Bool :=
  match P.underlying u with
  | some (.slice _) | some .string => true
  | _ => false

def compApp (P : Program) (d : Option Nat) (t u : TypeId) (x y : Operand) : Option AO :=
  match d, sliceElem P t, compX x, compX y with
  | some d, some (_, i), some x, some y => match i.zero with
    | some z => if isSrc P u = true ∧ z.cells.size = i.size ∧ i.bytes ≤ 1024 then some (.app d i.size x y) else none
    | none => none
  | _, _, _, _ => none

def compCopy (P : Program) (t : TypeId) (x y : Operand) : Option AO :=
  match sliceElem P t, compX x, compX y with
  | some (_, i), some x, some y => some (.copy i.size x y)
  | _, _, _ => none

def compDel (P : Program) (t : TypeId) (m x : Operand) : Option AO :=
  match mapKd P t, compX m, compX x with
  | some (kd, _), some m, some x => some (.mdel kd m x)
  | _, _, _ => none

def compBuiltin (P : Program) (d : Option Nat) (b : Builtin) (args : List Operand) (ts : List TypeId) : Option AO :=
  match b, args, ts with
  | .len, [x], [t] => compLen P t x
  | .append, [x, y], [t, u] => compApp P d t u x y
  | .max, [x, y], _ => match compX x, compX y with
    | some x, some y => some (.mm true [x, y])
    | _, _ => none
  | .min, [x, y], _ => match compX x, compX y with
    | some x, some y => some (.mm false [x, y])
    | _, _ => none
  | .delete, [m, x], t :: _ => compDel P t m x
  | .copy, [x, y], [t, u] => compCopy P t x y
  | .clear, [x], [t] => compClr P t x
  | _, _, _ => none

def compCall (P : Program) (f : Operand) (args : List Operand) : Option AO :=
  match compXs args with
  | some xs => match f with
    | .func g => if hasBody P g then some (.call g xs) else none
    | .tmp i => some (.callv (.t i) xs)
    | _ => none
  | none => none

def compO (P : Program) (hint : Bool) (d : Option Nat) (op : Op) : Option AO :=
  match op with
  | .move x | .assign x => (compX x).map .mov
  | .pick c a b => match compX c, compX a, compX b with
    | some c, some a, some b => some (.pick c a b)
    | _, _, _ => none
  | .nilCheck x => (compX x).map .nilck
  | .extract x i => (compX x).map (.ext i)
  | .unOp op _ x => (compX x).map (.un op)
  | .alloc e => compAlloc P d e
  | .box e x => compBox P d e x
  | .build t parts => compBuild P t parts
  | .buildSlice t len parts => compBuildSlice P hint d t len parts
  | .load t x => compLoad P t x
  | .store t x v => compStore P t x v
  | .binOp op t x y _ => compBin P op t x y
  | .convert a b x => compConv P a b x
  | .fieldAddr t x i => compFaddr P t x i
  | .field t x i => compFld P t x i
  | .indexAddr t x i => compIaddr P t x i
  | .index t x i => compIdx P t x i
  | .makeSlice t l c => compMksl P d t l c
  | .slice t x lo hi mx => compSl P d t x lo hi mx
  | .makeMap t r => compMkmap P d t r
  | .lookup t m x ok => compLook P t m x ok
  | .mapUpdate t m x v | .insert t m x v => compMput P t m x v
  | .makeFunc (.func f) first xs => if first.size = 0 then (compXs xs.toList).map (.mkfn f) else none
  | .call c => match c.callee with
    | .builtin b => compBuiltin P d b c.args.toList c.argTypes.toList
    | .value f => compCall P f c.args.toList
    | _ => none
  | _ => none

section
variable {P : Program} {k : Res} {w : World} {O : Nat → Prop} {ρ : Nat → Loc} {s : St} {η : Operand → Value} {o : Oper} {ao : AO} {d : Option Nat} {hint : Bool}

theorem zV_R {z : Value} {zv : V} (h : zV z = some zv) (E : Env) : R E zv z := by
  unfold zV at h
  split at h
  · rw [Option.map_eq_some_iff] at h
    obtain ⟨cs, hcs, rfl⟩ := h
    obtain ⟨h1, h2, h3⟩ := cVs_R (E := E) hcs
    exact .agg _ _ (by simpa using h1) (fun i v hv => h3 i v (by simpa using hv)) (fun i c v hc hv => h2 i c v hc (by simpa using hv))
  · exact cV_R h

theorem cVs_RL {cs : Array Value} {zs : List V} (h : cVs cs.toList = some zs) : (∀ E : Env, RL E zs cs) ∧ ∀ (i : Nat) v, cs[i]? = some v → v.oneCell' = true := by
  refine ⟨fun E => ?_, fun i v hv => ?_⟩
  · obtain ⟨h1, h2, _⟩ := cVs_R (E := E) h
    exact ⟨by simpa using h1, fun i c v hc hv => h2 i c v hc (by simpa using hv)⟩
  · obtain ⟨_, _, h3⟩ := cVs_R (E := ⟨default, fun _ => False, fun _ => False, fun _ => default, 0⟩) h
    exact h3 i v (by simpa using hv)

theorem kdOf_sound {kt : TypeId} {kd : Nat} (h : kdOf P kt = some kd) : KdOf P kt kd := by
  unfold kdOf at h
  split at h <;> first | (cases h; done) | skip
  · rename_i j hu; injection h with h; exact .inl ⟨h.symm, _, hu⟩
  · rename_i hu; injection h with h; exact .inr (.inl ⟨h.symm, hu⟩)
  · rename_i hu; injection h with h; exact .inr (.inr ⟨h.symm, hu⟩)

theorem sliceElem_sound {t : TypeId} {q : TypeId × TypeInfo} (h : sliceElem P t = some q) : P.underlying t = some (.slice q.1) ∧ P.info? q.1 = some q.2 := by
  unfold sliceElem at h
  split at h
  · rename_i e hu
    rw [Option.map_eq_some_iff] at h
    obtain ⟨i, hi, rfl⟩ := h
    exact ⟨hu, hi⟩
  · cases h

theorem mapKd_sound {t : TypeId} {kd : Nat} {e : TypeId} (h : mapKd P t = some (kd, e)) : ∃ kt, P.underlying t = some (.map kt e) ∧ KdOf P kt kd := by
  unfold mapKd at h
  split at h
  · rename_i kt e' hu
    rw [Option.map_eq_some_iff] at h
    obtain ⟨i, hi, h⟩ := h
    injection h with h1 h2
    subst h1; subst h2
    exact ⟨kt, hu, kdOf_sound hi⟩
  · cases h

theorem run_callFunc {g : FuncId} {args : Array Value} (h : hasBody P g = true) (w : World) : (callFunc g args).run P w = .ok (.enter g args) w := by
  unfold hasBody at h
  split at h
  · rename_i fn hf
    rw [Bool.and_eq_true] at h
    obtain ⟨h1, h2⟩ := h
    have h3 : fn.body.isNone = false := by cases hb : fn.body <;> simp_all
    have h4 : (fn.name == "runtime.NumGoroutine") = false := by simpa using h2
    have h5 : ¬ (fn.name == "runtime.NumGoroutine") = true := by rw [h4]; simp
    simp only [callFunc, Sem.run_bind, run_program, Result.andThen_ok, hf]
    rw [if_neg h5, if_neg (by rw [h3]; simp)]
    rfl
  · cases h

theorem snd_call {f : Operand} {args : Array Operand} {ts : Array TypeId} (ho : o.op = .call { callee := .value f, args, argTypes := ts }) (hc : compCall P f args.toList = some ao)
    (hr : HeapR w O ρ s.n s.h) (he : EvR (envOf w O ρ s.n s.h) s η) (hk : stepO P ao s k) : Done P k w O ρ s.h s.n ((execOp η o).run P w) := by
  unfold compCall at hc
  split at hc
  · rename_i xs hxs
    have hargs := he.evs hxs
    have hmap : (args.map η) = (args.toList.map η).toArray := by apply Array.ext'; simp
    split at hc
    · rename_i g
      split at hc
      · rename_i hb
        injection hc with hc
        subst hc
        have hrun : (execOp η o).run P w = .ok (.enter g (args.map η)) w := by
          simp [execOp, ho, resolve, Deferred.ofValue, he.2.2.1, invoke, run_callFunc hb]
        rw [hrun]
        refine ⟨rfl, _, ?_, hk⟩
        rw [hmap]; exact hargs
      · cases hc
    · rename_i i
      injection hc with hc
      subst hc
      have hf := he.1 i
      simp only [stepO, St.ev] at hk
      generalize sget s.sl i = vf at *
      unfold callvK at hk
      split at hk
      · rename_i g cs
        obtain ⟨hb, hk⟩ := hk
        obtain ⟨vs, hv, hR⟩ := hf.fn_inv
        have hrun : (execOp η o).run P w = .ok (.enter g (args.map η ++ vs)) w := by
          simp [execOp, ho, resolve, Deferred.ofValue, hv, invoke, run_callFunc hb]
        rw [hrun]
        refine ⟨rfl, _, ?_, hk⟩
        rw [hmap]
        refine ⟨by simp [hR.1, hargs.1], fun q c u hc hu => ?_⟩
        rw [List.getElem?_append] at hc
        rw [Array.getElem?_append] at hu
        have hl := hargs.1
        split at hc
        · rename_i hq
          rw [if_pos (by rw [← hl]; exact hq)] at hu
          exact hargs.2 q c u hc hu
        · rename_i hq
          rw [if_neg (by rw [← hl]; exact hq)] at hu
          rw [hl] at hc
          exact hR.2 _ c u hc hu
      · exact hk.elim
    · cases hc
  · cases hc

theorem snd_builtin {b : Builtin} {args : Array Operand} {ts : Array TypeId} (ho : o.op = .call { callee := .builtin b, args, argTypes := ts }) (hc : compBuiltin P d b args.toList ts.toList = some ao)
    (hr : HeapR w O ρ s.n s.h) (he : EvR (envOf w O ρ s.n s.h) s η) (hk : stepO P ao s k) : Done P k w O ρ s.h s.n ((execOp η o).run P w) := by
  obtain ⟨args⟩ := args
  obtain ⟨ts⟩ := ts
  have hc : compBuiltin P d b args ts = some ao := hc
  unfold compBuiltin at hc
  split at hc
  · rename_i x t
    unfold compLen at hc
    split at hc <;> first | (cases hc; done) | (injection hc with hc; subst hc)
    · rename_i hu hx; exact snd_len ho hu (.inl ⟨rfl, _, rfl⟩) hx hr he hk
    · rename_i hu hx; exact snd_len ho hu (.inr (.inl ⟨rfl, rfl⟩)) hx hr he hk
    · rename_i hu hx; exact snd_len ho hu (.inr (.inr ⟨rfl, _, _, rfl⟩)) hx hr he hk
    · rename_i hu hx; exact snd_lenc ho hu hr hk
  · rename_i x y t u
    unfold compApp at hc
    split at hc
    · rename_i d' e i x' y' hs hx hy
      obtain ⟨h1, h2⟩ := sliceElem_sound hs
      split at hc
      · rename_i z hz
        split at hc
        · rename_i hcond
          injection hc with hc
          subst hc
          obtain ⟨hsrc, hzs, hb⟩ := hcond
          unfold isSrc at hsrc
          split at hsrc
          · rename_i e' hu; exact snd_app ho h1 hu (.inl ⟨e', rfl⟩) h2 hz hzs hb hx hy hr he hk
          · rename_i hu; exact snd_app ho h1 hu (.inr rfl) h2 hz hzs hb hx hy hr he hk
          · cases hsrc
        · cases hc
      · cases hc
    · cases hc
  · rename_i x y
    split at hc
    · rename_i x' y' hx hy
      injection hc with hc
      subst hc
      exact snd_mm (mx := true) ho hx hy hr he hk
    · cases hc
  · rename_i x y
    split at hc
    · rename_i x' y' hx hy
      injection hc with hc
      subst hc
      exact snd_mm (mx := false) ho hx hy hr he hk
    · cases hc
  · rename_i m x t r _h
    unfold compDel at hc
    split at hc
    · rename_i kd e m' x' hkd hm hx
      injection hc with hc
      subst hc
      obtain ⟨kt, hu, hk'⟩ := mapKd_sound hkd
      exact snd_mdel ho (t := t) (by simp) hu hk' hm hx hr he hk
    · cases hc
  · rename_i x y t u
    unfold compCopy at hc
    split at hc
    · rename_i e i x' y' hs hx hy
      injection hc with hc
      subst hc
      obtain ⟨h1, h2⟩ := sliceElem_sound hs
      exact snd_copy ho h1 h2 hx hy hr he hk
    · cases hc
  · rename_i x t
    unfold compClr at hc
    split at hc
    · rename_i e i x' hs hx
      obtain ⟨h1, h2⟩ := sliceElem_sound hs
      split at hc
      · rename_i z hz
        rw [Option.map_eq_some_iff] at hc
        obtain ⟨zs, hzs, rfl⟩ := hc
        obtain ⟨hR, hone⟩ := cVs_RL hzs
        exact snd_clr ho h1 h2 hz hR hone hx hr he hk
      · cases hc
    · cases hc
  · cases hc

theorem snd_binop {op : BinOp} {t t' : TypeId} {x y : Operand} (ho : o.op = .binOp op t x y t') (hc : compBin P op t x y = some ao)
    (hr : HeapR w O ρ s.n s.h) (he : EvR (envOf w O ρ s.n s.h) s η) (hk : stepO P ao s k) : Done P k w O ρ s.h s.n ((execOp η o).run P w) := by
  unfold compBin at hc
  split at hc
  · rename_i x' y' hx hy
    split at hc
    · rename_i l hl
      injection hc with hc
      subst hc
      have hop : op = if l then .shl else .shr := by cases op <;> simp [shOf] at hl <;> subst hl <;> rfl
      exact snd_sh (left := l) (by rw [ho, hop]) hx hy hr he hk
    split at hc
    · rename_i neg hneg
      have hop : op = if neg then .neq else .eql := by cases op <;> simp [eqNeg] at hneg <;> subst hneg <;> rfl
      split at hc
      · rename_i kd hkd
        injection hc with hc
        subst hc
        unfold eqKind at hkd
        split at hkd <;> first | (cases hkd; done) | (injection hkd with hkd; subst hkd)
        · rename_i e hu; exact snd_eqp (neg := neg) (by rw [ho, hop]) hu (.inl ⟨rfl, _, rfl⟩) hx hy hr he hk
        · rename_i e u hu; exact snd_eqp (neg := neg) (by rw [ho, hop]) hu (.inr (.inl ⟨rfl, _, _, rfl⟩)) hx hy hr he hk
        · rename_i hu; exact snd_eqp (neg := neg) (by rw [ho, hop]) hu (.inr (.inr ⟨rfl, rfl⟩)) hx hy hr he hk
      · split at hc
        · rename_i hst
          split at hc
          · rename_i e hsh
            split at hc
            · rename_i hg
              injection hc with hc
              subst hc
              unfold isStruct at hst
              split at hst
              · rename_i fs hu
                exact snd_eqa (neg := neg) (by rw [ho, hop]) hu hsh hg hx hy hr he hk
              · cases hst
            · cases hc
          · cases hc
        · injection hc with hc
          subst hc
          exact snd_bin ho hx hy hr he hk
    · injection hc with hc
      subst hc
      exact snd_bin ho hx hy hr he hk
  · cases hc

theorem snd_slices {t : TypeId} {len : Nat} {parts : Array (Nat × Operand)} (ho : o.op = .buildSlice t len parts) (hc : compBuildSlice P hint d t len parts = some ao)
    (hr : HeapR w O ρ s.n s.h) (he : EvR (envOf w O ρ s.n s.h) s η) (hk : stepO P ao s k) : Done P k w O ρ s.h s.n ((execOp η o).run P w) := by
  unfold compBuildSlice at hc
  split at hc
  · rename_i e i d' hs
    obtain ⟨h1, h2⟩ := sliceElem_sound hs
    split at hc
    · rename_i z ys hz hys
      split at hc
      · rename_i zs hzs
        split at hc
        · rename_i hcond
          obtain ⟨c1, c2, c3, c4⟩ := hcond
          injection hc with hc
          subst hc
          obtain ⟨hR, hone⟩ := cVs_RL hzs
          have hsz : z.cells.size = i.size := by
            rw [← c1]; exact ((hR ⟨default, fun _ => False, fun _ => False, fun _ => default, 0⟩).1).symm
          cases hint with
          | true => exact snd_mkisl ho h1 h2 hz hsz hone c2 c3 c4 hys hr he hk
          | false => exact snd_mkrow ho h1 h2 hz hsz hone c2 c3 c4 hys hr he hk
        · cases hc
      · cases hc
    · cases hc
  · cases hc

theorem snd_make {t : TypeId} {l c : Operand} (ho : o.op = .makeSlice t l c) (hc : compMksl P d t l c = some ao)
    (hr : HeapR w O ρ s.n s.h) (he : EvR (envOf w O ρ s.n s.h) s η) (hk : stepO P ao s k) : Done P k w O ρ s.h s.n ((execOp η o).run P w) := by
  unfold compMksl at hc
  split at hc
  · rename_i a b d' e i hs
    obtain ⟨h1, h2⟩ := sliceElem_sound hs
    split at hc
    · rename_i hcond
      obtain ⟨rfl, hb⟩ := hcond
      split at hc
      · rename_i z hz
        split at hc
        · rename_i zs hzs
          split at hc
          · rename_i hl
            injection hc with hc
            subst hc
            obtain ⟨hR, hone⟩ := cVs_RL hzs
            exact snd_mksl ho rfl h1 h2 hz hb hR hone hl rfl hr he hk
          · cases hc
        · cases hc
      · cases hc
    · cases hc
  · rename_i a b d' e i hs
    obtain ⟨h1, h2⟩ := sliceElem_sound hs
    split at hc
    · rename_i hcond
      obtain ⟨rfl, hb⟩ := hcond
      split at hc
      · rename_i z hz
        split at hc
        · rename_i zs hzs
          split at hc
          · rename_i hl
            injection hc with hc
            subst hc
            obtain ⟨hR, hone⟩ := cVs_RL hzs
            exact snd_mksl ho rfl h1 h2 hz hb hR hone hl rfl hr he hk
          · cases hc
        · cases hc
      · cases hc
    · cases hc
  · cases hc

theorem compO_sound (hc : compO P hint d o.op = some ao)
    (hr : HeapR w O ρ s.n s.h) (he : EvR (envOf w O ρ s.n s.h) s η) (hk : stepO P ao s k) : Done P k w O ρ s.h s.n ((execOp η o).run P w) := by
  generalize ho : o.op = op at hc
  cases op <;> simp only [compO] at hc <;> try (cases hc; done)
  case move x =>
    rw [Option.map_eq_some_iff] at hc
    obtain ⟨y, hy, rfl⟩ := hc
    exact snd_move (.inl ho) hy hr he hk
  case assign x =>
    rw [Option.map_eq_some_iff] at hc
    obtain ⟨y, hy, rfl⟩ := hc
    exact snd_move (.inr ho) hy hr he hk
  case pick c a b =>
    split at hc
    · rename_i c' a' b' h1 h2 h3
      injection hc with hc
      subst hc
      exact snd_pick ho h1 h2 h3 hr he hk
    · cases hc
  case nilCheck x =>
    rw [Option.map_eq_some_iff] at hc
    obtain ⟨y, hy, rfl⟩ := hc
    exact snd_nilck ho hy hr he hk
  case extract x i =>
    rw [Option.map_eq_some_iff] at hc
    obtain ⟨y, hy, rfl⟩ := hc
    exact snd_extract ho hy hr he hk
  case unOp op t x =>
    rw [Option.map_eq_some_iff] at hc
    obtain ⟨y, hy, rfl⟩ := hc
    exact snd_un ho hy hr he hk
  case alloc e =>
    unfold compAlloc at hc
    split at hc
    · rename_i d' i hi
      split at hc
      · rename_i z hz
        rw [Option.map_eq_some_iff] at hc
        obtain ⟨zv, hzv, rfl⟩ := hc
        exact snd_alloc ho hi hz (zV_R hzv) hr hk
      · cases hc
    · cases hc
  case box e x =>
    unfold compBox at hc
    split at hc
    · rename_i d' i x' hi hx
      injection hc with hc
      subst hc
      exact snd_box ho hx hr he hk
    · cases hc
  case build t parts =>
    unfold compBuild at hc
    split at hc
    · rename_i fs i hu hi
      split at hc
      · rename_i z pl hz hpl
        split at hc
        · rename_i zs qs hzs hqs
          injection hc with hc
          subst hc
          obtain ⟨hR, hone⟩ := cVs_RL hzs
          exact snd_build ho hu hpl hi hz hR hone hqs hr he hk
        · cases hc
      · cases hc
    · rename_i len e i hu hi
      split at hc
      · rename_i z ei hz hei
        split at hc
        · rename_i zs qs hzs hqs
          injection hc with hc
          subst hc
          obtain ⟨hR, hone⟩ := cVs_RL hzs
          exact snd_buildA ho hu hei hi hz hR hone hqs hr he hk
        · cases hc
      · cases hc
    · cases hc
  case buildSlice t len parts => exact snd_slices ho hc hr he hk
  case load t x =>
    unfold compLoad at hc
    split at hc
    · rename_i n a x' ht hx
      injection hc with hc
      subst hc
      exact snd_load ho ht hx hr he hk
    · cases hc
  case store t x v =>
    unfold compStore at hc
    split at hc
    · rename_i i x' v' hi hx hv
      injection hc with hc
      subst hc
      exact snd_store ho hi hx hv hr he hk
    · cases hc
  case binOp op t x y t' => exact snd_binop ho hc hr he hk
  case convert a b x =>
    unfold compConv at hc
    split at hc
    · rename_i da j x' ha hb hx
      injection hc with hc
      subst hc
      unfold hasInt at hb
      split at hb
      · rename_i j' hu
        injection hb with hb
        subst hb
        exact snd_conv ho ha hu hx hr he hk
      · cases hb
    · cases hc
  case fieldAddr t x i =>
    unfold compFaddr at hc
    split at hc
    · rename_i fs x' hu hx
      split at hc
      · rename_i f hf
        split at hc
        · rename_i ti hti
          split at hc
          · cases hc
          · rename_i hz
            injection hc with hc
            subst hc
            exact snd_faddr ho hu hf hti hz hx hr he hk
        · cases hc
      · cases hc
    · cases hc
  case field t x i =>
    unfold compFld at hc
    split at hc
    · rename_i fs x' hu hx
      split at hc
      · rename_i f hf
        rw [Option.map_eq_some_iff] at hc
        obtain ⟨q, hq, rfl⟩ := hc
        exact snd_fld ho hu hf hq hx hr he hk
      · cases hc
    · cases hc
  case indexAddr t x i =>
    unfold compIaddr at hc
    split at hc <;> try (cases hc; done)
    · rename_i e x' i' hu hx hi
      rw [Option.map_eq_some_iff] at hc
      obtain ⟨ti, hti, rfl⟩ := hc
      exact snd_iaddr ho hu hti hx hi hr he hk
    · rename_i n e x' i' hu hx hi
      rw [Option.map_eq_some_iff] at hc
      obtain ⟨ti, hti, rfl⟩ := hc
      exact snd_iaddrA ho hu hti hx hi hr he hk
  case index t x i =>
    unfold compIdx at hc
    split at hc <;> try (cases hc; done)
    · rename_i x' i' hu hx hi
      injection hc with hc
      subst hc
      exact snd_idx ho hu hx hi hr he hk
    · rename_i n e x' i' hu hx hi
      split at hc
      · rename_i ti q hti hq
        injection hc with hc
        subst hc
        exact snd_idxA ho hu hti hq hx hi hr he hk
      · cases hc
  case makeSlice t l c => exact snd_make ho hc hr he hk
  case slice t x lo hi mx =>
    unfold compSl at hc
    cases mx with
    | some m =>
      simp only at hc
      split at hc
      · rename_i j j' hh hm
        have hm := zeroOp_inv hm
        subst hm
        cases hi with
        | none => cases hh
        | some h =>
          have hh := zeroOp_inv (show zeroOp h = some j from hh)
          subst hh
          unfold compSlz at hc
          split at hc
          · rename_i d' e i x' hs hx
            injection hc with hc
            subst hc
            obtain ⟨h1, h2⟩ := sliceElem_sound hs
            exact snd_slz ho rfl h1 h2 hx hr he hk
          · cases hc
      · cases hc
    | none =>
      simp only at hc
      unfold compSlc at hc
      split at hc <;> try (cases hc; done)
      · rename_i e x' lo' hi' hu hx hlo hhi
        rw [Option.map_eq_some_iff] at hc
        obtain ⟨ti, hti, rfl⟩ := hc
        exact snd_slc ho hu hti hx hlo hhi hr he hk
      · rename_i x' lo' hi' hu hx hlo hhi
        injection hc with hc
        subst hc
        exact snd_sls ho hu hx hlo hhi hr he hk
  case makeMap t r =>
    unfold compMkmap at hc
    split at hc
    · injection hc with hc
      subst hc
      exact snd_mkmap ho (.inl rfl) hr he hk
    · split at hc
      · rename_i a b hu
        injection hc with hc
        subst hc
        exact snd_mkmap ho (.inr ⟨⟨_, _, rfl⟩, _, _, hu⟩) hr he hk
      · cases hc
    · cases hc
  case lookup t m x ok =>
    unfold compLook at hc
    split at hc
    · rename_i kd e m' x' hkd hm hx
      obtain ⟨kt, hu, hk'⟩ := mapKd_sound hkd
      split at hc
      · rename_i i hi
        split at hc
        · rename_i z hz
          rw [Option.map_eq_some_iff] at hc
          obtain ⟨zv, hzv, rfl⟩ := hc
          exact snd_look ho hu hk' hi hz (zV_R hzv) hm hx hr he hk
        · cases hc
      · cases hc
    · cases hc
  case mapUpdate t m x v =>
    unfold compMput at hc
    split at hc
    · rename_i kd e m' x' v' hkd hm hx hv
      injection hc with hc
      subst hc
      obtain ⟨kt, hu, hk'⟩ := mapKd_sound hkd
      exact snd_mput (.inl ho) hu hk' hm hx hv hr he hk
    · cases hc
  case insert t m x v =>
    unfold compMput at hc
    split at hc
    · rename_i kd e m' x' v' hkd hm hx hv
      injection hc with hc
      subst hc
      obtain ⟨kt, hu, hk'⟩ := mapKd_sound hkd
      exact snd_mput (.inr ho) hu hk' hm hx hv hr he hk
    · cases hc
  case makeFunc fn first xs =>
    cases fn <;> try (cases hc; done)
    rename_i f
    simp only at hc
    split at hc
    · rename_i h0
      rw [Option.map_eq_some_iff] at hc
      obtain ⟨ys, hys, rfl⟩ := hc
      have : first = #[] := Array.eq_empty_of_size_eq_zero h0
      subst this
      exact snd_mkfn ho hys hr he hk
    · cases hc
  case call c =>
    obtain ⟨callee, args, ts⟩ := c
    simp only at hc
    cases callee with
    | value f => exact snd_call ho hc hr he hk
    | invoke r m => cases hc
    | builtin b => exact snd_builtin ho hc hr he hk

end
end Go.Abs
