/-
  The abstract meaning of the operations on maps is the model's. No condition.
-/
import Derived.Test.YtlckjdhammcpaaaDoorSndI
set_option linter.unusedVariables false
set_option linter.unusedSimpArgs false
namespace Go.Abs
section
variable {P : Program} {k : Res} {w : World} {O : Nat → Prop} {ρ : Nat → Loc} {s : St} {η : Operand → Value} {o : Oper}

def mpos (key : V) : List (V × V) → Option Nat
  | [] => none
  | e :: r => bif (keyEq key e.1).getD false then some 0 else (mpos key r).map (· + 1)

theorem mfind_pos (key : V) : ∀ es : List (V × V), mfind key es = (mpos key es).bind fun i => (es[i]?).map (·.2)
  | [] => rfl
  | e :: r => by
    simp only [mfind, mpos]
    cases (keyEq key e.1).getD false with
    | true => simp
    | false =>
      simp only [cond_false, mfind_pos key r]
      cases mpos key r <;> simp
theorem mset_pos (key v : V) : ∀ es : List (V × V), mset key v es = match mpos key es with | some i => es.set i (key, v) | none => es ++ [(key, v)]
  | [] => rfl
  | e :: r => by
    simp only [mset, mpos]
    cases (keyEq key e.1).getD false with
    | true => simp
    | false =>
      simp only [cond_false, mset_pos key v r]
      cases mpos key r <;> simp
theorem mrem_pos (key : V) : ∀ es : List (V × V), mrem key es = match mpos key es with | some i => es.eraseIdx i | none => es
  | [] => rfl
  | e :: r => by
    simp only [mrem, mpos]
    cases (keyEq key e.1).getD false with
    | true => simp
    | false =>
      simp only [cond_false, mrem_pos key r]
      cases mpos key r <;> simp
theorem mpos_lt (key : V) : ∀ (es : List (V × V)) (i : Nat), mpos key es = some i → i < es.length
  | [], i, h => by simp [mpos] at h
  | e :: r, i, h => by
    simp only [mpos] at h
    cases hb : (keyEq key e.1).getD false with
    | true => rw [hb] at h; simp at h; subst h; simp
    | false =>
      rw [hb] at h
      simp only [cond_false, Option.map_eq_some_iff] at h
      obtain ⟨j, hj, rfl⟩ := h
      have := mpos_lt key r j hj
      simp; omega

/-- The type of a map's keys. -/
def KdOf (P : Program) (kt : TypeId) (kd : Nat) : Prop := (kd = 0 ∧ ∃ j, P.underlying kt = some (.int j)) ∨ (kd = 1 ∧ P.underlying kt = some .string) ∨ (kd = 2 ∧ P.underlying kt = some .bool)

def descOk (kd : Nat) (d : TypeDesc) : Prop := (kd = 0 ∧ ∃ j, d = .int j) ∨ (kd = 1 ∧ d = .string) ∨ (kd = 2 ∧ d = .bool)

theorem KdOf.desc {kt : TypeId} {kd : Nat} (h : KdOf P kt kd) : ∃ d, P.underlying kt = some d ∧ descOk kd d := by
  rcases h with ⟨rfl, j, hj⟩ | ⟨rfl, hj⟩ | ⟨rfl, hj⟩
  · exact ⟨_, hj, .inl ⟨rfl, j, rfl⟩⟩
  · exact ⟨_, hj, .inr (.inl ⟨rfl, rfl⟩)⟩
  · exact ⟨_, hj, .inr (.inr ⟨rfl, rfl⟩)⟩

theorem beq_bytes (a b : List UInt8) : ((⟨⟨a⟩⟩ : ByteArray) == ⟨⟨b⟩⟩) = decide (a = b) := by
  rw [beq_toListBytes]; exact str_eq_dec a b

theorem sameNow_eq {E : Env} {kd : Nat} {d : TypeDesc} {key key' : V} {v v' : Value} {b : Bool} (hd : descOk kd d) (hk : keyV kd key = true) (h : keyEq key key' = some b) (hR : R E key v) (hR' : R E key' v') :
    Instr.sameNow d v v' = some b ∧ (b = true → Instr.sameBits 10000 v' v = true) := by
  unfold keyEq at h
  split at h
  · rename_i j a j' a'
    by_cases hj : j = j'
    · subst hj
      simp at h
      rw [hR.int_inv, hR'.int_inv]
      rcases hd with ⟨rfl, i, rfl⟩ | ⟨rfl, rfl⟩ | ⟨rfl, rfl⟩
      · subst h
        refine ⟨by simp [Instr.sameNow, dec_eq], fun h => ?_⟩
        simp at h
        simp [Instr.sameBits, h]
      · simp [keyV] at hk
      · simp [keyV] at hk
    · simp [hj] at h
  · injection h with h
    rw [hR.str_inv, hR'.str_inv]
    rcases hd with ⟨rfl, i, rfl⟩ | ⟨rfl, rfl⟩ | ⟨rfl, rfl⟩
    · simp [keyV] at hk
    · subst h
      refine ⟨by simp only [Instr.sameNow, beq_bytes], fun h => ?_⟩
      simp at h
      subst h
      simp only [Instr.sameBits, beq_bytes]
      simp
    · simp [keyV] at hk
  · injection h with h
    rw [hR.bool_inv, hR'.bool_inv]
    rcases hd with ⟨rfl, i, rfl⟩ | ⟨rfl, rfl⟩ | ⟨rfl, rfl⟩
    · simp [keyV] at hk
    · simp [keyV] at hk
    · subst h
      refine ⟨by simp only [Instr.sameNow, bool_eq_dec], fun h => ?_⟩
      simp at h
      subst h
      simp [Instr.sameBits]
  · cases h

theorem findNow_eq {E : Env} {kd : Nat} {d : TypeDesc} {key : V} {v : Value} (hd : descOk kd d) (hk : keyV kd key = true) (hR : R E key v) : ∀ (es : List (V × V)) (ms : List MapEntry) (i : Nat), ms.length = es.length → keyOK key es →
    (∀ (i : Nat) p m, es[i]? = some p → ms[i]? = some m → R E p.1 m.key) →
    Instr.findNow d v ms i = some ((mpos key es).bind fun j => (ms[j]?).map fun m => (i + j, m.val))
  | [], [], i, _, _, _ => rfl
  | [], _ :: _, _, h, _, _ => by simp at h
  | _ :: _, [], _, h, _, _ => by simp at h
  | e :: r, m :: ms, i, hl, hok, hRk => by
    obtain ⟨h1, h2⟩ := hok
    obtain ⟨b, hb⟩ := Option.isSome_iff_exists.1 h1
    have hs := (sameNow_eq hd hk hb hR (hRk 0 e m rfl rfl)).1
    simp only [Instr.findNow, hs, mpos, hb, Option.getD_some]
    cases b with
    | true => simp
    | false =>
      simp only [cond_false]
      rw [findNow_eq hd hk hR r ms (i + 1) (by simpa using hl) h2 (fun j p m' hp hm => hRk (j + 1) p m' (by simpa using hp) (by simpa using hm))]
      cases mpos key r <;> simp [Nat.add_assoc, Nat.add_comm 1]

theorem run_checkKey {kt : TypeId} {kd : Nat} (hd : KdOf P kt kd) (e : Bool) (v : Value) (w : World) : (Instr.checkKey e 10000 kt v).run P w = .ok () w := by
  obtain ⟨d, hu, hd⟩ := hd.desc
  have : ∀ n, (Instr.checkKey e (n + 1) kt v).run P w = .ok () w := by
    intro n
    rcases hd with ⟨_, j, rfl⟩ | ⟨_, rfl⟩ | ⟨_, rfl⟩ <;> simp [Instr.checkKey, run_underlying hu]
  exact this 9999

theorem run_findKey {E : Env} {kt : TypeId} {kd : Nat} {key : V} {v : Value} (hd : KdOf P kt kd) (hk : keyV kd key = true) (hR : R E key v) {es : List (V × V)} {ms : Array MapEntry} (hl : ms.size = es.length) (hok : keyOK key es)
    (hRk : ∀ (i : Nat) p m, es[i]? = some p → ms[i]? = some m → R E p.1 m.key) (w : World) : (Instr.findKey kt v ms.toList).run P w = .ok ((mpos key es).bind fun j => (ms[j]?).map fun m => (j, m.val)) w := by
  obtain ⟨d, hu, hd⟩ := hd.desc
  have h := findNow_eq hd hk hR es ms.toList 0 (by simpa using hl) hok (fun i p m hp hm => hRk i p m hp (by simpa using hm))
  simp only [Instr.findKey, Sem.run_bind, run_underlying hu, Result.andThen_ok, h]
  simp

theorem getObj_map {r : Nat} {es : Array MapEntry} {c : Nat} (h : w.heap[r]? = some (.map es c)) : (getObj r).run P w = .ok (.map es c) w := by
  simp [getObj, Sem.run, h]
theorem setObj_map {r : Nat} {es : Array MapEntry} {c : Nat} (o : Obj) (h : w.heap[r]? = some (.map es c)) : (setObj r o).run P w = .ok () { w with heap := w.heap.setIfInBounds r o } := by
  simp [setObj, Sem.run, h]

theorem snd_mkmap {t : TypeId} {nm : Nat} {x : Option Operand} (ho : o.op = .makeMap t x) (hx : x = none ∨ (∃ j z, x = some (.const (.int j z))) ∧ ∃ a b, P.underlying t = some (.map a b))
    (hr : HeapR w O ρ s.n s.h) (he : EvR (envOf w O ρ s.n s.h) s η) (hk : stepO P (.mkmap nm) s k) : Done P k w O ρ s.h s.n ((execOp η o).run P w) := by
  have hrun : (execOp η o).run P w = .ok (.value (.map (some w.heap.size))) (w.alloc (.map #[] 0)) := by
    rcases hx with rfl | ⟨⟨j, z, rfl⟩, a, b, hu⟩
    · simp [execOp, ho, Instr.makeMap]
    · simp [execOp, ho, Instr.makeMap, run_underlying hu, he.2.1, asInt, asIntOf]
  rw [hrun]
  let ρ' : Nat → Loc := fun st => if st = s.n then ⟨w.heap.size, 0, 0, 1⟩ else ρ st
  have hn : ρ' s.n = ⟨w.heap.size, 0, 0, 1⟩ := by simp [ρ']
  obtain ⟨a1, a2⟩ := HeapR.step (w' := w.alloc (.map #[] 0)) (ρ' := ρ') (n' := s.n + 1) (b := nm) (st := s.n) (x := .map []) hr (Nat.le_succ _) (fun st hst => by simp [ρ', Nat.ne_of_lt hst]) (Nat.lt_succ_self _) (Wd.alloc _ _)
    (fun y hy _ => heap_alloc_lt _ _ _ hy) (by rw [hn]; exact .inr (.inl (Nat.le_refl _)))
    (fun _ => ⟨by simp [hn], #[], 0, by simp only [hn]; exact heap_alloc_new w _, rfl, by simp, by simp⟩)
  refine ⟨_, _, _, ρ', hk, a1, ?_, a2⟩
  have := R.mp (E := envOf (w.alloc (.map #[] 0)) O ρ' (s.n + 1) (Heap.put s.h nm s.n (.map []))) nm s.n (Nat.lt_succ_self _)
  simpa [hn] using this

theorem snd_look {m x : Operand} {m' x' : Opd} {t kt et : TypeId} {kd : Nat} {ok : Bool} {z : V} {ti : TypeInfo} {zv : Value} (ho : o.op = .lookup t m x ok) (ht : P.underlying t = some (.map kt et)) (hkd : KdOf P kt kd)
    (hi : P.info? et = some ti) (hz : ti.zero = some zv) (hzR : ∀ E : Env, R E z zv) (hm : compX m = some m') (hx : compX x = some x')
    (hr : HeapR w O ρ s.n s.h) (he : EvR (envOf w O ρ s.n s.h) s η) (hk : stepO P (.look kd z ok m' x') s k) : Done P k w O ρ s.h s.n ((execOp η o).run P w) := by
  have hm := he.ev hm
  have hx := he.ev hx
  simp only [stepO] at hk
  generalize s.ev m' = vm at *
  generalize s.ev x' = vx at *
  have res : ∀ (r : Option V) (rv : Option Value), (∀ v, r = some v → ∃ u, rv = some u ∧ R (envOf w O ρ s.n s.h) v u) → (r = none → rv = none) →
      R (envOf w O ρ s.n s.h) (lookV z ok r) (if ok then .tuple #[rv.getD zv, .bool rv.isSome] else rv.getD zv) := by
    intro r rv h1 h2
    have pair : ∀ (a : V) (u : Value) (b : Bool), R (envOf w O ρ s.n s.h) a u → R (envOf w O ρ s.n s.h) (.tup [a, .bool b]) (.tuple #[u, .bool b]) := by
      intro a u b h
      refine .tup _ _ rfl fun i c v hc hv => ?_
      match i with
      | 0 => simp at hc hv; subst hc; subst hv; exact h
      | 1 => simp at hc hv; subst hc; subst hv; exact .bool _
      | i + 2 => simp at hc
    cases r with
    | none =>
      rw [h2 rfl]
      cases ok
      · exact hzR _
      · exact pair _ _ _ (hzR _)
    | some v =>
      obtain ⟨u, rfl, hu⟩ := h1 v rfl
      cases ok
      · exact hu
      · exact pair _ _ _ hu
  unfold lookK at hk
  split at hk
  · obtain ⟨hkey, hk⟩ := hk
    have hfind := run_findKey (E := envOf w O ρ s.n s.h) hkd hkey hx (es := []) (ms := #[]) rfl trivial (by simp) w
    simp [mpos] at hfind
    have hrun : (execOp η o).run P w = .ok (.value (if ok then .tuple #[zv, .bool false] else zv)) w := by
      simp [execOp, ho, Instr.lookup, run_underlying ht, hm.nilm_inv, run_checkKey hkd, hfind, zeroValue, typeInfo, hi, hz]
    rw [hrun]
    exact Done.val hr hk (res none none (by simp) (by simp))
  · rename_i b st
    split at hk
    · rename_i es hg
      obtain ⟨hkey, hok, hk⟩ := hk
      obtain ⟨mes, clock, hmes, hl, hR, _⟩ := mp_blk hr hg
      have hfind := run_findKey hkd hkey hx hl hok (fun i p m hp hm => (hR i p m hp hm).1) w
      have hmv : η m = .map (some (ρ st).blk) := hm.mp_inv.2
      have hrun : (execOp η o).run P w = .ok (.value (if ok then .tuple #[(((mpos vx es).bind fun j => (mes[j]?).map fun m => m.val)).getD zv, .bool (((mpos vx es).bind fun j => (mes[j]?).map fun m => m.val)).isSome] else (((mpos vx es).bind fun j => (mes[j]?).map fun m => m.val)).getD zv)) w := by
        simp only [execOp, ho, Instr.lookup, Sem.run_bind, run_underlying ht, Result.andThen_ok, hmv, getObj_map hmes, run_checkKey hkd, Sem.run_pure, hfind]
        cases hp : (mpos vx es).bind fun j => (mes[j]?).map fun m => (j, m.val) with
        | none =>
          have hp' : (mpos vx es).bind (fun j => (mes[j]?).map fun m => m.val) = none := by
            cases hq : mpos vx es with
            | none => rfl
            | some j => rw [hq] at hp; simp at hp ⊢; exact hp
          simp [hp', zeroValue, typeInfo, hi, hz]
        | some q =>
          have hp' : (mpos vx es).bind (fun j => (mes[j]?).map fun m => m.val) = some q.2 := by
            cases hq : mpos vx es with
            | none => rw [hq] at hp; cases hp
            | some j =>
              rw [hq] at hp
              simp only [Option.bind_some, Option.map_eq_some_iff] at hp ⊢
              obtain ⟨m0, hm0, rfl⟩ := hp
              exact ⟨m0, hm0, rfl⟩
          simp [hp']
      rw [hrun]
      refine Done.val hr hk (res _ _ (fun v hv => ?_) fun hv => ?_)
      · rw [mfind_pos] at hv
        cases hq : mpos vx es with
        | none => rw [hq] at hv; cases hv
        | some j =>
          rw [hq] at hv
          simp only [Option.bind_some, Option.map_eq_some_iff] at hv
          obtain ⟨p, hp, rfl⟩ := hv
          have hlt : j < mes.size := by have := (List.getElem?_eq_some_iff.1 hp).1; omega
          exact ⟨mes[j].val, by simp [hlt], (hR j p mes[j] hp (by simp [hlt])).2.1⟩
      · rw [mfind_pos] at hv
        cases hq : mpos vx es with
        | none => rfl
        | some j =>
          rw [hq] at hv
          have hlt := mpos_lt _ _ _ hq
          simp [hlt] at hv
    · exact hk.elim
  · exact hk.elim

/-- A map's block is turned. -/
theorem HeapR.mapSet {h : Heap} {n : Nat} (hr : HeapR w O ρ n h) {b st : Nat} {es es' : List (V × V)} {mes mes' : Array MapEntry} {c c' : Nat} (hg : Heap.get h b st = some (.map es)) (hm : w.heap[(ρ st).blk]? = some (.map mes c))
    (hl : mes'.size = es'.length) (hR : ∀ (i : Nat) p m, es'[i]? = some p → mes'[i]? = some m → R (envOf w O ρ n h) p.1 m.key ∧ R (envOf w O ρ n h) p.2 m.val ∧ m.born < c')
    (hinj : ∀ (i j : Nat) m m', mes'[i]? = some m → mes'[j]? = some m' → m.born = m'.born → i = j) :
    HeapR { w with heap := w.heap.setIfInBounds (ρ st).blk (.map mes' c') } O ρ n (Heap.put h b st (.map es')) ∧
      Ext (envOf w O ρ n h) (envOf { w with heap := w.heap.setIfInBounds (ρ st).blk (.map mes' c') } O ρ n (Heap.put h b st (.map es'))) := by
  have hmem := Heap.mem_of_get hg
  have hc := (hr.blk _ hmem).1
  have hlt := (Array.getElem?_eq_some_iff.1 hm).1
  refine HeapR.step hr (Nat.le_refl _) (fun _ _ => rfl) (hr.lt _ hmem) (Wd.setObj _ _ _) (fun y hy hyb => ?_) (.inr (.inr ⟨_, hmem, rfl, hc, rfl⟩)) ?_
  · simp only [Array.getElem?_setIfInBounds]
    rw [if_neg fun e => hc (hyb e.symm)]
  · intro hx
    exact ⟨hc, mes', c', by simp [hlt], hl, fun i p m hp hm => ⟨(hR i p m hp hm).1.mono hx, (hR i p m hp hm).2.1.mono hx, (hR i p m hp hm).2.2⟩, hinj⟩

theorem snd_mput {m x v : Operand} {m' x' v' : Opd} {t kt et : TypeId} {kd : Nat} (ho : o.op = .mapUpdate t m x v ∨ o.op = .insert t m x v) (ht : P.underlying t = some (.map kt et)) (hkd : KdOf P kt kd)
    (hm : compX m = some m') (hx : compX x = some x') (hv : compX v = some v')
    (hr : HeapR w O ρ s.n s.h) (he : EvR (envOf w O ρ s.n s.h) s η) (hk : stepO P (.mput kd m' x' v') s k) : Done P k w O ρ s.h s.n ((execOp η o).run P w) := by
  have hm := he.ev hm
  have hx := he.ev hx
  have hv := he.ev hv
  simp only [stepO] at hk
  generalize s.ev m' = vm at *
  generalize s.ev x' = vx at *
  generalize s.ev v' = vv at *
  unfold mputK at hk
  split at hk
  · rename_i b st
    split at hk
    · rename_i es hg
      obtain ⟨hkey, hok, hk⟩ := hk
      obtain ⟨mes, clock, hmes, hl, hR, hinj⟩ := mp_blk hr hg
      have hfind := run_findKey hkd hkey hx hl hok (fun i p m hp hm => (hR i p m hp hm).1) w
      have hmv : η m = .map (some (ρ st).blk) := hm.mp_inv.2
      have start : ∀ w', (Instr.mapUpdate t (η m) (η x) (η v)).run P w = .ok () w' → (execOp η o).run P w = .ok .skip w' := by
        intro w' h
        rcases ho with ho | ho <;> simp [execOp, ho, h]
      rw [mset_pos] at hk
      cases hq : mpos vx es with
      | none =>
        rw [hq] at hk hfind
        have hrun : (Instr.mapUpdate t (η m) (η x) (η v)).run P w = .ok () { w with heap := w.heap.setIfInBounds (ρ st).blk (.map (mes.push { key := η x, val := η v, born := clock }) (clock + 1)) } := by
          simp only [Option.bind_none] at hfind
          simp only [Instr.mapUpdate, Sem.run_bind, run_underlying ht, Result.andThen_ok, hmv, getObj_map hmes, run_checkKey hkd, hfind, setObj_map _ hmes]
        rw [start _ hrun]
        obtain ⟨a1, a2⟩ := hr.mapSet (es' := es ++ [(vx, vv)]) (mes' := mes.push { key := η x, val := η v, born := clock }) (c' := clock + 1) hg hmes (by simp [hl])
          (fun i p m0 hp hm0 => by
            rw [Array.getElem?_push] at hm0
            split at hm0
            · rename_i hi
              injection hm0 with hm0
              subst hm0
              rw [hi, hl] at hp
              simp at hp
              subst hp
              exact ⟨hx, hv, Nat.lt_succ_self _⟩
            · have hlt := (Array.getElem?_eq_some_iff.1 hm0).1
              rw [List.getElem?_append_left (by omega)] at hp
              obtain ⟨h1, h2, h3⟩ := hR i p m0 hp hm0
              exact ⟨h1, h2, by omega⟩)
          (fun i j m0 m1 h0 h1 hb => by
            have born : ∀ (q : Nat) mm, mes[q]? = some mm → mm.born < clock := fun q mm hmm => by
              have hlt := (Array.getElem?_eq_some_iff.1 hmm).1
              exact (hR q es[q] mm (by simp [← hl, hlt]) hmm).2.2
            rw [Array.getElem?_push] at h0 h1
            split at h0 <;> split at h1
            · omega
            · injection h0 with h0; subst h0
              have := born j m1 h1
              simp at hb; omega
            · injection h1 with h1; subst h1
              have := born i m0 h0
              simp at hb; omega
            · exact hinj i j m0 m1 h0 h1 hb)
        exact ⟨_, _, _, ρ, hk, a1, .undef _, a2⟩
      | some i =>
        rw [hq] at hk hfind
        have hi := mpos_lt _ _ _ hq
        have him : i < mes.size := by omega
        have hgm : mes[i]? = some mes[i] := by simp [him]
        have hstay : Instr.sameBits 10000 mes[i].key (η x) = true := by
          have : ∀ (es : List (V × V)) (i : Nat), mpos vx es = some i → keyOK vx es → ∃ p, es[i]? = some p ∧ keyEq vx p.1 = some true := by
            intro es
            induction es with
            | nil => intro i h; simp [mpos] at h
            | cons e r ih =>
              intro i h hok
              simp only [mpos] at h
              obtain ⟨b, hb⟩ := Option.isSome_iff_exists.1 hok.1
              rw [hb] at h
              cases b with
              | true => simp at h; subst h; exact ⟨e, rfl, hb⟩
              | false =>
                simp only [Option.getD_some, cond_false, Option.map_eq_some_iff] at h
                obtain ⟨j, hj, rfl⟩ := h
                obtain ⟨p, hp, hpe⟩ := ih j hj hok.2
                exact ⟨p, by simpa using hp, hpe⟩
          obtain ⟨p, hp, hpe⟩ := this es i hq hok
          obtain ⟨d, _, hd⟩ := hkd.desc
          exact (sameNow_eq hd hkey hpe hx (hR i p mes[i] hp hgm).1).2 rfl
        have hrun : (Instr.mapUpdate t (η m) (η x) (η v)).run P w = .ok () { w with heap := w.heap.setIfInBounds (ρ st).blk (.map (mes.modify i fun e => { e with key := η x, val := η v }) clock) } := by
          simp only [Option.bind_some, hgm, Option.map_some] at hfind
          simp only [Instr.mapUpdate, Sem.run_bind, run_underlying ht, Result.andThen_ok, hmv, getObj_map hmes, run_checkKey hkd, hfind, hgm, Option.map_some, Option.getD_some, Instr.keyThatStays, hstay, if_true, Sem.run_pure, setObj_map _ hmes]
        rw [start _ hrun]
        obtain ⟨a1, a2⟩ := hr.mapSet (es' := es.set i (vx, vv)) (mes' := mes.modify i fun e => { e with key := η x, val := η v }) (c' := clock) hg hmes (by simp [hl])
          (fun i' p m0 hp hm0 => by
            rw [Array.getElem?_modify] at hm0
            by_cases hii : i = i'
            · subst hii
              rw [if_pos rfl, hgm] at hm0
              simp at hm0
              subst hm0
              simp [hi] at hp
              subst hp
              exact ⟨hx, hv, (hR i es[i] mes[i] (by simp [hi]) hgm).2.2⟩
            · rw [if_neg hii] at hm0
              rw [List.getElem?_set_ne hii] at hp
              exact hR i' p m0 hp hm0)
          (fun i' j m0 m1 h0 h1 hb => by
            have old : ∀ (q : Nat) mm, (mes.modify i fun e => { e with key := η x, val := η v })[q]? = some mm → ∃ m2, mes[q]? = some m2 ∧ m2.born = mm.born := by
              intro q mm hmm
              rw [Array.getElem?_modify] at hmm
              split at hmm
              · simp only [Option.map_eq_some_iff] at hmm
                obtain ⟨m2, h2, rfl⟩ := hmm
                exact ⟨m2, h2, rfl⟩
              · exact ⟨mm, hmm, rfl⟩
            obtain ⟨m2, h2, e2⟩ := old i' m0 h0
            obtain ⟨m3, h3, e3⟩ := old j m1 h1
            exact hinj i' j m2 m3 h2 h3 (by rw [e2, e3, hb]))
        exact ⟨_, _, _, ρ, hk, a1, .undef _, a2⟩
    · exact hk.elim
  · exact hk.elim

theorem snd_mdel {m x : Operand} {m' x' : Opd} {t kt et : TypeId} {kd : Nat} {ts : Array TypeId} (ho : o.op = .call { callee := .builtin .delete, args := #[m, x], argTypes := ts }) (hts : ts[0]? = some t) (ht : P.underlying t = some (.map kt et)) (hkd : KdOf P kt kd)
    (hm : compX m = some m') (hx : compX x = some x')
    (hr : HeapR w O ρ s.n s.h) (he : EvR (envOf w O ρ s.n s.h) s η) (hk : stepO P (.mdel kd m' x') s k) : Done P k w O ρ s.h s.n ((execOp η o).run P w) := by
  have hm := he.ev hm
  have hx := he.ev hx
  simp only [stepO] at hk
  generalize s.ev m' = vm at *
  generalize s.ev x' = vx at *
  have start : ∀ w', (Builtin.delete_ ts o.type #[η m, η x]).run P w = .ok (.tuple #[]) w' → (execOp η o).run P w = .ok (.value (.tuple #[])) w' := by
    intro w' h
    simp [execOp, ho, resolve, invoke, builtin, h]
  have unit : ∀ E : Env, R E (.tup []) (.tuple #[]) := fun E => .tup _ _ rfl (by simp)
  unfold mdelK at hk
  split at hk
  · obtain ⟨hkey, hk⟩ := hk
    rw [start w (by simp [Builtin.delete_, hts, run_underlying ht, hm.nilm_inv, run_checkKey hkd])]
    exact Done.val hr hk (unit _)
  · rename_i b st
    split at hk
    · rename_i es hg
      obtain ⟨hkey, hok, hk⟩ := hk
      obtain ⟨mes, clock, hmes, hl, hR, hinj⟩ := mp_blk hr hg
      have hfind := run_findKey hkd hkey hx hl hok (fun i p m hp hm => (hR i p m hp hm).1) w
      have hmv : η m = .map (some (ρ st).blk) := hm.mp_inv.2
      rw [mrem_pos] at hk
      cases hq : mpos vx es with
      | none =>
        rw [hq] at hk hfind
        simp only [Option.bind_none] at hfind
        rw [start { w with heap := w.heap.setIfInBounds (ρ st).blk (.map mes clock) } (by simp [Builtin.delete_, hts, run_underlying ht, hmv, getObj_map hmes, run_checkKey hkd, hfind, setObj_map _ hmes])]
        obtain ⟨a1, a2⟩ := hr.mapSet (es' := es) (mes' := mes) (c' := clock) hg hmes hl hR hinj
        exact ⟨_, _, _, ρ, hk, a1, unit _, a2⟩
      | some i =>
        rw [hq] at hk hfind
        have hi := mpos_lt _ _ _ hq
        have him : i < mes.size := by omega
        have hgm : mes[i]? = some mes[i] := by simp [him]
        simp only [Option.bind_some, hgm, Option.map_some] at hfind
        rw [start { w with heap := w.heap.setIfInBounds (ρ st).blk (.map (mes.eraseIdxIfInBounds i) clock) } (by simp [Builtin.delete_, hts, run_underlying ht, hmv, getObj_map hmes, run_checkKey hkd, hfind, setObj_map _ hmes])]
        have her : (mes.eraseIdxIfInBounds i).toList = mes.toList.eraseIdx i := by simp
        have get : ∀ (q : Nat) mm, (mes.eraseIdxIfInBounds i)[q]? = some mm → mes[if q < i then q else q + 1]? = some mm := by
          intro q mm hmm
          rw [← Array.getElem?_toList, her, List.getElem?_eraseIdx] at hmm
          split at hmm
          · rename_i hq'; rw [if_pos hq']; simpa using hmm
          · rename_i hq'; rw [if_neg hq']; simpa using hmm
        obtain ⟨a1, a2⟩ := hr.mapSet (es' := es.eraseIdx i) (mes' := mes.eraseIdxIfInBounds i) (c' := clock) hg hmes (by rw [← Array.length_toList, her]; simp [List.length_eraseIdx, hl])
          (fun q p m0 hp hm0 => by
            have h1 := get q m0 hm0
            rw [List.getElem?_eraseIdx] at hp
            refine hR (if q < i then q else q + 1) p m0 ?_ h1
            split at hp
            · rename_i hq'; rw [if_pos hq']; exact hp
            · rename_i hq'; rw [if_neg hq']; exact hp)
          (fun q j m0 m1 h0 h1 hb => by
            have := hinj _ _ m0 m1 (get q m0 h0) (get j m1 h1) hb
            split at this <;> split at this <;> omega)
        exact ⟨_, _, _, ρ, hk, a1, unit _, a2⟩
    · exact hk.elim
  · exact hk.elim

end
end Go.Abs
