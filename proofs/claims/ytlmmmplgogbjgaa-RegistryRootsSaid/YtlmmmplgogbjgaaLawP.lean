/-
  Registry: the law of any calls; what is kept after calls. No condition.
-/
import Derived.Test.YtlmmmplgogbjgaaMade
import Derived.Test.YtlmmmplgogbjgaaRoots
import Derived.Test.YtlmmmplgogbjgaaLaw1
set_option linter.unusedVariables false
set_option linter.unusedSimpArgs false
set_option maxRecDepth 100000
set_option maxHeartbeats 0
namespace Go.Proofs.Ytlmmmplgogbjgaa
open Go.Abs
attribute [local irreducible] CallS Run
-- EV: RegH, RefH, nO, nM, nV, nF, nL, rO, rL, rF, rN, Val.v, Val.row, irow, prow, Val.none

theorem ints_same (l : List Int) (hB : l.length ≤ 1000000) : Pure Try.prog 27 [.isl (l.map zrw), .isl (l.map zrw)] (.bool true) := by
  refine Pure.of 0 (CallS.enter scriptinglaw18_ints_ok (Nat.le_of_ble_eq_true rfl) ?_)
  have hl : (l.map zrw).length = l.length := List.length_map ..
  have hr : ∀ (k : Nat) (x : Int), l[k]? = some x → (l.map zrw)[k]? = some [.int .i64 x] := fun k x h => by rw [List.getElem?_map, h]; rfl
  have hz := rowszZ l
  generalize l.map zrw = L at *
  refine Run.go 100 ?_
  have e2 : ((l.length : Int) = (l.length : Int)) = True := eq_true rfl
  simp -implicitDefEqProofs only [go_sem, RegH, RefH, nO, nM, nV, nF, nL, rO, rL, rF, rN, Val.v, Val.row, irow, prow, Val.none, initSl, hl, e2]
  refine Run.rounds (fun (k : Nat) => ⟨[(5, .int .i64 k), (1, .isl L), (0, .isl L)], [], 0⟩) (fun k => k ≤ l.length) (fun k => l.length - k) 0 (by first | (simp -implicitDefEqProofs only [go_sem, RegH, RefH, nO, nM, nV, nF, nL, rO, rL, rF, rN, Val.v, Val.row, irow, prow, Val.none]; done) | (simp -implicitDefEqProofs only [go_sem, RegH, RefH, nO, nM, nV, nF, nL, rO, rL, rF, rN, Val.v, Val.row, irow, prow, Val.none]; simp)) (Nat.zero_le _) ?_
  intro k hk ih
  refine Run.unf scriptinglaw18_ints_l0_eq (Run.go 100 ?_)
  by_cases c : (k : Int) < l.length
  · obtain ⟨y, hy⟩ : ∃ y, l[k]? = some y := ⟨l[k]'(by omega), by simp⟩
    have hry := hr k y hy
    have k0 : ((0 : Int) ≤ (k : Int)) = True := eq_true (by omega)
    have k1 : ((k : Int) < (l.length : Int)) = True := eq_true c
    have k2 : (k < l.length) = True := eq_true (by omega)
    simp -implicitDefEqProofs only [go_sem, RegH, RefH, nO, nM, nV, nF, nL, rO, rL, rF, rN, Val.v, Val.row, irow, prow, Val.none, hl, hry, hz, k0, k1, k2, Option.some.injEq, forall_eq']
    exact ⟨by omega, ih _ (k + 1) (by omega) (by omega) (by first | (simp -implicitDefEqProofs only [go_sem, RegH, RefH, nO, nM, nV, nF, nL, rO, rL, rF, rN, Val.v, Val.row, irow, prow, Val.none]; done) | (simp -implicitDefEqProofs only [go_sem, RegH, RefH, nO, nM, nV, nF, nL, rO, rL, rF, rN, Val.v, Val.row, irow, prow, Val.none]; simp))⟩
  · simp -implicitDefEqProofs only [go_sem, RegH, RefH, nO, nM, nV, nF, nL, rO, rL, rF, rN, Val.v, Val.row, irow, prow, Val.none, hl, c]

theorem roots_len (R : Reg) (hok : R.OK) : R.roots.length ≤ 2000 := by
  have h1 := hok.vals
  have h2 := hok.names
  have h3 : R.roots.length ≤ (idsL (R.vals ++ R.names.map (·.2))).length := Nat.le_trans (Lib.compact_length_le _) (by simp [sortZ])
  have h4 := idsL_len (R.vals ++ R.names.map (·.2))
  simp at h4
  omega

theorem ops_sub (l : List Op) : (l.map Op.row).map (fun r => r.map (V.sub lost)) = l.map Op.row := by
  rw [List.map_map]
  refine List.map_congr_left fun o _ => ?_
  simp [Op.row, Val.row, V.sub]
theorem ops_of {es : List (List V)} (h : ∀ row ∈ es, Typed Try.prog 35 row) : ∃ l : List Op, es = l.map Op.row := by
  obtain ⟨l, rfl, _⟩ := rows_map (f := Op.row) (p := fun _ => True) fun row hr => by
    obtain ⟨o, ho⟩ := op_of (h row hr)
    exact ⟨o, ho, trivial⟩
  exact ⟨l, rfl⟩
theorem shown_c (R : Reg) (so sm sv sf so2 sl sf2 sn n : Nat) (hok : R.OK) :
    CallS Try.prog 10 [.ptr nO so 0 0, .ptr rO so2 0 0] (RegH so sm sv sf R ++ RefH so2 sl sf2 sn R) n
      (fun r h' _ => r = .bool true ∧ h' = RegH so sm sv sf R ++ RefH so2 sl sf2 sn R) := by
  refine CallS.enterK scriptinglaw18_shown_ok (Nat.le_of_ble_eq_true rfl) fun Q hQ => Run.go 100 ?_
  have hi := ints_same R.roots (by have := roots_len R hok; omega)
  simp -implicitDefEqProofs only [go_sem, RegH, RefH, nO, nM, nV, nF, nL, rO, rL, rF, rN, Val.v, Val.row, irow, prow, Val.none, initSl]
  refine CallS.at [0, 1, 2, 3] [4, 5, 6, 7] (len_c R so sm sv sf _ hok) rfl rfl ?_
  rintro r h' n1 hn1 ⟨rfl, rfl⟩
  simp -implicitDefEqProofs only [go_sem, RegH, RefH, nO, nM, nV, nF, nL, rO, rL, rF, rN, Val.v, Val.row, irow, prow, Val.none]
  refine CallS.at [4, 5, 6, 7] [0, 1, 2, 3] (rlen_c R so2 sl sf2 sn _ hok) rfl rfl ?_
  rintro r h' n2 hn2 ⟨rfl, rfl⟩
  simp -implicitDefEqProofs only [go_sem, RegH, RefH, nO, nM, nV, nF, nL, rO, rL, rF, rN, Val.v, Val.row, irow, prow, Val.none]
  refine CallS.at [4, 5, 6, 7] [0, 1, 2, 3] (roots_c R so sm sv sf _ hok) rfl rfl ?_
  rintro r h' n3 hn3 ⟨rfl, rfl⟩
  simp -implicitDefEqProofs only [go_sem, RegH, RefH, nO, nM, nV, nF, nL, rO, rL, rF, rN, Val.v, Val.row, irow, prow, Val.none]
  refine CallS.at [4, 5, 6, 7] [0, 1, 2, 3] (rroots_c R so2 sl sf2 sn _ hok) rfl rfl ?_
  rintro r h' n4 hn4 ⟨rfl, rfl⟩
  simp -implicitDefEqProofs only [go_sem, RegH, RefH, nO, nM, nV, nF, nL, rO, rL, rF, rN, Val.v, Val.row, irow, prow, Val.none]
  refine CallS.pureF hi (by simp -implicitDefEqProofs only [go_sem, RegH, RefH, nO, nM, nV, nF, nL, rO, rL, rF, rN, Val.v, Val.row, irow, prow, Val.none, subZ]) ?_
  simp -implicitDefEqProofs only [go_sem, RegH, RefH, nO, nM, nV, nF, nL, rO, rL, rF, rN, Val.v, Val.row, irow, prow, Val.none]
  subst hQ
  exact .to ⟨rfl, rfl⟩ (.sub (by simp -implicitDefEqProofs only [go_sem, RegH, RefH, nO, nM, nV, nF, nL, rO, rL, rF, rN, Val.v, Val.row, irow, prow, Val.none]))

theorem plays_pure (l : List Op) (hl : l.length ≤ reachBytes) : Pure Try.prog 3 [.isl (l.map Op.row)] (.bool true) := by
  refine Pure.of 0 (CallS.enter scriptinglaw18_RegistryPlays_ok (Nat.le_of_ble_eq_true rfl) (Run.go 100 ?_))
  have hlp := large_pure l hl
  simp -implicitDefEqProofs only [go_sem, RegH, RefH, nO, nM, nV, nF, nL, rO, rL, rF, rN, Val.v, Val.row, irow, prow, Val.none, initSl]
  refine CallS.pureF hlp (by simp -implicitDefEqProofs only [go_sem, RegH, RefH, nO, nM, nV, nF, nL, rO, rL, rF, rN, Val.v, Val.row, irow, prow, Val.none, ops_sub]) ?_
  cases hlg : isLarge l with
  | true =>
    simp -implicitDefEqProofs only [go_sem, RegH, RefH, nO, nM, nV, nF, nL, rO, rL, rF, rN, Val.v, Val.row, irow, prow, Val.none]
    refine CallS.pureF lives_pure (by simp -implicitDefEqProofs only [go_sem, RegH, RefH, nO, nM, nV, nF, nL, rO, rL, rF, rN, Val.v, Val.row, irow, prow, Val.none]) ?_
    simp -implicitDefEqProofs only [go_sem, RegH, RefH, nO, nM, nV, nF, nL, rO, rL, rF, rN, Val.v, Val.row, irow, prow, Val.none]
  | false =>
    have hln := not_large hlg
    simp -implicitDefEqProofs only [go_sem, RegH, RefH, nO, nM, nV, nF, nL, rO, rL, rF, rN, Val.v, Val.row, irow, prow, Val.none]
    refine (new_c _).mono ?_
    rintro r h' n1 ⟨so, sm, sv, sf, rfl, rfl⟩
    simp -implicitDefEqProofs only [go_sem, RegH, RefH, nO, nM, nV, nF, nL, rO, rL, rF, rN, Val.v, Val.row, irow, prow, Val.none]
    refine CallS.at [] [0, 1, 2, 3] (rnew_c _) rfl rfl ?_
    rintro r h' n2 hn2 ⟨so2, sl, sf2, sn, rfl, rfl⟩
    simp -implicitDefEqProofs only [go_sem, RegH, RefH, nO, nM, nV, nF, nL, rO, rL, rF, rN, Val.v, Val.row, irow, prow, Val.none]
    refine Run.rounds (fun (x : Nat × Nat × Nat × Nat × Nat × Nat × Nat) => ⟨[(5, .int .i64 (x.1 : Int)), (4, .ptr rO so2 0 0), (3, .ptr nO so 0 0), (0, .isl (l.map Op.row))],
        RegH so sm x.2.1 x.2.2.1 (after (l.take x.1)) ++ RefH so2 x.2.2.2.1 x.2.2.2.2.1 x.2.2.2.2.2.1 (after (l.take x.1)), x.2.2.2.2.2.2⟩)
      (fun x => x.1 ≤ l.length) (fun x => l.length - x.1) (0, sv, sf, sl, sf2, sn, n2) (by first | (simp -implicitDefEqProofs only [go_sem, RegH, RefH, nO, nM, nV, nF, nL, rO, rL, rF, rN, Val.v, Val.row, irow, prow, Val.none, List.take_zero, after, List.foldl_nil]; done) | (simp -implicitDefEqProofs only [go_sem, RegH, RefH, nO, nM, nV, nF, nL, rO, rL, rF, rN, Val.v, Val.row, irow, prow, Val.none, List.take_zero, after, List.foldl_nil]; simp)) (Nat.zero_le _) ?_
    rintro ⟨i, sv, sf, sl, sf2, sn, n⟩ hi ih
    dsimp only at hi ih ⊢
    refine Run.unf scriptinglaw18_RegistryPlays_l0_eq (Run.go 100 ?_)
    simp -implicitDefEqProofs only [go_sem, RegH, RefH, nO, nM, nV, nF, nL, rO, rL, rF, rN, Val.v, Val.row, irow, prow, Val.none]
    refine ⟨fun c1 => ?_, fun c1 => ?_⟩
    · refine ⟨by omega, by omega, oprows, by omega, fun x hx => ?_⟩
      simp -implicitDefEqProofs only [go_sem, RegH, RefH, nO, nM, nV, nF, nL, rO, rL, rF, rN, Val.v, Val.row, irow, prow, Val.none, Op.row]
      refine (step_c (after (l.take i)) (after (l.take i)) so sm sv sf so2 sl sf2 sn _ x (after_ok _) (after_ok _)).mono ?_
      rintro r h' n3 ⟨b, sv1, sf1, sl1, sf3, sn1, rfl, hb, rfl⟩
      rw [hb rfl, ← after_succ hx]
      simp -implicitDefEqProofs only [go_sem, RegH, RefH, nO, nM, nV, nF, nL, rO, rL, rF, rN, Val.v, Val.row, irow, prow, Val.none]
      refine (shown_c (after (l.take (i + 1))) so sm sv1 sf1 so2 sl1 sf3 sn1 _ (after_ok _)).mono ?_
      rintro r h' n4 ⟨rfl, rfl⟩
      simp -implicitDefEqProofs only [go_sem, RegH, RefH, nO, nM, nV, nF, nL, rO, rL, rF, rN, Val.v, Val.row, irow, prow, Val.none]
      exact ⟨by omega, ih _ (i + 1, sv1, sf1, sl1, sf3, sn1, n4) (by dsimp only; omega) (by dsimp only; omega) (by first | (simp -implicitDefEqProofs only [go_sem, RegH, RefH, nO, nM, nV, nF, nL, rO, rL, rF, rN, Val.v, Val.row, irow, prow, Val.none]; done) | (simp -implicitDefEqProofs only [go_sem, RegH, RefH, nO, nM, nV, nF, nL, rO, rL, rF, rN, Val.v, Val.row, irow, prow, Val.none]; simp))⟩
    · refine CallS.pureF lives_pure (by simp -implicitDefEqProofs only [go_sem, RegH, RefH, nO, nM, nV, nF, nL, rO, rL, rF, rN, Val.v, Val.row, irow, prow, Val.none]) ?_
      simp -implicitDefEqProofs only [go_sem, RegH, RefH, nO, nM, nV, nF, nL, rO, rL, rF, rN, Val.v, Val.row, irow, prow, Val.none]

theorem registryPlays_args (es : List (List V)) (hl : es.length ≤ reachBytes) (he : ∀ row ∈ es, Typed Try.prog 35 row) : Pure Try.prog 3 [.isl es] (.bool true) := by
  obtain ⟨l, rfl⟩ := ops_of he
  exact plays_pure l (by simpa using hl)

theorem nodup_leI : ∀ (l r : List Int), l.Nodup → (∀ x ∈ l, x ∈ r) → l.length ≤ r.length
  | [], _, _, _ => Nat.zero_le _
  | x :: l, r, hn, hs => by
    obtain ⟨h1, h2⟩ := List.nodup_cons.1 hn
    obtain ⟨A, B, rfl⟩ := List.append_of_mem (hs x (by simp))
    have := nodup_leI l (A ++ B) h2 (fun y hy => by
      have := hs y (by simp [hy])
      simp only [List.mem_append, List.mem_cons] at this ⊢
      rcases this with h | rfl | h
      · exact .inl h
      · exact (h1 hy).elim
      · exact .inr h)
    simp at this ⊢; omega

/-- The names in use are those of calls. -/
theorem putN_in {k : List UInt8} {v : Val} : ∀ {l : List (List UInt8 × Val)} {e : List UInt8 × Val}, e ∈ putN k v l → e.1 = k ∨ e ∈ l
  | [], e, h => by simp [putN] at h; left; rw [h]
  | x :: r, e, h => by
    rw [putN] at h
    split at h
    · rcases List.mem_cons.1 h with rfl | h
      · exact .inl rfl
      · exact .inr (List.mem_cons_of_mem _ h)
    · rcases List.mem_cons.1 h with rfl | h
      · exact .inr List.mem_cons_self
      · exact (putN_in h).imp id (List.mem_cons_of_mem _)
theorem step_names (R : Reg) (o : Op) : ∀ e ∈ (R.step o).names, e.1 = o.name ∨ e ∈ R.names := by
  intro e he
  unfold Reg.step at he
  split at he
  · right
    unfold Reg.ref at he
    repeat' split at he
    all_goals exact he
  split at he
  · right
    unfold Reg.unref at he
    repeat' split at he
    all_goals exact he
  split at he
  · exact .inr he
  split at he
  · unfold Reg.put at he
    repeat' split at he
    · exact .inr he
    · exact .inr he
    · exact .inr ((remN_sub _ _).subset he)
    · exact .inr he
    · exact putN_in he
  · exact .inr he
theorem fold_names : ∀ (l : List Op) (R : Reg), ∀ e ∈ (l.foldl Reg.step R).names, (∃ o ∈ l, e.1 = o.name) ∨ e ∈ R.names
  | [], R, e, h => .inr h
  | o :: l, R, e, h => by
    rcases fold_names l (R.step o) e h with ⟨p, hp, h⟩ | h
    · exact .inl ⟨p, List.mem_cons_of_mem _ hp, h⟩
    · rcases step_names R o e h with h | h
      · exact .inl ⟨o, List.mem_cons_self, h⟩
      · exact .inr h
theorem findN_of_mem {k : List UInt8} {v : Val} : ∀ {l : List (List UInt8 × Val)}, (l.map (·.1)).Nodup → (k, v) ∈ l → findN k l = some v
  | [], _, h => by cases h
  | e :: r, hn, h => by
    obtain ⟨h1, h2⟩ := List.nodup_cons.1 (by simpa using hn : (e.1 :: r.map (·.1)).Nodup)
    rw [findN]
    rcases List.mem_cons.1 h with rfl | h
    · rw [if_pos rfl]
    · rw [if_neg fun (hk : k = e.1) => h1 (by rw [← hk]; exact List.mem_map_of_mem (f := (·.1)) h)]
      exact findN_of_mem h2 h
theorem findN_in {k : List UInt8} {v : Val} : ∀ {l : List (List UInt8 × Val)}, findN k l = some v → (k, v) ∈ l
  | [], h => by cases h
  | e :: r, h => by
    rw [findN] at h
    split at h
    · rename_i hk
      injection h with h
      subst h; subst hk
      exact List.mem_cons_self
    · exact List.mem_cons_of_mem _ (findN_in h)

/-- The identities that are kept, so far. -/
def keptN (R : Reg) (l : List Op) : Nat → List Int
  | 0 => []
  | k + 1 => match l[k]? with
    | some o => withL (withL (keptN R l k) (R.value ((k : Int) + 1)).1) (R.find o.name).1
    | none => keptN R l k
theorem keptN_len (R : Reg) (l : List Op) : ∀ k, (keptN R l k).length ≤ 2 * k
  | 0 => Nat.le_refl _
  | k + 1 => by
    rw [keptN]
    have := keptN_len R l k
    split
    · rename_i o ho
      have h1 := withL_len (withL (keptN R l k) (R.value ((k : Int) + 1)).1) (R.find o.name).1
      have h2 := withL_len (keptN R l k) (R.value ((k : Int) + 1)).1
      omega
    · omega
theorem keptN_nodup (R : Reg) (l : List Op) : ∀ k, (keptN R l k).Nodup
  | 0 => List.nodup_nil
  | k + 1 => by
    rw [keptN]
    split
    · exact nodup_withL (nodup_withL (keptN_nodup R l k) _) _
    · exact keptN_nodup R l k
theorem mem_keptN (R : Reg) (l : List Op) (x : Int) : ∀ k, x ∈ keptN R l k ↔ ∃ j o, j < k ∧ l[j]? = some o ∧ (((R.value ((j : Int) + 1)).1.obj = true ∧ (R.value ((j : Int) + 1)).1.r = x) ∨ ((R.find o.name).1.obj = true ∧ (R.find o.name).1.r = x))
  | 0 => by simp [keptN]
  | k + 1 => by
    rw [keptN]
    cases ho : l[k]? with
    | none =>
      rw [mem_keptN R l x k]
      constructor
      · rintro ⟨j, o, h1, h2⟩; exact ⟨j, o, by omega, h2⟩
      · rintro ⟨j, o, h1, h2, h3⟩
        refine ⟨j, o, ?_, h2, h3⟩
        rcases Nat.lt_succ_iff_lt_or_eq.1 h1 with h | rfl
        · exact h
        · rw [ho] at h2; cases h2
    | some o =>
      dsimp only
      rw [mem_withL, mem_withL, mem_keptN R l x k]
      constructor
      · rintro ((⟨j, p, h1, h2⟩ | h) | h)
        · exact ⟨j, p, by omega, h2⟩
        · exact ⟨k, o, by omega, ho, .inl h⟩
        · exact ⟨k, o, by omega, ho, .inr h⟩
      · rintro ⟨j, p, h1, h2, h3⟩
        rcases Nat.lt_succ_iff_lt_or_eq.1 h1 with h | rfl
        · exact .inl (.inl ⟨j, p, h, h2, h3⟩)
        · rw [ho] at h2
          injection h2 with h2
          subst h2
          rcases h3 with h3 | h3
          · exact .inl (.inr h3)
          · exact .inr h3
theorem obj_k {v : Val} (h : v.obj = true) : v.k ≠ 0 := by
  intro h0
  simp [Val.obj, h0] at h
theorem none_obj : Val.none.obj = false := by decide
theorem value_obj {R : Reg} {z : Int} (h : (R.value z).1.obj = true) : (R.value z).1 ∈ R.vals := by
  unfold Reg.value at h ⊢
  split at h
  · rw [none_obj] at h; cases h
  · split at h
    · rename_i h0 hu
      rw [if_neg h0, if_pos hu]
      obtain ⟨_, _, v, h3, _⟩ := Reg.used_spec hu
      show R.vals.getD (z - 1).toNat Val.none ∈ _
      rw [List.getD_eq_getElem?_getD, h3]
      exact List.mem_of_getElem? h3
    · rw [none_obj] at h; cases h
theorem value_at {R : Reg} {j : Nat} {v : Val} (h : R.vals[j]? = some v) (hv : v.obj = true) : (R.value ((j : Int) + 1)).1 = v := by
  have hj := (List.getElem?_eq_some_iff.1 h).1
  have hu : R.used ((j : Int) + 1) = true := by
    have e : ((j : Int) + 1 - 1).toNat = j := by omega
    have hk := obj_k hv
    simp only [Reg.used, e, List.getD_eq_getElem?_getD, h, Option.getD_some, Bool.and_eq_true, decide_eq_true_eq]
    exact ⟨⟨by omega, by omega⟩, hk⟩
  unfold Reg.value
  rw [if_neg (by omega), if_pos hu]
  show R.vals.getD ((j : Int) + 1 - 1).toNat Val.none = v
  rw [show ((j : Int) + 1 - 1).toNat = j from by omega, List.getD_eq_getElem?_getD, h]
  rfl
theorem find_obj {R : Reg} {k : List UInt8} (h : (R.find k).1.obj = true) : (R.find k).1 ∈ R.names.map (·.2) := by
  unfold Reg.find at h ⊢
  cases hf : findN k R.names with
  | none => rw [hf] at h; rw [none_obj] at h; cases h
  | some v => exact List.mem_map.2 ⟨(k, v), findN_in hf, rfl⟩
/-- What is kept after calls. -/
theorem mem_kept_after (l : List Op) (x : Int) : x ∈ keptN (after l) l l.length ↔ x ∈ (after l).roots := by
  have hok := after_ok l
  rw [mem_keptN, Reg.roots, mem_normZ_iff, mem_idsL]
  constructor
  · rintro ⟨j, o, _, _, ⟨h1, h2⟩ | ⟨h1, h2⟩⟩
    · exact ⟨_, List.mem_append.2 (.inl (value_obj h1)), h1, h2⟩
    · exact ⟨_, List.mem_append.2 (.inr (find_obj h1)), h1, h2⟩
  · rintro ⟨v, h, h1, h2⟩
    rcases List.mem_append.1 h with h | h
    · obtain ⟨j, hj⟩ := List.mem_iff_getElem?.1 h
      have hjl : j < l.length := Nat.lt_of_lt_of_le (List.getElem?_eq_some_iff.1 hj).1 (after_vals l)
      refine ⟨j, l[j], hjl, by simp, .inl ?_⟩
      rw [value_at hj h1]
      exact ⟨h1, h2⟩
    · obtain ⟨e, he, rfl⟩ := List.mem_map.1 h
      rcases fold_names l ⟨[], [], []⟩ e he with ⟨o, ho, hn⟩ | h
      · obtain ⟨j, hj⟩ := List.mem_iff_getElem?.1 ho
        refine ⟨j, o, (List.getElem?_eq_some_iff.1 hj).1, hj, .inr ?_⟩
        have hf : findN o.name (after l).names = some e.2 := findN_of_mem hok.keys (by rw [← hn]; exact he)
        rw [show (after l).find o.name = (e.2, true) from by rw [Reg.find, hf]]
        exact ⟨h1, h2⟩
      · cases h
theorem asc_nodup {l : List Int} (h : Asc l) : l.Nodup := List.Pairwise.imp (fun h => by omega) h
theorem kept_len (l : List Op) : (after l).roots.length = (keptN (after l) l l.length).length :=
  Nat.le_antisymm (nodup_leI _ _ (asc_nodup (asc_normZ _)) fun x hx => (mem_kept_after l x).2 hx) (nodup_leI _ _ (keptN_nodup _ _ _) fun x hx => (mem_kept_after l x).1 hx)

theorem rootsL_pure (l : List Op) (hl : l.length ≤ reachBytes) : Pure Try.prog 4 [.isl (l.map Op.row)] (.bool true) := by
  refine Pure.of 0 (CallS.enter scriptinglaw18_RegistryRoots_ok (Nat.le_of_ble_eq_true rfl) (Run.go 100 ?_))
  have hlp := large_pure l hl
  simp -implicitDefEqProofs only [go_sem, RegH, RefH, nO, nM, nV, nF, nL, rO, rL, rF, rN, Val.v, Val.row, irow, prow, Val.none, initSl]
  refine CallS.pureF hlp (by simp -implicitDefEqProofs only [go_sem, RegH, RefH, nO, nM, nV, nF, nL, rO, rL, rF, rN, Val.v, Val.row, irow, prow, Val.none, ops_sub]) ?_
  cases hlg : isLarge l with
  | true =>
    simp -implicitDefEqProofs only [go_sem, RegH, RefH, nO, nM, nV, nF, nL, rO, rL, rF, rN, Val.v, Val.row, irow, prow, Val.none]
    refine CallS.pureF lives_pure (by simp -implicitDefEqProofs only [go_sem, RegH, RefH, nO, nM, nV, nF, nL, rO, rL, rF, rN, Val.v, Val.row, irow, prow, Val.none]) ?_
    simp -implicitDefEqProofs only [go_sem, RegH, RefH, nO, nM, nV, nF, nL, rO, rL, rF, rN, Val.v, Val.row, irow, prow, Val.none]
  | false =>
    have hln := not_large hlg
    simp -implicitDefEqProofs only [go_sem, RegH, RefH, nO, nM, nV, nF, nL, rO, rL, rF, rN, Val.v, Val.row, irow, prow, Val.none]
    refine (made_c l hln _).mono ?_
    rintro r h' n1 ⟨so, sm, sv, sf, so2, sl, sf2, sn, rfl, rfl⟩
    simp -implicitDefEqProofs only [go_sem, RegH, RefH, nO, nM, nV, nF, nL, rO, rL, rF, rN, Val.v, Val.row, irow, prow, Val.none]
    refine Run.roundsK (fun (x : Nat × Nat) => ⟨[(7, .int .i64 (x.1 : Int)), (6, .isl ((keptN (after l) l x.1).map zrw)), (4, .ptr rO so2 0 0), (3, .ptr nO so 0 0), (0, .isl (l.map Op.row))],
        RegH so sm sv sf (after l), x.2⟩)
      (fun x => x.1 ≤ l.length) (fun x => l.length - x.1) (0, n1) (.turn id ⟨.refl _, .nilI, .refl _, .refl _, .refl _, trivial⟩ (.at 0 rfl rfl (.refl _) (.at 1 rfl rfl (.refl _) (.at 2 rfl rfl (.refl _) (.at 3 rfl rfl (.refl _) trivial))))) (Nat.zero_le _) ?_
    rintro ⟨i, n⟩ hi ih
    dsimp only at hi ih ⊢
    refine Run.unf scriptinglaw18_RegistryRoots_l0_eq (Run.go 100 ?_)
    simp -implicitDefEqProofs only [go_sem, RegH, RefH, nO, nM, nV, nF, nL, rO, rL, rF, rN, Val.v, Val.row, irow, prow, Val.none]
    refine ⟨fun c1 => ⟨⟨by omega, by omega⟩, ?_⟩, fun c1 => ?_⟩
    · obtain ⟨o, ho⟩ : ∃ o, l[i]? = some o := ⟨l[i]'(by omega), by simp⟩
      have hk1 : keptN (after l) l (i + 1) = withL (withL (keptN (after l) l i) ((after l).value ((i : Int) + 1)).1) ((after l).find o.name).1 := by rw [keptN, ho]
      have hw1 := lwith_pure (keptN (after l) l i) ((after l).value ((i : Int) + 1)).1 (by have := keptN_len (after l) l i; omega)
      have hw2 := lwith_pure (withL (keptN (after l) l i) ((after l).value ((i : Int) + 1)).1) ((after l).find o.name).1 (by have := keptN_len (after l) l i; have := withL_len (keptN (after l) l i) ((after l).value ((i : Int) + 1)).1; omega)
      rw [← hk1] at hw2
      refine (value_c (after l) so sm sv sf _ _ (after_ok l)).mono ?_
      rintro r h' n2 ⟨rfl, rfl⟩
      generalize ((after l).value ((i : Int) + 1)).1 = u at *
      simp -implicitDefEqProofs only [go_sem, RegH, RefH, nO, nM, nV, nF, nL, rO, rL, rF, rN, Val.v, Val.row, irow, prow, Val.none]
      refine ⟨by omega, by omega, oprows, by omega, fun x hx => ?_⟩
      rw [ho] at hx
      injection hx with hx
      subst hx
      simp -implicitDefEqProofs only [go_sem, RegH, RefH, nO, nM, nV, nF, nL, rO, rL, rF, rN, Val.v, Val.row, irow, prow, Val.none, Op.row]
      refine CallS.at [1, 2, 3, 4] [0] (find_c (after l) so sm sv sf _ o.name) rfl rfl ?_
      rintro r h' n3 hn3 ⟨rfl, rfl⟩
      generalize ((after l).find o.name).1 = w at *
      simp -implicitDefEqProofs only [go_sem, RegH, RefH, nO, nM, nV, nF, nL, rO, rL, rF, rN, Val.v, Val.row, irow, prow, Val.none]
      refine ⟨?_, ?_⟩
      all_goals
        refine CallS.pureF hw1 (by simp -implicitDefEqProofs only [go_sem, RegH, RefH, nO, nM, nV, nF, nL, rO, rL, rF, rN, Val.v, Val.row, irow, prow, Val.none, subZ]) ?_
        simp -implicitDefEqProofs only [go_sem, RegH, RefH, nO, nM, nV, nF, nL, rO, rL, rF, rN, Val.v, Val.row, irow, prow, Val.none]
        refine CallS.pureF hw2 (by simp -implicitDefEqProofs only [go_sem, RegH, RefH, nO, nM, nV, nF, nL, rO, rL, rF, rN, Val.v, Val.row, irow, prow, Val.none, subZ]) ?_
        simp -implicitDefEqProofs only [go_sem, RegH, RefH, nO, nM, nV, nF, nL, rO, rL, rF, rN, Val.v, Val.row, irow, prow, Val.none]
        exact ⟨by omega, ih _ (i + 1, n3 + 1) (by dsimp only; omega) (by dsimp only; omega) (Weak.wk (by first | (simp -implicitDefEqProofs only [go_sem, RegH, RefH, nO, nM, nV, nF, nL, rO, rL, rF, rN, Val.v, Val.row, irow, prow, Val.none]; done) | (simp -implicitDefEqProofs only [go_sem, RegH, RefH, nO, nM, nV, nF, nL, rO, rL, rF, rN, Val.v, Val.row, irow, prow, Val.none]; simp)))⟩
    · obtain rfl : i = l.length := by omega
      clear ih
      have hkl := kept_len l
      have hkm := mem_kept_after l
      have hrl := roots_len (after l) (after_ok l)
      have hkb := keptN_len (after l) l l.length
      refine (roots_c (after l) so sm sv sf _ (after_ok l)).mono ?_
      rintro r h' n2 ⟨rfl, rfl⟩
      have hasc : Asc (after l).roots := asc_normZ _
      generalize (after l).roots = S at *
      generalize keptN (after l) l l.length = K at *
      have hlS : (S.map zrw).length = S.length := List.length_map ..
      have hrS : ∀ (k : Nat) (x : Int), S[k]? = some x → (S.map zrw)[k]? = some [.int .i64 x] := fun k x h => by rw [List.getElem?_map, h]; rfl
      have hzS := rowszZ S
      have hlK : (K.map zrw).length = S.length := by rw [List.length_map, hkl]
      have hhas : ∀ x ∈ S, Pure Try.prog 16 [.isl (K.map zrw), .int .i64 x] (.bool true) := fun x hx => by
        have := has_pure K x (by omega)
        rwa [decide_eq_true ((hkm x).2 hx)] at this
      have hsK := subZ K
      generalize S.map zrw = SV at *
      generalize K.map zrw = KV at *
      simp -implicitDefEqProofs only [go_sem, RegH, RefH, nO, nM, nV, nF, nL, rO, rL, rF, rN, Val.v, Val.row, irow, prow, Val.none]
      refine Run.rounds (fun (k : Nat) => ⟨[(13, .int .i64 k), (12, .isl SV), (6, .isl KV)], [], n2⟩) (fun k => k ≤ S.length) (fun k => S.length - k) 0 (by first | (simp -implicitDefEqProofs only [go_sem, RegH, RefH, nO, nM, nV, nF, nL, rO, rL, rF, rN, Val.v, Val.row, irow, prow, Val.none]; done) | (simp -implicitDefEqProofs only [go_sem, RegH, RefH, nO, nM, nV, nF, nL, rO, rL, rF, rN, Val.v, Val.row, irow, prow, Val.none]; simp)) (Nat.zero_le _) ?_
      intro k hk ih
      refine Run.unf scriptinglaw18_RegistryRoots_l1_eq (Run.go 100 ?_)
      by_cases c : (k : Int) < S.length
      · obtain ⟨y, hy⟩ : ∃ y, S[k]? = some y := ⟨S[k]'(by omega), by simp⟩
        have hry := hrS k y hy
        have k0 : ((0 : Int) ≤ (k : Int)) = True := eq_true (by omega)
        have k1 : ((k : Int) < (S.length : Int)) = True := eq_true c
        have k2 : (k < S.length) = True := eq_true (by omega)
        have hh := hhas y (List.mem_of_getElem? hy)
        simp -implicitDefEqProofs only [go_sem, RegH, RefH, nO, nM, nV, nF, nL, rO, rL, rF, rN, Val.v, Val.row, irow, prow, Val.none, hlS, hry, hzS, k0, k1, k2, Option.some.injEq, forall_eq']
        refine CallS.pureF hh (by simp -implicitDefEqProofs only [go_sem, RegH, RefH, nO, nM, nV, nF, nL, rO, rL, rF, rN, Val.v, Val.row, irow, prow, Val.none, hsK]) ?_
        by_cases d : (0 : Int) < k
        · obtain ⟨z, hyz⟩ : ∃ z, S[k - 1]? = some z := ⟨S[k - 1]'(by omega), by simp⟩
          have hrz := hrS (k - 1) z hyz
          have hlt : ¬ y ≤ z := by
            obtain ⟨q1, q2⟩ := List.getElem?_eq_some_iff.1 hy
            obtain ⟨q3, q4⟩ := List.getElem?_eq_some_iff.1 hyz
            have := List.pairwise_iff_getElem.1 hasc (k - 1) k q3 q1 (by omega)
            omega
          have e1 : ((k : Int) - 1).toNat = k - 1 := by omega
          have d1 : ((0 : Int) < k) = True := eq_true d
          have d2 : ((0 : Int) ≤ (k : Int) - 1) = True := eq_true (by omega)
          have d3 : ((k : Int) - 1 < (S.length : Int)) = True := eq_true (by omega)
          have d4 : (k - 1 < S.length) = True := eq_true (by omega)
          simp -implicitDefEqProofs only [go_sem, RegH, RefH, nO, nM, nV, nF, nL, rO, rL, rF, rN, Val.v, Val.row, irow, prow, Val.none, hlS, hry, hrz, hzS, k0, k1, k2, d1, d2, d3, d4, e1, hlt, Option.some.injEq, forall_eq']
          exact ⟨⟨by omega, by omega⟩, ⟨by omega, by omega⟩, ih _ (k + 1) (by omega) (by omega) (by first | (simp -implicitDefEqProofs only [go_sem, RegH, RefH, nO, nM, nV, nF, nL, rO, rL, rF, rN, Val.v, Val.row, irow, prow, Val.none]; done) | (simp -implicitDefEqProofs only [go_sem, RegH, RefH, nO, nM, nV, nF, nL, rO, rL, rF, rN, Val.v, Val.row, irow, prow, Val.none]; simp))⟩
        · have d1 : ((0 : Int) < k) = False := eq_false d
          simp -implicitDefEqProofs only [go_sem, RegH, RefH, nO, nM, nV, nF, nL, rO, rL, rF, rN, Val.v, Val.row, irow, prow, Val.none, d1]
          exact ⟨⟨by omega, by omega⟩, ih _ (k + 1) (by omega) (by omega) (by first | (simp -implicitDefEqProofs only [go_sem, RegH, RefH, nO, nM, nV, nF, nL, rO, rL, rF, rN, Val.v, Val.row, irow, prow, Val.none]; done) | (simp -implicitDefEqProofs only [go_sem, RegH, RefH, nO, nM, nV, nF, nL, rO, rL, rF, rN, Val.v, Val.row, irow, prow, Val.none]; simp))⟩
      · simp -implicitDefEqProofs only [go_sem, RegH, RefH, nO, nM, nV, nF, nL, rO, rL, rF, rN, Val.v, Val.row, irow, prow, Val.none, hlS, hlK, c]
        refine CallS.pureF lives_pure (by simp -implicitDefEqProofs only [go_sem, RegH, RefH, nO, nM, nV, nF, nL, rO, rL, rF, rN, Val.v, Val.row, irow, prow, Val.none]) ?_
        simp -implicitDefEqProofs only [go_sem, RegH, RefH, nO, nM, nV, nF, nL, rO, rL, rF, rN, Val.v, Val.row, irow, prow, Val.none]

theorem registryRoots_args (es : List (List V)) (hl : es.length ≤ reachBytes) (he : ∀ row ∈ es, Typed Try.prog 35 row) : Pure Try.prog 4 [.isl es] (.bool true) := by
  obtain ⟨l, rfl⟩ := ops_of he
  exact rootsL_pure l (by simpa using hl)
end Go.Proofs.Ytlmmmplgogbjgaa
