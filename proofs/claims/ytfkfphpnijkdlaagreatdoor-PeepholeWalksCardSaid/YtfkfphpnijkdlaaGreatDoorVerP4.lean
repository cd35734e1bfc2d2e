/-
 Which instructions violate an invariant. No condition.
-/
import Derived.Test.YtfkfphpnijkdlaaGreatDoorVerP1
import Derived.Test.YtfkfphpnijkdlaaGreatDoorVerP3
import Derived.Test.YtfkfphpnijkdlaaGreatDoorVer7
import Derived.Test.YtfkfphpnijkdlaaGreatDoorOpc3
set_option linter.unusedVariables false
set_option linter.unusedSimpArgs false
set_option maxRecDepth 100000
set_option maxHeartbeats 0
namespace Go.Proofs.YtfkfphpnijkdlaaGreatDoor
open Go.Abs
attribute [local irreducible] CallS Run
-- EV: Ins.v, Ins.row
-- EV: Ins.v, Ins.row
theorem unset_int (N : Nat) (s : Stt) (z : Int) (h0 : 0 ≤ z) (h1 : z < N) (st : Nat) (h : Heap) (o m : V) (n : Nat)
  (hh : Heap.get h (92 * 10000 + 5) st = some (.rows 3 [[.isl (boolR N s.set), o, m]])) :
  CallS Tryz.prog 116 [.int .i64 z, .ptr (92 * 10000 + 5) st 0 0] h n fun r h' n' => r = .bool (!s.set z.toNat) ∧ h' = h := by
 obtain ⟨Z, rfl⟩ : ∃ Z : Nat, z = Z := ⟨z.toNat, by omega⟩
 have hlen := boolR_len N s.set
 have hat := boolR_at (f := s.set) (show Z < N by omega)
 have hz := boolR_sz N s.set
 generalize boolR N s.set = FSs at *
 refine CallS.enterK verify_reads_1_ok (Nat.le_of_ble_eq_true rfl) fun Q hQ => Run.go 100 ?_
 simp -implicitDefEqProofs only [go_sem, Ins.v, Ins.row, initSl, hh, hlen, hz, hat, Int.toNat_natCast, Option.some.injEq, forall_eq']
 subst hQ
 exact ⟨by omega, by omega, by omega, .is ⟨rfl, rfl⟩⟩
theorem reads_pureB (p : Fn) (hs : Sound p) (i : Ins) (hi : i ∈ p.code) (s : Stt) (ho : s.opn ≤ p.regs) (hno : ¬ (0 ≤ (reads i).2 ∨ i.op = 22)) (n : Nat) :
  CallS Tryz.prog 92 [.agg p.row, i.v, .agg [.isl (boolR p.regs.toNat s.set), .int .i64 s.opn, .isl (s.marks.map zrw)]] [] n fun r h' n' => r = .bool (readsF p i s) ∧ h' = [] := by
 obtain ⟨h1, h2⟩ := fn_row11 p
 have hR := reads_pure i
 have hreg := hs.regs
 have hrd := hs.reads i hi
 have h22 : ¬ i.op = 22 := fun h => hno (.inr h)
 have hf : ¬ 0 ≤ (reads i).2 := fun h => hno (.inl h)
 have hL : readsL p i s = (reads i).1 := by unfold readsL rngL upsR; rw [if_neg hf, if_neg h22]; simp
 have hF : readsF p i s = (openB (reads i).2 s.opn && !(reads i).1.any fun r => !s.set r.toNat) := by unfold readsF; rw [hL]
 rw [hF]
 have hsb := fun d h => (frz_eq (d := d) (h := h)).elim fun φ e => show (boolR p.regs.toNat s.set).map (fun r => r.map (frz d h)) = boolR p.regs.toNat s.set by rw [e]; exact boolR_sub φ _ _
 have hcont : ∀ h, Heap.get h (92 * 10000 + 5) (n + 1 + 1) = some (.rows 3 [[.isl (boolR p.regs.toNat s.set), .int .i64 s.opn, .isl (s.marks.map zrw)]]) → ∀ n2, CallS Tryz.prog 82 [.isl ((reads i).1.map zrw), .fn 116 [.ptr (92 * 10000 + 5) (n + 1 + 1) 0 0]] h n2 fun r h' n' => r = .bool ((reads i).1.any fun r => !s.set r.toNat) ∧ h' = h :=
  fun h hh n2 => contains_int (reads i).1 (Nat.le_trans (reads_len i) (by decide)) (fun r => !s.set r.toNat) 116 [.ptr (92 * 10000 + 5) (n + 1 + 1) 0 0] h (by kernel_rfl) (fun x hx m => unset_int p.regs.toNat s x (hrd x hx).1 (by have := (hrd x hx).2; omega) (n + 1 + 1) h (.int .i64 s.opn) (.isl (s.marks.map zrw)) m hh) n2
 generalize hT : (boolR p.regs.toNat s.set) = FSs at *
 generalize hM : (s.marks.map zrw) = MS at *
 generalize hrr : (reads i).2 = fr at *
 generalize (reads i).1.any (fun r => !s.set r.toNat) = an at *
 generalize hA : (reads i).1.map zrw = A at *
 generalize p.row = pr at *
 refine CallS.enterK verify_reads_ok (Nat.le_of_ble_eq_true rfl) fun Q hQ => Run.go 100 ?_
 simp -implicitDefEqProofs only [go_sem, Ins.v, Ins.row, initSl, h1, h2]
 refine CallS.pureF hR (by simp -implicitDefEqProofs only [go_sem, Ins.v, Ins.row]) ?_
 by_cases ho0 : 0 ≤ s.opn
 ·have : openB fr s.opn = false := by simp [openB, hf, ho0]
  simp -implicitDefEqProofs only [go_sem, Ins.v, Ins.row, h1, h2, hf, h22, ho0]
  subst hQ; rw [this]; exact .to ⟨rfl, rfl⟩ (.sub (by simp -implicitDefEqProofs only [go_sem, Ins.v, Ins.row]))
 by_cases hlt : s.opn < fr
 ·have : openB fr s.opn = false := by simp [openB, hf, ho0]; omega
  simp -implicitDefEqProofs only [go_sem, Ins.v, Ins.row, h1, h2, hf, h22, ho0, hlt]
  subst hQ; rw [this]; exact .to ⟨rfl, rfl⟩ (.sub (by simp -implicitDefEqProofs only [go_sem, Ins.v, Ins.row]))
 have hop : openB fr s.opn = true := by simp [openB, hf, ho0]; omega
 simp -implicitDefEqProofs only [go_sem, Ins.v, Ins.row, h1, h2, hf, h22, ho0, hlt]
 refine Run.keep [9, 7, 5, 4, 3] ?_
 refine Run.roundsK (fun (x : Nat) => ⟨[(9, .int .i64 fr), (7, .isl A), (5, .ptr (92 * 10000 + 5) (n + 1 + 1) 0 0), (4, .ptr (92 * 10000 + 4) (n + 1) 0 0), (3, .ptr (92 * 10000 + 3) n 0 0)], [((92 * 10000 + 5), n + 1 + 1, .rows 3 [[.isl FSs, .int .i64 s.opn, .isl MS]]), ((92 * 10000 + 4), n + 1, .rows 5 [[.int .i64 i.op, .int .i64 i.a, .int .i64 i.b, .int .i64 i.c, .int .i64 i.d]]), ((92 * 10000 + 3), n, .rows 11 [pr])], x⟩) (fun _ => True) (fun _ => 0) (n + 1 + 1 + 1) (Weak.wk (Weak.of (by simp -implicitDefEqProofs only [go_sem, Ins.v, Ins.row]) (fun e he => he) (Nat.le_refl _))) trivial ?_
 intro m _ _
 refine Run.unf verify_reads_l0_eq (Run.go 100 ?_)
 simp -implicitDefEqProofs only [go_sem, Ins.v, Ins.row, h1, h2, hf, h22, ho0, hlt]
 refine (hcont _ ?_ _).mono ?_
 ·simp -implicitDefEqProofs only [go_sem, Ins.v, Ins.row]
 rintro r h' n' ⟨rfl, rfl⟩
 simp -implicitDefEqProofs only [go_sem, Ins.v, Ins.row]
 subst hQ; rw [hop, Bool.true_and]; exact .to ⟨rfl, rfl⟩ (.sub (by simp -implicitDefEqProofs only [go_sem, Ins.v, Ins.row]))
theorem reads_ownB (p : Fn) (hs : Sound p) (i : Ins) (hi : i ∈ p.code) (s : Stt) (ho : s.opn ≤ p.regs) (hno : 0 ≤ (reads i).2 ∨ i.op = 22) (n : Nat) :
  CallS Tryz.prog 92 [.agg p.row, i.v, .agg [.isl (boolR p.regs.toNat s.set), .int .i64 s.opn, .isl (s.marks.map zrw)]] [] n fun r h' n' => r = .bool (readsF p i s) ∧ h' = [] := by
 obtain ⟨h1, h2⟩ := fn_row11 p
 have hR := reads_own i hno
 have hreg := hs.regs
 have hrd := hs.reads i hi
 have hF : readsF p i s = (openB (reads i).2 s.opn && !(readsL p i s).any fun r => !s.set r.toNat) := rfl
 rw [hF]
 have hsb := fun d h => (frz_eq (d := d) (h := h)).elim fun φ e => show (boolR p.regs.toNat s.set).map (fun r => r.map (frz d h)) = boolR p.regs.toNat s.set by rw [e]; exact boolR_sub φ _ _
 have hcont : ∀ L : List Int, L.length ≤ 1000000 → (∀ x ∈ L, 0 ≤ x ∧ x < p.regs) → ∀ h, Heap.get h (92 * 10000 + 5) (n + 1 + 1) = some (.rows 3 [[.isl (boolR p.regs.toNat s.set), .int .i64 s.opn, .isl (s.marks.map zrw)]]) → ∀ n2, CallS Tryz.prog 82 [.isl (L.map zrw), .fn 116 [.ptr (92 * 10000 + 5) (n + 1 + 1) 0 0]] h n2 fun r h' n' => r = .bool (L.any fun r => !s.set r.toNat) ∧ h' = h :=
  fun L hl hL h hh n2 => contains_int L (Nat.le_trans hl (by decide)) (fun r => !s.set r.toNat) 116 [.ptr (92 * 10000 + 5) (n + 1 + 1) 0 0] h (by kernel_rfl) (fun x hx m => unset_int p.regs.toNat s x (hL x hx).1 (by have := (hL x hx).2; omega) (n + 1 + 1) h (.int .i64 s.opn) (.isl (s.marks.map zrw)) m hh) n2
 generalize hT : (boolR p.regs.toNat s.set) = FSs at *
 generalize hM : (s.marks.map zrw) = MS at *
 generalize hrr : (reads i).2 = fr at *
 generalize hA : (reads i).1 = A at *
 refine CallS.enterK verify_reads_ok (Nat.le_of_ble_eq_true rfl) fun Q hQ => Run.go 100 ?_
 simp -implicitDefEqProofs only [go_sem, Ins.v, Ins.row, initSl, h1, h2]
 refine CallS.at [] [0, 1, 2] (hR _) rfl rfl ?_
 rintro r h' n1 hn1 ⟨st, rfl, rfl⟩
 by_cases hop : openB fr s.opn = true
 case neg =>
  have hop : openB fr s.opn = false := by simpa using hop
  have hopp := hop
  simp only [openB, Bool.and_eq_false_iff, decide_eq_false_iff_not] at hopp
  rw [hop] at hQ
  simp -implicitDefEqProofs only [go_sem, Ins.v, Ins.row, h1, h2]
  refine ⟨fun h => ⟨fun _ => ?_, fun h3 => ?_⟩, fun _ => ?_⟩
  ·subst hQ; exact .to ⟨rfl, rfl⟩ (.sub (by simp -implicitDefEqProofs only [go_sem, Ins.v, Ins.row]))
  ·rcases hopp with h4 | h4
   ·exact absurd (decide_eq_decide.1 h) h4
   ·omega
  ·subst hQ; exact .to ⟨rfl, rfl⟩ (.sub (by simp -implicitDefEqProofs only [go_sem, Ins.v, Ins.row]))
 have hopp := hop
 simp only [openB, Bool.and_eq_true, decide_eq_true_eq] at hopp
 have hfo : (fr ≤ s.opn) = True := eq_true hopp.2
 have hfo2 : (s.opn < fr) = False := eq_false (by omega)
 have hfo3 : decide (0 ≤ fr) = decide (0 ≤ s.opn) := decide_eq_decide.2 hopp.1
 simp -implicitDefEqProofs only [go_sem, Ins.v, Ins.row, h1, h2, hfo2, hfo3]
 refine Run.keep [9, 7, 5, 4, 3] ?_
 obtain ⟨H3, hH3⟩ : ∃ H3 : Heap, [((92 * 10000 + 5), n + 1 + 1, .rows 3 [[.isl FSs, .int .i64 s.opn, .isl MS]]), ((92 * 10000 + 4), n + 1, .rows 5 [[.int .i64 i.op, .int .i64 i.a, .int .i64 i.b, .int .i64 i.c, .int .i64 i.d]]), ((92 * 10000 + 3), n, .rows 11 [p.row])] = H3 := ⟨_, rfl⟩
 have hAl : A.length ≤ 5000 := by
  have h := asc_len (a := 0) (b := 4096) (asc_reads i) (fun x hx => ((reads_in i).1 x hx).1) (fun x hx => ((reads_in i).1 x hx).2)
  rw [hA] at h; omega
 have hRl : (rngL fr s.opn).length ≤ 4096 := by unfold rngL; split <;> simp <;> omega
 have hRin : ∀ x ∈ rngL fr s.opn, 0 ≤ x ∧ x < p.regs := fun x hx => by
  unfold rngL at hx
  split at hx
  ·rename_i h0
   obtain ⟨k, hk, rfl⟩ := List.mem_map.1 hx
   have := List.mem_range.1 hk
   omega
  ·simp at hx
 refine Run.roundsK (fun (x : Int × List Int × Nat × Nat) => ⟨[(9, .int .i64 x.1), (7, .sl (92 * 10000 + 43) x.2.2.1 0 x.2.1.length), (5, .ptr (92 * 10000 + 5) (n + 1 + 1) 0 0), (4, .ptr (92 * 10000 + 4) (n + 1) 0 0), (3, .ptr (92 * 10000 + 3) n 0 0)], [((92 * 10000 + 43), x.2.2.1, .rows 1 (x.2.1.map zrw)), ((92 * 10000 + 5), n + 1 + 1, .rows 3 [[.isl FSs, .int .i64 s.opn, .isl MS]]), ((92 * 10000 + 4), n + 1, .rows 5 [[.int .i64 i.op, .int .i64 i.a, .int .i64 i.b, .int .i64 i.c, .int .i64 i.d]]), ((92 * 10000 + 3), n, .rows 11 [p.row])], x.2.2.2⟩)
  (fun x => x.2.1 ++ rngL x.1 s.opn = A ++ rngL fr s.opn ∧ (0 ≤ x.1 → x.1 ≤ s.opn)) (fun x => (s.opn - x.1).toNat) (fr, A, st, n1) ?_ ⟨rfl, fun _ => hopp.2⟩ ?_
 ·exact .turn (fun x => if x = (67 * 10000 + 60) then (92 * 10000 + 43) else x) ⟨.refl _, .sl, .refl _, .refl _, .refl _, trivial⟩ (.at 0 rfl rfl (.refl _) (.at 1 rfl rfl (.refl _) (.at 2 rfl rfl (.refl _) (.at 3 rfl rfl (.refl _) trivial))))
 have hsl : ∀ nm : Nat, nm ≠ (92 * 10000 + 5) → nm ≠ (92 * 10000 + 4) → nm ≠ (92 * 10000 + 3) → ∀ st (L : List Int) m, L.length ≤ 1000000 → (∀ x ∈ L, 0 ≤ x ∧ x < p.regs) → CallS Tryz.prog 82 [.sl nm st 0 L.length, .fn 116 [.ptr (92 * 10000 + 5) (n + 1 + 1) 0 0]]
   ((nm, st, .rows 1 (L.map zrw)) :: H3) m fun r h' n' => r = .bool (L.any fun r => !s.set r.toNat) ∧ h' = H3 := fun nm e5 e4 e3 st L m hl hL =>
  CallS.pre (xs' := [.isl (L.map zrw), .fn 116 [.ptr (92 * 10000 + 5) (n + 1 + 1) 0 0]]) (h' := H3) (n' := m) (.freeze (b := nm) (st := st) (sz := 1) (rs := L.map zrw) List.mem_cons_self ⟨.of (.refl _), Frz.all (List.length_map ..).symm, trivial⟩ (FrzH.of fun e he => by
   refine ⟨List.mem_cons_of_mem _ he, ?_⟩
   rw [← hH3] at he
   simp only [List.mem_cons, List.not_mem_nil, or_false] at he
   rcases he with h | h | h <;> rw [h] <;> simp only <;> omega)) rfl (hcont L hl hL H3 (by rw [← hH3]; simp -implicitDefEqProofs only [go_sem, Ins.v, Ins.row]) m)
 rintro ⟨r, L, st, m⟩ ⟨hL, hr⟩ ih
 simp only at hL hr ih ⊢
 have hll : (L.map zrw).length = L.length := List.length_map ..
 have hlz := rowszZ' L
 have hLl : L.length ≤ 10000 := by have := congrArg List.length hL; simp only [List.length_append] at this; omega
 refine Run.unf verify_reads_l0_eq (Run.go 100 ?_)
 by_cases hgo : 0 ≤ r ∧ r < s.opn
 ·obtain ⟨hg1, hg2⟩ := hgo
  have hnx : rngL r s.opn = r :: rngL (r + 1) s.opn := by
   unfold rngL
   rw [if_pos hg1, if_pos (by omega : 0 ≤ r + 1), show (s.opn - r).toNat = (s.opn - (r + 1)).toNat + 1 by omega, List.range_succ_eq_map, List.map_cons, List.map_map]
   congr 1
   ·simp
   ·exact List.map_congr_left fun x _ => by simp only [Function.comp]; omega
  have htk : (L.map zrw).take L.length = L.map zrw := List.take_of_length_le (by omega)
  simp -implicitDefEqProofs only [go_sem, Ins.v, Ins.row, hg1, hg2, hll, hlz, htk]
  have hze : (L ++ [r]).length = L.length + 1 := by simp
  have hme : (L ++ [r]).map zrw = L.map zrw ++ [[.int .i64 r]] := by simp [zrw]
  refine ⟨by omega, ⟨by omega, by omega⟩, ih _ (r + 1, L ++ [r], m, m + 1) ⟨?_, fun _ => by simp only; omega⟩ (by simp only; omega) (by simp only [hze, hme]; exact Weak.wk (Weak.of (by simp -implicitDefEqProofs only [go_sem, Ins.v, Ins.row]) (fun e he => he) (Nat.le_refl _)))⟩
  simp only
  rw [List.append_assoc, ← hL, hnx]; rfl
 have hL : L = A ++ rngL fr s.opn := by
  rw [← hL]
  have : rngL r s.opn = [] := by
   unfold rngL
   split
   ·rw [show (s.opn - r).toNat = 0 by omega]; rfl
   ·rfl
  rw [this, List.append_nil]
 have hLin : ∀ x ∈ L, 0 ≤ x ∧ x < p.regs := fun x hx => by
  rw [hL] at hx
  rcases List.mem_append.1 hx with hx | hx
  ·exact hrd x hx
  ·exact hRin x hx
 have hgo2 : (0 ≤ r) = False ∨ ((0 ≤ r) = True ∧ (r < s.opn) = False) := by
  by_cases c : 0 ≤ r
  ·exact .inr ⟨eq_true c, eq_false fun h => hgo ⟨c, h⟩⟩
  ·exact .inl (eq_false c)
 by_cases h22 : i.op = 22
 case neg =>
  have hfin : readsL p i s = L := by rw [hL]; unfold readsL upsR; rw [if_neg h22, hA, hrr, List.append_nil]
  rw [hfin] at hQ
  have hc := hsl (92 * 10000 + 43) (by decide) (by decide) (by decide) st L m (by omega) hLin
  rw [← hH3] at hc
  rcases hgo2 with g1 | ⟨g1, g2⟩
  ·simp -implicitDefEqProofs only [go_sem, Ins.v, Ins.row, g1, h22]
   refine hc.mono ?_
   rintro rr h' n' ⟨rfl, rfl⟩
   simp -implicitDefEqProofs only [go_sem, Ins.v, Ins.row]
   subst hQ; rw [hop, Bool.true_and]; exact .to ⟨rfl, rfl⟩ (.sub (by simp -implicitDefEqProofs only [go_sem, Ins.v, Ins.row]))
  ·simp -implicitDefEqProofs only [go_sem, Ins.v, Ins.row, g1, g2, h22]
   refine hc.mono ?_
   rintro rr h' n' ⟨rfl, rfl⟩
   simp -implicitDefEqProofs only [go_sem, Ins.v, Ins.row]
   subst hQ; rw [hop, Bool.true_and]; exact .to ⟨rfl, rfl⟩ (.sub (by simp -implicitDefEqProofs only [go_sem, Ins.v, Ins.row]))
 obtain ⟨hb0, q, hq⟩ := hs.proto hi h22
 have hqm := List.mem_of_getElem? hq
 have hul := hs.upsl q hqm
 have hup := hs.ups q hqm
 have hfin : readsL p i s = L ++ ((q.ups.filter Upv.loc).map Upv.idx) := by rw [hL]; unfold readsL upsR; rw [if_pos h22, hA, hrr, hq]; rfl
 rw [hfin] at hQ
 have h8 : p.row[8]? = some (.isl (p.protos.map Fn.row)) := by rw [Fn.row_eq]; rfl
 have l8 : (p.protos.map Fn.row).length = p.protos.length := List.length_map ..
 have z8 := eq_true (rowsz_of Fn.row 11 Fn.row_len p.protos)
 have hqr : (p.protos.map Fn.row)[i.b.toNat]? = some q.row := by rw [List.getElem?_map, hq]; rfl
 have h9 : q.row[9]? = some (.isl (q.ups.map Upv.row)) := by rw [Fn.row_eq]; rfl
 have l9 : (q.ups.map Upv.row).length = q.ups.length := List.length_map ..
 have z9 := eq_true (rowsz_of Upv.row 3 (fun _ => rfl) q.ups)
 have r9 : ∀ (k : Nat) x, q.ups[k]? = some x → (q.ups.map Upv.row)[k]? = some (Upv.row x) := fun k x hk => by rw [List.getElem?_map, hk]; rfl
 have hbl : (i.b < (p.protos.length : Int)) = True := eq_true (by have := (List.getElem?_eq_some_iff.1 hq).1; omega)
 have hb0t : (0 ≤ i.b) = True := eq_true hb0
 obtain ⟨m1, m2⟩ := fn_row11 q
 generalize q.ups.map Upv.row = U at *
 generalize p.protos.map Fn.row = PR at *
 generalize hqrr : q.row = qr at *
 rw [h22] at hH3
 rcases hgo2 with g1 | ⟨g1, g2⟩
 ·simp -implicitDefEqProofs only [go_sem, Ins.v, Ins.row, g1, h22, h1, h2, h8, l8, z8, hqr, hb0t, hbl, h9, l9, m1, m2, Option.some.injEq, forall_eq']
  refine ⟨by have := of_eq_true hbl; omega, ?_⟩
  refine Run.keep [55, 54, 53, 7, 5] ?_
  refine Run.roundsK (fun (x : Nat × List Int × Nat × Nat) => ⟨[(55, .int .i64 x.1), (54, .int .i64 q.ups.length), (53, .isl U), (7, .sl (92 * 10000 + 65) x.2.2.1 0 x.2.1.length), (5, .ptr (92 * 10000 + 5) (n + 1 + 1) 0 0)],
    [((92 * 10000 + 65), x.2.2.1, .rows 1 (x.2.1.map zrw)), ((92 * 10000 + 5), n + 1 + 1, .rows 3 [[.isl FSs, .int .i64 s.opn, .isl MS]])], x.2.2.2⟩)
   (fun x => x.1 ≤ q.ups.length ∧ x.2.1 = L ++ (((q.ups.take x.1).filter Upv.loc).map Upv.idx)) (fun x => q.ups.length - x.1) (0, L, st, m) ?_ ⟨Nat.zero_le _, by simp⟩ ?_
  ·exact .turn (fun x => if x = (92 * 10000 + 43) then (92 * 10000 + 65) else x) ⟨.refl _, .refl _, .refl _, .sl, .refl _, trivial⟩ (.at 0 rfl rfl (.refl _) (.at 1 rfl rfl (.refl _) trivial))
  rintro ⟨k, T, st2, m2⟩ ⟨hk, hT⟩ ih2
  simp only at hk hT ih2 ⊢
  have htl : (T.map zrw).length = T.length := List.length_map ..
  have htz := rowszZ' T
  have hTl : T.length ≤ 20000 := by
   rw [hT, List.length_append, List.length_map]
   have h1 := List.length_filter_le Upv.loc (q.ups.take k)
   have h2 := List.length_take_le k q.ups
   rw [List.length_take] at h1
   omega
  refine Run.unf verify_reads_l1_eq (Run.go 100 ?_)
  by_cases hlt : k < q.ups.length
  ·have q0 : ((k : Int) < (q.ups.length : Int)) = True := eq_true (by omega)
   have q1 : ((0 : Int) ≤ (k : Int)) = True := eq_true (by omega)
   obtain ⟨x, hx⟩ : ∃ x, q.ups[k]? = some x := ⟨q.ups[k], by simp [hlt]⟩
   have hxr := r9 k x hx
   have htk : q.ups.take (k + 1) = q.ups.take k ++ [x] := by rw [List.take_add_one, hx]; rfl
   have hzk : ((k + 1 : Nat) : Int) = (k : Int) + 1 := by omega
   have htt : (T.map zrw).take T.length = T.map zrw := List.take_of_length_le (by omega)
   cases hloc : x.loc with
   | true =>
    have hne : T ++ [x.idx] = L ++ (((q.ups.take (k + 1)).filter Upv.loc).map Upv.idx) := by rw [hT, htk, List.filter_append, List.map_append, ← List.append_assoc]; simp [hloc]
    have hze : (T ++ [x.idx]).length = T.length + 1 := by simp
    have hme : (T ++ [x.idx]).map zrw = T.map zrw ++ [[.int .i64 x.idx]] := by simp [zrw]
    simp -implicitDefEqProofs only [go_sem, Ins.v, Ins.row, q0, q1, l9, z9, hxr, hlt, Upv.row, hloc, htl, htz, htt, Option.some.injEq, forall_eq']
    refine ⟨by omega, ⟨by omega, by omega⟩, ih2 _ (k + 1, T ++ [x.idx], m2 + 1, m2 + 1 + 1) ⟨by simp only; omega, hne⟩ (by simp only; omega) (by simp only [hze, hme, hzk]; exact Weak.wk (Weak.of (by simp -implicitDefEqProofs only [go_sem, Ins.v, Ins.row]) (fun e he => by simp only [List.mem_cons] at he ⊢; rcases he with h | h | h <;> simp only [h, eq_self, true_or, or_true]) (Nat.le_refl _)))⟩
   | false =>
    have hne : T = L ++ (((q.ups.take (k + 1)).filter Upv.loc).map Upv.idx) := by rw [hT, htk, List.filter_append, List.map_append, ← List.append_assoc]; simp [hloc]
    simp -implicitDefEqProofs only [go_sem, Ins.v, Ins.row, q0, q1, l9, z9, hxr, hlt, Upv.row, hloc, Option.some.injEq, forall_eq']
    refine ⟨⟨by omega, by omega⟩, ih2 _ (k + 1, T, st2, m2 + 1) ⟨by simp only; omega, hne⟩ (by simp only; omega) (by simp only [hzk]; exact Weak.wk (Weak.of (by simp -implicitDefEqProofs only [go_sem, Ins.v, Ins.row]) (fun e he => by simp only [List.mem_cons] at he ⊢; rcases he with h | h | h <;> simp only [h, eq_self, true_or, or_true]) (Nat.le_refl _)))⟩
  ·have e : k = q.ups.length := by omega
   subst e
   rw [List.take_length] at hT
   rw [← hT] at hQ
   have hc := hcont T (by omega) (by rw [hT]; intro x hx; rcases List.mem_append.1 hx with hx | hx; exact hLin x hx; obtain ⟨u, hu, rfl⟩ := List.mem_map.1 hx; obtain ⟨hu1, hu2⟩ := List.mem_filter.1 hu; exact hup u hu1 hu2)
   simp -implicitDefEqProofs only [go_sem, Ins.v, Ins.row, Int.lt_irrefl]
   refine CallS.pre (xs' := [.isl (T.map zrw), .fn 116 [.ptr (92 * 10000 + 5) (n + 1 + 1) 0 0]]) (h' := [((92 * 10000 + 5), n + 1 + 1, .rows 3 [[.isl FSs, .int .i64 s.opn, .isl MS]])]) (n' := m2) (.freeze (b := (92 * 10000 + 65)) (st := st2) (sz := 1) (rs := T.map zrw) List.mem_cons_self ⟨.of (.refl _), Frz.all (List.length_map ..).symm, trivial⟩ (.at 1 rfl (by decide) (.of (.refl _)) trivial)) rfl ?_
   refine (hc _ (by simp -implicitDefEqProofs only [go_sem, Ins.v, Ins.row]) _).mono ?_
   rintro rr h' n' ⟨rfl, rfl⟩
   simp -implicitDefEqProofs only [go_sem, Ins.v, Ins.row]
   subst hQ; rw [hop, Bool.true_and]; exact .to ⟨rfl, rfl⟩ (.sub (by simp -implicitDefEqProofs only [go_sem, Ins.v, Ins.row]))
 ·simp -implicitDefEqProofs only [go_sem, Ins.v, Ins.row, g1, g2, h22, h1, h2, h8, l8, z8, hqr, hb0t, hbl, h9, l9, m1, m2, Option.some.injEq, forall_eq']
  refine ⟨by have := of_eq_true hbl; omega, ?_⟩
  refine Run.keep [55, 54, 53, 7, 5] ?_
  refine Run.roundsK (fun (x : Nat × List Int × Nat × Nat) => ⟨[(55, .int .i64 x.1), (54, .int .i64 q.ups.length), (53, .isl U), (7, .sl (92 * 10000 + 65) x.2.2.1 0 x.2.1.length), (5, .ptr (92 * 10000 + 5) (n + 1 + 1) 0 0)],
    [((92 * 10000 + 65), x.2.2.1, .rows 1 (x.2.1.map zrw)), ((92 * 10000 + 5), n + 1 + 1, .rows 3 [[.isl FSs, .int .i64 s.opn, .isl MS]])], x.2.2.2⟩)
   (fun x => x.1 ≤ q.ups.length ∧ x.2.1 = L ++ (((q.ups.take x.1).filter Upv.loc).map Upv.idx)) (fun x => q.ups.length - x.1) (0, L, st, m) ?_ ⟨Nat.zero_le _, by simp⟩ ?_
  ·exact .turn (fun x => if x = (92 * 10000 + 43) then (92 * 10000 + 65) else x) ⟨.refl _, .refl _, .refl _, .sl, .refl _, trivial⟩ (.at 0 rfl rfl (.refl _) (.at 1 rfl rfl (.refl _) trivial))
  rintro ⟨k, T, st2, m2⟩ ⟨hk, hT⟩ ih2
  simp only at hk hT ih2 ⊢
  have htl : (T.map zrw).length = T.length := List.length_map ..
  have htz := rowszZ' T
  have hTl : T.length ≤ 20000 := by
   rw [hT, List.length_append, List.length_map]
   have h1 := List.length_filter_le Upv.loc (q.ups.take k)
   have h2 := List.length_take_le k q.ups
   rw [List.length_take] at h1
   omega
  refine Run.unf verify_reads_l1_eq (Run.go 100 ?_)
  by_cases hlt : k < q.ups.length
  ·have q0 : ((k : Int) < (q.ups.length : Int)) = True := eq_true (by omega)
   have q1 : ((0 : Int) ≤ (k : Int)) = True := eq_true (by omega)
   obtain ⟨x, hx⟩ : ∃ x, q.ups[k]? = some x := ⟨q.ups[k], by simp [hlt]⟩
   have hxr := r9 k x hx
   have htk : q.ups.take (k + 1) = q.ups.take k ++ [x] := by rw [List.take_add_one, hx]; rfl
   have hzk : ((k + 1 : Nat) : Int) = (k : Int) + 1 := by omega
   have htt : (T.map zrw).take T.length = T.map zrw := List.take_of_length_le (by omega)
   cases hloc : x.loc with
   | true =>
    have hne : T ++ [x.idx] = L ++ (((q.ups.take (k + 1)).filter Upv.loc).map Upv.idx) := by rw [hT, htk, List.filter_append, List.map_append, ← List.append_assoc]; simp [hloc]
    have hze : (T ++ [x.idx]).length = T.length + 1 := by simp
    have hme : (T ++ [x.idx]).map zrw = T.map zrw ++ [[.int .i64 x.idx]] := by simp [zrw]
    simp -implicitDefEqProofs only [go_sem, Ins.v, Ins.row, q0, q1, l9, z9, hxr, hlt, Upv.row, hloc, htl, htz, htt, Option.some.injEq, forall_eq']
    refine ⟨by omega, ⟨by omega, by omega⟩, ih2 _ (k + 1, T ++ [x.idx], m2 + 1, m2 + 1 + 1) ⟨by simp only; omega, hne⟩ (by simp only; omega) (by simp only [hze, hme, hzk]; exact Weak.wk (Weak.of (by simp -implicitDefEqProofs only [go_sem, Ins.v, Ins.row]) (fun e he => by simp only [List.mem_cons] at he ⊢; rcases he with h | h | h <;> simp only [h, eq_self, true_or, or_true]) (Nat.le_refl _)))⟩
   | false =>
    have hne : T = L ++ (((q.ups.take (k + 1)).filter Upv.loc).map Upv.idx) := by rw [hT, htk, List.filter_append, List.map_append, ← List.append_assoc]; simp [hloc]
    simp -implicitDefEqProofs only [go_sem, Ins.v, Ins.row, q0, q1, l9, z9, hxr, hlt, Upv.row, hloc, Option.some.injEq, forall_eq']
    refine ⟨⟨by omega, by omega⟩, ih2 _ (k + 1, T, st2, m2 + 1) ⟨by simp only; omega, hne⟩ (by simp only; omega) (by simp only [hzk]; exact Weak.wk (Weak.of (by simp -implicitDefEqProofs only [go_sem, Ins.v, Ins.row]) (fun e he => by simp only [List.mem_cons] at he ⊢; rcases he with h | h | h <;> simp only [h, eq_self, true_or, or_true]) (Nat.le_refl _)))⟩
  ·have e : k = q.ups.length := by omega
   subst e
   rw [List.take_length] at hT
   rw [← hT] at hQ
   have hc := hcont T (by omega) (by rw [hT]; intro x hx; rcases List.mem_append.1 hx with hx | hx; exact hLin x hx; obtain ⟨u, hu, rfl⟩ := List.mem_map.1 hx; obtain ⟨hu1, hu2⟩ := List.mem_filter.1 hu; exact hup u hu1 hu2)
   simp -implicitDefEqProofs only [go_sem, Ins.v, Ins.row, Int.lt_irrefl]
   refine CallS.pre (xs' := [.isl (T.map zrw), .fn 116 [.ptr (92 * 10000 + 5) (n + 1 + 1) 0 0]]) (h' := [((92 * 10000 + 5), n + 1 + 1, .rows 3 [[.isl FSs, .int .i64 s.opn, .isl MS]])]) (n' := m2) (.freeze (b := (92 * 10000 + 65)) (st := st2) (sz := 1) (rs := T.map zrw) List.mem_cons_self ⟨.of (.refl _), Frz.all (List.length_map ..).symm, trivial⟩ (.at 1 rfl (by decide) (.of (.refl _)) trivial)) rfl ?_
   refine (hc _ (by simp -implicitDefEqProofs only [go_sem, Ins.v, Ins.row]) _).mono ?_
   rintro rr h' n' ⟨rfl, rfl⟩
   simp -implicitDefEqProofs only [go_sem, Ins.v, Ins.row]
   subst hQ; rw [hop, Bool.true_and]; exact .to ⟨rfl, rfl⟩ (.sub (by simp -implicitDefEqProofs only [go_sem, Ins.v, Ins.row]))
theorem vreads_call (p : Fn) (hs : Sound p) (i : Ins) (hi : i ∈ p.code) (s : Stt) (ho : s.opn ≤ p.regs) (n : Nat) :
  CallS Tryz.prog 92 [.agg p.row, i.v, .agg [.isl (boolR p.regs.toNat s.set), .int .i64 s.opn, .isl (s.marks.map zrw)]] [] n fun r h' n' => r = .bool (readsF p i s) ∧ h' = [] := by
 by_cases h : 0 ≤ (reads i).2 ∨ i.op = 22
 ·exact reads_ownB p hs i hi s ho h n
 ·exact reads_pureB p hs i hi s ho h n
-- EV: Ins.v, Ins.row
theorem vne_at {α : Type} {a b : List α} {k : Nat} {x y : α} (h1 : a[k]? = some x) (h2 : b[k]? = some y) (h : ¬ x = y) : ¬ a = b := fun e => by
 subst e; rw [h1] at h2; exact h (Option.some.inj h2)
theorem veq_all {α : Type} {a b : List α} (hl : a.length = b.length) (h : a.take a.length = b.take a.length) : a = b := by
 rw [List.take_length, hl, List.take_length] at h; exact h
theorem vtake_next {α : Type} {a b : List α} {k : Nat} {x : α} (h : a.take k = b.take k) (h1 : a[k]? = some x) (h2 : b[k]? = some x) : a.take (k + 1) = b.take (k + 1) := by
 rw [List.take_add_one, List.take_add_one, h, h1, h2]
theorem Run.two {c : Cf} {k : List AItem} {s0 s1 s2 : St} {P1 P2 B : Prop} (h1 : P1 → B ∧ Wk s1 s0) (h2 : P2 → Wk s2 s0) (h : Run c k s0) : (P1 → B ∧ Run c k s1) ∧ (P2 → Run c k s2) :=
 ⟨fun hp => ⟨(h1 hp).1, Run.wk (h1 hp).2 h⟩, fun hp => Run.wk (h2 hp) h⟩
theorem vequal_int (a b : List Int) (ha : a.length ≤ 1000000) : Pure Tryz.prog 51 [.isl (a.map lrow), .isl (b.map lrow)] (.bool (decide (a = b))) := by
 have la : (a.map lrow).length = a.length := List.length_map ..
 have lb : (b.map lrow).length = b.length := List.length_map ..
 have za := eq_true (rowsz_of lrow 1 (fun _ => rfl) a)
 have zb := eq_true (rowsz_of lrow 1 (fun _ => rfl) b)
 have ra : ∀ (k : Nat) x, a[k]? = some x → (a.map lrow)[k]? = some (lrow x) := fun k x hk => by rw [List.getElem?_map, hk]; rfl
 have rb : ∀ (k : Nat) x, b[k]? = some x → (b.map lrow)[k]? = some (lrow x) := fun k x hk => by rw [List.getElem?_map, hk]; rfl
 generalize a.map lrow = A at *
 generalize b.map lrow = B at *
 refine Pure.of 0 (CallS.enter slices_Equal_int_int_ok (Nat.le_of_ble_eq_true rfl) (Run.go 100 ?_))
 by_cases hl : a.length = b.length
 ·have hl' : ((a.length : Int) = (b.length : Int)) = True := eq_true (by omega)
  simp -implicitDefEqProofs only [go_sem, Ins.v, Ins.row, initSl, la, lb, hl']
  refine Run.rounds (fun (k : Nat) => ⟨[(13, .int .i64 k), (12, .int .i64 a.length), (1, .isl B), (0, .isl A)], [], 0⟩) (fun k => k ≤ a.length ∧ a.take k = b.take k) (fun k => a.length - k) 0 (by simp -implicitDefEqProofs only [go_sem, Ins.v, Ins.row, hl']) ⟨Nat.zero_le _, rfl⟩ ?_
  rintro k ⟨hk, heq⟩ ih
  refine Run.unf slices_Equal_int_int_l0_eq (Run.go 100 ?_)
  by_cases hlt : k < a.length
  ·have q0 : ((k : Int) < (a.length : Int)) = True := eq_true (by omega)
   have q1 : ((0 : Int) ≤ (k : Int)) = True := eq_true (by omega)
   have q2 : ((k : Int) < (b.length : Int)) = True := eq_true (by omega)
   obtain ⟨x, hx⟩ : ∃ x, a[k]? = some x := ⟨a[k], by simp [hlt]⟩
   obtain ⟨y, hy⟩ : ∃ y, b[k]? = some y := ⟨b[k]'(by omega), by simp [show k < b.length by omega]⟩
   have hxr := ra k x hx
   have hyr := rb k y hy
   have hzk : ((k + 1 : Nat) : Int) = (k : Int) + 1 := by omega
   by_cases hxy : x = y
   ·simp -implicitDefEqProofs only [go_sem, Ins.v, Ins.row, q0, q1, q2, la, lb, za, zb, hxr, hyr, lrow, hxy, Option.some.injEq, forall_eq']
    refine ⟨hlt, by omega, by omega, ?_⟩
    exact ih _ (k + 1) ⟨by omega, vtake_next heq hx (hxy ▸ hy)⟩ (by omega) (by simp -implicitDefEqProofs only [go_sem, Ins.v, Ins.row, hzk])
   ·have hne := vne_at hx hy hxy
    simp -implicitDefEqProofs only [go_sem, Ins.v, Ins.row, q0, q1, q2, la, lb, za, zb, hxr, hyr, lrow, hxy, Option.some.injEq, forall_eq', hne]
    exact ⟨hlt, by omega⟩
  ·have e : k = a.length := by omega
   subst e
   simp -implicitDefEqProofs only [go_sem, Ins.v, Ins.row, Int.lt_irrefl, veq_all hl heq]
 ·have hl' : ((a.length : Int) = (b.length : Int)) = False := eq_false (by omega)
  have hne : ¬ a = b := fun e => hl (by rw [e])
  simp -implicitDefEqProofs only [go_sem, Ins.v, Ins.row, initSl, la, lb, hl', hne]
theorem above_int (i : Ins) (z : Int) (st : Nat) (h : Heap) (n : Nat) (hh : Heap.get h (66 * 10000 + 9) st = some (.rows 5 [i.row])) :
  CallS Tryz.prog 93 [.int .i64 z, .ptr (66 * 10000 + 9) st 0 0] h n fun r h' n' => r = .bool (decide (i.a ≤ z)) ∧ h' = h := by
 refine CallS.enterK verify_violates_1_ok (Nat.le_of_ble_eq_true rfl) fun Q hQ => Run.go 100 ?_
 simp only [Ins.row] at hh
 simp -implicitDefEqProofs only [go_sem, Ins.v, Ins.row, initSl, hh]
 subst hQ
 exact .is ⟨rfl, rfl⟩
theorem fnext (p : Fn) (hc : p.code.length ≤ 100000) (a : Int) : Pure Tryz.prog 34 [.agg p.row, .int .i64 a] (.isl ((nextL p.code a).map zrw)) := by
 rw [Fn.row_eq]
 exact next_pure p.code a hc _ _ _ _ _ _ _ _ _ _
theorem viol_loop (p : Fn) (hs : Sound p) (M : Nat → Option Stt) (L : List Nat) (hK : Kn p.regs.toNat p.code.length L M) (hS : StIs p.regs.toNat p.code p.params M) (a : Nat) (ha : a < p.code.length) (s : Stt) (hMa : M a = some s) (n st0 m : Nat) (Q : Res)
  (hQ : Q = fun r h' n' => r = .bool ((nextL p.code a).any (badE p.code M a (insAt p.code a) s)) ∧ h' = [((64 * 10000 + 14), st0, .map (mapE L (cellV p.regs.toNat M)))]) :
  Run ⟨Tryz.prog, 109, [.t 6], Post Q, none⟩ [.code (seqR (seqR (seqR (seqR (seqR verify_violates_c)))))]
   ⟨[(9, .ptr (66 * 10000 + 9) (n + 1 + 1) 0 0), (7, .ptr (66 * 10000 + 7) (n + 1) 0 0), (3, .ptr (66 * 10000 + 3) n 0 0), (2, .mp (64 * 10000 + 14) st0), (1, .int .i64 a)],
   [((66 * 10000 + 9), n + 1 + 1, .rows 5 [(insAt p.code a).row]), ((66 * 10000 + 7), n + 1, .rows 3 [[.isl (boolR p.regs.toNat s.set), .int .i64 s.opn, .isl (s.marks.map zrw)]]), ((66 * 10000 + 3), n, .rows 11 [p.row]), ((64 * 10000 + 14), st0, .map (mapE L (cellV p.regs.toNat M)))], m⟩ := by
 obtain ⟨h1, h2⟩ := fn_row11 p
 have hreg := hs.regs
 have hcl := hs.code
 have hok : ∀ z : Int, keyOK (.int .i64 z) (mapE L (cellV p.regs.toNat M)) = True := fun z => eq_true ((mapE_keys _ _).ok z)
 have hc5 : p.row[5]? = some (.isl (p.code.map Ins.row)) := by rw [Fn.row_eq]; rfl
 have l5 : (p.code.map Ins.row).length = p.code.length := List.length_map ..
 have z5 := eq_true (rowsz_of Ins.row 5 (fun _ => rfl) p.code)
 have r5 : ∀ (k : Nat) x, p.code[k]? = some x → (p.code.map Ins.row)[k]? = some (Ins.row x) := fun k x hk => by rw [List.getElem?_map, hk]; rfl
 obtain ⟨hi, him⟩ := insAt_mem ha
 have hnx := fnext p (by omega) a
 have hps := fun d h => (frz_eq (d := d) (h := h)).elim fun φ e => show p.row.map (frz d h) = p.row by rw [e]; exact Fn.row_sub φ p
 have hll := hK.len
 have hml := hK.ml a s hMa
 have hpl := fun (b : Int) => passed_lend p.regs.toNat p.code p.row h1 h2 hc5 a _ hi b (by omega) s (by omega) (hs.fit _ him) (by omega)
 have hin := fun x (hx : x ∈ nextL p.code a) => nextL_in hx
 have hnl2 := nextL_len2 p.code a
 have hto := fun t (ht : t ∈ nextL p.code a) => hS.next ha hMa ht
 have hlk : ∀ (B : Nat) o, M B = some o → mfind (.int .i64 (B : Nat)) (mapE L (cellV p.regs.toNat M)) = some (sttV (.isl (boolR p.regs.toNat o.set)) o) := fun B o h => by
  rw [mapE_yes (hK.yes h)]; simp only [cellV, h]
 have hinr : ∀ B : Nat, B < p.code.length → (p.code.map Ins.row)[B]? = some (insAt p.code B).row := fun B h => r5 B _ (insAt_mem h).1
 have hsb := fun d h => (frz_eq (d := d) (h := h)).elim fun φ e => show (boolR p.regs.toNat s.set).map (fun r => r.map (frz d h)) = boolR p.regs.toNat s.set by rw [e]; exact boolR_sub φ _ _
 have hsm := fun d h => (frz_eq (d := d) (h := h)).elim fun φ e => show (s.marks.map zrw).map (fun r => r.map (frz d h)) = s.marks.map zrw by rw [e]; exact zrw_sub φ _
 have hps2 := Fn.row_sub lost p
 generalize hes : mapE L (cellV p.regs.toNat M) = es at *
 generalize hbE : badE p.code M a (insAt p.code a) s = bE at *
 generalize hii : insAt p.code a = i at *
 generalize hCR : p.code.map Ins.row = CR at *
 generalize hpr : p.row = pr at *
 generalize hFS : boolR p.regs.toNat s.set = FSs at *
 generalize hMS : s.marks.map zrw = MS at *
 generalize hnl : nextL p.code a = nl at *
 have hnls : ∀ (k : Nat) (x : Int), nl[k]? = some x → (nl.map zrw)[k]? = some [.int .i64 x] := fun k x h => zrw_at h
 have hnll : (nl.map zrw).length = nl.length := List.length_map ..
 have hnlz := rowszZ' nl
 generalize nl.map zrw = nls at *
 refine Run.go 100 ?_
 simp -implicitDefEqProofs only [go_sem, Ins.v, Ins.row, seqR, h1, h2]
 refine CallS.pureF hnx (by simp -implicitDefEqProofs only [go_sem, Ins.v, Ins.row, hps2]) ?_
 simp -implicitDefEqProofs only [go_sem, Ins.v, Ins.row, hnll]
 refine Run.keep [67, 66, 65, 9, 7, 3, 2, 1] ?_
 refine Run.roundsK (fun (x : Nat × Nat) => ⟨[(67, .int .i64 x.1), (66, .int .i64 nl.length), (65, .isl nls), (9, .ptr (66 * 10000 + 9) (n + 1 + 1) 0 0), (7, .ptr (66 * 10000 + 7) (n + 1) 0 0), (3, .ptr (66 * 10000 + 3) n 0 0), (2, .mp (64 * 10000 + 14) st0), (1, .int .i64 a)],
   [((66 * 10000 + 9), n + 1 + 1, .rows 5 [i.row]), ((66 * 10000 + 7), n + 1, .rows 3 [[.isl FSs, .int .i64 s.opn, .isl MS]]), ((66 * 10000 + 3), n, .rows 11 [pr]), ((64 * 10000 + 14), st0, .map es)], x.2⟩)
  (fun x => x.1 ≤ nl.length ∧ (nl.take x.1).any bE = false) (fun x => nl.length - x.1) (0, m) (Weak.wk (Weak.of (by simp -implicitDefEqProofs only [go_sem, Ins.v, Ins.row]) (fun e he => he) (Nat.le_refl _))) ⟨Nat.zero_le _, rfl⟩ ?_
 rintro ⟨k, m2⟩ ⟨hk, hno⟩ ih
 simp only at hk hno ih ⊢
 refine Run.unf verify_violates_l0_eq (Run.go 100 ?_)
 by_cases hlt : k < nl.length
 case neg =>
  have e : k = nl.length := by omega
  subst e
  simp -implicitDefEqProofs only [go_sem, Ins.v, Ins.row, Int.lt_irrefl]
  rw [any_all hno] at hQ
  subst hQ
  exact .to ⟨rfl, rfl⟩ (.sub (by simp -implicitDefEqProofs only [go_sem, Ins.v, Ins.row]))
 have w0 : ((k : Int) < (nl.length : Int)) = True := eq_true (by omega)
 have w1 : ((0 : Int) ≤ (k : Int)) = True := eq_true (by omega)
 obtain ⟨t, ht⟩ : ∃ x, nl[k]? = some x := ⟨nl[k], by simp [hlt]⟩
 have htr := hnls k t ht
 have hzk : ((k + 1 : Nat) : Int) = (k : Int) + 1 := by omega
 obtain ⟨ht0, htn⟩ := hin t (List.mem_of_getElem? ht)
 obtain ⟨o, ho⟩ := hto t (List.mem_of_getElem? ht)
 obtain ⟨B, rfl⟩ : ∃ B : Nat, t = B := ⟨t.toNat, by omega⟩
 rw [Int.toNat_natCast] at ho
 have hBn : B < p.code.length := by omega
 have hlo := hlk B o ho
 have hiB := hinr B hBn
 have hbv : bE (B : Int) = (decide ((writes i).2 ≠ o.opn) || (!decide (effM i s.marks = o.marks) || (decide ((B : Int) ≤ (a : Int)) && decide ((insAt p.code B).op ≠ 29)))) := by
  rw [← hbE]; unfold badE; simp only [Int.toNat_natCast, ho]
 have hcal := hpl (B : Int)
 have hpm := passF_marks p.regs.toNat i a B s
 have hpo := passF_opn p.regs.toNat i a B s
 generalize insAt p.code B = ib at *
 simp -implicitDefEqProofs only [go_sem, Ins.v, Ins.row, w0, w1, hnll, hnlz, htr, hlt, h1, h2, Option.some.injEq, forall_eq']
 refine hcal _ _ _ 1 _ ?_ (126 * 10000 + 5) ?_ ?_ ?_ ?_
 ·simp -implicitDefEqProofs only [go_sem, Ins.v, Ins.row, hps, hsb, hsm, sttV]
  exact hMS.symm
 ·intro e he
  simp only [List.mem_cons, List.not_mem_nil, or_false] at he
  rcases he with h | h | h | h <;> rw [h] <;> simp only <;> omega
 ·intro e he
  simp only [List.mem_cons, List.not_mem_nil, or_false] at he
  rcases he with h | h | h | h <;> rw [h] <;> simp only <;> omega
 ·intro e he
  simp only [List.mem_cons, List.not_mem_nil, or_false] at he
  rcases he with h | h | h | h <;> rw [h] <;> simp only <;> omega
 intro st n' hn'
 have heq : Pure Tryz.prog 51 [.isl ((effM i s.marks).map zrw), .isl (o.marks.map zrw)] (.bool (decide (effM i s.marks = o.marks))) := vequal_int _ _ (by have := effM_len i s.marks; omega)
 have hs1 := zrw_sub lost (effM i s.marks)
 have hs2 := zrw_sub lost o.marks
 by_cases e1 : (writes i).2 = o.opn
 case neg =>
  have hb : bE (B : Int) = true := by rw [hbv]; simp [e1]
  rw [any_at ht hb] at hQ
  simp -implicitDefEqProofs only [go_sem, Ins.v, Ins.row, sttV, hlo, hok, hpm, hpo, e1]
  subst hQ
  exact .to (r2 := .bool _) (n2 := n' + 1) ⟨rfl, rfl⟩ (.sub (by simp -implicitDefEqProofs only [go_sem, Ins.v, Ins.row]))
 by_cases e2 : effM i s.marks = o.marks
 case neg =>
  have hb : bE (B : Int) = true := by rw [hbv]; simp [e2]
  rw [any_at ht hb] at hQ
  simp -implicitDefEqProofs only [go_sem, Ins.v, Ins.row, sttV, hlo, hok, hpm, hpo, e1]
  refine CallS.pureF heq (by simp -implicitDefEqProofs only [go_sem, Ins.v, Ins.row, hs1, hs2]) ?_
  simp -implicitDefEqProofs only [go_sem, Ins.v, Ins.row, e2]
  subst hQ
  exact .to (r2 := .bool _) (n2 := n' + 1) ⟨rfl, rfl⟩ (.sub (by simp -implicitDefEqProofs only [go_sem, Ins.v, Ins.row]))
 by_cases e3 : (B : Int) ≤ (a : Int) ∧ ib.op ≠ 29
 case pos =>
  have hb : bE (B : Int) = true := by rw [hbv]; simp [e3.1, e3.2]
  have e31 := e3.1
  have e32 := e3.2
  rw [any_at ht hb] at hQ
  simp -implicitDefEqProofs only [go_sem, Ins.v, Ins.row, sttV, hlo, hok, hpm, hpo, e1]
  refine CallS.pureF heq (by simp -implicitDefEqProofs only [go_sem, Ins.v, Ins.row, hs1, hs2]) ?_
  simp -implicitDefEqProofs only [go_sem, Ins.v, Ins.row, e2, e31, e32, h1, h2, hc5, l5, z5, hBn, hiB, Option.some.injEq, forall_eq']
  subst hQ
  exact ⟨by omega, by omega, .to (r2 := .bool _) (n2 := n' + 1) ⟨rfl, rfl⟩ (.sub (by simp -implicitDefEqProofs only [go_sem, Ins.v, Ins.row]))⟩
 have hb : bE (B : Int) = false := by rw [hbv]; simp [e1, e2]; intro h; by_cases c : ib.op = 29; exact c; exact absurd ⟨by omega, c⟩ e3
 by_cases e4 : (B : Int) ≤ (a : Int)
 ·have e5 : ib.op = 29 := by by_cases c : ib.op = 29; exact c; exact absurd ⟨e4, c⟩ e3
  simp -implicitDefEqProofs only [go_sem, Ins.v, Ins.row, sttV, hlo, hok, hpm, hpo, e1]
  refine CallS.pureF heq (by simp -implicitDefEqProofs only [go_sem, Ins.v, Ins.row, hs1, hs2]) ?_
  simp -implicitDefEqProofs only [go_sem, Ins.v, Ins.row, e2, e4, e5, h1, h2, hc5, l5, z5, hBn, hiB, Option.some.injEq, forall_eq']
  refine ⟨by omega, by omega, ⟨by omega, by omega⟩, ih _ (k + 1, n' + 1) ⟨by simp only; omega, any_next hno ht hb⟩ (by simp only; omega) (Weak.wk (Weak.of (by simp -implicitDefEqProofs only [go_sem, Ins.v, Ins.row, hzk]) (fun e he => by
   simp only [List.mem_cons, Ins.row] at he ⊢
   rcases he with h | h | h | h | h | h | h <;> simp only [h, eq_self, true_or, or_true]) (Nat.le_refl _)))⟩
 ·simp -implicitDefEqProofs only [go_sem, Ins.v, Ins.row, sttV, hlo, hok, hpm, hpo, e1]
  refine CallS.pureF heq (by simp -implicitDefEqProofs only [go_sem, Ins.v, Ins.row, hs1, hs2]) ?_
  simp -implicitDefEqProofs only [go_sem, Ins.v, Ins.row, e2, e4]
  refine ⟨⟨by omega, by omega⟩, ih _ (k + 1, n' + 1) ⟨by simp only; omega, any_next hno ht hb⟩ (by simp only; omega) (Weak.wk (Weak.of (by simp -implicitDefEqProofs only [go_sem, Ins.v, Ins.row, hzk]) (fun e he => by
   simp only [List.mem_cons, Ins.row] at he ⊢
   rcases he with h | h | h | h | h | h | h <;> simp only [h, eq_self, true_or, or_true]) (Nat.le_refl _)))⟩
-- EV: Ins.v, Ins.row
theorem violates_call (p : Fn) (hs : Sound p) (M : Nat → Option Stt) (L : List Nat) (hK : Kn p.regs.toNat p.code.length L M) (hS : StIs p.regs.toNat p.code p.params M) (a : Nat) (ha : a < p.code.length) (b0 st0 n : Nat) (hb : b0 = (64 * 10000 + 14)) :
  CallS Tryz.prog 66 [.agg p.row, .int .i64 a, .mp b0 st0] [(b0, st0, .map (mapE L (cellV p.regs.toNat M)))] n fun r h' n' => r = .bool (violF p M a) ∧ h' = [(b0, st0, .map (mapE L (cellV p.regs.toNat M)))] := by
 subst hb
 obtain ⟨h1, h2⟩ := fn_row11 p
 have hreg := hs.regs
 have hcl := hs.code
 have hok : ∀ z : Int, keyOK (.int .i64 z) (mapE L (cellV p.regs.toNat M)) = True := fun z => eq_true ((mapE_keys _ _).ok z)
 have hc5 : p.row[5]? = some (.isl (p.code.map Ins.row)) := by rw [Fn.row_eq]; rfl
 have l5 : (p.code.map Ins.row).length = p.code.length := List.length_map ..
 have z5 := eq_true (rowsz_of Ins.row 5 (fun _ => rfl) p.code)
 have r5 : ∀ (k : Nat) x, p.code[k]? = some x → (p.code.map Ins.row)[k]? = some (Ins.row x) := fun k x hk => by rw [List.getElem?_map, hk]; rfl
 obtain ⟨hi, him⟩ := insAt_mem ha
 have hir := r5 a _ hi
 cases hMa : M a with
 | none =>
  have hv : violF p M a = false := by unfold violF; rw [hMa]
  have hfa := mapE_no (F := cellV p.regs.toNat M) (hK.no hMa)
  rw [hv]
  generalize mapE L (cellV p.regs.toNat M) = es at *
  generalize p.row = pr at *
  refine CallS.enterK verify_violates_ok (Nat.le_of_ble_eq_true rfl) fun Q hQ => Run.go 100 ?_
  simp -implicitDefEqProofs only [go_sem, Ins.v, Ins.row, initSl, hfa, hok, h1]
  subst hQ
  exact .to (r2 := .bool _) (n2 := n + 1 + 1) ⟨rfl, rfl⟩ (.sub (by simp -implicitDefEqProofs only [go_sem, Ins.v, Ins.row]))
 | some s =>
  have hfa : mfind (.int .i64 (a : Nat)) (mapE L (cellV p.regs.toNat M)) = some (sttV (.isl (boolR p.regs.toNat s.set)) s) := by
   rw [mapE_yes (hK.yes hMa)]; simp only [cellV, hMa]
  have hia := hir
  have q0 : ((a : Int) < (p.code.length : Int)) = True := eq_true (by omega)
  have q1 : ((0 : Int) ≤ (a : Int)) = True := eq_true (by omega)
  have hfl := falls_pure (insAt p.code a)
  have hrd := vreads_call p hs _ him s (by have := hS.opn hs.fit a s hMa; omega)
  have hnx := next_pure p.code a (by omega)
  have hvl := fun m Q hQ => viol_loop p hs M L hK hS a ha s hMa n st0 m Q hQ
  have hll := hK.len
  have hml := hK.ml a s hMa
  have hcont : ∀ h, Heap.get h (66 * 10000 + 9) (n + 1 + 1) = some (.rows 5 [(insAt p.code a).row]) → ∀ n2, CallS Tryz.prog 82 [.isl (s.marks.map zrw), .fn 93 [.ptr (66 * 10000 + 9) (n + 1 + 1) 0 0]] h n2 fun r h' n' => r = .bool (s.marks.any fun z => decide ((insAt p.code a).a ≤ z)) ∧ h' = h :=
   fun h hh n2 => contains_int s.marks (by omega) (fun z => decide ((insAt p.code a).a ≤ z)) 93 [.ptr (66 * 10000 + 9) (n + 1 + 1) 0 0] h (by kernel_rfl) (fun x hx m => above_int _ x (n + 1 + 1) h m hh) n2
  generalize hes : mapE L (cellV p.regs.toNat M) = es at *
  generalize hii : insAt p.code a = i at *
  generalize hCR : p.code.map Ins.row = CR at *
  have hps := fun d h => (frz_eq (d := d) (h := h)).elim fun φ e => show p.row.map (frz d h) = p.row by rw [e]; exact Fn.row_sub φ p
  generalize hpr : p.row = pr at *
  have hvF : violF p M a = (falls i.op && decide ((a : Int) = (p.code.length : Int) - 1) || (!readsF p i s || (decide (i.op = 28) && s.marks.any (fun r => decide (i.a ≤ r)) || (decide (i.op = 17) && decide (0 < s.marks.length) || (nextL p.code a).any (badE p.code M a i s))))) := by
   unfold violF; simp only [hMa, hii]
  rw [hvF]
  refine CallS.enterK verify_violates_ok (Nat.le_of_ble_eq_true rfl) fun Q hQ => Run.go 15 ?_
  simp -implicitDefEqProofs only [go_sem, Ins.v, Ins.row, initSl, hfa, hok, sttV, h1, h2, hc5, l5, z5, q0, q1, hir, ha, Option.some.injEq, forall_eq']
  refine CallS.pureF hfl (by simp -implicitDefEqProofs only [go_sem, Ins.v, Ins.row]) ?_
  rw [show i.v = .agg [.int .i64 i.op, .int .i64 i.a, .int .i64 i.b, .int .i64 i.c, .int .i64 i.d] from rfl] at hrd
  obtain ⟨H4, hH4⟩ : ∃ H4 : Heap, ([((66 * 10000 + 9), n + 1 + 1, .rows 5 [[.int .i64 i.op, .int .i64 i.a, .int .i64 i.b, .int .i64 i.c, .int .i64 i.d]]), ((66 * 10000 + 7), n + 1, .rows 3 [[.isl (boolR p.regs.toNat s.set), .int .i64 s.opn, .isl (s.marks.map zrw)]]), ((66 * 10000 + 3), n, .rows 11 [pr]), ((64 * 10000 + 14), st0, .map es)] : Heap) = H4 := ⟨_, rfl⟩
  generalize hd1 : (decide ((a : Int) = (p.code.length : Int) - 1)) = d1 at *
  generalize falls i.op = f1 at *
  simp -implicitDefEqProofs only [go_sem, Ins.v, Ins.row, h1, h2, hc5, l5]
  refine Run.two (s0 := ⟨[(26, .bool (f1 && d1)), (9, .ptr (66 * 10000 + 9) (n + 1 + 1) 0 0), (7, .ptr (66 * 10000 + 7) (n + 1) 0 0), (3, .ptr (66 * 10000 + 3) n 0 0), (2, .mp (64 * 10000 + 14) st0), (1, .int .i64 a)], H4, n + 1 + 1 + 1⟩)
   (fun h => ⟨?_, ?_⟩) (fun h => ?_) ?_
  ·omega
  ·exact Weak.wk (Weak.of (by simp -implicitDefEqProofs only [go_sem, Ins.v, Ins.row, h, hd1]) (fun e he => by rw [← hH4] at he; exact he) (Nat.le_refl _))
  ·exact Weak.wk (Weak.of (by simp -implicitDefEqProofs only [go_sem, Ins.v, Ins.row, h]) (fun e he => by rw [← hH4] at he; exact he) (Nat.le_refl _))
  cases hv1 : (f1 && d1) with
  | true =>
   refine Run.go 100 ?_
   simp -implicitDefEqProofs only [go_sem, Ins.v, Ins.row]
   rw [hv1] at hQ
   subst hQ
   exact .to (r2 := .bool _) (n2 := n + 1 + 1 + 1) ⟨rfl, rfl⟩ (hH4 ▸ .sub (by simp -implicitDefEqProofs only [go_sem, Ins.v, Ins.row]))
  | false =>
  refine Run.go 12 ?_
  rw [← hH4]
  simp -implicitDefEqProofs only [go_sem, Ins.v, Ins.row, h1, h2]
  refine CallS.at [] [0, 1, 2, 3] (hrd _) rfl rfl ?_
  rintro r h' n2 hn2 ⟨rfl, rfl⟩
  rw [hv1, Bool.false_or] at hQ
  cases hrf : readsF p i s with
  | false =>
   rw [hrf] at hQ
   simp -implicitDefEqProofs only [go_sem, Ins.v, Ins.row]
   subst hQ
   exact .to (r2 := .bool _) (n2 := n2) ⟨rfl, rfl⟩ (.sub (by simp -implicitDefEqProofs only [go_sem, Ins.v, Ins.row]))
  | true =>
  rw [hrf, Bool.not_true, Bool.false_or] at hQ
  by_cases c28 : i.op = 28
  ·have c17 : ¬ i.op = 17 := by omega
   have q28 : decide (i.op = 28) = true := decide_eq_true c28
   have q17 : decide (i.op = 17) = false := decide_eq_false c17
   rw [q28, q17, Bool.true_and, Bool.false_and, Bool.false_or] at hQ
   simp -implicitDefEqProofs only [go_sem, Ins.v, Ins.row, c28]
   refine (hcont _ ?_ _).mono ?_
   ·simp -implicitDefEqProofs only [go_sem, Ins.v, Ins.row, Ins.row, c28]
   rintro r h' n3 ⟨rfl, rfl⟩
   cases han : s.marks.any (fun z => decide (i.a ≤ z)) with
   | true =>
    rw [han] at hQ
    simp -implicitDefEqProofs only [go_sem, Ins.v, Ins.row]
    subst hQ
    exact .to (r2 := .bool _) (n2 := n3) ⟨rfl, rfl⟩ (.sub (by simp -implicitDefEqProofs only [go_sem, Ins.v, Ins.row]))
   | false =>
    rw [han, Bool.false_or] at hQ
    simp -implicitDefEqProofs only [go_sem, Ins.v, Ins.row, c28]
    refine Run.wk ?_ (hvl n3 Q hQ)
    exact Weak.wk (Weak.of (by simp -implicitDefEqProofs only [go_sem, Ins.v, Ins.row]) (fun e he => by simp only [Ins.row, c28, c17] at he ⊢; exact he) (Nat.le_refl _))
  ·have q28 : decide (i.op = 28) = false := decide_eq_false c28
   by_cases c17 : i.op = 17
   ·have q17 : decide (i.op = 17) = true := decide_eq_true c17
    by_cases cl : 0 < s.marks.length
    ·have ql : decide (0 < s.marks.length) = true := decide_eq_true cl
     have ql2 : ((0 : Int) < (s.marks.length : Int)) = True := eq_true (by omega)
     rw [q28, q17, ql] at hQ
     simp -implicitDefEqProofs only [go_sem, Ins.v, Ins.row, c28, c17, ql2]
     refine Run.go 100 ?_
     simp -implicitDefEqProofs only [go_sem, Ins.v, Ins.row]
     subst hQ
     exact .to (r2 := .bool _) (n2 := n2) ⟨rfl, rfl⟩ (.sub (by simp -implicitDefEqProofs only [go_sem, Ins.v, Ins.row]))
    ·have ql : decide (0 < s.marks.length) = false := decide_eq_false cl
     have ql2 : ((0 : Int) < (s.marks.length : Int)) = False := eq_false (by omega)
     rw [q28, q17, ql] at hQ
     simp -implicitDefEqProofs only [go_sem, Ins.v, Ins.row, c28, c17, ql2]
     refine Run.wk ?_ (hvl n2 Q hQ)
     exact Weak.wk (Weak.of (by simp -implicitDefEqProofs only [go_sem, Ins.v, Ins.row]) (fun e he => by simp only [Ins.row, c28, c17] at he ⊢; exact he) (Nat.le_refl _))
   ·have q17 : decide (i.op = 17) = false := decide_eq_false c17
    rw [q28, q17] at hQ
    simp -implicitDefEqProofs only [go_sem, Ins.v, Ins.row, c28, c17]
    refine Run.wk ?_ (hvl n2 Q hQ)
    exact Weak.wk (Weak.of (by simp -implicitDefEqProofs only [go_sem, Ins.v, Ins.row]) (fun e he => by simp only [Ins.row, c28, c17] at he ⊢; exact he) (Nat.le_refl _))
end Go.Proofs.YtfkfphpnijkdlaaGreatDoor
