/-
 The change of peephole.Moves. No condition.
-/
import Derived.Test.YtoanghfeednogaaGreatDoorPeTR
import Derived.Test.YtoanghfeednogaaGreatDoorPeQ
import Derived.Test.YtoanghfeednogaaGreatDoorLiveP
set_option linter.unusedVariables false
set_option linter.unusedSimpArgs false
set_option maxRecDepth 100000
set_option maxHeartbeats 0
namespace Go.Proofs.YtoanghfeednogaaGreatDoor
open Go.Abs
attribute [local irreducible] A2 Run
-- EV: Ins.v, Ins.row
attribute [local go_sem] Ins.v Ins.row
theorem C3q (l : List Int) (hl : l.length ≤ 1000000) (w : Int) (h : A0) (n : Nat) : A2 Tryz.prog 27 [.isl (l.map zrw), .int .i64 w] h n fun r h' n' => r = .bool (l.any fun y => decide (w = y)) ∧ h' = h := by
 have key : ∀ n, A2 Tryz.prog 42 [.isl (l.map zrw), .int .i64 w] h n fun r h' n' => (∃ z : Int, r = .int .i64 z ∧ decide (0 ≤ z) = l.any fun y => decide (w = y)) ∧ h' = h := by
  intro n
  have la : (l.map zrw).length = l.length := List.length_map ..
  have za := eq_true (B0 zrw 1 (fun _ => rfl) l)
  have ra : ∀ (k : Nat) x, l[k]? = some x → (l.map zrw)[k]? = some (zrw x) := fun k x hk => by rw [List.getElem?_map, hk]; rfl
  generalize l.map zrw = A at *
  refine A2.enterK Y2 (Nat.le_of_ble_eq_true rfl) fun Q hQ => Run.go 100 ?_
  simp -implicitDefEqProofs only [go_sem, A5, la]
  refine Run.roundsK (fun (x : Nat × Nat) => ⟨[(8, .int .i64 x.1), (7, .int .i64 l.length), (1, .int .i64 w), (0, .isl A)], h, x.2⟩) (fun x => x.1 ≤ l.length ∧ (l.take x.1).any (fun y => decide (w = y)) = false) (fun x => l.length - x.1) (0, n) (B7.wk ⟨D0.1 (by simp -implicitDefEqProofs only [go_sem]), fun _ h => h, Nat.le_refl _⟩) ⟨Nat.zero_le _, rfl⟩ ?_
  rintro ⟨k, m⟩ ⟨hk, hno⟩ ih
  simp only at hk hno ih ⊢
  refine Run.unf A1r (Run.go 100 ?_)
  by_cases hlt : k < l.length
  ·have q0 : ((k : Int) < (l.length : Int)) = True := eq_true (by omega)
   have q1 : ((0 : Int) ≤ (k : Int)) = True := eq_true (by omega)
   obtain ⟨x, hx⟩ : ∃ x, l[k]? = some x := ⟨l[k], by simp [hlt]⟩
   have hxr := ra k x hx
   have hzk : ((k + 1 : Nat) : Int) = (k : Int) + 1 := by omega
   by_cases hfx : w = x
   ·simp -implicitDefEqProofs only [go_sem, q0, q1, la, za, hxr, zrw, hfx, Option.some.injEq, forall_eq']
    subst hQ
    have : decide ((0 : Int) ≤ k) = true := decide_eq_true (by omega)
    refine ⟨by omega, .is ⟨⟨k, rfl, ?_⟩, rfl⟩⟩
    rw [this, Z0 hx (decide_eq_true hfx)]
   ·have hfn := eq_false hfx
    simp -implicitDefEqProofs only [go_sem, q0, q1, la, za, hxr, zrw, hfn, Option.some.injEq, forall_eq']
    refine ⟨by omega, by omega, ?_⟩
    exact ih _ (k + 1, m) ⟨by simp only; omega, J0 hno hx (decide_eq_false hfx)⟩ (by simp only; omega) (B7.wk ⟨D0.1 (by simp -implicitDefEqProofs only [go_sem, hzk]), fun _ h => h, Nat.le_refl _⟩)
  ·have e : k = l.length := by omega
   subst e
   simp -implicitDefEqProofs only [go_sem, Int.lt_irrefl]
   subst hQ
   exact .is ⟨⟨-1, rfl, by rw [T8 hno]; rfl⟩, rfl⟩
 generalize l.map zrw = A at *
 refine A2.enterK S8 (Nat.le_of_ble_eq_true rfl) fun Q hQ => Run.go 100 ?_
 simp -implicitDefEqProofs only [go_sem, A5]
 refine (key n).mono ?_
 rintro r h' n' ⟨⟨z, rfl, hz⟩, rfl⟩
 simp -implicitDefEqProofs only [go_sem, hz]
 subst hQ
 exact .is ⟨rfl, rfl⟩
mutual
def A2m : Fn → Pro
 | ⟨a, b, c, d, e, f, l, k, ps, u, v⟩ => ⟨a, b, c, d, e, f, l, k.map Kst.row, toPros ps, u.map fun u => (u.name, u.loc, u.idx), v.map Vr.row⟩
def toPros : List Fn → List Pro
 | [] => []
 | p :: r => A2m p :: toPros r
end
theorem A8D : ∀ l, toPros l = l.map A2m
 | [] => rfl
 | p :: r => by rw [toPros, A8D r]; rfl
theorem B4M (p : Fn) : (A2m p).row = p.row := by
 induction p using Fn.ind with
 | h p ih =>
  rw [Fn.row_eq, Pro.row_eq]
  obtain ⟨a, b, c, d, e, f, l, k, ps, u, v⟩ := p
  rw [A2m, A8D]
  have h1 : (ps.map A2m).map Pro.row = ps.map Fn.row := by
   rw [List.map_map]; exact List.map_congr_left fun q hq => ih q hq
  have h2 : (u.map fun u => (u.name, u.loc, u.idx)).map B0g = u.map Upv.row := by
   rw [List.map_map]; rfl
  dsimp only
  rw [h1, h2]
  rfl
theorem B3t (p : Fn) : (A2m p).code = p.code := by obtain ⟨a, b, c, d, e, f, l, k, ps, u, v⟩ := p; rw [A2m]
theorem B9k (p : Fn) : (A2m p).regs = p.regs := by obtain ⟨a, b, c, d, e, f, l, k, ps, u, v⟩ := p; rw [A2m]
theorem C2l {p : Fn} {z : Nat} (h : ∀ q ∈ p.protos, q.ups.length ≤ z) : ∀ q ∈ (A2m p).protos, q.ups.length ≤ z := by
 obtain ⟨a, b, c, d, e, f, l, k, ps, u, v⟩ := p
 rw [A2m, A8D]
 intro q hq
 obtain ⟨x, hx, rfl⟩ := List.mem_map.1 hq
 have := h x hx
 obtain ⟨a, b, c, d, e, f, l, k, ps, u, v⟩ := x
 rw [A2m]
 simpa using this
noncomputable def lvF (p : Fn) (a : Nat) : List Int := lvL (A2m p) a
theorem C5x (p : Fn) (h : p.regs ≤ 4096) (a : Nat) : (lvF p a).length ≤ 1000000 := by
 unfold lvF lvL
 rw [List.length_map, B9k]
 refine Nat.le_trans (List.length_filter_le _ _) ?_
 rw [List.length_range]
 unfold A8s
 omega
theorem B8H (p : Fn) (hc : p.code.length ≤ 10000) (hup : ∀ q ∈ p.protos, q.ups.length ≤ 4398046510976) : Pure Tryz.prog 24 [.agg p.row] (.isl ((List.range p.code.length).map fun a => [.isl ((lvF p a).map zrw)])) := by
 have h := C1t (A2m p) (by rw [B3t]; exact hc) (by rw [B4M]; exact Fn.row_sub C0 p) (fun q hq => Nat.le_trans (C2l hup q hq) (by omega))
 rw [B4M] at h
 unfold B9Y at h
 rw [B3t] at h
 exact h
noncomputable def U1 (p : Fn) (k : Nat) : Bool := match p.code[k]? with
 | some i => decide (i.op = 1) && (A6v p.code k && (decide (i.a = i.b) || (!((lvF p (k + 1)).any fun y => decide (i.a = y)) && !B6S p i.a)))
 | none => false
noncomputable def Q6 (p : Fn) : Fn := E2 (U1 p) p
theorem B8Q {code : List Ins} {a : Nat} (h : A6v code a = true) : a + 1 < code.length := by
 rcases Nat.lt_or_ge (a + 1) code.length with h1 | h1
 ·exact h1
 ·unfold A6v at h
  rw [List.drop_of_length_le h1] at h
  cases h
theorem A8h (p : Fn) (hok : RemOK p) (hc : p.code.length ≤ 10000) (hp : p.bd) (hup : ∀ q ∈ p.protos, q.ups.length ≤ 4398046510976) (hrg : p.regs ≤ 4096) (hn : ∀ i ∈ p.code, i.op = 26 → 0 ≤ i.a) (hm : ∀ i ∈ p.code, i.op = 1 → i.a ≤ 1000000) :
  Pure Tryz.prog 23 [.agg p.row] (.agg (Q6 p).row) := by
 have hli := B8H p hc hup
 have hrc := B1m p hok (U1 p) 25
 obtain ⟨h1, h2⟩ := A9 p
 have hsub := Fn.row_sub C0 p
 have hB : ∀ i, i < p.code.length → ((List.range p.code.length).map fun a => [V.isl ((lvF p a).map zrw)])[i]? = some [.isl ((lvF p i).map zrw)] := fun i hi => by simp [hi]
 have hBl : ((List.range p.code.length).map fun a => [V.isl ((lvF p a).map zrw)]).length = p.code.length := by simp
 have hBz : B6 ((List.range p.code.length).map fun a => [V.isl ((lvF p a).map zrw)]) 1 = True := eq_true (fun r hr => by obtain ⟨y, _, rfl⟩ := List.mem_map.1 hr; rfl)
 have hqu := fun a ha => B8R p.code a ha (by omega)
 have hke := fun r hr => C1p p hp r hr hn
 have h5 : p.row[5]? = some (.isl (p.code.map Ins.row)) := by rw [Fn.row_eq]; rfl
 have hlC : (p.code.map Ins.row).length = p.code.length := List.length_map ..
 have hrC : ∀ (k : Nat) x, p.code[k]? = some x → (p.code.map Ins.row)[k]? = some x.row := fun k x h => by rw [List.getElem?_map, h]; rfl
 have hzC : B6 (p.code.map Ins.row) 5 = True := eq_true (B0 Ins.row 5 (fun _ => rfl) p.code)
 have hsC : (p.code.map Ins.row).map (fun r => r.map (V.sub C0)) = p.code.map Ins.row := D2E C0 p.code
 refine Pure.of 0 (A2.enter A0j (Nat.le_of_ble_eq_true rfl) (Run.go 100 ?_))
 unfold Q6
 have o1 : (E2 (U1 p) p).row.length = 11 := (A9 _).1
 have o2 : (E2 (U1 p) p).row.take 11 = (E2 (U1 p) p).row := (A9 _).2
 have o3 := Fn.row_sub C0 (E2 (U1 p) p)
 generalize (E2 (U1 p) p).row = out at *
 generalize p.row = pr at *
 generalize ((List.range p.code.length).map fun a => [V.isl ((lvF p a).map zrw)]) = B at *
 generalize p.code.map Ins.row = CR at *
 simp -implicitDefEqProofs only [go_sem, A5, h1, h2]
 refine A2.pureF hli (by simp -implicitDefEqProofs only [go_sem, hsub]) ?_
 simp -implicitDefEqProofs only [go_sem, h1, h2, Nat.reduceDiv]
 refine (hrc _ _ rfl (fun b hb e he => ?_) (fun k hk n => ?_) _).wk ?_
 ·simp only [List.mem_cons, List.not_mem_nil, or_false] at he
  intro e2
  rcases he with rfl | rfl | rfl <;> (dsimp only at e2; omega)
 ·refine A2.enterK n6 (Nat.le_of_ble_eq_true rfl) fun Q hQ => Run.go 100 ?_
  have k0 : ((0 : Int) ≤ (k : Int)) = True := eq_true (by omega)
  have k1 : (k < p.code.length) = True := eq_true hk
  obtain ⟨i, hi⟩ : ∃ i, p.code[k]? = some i := ⟨p.code[k]'(by omega), by simp⟩
  have hir := hrC k i hi
  have hge : U1 p k = (decide (i.op = 1) && (A6v p.code k && (decide (i.a = i.b) || (!((lvF p (k + 1)).any fun y => decide (i.a = y)) && !B6S p i.a)))) := by unfold U1; rw [hi]
  rw [hge] at hQ
  have hq := hqu k hk
  by_cases a1 : i.op = 1
  ·have hk1 := hke i.a (hm i (List.mem_of_getElem? hi) a1)
   simp -implicitDefEqProofs only [go_sem, A5, h1, h2, h5, hlC, hzC, hir, k0, k1, a1, Option.some.injEq, forall_eq']
   refine ⟨by omega, A2.pureF hq (by simp -implicitDefEqProofs only [go_sem, hsC]) ?_⟩
   cases hqt : A6v p.code k with
   | false =>
    simp -implicitDefEqProofs only [go_sem]
    subst hQ
    exact .to (r2 := .bool false) ⟨by simp [hqt], rfl⟩ (.turn id ⟨.refl _, trivial⟩ (.at 1 rfl rfl (.refl _) (.at 2 rfl rfl (.refl _) (.at 3 rfl rfl (.refl _) (.of fun e he => by cases he)))))
   | true =>
    have hnx := B8Q hqt
    by_cases a2 : i.a = i.b
    ·simp -implicitDefEqProofs only [go_sem, a2]
     subst hQ
     exact .to (r2 := .bool true) ⟨by simp [hqt, a1, a2], rfl⟩ (.turn id ⟨.refl _, trivial⟩ (.at 1 rfl rfl (.refl _) (.at 2 rfl rfl (.refl _) (.at 3 rfl rfl (.refl _) (.of fun e he => by cases he)))))
    ·have a3 := eq_false a2
     have k2 : ((0 : Int) ≤ (k : Int) + 1) = True := eq_true (by omega)
     have k3 : (((k : Int) + 1).toNat) = k + 1 := by omega
     have k4 : (k + 1 < p.code.length) = True := eq_true hnx
     have hBk := hB (k + 1) hnx
     simp -implicitDefEqProofs only [go_sem, a3, hBl, hBz, hBk, k2, k3, k4, Option.some.injEq, forall_eq']
     refine ⟨⟨by omega, by omega⟩, by omega, (C3q (lvF p (k + 1)) (C5x p hrg _) i.a _ _).mono ?_⟩
     rintro r h' n' ⟨rfl, rfl⟩
     cases hany : ((lvF p (k + 1)).any fun y => decide (i.a = y)) with
     | true =>
      simp -implicitDefEqProofs only [go_sem]
      subst hQ
      exact .to (r2 := .bool false) ⟨by simp only [hqt, a1, a2, hany]; rfl, rfl⟩ (.turn id ⟨.refl _, trivial⟩ (.at 1 rfl rfl (.refl _) (.at 2 rfl rfl (.refl _) (.at 3 rfl rfl (.refl _) (.of fun e he => by cases he)))))
     | false =>
      simp -implicitDefEqProofs only [go_sem, h1, h2]
      refine A2.pureF hk1 (by simp -implicitDefEqProofs only [go_sem, hsub]) ?_
      simp -implicitDefEqProofs only [go_sem]
      subst hQ
      exact .to (r2 := .bool (!B6S p i.a)) ⟨by simp only [hqt, a1, a2, hany]; simp, rfl⟩ (.turn id ⟨.refl _, trivial⟩ (.at 1 rfl rfl (.refl _) (.at 2 rfl rfl (.refl _) (.at 3 rfl rfl (.refl _) (.of fun e he => by cases he)))))
  ·have a2 := eq_false a1
   simp -implicitDefEqProofs only [go_sem, A5, h1, h2, h5, hlC, hzC, hir, k0, k1, a2, Option.some.injEq, forall_eq']
   subst hQ
   refine ⟨by omega, .to (r2 := .bool false) ⟨by simp [a1], rfl⟩ (.turn id ⟨.refl _, trivial⟩ (.at 1 rfl rfl (.refl _) (.at 2 rfl rfl (.refl _) (.at 3 rfl rfl (.refl _) (.of fun e he => by cases he)))))⟩
 ·rintro r h' n' ⟨rfl, rfl⟩
  simp -implicitDefEqProofs only [go_sem, Nat.reduceDiv]
  refine ⟨.agg out, _, n', .refl _, ?_⟩
  simp -implicitDefEqProofs only [go_sem, o1, o2, o3, Nat.reduceDiv]
  exact o3
end Go.Proofs.YtoanghfeednogaaGreatDoor
