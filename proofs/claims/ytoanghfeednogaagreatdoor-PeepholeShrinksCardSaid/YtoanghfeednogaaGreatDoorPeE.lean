/-
 What peephole.each answers. No condition.
-/
import Derived.Test.YtoanghfeednogaaGreatDoorPeS
import Derived.Test.YtoanghfeednogaaGreatDoorFnMb
set_option linter.unusedVariables false
set_option linter.unusedSimpArgs false
set_option maxRecDepth 100000
set_option maxHeartbeats 0
namespace Go.Proofs.YtoanghfeednogaaGreatDoor
open Go.Abs
attribute [local irreducible] A2 Run
abbrev eN (k : Nat) : Nat := 15 * 10000 + k
-- EV: eN
attribute [local go_sem] eN
def F5 (p : Fn) : Fn := { p with protos := p.protos.map G8 }
mutual
def B5 (g : Fn → Fn) : Fn → Fn
 | ⟨a, b, c, d, e, f, l, k, ps, u, v⟩ =>
  let p : Fn := ⟨a, b, c, d, e, f, l, k, ps, u, v⟩
  { (if Y5 (F5 p) = 0 then g p else p) with protos := eachsF g ps }
def eachsF (g : Fn → Fn) : List Fn → List Fn
 | [] => []
 | p :: r => B5 g p :: eachsF g r
end
theorem B2w (g : Fn → Fn) : ∀ l, eachsF g l = l.map (B5 g)
 | [] => rfl
 | p :: r => by rw [eachsF, B2w g r]; rfl
theorem V5 (g : Fn → Fn) (p : Fn) : B5 g p = { (if Y5 (F5 p) = 0 then g p else p) with protos := p.protos.map (B5 g) } := by
 obtain ⟨a, b, c, d, e, f, l, k, ps, u, v⟩ := p
 rw [B5, B2w]
theorem A6O (f : FuncId) (hf : F0 Tryz.prog f = true) (g : Fn → Fn) (P : Fn → Prop) (hch : ∀ p, P p → ∀ q ∈ p.protos, P q)
  (hb : ∀ p, P p → p.protos.length ≤ 100000 ∧ (∀ q ∈ p.protos, q.ups.length ≤ 4398046510976) ∧ (F5 p).bd ∧ (F5 p).depth ≤ 1000000)
  (hg : ∀ p, P p → Y5 (F5 p) = 0 → Pure Tryz.prog f [.agg p.row] (.agg (g p).row)) (p : Fn) (hp : P p) :
  Pure Tryz.prog 15 [.agg p.row, .fn f []] (.agg (B5 g p).row) := by
 induction p using Fn.ind with
 | h p ih' =>
 have ih : ∀ q ∈ p.protos, Pure Tryz.prog 15 [.agg q.row, .fn f []] (.agg (B5 g q).row) := fun q hq => ih' q hq (hch p hp q hq)
 clear ih'
 obtain ⟨b1, b2, b3, b4⟩ := hb p hp
 have hgp := fun h => hg p hp h
 have hsh := B7x p.protos b1 b2
 have hck := A1P (F5 p) b3 b4
 have hrS := Fn.rows_sub C0 p.protos
 have hrp := Fn.row_sub C0 p
 have hra := Fn.row_sub C0 (F5 p)
 have hE := V5 g p
 have hro := Fn.row_eq (F5 p)
 have hrw := Fn.row_eq p
 have hsub : ∀ q : Fn, q.row.map (V.sub C0) = q.row := Fn.row_sub C0
 have hlP : (p.protos.map Fn.row).length = p.protos.length := List.length_map ..
 have hzP : B6 (p.protos.map Fn.row) 11 = True := eq_true (fun r hr => by obtain ⟨y, _, rfl⟩ := List.mem_map.1 hr; exact Fn.row_len y)
 have hrP : ∀ (k : Nat) x, p.protos[k]? = some x → (p.protos.map Fn.row)[k]? = some x.row := fun k x h => by rw [List.getElem?_map, h]; rfl
 refine Pure.of 0 (A2.enterK A3d (Nat.le_of_ble_eq_true rfl) fun Q hQ => Run.go 100 ?_)
 obtain ⟨h1, h2⟩ := A9 p
 have h8 : p.row[8]? = some (.isl (p.protos.map Fn.row)) := by rw [Fn.row_eq]; rfl
 generalize hPR : p.protos.map Fn.row = PR at *
 generalize hpr : p.row = pr at *
 simp -implicitDefEqProofs only [go_sem, A5, h1, h2, h8, hlP]
 refine Run.roundsK (fun (x : Nat × Nat × Nat) => ⟨[(13, .int .i64 x.1), (12, .int .i64 p.protos.length), (11, .isl PR), (5, .sl (eN 22) x.2.1 0 x.1), (4, .ptr (eN 4) 1 0 0), (2, .ptr (eN 2) 0 0 0), (1, .fn f [])],
  [(eN 22, x.2.1, .rows 11 ((p.protos.take x.1).map fun q => (B5 g q).row)), (eN 4, 1, .rows 11 [[.str [], .int .i64 0, .int .i64 0, .bool false, .int .i64 0, .nils, .nils, .nils, .nils, .nils, .nils]]), (eN 2, 0, .rows 11 [pr])], x.2.2⟩)
  (fun x => x.1 ≤ p.protos.length) (fun x => p.protos.length - x.1) (0, 2, 3) ?_ (Nat.zero_le _) ?_
 ·refine .trans (.fresh (eN 22) 11 _ _ _) (.turn id ⟨.refl _, .refl _, .refl _, .nils, .refl _, .refl _, .refl _, trivial⟩ ?_)
  simp -implicitDefEqProofs only [go_sem, Nat.reduceDiv]
  exact .at 0 rfl rfl (.refl _) (.at 1 rfl rfl (.refl _) (.at 2 rfl rfl (.refl _) (.of fun e he => by cases he)))
 rintro ⟨k, st, m⟩ hk ih2
 dsimp only at hk ih2 ⊢
 refine Run.unf A7a (Run.go 100 ?_)
 by_cases c : (k : Int) < p.protos.length
 ·obtain ⟨q, hq⟩ : ∃ q, p.protos[k]? = some q := ⟨p.protos[k]'(by omega), by simp⟩
  have hqr := hrP k q hq
  have hqp := ih q (List.mem_of_getElem? hq)
  have hqs := hsub q
  obtain ⟨q1, q2⟩ := A9 q
  obtain ⟨o1, o2⟩ := A9 (B5 g q)
  have k0 : ((0 : Int) ≤ (k : Int)) = True := eq_true (by omega)
  have k1 : (k < p.protos.length) = True := eq_true (by omega)
  have e1 : p.protos.take (k + 1) = p.protos.take k ++ [q] := by rw [List.take_add_one, hq]; rfl
  have fin := fun s' st' m' => ih2 s' (k + 1, st', m') (by dsimp only; omega) (by dsimp only; omega)
  dsimp only at fin
  rw [e1, List.map_append, List.map_cons, List.map_nil] at fin
  have hRl : ((p.protos.take k).map fun q => (B5 g q).row).length = k := by simp; omega
  generalize ((p.protos.take k).map fun q => (B5 g q).row) = RR at *
  have htR : RR.take k = RR := List.take_of_length_le (by omega)
  have c61 : (k ≤ k) = True := eq_true (Nat.le_refl _)
  have c62 : (k ≤ 137438953471) = True := eq_true (by omega)
  generalize q.row = qr at *
  simp -implicitDefEqProofs only [go_sem, c, k0, k1, hlP, hzP, hqr, q1, q2, Nat.reduceDiv, Option.some.injEq, forall_eq']
  refine A2.pureF hqp (by simp -implicitDefEqProofs only [go_sem, hqs]) ?_
  generalize (B5 g q).row = out at *
  simp -implicitDefEqProofs only [go_sem, o1, o2, hRl, c61, c62, htR, Nat.reduceDiv]
  exact ⟨⟨by omega, by omega⟩, fin _ (m + 1) (m + 1 + 1) (.turn id ⟨.refl _, .refl _, .refl _, .refl _, .refl _, .refl _, .refl _, trivial⟩ (.at 0 rfl rfl (.refl _) (.at 2 rfl rfl (.refl _) (.at 3 rfl rfl (.refl _) (.of fun e he => by cases he)))))⟩
 ·obtain rfl : k = p.protos.length := by omega
  rw [List.take_length]
  clear ih2 ih hrP hb hch hg
  have hrw2 : pr = [.str p.name, .int .i64 p.line, .int .i64 p.params, .bool p.vararg, .int .i64 p.regs, .isl (p.code.map Ins.row), .isl (p.lines.map D2), .isl (p.consts.map Kst.row), .isl PR, .isl (p.ups.map Upv.row), .isl (p.vars.map Vr.row)] := by rw [← hpr, Fn.row_eq, hPR]
  have hal : (F5 p).row = [.str p.name, .int .i64 p.line, .int .i64 p.params, .bool p.vararg, .int .i64 p.regs, .isl (p.code.map Ins.row), .isl (p.lines.map D2), .isl (p.consts.map Kst.row), .isl ((p.protos.map G8).map Fn.row), .isl (p.ups.map Upv.row), .isl (p.vars.map Vr.row)] := by rw [Fn.row_eq]; rfl
  have hgr := Fn.row_eq (g p)
  have hgs := Fn.row_sub C0 (g p)
  have hEr : ∀ r : Fn, (B5 g p) = { r with protos := p.protos.map (B5 g) } → (B5 g p).row = [.str r.name, .int .i64 r.line, .int .i64 r.params, .bool r.vararg, .int .i64 r.regs, .isl (r.code.map Ins.row), .isl (r.lines.map D2), .isl (r.consts.map Kst.row), .isl (p.protos.map fun q => (B5 g q).row), .isl (r.ups.map Upv.row), .isl (r.vars.map Vr.row)] := fun r h => by
   rw [h, Fn.row_eq]; simp
  have hLl : (p.protos.map fun q => (B5 g q).row).length = p.protos.length := List.length_map ..
  have hEs := Fn.row_sub C0 (B5 g p)
  rw [hal] at hck hra
  rw [hgr] at hgp hgs
  generalize hce : Y5 (F5 p) = ce at *
  generalize (p.protos.map fun q => (B5 g q).row) = LL at *
  generalize (p.protos.map G8).map Fn.row = SR at *
  subst hrw2
  clear hrw hro hpr h1 h2 h8 hal hgr
  simp -implicitDefEqProofs only [go_sem, c, Nat.reduceDiv]
  refine A2.pureF hsh (by simp -implicitDefEqProofs only [go_sem, hrS]) ?_
  simp -implicitDefEqProofs only [go_sem, Nat.reduceDiv]
  refine A2.pureF hck (by simp -implicitDefEqProofs only [go_sem, hra]) ?_
  by_cases hc : ce = 0
  ·rw [if_pos hc] at hE
   have hEE := hEr _ hE
   have hc0 : (ce = 0) = True := eq_true hc
   simp -implicitDefEqProofs only [go_sem, hc0, Nat.reduceDiv]
   refine ⟨hf, A2.pureF (hgp hc) (by simp -implicitDefEqProofs only [go_sem, hrp]) ?_⟩
   simp -implicitDefEqProofs only [go_sem, Nat.reduceDiv]
   subst hQ
   refine u9.to (r2 := .agg (B5 g p).row) (h2 := []) (n2 := m + 1 + 1) ?_ ?_
   ·generalize (B5 g p).row = ER at *
    simp -implicitDefEqProofs only [go_sem]
    exact hEs
   ·rw [hEE]
    exact .freeze (b := eN 22) (st := st) (sz := 11) (rs := LL) (by simp) ⟨Frz.agg ⟨.of (.refl _), .of (.refl _), .of (.refl _), .of (.refl _), .of (.refl _), .of (.refl _), .of (.refl _), .of (.refl _), Frz.all hLl.symm, .of (.refl _), .of (.refl _), trivial⟩, trivial⟩ trivial
  ·rw [if_neg hc] at hE
   have hEE := hEr _ hE
   have hc0 : (ce = 0) = False := eq_false hc
   simp -implicitDefEqProofs only [go_sem, hc0, Nat.reduceDiv]
   subst hQ
   refine u9.to (r2 := .agg (B5 g p).row) (h2 := []) (n2 := m + 1 + 1) ?_ ?_
   ·generalize (B5 g p).row = ER at *
    simp -implicitDefEqProofs only [go_sem]
    exact hEs
   ·rw [hEE]
    exact .freeze (b := eN 22) (st := st) (sz := 11) (rs := LL) (by simp) ⟨Frz.agg ⟨.of (.refl _), .of (.refl _), .of (.refl _), .of (.refl _), .of (.refl _), .of (.refl _), .of (.refl _), .of (.refl _), Frz.all hLl.symm, .of (.refl _), .of (.refl _), trivial⟩, trivial⟩ trivial
end Go.Proofs.YtoanghfeednogaaGreatDoor
