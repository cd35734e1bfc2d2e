/-
  Functions (api.Proto) as data. No condition.
-/
import Derived.Test.YtkcehagdbecolaaGreatDoorOpT
import Derived.Test.YtkcehagdbecolaaGreatDoorArg
import Derived.Test.YtkcehagdbecolaaGreatDoorChecked
set_option linter.unusedVariables false
set_option linter.unusedSimpArgs false
set_option maxRecDepth 100000
namespace Go.Proofs.YtkcehagdbecolaaGreatDoor
open Go.Abs

/-- A function; constants and variables stand as rows. -/
structure Pro where
  name : List UInt8
  line : Int
  params : Int
  vararg : Bool
  regs : Int
  code : List Ins
  lines : List Int
  consts : List (List V)
  protos : List Pro
  ups : List (List UInt8 × Bool × Int)
  vars : List (List V)

def zline (z : Int) : List V := [.int .i64 z]
def upRow (u : List UInt8 × Bool × Int) : List V := [.str u.1, .bool u.2.1, .int .i64 u.2.2]

mutual
def Pro.row : Pro → List V
  | ⟨name, line, params, vararg, regs, code, lines, consts, protos, ups, vars⟩ =>
    [.str name, .int .i64 line, .int .i64 params, .bool vararg, .int .i64 regs, .isl (code.map Ins.row), .isl (lines.map zline), .isl consts, .isl (Pro.rows protos), .isl (ups.map upRow), .isl vars]
def Pro.rows : List Pro → List (List V)
  | [] => []
  | p :: r => Pro.row p :: Pro.rows r
end

theorem Pro.rows_map : ∀ l : List Pro, Pro.rows l = l.map Pro.row
  | [] => rfl
  | p :: r => by rw [Pro.rows, Pro.rows_map r]; rfl
theorem Pro.row_eq (p : Pro) : p.row = [.str p.name, .int .i64 p.line, .int .i64 p.params, .bool p.vararg, .int .i64 p.regs, .isl (p.code.map Ins.row), .isl (p.lines.map zline), .isl p.consts, .isl (p.protos.map Pro.row), .isl (p.ups.map upRow), .isl p.vars] := by
  obtain ⟨a, b, c, d, e, f, g, h, i, j, k⟩ := p
  rw [Pro.row, Pro.rows_map]

theorem insP_of {row : List V} (h : Typed Tryz.prog 38 row) : ∃ i : Ins, row = i.row := by
  have h := h.fields Tryz.underlying38
  obtain ⟨a1, b1, rfl, h1, a2, b2, rfl, h2, a3, b3, rfl, h3, a4, b4, rfl, h4, a5, b5, rfl, h5, rfl⟩ := h
  obtain ⟨n1, rfl, _⟩ := h1.int_inv Tryz.underlying3
  obtain ⟨n2, rfl, _⟩ := h2.int_inv Tryz.underlying3
  obtain ⟨n3, rfl, _⟩ := h3.int_inv Tryz.underlying3
  obtain ⟨n4, rfl, _⟩ := h4.int_inv Tryz.underlying3
  obtain ⟨n5, rfl, _⟩ := h5.int_inv Tryz.underlying3
  exact ⟨⟨n1, n2, n3, n4, n5⟩, rfl⟩
theorem up_of {row : List V} (h : Typed Tryz.prog 84 row) : ∃ u, row = upRow u := by
  have h := h.fields Tryz.underlying84
  obtain ⟨a1, b1, rfl, h1, a2, b2, rfl, h2, a3, b3, rfl, h3, rfl⟩ := h
  obtain ⟨n1, rfl, _⟩ := h1.str_inv Tryz.underlying9
  obtain ⟨n2, rfl⟩ := h2.bool_inv Tryz.underlying4
  obtain ⟨n3, rfl, _⟩ := h3.int_inv Tryz.underlying3
  exact ⟨(n1, n2, n3), rfl⟩

theorem rowsOf_map {β : Type} {f : β → List V} {es : List (List V)} (h : ∀ row ∈ es, ∃ z, row = f z) : ∃ zs : List β, es = zs.map f := by
  obtain ⟨zs, h1, _⟩ := rows_map (f := f) (p := fun _ => True) (es := es) fun row hr => by obtain ⟨z, hz⟩ := h row hr; exact ⟨z, hz, trivial⟩
  exact ⟨zs, h1⟩

/-- Data of the type are functions. -/
theorem pro_of {t : TypeId} {row : List V} (h : Typed Tryz.prog t row) : (t = 29 → ∃ p : Pro, row = p.row) ∧ (t = 25 → ∃ ps : List Pro, row = [.isl (ps.map Pro.row)]) := by
  induction h with
  | bool h b => exact ⟨fun e => (by subst e; rw [Tryz.underlying29] at h; cases h), fun e => (by subst e; rw [Tryz.underlying25] at h; cases h)⟩
  | int h n hn => exact ⟨fun e => (by subst e; rw [Tryz.underlying29] at h; cases h), fun e => (by subst e; rw [Tryz.underlying25] at h; cases h)⟩
  | str h s hs => exact ⟨fun e => (by subst e; rw [Tryz.underlying29] at h; cases h), fun e => (by subst e; rw [Tryz.underlying25] at h; cases h)⟩
  | slice h es hl he ih =>
    refine ⟨fun e => (by subst e; rw [Tryz.underlying29] at h; cases h), fun e => ?_⟩
    subst e
    rw [Tryz.underlying25] at h
    cases h
    obtain ⟨ps, rfl⟩ := rowsOf_map fun row hr => (ih row hr).1 rfl
    exact ⟨ps, rfl⟩
  | struct h cs hl hf ih =>
    refine ⟨fun e => ?_, fun e => (by subst e; rw [Tryz.underlying25] at h; cases h)⟩
    subst e
    rw [Tryz.underlying29] at h
    cases h
    match cs, hl with
    | [x0, x1, x2, x3, x4, x5, x6, x7, x8, x9, x10], _ =>
      have g := fun i f c h1 h2 => hf i f c h1 h2
      obtain ⟨v0, rfl, _⟩ := (hf 0 _ x0 rfl rfl).str_inv Tryz.underlying9
      obtain ⟨v1, rfl, _⟩ := (hf 1 _ x1 rfl rfl).int_inv Tryz.underlying3
      obtain ⟨v2, rfl, _⟩ := (hf 2 _ x2 rfl rfl).int_inv Tryz.underlying3
      obtain ⟨v3, rfl⟩ := (hf 3 _ x3 rfl rfl).bool_inv Tryz.underlying4
      obtain ⟨v4, rfl, _⟩ := (hf 4 _ x4 rfl rfl).int_inv Tryz.underlying3
      obtain ⟨e5, rfl, _, h5⟩ := (hf 5 _ x5 rfl rfl).slice_inv Tryz.underlying22
      obtain ⟨code, rfl⟩ := rowsOf_map fun row hr => insP_of (h5 row hr)
      obtain ⟨e6, rfl, _, h6⟩ := (hf 6 _ x6 rfl rfl).slice_inv Tryz.underlying23
      obtain ⟨lines, rfl⟩ := rowsOf_map (f := zline) fun row hr => by obtain ⟨n, h, _⟩ := (h6 row hr).int_inv Tryz.underlying3; exact ⟨n, h⟩
      obtain ⟨e7, rfl, _, h7⟩ := (hf 7 _ x7 rfl rfl).slice_inv Tryz.underlying24
      obtain ⟨ps, rfl⟩ := (ih 8 _ x8 rfl rfl).2 rfl
      obtain ⟨e9, rfl, _, h9⟩ := (hf 9 _ x9 rfl rfl).slice_inv Tryz.underlying26
      obtain ⟨ups, rfl⟩ := rowsOf_map fun row hr => up_of (h9 row hr)
      obtain ⟨e10, rfl, _, h10⟩ := (hf 10 _ x10 rfl rfl).slice_inv Tryz.underlying27
      exact ⟨⟨v0, v1, v2, v3, v4, code, lines, e7, ps, ups, e10⟩, by rw [Pro.row_eq]; rfl⟩
  | array h cs hl hf => exact ⟨fun e => (by subst e; rw [Tryz.underlying29] at h; cases h), fun e => (by subst e; rw [Tryz.underlying25] at h; cases h)⟩
end Go.Proofs.YtkcehagdbecolaaGreatDoor
