/-
  Code under construction, as data: what each call does. No program, no condition.
-/
import Derived.Test.YtlckjdhammcpaaaDoorOpT
set_option linter.unusedVariables false
set_option linter.unusedSimpArgs false
set_option maxRecDepth 100000
namespace Go.Proofs.YtlckjdhammcpaaaDoor
open Go.Abs

structure Itm where
  i : Ins
  line : Int
  label : Int
  deriving DecidableEq, Inhabited
def Itm.row (x : Itm) : List V := x.i.row ++ [.int .i64 x.line, .int .i64 x.label]

/-- The items, and the places of the labels (-1: none yet). -/
structure Lab where
  items : List Itm
  places : List Int
  deriving Inhabited

def Lab.new : Lab := ⟨[], []⟩
def Lab.add (L : Lab) (i : Ins) (line label : Int) : Int × Int × Lab := ((L.items.length : Nat), 0, { L with items := L.items ++ [⟨i, line, label⟩] })
def Lab.emit (L : Lab) (i : Ins) (line : Int) : Int × Int × Lab :=
  if chk i ≠ 0 then (0, chk i, L) else if line < 0 then (0, 2, L) else L.add i line (-1)
def Lab.jump (L : Lab) (i : Ins) (line label : Int) : Int × Int × Lab :=
  if isJump i.op = false then (0, 4, L)
  else if chk { i with b := 0 } ≠ 0 then (0, chk { i with b := 0 }, L)
  else if line < 0 then (0, 2, L)
  else if label < 0 ∨ label ≥ L.places.length then (0, 12, L)
  else L.add { i with b := 0 } line label
def Lab.label (L : Lab) : Int × Lab := ((L.places.length : Nat), { L with places := L.places ++ [-1] })
def Lab.place (L : Lab) (label : Int) : Int × Lab :=
  if label < 0 ∨ label ≥ L.places.length then (12, L)
  else if L.places.getD label.toNat 0 ≠ -1 then (10, L)
  else (0, { L with places := L.places.set label.toNat (L.items.length : Nat) })

/-- Where an item jumps to; none: not yet known, or behind the end. -/
def Lab.target (L : Lab) (x : Itm) : Option Int :=
  let p := L.places.getD x.label.toNat 0
  if p = -1 ∨ p ≥ L.items.length then none else some p
def Lab.fix (L : Lab) (x : Itm) : Option Ins :=
  if x.label ≥ 0 then (L.target x).map fun p => { x.i with b := p } else some x.i
def Lab.fixes (L : Lab) : List Itm → Option (List Ins)
  | [] => some []
  | x :: r => match L.fix x, L.fixes r with
    | some y, some ys => some (y :: ys)
    | _, _ => none
/-- The code and the lines, or none. -/
def Lab.finish (L : Lab) : Option (List Ins) := L.fixes L.items

structure Lab.OK (L : Lab) : Prop where
  items : L.items.length ≤ 1000
  places : L.places.length ≤ 1000
  label : ∀ x ∈ L.items, -1 ≤ x.label ∧ x.label < L.places.length
  at_ : ∀ p ∈ L.places, -1 ≤ p ∧ p ≤ 1000

theorem Lab.fixes_append (L : Lab) (xs ys : List Itm) : L.fixes (xs ++ ys) = match L.fixes xs, L.fixes ys with | some a, some b => some (a ++ b) | _, _ => none := by
  induction xs with
  | nil => simp [Lab.fixes]; cases L.fixes ys <;> rfl
  | cons x r ih =>
    simp only [List.cons_append, Lab.fixes, ih]
    cases L.fix x <;> cases L.fixes r <;> cases L.fixes ys <;> simp

/-- A call. -/
structure Cal where
  kind : Int
  i : Ins
  line : Int
  label : Int
  deriving Inhabited
def Cal.row (c : Cal) : List V := [.int .i64 c.kind] ++ c.i.row ++ [.int .i64 c.line, .int .i64 c.label]
def Cal.v (c : Cal) : V := .agg c.row

def Lab.call (L : Lab) (c : Cal) : Int × Int × Lab :=
  if c.kind = 0 then L.emit c.i c.line
  else if c.kind = 1 then L.jump c.i c.line c.label
  else if c.kind = 2 then (L.label.1, 0, L.label.2)
  else (0, (L.place c.label).1, (L.place c.label).2)

/-- Room for some more calls. -/
def Lab.room (L : Lab) (n : Nat) : Prop := L.items.length + n ≤ 1000 ∧ L.places.length + n ≤ 1000

end Go.Proofs.YtlckjdhammcpaaaDoor
