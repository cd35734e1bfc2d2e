/-
  Instructions: their fields, forms and errors, as data. No program, no condition.
-/
import Derived.Test.YtkjcokmbjdafnaaDoorExe
set_option linter.unusedVariables false
set_option linter.unusedSimpArgs false
set_option maxRecDepth 100000
namespace Go.Proofs.YtkjcokmbjdafnaaDoor
open Go.Abs

structure Ins where
  op : Int
  a : Int
  b : Int
  c : Int
  d : Int
  deriving DecidableEq, Inhabited

def Ins.row (i : Ins) : List V := [.int .i64 i.op, .int .i64 i.a, .int .i64 i.b, .int .i64 i.c, .int .i64 i.d]
def Ins.v (i : Ins) : V := .agg i.row

/-- The form of an operation: its word, the kinds of its fields, its room. -/
structure Frm where
  word : List UInt8
  a : Int
  b : Int
  c : Int
  d : Int
  room : Int
  deriving DecidableEq, Inhabited
def Frm.row (f : Frm) : List V := [.str f.word, .int .i64 f.a, .int .i64 f.b, .int .i64 f.c, .int .i64 f.d, .int .i64 f.room]
def Frm.v (f : Frm) : V := .agg f.row

def wordT : List (List UInt8) := [[109, 111, 118, 101], [99, 111, 110, 115, 116], [110, 105, 108], [98, 111, 111, 108], [117, 112, 103, 101, 116], [117, 112, 115, 101, 116], [103, 108, 111, 98, 97, 108], [115, 101, 116, 103, 108, 111, 98], [103, 101, 116], [115, 101, 116], [115, 101, 108, 102], [117, 110, 97, 114, 121], [98, 105, 110, 97, 114, 121], [106, 117, 109, 112], [116, 101, 115, 116], [99, 97, 108, 108], [116, 97, 105, 108], [114, 101, 116, 117, 114, 110], [118, 97, 114, 97, 114, 103], [116, 97, 98, 108, 101], [97, 112, 112, 101, 110, 100], [99, 108, 111, 115, 117, 114, 101], [112, 114, 101, 112], [108, 111, 111, 112], [105, 116, 101, 114], [110, 101, 120, 116], [99, 108, 111, 115, 101], [109, 97, 114, 107], [115, 116, 97, 116]]

/-- By the number of the operation, from 0 on. -/
def frmT : List Frm := [
  ⟨[], 0, 0, 0, 0, 0⟩, ⟨[], 1, 1, 0, 0, 0⟩, ⟨[], 1, 2, 0, 0, 0⟩, ⟨[], 1, 1, 0, 0, 0⟩, ⟨[], 1, 8, 0, 0, 0⟩, ⟨[], 1, 3, 0, 0, 0⟩, ⟨[], 3, 1, 0, 0, 0⟩, ⟨[], 1, 2, 0, 0, 0⟩, ⟨[], 2, 1, 0, 0, 0⟩, ⟨[], 1, 1, 1, 0, 0⟩,
  ⟨[], 1, 1, 1, 0, 0⟩, ⟨[], 1, 1, 2, 0, 1⟩, ⟨[], 1, 1, 9, 0, 0⟩, ⟨[], 1, 1, 1, 10, 0⟩, ⟨[], 0, 5, 0, 0, 0⟩, ⟨[], 1, 5, 8, 0, 0⟩, ⟨[], 1, 7, 6, 0, 0⟩, ⟨[], 1, 7, 0, 0, 0⟩, ⟨[], 1, 7, 0, 0, 0⟩, ⟨[], 1, 6, 0, 0, 0⟩,
  ⟨[], 1, 0, 0, 0, 0⟩, ⟨[], 1, 7, 12, 0, 0⟩, ⟨[], 1, 4, 0, 0, 0⟩, ⟨[], 1, 5, 0, 0, 3⟩, ⟨[], 1, 5, 0, 0, 3⟩, ⟨[], 1, 0, 11, 0, 3⟩, ⟨[], 1, 5, 0, 0, 3⟩, ⟨[], 1, 0, 0, 0, 0⟩, ⟨[], 1, 0, 0, 0, 0⟩, ⟨[], 8, 0, 0, 0, 0⟩]

def isOp (op : Int) : Bool := decide (1 ≤ op ∧ op ≤ 29)
def frmN (n : Nat) : Frm := { frmT.getD n default with word := wordT.getD (n - 1) [] }
def frm (op : Int) : Frm := if isOp op then frmN op.toNat else ⟨[], 0, 0, 0, 0, 0⟩

def lowT : List Int := [0, 0, 0, 0, 0, 0, -1, -1, 0, 20, 1, 1, 1]
def highT : List Int := [0, 4095, 4095, 59, 1023, 16383, 200, 4096, 1, 23, 19, 200, 32767]
def low (k : Int) : Int := lowT.getD k.toNat 0
def high (k : Int) : Int := highT.getD k.toNat 0

def Frm.ks (f : Frm) : List Int := [f.a, f.b, f.c, f.d]
def Ins.fs (i : Ins) : List Int := [i.a, i.b, i.c, i.d]

def lastR (f : Frm) (i : Ins) : Int :=
  if i.op = 16 then mm2 true (i.a + i.b) (i.a + i.c - 1)
  else if i.op = 17 ∨ i.op = 21 then i.a + i.b
  else if i.op = 18 ∨ i.op = 19 then i.a + i.b - 1
  else if i.op = 25 then i.a + 2 + i.c
  else i.a + f.room

def fit1 (k x : Int) : Bool := decide (k = 0 → x = 0)
def fit2 (k x : Int) : Bool := decide (low k ≤ x ∧ x ≤ high k)

/-- The error of an instruction. -/
def chk (i : Ins) : Int :=
  if isOp i.op = false then 4
  else
    let f := frm i.op
    if (fit1 f.a i.a && fit1 f.b i.b && fit1 f.c i.c && fit1 f.d i.d) = false then 4
    else if (fit2 f.a i.a && fit2 f.b i.b && fit2 f.c i.c && fit2 f.d i.d) = false then 6
    else if f.a = 1 ∧ lastR f i ≥ 4096 ∨ i.op = 3 ∧ i.b < i.a then 6
    else 0

def isJump (op : Int) : Bool := decide (op = 14 ∨ op = 15 ∨ op = 23 ∨ op = 24 ∨ op = 26)
def falls (op : Int) : Bool := decide (op ≠ 14 ∧ op ≠ 17 ∧ op ≠ 18)

theorem op_cases {op : Int} (h : isOp op = true) : op = 1 ∨ op = 2 ∨ op = 3 ∨ op = 4 ∨ op = 5 ∨ op = 6 ∨ op = 7 ∨ op = 8 ∨ op = 9 ∨ op = 10 ∨ op = 11 ∨ op = 12 ∨ op = 13 ∨ op = 14 ∨ op = 15 ∨ op = 16 ∨ op = 17 ∨ op = 18 ∨ op = 19 ∨ op = 20 ∨ op = 21 ∨ op = 22 ∨ op = 23 ∨ op = 24 ∨ op = 25 ∨ op = 26 ∨ op = 27 ∨ op = 28 ∨ op = 29 := by
  unfold isOp at h
  have := of_decide_eq_true h
  omega
theorem isOp_nat {op : Int} (h : isOp op = true) : ∃ n : Nat, op = n ∧ 1 ≤ n ∧ n ≤ 29 := by
  have := of_decide_eq_true h
  exact ⟨op.toNat, by omega, by omega, by omega⟩

/-- The table of the words' and fields' bounds, as the reference has it. -/
structure Shp where
  word : List UInt8
  ha : Bool
  hb : Bool
  hc : Bool
  hd : Bool
  la : Int
  lb : Int
  lc : Int
  ld : Int
  ma : Int
  mb : Int
  mc : Int
  md : Int
  deriving DecidableEq, Inhabited
def Shp.row (s : Shp) : List V := [.str s.word, .bool s.ha, .bool s.hb, .bool s.hc, .bool s.hd, .int .i64 s.la, .int .i64 s.lb, .int .i64 s.lc, .int .i64 s.ld, .int .i64 s.ma, .int .i64 s.mb, .int .i64 s.mc, .int .i64 s.md]
def Shp.v (s : Shp) : V := .agg s.row

/-- What the reference's table should be, from the program's. -/
def roomOf (op : Int) : Int := (frm op).room
def shpN (n : Nat) : Shp :=
  let f := frmN n
  let h := fun k => !decide (k = (0 : Int))
  ⟨f.word, h f.a, h f.b, h f.c, h f.d, low f.a, low f.b, low f.c, low f.d, high f.a - f.room, high f.b, high f.c, high f.d⟩
def shp (op : Int) : Shp := if isOp op then shpN op.toNat else ⟨[], false, false, false, false, 0, 0, 0, 0, 0, 0, 0, 0⟩

def mx (a b : Int) : Int := mm2 true a b
def limitR (i : Ins) : Int :=
  if i.op = 16 then mx (i.a + mx i.b 0) (i.a + i.c - 1)
  else if i.op = 17 ∨ i.op = 21 then i.a + mx i.b 0
  else if i.op = 18 ∨ i.op = 19 then i.a + i.b - 1
  else if i.op = 25 then i.a + 2 + i.c
  else 0
def rfit1 (h : Bool) (x : Int) : Bool := h || decide (x = 0)
def rfit2 (h : Bool) (l m x : Int) : Bool := !h || decide (l ≤ x ∧ x ≤ m)
/-- The reference's error of an instruction. -/
def rchk (i : Ins) : Int :=
  if isOp i.op = false then 4
  else
    let s := shp i.op
    if (rfit1 s.ha i.a && rfit1 s.hb i.b && rfit1 s.hc i.c && rfit1 s.hd i.d) = false then 4
    else if (rfit2 s.ha s.la s.ma i.a && rfit2 s.hb s.lb s.mb i.b && rfit2 s.hc s.lc s.mc i.c && rfit2 s.hd s.ld s.md i.d) = false then 6
    else if i.op = 3 ∧ i.b < i.a ∨ limitR i > 4095 then 6
    else 0

theorem rchk_eq (i : Ins) : rchk i = chk i := by
  unfold rchk chk
  cases h : isOp i.op with
  | false => simp
  | true =>
    obtain ⟨op, a, b, c, d⟩ := i
    simp only at h ⊢
    rcases op_cases h with rfl | rfl | rfl | rfl | rfl | rfl | rfl | rfl | rfl | rfl | rfl | rfl | rfl | rfl | rfl | rfl | rfl | rfl | rfl | rfl | rfl | rfl | rfl | rfl | rfl | rfl | rfl | rfl | rfl <;>
    (simp [frm, shp, shpN, frmN, frmT, isOp, fit1, fit2, rfit1, rfit2, low, high, lowT, highT, lastR, limitR, mx, mm2]; try (repeat' split) <;> omega)

/-- What is known of an instruction that is accepted. -/
theorem chk_ok {i : Ins} (h : chk i = 0) : isOp i.op = true ∧ -1 ≤ i.a ∧ i.a ≤ 4095 ∧ -1 ≤ i.b ∧ i.b ≤ 16383 ∧ -1 ≤ i.c ∧ i.c ≤ 32767 ∧ 0 ≤ i.d ∧ i.d ≤ 19 ∧ 0 ≤ i.a := by
  unfold chk at h
  cases ho : isOp i.op with
  | false => rw [ho] at h; simp at h
  | true =>
    obtain ⟨op, a, b, c, d⟩ := i
    simp only at h ho ⊢
    rcases op_cases ho with rfl | rfl | rfl | rfl | rfl | rfl | rfl | rfl | rfl | rfl | rfl | rfl | rfl | rfl | rfl | rfl | rfl | rfl | rfl | rfl | rfl | rfl | rfl | rfl | rfl | rfl | rfl | rfl | rfl <;>
    (simp [frm, frmN, frmT, isOp, fit1, fit2, low, high, lowT, highT, lastR, mm2] at h; refine ⟨trivial, ?_⟩; omega)
end Go.Proofs.YtkjcokmbjdafnaaDoor
