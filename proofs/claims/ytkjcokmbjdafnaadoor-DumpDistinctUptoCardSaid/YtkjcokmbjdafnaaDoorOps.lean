/-
  Abstract states and the abstract meaning of the model's operations; the translation of code into abstract code. No condition.
-/
import Derived.Test.YtkjcokmbjdafnaaDoorAbs
set_option linter.unusedVariables false
set_option linter.unusedSimpArgs false
namespace Go.Abs

structure St where
  sl : List (Nat × V)
  h : Heap
  n : Nat

def sset : List (Nat × V) → Nat → V → List (Nat × V)
  | [], i, v => [(i, v)]
  | p :: r, i, v => bif Nat.beq p.1 i then (i, v) :: r else bif Nat.blt p.1 i then (i, v) :: p :: r else p :: sset r i v

inductive Opd where
  | t (i : Nat)
  | c (v : V)
  | f (g : FuncId)
  | g (g : Nat)

def St.ev (s : St) : Opd → V
  | .t i => sget s.sl i
  | .c v => v
  | .f g => .fn g []
  | .g g => globV g

/-- The shape of a type whose values can be compared: a leaf (0: bool, 1: int, 2: string), or a struct's fields (place, size, shape). -/
inductive ETy where
  | leaf (k : Nat)
  | agg (fs : List (Nat × Nat × ETy))

inductive AO where
  | mov (x : Opd)
  | pick (c a b : Opd)
  | nilck (x : Opd)
  | box (nm sz : Nat) (x : Opd)
  | build (z : List V) (ps : List (Nat × Nat × Opd))
  | mkrow (nm sz : Nat) (xs : List Opd)
  | mkisl (sz : Nat) (xs : List Opd)
  | mkraw (nm : Nat) (xs : List Opd)
  | cvr (x : Opd)
  | load (n : Nat) (agg : Bool) (x : Opd)
  | store (n : Nat) (x v : Opd)
  | faddr (off : Nat) (x : Opd)
  | iaddr (sz : Nat) (x i : Opd)
  | iaddrA (len sz : Nat) (x i : Opd)
  | fld (off n : Nat) (agg : Bool) (x : Opd)
  | idx (x i : Opd)
  | ext (i : Nat) (x : Opd)
  | bin (op : BinOp) (x y : Opd)
  | binw (op : BinOp) (x y : Opd)
  | negw (x : Opd)
  | eqp (kind : Nat) (neg : Bool) (x y : Opd)
  | eqa (neg : Bool) (t : ETy) (x y : Opd)
  | un (op : UnOp) (x : Opd)
  | conv (k : IntKind) (x : Opd)
  | cap0 (x : Opd)
  | grw (nm : Nat) (z : List V) (x y : Opd)
  | rgm (nm : Nat) (x : Opd)
  | nxm (x : Opd)
  | ent (x : Opd)
  | bst (x : Opd)
  | byts (nm : Nat) (x : Opd)
  | isnil (neg : Bool) (x : Opd)
  | eqn (fn : Bool) (neg : Bool) (x : Opd)
  | len (kind : Nat) (x : Opd)
  | lenc (n : Nat)
  | mm (mx : Bool) (xs : List Opd)
  | app (nm sz : Nat) (s x : Opd)
  | apb (L nm sz : Nat) (s x : Opd)
  | copy (sz : Nat) (d x : Opd)
  | mksl (nm : Nat) (z : List V) (x : Opd)
  | slc (sz : Nat) (x : Opd) (lo hi : Option Opd)
  | sls (x : Opd) (lo hi : Option Opd)
  | mkfn (f : FuncId) (xs : List Opd)
  | mkmap (nm : Nat)
  | look (kd : Nat) (z : V) (ok : Bool) (m k : Opd)
  | mput (kd : Nat) (m k v : Opd)
  | mdel (kd : Nat) (m k : Opd)
  | sh (left : Bool) (x y : Opd)
  | idxA (len sz n : Nat) (agg : Bool) (x i : Opd)
  | clr (z : List V) (x : Opd)
  | slz (nm sz : Nat) (x : Opd)
  | call (f : FuncId) (xs : List Opd)
  | pcall (f : FuncId) (xs : List Opd)
  | callp (f : FuncId) (xs : List Opd)
  | boxi (sz : Nat) (x : Opd)
  | tas (t : TypeId) (x : Opd)
  | mki (t : TypeId) (x : Opd)
  | pan (x : Opd)
  | loadi (n : Nat) (agg : Bool) (x : Opd)
  | callv (f : Opd) (xs : List Opd)
  | bad

structure AI where
  d : Option Nat
  g : Option (Nat × Bool)
  o : AO
@[reducible] def AI.j (d : Nat) (o : AO) : AI := ⟨some d, none, o⟩
@[reducible] def AI.k (d g : Nat) (b : Bool) (o : AO) : AI := ⟨some d, some (g, b), o⟩
@[reducible] def AI.e (o : AO) : AI := ⟨none, none, o⟩
@[reducible] def Opd.z (n : Int) : Opd := .c (.int .i64 n)

inductive AC where
  | skip
  | ops (l : List (List AI))
  | seq (a b : AC)
  | cond (c : Opd) (a b : AC)
  | block (id : Nat) (a : AC)
  | loop (a : AC)
  | exit (id : Nat)
  | ret
  | rng (nm : Nat) (f : Opd) (ps : List Nat) (a b : AC)
  | dfr (d : Nat)
  | bad

inductive AItem where
  | code (c : AC)
  | blk (id : Nat)
  | lp (c : AC)
  | beg

/-! The abstract meaning of the operations. -/

abbrev Res := V → Heap → Nat → Prop

def RL (E : Env) (as : List V) (vs : Array Value) : Prop := as.length = vs.size ∧ ∀ (i : Nat) c v, as[i]? = some c → vs[i]? = some v → R E c v

def CallS (P : Program) (f : FuncId) (as : List V) (h : Heap) (n : Nat) (k : Res) : Prop :=
  ∀ w O ρ cargs, HeapR w O ρ n h → RL (envOf w O ρ n h) as cargs → Calls P f cargs w fun e w' =>
    ∃ v r h' n' ρ', e = .returned v ∧ k r h' n' ∧ HeapR w' O ρ' n' h' ∧ R (envOf w' O ρ' n' h') r v ∧ Ext (envOf w O ρ n h) (envOf w' O ρ' n' h')

/-- What is asked where a call panics: of what it panics with, and of memory then. -/
abbrev PanK := Value → Heap → Nat → Prop
def noPan : PanK := fun _ _ _ => False
/-- A call that returns or panics. -/
def CallP (P : Program) (f : FuncId) (as : List V) (h : Heap) (n : Nat) (k : Res) (pk : PanK) : Prop :=
  ∀ w O ρ cargs, HeapR w O ρ n h → RL (envOf w O ρ n h) as cargs → Calls P f cargs w fun e w' =>
    (∃ v r h' n' ρ', e = .returned v ∧ k r h' n' ∧ HeapR w' O ρ' n' h' ∧ R (envOf w' O ρ' n' h') r v ∧ Ext (envOf w O ρ n h) (envOf w' O ρ' n' h')) ∨
    ∃ x h' n' ρ', e = .panicked [{ v := x, recovered := false }] ∧ pk x h' n' ∧ HeapR w' O ρ' n' h' ∧ Ext (envOf w O ρ n h) (envOf w' O ρ' n' h')
theorem CallS.toP {P : Program} {f : FuncId} {as : List V} {h : Heap} {n : Nat} {k : Res} {pk : PanK} (hc : CallS P f as h n k) : CallP P f as h n k pk :=
  fun w O ρ cargs h1 h2 => (hc w O ρ cargs h1 h2).mono fun _ _ h => .inl h

def optR (o : Option V) (k : Res) (h : Heap) (n : Nat) : Prop :=
  match o with
  | some v => k v h n
  | none => False

def cellsV : V → Option (List V)
  | .agg cs => some cs
  | .cst .nilFunc => some [.cst .nilFunc]
  | .cst .nilIface => some [.cst .nilIface]
  | .undef | .tup _ | .cst _ => none
  | v => some [v]

def pickV : V → V → V → Option V
  | .bool c, .bool x, .bool y => some (.bool (bif c then x else y))
  | .bool c, x, y => some (bif c then x else y)
  | _, _, _ => none

def nilckV : V → Option V
  | .ptr b st i j => some (.ptr b st i j)
  | .iptr es i j => some (.iptr es i j)
  | .fn f cs => some (.fn f cs)
  | _ => none

def boxK (nm sz : Nat) (cs : Option (List V)) (k : Res) (h : Heap) (n : Nat) : Prop :=
  match cs with
  | some cs => cs.length = sz ∧ k (.ptr nm n 0 0) (Heap.put h nm n (.rows sz [cs])) (n + 1)
  | none => False

/-- A box that is never written again. -/
def boxiK (sz : Nat) (cs : Option (List V)) (k : Res) (h : Heap) (n : Nat) : Prop :=
  match cs with
  | some cs => cs.length = sz ∧ k (.iptr [cs] 0 0) h n
  | none => False

def putCells (z : List V) (off : Nat) (cs : List V) : List V := z.take off ++ cs ++ z.drop (off + cs.length)

def fillV (s : St) (z : List V) : List (Nat × Nat × Opd) → Option (List V)
  | [] => some z
  | p :: r => match cellsV (s.ev p.2.2) with
    | some cs => bif Nat.beq cs.length p.2.1 && Nat.ble (p.1 + cs.length) z.length then fillV s (putCells z p.1 cs) r else none
    | none => none

def rowsOf (sz : Nat) (s : St) : List Opd → Option (List (List V))
  | [] => some []
  | x :: r => match cellsV (s.ev x), rowsOf sz s r with
    | some cs, some rs => bif Nat.beq cs.length sz then some (cs :: rs) else none
    | _, _ => none

def rowK (nm sz : Nat) (rs : Option (List (List V))) (k : Res) (h : Heap) (n : Nat) : Prop :=
  match rs with
  | some rs => k (.sl nm n 0 rs.length) (Heap.put h nm n (.rows sz rs)) (n + 1)
  | none => False

/-- A row of bytes that is about to be turned into a slice. -/
def rawK (nm : Nat) (rs : Option (List (List V))) (k : Res) (h : Heap) (n : Nat) : Prop :=
  match rs with
  | some rs => 0 < rs.length ∧ k (.sl nm n 0 rs.length) (Heap.put h nm n (.raw rs)) (n + 1)
  | none => False
def cvrB (b : Option Blk) (f : List (List V) → Prop) : Prop :=
  match b with
  | some (.raw rs) => f rs
  | _ => False
def cvrK (x : V) (k : Res) (h : Heap) (n : Nat) : Prop :=
  match x with
  | .sl b st 0 m => cvrB (Heap.get h b st) fun rs => m = rs.length ∧ k (.sl b st 0 m) (Heap.put h b st (.rows 1 rs)) n
  | _ => False

def islK (rs : Option (List (List V))) (k : Res) (h : Heap) (n : Nat) : Prop :=
  match rs with
  | some rs => k (.isl rs) h n
  | none => False

def loadRow (row : List V) (j n : Nat) (agg : Bool) : Option V :=
  bif agg then (bif Nat.ble (j + n) row.length then some (.agg ((row.drop j).take n)) else none) else row[j]?

def rowAt (rs : List (List V)) (i : Nat) (f : List V → Option V) : Option V :=
  match rs[i]? with
  | some row => f row
  | none => none

def loadV (h : Heap) (x : V) (n : Nat) (agg : Bool) : Option V :=
  match x with
  | .ptr b st i j => match Heap.get h b st with
    | some (.rows _ rs) => match rs[i]? with
      | some row => loadRow row j n agg
      | none => none
    | _ => none
  | .iptr es i j => match es[i]? with
    | some row => loadRow row j n agg
    | none => none
  | _ => none

/-- A load from a box that is never written again. -/
def loadiK (m : Nat) (agg : Bool) (x : V) (k : Res) (h : Heap) (n : Nat) : Prop :=
  match x with
  | .iptr es i j => optR (rowAt es i fun row => loadRow row j m agg) k h n
  | _ => False

def storeIn (h : Heap) (b st : Nat) (i j n : Nat) (blk : Option Blk) (cs : Option (List V)) : Option Heap :=
  match blk, cs with
  | some (.rows sz rs), some cs => match rs[i]? with
    | some row => bif Nat.beq cs.length n && Nat.ble (j + n) row.length then some (Heap.put h b st (.rows sz (rs.set i (putCells row j cs)))) else none
    | none => none
  | _, _ => none

def storeV (h : Heap) (x v : V) (n : Nat) : Option Heap :=
  match x with
  | .ptr b st i j => storeIn h b st i j n (Heap.get h b st) (cellsV v)
  | _ => none

def heapK (h : Option Heap) (k : Res) (n : Nat) : Prop :=
  match h with
  | some h => k .undef h n
  | none => False

def faddrV (off : Nat) : V → Option V
  | .ptr b st i j => some (.ptr b st i (j + off))
  | .iptr es i j => some (.iptr es i (j + off))
  | _ => none

def rowsz (es : List (List V)) (sz : Nat) : Prop := ∀ row ∈ es, row.length = sz

def blkSz : Option Blk → Option Nat
  | some (.rows sz _) => some sz
  | _ => none

def iaddrK (sz : Nat) (x i : V) (k : Res) (h : Heap) (n : Nat) : Prop :=
  match i with
  | .int _ z => match x with
    | .sl b st i0 m => 0 ≤ z ∧ z < m ∧ blkSz (Heap.get h b st) = some sz ∧ k (.ptr b st (i0 + z.toNat) 0) h n
    | .isl es => 0 ≤ z ∧ z < es.length ∧ rowsz es sz ∧ k (.iptr es z.toNat 0) h n
    | _ => False
  | _ => False

def iaddrAK (len sz : Nat) (x i : V) (k : Res) (h : Heap) (n : Nat) : Prop :=
  match i with
  | .int _ z => match x with
    | .ptr b st i0 j => 0 ≤ z ∧ z < len ∧ k (.ptr b st i0 (j + z.toNat * sz)) h n
    | .iptr es i0 j => 0 ≤ z ∧ z < len ∧ k (.iptr es i0 (j + z.toNat * sz)) h n
    | _ => False
  | _ => False

def fldV (off n : Nat) (agg : Bool) : V → Option V
  | .agg cs => loadRow cs off n agg
  | _ => none

def idxK (x i : V) (k : Res) (h : Heap) (n : Nat) : Prop :=
  match x, i with
  | .str s, .int _ z => 0 ≤ z ∧ optR ((s[z.toNat]?).map fun b => .int .u8 b.toNat) k h n
  | _, _ => False

def extV (i : Nat) : V → Option V
  | .tup vs => vs[i]?
  | _ => none

def inR (k : IntKind) (z : Int) : Prop :=
  match k with
  | .i64 => -9223372036854775808 ≤ z ∧ z ≤ 9223372036854775807
  | _ => True

def wrapV (k : IntKind) (z : Int) : V :=
  match k with
  | .i64 => .int .i64 z
  | k => .int k (k.wrap z)

def arithK (k : IntKind) (z : Int) (c : Res) (h : Heap) (n : Nat) : Prop := inR k z ∧ c (wrapV k z) h n

def bytesLt : List UInt8 → List UInt8 → Bool := Op.bytesLess

/-- Bits of two numbers. -/
def bitZ (op : BinOp) (j : IntKind) (a b : Int) : Int :=
  let x := BitVec.ofInt j.bits a
  let y := BitVec.ofInt j.bits b
  j.wrap (match op with
    | .and => (x &&& y).toNat
    | .or => (x ||| y).toNat
    | .xor => (x ^^^ y).toNat
    | _ => (x &&& ~~~y).toNat)

def binK (op : BinOp) (x y : V) (k : Res) (h : Heap) (n : Nat) : Prop :=
  match x, y with
  | .int j a, .int j' b => j = j' ∧ match op with
    | .add => arithK j (a + b) k h n
    | .sub => arithK j (a - b) k h n
    | .mul => arithK j (a * b) k h n
    | .quo => b ≠ 0 ∧ arithK j (a.tdiv b) k h n
    | .rem => b ≠ 0 ∧ k (.int j (a.tmod b)) h n
    | .eql => k (.bool (decide (a = b))) h n
    | .neq => k (.bool (decide (¬ a = b))) h n
    | .lss => k (.bool (decide (a < b))) h n
    | .leq => k (.bool (decide (a ≤ b))) h n
    | .gtr => k (.bool (decide (b < a))) h n
    | .geq => k (.bool (decide (b ≤ a))) h n
    | .and => k (.int j (bitZ .and j a b)) h n
    | .or => k (.int j (bitZ .or j a b)) h n
    | .xor => k (.int j (bitZ .xor j a b)) h n
    | .andNot => k (.int j (bitZ .andNot j a b)) h n
    | _ => False
  | .str a, .str b => match op with
    | .add => a.length + b.length ≤ 1099511627776 ∧ k (.str (a ++ b)) h n
    | .eql => k (.bool (decide (a = b))) h n
    | .neq => k (.bool (decide (¬ a = b))) h n
    | .lss => k (.bool (bytesLt a b)) h n
    | .geq => k (.bool (!bytesLt a b)) h n
    | .leq => k (.bool (bytesLt a b || decide (a = b))) h n
    | .gtr => k (.bool !(bytesLt a b || decide (a = b))) h n
    | _ => False
  | _, _ => False

/-- A sum, difference or product that wraps. -/
def binwV (op : BinOp) (x y : V) : Option V :=
  match x, y with
  | .int j a, .int j' b => match op with
    | .add => if j = j' then some (.int j (j.wrap (a + b))) else none
    | .sub => if j = j' then some (.int j (j.wrap (a - b))) else none
    | .mul => if j = j' then some (.int j (j.wrap (a * b))) else none
    | _ => none
  | _, _ => none

/-- A negation that wraps. -/
def negwV : V → Option V
  | .int j a => some (.int j (j.wrap (0 - a)))
  | _ => none

def shZ (left : Bool) (j : IntKind) (a b : Int) : Int := bif left then j.wrap (a * 2 ^ (min b.toNat j.bits)) else a.fdiv (2 ^ (min b.toNat j.bits))
def shK (left : Bool) (x y : V) (k : Res) (h : Heap) (n : Nat) : Prop :=
  match x, y with
  | .int j a, .int _ b => 0 ≤ b ∧ k (.int j (shZ left j a b)) h n
  | _, _ => False

def idxAK (len sz m : Nat) (agg : Bool) (x i : V) (k : Res) (h : Heap) (n : Nat) : Prop :=
  match x, i with
  | .agg cs, .int _ z => 0 ≤ z ∧ z < len ∧ optR (loadRow cs (z.toNat * sz) m agg) k h n
  | _, _ => False

def clrK (z : List V) (x : V) (k : Res) (h : Heap) (n : Nat) : Prop :=
  match x with
  | .nils => k (.tup []) h n
  | .sl b st i m => match Heap.get h b st with
    | some (.rows sz rs) => sz = z.length ∧ i + m ≤ rs.length ∧ k (.tup []) (Heap.put h b st (.rows sz (rs.take i ++ List.replicate m z ++ rs.drop (i + m)))) n
    | _ => False
  | _ => False

def slzK (nm sz : Nat) (x : V) (k : Res) (h : Heap) (n : Nat) : Prop :=
  match x with
  | .nils | .isl _ | .sl .. => k (.sl nm n 0 0) (Heap.put h nm n (.rows sz [])) (n + 1)
  | _ => False

def eqpV (neg : Bool) : V → V → Option V
  | .nilp, .nilp | .nilm, .nilm => some (.bool !neg)
  | .ptr .., .nilp | .nilp, .ptr .. | .iptr .., .nilp | .nilp, .iptr .. | .mp .., .nilm => some (.bool neg)
  | .bool a, .bool b => some (.bool (bif neg then decide (¬ a = b) else decide (a = b)))
  | _, _ => none

/-- 0: pointers, 1: maps, 2: bools -/
def kindV : Nat → V → Bool
  | 0, .nilp | 0, .ptr .. | 0, .iptr .. => true
  | 1, .nilm | 1, .mp .. => true
  | 2, .bool _ => true
  | _, _ => false

def eqLeaf : Nat → V → V → Option Bool
  | 0, .bool a, .bool b => some (decide (a = b))
  | 1, .int j a, .int j' b => bif decide (j = j') then some (decide (a = b)) else none
  | 2, .str a, .str b => some (decide (a = b))
  | _, _, _ => none

def andO : Option Bool → Option Bool → Option Bool
  | some a, some b => some (a && b)
  | _, _ => none

/-- Equality of two rows of cells at a comparable type. -/
def eqE : ETy → List V → List V → Option Bool
  | .leaf k, [x], [y] => eqLeaf k x y
  | .leaf _, _, _ => none
  | .agg fs, xs, ys => eqFs fs xs ys
where
  eqFs : List (Nat × Nat × ETy) → List V → List V → Option Bool
    | [], _, _ => some true
    | p :: r, xs, ys => andO (eqE p.2.2 ((xs.drop p.1).take p.2.1) ((ys.drop p.1).take p.2.1)) (eqFs r xs ys)

def eqaV (neg : Bool) (t : ETy) : V → V → Option V
  | .agg xs, .agg ys => (eqE t xs ys).map fun b => .bool (bif neg then !b else b)
  | _, _ => none

def unK (op : UnOp) (x : V) (k : Res) (h : Heap) (n : Nat) : Prop :=
  match op, x with
  | .neg, .int j a => arithK j (0 - a) k h n
  | .not, .bool b => k (.bool !b) h n
  | .xor, .int j a => k (.int j (bitZ .xor j (bif j.signed then -1 else j.max) a)) h n
  | _, _ => False

def convV (j : IntKind) : V → Option V
  | .int _ z => some (.int j (j.wrap z))
  | _ => none

def isnilV (neg : Bool) : V → Option V
  | .cst .nilIface => some (.bool !neg)
  | .cst (.iface _ _) => some (.bool neg)
  | .err => some (.bool neg)
  | _ => none

def mapLen : Option Blk → Option V
  | some (.map es) => some (.int .i64 es.length)
  | _ => none

/-- 0: slices, 1: strings, 2: maps -/
def lenV (h : Heap) : Nat → V → Option V
  | 0, .sl _ _ _ m => some (.int .i64 m)
  | 0, .isl es => some (.int .i64 es.length)
  | 0, .nils => some (.int .i64 0)
  | 1, .str s => some (.int .i64 s.length)
  | 2, .nilm => some (.int .i64 0)
  | 2, .mp b st => mapLen (Heap.get h b st)
  | _, _ => none

def mm2 (mx : Bool) (a b : Int) : Int := bif mx then (if b > a then b else a) else (if b < a then b else a)

def mmV (mx : Bool) : List V → Option V
  | [.int j a, .int j' b] => bif decide (j = j') then some (.int j (mm2 mx a b)) else none
  | _ => none

/-- The rows that a slice shows. -/
def viewV (h : Heap) : V → Option (List (List V))
  | .nils => some []
  | .isl es => some es
  | .sl b st i m => match Heap.get h b st with
    | some (.rows _ rs) => bif Nat.ble (i + m) rs.length then some ((rs.drop i).take m) else none
    | _ => bif Nat.beq m 0 then some [] else none
  | _ => none

def strRows (s : List UInt8) : List (List V) := s.map fun b => [.int .u8 b.toNat]

def srcV (h : Heap) : V → Option (List (List V))
  | .str s => some (strRows s)
  | v => viewV h v

/-- The capacity of nil. -/
def cap0V : V → Option V
  | .nils => some (.int .i64 0)
  | _ => none

/-- So many zero values put behind nil. -/
def grwK (nm : Nat) (z : List V) (x y : V) (k : Res) (h : Heap) (n : Nat) : Prop :=
  match x, y with
  | .nils, .int .i64 m => 0 < m ∧ m ≤ 137438953472 ∧ k (.sl nm n 0 m.toNat) (Heap.put h nm n (.rows z.length (List.replicate m.toNat z))) (n + 1)
  | _, _ => False

/-- A range over a map: its iterator; the map keeps its entries' stamps as long as it is ranged over. -/
def rgmB (nm b st : Nat) (B : Option Blk) (k : Res) (h : Heap) (n : Nat) : Prop :=
  match B with
  | some (.map es) => ∀ (bs : List Nat) (ck : Nat), bs.length = es.length → k (.ptr nm n 0 0) (Heap.put (Heap.put h b st (.mapb es bs ck)) nm n (.iter st es bs ck (bs.zip es) none)) (n + 1)
  | _ => False
def rgmK (nm : Nat) (x : V) (k : Res) (h : Heap) (n : Nat) : Prop :=
  match x with
  | .mp b st => nm ≠ b ∧ rgmB nm b st (Heap.get h b st) k h n
  | _ => False

/-- The name of the block with a stamp. -/
def ofStamp : Heap → Nat → Option (Nat × Blk)
  | [], _ => none
  | e :: r, st => bif Nat.beq e.2.1 st then some (e.1, e.2.2) else ofStamp r st
def nxmM (M : Option (Nat × Blk)) (f : Nat → List (V × V) → List Nat → Nat → Prop) : Prop :=
  match M with
  | some (mb, .mapb es bs ck) => f mb es bs ck
  | _ => False
def nxmB (b st : Nat) (B : Option Blk) (k : Res) (h : Heap) (n : Nat) : Prop :=
  match B with
  | some (.iter mst es bs ck left last) => nxmM (ofStamp h mst) fun mb es' bs' ck' => es' = es ∧ bs' = bs ∧ ck' = ck ∧ mb ≠ b ∧ (left = [] → k (.tup [.bool false]) (Heap.put h mb mst (.map es)) n) ∧
      ∀ x e y, left = x ++ e :: y → k (.tup [.bool true, e.2.1, e.2.2]) (Heap.put h b st (.iter mst es bs ck (x ++ y) (some e.2))) n
  | _ => False
def nxmK (x : V) (k : Res) (h : Heap) (n : Nat) : Prop :=
  match x with
  | .ptr b st 0 0 => nxmB b st (Heap.get h b st) k h n
  | _ => False
def entB (B : Option Blk) (k : Res) (h : Heap) (n : Nat) : Prop :=
  match B with
  | some (.iter mst es bs ck _ (some p)) => nxmM (ofStamp h mst) fun _ es' bs' ck' => es' = es ∧ bs' = bs ∧ ck' = ck ∧ k (.tup [p.1, p.2]) h n
  | _ => False
def entK (x : V) (k : Res) (h : Heap) (n : Nat) : Prop :=
  match x with
  | .ptr b st 0 0 => entB (Heap.get h b st) k h n
  | _ => False

/-- The bytes of rows of bytes. -/
def byteV : List (List V) → Option (List UInt8)
  | [] => some []
  | [.int .u8 z] :: r => match byteV r with
    | some l => some (UInt8.ofNat z.toNat :: l)
    | none => none
  | _ => none

def bstV : Option (List (List V)) → Option V
  | some rs => match byteV rs with
    | some l => some (.str l)
    | none => none
  | none => none

def bytsK (nm : Nat) (x : V) (k : Res) (h : Heap) (n : Nat) : Prop :=
  match x with
  | .str s => k (.sl nm n 0 s.length) (Heap.put h nm n (.rows 1 (strRows s))) (n + 1)
  | _ => False

def appK (L nm sz : Nat) (s : V) (xs : Option (List (List V))) (k : Res) (h : Heap) (n : Nat) : Prop :=
  match xs with
  | none => False
  | some xs => rowsz xs sz ∧ match s with
    | .nils => xs.length ≤ L ∧ k (.sl nm n 0 xs.length) (Heap.put h nm n (.rows sz xs)) (n + 1)
    | .sl b st i m => match Heap.get h b st with
      | some (.rows sz' rs) => sz' = sz ∧ i + m ≤ rs.length ∧ m + xs.length ≤ L ∧
          k (.sl b n 0 (m + xs.length)) (Heap.put h b n (.rows sz ((rs.drop i).take m ++ xs))) (n + 1)
      | _ => False
    | _ => False

def copyK (sz : Nat) (d : V) (xs : Option (List (List V))) (k : Res) (h : Heap) (n : Nat) : Prop :=
  match xs with
  | none => False
  | some xs => rowsz xs sz ∧ match d with
    | .nils => k (.int .i64 0) h n
    | .sl b st i m => match Heap.get h b st with
      | some (.rows sz' rs) => sz' = sz ∧ i + m ≤ rs.length ∧
          k (.int .i64 (min xs.length m : Nat)) (Heap.put h b st (.rows sz (rs.take i ++ xs.take (min xs.length m) ++ rs.drop (i + min xs.length m)))) n
      | _ => False
    | _ => False

def mkslK (nm : Nat) (z : List V) (x : V) (k : Res) (h : Heap) (n : Nat) : Prop :=
  match x with
  | .int .i64 m => 0 ≤ m ∧ m ≤ 137438953472 ∧ k (.sl nm n 0 m.toNat) (Heap.put h nm n (.rows z.length (List.replicate m.toNat z))) (n + 1)
  | _ => False

def boundV (d : Int) : Option V → Option Int
  | none => some d
  | some (.int _ z) => some z
  | _ => none

def slcK (sz : Nat) (x : V) (lo hi : Option V) (k : Res) (h : Heap) (n : Nat) : Prop :=
  match x with
  | .sl b st i m => match boundV 0 lo, boundV m hi with
    | some l, some u => blkSz (Heap.get h b st) = some sz ∧ 0 ≤ l ∧ l ≤ u ∧ u ≤ m ∧ k (.sl b st (i + l.toNat) (u - l).toNat) h n
    | _, _ => False
  | .isl es => match boundV 0 lo, boundV es.length hi with
    | some l, some u => rowsz es sz ∧ 0 ≤ l ∧ l ≤ u ∧ u ≤ es.length ∧ k (.isl ((es.drop l.toNat).take (u - l).toNat)) h n
    | _, _ => False
  | .nils => match boundV 0 lo, boundV 0 hi with
    | some l, some u => l = 0 ∧ u = 0 ∧ k .nils h n
    | _, _ => False
  | _ => False

def slsK (x : V) (lo hi : Option V) (k : Res) (h : Heap) (n : Nat) : Prop :=
  match x with
  | .str s => match boundV 0 lo, boundV s.length hi with
    | some l, some u => 0 ≤ l ∧ l ≤ u ∧ u ≤ s.length ∧ k (.str ((s.drop l.toNat).take (u - l).toNat)) h n
    | _, _ => False
  | _ => False

/-- Keys of maps: integers, bools, strings. -/
def keyEq : V → V → Option Bool
  | .int j a, .int j' b => bif decide (j = j') then some (decide (a = b)) else none
  | .str a, .str b => some (decide (a = b))
  | .bool a, .bool b => some (decide (a = b))
  | _, _ => none

def keyOK : V → List (V × V) → Prop
  | _, [] => True
  | k, e :: r => (keyEq k e.1).isSome = true ∧ keyOK k r

def mfind (k : V) : List (V × V) → Option V
  | [] => none
  | e :: r => bif (keyEq k e.1).getD false then some e.2 else mfind k r

def mset (k v : V) : List (V × V) → List (V × V)
  | [] => [(k, v)]
  | e :: r => bif (keyEq k e.1).getD false then (k, v) :: r else e :: mset k v r

def mrem (k : V) : List (V × V) → List (V × V)
  | [] => []
  | e :: r => bif (keyEq k e.1).getD false then r else e :: mrem k r

/-- 0: integers, 1: strings, 2: bools -/
def keyV : Nat → V → Bool
  | 0, .int .. | 1, .str _ | 2, .bool _ => true
  | _, _ => false

def oneV : V → Bool
  | .undef | .tup _ | .cst _ => false
  | _ => true

def lookV (z : V) (ok : Bool) (r : Option V) : V :=
  match r with
  | some v => bif ok then .tup [v, .bool true] else v
  | none => bif ok then .tup [z, .bool false] else z

def lookK (kd : Nat) (z : V) (ok : Bool) (m key : V) (k : Res) (h : Heap) (n : Nat) : Prop :=
  match m with
  | .nilm => keyV kd key = true ∧ k (lookV z ok none) h n
  | .mp b st => match Heap.get h b st with
    | some (.map es) => keyV kd key = true ∧ keyOK key es ∧ k (lookV z ok (mfind key es)) h n
    | _ => False
  | _ => False

def mputK (kd : Nat) (m key v : V) (k : Res) (h : Heap) (n : Nat) : Prop :=
  match m with
  | .mp b st => match Heap.get h b st with
    | some (.map es) => keyV kd key = true ∧ keyOK key es ∧ k .undef (Heap.put h b st (.map (mset key v es))) n
    | _ => False
  | _ => False

def mdelK (kd : Nat) (m key : V) (k : Res) (h : Heap) (n : Nat) : Prop :=
  match m with
  | .nilm => keyV kd key = true ∧ k (.tup []) h n
  | .mp b st => match Heap.get h b st with
    | some (.map es) => keyV kd key = true ∧ keyOK key es ∧ k (.tup []) (Heap.put h b st (.map (mrem key es))) n
    | _ => False
  | _ => False

def hasBody (P : Program) (g : FuncId) : Bool :=
  match P.funcs[g]? with
  | some fn => fn.body.isSome && !(fn.name == "runtime.NumGoroutine")
  | none => false

/-- What a round's end is. -/
def RoundR (P : Program) (w : World) (O : Nat → Prop) (ρ : Nat → Loc) (h : Heap) (n : Nat) (k : Res) : Ending → World → Prop := fun e w' =>
  ∃ v x h' n' ρ', e = .returned v ∧ k x h' n' ∧ HeapR w' O ρ' n' h' ∧ R (envOf w' O ρ' n' h') x v ∧ Ext (envOf w O ρ n h) (envOf w' O ρ' n' h')

/-- A round of a range over a function. -/
def RndS (P : Program) (b st : Nat) (as : List V) (h : Heap) (n : Nat) (k : Res) : Prop :=
  ∀ w O ρ cargs, HeapR w O ρ n h → st < n → RL (envOf w O ρ n h) as cargs → ∃ r : Loop, w.heap[(ρ st).blk]? = some (.loop r) ∧ cargs.size = r.params.size ∧
    RoundIn Fence.wide 0 P (ρ st).blk r.fn ((r.params.zip cargs).foldl (fun tmps (t, a) => tmps.setIfInBounds t a) r.tmps) r.assign r.body w (RoundR P w O ρ h n k)

def callvK (P : Program) (f : V) (as : List V) (h : Heap) (n : Nat) (k : Res) : Prop :=
  match f with
  | .fn g cs => hasBody P g = true ∧ CallS P g (as ++ cs) h n k
  | .yld b st => RndS P b st as h n k
  | _ => False

/-- A slice, or a function, compared with nil. -/
def eqnK (fn neg : Bool) (x : V) (k : Res) (h : Heap) (n : Nat) : Prop :=
  match fn, x with
  | false, .nils => k (.bool !neg) h n
  | false, .isl es => k (.bool neg) h n ∧ (es = [] → k (.bool !neg) h n)
  | false, .sl _ _ _ m => k (.bool neg) h n ∧ (m = 0 → k (.bool !neg) h n)
  | true, .fn _ _ => k (.bool neg) h n
  | true, .cst .nilFunc => k (.bool !neg) h n
  | _, _ => False

/-- A call that leaves the heap as it is. -/
def pcallK (P : Program) (f : FuncId) (as : List V) (k : Res) (h : Heap) (n : Nat) : Prop := ∃ r, (∀ k' : Res, k' r h n → CallS P f as h n k') ∧ k r h n

def cV : Value → Option V
  | .bool b => some (.bool b)
  | .int k n => some (.int k n)
  | .string s => some (.str s.data.toList)
  | .pointer none => some .nilp
  | .slice none 0 0 => some .nils
  | .map none => some .nilm
  | .nilFunc => some (.cst .nilFunc)
  | .nilIface => some (.cst .nilIface)
  | _ => none

def cVs : List Value → Option (List V)
  | [] => some []
  | v :: r => match cV v, cVs r with
    | some x, some xs => some (x :: xs)
    | _, _ => none

def zV (z : Value) : Option V :=
  match z with
  | .agg cs => (cVs cs.toList).map .agg
  | v => cV v

/-- The value that a number, or one number in a struct, stands for. -/
def unV : V → Option Value
  | .int k z => some (.int k z)
  | .agg [.int k z] => some (.agg #[.int k z])
  | _ => none
def panK (PK : PanK) : V → Heap → Nat → Prop
  | .cst (.iface t u), h, n => PK (.iface t u) h n
  | _, _, _ => False
/-- A type asserted of a known interface value. -/
def tasV (t : TypeId) : V → Option V
  | .cst (.iface t' u) => bif Nat.beq t' t then (zV u).map fun c => .tup [c, .bool true] else none
  | _ => none

/-- Functions whose calls leave the heap as it is. -/
def pures : List FuncId := [39, 40, 41, 42, 43]
/-- Functions that may panic. -/
def pans : List FuncId := [26, 27, 34, 35, 36, 37, 38, 59]
/-- Boxes that are never written again, and loads from them: their names. -/
def ices : List Nat := []
/-- Functions that only read what is written out for them. -/
def isls : List FuncId := []
/-- Functions that append as much as memory holds. -/
def bigs : List FuncId := [3, 4, 5, 6, 8, 11, 12, 14, 17, 21, 22, 23, 24, 25, 30, 39, 40, 41, 42, 43]
/-- Operations that wrap: the slots of the result and of the operands. -/
def wraps : List (Nat × Nat × Nat) := []
/-- Functions that are handed what is written out as a block (they append to it). -/
def rowsTo : List FuncId := []

def stepO (P : Program) (PK : PanK) (o : AO) (s : St) (k : Res) : Prop :=
  match o with
  | .mov x => k (s.ev x) s.h s.n
  | .pick c a b => optR (pickV (s.ev c) (s.ev a) (s.ev b)) k s.h s.n
  | .nilck x => optR (nilckV (s.ev x)) k s.h s.n
  | .box nm sz x => boxK nm sz (cellsV (s.ev x)) k s.h s.n
  | .build z ps => optR ((fillV s z ps).map .agg) k s.h s.n
  | .mkrow nm sz xs => rowK nm sz (rowsOf sz s xs) k s.h s.n
  | .mkisl sz xs => islK (rowsOf sz s xs) k s.h s.n
  | .mkraw nm xs => rawK nm (rowsOf 1 s xs) k s.h s.n
  | .cvr x => cvrK (s.ev x) k s.h s.n
  | .load m agg x => optR (loadV s.h (s.ev x) m agg) k s.h s.n
  | .store m x v => heapK (storeV s.h (s.ev x) (s.ev v) m) k s.n
  | .faddr off x => optR (faddrV off (s.ev x)) k s.h s.n
  | .iaddr sz x i => iaddrK sz (s.ev x) (s.ev i) k s.h s.n
  | .iaddrA len sz x i => iaddrAK len sz (s.ev x) (s.ev i) k s.h s.n
  | .fld off m agg x => optR (fldV off m agg (s.ev x)) k s.h s.n
  | .idx x i => idxK (s.ev x) (s.ev i) k s.h s.n
  | .ext i x => optR (extV i (s.ev x)) k s.h s.n
  | .bin op x y => binK op (s.ev x) (s.ev y) k s.h s.n
  | .binw op x y => optR (binwV op (s.ev x) (s.ev y)) k s.h s.n
  | .eqp kind neg x y => optR (bif kindV kind (s.ev x) then eqpV neg (s.ev x) (s.ev y) else none) k s.h s.n
  | .eqa neg t x y => optR (eqaV neg t (s.ev x) (s.ev y)) k s.h s.n
  | .un op x => unK op (s.ev x) k s.h s.n
  | .negw x => optR (negwV (s.ev x)) k s.h s.n
  | .conv j x => optR (convV j (s.ev x)) k s.h s.n
  | .cap0 x => optR (cap0V (s.ev x)) k s.h s.n
  | .grw nm z x y => grwK nm z (s.ev x) (s.ev y) k s.h s.n
  | .rgm nm x => rgmK nm (s.ev x) k s.h s.n
  | .nxm x => nxmK (s.ev x) k s.h s.n
  | .ent x => entK (s.ev x) k s.h s.n
  | .bst x => optR (bstV (viewV s.h (s.ev x))) k s.h s.n
  | .byts nm x => bytsK nm (s.ev x) k s.h s.n
  | .isnil neg x => optR (isnilV neg (s.ev x)) k s.h s.n
  | .eqn fn neg x => eqnK fn neg (s.ev x) k s.h s.n
  | .len kind x => optR (lenV s.h kind (s.ev x)) k s.h s.n
  | .lenc m => k (.int .i64 m) s.h s.n
  | .mm mx xs => optR (mmV mx (xs.map s.ev)) k s.h s.n
  | .app nm sz b x => appK 137438953472 nm sz (s.ev b) (srcV s.h (s.ev x)) k s.h s.n
  | .apb L nm sz b x => appK L nm sz (s.ev b) (srcV s.h (s.ev x)) k s.h s.n
  | .copy sz d x => copyK sz (s.ev d) (srcV s.h (s.ev x)) k s.h s.n
  | .mksl nm z x => mkslK nm z (s.ev x) k s.h s.n
  | .slc sz x lo hi => slcK sz (s.ev x) (lo.map s.ev) (hi.map s.ev) k s.h s.n
  | .sls x lo hi => slsK (s.ev x) (lo.map s.ev) (hi.map s.ev) k s.h s.n
  | .mkfn f xs => k (.fn f (xs.map s.ev)) s.h s.n
  | .mkmap nm => k (.mp nm s.n) (Heap.put s.h nm s.n (.map [])) (s.n + 1)
  | .look kd z ok m x => lookK kd z ok (s.ev m) (s.ev x) k s.h s.n
  | .mput kd m x v => mputK kd (s.ev m) (s.ev x) (s.ev v) k s.h s.n
  | .mdel kd m x => mdelK kd (s.ev m) (s.ev x) k s.h s.n
  | .sh l x y => shK l (s.ev x) (s.ev y) k s.h s.n
  | .idxA len sz m agg x i => idxAK len sz m agg (s.ev x) (s.ev i) k s.h s.n
  | .clr z x => clrK z (s.ev x) k s.h s.n
  | .slz nm sz x => slzK nm sz (s.ev x) k s.h s.n
  | .call f xs => CallS P f (xs.map s.ev) s.h s.n k
  | .pcall f xs => pcallK P f (xs.map s.ev) k s.h s.n
  | .tas t x => optR (tasV t (s.ev x)) k s.h s.n
  | .mki t x => optR ((unV (s.ev x)).map fun u => .cst (.iface t u)) k s.h s.n
  | .pan x => panK PK (s.ev x) s.h s.n
  | .boxi sz x => boxiK sz (cellsV (s.ev x)) k s.h s.n
  | .loadi m agg x => loadiK m agg (s.ev x) k s.h s.n
  | .callp f xs => CallP P f (xs.map s.ev) s.h s.n k PK
  | .callv f xs => callvK P (s.ev f) (xs.map s.ev) s.h s.n k
  | .bad => False

def fin (d : Option Nat) (sl : List (Nat × V)) (K : St → Prop) : Res := fun r h n =>
  match d with
  | some i => K ⟨sset sl i r, h, n⟩
  | none => K ⟨sl, h, n⟩

def notBool : Value → Bool
  | .bool _ => false
  | _ => true

/-- A guarded step: taken, passed by, or passed by because what guards it was passed by. -/
def stepG (v : V) (want : Bool) (A B C : Prop) : Prop :=
  match v with
  | .bool b => (b = want → A) ∧ (b = !want → B)
  | .cst u => notBool u = true ∧ C
  | _ => False

def stepA (P : Program) (PK : PanK) (i : AI) (s : St) (K : St → Prop) : Prop :=
  match i.g with
  | none => stepO P PK i.o s (fin i.d s.sl K)
  | some (j, want) => stepG (sget s.sl j) want
      (stepO P PK i.o ⟨sset s.sl j (.bool want), s.h, s.n⟩ (fin i.d (sset s.sl j (.bool want)) K))
      (fin i.d (sset s.sl j (.bool !want)) K (.cst Go.undef) s.h s.n)
      (fin i.d s.sl K (.cst Go.undef) s.h s.n)

/-! The translation. -/

def compX : Operand → Option Opd
  | .tmp i => some (.t i)
  | .const v => (zV v).map .c
  | .func f => some (.f f)
  | .global g => if (lookG globs g).isSome then some (.g g) else none

def compXs : List Operand → Option (List Opd)
  | [] => some []
  | x :: r => match compX x, compXs r with
    | some y, some ys => some (y :: ys)
    | _, _ => none

/-- size, aggregate?, zero cells -/
def tyOf (P : Program) (t : TypeId) : Option (Nat × Bool) :=
  match P.info? t, P.underlying t with
  | some i, some (.struct _) | some i, some (.array ..) => some (i.size, true)
  | some i, some _ => some (i.size, false)
  | _, _ => none

def zeroOf (P : Program) (t : TypeId) : Option (List V) :=
  match P.info? t with
  | some i => match i.zero with
    | some z => match cVs z.cells.toList with
      | some zs => if zs.length = i.size then some zs else none
      | none => none
    | none => none
  | none => none

def zeroV (P : Program) (t : TypeId) : Option V :=
  match tyOf P t, zeroOf P t with
  | some (_, true), some zs => some (.agg zs)
  | some (_, false), some [z] => some z
  | _, _ => none

def shapeOf (P : Program) : Nat → TypeId → Option ETy
  | 0, _ => none
  | d + 1, t => match P.underlying t with
    | some .bool => some (.leaf 0)
    | some (.int _) => some (.leaf 1)
    | some .string => some (.leaf 2)
    | some (.struct fs) => if P.stoodInHeld t then none else (shapeFs (shapeOf P d) fs.toList).map .agg
    | _ => none
where
  shapeFs (g : TypeId → Option ETy) : List Field → Option (List (Nat × Nat × ETy))
    | [] => some []
    | f :: r => if f.name = "_" then none else match P.info? f.type, g f.type, shapeFs g r with
      | some i, some e, some es => some ((f.offset, i.size, e) :: es)
      | _, _, _ => none

end Go.Abs
