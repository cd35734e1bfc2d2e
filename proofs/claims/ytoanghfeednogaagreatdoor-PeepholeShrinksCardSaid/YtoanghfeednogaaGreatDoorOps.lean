/-
 Abstract states and the abstract meaning of the model's operations; the translation of code into abstract code. No condition.
-/
import Derived.Test.YtoanghfeednogaaGreatDoorAbs
set_option linter.unusedVariables false
set_option linter.unusedSimpArgs false
namespace Go.Abs
structure St where
 sl : List (Nat × V)
 h : A0
 n : Nat
def D6 : List (Nat × V) → Nat → V → List (Nat × V)
 | [], i, v => [(i, v)]
 | p :: r, i, v => bif Nat.beq p.1 i then (i, v) :: r else bif Nat.blt p.1 i then (i, v) :: p :: r else p :: D6 r i v
inductive Opd where
 | t (i : Nat)
 | c (v : V)
 | f (g : FuncId)
 | g (g : Nat)
def St.ev (s : St) : Opd → V
 | .t i => C5 s.sl i
 | .c v => v
 | .f g => .fn g []
 | .g g => C6I g
inductive ETy where
 | leaf (k : Nat)
 | agg (fs : List (Nat × Nat × ETy))
inductive AO where
 | mov (x : Opd)
 | pick (c a b : Opd)
 | nilck (x : Opd)
 | box (nm sz : Nat) (x : Opd)
 | build (z : List V) (ps : List (Nat × Nat × Opd))
 | mkrow (nm sz : Nat) (xs : List Opd)
 | mkisl (sz : Nat) (xs : List Opd)
 | mkraw (nm : Nat) (xs : List Opd)
 | cvr (x : Opd)
 | load (n : Nat) (agg : Bool) (x : Opd)
 | store (n : Nat) (x v : Opd)
 | faddr (off : Nat) (x : Opd)
 | iaddr (sz : Nat) (x i : Opd)
 | iaddrA (len sz : Nat) (x i : Opd)
 | fld (off n : Nat) (agg : Bool) (x : Opd)
 | idx (x i : Opd)
 | ext (i : Nat) (x : Opd)
 | bin (op : BinOp) (x y : Opd)
 | binw (op : BinOp) (x y : Opd)
 | negw (x : Opd)
 | eqp (kind : Nat) (neg : Bool) (x y : Opd)
 | eqa (neg : Bool) (t : ETy) (x y : Opd)
 | un (op : UnOp) (x : Opd)
 | conv (k : IntKind) (x : Opd)
 | cap0 (x : Opd)
 | grw (nm : Nat) (z : List V) (x y : Opd)
 | rgm (nm : Nat) (x : Opd)
 | nxm (x : Opd)
 | ent (x : Opd)
 | bst (x : Opd)
 | byts (nm : Nat) (x : Opd)
 | isnil (neg : Bool) (x : Opd)
 | eqn (fn : Bool) (neg : Bool) (x : Opd)
 | len (kind : Nat) (x : Opd)
 | lenc (n : Nat)
 | mm (mx : Bool) (xs : List Opd)
 | app (nm sz : Nat) (s x : Opd)
 | apb (L nm sz : Nat) (s x : Opd)
 | copy (sz : Nat) (d x : Opd)
 | mksl (nm : Nat) (z : List V) (x : Opd)
 | slc (sz : Nat) (x : Opd) (lo hi : Option Opd)
 | sls (x : Opd) (lo hi : Option Opd)
 | mkfn (f : FuncId) (xs : List Opd)
 | mkmap (nm : Nat)
 | look (kd : Nat) (z : V) (ok : Bool) (m k : Opd)
 | mput (kd : Nat) (m k v : Opd)
 | mdel (kd : Nat) (m k : Opd)
 | sh (left : Bool) (x y : Opd)
 | idxA (len sz n : Nat) (agg : Bool) (x i : Opd)
 | clr (z : List V) (x : Opd)
 | slz (nm sz : Nat) (x : Opd)
 | call (f : FuncId) (xs : List Opd)
 | pcall (f : FuncId) (xs : List Opd)
 | callv (f : Opd) (xs : List Opd)
 | bad
structure AI where
 d : Option Nat
 g : Option (Nat × Bool)
 o : AO
@[reducible] def AI.j (d : Nat) (o : AO) : AI := ⟨some d, none, o⟩
@[reducible] def AI.k (d g : Nat) (b : Bool) (o : AO) : AI := ⟨some d, some (g, b), o⟩
@[reducible] def AI.e (o : AO) : AI := ⟨none, none, o⟩
@[reducible] def AI.m (d x : Nat) : AI := ⟨some d, none, .mov (.t x)⟩
@[reducible] def AI.n (d : Nat) (z : Int) : AI := ⟨some d, none, .mov (.c (.int .i64 z))⟩
@[reducible] def AI.t (d : Nat) (b : Bool) : AI := ⟨some d, none, .mov (.c (.bool b))⟩
@[reducible] def AI.a (d k x : Nat) : AI := ⟨some d, none, .faddr k (.t x)⟩
@[reducible] def AI.l (d x : Nat) : AI := ⟨some d, none, .load 1 false (.t x)⟩
@[reducible] def AI.w (d k x : Nat) : AI := ⟨some d, none, .load k true (.t x)⟩
@[reducible] def AI.s (k x y : Nat) : AI := ⟨none, none, .store k (.t x) (.t y)⟩
@[reducible] def AI.b (d : Nat) (op : BinOp) (x : Nat) (z : Int) : AI := ⟨some d, none, .bin op (.t x) (.c (.int .i64 z))⟩
@[reducible] def AI.h (d : Nat) (op : BinOp) (x y : Nat) : AI := ⟨some d, none, .bin op (.t x) (.t y)⟩
@[reducible] def AI.r (d k x : Nat) : AI := ⟨some d, none, .len k (.t x)⟩
@[reducible] def AI.c (d f x : Nat) : AI := ⟨some d, none, .call f [.t x]⟩
@[reducible] def AI.i (d k x y : Nat) : AI := ⟨some d, none, .iaddr k (.t x) (.t y)⟩
@[reducible] def AI.x (d k x : Nat) : AI := ⟨some d, none, .ext k (.t x)⟩
@[reducible] def AI.y (d x : Nat) : AI := ⟨some d, none, .nilck (.t x)⟩
@[reducible] def Opd.z (n : Int) : Opd := .c (.int .i64 n)
inductive AC where
 | skip
 | ops (l : List (List AI))
 | seq (a b : AC)
 | cond (c : Opd) (a b : AC)
 | block (id : Nat) (a : AC)
 | loop (a : AC)
 | exit (id : Nat)
 | ret
 | rng (nm : Nat) (f : Opd) (ps : List Nat) (a b : AC)
 | dfr (d : Nat)
 | bad
inductive AItem where
 | code (c : AC)
 | blk (id : Nat)
 | lp (c : AC)
 | beg
abbrev Res := V → A0 → Nat → Prop
def RL (E : Env) (as : List V) (vs : Array Value) : Prop := as.length = vs.size ∧ ∀ (i : Nat) c v, as[i]? = some c → vs[i]? = some v → R E c v
def A2 (P : Program) (f : FuncId) (as : List V) (h : A0) (n : Nat) (k : Res) : Prop :=
 ∀ w O ρ cargs, HeapR w O ρ n h → RL (A4 w O ρ n h) as cargs → Calls P f cargs w fun e w' =>
  ∃ v r h' n' ρ', e = .returned v ∧ k r h' n' ∧ HeapR w' O ρ' n' h' ∧ R (A4 w' O ρ' n' h') r v ∧ Ext (A4 w O ρ n h) (A4 w' O ρ' n' h')
def G3 (o : Option V) (k : Res) (h : A0) (n : Nat) : Prop :=
 match o with
 | some v => k v h n
 | none => False
def A0I : V → Option (List V)
 | .agg cs => some cs
 | .cst .nilFunc => some [.cst .nilFunc]
 | .cst .nilIface => some [.cst .nilIface]
 | .undef | .tup _ | .cst _ => none
 | v => some [v]
def B7k : V → V → V → Option V
 | .bool c, .bool x, .bool y => some (.bool (bif c then x else y))
 | .bool c, x, y => some (bif c then x else y)
 | _, _, _ => none
def B2V : V → Option V
 | .ptr b st i j => some (.ptr b st i j)
 | .iptr es i j => some (.iptr es i j)
 | .fn f cs => some (.fn f cs)
 | _ => none
def B4Z (nm sz : Nat) (cs : Option (List V)) (k : Res) (h : A0) (n : Nat) : Prop :=
 match cs with
 | some cs => cs.length = sz ∧ k (.ptr nm n 0 0) (A0.put h nm n (.rows sz [cs])) (n + 1)
 | none => False
def F1 (z : List V) (off : Nat) (cs : List V) : List V := z.take off ++ cs ++ z.drop (off + cs.length)
def A0b (s : St) (z : List V) : List (Nat × Nat × Opd) → Option (List V)
 | [] => some z
 | p :: r => match A0I (s.ev p.2.2) with
  | some cs => bif Nat.beq cs.length p.2.1 && Nat.ble (p.1 + cs.length) z.length then A0b s (F1 z p.1 cs) r else none
  | none => none
def G0 (sz : Nat) (s : St) : List Opd → Option (List (List V))
 | [] => some []
 | x :: r => match A0I (s.ev x), G0 sz s r with
  | some cs, some rs => bif Nat.beq cs.length sz then some (cs :: rs) else none
  | _, _ => none
def B9b (nm sz : Nat) (rs : Option (List (List V))) (k : Res) (h : A0) (n : Nat) : Prop :=
 match rs with
 | some rs => k (.sl nm n 0 rs.length) (A0.put h nm n (.rows sz rs)) (n + 1)
 | none => False
def B8S (nm : Nat) (rs : Option (List (List V))) (k : Res) (h : A0) (n : Nat) : Prop :=
 match rs with
 | some rs => 0 < rs.length ∧ k (.sl nm n 0 rs.length) (A0.put h nm n (.raw rs)) (n + 1)
 | none => False
def B8e (b : Option Blk) (f : List (List V) → Prop) : Prop :=
 match b with
 | some (.raw rs) => f rs
 | _ => False
def B5e (x : V) (k : Res) (h : A0) (n : Nat) : Prop :=
 match x with
 | .sl b st 0 m => B8e (A0.get h b st) fun rs => m = rs.length ∧ k (.sl b st 0 m) (A0.put h b st (.rows 1 rs)) n
 | _ => False
def B6N (rs : Option (List (List V))) (k : Res) (h : A0) (n : Nat) : Prop :=
 match rs with
 | some rs => k (.isl rs) h n
 | none => False
def J9 (row : List V) (j n : Nat) (agg : Bool) : Option V :=
 bif agg then (bif Nat.ble (j + n) row.length then some (.agg ((row.drop j).take n)) else none) else row[j]?
def A7x (h : A0) (x : V) (n : Nat) (agg : Bool) : Option V :=
 match x with
 | .ptr b st i j => match A0.get h b st with
  | some (.rows _ rs) => match rs[i]? with
   | some row => J9 row j n agg
   | none => none
  | _ => none
 | .iptr es i j => match es[i]? with
  | some row => J9 row j n agg
  | none => none
 | _ => none
def B2a (h : A0) (b st : Nat) (i j n : Nat) (blk : Option Blk) (cs : Option (List V)) : Option A0 :=
 match blk, cs with
 | some (.rows sz rs), some cs => match rs[i]? with
  | some row => bif Nat.beq cs.length n && Nat.ble (j + n) row.length then some (A0.put h b st (.rows sz (rs.set i (F1 row j cs)))) else none
  | none => none
 | _, _ => none
def B3r (h : A0) (x v : V) (n : Nat) : Option A0 :=
 match x with
 | .ptr b st i j => B2a h b st i j n (A0.get h b st) (A0I v)
 | _ => none
def A7u (h : Option A0) (k : Res) (n : Nat) : Prop :=
 match h with
 | some h => k .undef h n
 | none => False
def B2A (off : Nat) : V → Option V
 | .ptr b st i j => some (.ptr b st i (j + off))
 | .iptr es i j => some (.iptr es i (j + off))
 | _ => none
def B6 (es : List (List V)) (sz : Nat) : Prop := ∀ row ∈ es, row.length = sz
def A8P : Option Blk → Option Nat
 | some (.rows sz _) => some sz
 | _ => none
def A0O (sz : Nat) (x i : V) (k : Res) (h : A0) (n : Nat) : Prop :=
 match i with
 | .int _ z => match x with
  | .sl b st i0 m => 0 ≤ z ∧ z < m ∧ A8P (A0.get h b st) = some sz ∧ k (.ptr b st (i0 + z.toNat) 0) h n
  | .isl es => 0 ≤ z ∧ z < es.length ∧ B6 es sz ∧ k (.iptr es z.toNat 0) h n
  | _ => False
 | _ => False
def q8 (len sz : Nat) (x i : V) (k : Res) (h : A0) (n : Nat) : Prop :=
 match i with
 | .int _ z => match x with
  | .ptr b st i0 j => 0 ≤ z ∧ z < len ∧ k (.ptr b st i0 (j + z.toNat * sz)) h n
  | .iptr es i0 j => 0 ≤ z ∧ z < len ∧ k (.iptr es i0 (j + z.toNat * sz)) h n
  | _ => False
 | _ => False
def C3k (off n : Nat) (agg : Bool) : V → Option V
 | .agg cs => J9 cs off n agg
 | _ => none
def B5r (x i : V) (k : Res) (h : A0) (n : Nat) : Prop :=
 match x, i with
 | .str s, .int _ z => 0 ≤ z ∧ G3 ((s[z.toNat]?).map fun b => .int .u8 b.toNat) k h n
 | _, _ => False
def C3f (i : Nat) : V → Option V
 | .tup vs => vs[i]?
 | _ => none
def inR (k : IntKind) (z : Int) : Prop :=
 match k with
 | .i64 => -9223372036854775808 ≤ z ∧ z ≤ 9223372036854775807
 | _ => True
def B4Q (k : IntKind) (z : Int) : V :=
 match k with
 | .i64 => .int .i64 z
 | k => .int k (k.wrap z)
def R9 (k : IntKind) (z : Int) (c : Res) (h : A0) (n : Nat) : Prop := inR k z ∧ c (B4Q k z) h n
def M3 : List UInt8 → List UInt8 → Bool := Op.bytesLess
def v8 (op : BinOp) (j : IntKind) (a b : Int) : Int :=
 let x := BitVec.ofInt j.bits a
 let y := BitVec.ofInt j.bits b
 j.wrap (match op with
  | .and => (x &&& y).toNat
  | .or => (x ||| y).toNat
  | .xor => (x ^^^ y).toNat
  | _ => (x &&& ~~~y).toNat)
def S0 (op : BinOp) (x y : V) (k : Res) (h : A0) (n : Nat) : Prop :=
 match x, y with
 | .int j a, .int j' b => j = j' ∧ match op with
  | .add => R9 j (a + b) k h n
  | .sub => R9 j (a - b) k h n
  | .mul => R9 j (a * b) k h n
  | .quo => b ≠ 0 ∧ R9 j (a.tdiv b) k h n
  | .rem => b ≠ 0 ∧ k (.int j (a.tmod b)) h n
  | .eql => k (.bool (decide (a = b))) h n
  | .neq => k (.bool (decide (¬ a = b))) h n
  | .lss => k (.bool (decide (a < b))) h n
  | .leq => k (.bool (decide (a ≤ b))) h n
  | .gtr => k (.bool (decide (b < a))) h n
  | .geq => k (.bool (decide (b ≤ a))) h n
  | .and => k (.int j (v8 .and j a b)) h n
  | .or => k (.int j (v8 .or j a b)) h n
  | .xor => k (.int j (v8 .xor j a b)) h n
  | .andNot => k (.int j (v8 .andNot j a b)) h n
  | _ => False
 | .str a, .str b => match op with
  | .add => a.length + b.length ≤ 1099511627776 ∧ k (.str (a ++ b)) h n
  | .eql => k (.bool (decide (a = b))) h n
  | .neq => k (.bool (decide (¬ a = b))) h n
  | .lss => k (.bool (M3 a b)) h n
  | .geq => k (.bool (!M3 a b)) h n
  | .leq => k (.bool (M3 a b || decide (a = b))) h n
  | .gtr => k (.bool !(M3 a b || decide (a = b))) h n
  | _ => False
 | _, _ => False
def B2j (op : BinOp) (x y : V) : Option V :=
 match x, y with
 | .int j a, .int j' b => match op with
  | .add => if j = j' then some (.int j (j.wrap (a + b))) else none
  | .sub => if j = j' then some (.int j (j.wrap (a - b))) else none
  | .mul => if j = j' then some (.int j (j.wrap (a * b))) else none
  | _ => none
 | _, _ => none
def B4w : V → Option V
 | .int j a => some (.int j (j.wrap (0 - a)))
 | _ => none
def shZ (left : Bool) (j : IntKind) (a b : Int) : Int := bif left then j.wrap (a * 2 ^ (min b.toNat j.bits)) else a.fdiv (2 ^ (min b.toNat j.bits))
def shK (left : Bool) (x y : V) (k : Res) (h : A0) (n : Nat) : Prop :=
 match x, y with
 | .int j a, .int _ b => 0 ≤ b ∧ k (.int j (shZ left j a b)) h n
 | _, _ => False
def A5O (len sz m : Nat) (agg : Bool) (x i : V) (k : Res) (h : A0) (n : Nat) : Prop :=
 match x, i with
 | .agg cs, .int _ z => 0 ≤ z ∧ z < len ∧ G3 (J9 cs (z.toNat * sz) m agg) k h n
 | _, _ => False
def B1v (z : List V) (x : V) (k : Res) (h : A0) (n : Nat) : Prop :=
 match x with
 | .nils => k (.tup []) h n
 | .sl b st i m => match A0.get h b st with
  | some (.rows sz rs) => sz = z.length ∧ i + m ≤ rs.length ∧ k (.tup []) (A0.put h b st (.rows sz (rs.take i ++ List.replicate m z ++ rs.drop (i + m)))) n
  | _ => False
 | _ => False
def B1N (nm sz : Nat) (x : V) (k : Res) (h : A0) (n : Nat) : Prop :=
 match x with
 | .nils | .isl _ | .sl .. => k (.sl nm n 0 0) (A0.put h nm n (.rows sz [])) (n + 1)
 | _ => False
def B8p (neg : Bool) : V → V → Option V
 | .nilp, .nilp | .nilm, .nilm => some (.bool !neg)
 | .ptr .., .nilp | .nilp, .ptr .. | .iptr .., .nilp | .nilp, .iptr .. | .mp .., .nilm => some (.bool neg)
 | .bool a, .bool b => some (.bool (bif neg then decide (¬ a = b) else decide (a = b)))
 | _, _ => none
def B1d : Nat → V → Bool
 | 0, .nilp | 0, .ptr .. | 0, .iptr .. => true
 | 1, .nilm | 1, .mp .. => true
 | 2, .bool _ => true
 | _, _ => false
def B5j : Nat → V → V → Option Bool
 | 0, .bool a, .bool b => some (decide (a = b))
 | 1, .int j a, .int j' b => bif decide (j = j') then some (decide (a = b)) else none
 | 2, .str a, .str b => some (decide (a = b))
 | _, _, _ => none
def C4T : Option Bool → Option Bool → Option Bool
 | some a, some b => some (a && b)
 | _, _ => none
def eqE : ETy → List V → List V → Option Bool
 | .leaf k, [x], [y] => B5j k x y
 | .leaf _, _, _ => none
 | .agg fs, xs, ys => eqFs fs xs ys
where
 eqFs : List (Nat × Nat × ETy) → List V → List V → Option Bool
  | [], _, _ => some true
  | p :: r, xs, ys => C4T (eqE p.2.2 ((xs.drop p.1).take p.2.1) ((ys.drop p.1).take p.2.1)) (eqFs r xs ys)
def C3d (neg : Bool) (t : ETy) : V → V → Option V
 | .agg xs, .agg ys => (eqE t xs ys).map fun b => .bool (bif neg then !b else b)
 | _, _ => none
def unK (op : UnOp) (x : V) (k : Res) (h : A0) (n : Nat) : Prop :=
 match op, x with
 | .neg, .int j a => R9 j (0 - a) k h n
 | .not, .bool b => k (.bool !b) h n
 | .xor, .int j a => k (.int j (v8 .xor j (bif j.signed then -1 else j.max) a)) h n
 | _, _ => False
def B6p (j : IntKind) : V → Option V
 | .int _ z => some (.int j (j.wrap z))
 | _ => none
def B2G (neg : Bool) : V → Option V
 | .cst .nilIface => some (.bool !neg)
 | .err => some (.bool neg)
 | _ => none
def B8I : Option Blk → Option V
 | some (.map es) => some (.int .i64 es.length)
 | _ => none
def C3A (h : A0) : Nat → V → Option V
 | 0, .sl _ _ _ m => some (.int .i64 m)
 | 0, .isl es => some (.int .i64 es.length)
 | 0, .nils => some (.int .i64 0)
 | 1, .str s => some (.int .i64 s.length)
 | 2, .nilm => some (.int .i64 0)
 | 2, .mp b st => B8I (A0.get h b st)
 | _, _ => none
def mm2 (mx : Bool) (a b : Int) : Int := bif mx then (if b > a then b else a) else (if b < a then b else a)
def mmV (mx : Bool) : List V → Option V
 | [.int j a, .int j' b] => bif decide (j = j') then some (.int j (mm2 mx a b)) else none
 | _ => none
def u7 (h : A0) : V → Option (List (List V))
 | .nils => some []
 | .isl es => some es
 | .sl b st i m => match A0.get h b st with
  | some (.rows _ rs) => bif Nat.ble (i + m) rs.length then some ((rs.drop i).take m) else none
  | _ => bif Nat.beq m 0 then some [] else none
 | _ => none
def K0 (s : List UInt8) : List (List V) := s.map fun b => [.int .u8 b.toNat]
def A1G (h : A0) : V → Option (List (List V))
 | .str s => some (K0 s)
 | v => u7 h v
def B6c : V → Option V
 | .nils => some (.int .i64 0)
 | _ => none
def B5o (nm : Nat) (z : List V) (x y : V) (k : Res) (h : A0) (n : Nat) : Prop :=
 match x, y with
 | .nils, .int .i64 m => 0 < m ∧ m ≤ 137438953472 ∧ k (.sl nm n 0 m.toNat) (A0.put h nm n (.rows z.length (List.replicate m.toNat z))) (n + 1)
 | _, _ => False
def B8Y (nm b st : Nat) (B : Option Blk) (k : Res) (h : A0) (n : Nat) : Prop :=
 match B with
 | some (.map es) => ∀ (bs : List Nat) (ck : Nat), bs.length = es.length → k (.ptr nm n 0 0) (A0.put (A0.put h b st (.mapb es bs ck)) nm n (.iter st es bs ck (bs.zip es) none)) (n + 1)
 | _ => False
def B5G (nm : Nat) (x : V) (k : Res) (h : A0) (n : Nat) : Prop :=
 match x with
 | .mp b st => nm ≠ b ∧ B8Y nm b st (A0.get h b st) k h n
 | _ => False
def A0v : A0 → Nat → Option (Nat × Blk)
 | [], _ => none
 | e :: r, st => bif Nat.beq e.2.1 st then some (e.1, e.2.2) else A0v r st
def B2Y (M : Option (Nat × Blk)) (f : Nat → List (V × V) → List Nat → Nat → Prop) : Prop :=
 match M with
 | some (mb, .mapb es bs ck) => f mb es bs ck
 | _ => False
def B8L (b st : Nat) (B : Option Blk) (k : Res) (h : A0) (n : Nat) : Prop :=
 match B with
 | some (.iter mst es bs ck left last) => B2Y (A0v h mst) fun mb es' bs' ck' => es' = es ∧ bs' = bs ∧ ck' = ck ∧ mb ≠ b ∧ (left = [] → k (.tup [.bool false]) (A0.put h mb mst (.map es)) n) ∧
   ∀ x e y, left = x ++ e :: y → k (.tup [.bool true, e.2.1, e.2.2]) (A0.put h b st (.iter mst es bs ck (x ++ y) (some e.2))) n
 | _ => False
def B5B (x : V) (k : Res) (h : A0) (n : Nat) : Prop :=
 match x with
 | .ptr b st 0 0 => B8L b st (A0.get h b st) k h n
 | _ => False
def B8m (B : Option Blk) (k : Res) (h : A0) (n : Nat) : Prop :=
 match B with
 | some (.iter mst es bs ck _ (some p)) => B2Y (A0v h mst) fun _ es' bs' ck' => es' = es ∧ bs' = bs ∧ ck' = ck ∧ k (.tup [p.1, p.2]) h n
 | _ => False
def B5i (x : V) (k : Res) (h : A0) (n : Nat) : Prop :=
 match x with
 | .ptr b st 0 0 => B8m (A0.get h b st) k h n
 | _ => False
def B3S : List (List V) → Option (List UInt8)
 | [] => some []
 | [.int .u8 z] :: r => match B3S r with
  | some l => some (UInt8.ofNat z.toNat :: l)
  | none => none
 | _ => none
def C0x : Option (List (List V)) → Option V
 | some rs => match B3S rs with
  | some l => some (.str l)
  | none => none
 | none => none
def A7g (nm : Nat) (x : V) (k : Res) (h : A0) (n : Nat) : Prop :=
 match x with
 | .str s => k (.sl nm n 0 s.length) (A0.put h nm n (.rows 1 (K0 s))) (n + 1)
 | _ => False
def A5E (L nm sz : Nat) (s : V) (xs : Option (List (List V))) (k : Res) (h : A0) (n : Nat) : Prop :=
 match xs with
 | none => False
 | some xs => B6 xs sz ∧ match s with
  | .nils => xs.length ≤ L ∧ k (.sl nm n 0 xs.length) (A0.put h nm n (.rows sz xs)) (n + 1)
  | .sl b st i m => match A0.get h b st with
   | some (.rows sz' rs) => sz' = sz ∧ i + m ≤ rs.length ∧ m + xs.length ≤ L ∧
     k (.sl b n 0 (m + xs.length)) (A0.put h b n (.rows sz ((rs.drop i).take m ++ xs))) (n + 1)
   | _ => False
  | _ => False
def A4t (sz : Nat) (d : V) (xs : Option (List (List V))) (k : Res) (h : A0) (n : Nat) : Prop :=
 match xs with
 | none => False
 | some xs => B6 xs sz ∧ match d with
  | .nils => k (.int .i64 0) h n
  | .sl b st i m => match A0.get h b st with
   | some (.rows sz' rs) => sz' = sz ∧ i + m ≤ rs.length ∧
     k (.int .i64 (min xs.length m : Nat)) (A0.put h b st (.rows sz (rs.take i ++ xs.take (min xs.length m) ++ rs.drop (i + min xs.length m)))) n
   | _ => False
  | _ => False
def B1h (nm : Nat) (z : List V) (x : V) (k : Res) (h : A0) (n : Nat) : Prop :=
 match x with
 | .int .i64 m => 0 ≤ m ∧ m ≤ 137438953472 ∧ k (.sl nm n 0 m.toNat) (A0.put h nm n (.rows z.length (List.replicate m.toNat z))) (n + 1)
 | _ => False
def E9 (d : Int) : Option V → Option Int
 | none => some d
 | some (.int _ z) => some z
 | _ => none
def A9Y (sz : Nat) (x : V) (lo hi : Option V) (k : Res) (h : A0) (n : Nat) : Prop :=
 match x with
 | .sl b st i m => match E9 0 lo, E9 m hi with
  | some l, some u => A8P (A0.get h b st) = some sz ∧ 0 ≤ l ∧ l ≤ u ∧ u ≤ m ∧ k (.sl b st (i + l.toNat) (u - l).toNat) h n
  | _, _ => False
 | .isl es => match E9 0 lo, E9 es.length hi with
  | some l, some u => B6 es sz ∧ 0 ≤ l ∧ l ≤ u ∧ u ≤ es.length ∧ k (.isl ((es.drop l.toNat).take (u - l).toNat)) h n
  | _, _ => False
 | .nils => match E9 0 lo, E9 0 hi with
  | some l, some u => l = 0 ∧ u = 0 ∧ k .nils h n
  | _, _ => False
 | _ => False
def B1M (x : V) (lo hi : Option V) (k : Res) (h : A0) (n : Nat) : Prop :=
 match x with
 | .str s => match E9 0 lo, E9 s.length hi with
  | some l, some u => 0 ≤ l ∧ l ≤ u ∧ u ≤ s.length ∧ k (.str ((s.drop l.toNat).take (u - l).toNat)) h n
  | _, _ => False
 | _ => False
def A0P : V → V → Option Bool
 | .int j a, .int j' b => bif decide (j = j') then some (decide (a = b)) else none
 | .str a, .str b => some (decide (a = b))
 | .bool a, .bool b => some (decide (a = b))
 | _, _ => none
def A0e : V → List (V × V) → Prop
 | _, [] => True
 | k, e :: r => (A0P k e.1).isSome = true ∧ A0e k r
def S4 (k : V) : List (V × V) → Option V
 | [] => none
 | e :: r => bif (A0P k e.1).getD false then some e.2 else S4 k r
def A2M (k v : V) : List (V × V) → List (V × V)
 | [] => [(k, v)]
 | e :: r => bif (A0P k e.1).getD false then (k, v) :: r else e :: A2M k v r
def B8K (k : V) : List (V × V) → List (V × V)
 | [] => []
 | e :: r => bif (A0P k e.1).getD false then r else e :: B8K k r
def w6 : Nat → V → Bool
 | 0, .int .. | 1, .str _ | 2, .bool _ => true
 | _, _ => false
def A9r (z : V) (ok : Bool) (r : Option V) : V :=
 match r with
 | some v => bif ok then .tup [v, .bool true] else v
 | none => bif ok then .tup [z, .bool false] else z
def A4x (kd : Nat) (z : V) (ok : Bool) (m key : V) (k : Res) (h : A0) (n : Nat) : Prop :=
 match m with
 | .nilm => w6 kd key = true ∧ k (A9r z ok none) h n
 | .mp b st => match A0.get h b st with
  | some (.map es) => w6 kd key = true ∧ A0e key es ∧ k (A9r z ok (S4 key es)) h n
  | _ => False
 | _ => False
def A9v (kd : Nat) (m key v : V) (k : Res) (h : A0) (n : Nat) : Prop :=
 match m with
 | .mp b st => match A0.get h b st with
  | some (.map es) => w6 kd key = true ∧ A0e key es ∧ k .undef (A0.put h b st (.map (A2M key v es))) n
  | _ => False
 | _ => False
def A7z (kd : Nat) (m key : V) (k : Res) (h : A0) (n : Nat) : Prop :=
 match m with
 | .nilm => w6 kd key = true ∧ k (.tup []) h n
 | .mp b st => match A0.get h b st with
  | some (.map es) => w6 kd key = true ∧ A0e key es ∧ k (.tup []) (A0.put h b st (.map (B8K key es))) n
  | _ => False
 | _ => False
def F0 (P : Program) (g : FuncId) : Bool :=
 match P.funcs[g]? with
 | some fn => fn.body.isSome && !(fn.name == "runtime.NumGoroutine")
 | none => false
def C2w (P : Program) (w : World) (O : Nat → Prop) (ρ : Nat → Loc) (h : A0) (n : Nat) (k : Res) : Ending → World → Prop := fun e w' =>
 ∃ v x h' n' ρ', e = .returned v ∧ k x h' n' ∧ HeapR w' O ρ' n' h' ∧ R (A4 w' O ρ' n' h') x v ∧ Ext (A4 w O ρ n h) (A4 w' O ρ' n' h')
def Q4 (P : Program) (b st : Nat) (as : List V) (h : A0) (n : Nat) (k : Res) : Prop :=
 ∀ w O ρ cargs, HeapR w O ρ n h → st < n → RL (A4 w O ρ n h) as cargs → ∃ r : Loop, w.heap[(ρ st).blk]? = some (.loop r) ∧ cargs.size = r.params.size ∧
  RoundIn Fence.wide 0 P (ρ st).blk r.fn ((r.params.zip cargs).foldl (fun tmps (t, a) => tmps.setIfInBounds t a) r.tmps) r.assign r.body w (C2w P w O ρ h n k)
def A5H (P : Program) (f : V) (as : List V) (h : A0) (n : Nat) (k : Res) : Prop :=
 match f with
 | .fn g cs => F0 P g = true ∧ A2 P g (as ++ cs) h n k
 | .yld b st => Q4 P b st as h n k
 | _ => False
def A3Z (fn neg : Bool) (x : V) (k : Res) (h : A0) (n : Nat) : Prop :=
 match fn, x with
 | false, .nils => k (.bool !neg) h n
 | false, .isl es => k (.bool neg) h n ∧ (es = [] → k (.bool !neg) h n)
 | false, .sl _ _ _ m => k (.bool neg) h n ∧ (m = 0 → k (.bool !neg) h n)
 | true, .fn _ _ => k (.bool neg) h n
 | true, .cst .nilFunc => k (.bool !neg) h n
 | _, _ => False
def A0V (P : Program) (f : FuncId) (as : List V) (k : Res) (h : A0) (n : Nat) : Prop := ∃ r, (∀ k' : Res, k' r h n → A2 P f as h n k') ∧ k r h n
def C6Y : List FuncId := [63, 78, 79, 80, 81, 129]
def D3o : List FuncId := [36, 63, 66, 78, 79, 80, 81, 129]
def C7q : List (Nat × Nat × Nat) := []
def C8U : List FuncId := []
def A6 (P : Program) (o : AO) (s : St) (k : Res) : Prop :=
 match o with
 | .mov x => k (s.ev x) s.h s.n
 | .pick c a b => G3 (B7k (s.ev c) (s.ev a) (s.ev b)) k s.h s.n
 | .nilck x => G3 (B2V (s.ev x)) k s.h s.n
 | .box nm sz x => B4Z nm sz (A0I (s.ev x)) k s.h s.n
 | .build z ps => G3 ((A0b s z ps).map .agg) k s.h s.n
 | .mkrow nm sz xs => B9b nm sz (G0 sz s xs) k s.h s.n
 | .mkisl sz xs => B6N (G0 sz s xs) k s.h s.n
 | .mkraw nm xs => B8S nm (G0 1 s xs) k s.h s.n
 | .cvr x => B5e (s.ev x) k s.h s.n
 | .load m agg x => G3 (A7x s.h (s.ev x) m agg) k s.h s.n
 | .store m x v => A7u (B3r s.h (s.ev x) (s.ev v) m) k s.n
 | .faddr off x => G3 (B2A off (s.ev x)) k s.h s.n
 | .iaddr sz x i => A0O sz (s.ev x) (s.ev i) k s.h s.n
 | .iaddrA len sz x i => q8 len sz (s.ev x) (s.ev i) k s.h s.n
 | .fld off m agg x => G3 (C3k off m agg (s.ev x)) k s.h s.n
 | .idx x i => B5r (s.ev x) (s.ev i) k s.h s.n
 | .ext i x => G3 (C3f i (s.ev x)) k s.h s.n
 | .bin op x y => S0 op (s.ev x) (s.ev y) k s.h s.n
 | .binw op x y => G3 (B2j op (s.ev x) (s.ev y)) k s.h s.n
 | .eqp kind neg x y => G3 (bif B1d kind (s.ev x) then B8p neg (s.ev x) (s.ev y) else none) k s.h s.n
 | .eqa neg t x y => G3 (C3d neg t (s.ev x) (s.ev y)) k s.h s.n
 | .un op x => unK op (s.ev x) k s.h s.n
 | .negw x => G3 (B4w (s.ev x)) k s.h s.n
 | .conv j x => G3 (B6p j (s.ev x)) k s.h s.n
 | .cap0 x => G3 (B6c (s.ev x)) k s.h s.n
 | .grw nm z x y => B5o nm z (s.ev x) (s.ev y) k s.h s.n
 | .rgm nm x => B5G nm (s.ev x) k s.h s.n
 | .nxm x => B5B (s.ev x) k s.h s.n
 | .ent x => B5i (s.ev x) k s.h s.n
 | .bst x => G3 (C0x (u7 s.h (s.ev x))) k s.h s.n
 | .byts nm x => A7g nm (s.ev x) k s.h s.n
 | .isnil neg x => G3 (B2G neg (s.ev x)) k s.h s.n
 | .eqn fn neg x => A3Z fn neg (s.ev x) k s.h s.n
 | .len kind x => G3 (C3A s.h kind (s.ev x)) k s.h s.n
 | .lenc m => k (.int .i64 m) s.h s.n
 | .mm mx xs => G3 (mmV mx (xs.map s.ev)) k s.h s.n
 | .app nm sz b x => A5E 137438953472 nm sz (s.ev b) (A1G s.h (s.ev x)) k s.h s.n
 | .apb L nm sz b x => A5E L nm sz (s.ev b) (A1G s.h (s.ev x)) k s.h s.n
 | .copy sz d x => A4t sz (s.ev d) (A1G s.h (s.ev x)) k s.h s.n
 | .mksl nm z x => B1h nm z (s.ev x) k s.h s.n
 | .slc sz x lo hi => A9Y sz (s.ev x) (lo.map s.ev) (hi.map s.ev) k s.h s.n
 | .sls x lo hi => B1M (s.ev x) (lo.map s.ev) (hi.map s.ev) k s.h s.n
 | .mkfn f xs => k (.fn f (xs.map s.ev)) s.h s.n
 | .mkmap nm => k (.mp nm s.n) (A0.put s.h nm s.n (.map [])) (s.n + 1)
 | .look kd z ok m x => A4x kd z ok (s.ev m) (s.ev x) k s.h s.n
 | .mput kd m x v => A9v kd (s.ev m) (s.ev x) (s.ev v) k s.h s.n
 | .mdel kd m x => A7z kd (s.ev m) (s.ev x) k s.h s.n
 | .sh l x y => shK l (s.ev x) (s.ev y) k s.h s.n
 | .idxA len sz m agg x i => A5O len sz m agg (s.ev x) (s.ev i) k s.h s.n
 | .clr z x => B1v z (s.ev x) k s.h s.n
 | .slz nm sz x => B1N nm sz (s.ev x) k s.h s.n
 | .call f xs => A2 P f (xs.map s.ev) s.h s.n k
 | .pcall f xs => A0V P f (xs.map s.ev) k s.h s.n
 | .callv f xs => A5H P (s.ev f) (xs.map s.ev) s.h s.n k
 | .bad => False
def fin (d : Option Nat) (sl : List (Nat × V)) (K : St → Prop) : Res := fun r h n =>
 match d with
 | some i => K ⟨D6 sl i r, h, n⟩
 | none => K ⟨sl, h, n⟩
def A9w : Value → Bool
 | .bool _ => false
 | _ => true
def stepG (v : V) (want : Bool) (A B C : Prop) : Prop :=
 match v with
 | .bool b => (b = want → A) ∧ (b = !want → B)
 | .cst u => A9w u = true ∧ C
 | _ => False
def F4 (P : Program) (i : AI) (s : St) (K : St → Prop) : Prop :=
 match i.g with
 | none => A6 P i.o s (fin i.d s.sl K)
 | some (j, want) => stepG (C5 s.sl j) want
   (A6 P i.o ⟨D6 s.sl j (.bool want), s.h, s.n⟩ (fin i.d (D6 s.sl j (.bool want)) K))
   (fin i.d (D6 s.sl j (.bool !want)) K (.cst Go.undef) s.h s.n)
   (fin i.d s.sl K (.cst Go.undef) s.h s.n)
def cV : Value → Option V
 | .bool b => some (.bool b)
 | .int k n => some (.int k n)
 | .string s => some (.str s.data.toList)
 | .pointer none => some .nilp
 | .slice none 0 0 => some .nils
 | .map none => some .nilm
 | .nilFunc => some (.cst .nilFunc)
 | .nilIface => some (.cst .nilIface)
 | _ => none
def cVs : List Value → Option (List V)
 | [] => some []
 | v :: r => match cV v, cVs r with
  | some x, some xs => some (x :: xs)
  | _, _ => none
def zV (z : Value) : Option V :=
 match z with
 | .agg cs => (cVs cs.toList).map .agg
 | v => cV v
def A7 : Operand → Option Opd
 | .tmp i => some (.t i)
 | .const v => (zV v).map .c
 | .func f => some (.f f)
 | .global g => if (B2Q B2F g).isSome then some (.g g) else none
def Q5 : List Operand → Option (List Opd)
 | [] => some []
 | x :: r => match A7 x, Q5 r with
  | some y, some ys => some (y :: ys)
  | _, _ => none
def A8E (P : Program) (t : TypeId) : Option (Nat × Bool) :=
 match P.info? t, P.underlying t with
 | some i, some (.struct _) | some i, some (.array ..) => some (i.size, true)
 | some i, some _ => some (i.size, false)
 | _, _ => none
def M6 (P : Program) : Nat → TypeId → Option ETy
 | 0, _ => none
 | d + 1, t => match P.underlying t with
  | some .bool => some (.leaf 0)
  | some (.int _) => some (.leaf 1)
  | some .string => some (.leaf 2)
  | some (.struct fs) => if P.stoodInHeld t then none else (shapeFs (M6 P d) fs.toList).map .agg
  | _ => none
where
 shapeFs (g : TypeId → Option ETy) : List Field → Option (List (Nat × Nat × ETy))
  | [] => some []
  | f :: r => if f.name = "_" then none else match P.info? f.type, g f.type, shapeFs g r with
   | some i, some e, some es => some ((f.offset, i.size, e) :: es)
   | _, _, _ => none
end Go.Abs
