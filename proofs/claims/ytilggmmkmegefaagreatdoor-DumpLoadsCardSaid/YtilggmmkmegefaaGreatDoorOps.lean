/-
 Abstract states and the abstract meaning of the model's operations; the translation of code into abstract code. No condition.
-/
import Derived.Test.YtilggmmkmegefaaGreatDoorAbs
set_option linter.unusedVariables false
set_option linter.unusedSimpArgs false
namespace Go.Abs
structure St where
 sl : List (Nat × V)
 h : A2
 n : Nat
def D5 : List (Nat × V) → Nat → V → List (Nat × V)
 | [], i, v => [(i, v)]
 | p :: r, i, v => bif Nat.beq p.1 i then (i, v) :: r else bif Nat.blt p.1 i then (i, v) :: p :: r else p :: D5 r i v
inductive Opd where
 | t (i : Nat)
 | c (v : V)
 | f (g : FuncId)
 | g (g : Nat)
def St.ev (s : St) : Opd → V
 | .t i => C8 s.sl i
 | .c v => v
 | .f g => .fn g []
 | .g g => C4C g
inductive ETy where
 | leaf (k : Nat)
 | agg (fs : List (Nat × Nat × ETy))
inductive AO where
 | mov (x : Opd)
 | pick (c a b : Opd)
 | nilck (x : Opd)
 | box (nm sz : Nat) (x : Opd)
 | build (z : List V) (ps : List (Nat × Nat × Opd))
 | mkrow (nm sz : Nat) (xs : List Opd)
 | mkisl (sz : Nat) (xs : List Opd)
 | mkraw (nm : Nat) (xs : List Opd)
 | cvr (x : Opd)
 | load (n : Nat) (agg : Bool) (x : Opd)
 | store (n : Nat) (x v : Opd)
 | faddr (off : Nat) (x : Opd)
 | iaddr (sz : Nat) (x i : Opd)
 | iaddrA (len sz : Nat) (x i : Opd)
 | fld (off n : Nat) (agg : Bool) (x : Opd)
 | idx (x i : Opd)
 | ext (i : Nat) (x : Opd)
 | bin (op : BinOp) (x y : Opd)
 | binw (op : BinOp) (x y : Opd)
 | negw (x : Opd)
 | eqp (kind : Nat) (neg : Bool) (x y : Opd)
 | eqa (neg : Bool) (t : ETy) (x y : Opd)
 | un (op : UnOp) (x : Opd)
 | conv (k : IntKind) (x : Opd)
 | cap0 (x : Opd)
 | grw (nm : Nat) (z : List V) (x y : Opd)
 | rgm (nm : Nat) (x : Opd)
 | nxm (x : Opd)
 | ent (x : Opd)
 | bst (x : Opd)
 | byts (nm : Nat) (x : Opd)
 | isnil (neg : Bool) (x : Opd)
 | eqn (fn : Bool) (neg : Bool) (x : Opd)
 | len (kind : Nat) (x : Opd)
 | lenc (n : Nat)
 | mm (mx : Bool) (xs : List Opd)
 | app (nm sz : Nat) (s x : Opd)
 | apb (L nm sz : Nat) (s x : Opd)
 | copy (sz : Nat) (d x : Opd)
 | mksl (nm : Nat) (z : List V) (x : Opd)
 | slc (sz : Nat) (x : Opd) (lo hi : Option Opd)
 | sls (x : Opd) (lo hi : Option Opd)
 | mkfn (f : FuncId) (xs : List Opd)
 | mkmap (nm : Nat)
 | look (kd : Nat) (z : V) (ok : Bool) (m k : Opd)
 | mput (kd : Nat) (m k v : Opd)
 | mdel (kd : Nat) (m k : Opd)
 | sh (left : Bool) (x y : Opd)
 | idxA (len sz n : Nat) (agg : Bool) (x i : Opd)
 | clr (z : List V) (x : Opd)
 | slz (nm sz : Nat) (x : Opd)
 | call (f : FuncId) (xs : List Opd)
 | pcall (f : FuncId) (xs : List Opd)
 | callp (f : FuncId) (xs : List Opd)
 | boxi (sz : Nat) (x : Opd)
 | tas (t : TypeId) (x : Opd)
 | mki (t : TypeId) (x : Opd)
 | pan (x : Opd)
 | loadi (n : Nat) (agg : Bool) (x : Opd)
 | callv (f : Opd) (xs : List Opd)
 | bad
structure AI where
 d : Option Nat
 g : Option (Nat × Bool)
 o : AO
@[reducible] def AI.j (d : Nat) (o : AO) : AI := ⟨some d, none, o⟩
@[reducible] def AI.k (d g : Nat) (b : Bool) (o : AO) : AI := ⟨some d, some (g, b), o⟩
@[reducible] def AI.e (o : AO) : AI := ⟨none, none, o⟩
@[reducible] def AI.m (d x : Nat) : AI := ⟨some d, none, .mov (.t x)⟩
@[reducible] def AI.n (d : Nat) (z : Int) : AI := ⟨some d, none, .mov (.c (.int .i64 z))⟩
@[reducible] def AI.t (d : Nat) (b : Bool) : AI := ⟨some d, none, .mov (.c (.bool b))⟩
@[reducible] def AI.a (d k x : Nat) : AI := ⟨some d, none, .faddr k (.t x)⟩
@[reducible] def AI.l (d x : Nat) : AI := ⟨some d, none, .load 1 false (.t x)⟩
@[reducible] def AI.w (d k x : Nat) : AI := ⟨some d, none, .load k true (.t x)⟩
@[reducible] def AI.s (k x y : Nat) : AI := ⟨none, none, .store k (.t x) (.t y)⟩
@[reducible] def AI.b (d : Nat) (op : BinOp) (x : Nat) (z : Int) : AI := ⟨some d, none, .bin op (.t x) (.c (.int .i64 z))⟩
@[reducible] def AI.h (d : Nat) (op : BinOp) (x y : Nat) : AI := ⟨some d, none, .bin op (.t x) (.t y)⟩
@[reducible] def AI.r (d k x : Nat) : AI := ⟨some d, none, .len k (.t x)⟩
@[reducible] def AI.c (d f x : Nat) : AI := ⟨some d, none, .call f [.t x]⟩
@[reducible] def AI.i (d k x y : Nat) : AI := ⟨some d, none, .iaddr k (.t x) (.t y)⟩
@[reducible] def AI.x (d k x : Nat) : AI := ⟨some d, none, .ext k (.t x)⟩
@[reducible] def AI.y (d x : Nat) : AI := ⟨some d, none, .nilck (.t x)⟩
@[reducible] def Opd.z (n : Int) : Opd := .c (.int .i64 n)
inductive AC where
 | skip
 | ops (l : List (List AI))
 | seq (a b : AC)
 | cond (c : Opd) (a b : AC)
 | block (id : Nat) (a : AC)
 | loop (a : AC)
 | exit (id : Nat)
 | ret
 | rng (nm : Nat) (f : Opd) (ps : List Nat) (a b : AC)
 | dfr (d : Nat)
 | bad
inductive AItem where
 | code (c : AC)
 | blk (id : Nat)
 | lp (c : AC)
 | beg
abbrev Res := V → A2 → Nat → Prop
def RL (E : Env) (as : List V) (vs : Array Value) : Prop := as.length = vs.size ∧ ∀ (i : Nat) c v, as[i]? = some c → vs[i]? = some v → R E c v
def A4 (P : Program) (f : FuncId) (as : List V) (h : A2) (n : Nat) (k : Res) : Prop :=
 ∀ w O ρ cargs, HeapR w O ρ n h → RL (A8 w O ρ n h) as cargs → Calls P f cargs w fun e w' =>
  ∃ v r h' n' ρ', e = .returned v ∧ k r h' n' ∧ HeapR w' O ρ' n' h' ∧ R (A8 w' O ρ' n' h') r v ∧ Ext (A8 w O ρ n h) (A8 w' O ρ' n' h')
abbrev H0 := Value → A2 → Nat → Prop
def B6q : H0 := fun _ _ _ => False
def C3 (P : Program) (f : FuncId) (as : List V) (h : A2) (n : Nat) (k : Res) (pk : H0) : Prop :=
 ∀ w O ρ cargs, HeapR w O ρ n h → RL (A8 w O ρ n h) as cargs → Calls P f cargs w fun e w' =>
  (∃ v r h' n' ρ', e = .returned v ∧ k r h' n' ∧ HeapR w' O ρ' n' h' ∧ R (A8 w' O ρ' n' h') r v ∧ Ext (A8 w O ρ n h) (A8 w' O ρ' n' h')) ∨
  ∃ x h' n' ρ', e = .panicked [{ v := x, recovered := false }] ∧ pk x h' n' ∧ HeapR w' O ρ' n' h' ∧ Ext (A8 w O ρ n h) (A8 w' O ρ' n' h')
theorem A4.toP {P : Program} {f : FuncId} {as : List V} {h : A2} {n : Nat} {k : Res} {pk : H0} (hc : A4 P f as h n k) : C3 P f as h n k pk :=
 fun w O ρ cargs h1 h2 => (hc w O ρ cargs h1 h2).mono fun _ _ h => .inl h
def E6 (o : Option V) (k : Res) (h : A2) (n : Nat) : Prop :=
 match o with
 | some v => k v h n
 | none => False
def U3 : V → Option (List V)
 | .agg cs => some cs
 | .cst .nilFunc => some [.cst .nilFunc]
 | .cst .nilIface => some [.cst .nilIface]
 | .undef | .tup _ | .cst _ => none
 | v => some [v]
def B6p : V → V → V → Option V
 | .bool c, .bool x, .bool y => some (.bool (bif c then x else y))
 | .bool c, x, y => some (bif c then x else y)
 | _, _, _ => none
def B1E : V → Option V
 | .ptr b st i j => some (.ptr b st i j)
 | .iptr es i j => some (.iptr es i j)
 | .fn f cs => some (.fn f cs)
 | _ => none
def B4n (nm sz : Nat) (cs : Option (List V)) (k : Res) (h : A2) (n : Nat) : Prop :=
 match cs with
 | some cs => cs.length = sz ∧ k (.ptr nm n 0 0) (A2.put h nm n (.rows sz [cs])) (n + 1)
 | none => False
def A8q (sz : Nat) (cs : Option (List V)) (k : Res) (h : A2) (n : Nat) : Prop :=
 match cs with
 | some cs => cs.length = sz ∧ k (.iptr [cs] 0 0) h n
 | none => False
def I4 (z : List V) (off : Nat) (cs : List V) : List V := z.take off ++ cs ++ z.drop (off + cs.length)
def w8 (s : St) (z : List V) : List (Nat × Nat × Opd) → Option (List V)
 | [] => some z
 | p :: r => match U3 (s.ev p.2.2) with
  | some cs => bif Nat.beq cs.length p.2.1 && Nat.ble (p.1 + cs.length) z.length then w8 s (I4 z p.1 cs) r else none
  | none => none
def F8 (sz : Nat) (s : St) : List Opd → Option (List (List V))
 | [] => some []
 | x :: r => match U3 (s.ev x), F8 sz s r with
  | some cs, some rs => bif Nat.beq cs.length sz then some (cs :: rs) else none
  | _, _ => none
def B6V (nm sz : Nat) (rs : Option (List (List V))) (k : Res) (h : A2) (n : Nat) : Prop :=
 match rs with
 | some rs => k (.sl nm n 0 rs.length) (A2.put h nm n (.rows sz rs)) (n + 1)
 | none => False
def B7z (nm : Nat) (rs : Option (List (List V))) (k : Res) (h : A2) (n : Nat) : Prop :=
 match rs with
 | some rs => 0 < rs.length ∧ k (.sl nm n 0 rs.length) (A2.put h nm n (.raw rs)) (n + 1)
 | none => False
def B7t (b : Option Blk) (f : List (List V) → Prop) : Prop :=
 match b with
 | some (.raw rs) => f rs
 | _ => False
def B3N (x : V) (k : Res) (h : A2) (n : Nat) : Prop :=
 match x with
 | .sl b st 0 m => B7t (A2.get h b st) fun rs => m = rs.length ∧ k (.sl b st 0 m) (A2.put h b st (.rows 1 rs)) n
 | _ => False
def B5i (rs : Option (List (List V))) (k : Res) (h : A2) (n : Nat) : Prop :=
 match rs with
 | some rs => k (.isl rs) h n
 | none => False
def F5 (row : List V) (j n : Nat) (agg : Bool) : Option V :=
 bif agg then (bif Nat.ble (j + n) row.length then some (.agg ((row.drop j).take n)) else none) else row[j]?
def B8D (rs : List (List V)) (i : Nat) (f : List V → Option V) : Option V :=
 match rs[i]? with
 | some row => f row
 | none => none
def P5 (h : A2) (x : V) (n : Nat) (agg : Bool) : Option V :=
 match x with
 | .ptr b st i j => match A2.get h b st with
  | some (.rows _ rs) => match rs[i]? with
   | some row => F5 row j n agg
   | none => none
  | _ => none
 | .iptr es i j => match es[i]? with
  | some row => F5 row j n agg
  | none => none
 | _ => none
def A0I (m : Nat) (agg : Bool) (x : V) (k : Res) (h : A2) (n : Nat) : Prop :=
 match x with
 | .iptr es i j => E6 (B8D es i fun row => F5 row j m agg) k h n
 | _ => False
def B0o (h : A2) (b st : Nat) (i j n : Nat) (blk : Option Blk) (cs : Option (List V)) : Option A2 :=
 match blk, cs with
 | some (.rows sz rs), some cs => match rs[i]? with
  | some row => bif Nat.beq cs.length n && Nat.ble (j + n) row.length then some (A2.put h b st (.rows sz (rs.set i (I4 row j cs)))) else none
  | none => none
 | _, _ => none
def B1v (h : A2) (x v : V) (n : Nat) : Option A2 :=
 match x with
 | .ptr b st i j => B0o h b st i j n (A2.get h b st) (U3 v)
 | _ => none
def A6Z (h : Option A2) (k : Res) (n : Nat) : Prop :=
 match h with
 | some h => k .undef h n
 | none => False
def B0E (off : Nat) : V → Option V
 | .ptr b st i j => some (.ptr b st i (j + off))
 | .iptr es i j => some (.iptr es i (j + off))
 | _ => none
def C6 (es : List (List V)) (sz : Nat) : Prop := ∀ row ∈ es, row.length = sz
def A8n : Option Blk → Option Nat
 | some (.rows sz _) => some sz
 | _ => none
def A1b (sz : Nat) (x i : V) (k : Res) (h : A2) (n : Nat) : Prop :=
 match i with
 | .int _ z => match x with
  | .sl b st i0 m => 0 ≤ z ∧ z < m ∧ A8n (A2.get h b st) = some sz ∧ k (.ptr b st (i0 + z.toNat) 0) h n
  | .isl es => 0 ≤ z ∧ z < es.length ∧ C6 es sz ∧ k (.iptr es z.toNat 0) h n
  | _ => False
 | _ => False
def j6 (len sz : Nat) (x i : V) (k : Res) (h : A2) (n : Nat) : Prop :=
 match i with
 | .int _ z => match x with
  | .ptr b st i0 j => 0 ≤ z ∧ z < len ∧ k (.ptr b st i0 (j + z.toNat * sz)) h n
  | .iptr es i0 j => 0 ≤ z ∧ z < len ∧ k (.iptr es i0 (j + z.toNat * sz)) h n
  | _ => False
 | _ => False
def C1C (off n : Nat) (agg : Bool) : V → Option V
 | .agg cs => F5 cs off n agg
 | _ => none
def B4m (x i : V) (k : Res) (h : A2) (n : Nat) : Prop :=
 match x, i with
 | .str s, .int _ z => 0 ≤ z ∧ E6 ((s[z.toNat]?).map fun b => .int .u8 b.toNat) k h n
 | _, _ => False
def C0Z (i : Nat) : V → Option V
 | .tup vs => vs[i]?
 | _ => none
def inR (k : IntKind) (z : Int) : Prop :=
 match k with
 | .i64 => -9223372036854775808 ≤ z ∧ z ≤ 9223372036854775807
 | _ => True
def B3w (k : IntKind) (z : Int) : V :=
 match k with
 | .i64 => .int .i64 z
 | k => .int k (k.wrap z)
def Q0 (k : IntKind) (z : Int) (c : Res) (h : A2) (n : Nat) : Prop := inR k z ∧ c (B3w k z) h n
def K5 : List UInt8 → List UInt8 → Bool := Op.bytesLess
def R1 (op : BinOp) (j : IntKind) (a b : Int) : Int :=
 let x := BitVec.ofInt j.bits a
 let y := BitVec.ofInt j.bits b
 j.wrap (match op with
  | .and => (x &&& y).toNat
  | .or => (x ||| y).toNat
  | .xor => (x ^^^ y).toNat
  | _ => (x &&& ~~~y).toNat)
def P9 (op : BinOp) (x y : V) (k : Res) (h : A2) (n : Nat) : Prop :=
 match x, y with
 | .int j a, .int j' b => j = j' ∧ match op with
  | .add => Q0 j (a + b) k h n
  | .sub => Q0 j (a - b) k h n
  | .mul => Q0 j (a * b) k h n
  | .quo => b ≠ 0 ∧ Q0 j (a.tdiv b) k h n
  | .rem => b ≠ 0 ∧ k (.int j (a.tmod b)) h n
  | .eql => k (.bool (decide (a = b))) h n
  | .neq => k (.bool (decide (¬ a = b))) h n
  | .lss => k (.bool (decide (a < b))) h n
  | .leq => k (.bool (decide (a ≤ b))) h n
  | .gtr => k (.bool (decide (b < a))) h n
  | .geq => k (.bool (decide (b ≤ a))) h n
  | .and => k (.int j (R1 .and j a b)) h n
  | .or => k (.int j (R1 .or j a b)) h n
  | .xor => k (.int j (R1 .xor j a b)) h n
  | .andNot => k (.int j (R1 .andNot j a b)) h n
  | _ => False
 | .str a, .str b => match op with
  | .add => a.length + b.length ≤ 1099511627776 ∧ k (.str (a ++ b)) h n
  | .eql => k (.bool (decide (a = b))) h n
  | .neq => k (.bool (decide (¬ a = b))) h n
  | .lss => k (.bool (K5 a b)) h n
  | .geq => k (.bool (!K5 a b)) h n
  | .leq => k (.bool (K5 a b || decide (a = b))) h n
  | .gtr => k (.bool !(K5 a b || decide (a = b))) h n
  | _ => False
 | _, _ => False
def B1m (op : BinOp) (x y : V) : Option V :=
 match x, y with
 | .int j a, .int j' b => match op with
  | .add => if j = j' then some (.int j (j.wrap (a + b))) else none
  | .sub => if j = j' then some (.int j (j.wrap (a - b))) else none
  | .mul => if j = j' then some (.int j (j.wrap (a * b))) else none
  | _ => none
 | _, _ => none
def B2T : V → Option V
 | .int j a => some (.int j (j.wrap (0 - a)))
 | _ => none
def shZ (left : Bool) (j : IntKind) (a b : Int) : Int := bif left then j.wrap (a * 2 ^ (min b.toNat j.bits)) else a.fdiv (2 ^ (min b.toNat j.bits))
def shK (left : Bool) (x y : V) (k : Res) (h : A2) (n : Nat) : Prop :=
 match x, y with
 | .int j a, .int _ b => 0 ≤ b ∧ k (.int j (shZ left j a b)) h n
 | _, _ => False
def A5G (len sz m : Nat) (agg : Bool) (x i : V) (k : Res) (h : A2) (n : Nat) : Prop :=
 match x, i with
 | .agg cs, .int _ z => 0 ≤ z ∧ z < len ∧ E6 (F5 cs (z.toNat * sz) m agg) k h n
 | _, _ => False
def B0g (z : List V) (x : V) (k : Res) (h : A2) (n : Nat) : Prop :=
 match x with
 | .nils => k (.tup []) h n
 | .sl b st i m => match A2.get h b st with
  | some (.rows sz rs) => sz = z.length ∧ i + m ≤ rs.length ∧ k (.tup []) (A2.put h b st (.rows sz (rs.take i ++ List.replicate m z ++ rs.drop (i + m)))) n
  | _ => False
 | _ => False
def B0i (nm sz : Nat) (x : V) (k : Res) (h : A2) (n : Nat) : Prop :=
 match x with
 | .nils | .isl _ | .sl .. => k (.sl nm n 0 0) (A2.put h nm n (.rows sz [])) (n + 1)
 | _ => False
def B7e (neg : Bool) : V → V → Option V
 | .nilp, .nilp | .nilm, .nilm => some (.bool !neg)
 | .ptr .., .nilp | .nilp, .ptr .. | .iptr .., .nilp | .nilp, .iptr .. | .mp .., .nilm => some (.bool neg)
 | .bool a, .bool b => some (.bool (bif neg then decide (¬ a = b) else decide (a = b)))
 | _, _ => none
def A9F : Nat → V → Bool
 | 0, .nilp | 0, .ptr .. | 0, .iptr .. => true
 | 1, .nilm | 1, .mp .. => true
 | 2, .bool _ => true
 | _, _ => false
def B3X : Nat → V → V → Option Bool
 | 0, .bool a, .bool b => some (decide (a = b))
 | 1, .int j a, .int j' b => bif decide (j = j') then some (decide (a = b)) else none
 | 2, .str a, .str b => some (decide (a = b))
 | _, _, _ => none
def C2M : Option Bool → Option Bool → Option Bool
 | some a, some b => some (a && b)
 | _, _ => none
def eqE : ETy → List V → List V → Option Bool
 | .leaf k, [x], [y] => B3X k x y
 | .leaf _, _, _ => none
 | .agg fs, xs, ys => eqFs fs xs ys
where
 eqFs : List (Nat × Nat × ETy) → List V → List V → Option Bool
  | [], _, _ => some true
  | p :: r, xs, ys => C2M (eqE p.2.2 ((xs.drop p.1).take p.2.1) ((ys.drop p.1).take p.2.1)) (eqFs r xs ys)
def C1P (neg : Bool) (t : ETy) : V → V → Option V
 | .agg xs, .agg ys => (eqE t xs ys).map fun b => .bool (bif neg then !b else b)
 | _, _ => none
def unK (op : UnOp) (x : V) (k : Res) (h : A2) (n : Nat) : Prop :=
 match op, x with
 | .neg, .int j a => Q0 j (0 - a) k h n
 | .not, .bool b => k (.bool !b) h n
 | .xor, .int j a => k (.int j (R1 .xor j (bif j.signed then -1 else j.max) a)) h n
 | _, _ => False
def B5e (j : IntKind) : V → Option V
 | .int _ z => some (.int j (j.wrap z))
 | _ => none
def B0X (neg : Bool) : V → Option V
 | .cst .nilIface => some (.bool !neg)
 | .cst (.iface _ _) => some (.bool neg)
 | .err => some (.bool neg)
 | _ => none
def B7L : Option Blk → Option V
 | some (.map es) => some (.int .i64 es.length)
 | _ => none
def C2m (h : A2) : Nat → V → Option V
 | 0, .sl _ _ _ m => some (.int .i64 m)
 | 0, .isl es => some (.int .i64 es.length)
 | 0, .nils => some (.int .i64 0)
 | 1, .str s => some (.int .i64 s.length)
 | 2, .nilm => some (.int .i64 0)
 | 2, .mp b st => B7L (A2.get h b st)
 | _, _ => none
def mm2 (mx : Bool) (a b : Int) : Int := bif mx then (if b > a then b else a) else (if b < a then b else a)
def mmV (mx : Bool) : List V → Option V
 | [.int j a, .int j' b] => bif decide (j = j') then some (.int j (mm2 mx a b)) else none
 | _ => none
def n6 (h : A2) : V → Option (List (List V))
 | .nils => some []
 | .isl es => some es
 | .sl b st i m => match A2.get h b st with
  | some (.rows _ rs) => bif Nat.ble (i + m) rs.length then some ((rs.drop i).take m) else none
  | _ => bif Nat.beq m 0 then some [] else none
 | _ => none
def I7 (s : List UInt8) : List (List V) := s.map fun b => [.int .u8 b.toNat]
def A1c (h : A2) : V → Option (List (List V))
 | .str s => some (I7 s)
 | v => n6 h v
def B5u : V → Option V
 | .nils => some (.int .i64 0)
 | _ => none
def B3A (nm : Nat) (z : List V) (x y : V) (k : Res) (h : A2) (n : Nat) : Prop :=
 match x, y with
 | .nils, .int .i64 m => 0 < m ∧ m ≤ 137438953472 ∧ k (.sl nm n 0 m.toNat) (A2.put h nm n (.rows z.length (List.replicate m.toNat z))) (n + 1)
 | _, _ => False
def B7R (nm b st : Nat) (B : Option Blk) (k : Res) (h : A2) (n : Nat) : Prop :=
 match B with
 | some (.map es) => ∀ (bs : List Nat) (ck : Nat), bs.length = es.length → k (.ptr nm n 0 0) (A2.put (A2.put h b st (.mapb es bs ck)) nm n (.iter st es bs ck (bs.zip es) none)) (n + 1)
 | _ => False
def B3I (nm : Nat) (x : V) (k : Res) (h : A2) (n : Nat) : Prop :=
 match x with
 | .mp b st => nm ≠ b ∧ B7R nm b st (A2.get h b st) k h n
 | _ => False
def A0i : A2 → Nat → Option (Nat × Blk)
 | [], _ => none
 | e :: r, st => bif Nat.beq e.2.1 st then some (e.1, e.2.2) else A0i r st
def B0R (M : Option (Nat × Blk)) (f : Nat → List (V × V) → List Nat → Nat → Prop) : Prop :=
 match M with
 | some (mb, .mapb es bs ck) => f mb es bs ck
 | _ => False
def B6R (b st : Nat) (B : Option Blk) (k : Res) (h : A2) (n : Nat) : Prop :=
 match B with
 | some (.iter mst es bs ck left last) => B0R (A0i h mst) fun mb es' bs' ck' => es' = es ∧ bs' = bs ∧ ck' = ck ∧ mb ≠ b ∧ (left = [] → k (.tup [.bool false]) (A2.put h mb mst (.map es)) n) ∧
   ∀ x e y, left = x ++ e :: y → k (.tup [.bool true, e.2.1, e.2.2]) (A2.put h b st (.iter mst es bs ck (x ++ y) (some e.2))) n
 | _ => False
def B4s (x : V) (k : Res) (h : A2) (n : Nat) : Prop :=
 match x with
 | .ptr b st 0 0 => B6R b st (A2.get h b st) k h n
 | _ => False
def B7h (B : Option Blk) (k : Res) (h : A2) (n : Nat) : Prop :=
 match B with
 | some (.iter mst es bs ck _ (some p)) => B0R (A0i h mst) fun _ es' bs' ck' => es' = es ∧ bs' = bs ∧ ck' = ck ∧ k (.tup [p.1, p.2]) h n
 | _ => False
def B3L (x : V) (k : Res) (h : A2) (n : Nat) : Prop :=
 match x with
 | .ptr b st 0 0 => B7h (A2.get h b st) k h n
 | _ => False
def A8X : List (List V) → Option (List UInt8)
 | [] => some []
 | [.int .u8 z] :: r => match A8X r with
  | some l => some (UInt8.ofNat z.toNat :: l)
  | none => none
 | _ => none
def B4U : Option (List (List V)) → Option V
 | some rs => match A8X rs with
  | some l => some (.str l)
  | none => none
 | none => none
def A7a (nm : Nat) (x : V) (k : Res) (h : A2) (n : Nat) : Prop :=
 match x with
 | .str s => k (.sl nm n 0 s.length) (A2.put h nm n (.rows 1 (I7 s))) (n + 1)
 | _ => False
def A5L (L nm sz : Nat) (s : V) (xs : Option (List (List V))) (k : Res) (h : A2) (n : Nat) : Prop :=
 match xs with
 | none => False
 | some xs => C6 xs sz ∧ match s with
  | .nils => xs.length ≤ L ∧ k (.sl nm n 0 xs.length) (A2.put h nm n (.rows sz xs)) (n + 1)
  | .sl b st i m => match A2.get h b st with
   | some (.rows sz' rs) => sz' = sz ∧ i + m ≤ rs.length ∧ m + xs.length ≤ L ∧
     k (.sl b n 0 (m + xs.length)) (A2.put h b n (.rows sz ((rs.drop i).take m ++ xs))) (n + 1)
   | _ => False
  | _ => False
def A4I (sz : Nat) (d : V) (xs : Option (List (List V))) (k : Res) (h : A2) (n : Nat) : Prop :=
 match xs with
 | none => False
 | some xs => C6 xs sz ∧ match d with
  | .nils => k (.int .i64 0) h n
  | .sl b st i m => match A2.get h b st with
   | some (.rows sz' rs) => sz' = sz ∧ i + m ≤ rs.length ∧
     k (.int .i64 (min xs.length m : Nat)) (A2.put h b st (.rows sz (rs.take i ++ xs.take (min xs.length m) ++ rs.drop (i + min xs.length m)))) n
   | _ => False
  | _ => False
def B0a (nm : Nat) (z : List V) (x : V) (k : Res) (h : A2) (n : Nat) : Prop :=
 match x with
 | .int .i64 m => 0 ≤ m ∧ m ≤ 137438953472 ∧ k (.sl nm n 0 m.toNat) (A2.put h nm n (.rows z.length (List.replicate m.toNat z))) (n + 1)
 | _ => False
def F0 (d : Int) : Option V → Option Int
 | none => some d
 | some (.int _ z) => some z
 | _ => none
def A7V (sz : Nat) (x : V) (lo hi : Option V) (k : Res) (h : A2) (n : Nat) : Prop :=
 match x with
 | .sl b st i m => match F0 0 lo, F0 m hi with
  | some l, some u => A8n (A2.get h b st) = some sz ∧ 0 ≤ l ∧ l ≤ u ∧ u ≤ m ∧ k (.sl b st (i + l.toNat) (u - l).toNat) h n
  | _, _ => False
 | .isl es => match F0 0 lo, F0 es.length hi with
  | some l, some u => C6 es sz ∧ 0 ≤ l ∧ l ≤ u ∧ u ≤ es.length ∧ k (.isl ((es.drop l.toNat).take (u - l).toNat)) h n
  | _, _ => False
 | .nils => match F0 0 lo, F0 0 hi with
  | some l, some u => l = 0 ∧ u = 0 ∧ k .nils h n
  | _, _ => False
 | _ => False
def B0h (x : V) (lo hi : Option V) (k : Res) (h : A2) (n : Nat) : Prop :=
 match x with
 | .str s => match F0 0 lo, F0 s.length hi with
  | some l, some u => 0 ≤ l ∧ l ≤ u ∧ u ≤ s.length ∧ k (.str ((s.drop l.toNat).take (u - l).toNat)) h n
  | _, _ => False
 | _ => False
def A0V : V → V → Option Bool
 | .int j a, .int j' b => bif decide (j = j') then some (decide (a = b)) else none
 | .str a, .str b => some (decide (a = b))
 | .bool a, .bool b => some (decide (a = b))
 | _, _ => none
def A0c : V → List (V × V) → Prop
 | _, [] => True
 | k, e :: r => (A0V k e.1).isSome = true ∧ A0c k r
def R0 (k : V) : List (V × V) → Option V
 | [] => none
 | e :: r => bif (A0V k e.1).getD false then some e.2 else R0 k r
def A3H (k v : V) : List (V × V) → List (V × V)
 | [] => [(k, v)]
 | e :: r => bif (A0V k e.1).getD false then (k, v) :: r else e :: A3H k v r
def B7T (k : V) : List (V × V) → List (V × V)
 | [] => []
 | e :: r => bif (A0V k e.1).getD false then r else e :: B7T k r
def t6 : Nat → V → Bool
 | 0, .int .. | 1, .str _ | 2, .bool _ => true
 | _, _ => false
def A7Z (z : V) (ok : Bool) (r : Option V) : V :=
 match r with
 | some v => bif ok then .tup [v, .bool true] else v
 | none => bif ok then .tup [z, .bool false] else z
def A4x (kd : Nat) (z : V) (ok : Bool) (m key : V) (k : Res) (h : A2) (n : Nat) : Prop :=
 match m with
 | .nilm => t6 kd key = true ∧ k (A7Z z ok none) h n
 | .mp b st => match A2.get h b st with
  | some (.map es) => t6 kd key = true ∧ A0c key es ∧ k (A7Z z ok (R0 key es)) h n
  | _ => False
 | _ => False
def A8m (kd : Nat) (m key v : V) (k : Res) (h : A2) (n : Nat) : Prop :=
 match m with
 | .mp b st => match A2.get h b st with
  | some (.map es) => t6 kd key = true ∧ A0c key es ∧ k .undef (A2.put h b st (.map (A3H key v es))) n
  | _ => False
 | _ => False
def A6V (kd : Nat) (m key : V) (k : Res) (h : A2) (n : Nat) : Prop :=
 match m with
 | .nilm => t6 kd key = true ∧ k (.tup []) h n
 | .mp b st => match A2.get h b st with
  | some (.map es) => t6 kd key = true ∧ A0c key es ∧ k (.tup []) (A2.put h b st (.map (B7T key es))) n
  | _ => False
 | _ => False
def F6 (P : Program) (g : FuncId) : Bool :=
 match P.funcs[g]? with
 | some fn => fn.body.isSome && !(fn.name == "runtime.NumGoroutine")
 | none => false
def C2o (P : Program) (w : World) (O : Nat → Prop) (ρ : Nat → Loc) (h : A2) (n : Nat) (k : Res) : Ending → World → Prop := fun e w' =>
 ∃ v x h' n' ρ', e = .returned v ∧ k x h' n' ∧ HeapR w' O ρ' n' h' ∧ R (A8 w' O ρ' n' h') x v ∧ Ext (A8 w O ρ n h) (A8 w' O ρ' n' h')
def O2 (P : Program) (b st : Nat) (as : List V) (h : A2) (n : Nat) (k : Res) : Prop :=
 ∀ w O ρ cargs, HeapR w O ρ n h → st < n → RL (A8 w O ρ n h) as cargs → ∃ r : Loop, w.heap[(ρ st).blk]? = some (.loop r) ∧ cargs.size = r.params.size ∧
  RoundIn Fence.wide 0 P (ρ st).blk r.fn ((r.params.zip cargs).foldl (fun tmps (t, a) => tmps.setIfInBounds t a) r.tmps) r.assign r.body w (C2o P w O ρ h n k)
def A5F (P : Program) (f : V) (as : List V) (h : A2) (n : Nat) (k : Res) : Prop :=
 match f with
 | .fn g cs => F6 P g = true ∧ A4 P g (as ++ cs) h n k
 | .yld b st => O2 P b st as h n k
 | _ => False
def A3C (fn neg : Bool) (x : V) (k : Res) (h : A2) (n : Nat) : Prop :=
 match fn, x with
 | false, .nils => k (.bool !neg) h n
 | false, .isl es => k (.bool neg) h n ∧ (es = [] → k (.bool !neg) h n)
 | false, .sl _ _ _ m => k (.bool neg) h n ∧ (m = 0 → k (.bool !neg) h n)
 | true, .fn _ _ => k (.bool neg) h n
 | true, .cst .nilFunc => k (.bool !neg) h n
 | _, _ => False
def A0v (P : Program) (f : FuncId) (as : List V) (k : Res) (h : A2) (n : Nat) : Prop := ∃ r, (∀ k' : Res, k' r h n → A4 P f as h n k') ∧ k r h n
def cV : Value → Option V
 | .bool b => some (.bool b)
 | .int k n => some (.int k n)
 | .string s => some (.str s.data.toList)
 | .pointer none => some .nilp
 | .slice none 0 0 => some .nils
 | .map none => some .nilm
 | .nilFunc => some (.cst .nilFunc)
 | .nilIface => some (.cst .nilIface)
 | _ => none
def cVs : List Value → Option (List V)
 | [] => some []
 | v :: r => match cV v, cVs r with
  | some x, some xs => some (x :: xs)
  | _, _ => none
def zV (z : Value) : Option V :=
 match z with
 | .agg cs => (cVs cs.toList).map .agg
 | v => cV v
def unV : V → Option Value
 | .int k z => some (.int k z)
 | .agg [.int k z] => some (.agg #[.int k z])
 | _ => none
def C3H (PK : H0) : V → A2 → Nat → Prop
 | .cst (.iface t u), h, n => PK (.iface t u) h n
 | _, _, _ => False
def C0S (t : TypeId) : V → Option V
 | .cst (.iface t' u) => bif Nat.beq t' t then (zV u).map fun c => .tup [c, .bool true] else none
 | _ => none
def C4a : List FuncId := [43, 45, 46, 47, 48, 98]
def C9D : List FuncId := [21, 22, 31, 32, 33, 34, 35, 44]
def C6a : List Nat := []
def D1j : List FuncId := []
def D1l : List FuncId := [3, 4, 5, 6, 7, 10, 11, 12, 13, 14, 19, 20, 27, 28, 29, 30, 38, 43, 45, 46, 47, 48, 98]
def C4O : List (Nat × Nat × Nat) := []
def C7c : List FuncId := []
def B0 (P : Program) (PK : H0) (o : AO) (s : St) (k : Res) : Prop :=
 match o with
 | .mov x => k (s.ev x) s.h s.n
 | .pick c a b => E6 (B6p (s.ev c) (s.ev a) (s.ev b)) k s.h s.n
 | .nilck x => E6 (B1E (s.ev x)) k s.h s.n
 | .box nm sz x => B4n nm sz (U3 (s.ev x)) k s.h s.n
 | .build z ps => E6 ((w8 s z ps).map .agg) k s.h s.n
 | .mkrow nm sz xs => B6V nm sz (F8 sz s xs) k s.h s.n
 | .mkisl sz xs => B5i (F8 sz s xs) k s.h s.n
 | .mkraw nm xs => B7z nm (F8 1 s xs) k s.h s.n
 | .cvr x => B3N (s.ev x) k s.h s.n
 | .load m agg x => E6 (P5 s.h (s.ev x) m agg) k s.h s.n
 | .store m x v => A6Z (B1v s.h (s.ev x) (s.ev v) m) k s.n
 | .faddr off x => E6 (B0E off (s.ev x)) k s.h s.n
 | .iaddr sz x i => A1b sz (s.ev x) (s.ev i) k s.h s.n
 | .iaddrA len sz x i => j6 len sz (s.ev x) (s.ev i) k s.h s.n
 | .fld off m agg x => E6 (C1C off m agg (s.ev x)) k s.h s.n
 | .idx x i => B4m (s.ev x) (s.ev i) k s.h s.n
 | .ext i x => E6 (C0Z i (s.ev x)) k s.h s.n
 | .bin op x y => P9 op (s.ev x) (s.ev y) k s.h s.n
 | .binw op x y => E6 (B1m op (s.ev x) (s.ev y)) k s.h s.n
 | .eqp kind neg x y => E6 (bif A9F kind (s.ev x) then B7e neg (s.ev x) (s.ev y) else none) k s.h s.n
 | .eqa neg t x y => E6 (C1P neg t (s.ev x) (s.ev y)) k s.h s.n
 | .un op x => unK op (s.ev x) k s.h s.n
 | .negw x => E6 (B2T (s.ev x)) k s.h s.n
 | .conv j x => E6 (B5e j (s.ev x)) k s.h s.n
 | .cap0 x => E6 (B5u (s.ev x)) k s.h s.n
 | .grw nm z x y => B3A nm z (s.ev x) (s.ev y) k s.h s.n
 | .rgm nm x => B3I nm (s.ev x) k s.h s.n
 | .nxm x => B4s (s.ev x) k s.h s.n
 | .ent x => B3L (s.ev x) k s.h s.n
 | .bst x => E6 (B4U (n6 s.h (s.ev x))) k s.h s.n
 | .byts nm x => A7a nm (s.ev x) k s.h s.n
 | .isnil neg x => E6 (B0X neg (s.ev x)) k s.h s.n
 | .eqn fn neg x => A3C fn neg (s.ev x) k s.h s.n
 | .len kind x => E6 (C2m s.h kind (s.ev x)) k s.h s.n
 | .lenc m => k (.int .i64 m) s.h s.n
 | .mm mx xs => E6 (mmV mx (xs.map s.ev)) k s.h s.n
 | .app nm sz b x => A5L 137438953472 nm sz (s.ev b) (A1c s.h (s.ev x)) k s.h s.n
 | .apb L nm sz b x => A5L L nm sz (s.ev b) (A1c s.h (s.ev x)) k s.h s.n
 | .copy sz d x => A4I sz (s.ev d) (A1c s.h (s.ev x)) k s.h s.n
 | .mksl nm z x => B0a nm z (s.ev x) k s.h s.n
 | .slc sz x lo hi => A7V sz (s.ev x) (lo.map s.ev) (hi.map s.ev) k s.h s.n
 | .sls x lo hi => B0h (s.ev x) (lo.map s.ev) (hi.map s.ev) k s.h s.n
 | .mkfn f xs => k (.fn f (xs.map s.ev)) s.h s.n
 | .mkmap nm => k (.mp nm s.n) (A2.put s.h nm s.n (.map [])) (s.n + 1)
 | .look kd z ok m x => A4x kd z ok (s.ev m) (s.ev x) k s.h s.n
 | .mput kd m x v => A8m kd (s.ev m) (s.ev x) (s.ev v) k s.h s.n
 | .mdel kd m x => A6V kd (s.ev m) (s.ev x) k s.h s.n
 | .sh l x y => shK l (s.ev x) (s.ev y) k s.h s.n
 | .idxA len sz m agg x i => A5G len sz m agg (s.ev x) (s.ev i) k s.h s.n
 | .clr z x => B0g z (s.ev x) k s.h s.n
 | .slz nm sz x => B0i nm sz (s.ev x) k s.h s.n
 | .call f xs => A4 P f (xs.map s.ev) s.h s.n k
 | .pcall f xs => A0v P f (xs.map s.ev) k s.h s.n
 | .tas t x => E6 (C0S t (s.ev x)) k s.h s.n
 | .mki t x => E6 ((unV (s.ev x)).map fun u => .cst (.iface t u)) k s.h s.n
 | .pan x => C3H PK (s.ev x) s.h s.n
 | .boxi sz x => A8q sz (U3 (s.ev x)) k s.h s.n
 | .loadi m agg x => A0I m agg (s.ev x) k s.h s.n
 | .callp f xs => C3 P f (xs.map s.ev) s.h s.n k PK
 | .callv f xs => A5F P (s.ev f) (xs.map s.ev) s.h s.n k
 | .bad => False
def fin (d : Option Nat) (sl : List (Nat × V)) (K : St → Prop) : Res := fun r h n =>
 match d with
 | some i => K ⟨D5 sl i r, h, n⟩
 | none => K ⟨sl, h, n⟩
def A8U : Value → Bool
 | .bool _ => false
 | _ => true
def stepG (v : V) (want : Bool) (A B C : Prop) : Prop :=
 match v with
 | .bool b => (b = want → A) ∧ (b = !want → B)
 | .cst u => A8U u = true ∧ C
 | _ => False
def E9 (P : Program) (PK : H0) (i : AI) (s : St) (K : St → Prop) : Prop :=
 match i.g with
 | none => B0 P PK i.o s (fin i.d s.sl K)
 | some (j, want) => stepG (C8 s.sl j) want
   (B0 P PK i.o ⟨D5 s.sl j (.bool want), s.h, s.n⟩ (fin i.d (D5 s.sl j (.bool want)) K))
   (fin i.d (D5 s.sl j (.bool !want)) K (.cst Go.undef) s.h s.n)
   (fin i.d s.sl K (.cst Go.undef) s.h s.n)
def B4 : Operand → Option Opd
 | .tmp i => some (.t i)
 | .const v => (zV v).map .c
 | .func f => some (.f f)
 | .global g => if (B1z B1C g).isSome then some (.g g) else none
def M4 : List Operand → Option (List Opd)
 | [] => some []
 | x :: r => match B4 x, M4 r with
  | some y, some ys => some (y :: ys)
  | _, _ => none
def A6w (P : Program) (t : TypeId) : Option (Nat × Bool) :=
 match P.info? t, P.underlying t with
 | some i, some (.struct _) | some i, some (.array ..) => some (i.size, true)
 | some i, some _ => some (i.size, false)
 | _, _ => none
def K4 (P : Program) : Nat → TypeId → Option ETy
 | 0, _ => none
 | d + 1, t => match P.underlying t with
  | some .bool => some (.leaf 0)
  | some (.int _) => some (.leaf 1)
  | some .string => some (.leaf 2)
  | some (.struct fs) => if P.stoodInHeld t then none else (shapeFs (K4 P d) fs.toList).map .agg
  | _ => none
where
 shapeFs (g : TypeId → Option ETy) : List Field → Option (List (Nat × Nat × ETy))
  | [] => some []
  | f :: r => if f.name = "_" then none else match P.info? f.type, g f.type, shapeFs g r with
   | some i, some e, some es => some ((f.offset, i.size, e) :: es)
   | _, _, _ => none
end Go.Abs
