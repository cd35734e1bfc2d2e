/-
 Abstract states and the abstract meaning of the model's operations; the translation of code into abstract code. No condition.
-/
import Derived.Test.YtnihmhbcjpcobaaGreatDoorAbs
set_option linter.unusedVariables false
set_option linter.unusedSimpArgs false
namespace Go.Abs
structure St where
 sl:List (Nat×V)
 h:A0
 n:Nat
def E8:List (Nat×V)→Nat→V→List (Nat×V)
 | [],i,v=> [(i,v)]
 |p::r,i,v=>bif Nat.beq p.1 i then(i,v)::r else bif Nat.blt p.1 i then(i,v)::p::r else p::E8 r i v
inductive Opd where
 |t (i:Nat)
 |c (v:V)
 |f (g:FuncId)
 |g (g:Nat)
def St.ev(s:St):Opd→V
 | .t i=>C3 s.sl i
 | .c v=>v
 | .f g=> .fn g []
 | .g g=>C5v g
inductive ETy where
 |leaf (k:Nat)
 |agg (fs:List (Nat×Nat×ETy))
inductive AO where
 |mov (x:Opd)
 |pick (c a b:Opd)
 |nilck (x:Opd)
 |box (nm sz:Nat) (x:Opd)
 |build (z:List V) (ps:List (Nat×Nat×Opd))
 |mkrow (nm sz:Nat) (xs:List Opd)
 |mkisl (sz:Nat) (xs:List Opd)
 |mkraw (nm:Nat) (xs:List Opd)
 |cvr (x:Opd)
 |load (n:Nat) (agg:Bool) (x:Opd)
 |store (n:Nat) (x v:Opd)
 |faddr (off:Nat) (x:Opd)
 |iaddr (sz:Nat) (x i:Opd)
 |iaddrA (len sz:Nat) (x i:Opd)
 |fld (off n:Nat) (agg:Bool) (x:Opd)
 |idx (x i:Opd)
 |ext (i:Nat) (x:Opd)
 |bin (op:BinOp) (x y:Opd)
 |binw (op:BinOp) (x y:Opd)
 |negw (x:Opd)
 |eqp (kind:Nat) (neg:Bool) (x y:Opd)
 |eqa (neg:Bool) (t:ETy) (x y:Opd)
 |un (op:UnOp) (x:Opd)
 |conv (k:IntKind) (x:Opd)
 |cap0 (x:Opd)
 |grw (nm:Nat) (z:List V) (x y:Opd)
 |rgm (nm:Nat) (x:Opd)
 |nxm (x:Opd)
 |ent (x:Opd)
 |bst (x:Opd)
 |byts (nm:Nat) (x:Opd)
 |isnil (neg:Bool) (x:Opd)
 |eqn (fn:Bool) (neg:Bool) (x:Opd)
 |len (kind:Nat) (x:Opd)
 |lenc (n:Nat)
 |mm (mx:Bool) (xs:List Opd)
 |app (nm sz:Nat) (s x:Opd)
 |apb (L nm sz:Nat) (s x:Opd)
 |copy (sz:Nat) (d x:Opd)
 |mksl (nm:Nat) (z:List V) (x:Opd)
 |slc (sz:Nat) (x:Opd) (lo hi:Option Opd)
 |sls (x:Opd) (lo hi:Option Opd)
 |mkfn (f:FuncId) (xs:List Opd)
 |mkmap (nm:Nat)
 |look (kd:Nat) (z:V) (ok:Bool) (m k:Opd)
 |mput (kd:Nat) (m k v:Opd)
 |mdel (kd:Nat) (m k:Opd)
 |sh (left:Bool) (x y:Opd)
 |idxA (len sz n:Nat) (agg:Bool) (x i:Opd)
 |clr (z:List V) (x:Opd)
 |slz (nm sz:Nat) (x:Opd)
 |call (f:FuncId) (xs:List Opd)
 |pcall (f:FuncId) (xs:List Opd)
 |callv (f:Opd) (xs:List Opd)
 |bad
structure AI where
 d:Option Nat
 g:Option (Nat×Bool)
 o:AO
@[reducible] def AI.j(d:Nat)(o:AO):AI:=⟨some d,none,o⟩
@[reducible] def AI.k(d g:Nat)(b:Bool)(o:AO):AI:=⟨some d,some (g,b),o⟩
@[reducible] def AI.e(o:AO):AI:=⟨none,none,o⟩
@[reducible] def AI.m(d x:Nat):AI:=⟨some d,none,.mov (.t x)⟩
@[reducible] def AI.n(d:Nat)(z:Int):AI:=⟨some d,none,.mov (.c (.int .i64 z))⟩
@[reducible] def AI.t(d:Nat)(b:Bool):AI:=⟨some d,none,.mov (.c (.bool b))⟩
@[reducible] def AI.a(d k x:Nat):AI:=⟨some d,none,.faddr k (.t x)⟩
@[reducible] def AI.l(d x:Nat):AI:=⟨some d,none,.load 1 false (.t x)⟩
@[reducible] def AI.w(d k x:Nat):AI:=⟨some d,none,.load k true (.t x)⟩
@[reducible] def AI.s(k x y:Nat):AI:=⟨none,none,.store k (.t x) (.t y)⟩
@[reducible] def AI.b(d:Nat)(op:BinOp)(x:Nat)(z:Int):AI:=⟨some d,none,.bin op (.t x) (.c (.int .i64 z))⟩
@[reducible] def AI.h(d:Nat)(op:BinOp)(x y:Nat):AI:=⟨some d,none,.bin op (.t x) (.t y)⟩
@[reducible] def AI.r(d k x:Nat):AI:=⟨some d,none,.len k (.t x)⟩
@[reducible] def AI.c(d f x:Nat):AI:=⟨some d,none,.call f [.t x]⟩
@[reducible] def AI.i(d k x y:Nat):AI:=⟨some d,none,.iaddr k (.t x) (.t y)⟩
@[reducible] def AI.x(d k x:Nat):AI:=⟨some d,none,.ext k (.t x)⟩
@[reducible] def AI.y(d x:Nat):AI:=⟨some d,none,.nilck (.t x)⟩
@[reducible] def Opd.z(n:Int):Opd:= .c (.int .i64 n)
inductive AC where
 |skip
 |ops (l:List (List AI))
 |seq (a b:AC)
 |cond (c:Opd) (a b:AC)
 |block (id:Nat) (a:AC)
 |loop (a:AC)
 |exit (id:Nat)
 |ret
 |rng (nm:Nat) (f:Opd) (ps:List Nat) (a b:AC)
 |dfr (d:Nat)
 |bad
inductive AItem where
 |code (c:AC)
 |blk (id:Nat)
 |lp (c:AC)
 |beg
abbrev Res:=V→A0→Nat→Prop
def RL(E:Env)(as:List V)(vs:Array Value):Prop:=as.length=vs.size∧ ∀(i:Nat) c v,as[i]? =some c→vs[i]? =some v→R E c v
def A2(P:Program)(f:FuncId)(as:List V)(h:A0)(n:Nat)(k:Res):Prop:=
 ∀w O ρ cargs,HeapR w O ρ n h→RL (A5 w O ρ n h) as cargs→Calls P f cargs w fun e w'=>
  ∃v r h' n' ρ',e= .returned v∧k r h' n'∧HeapR w' O ρ' n' h'∧R (A5 w' O ρ' n' h') r v∧Ext (A5 w O ρ n h) (A5 w' O ρ' n' h')
def G8(o:Option V)(k:Res)(h:A0)(n:Nat):Prop:=
 match o with
 |some v=>k v h n
 |none=>False
def A1E:V→Option (List V)
 | .agg cs=>some cs
 | .cst .nilFunc=>some [.cst .nilFunc]
 | .cst .nilIface=>some [.cst .nilIface]
 | .undef| .tup _| .cst _=>none
 |v=>some [v]
def B7l:V→V→V→Option V
 | .bool c,.bool x,.bool y=>some (.bool (bif c then x else y))
 | .bool c,x,y=>some (bif c then x else y)
 |_,_,_=>none
def B3k:V→Option V
 | .ptr b st i j=>some (.ptr b st i j)
 | .iptr es i j=>some (.iptr es i j)
 | .fn f cs=>some (.fn f cs)
 |_=>none
def B3Q(nm sz:Nat)(cs:Option (List V))(k:Res)(h:A0)(n:Nat):Prop:=
 match cs with
 |some cs=>cs.length=sz∧k (.ptr nm n 0 0) (A0.put h nm n (.rows sz [cs])) (n+1)
 |none=>False
def J2(z:List V)(off:Nat)(cs:List V):List V:=z.take off++cs++z.drop (off+cs.length)
def A2p(s:St)(z:List V):List (Nat×Nat×Opd)→Option (List V)
 | []=>some z
 |p::r=>match A1E (s.ev p.2.2)with
  |some cs=>bif Nat.beq cs.length p.2.1&&Nat.ble (p.1+cs.length) z.length then A2p s (J2 z p.1 cs) r else none
  |none=>none
def G7(sz:Nat)(s:St):List Opd→Option (List (List V))
 | []=>some []
 |x::r=>match A1E (s.ev x),G7 sz s r with
  |some cs,some rs=>bif Nat.beq cs.length sz then some (cs::rs)else none
  |_,_=>none
def B7y(nm sz:Nat)(rs:Option (List (List V)))(k:Res)(h:A0)(n:Nat):Prop:=
 match rs with
 |some rs=>k (.sl nm n 0 rs.length) (A0.put h nm n (.rows sz rs)) (n+1)
 |none=>False
def B8P(nm:Nat)(rs:Option (List (List V)))(k:Res)(h:A0)(n:Nat):Prop:=
 match rs with
 |some rs=>0<rs.length∧k (.sl nm n 0 rs.length) (A0.put h nm n (.raw rs)) (n+1)
 |none=>False
def B8f(b:Option Blk)(f:List (List V)→Prop):Prop:=
 match b with
 |some (.raw rs)=>f rs
 |_=>False
def B5h(x:V)(k:Res)(h:A0)(n:Nat):Prop:=
 match x with
 | .sl b st 0 m=>B8f (A0.get h b st) fun rs=>m=rs.length∧k (.sl b st 0 m) (A0.put h b st (.rows 1 rs)) n
 |_=>False
def B6Q(rs:Option (List (List V)))(k:Res)(h:A0)(n:Nat):Prop:=
 match rs with
 |some rs=>k (.isl rs) h n
 |none=>False
def J9(row:List V)(j n:Nat)(agg:Bool):Option V:=
 bif agg then(bif Nat.ble (j+n) row.length then some (.agg ((row.drop j).take n))else none)else row[j]?
def A2s(h:A0)(x:V)(n:Nat)(agg:Bool):Option V:=
 match x with
 | .ptr b st i j=>match A0.get h b st with
  |some (.rows _ rs)=>match rs[i]? with
   |some row=>J9 row j n agg
   |none=>none
  |_=>none
 | .iptr es i j=>match es[i]? with
  |some row=>J9 row j n agg
  |none=>none
 |_=>none
def B2u(h:A0)(b st:Nat)(i j n:Nat)(blk:Option Blk)(cs:Option (List V)):Option A0:=
 match blk,cs with
 |some (.rows sz rs),some cs=>match rs[i]? with
  |some row=>bif Nat.beq cs.length n&&Nat.ble (j+n) row.length then some (A0.put h b st (.rows sz (rs.set i (J2 row j cs))))else none
  |none=>none
 |_,_=>none
def B3I(h:A0)(x v:V)(n:Nat):Option A0:=
 match x with
 | .ptr b st i j=>B2u h b st i j n (A0.get h b st) (A1E v)
 |_=>none
def A8A(h:Option A0)(k:Res)(n:Nat):Prop:=
 match h with
 |some h=>k .undef h n
 |none=>False
def B2M(off:Nat):V→Option V
 | .ptr b st i j=>some (.ptr b st i (j+off))
 | .iptr es i j=>some (.iptr es i (j+off))
 |_=>none
def C4(es:List (List V))(sz:Nat):Prop:= ∀row∈es,row.length=sz
def A9O:Option Blk→Option Nat
 |some (.rows sz _)=>some sz
 |_=>none
def A1H(sz:Nat)(x i:V)(k:Res)(h:A0)(n:Nat):Prop:=
 match i with
 | .int _ z=>match x with
  | .sl b st i0 m=>0≤z∧z<m∧A9O (A0.get h b st)=some sz∧k (.ptr b st (i0+z.toNat) 0) h n
  | .isl es=>0≤z∧z<es.length∧C4 es sz∧k (.iptr es z.toNat 0) h n
  |_=>False
 |_=>False
def A1M(len sz:Nat)(x i:V)(k:Res)(h:A0)(n:Nat):Prop:=
 match i with
 | .int _ z=>match x with
  | .ptr b st i0 j=>0≤z∧z<len∧k (.ptr b st i0 (j+z.toNat*sz)) h n
  | .iptr es i0 j=>0≤z∧z<len∧k (.iptr es i0 (j+z.toNat*sz)) h n
  |_=>False
 |_=>False
def C2v(off n:Nat)(agg:Bool):V→Option V
 | .agg cs=>J9 cs off n agg
 |_=>none
def B5r(x i:V)(k:Res)(h:A0)(n:Nat):Prop:=
 match x,i with
 | .str s,.int _ z=>0≤z∧G8 ((s[z.toNat]?).map fun b=> .int .u8 b.toNat) k h n
 |_,_=>False
def C2u(i:Nat):V→Option V
 | .tup vs=>vs[i]?
 |_=>none
def inR(k:IntKind)(z:Int):Prop:=
 match k with
 | .i64=> -9223372036854775808≤z∧z≤9223372036854775807
 |_=>True
def B4W(k:IntKind)(z:Int):V:=
 match k with
 | .i64=> .int .i64 z
 |k=> .int k (k.wrap z)
def R9(k:IntKind)(z:Int)(c:Res)(h:A0)(n:Nat):Prop:=inR k z∧c (B4W k z) h n
def L9:List UInt8→List UInt8→Bool:=Op.bytesLess
def A2d(op:BinOp)(j:IntKind)(a b:Int):Int:=
 let x:=BitVec.ofInt j.bits a
 let y:=BitVec.ofInt j.bits b
 j.wrap (match op with
  | .and=>(x&&&y).toNat
  | .or=>(x|||y).toNat
  | .xor=>(x^^^y).toNat
  |_=>(x&&& ~~~y).toNat)
def S3(op:BinOp)(x y:V)(k:Res)(h:A0)(n:Nat):Prop:=
 match x,y with
 | .int j a,.int j' b=>j=j'∧match op with
  | .add=>R9 j (a+b) k h n
  | .sub=>R9 j (a-b) k h n
  | .mul=>R9 j (a*b) k h n
  | .quo=>b≠0∧R9 j (a.tdiv b) k h n
  | .rem=>b≠0∧k (.int j (a.tmod b)) h n
  | .eql=>k (.bool (decide (a=b))) h n
  | .neq=>k (.bool (decide (¬a=b))) h n
  | .lss=>k (.bool (decide (a<b))) h n
  | .leq=>k (.bool (decide (a≤b))) h n
  | .gtr=>k (.bool (decide (b<a))) h n
  | .geq=>k (.bool (decide (b≤a))) h n
  | .and=>k (.int j (A2d .and j a b)) h n
  | .or=>k (.int j (A2d .or j a b)) h n
  | .xor=>k (.int j (A2d .xor j a b)) h n
  | .andNot=>k (.int j (A2d .andNot j a b)) h n
  |_=>False
 | .str a,.str b=>match op with
  | .add=>a.length+b.length≤1099511627776∧k (.str (a++b)) h n
  | .eql=>k (.bool (decide (a=b))) h n
  | .neq=>k (.bool (decide (¬a=b))) h n
  | .lss=>k (.bool (L9 a b)) h n
  | .geq=>k (.bool (!L9 a b)) h n
  | .leq=>k (.bool (L9 a b||decide (a=b))) h n
  | .gtr=>k (.bool !(L9 a b||decide (a=b))) h n
  |_=>False
 |_,_=>False
def B2B(op:BinOp)(x y:V):Option V:=
 match x,y with
 | .int j a,.int j' b=>match op with
  | .add=>if j=j' then some (.int j (j.wrap (a+b)))else none
  | .sub=>if j=j' then some (.int j (j.wrap (a-b)))else none
  | .mul=>if j=j' then some (.int j (j.wrap (a*b)))else none
  |_=>none
 |_,_=>none
def B4I:V→Option V
 | .int j a=>some (.int j (j.wrap (0-a)))
 |_=>none
def shZ(left:Bool)(j:IntKind)(a b:Int):Int:=bif left then j.wrap (a*2^(min b.toNat j.bits))else a.fdiv (2^(min b.toNat j.bits))
def shK(left:Bool)(x y:V)(k:Res)(h:A0)(n:Nat):Prop:=
 match x,y with
 | .int j a,.int _ b=>0≤b∧k (.int j (shZ left j a b)) h n
 |_,_=>False
def A7n(len sz m:Nat)(agg:Bool)(x i:V)(k:Res)(h:A0)(n:Nat):Prop:=
 match x,i with
 | .agg cs,.int _ z=>0≤z∧z<len∧G8 (J9 cs (z.toNat*sz) m agg) k h n
 |_,_=>False
def B2d(z:List V)(x:V)(k:Res)(h:A0)(n:Nat):Prop:=
 match x with
 | .nils=>k (.tup []) h n
 | .sl b st i m=>match A0.get h b st with
  |some (.rows sz rs)=>sz=z.length∧i+m≤rs.length∧k (.tup []) (A0.put h b st (.rows sz (rs.take i++List.replicate m z++rs.drop (i+m)))) n
  |_=>False
 |_=>False
def B2j(nm sz:Nat)(x:V)(k:Res)(h:A0)(n:Nat):Prop:=
 match x with
 | .nils| .isl _| .sl .. =>k (.sl nm n 0 0) (A0.put h nm n (.rows sz [])) (n+1)
 |_=>False
def B8r(neg:Bool):V→V→Option V
 | .nilp,.nilp| .nilm,.nilm=>some (.bool !neg)
 | .ptr ..,.nilp| .nilp,.ptr .. | .iptr ..,.nilp| .nilp,.iptr .. | .mp ..,.nilm=>some (.bool neg)
 | .bool a,.bool b=>some (.bool (bif neg then decide (¬a=b)else decide (a=b)))
 |_,_=>none
def B1G:Nat→V→Bool
 |0,.nilp|0,.ptr .. |0,.iptr .. =>true
 |1,.nilm|1,.mp .. =>true
 |2,.bool _=>true
 |_,_=>false
def B5j:Nat→V→V→Option Bool
 |0,.bool a,.bool b=>some (decide (a=b))
 |1,.int j a,.int j' b=>bif decide (j=j')then some (decide (a=b))else none
 |2,.str a,.str b=>some (decide (a=b))
 |_,_,_=>none
def C3R:Option Bool→Option Bool→Option Bool
 |some a,some b=>some (a&&b)
 |_,_=>none
def eqE:ETy→List V→List V→Option Bool
 | .leaf k,[x],[y]=>B5j k x y
 | .leaf _,_,_=>none
 | .agg fs,xs,ys=>eqFs fs xs ys
where
 eqFs:List (Nat×Nat×ETy)→List V→List V→Option Bool
  | [],_,_=>some true
  |p::r,xs,ys=>C3R (eqE p.2.2 ((xs.drop p.1).take p.2.1) ((ys.drop p.1).take p.2.1)) (eqFs r xs ys)
def C2t(neg:Bool)(t:ETy):V→V→Option V
 | .agg xs,.agg ys=>(eqE t xs ys).map fun b=> .bool (bif neg then !b else b)
 |_,_=>none
def unK(op:UnOp)(x:V)(k:Res)(h:A0)(n:Nat):Prop:=
 match op,x with
 | .neg,.int j a=>R9 j (0-a) k h n
 | .not,.bool b=>k (.bool !b) h n
 | .xor,.int j a=>k (.int j (A2d .xor j (bif j.signed then -1 else j.max) a)) h n
 |_,_=>False
def B6z(j:IntKind):V→Option V
 | .int _ z=>some (.int j (j.wrap z))
 |_=>none
def B2W(neg:Bool):V→Option V
 | .cst .nilIface=>some (.bool !neg)
 | .err=>some (.bool neg)
 |_=>none
def B8I:Option Blk→Option V
 |some (.map es)=>some (.int .i64 es.length)
 |_=>none
def B3a(h:A0):Nat→V→Option V
 |0,.sl _ _ _ m=>some (.int .i64 m)
 |0,.isl es=>some (.int .i64 es.length)
 |0,.nils=>some (.int .i64 0)
 |1,.str s=>some (.int .i64 s.length)
 |2,.nilm=>some (.int .i64 0)
 |2,.mp b st=>B8I (A0.get h b st)
 |_,_=>none
def mm2(mx:Bool)(a b:Int):Int:=bif mx then(if b>a then b else a)else(if b<a then b else a)
def mmV(mx:Bool):List V→Option V
 | [.int j a,.int j' b]=>bif decide (j=j')then some (.int j (mm2 mx a b))else none
 |_=>none
def A0i(h:A0):V→Option (List (List V))
 | .nils=>some []
 | .isl es=>some es
 | .sl b st i m=>match A0.get h b st with
  |some (.rows _ rs)=>bif Nat.ble (i+m) rs.length then some ((rs.drop i).take m)else none
  |_=>bif Nat.beq m 0 then some []else none
 |_=>none
def K0(s:List UInt8):List (List V):=s.map fun b=> [.int .u8 b.toNat]
def A3P(h:A0):V→Option (List (List V))
 | .str s=>some (K0 s)
 |v=>A0i h v
def B6m:V→Option V
 | .nils=>some (.int .i64 0)
 |_=>none
def B5o(nm:Nat)(z:List V)(x y:V)(k:Res)(h:A0)(n:Nat):Prop:=
 match x,y with
 | .nils,.int .i64 m=>0<m∧m≤137438953472∧k (.sl nm n 0 m.toNat) (A0.put h nm n (.rows z.length (List.replicate m.toNat z))) (n+1)
 |_,_=>False
def B8V(nm b st:Nat)(B:Option Blk)(k:Res)(h:A0)(n:Nat):Prop:=
 match B with
 |some (.map es)=> ∀(bs:List Nat) (ck:Nat),bs.length=es.length→k (.ptr nm n 0 0) (A0.put (A0.put h b st (.mapb es bs ck)) nm n (.iter st es bs ck (bs.zip es) none)) (n+1)
 |_=>False
def B5L(nm:Nat)(x:V)(k:Res)(h:A0)(n:Nat):Prop:=
 match x with
 | .mp b st=>nm≠b∧B8V nm b st (A0.get h b st) k h n
 |_=>False
def A2A:A0→Nat→Option (Nat×Blk)
 | [],_=>none
 |e::r,st=>bif Nat.beq e.2.1 st then some (e.1,e.2.2)else A2A r st
def B3o(M:Option (Nat×Blk))(f:Nat→List (V×V)→List Nat→Nat→Prop):Prop:=
 match M with
 |some (mb,.mapb es bs ck)=>f mb es bs ck
 |_=>False
def B8M(b st:Nat)(B:Option Blk)(k:Res)(h:A0)(n:Nat):Prop:=
 match B with
 | some (.iter mst es bs ck left last)=>B3o (A2A h mst) fun mb es' bs' ck'=>es'=es∧bs'=bs∧ck'=ck∧mb≠b∧(left= []→k (.tup [.bool false]) (A0.put h mb mst (.map es)) n)∧
   ∀x e y,left=x++e::y→k (.tup [.bool true,e.2.1,e.2.2]) (A0.put h b st (.iter mst es bs ck (x++y) (some e.2))) n
 |_=>False
def B5A(x:V)(k:Res)(h:A0)(n:Nat):Prop:=
 match x with
 | .ptr b st 0 0=>B8M b st (A0.get h b st) k h n
 |_=>False
def B8o(B:Option Blk)(k:Res)(h:A0)(n:Nat):Prop:=
 match B with
 |some (.iter mst es bs ck _ (some p))=>B3o (A2A h mst) fun _ es' bs' ck'=>es'=es∧bs'=bs∧ck'=ck∧k (.tup [p.1,p.2]) h n
 |_=>False
def B5i(x:V)(k:Res)(h:A0)(n:Nat):Prop:=
 match x with
 | .ptr b st 0 0=>B8o (A0.get h b st) k h n
 |_=>False
def B4e:List (List V)→Option (List UInt8)
 | []=>some []
 | [.int .u8 z]::r=>match B4e r with
  |some l=>some (UInt8.ofNat z.toNat::l)
  |none=>none
 |_=>none
def C0n:Option (List (List V))→Option V
 |some rs=>match B4e rs with
  |some l=>some (.str l)
  |none=>none
 |none=>none
def A8y(nm:Nat)(x:V)(k:Res)(h:A0)(n:Nat):Prop:=
 match x with
 | .str s=>k (.sl nm n 0 s.length) (A0.put h nm n (.rows 1 (K0 s))) (n+1)
 |_=>False
def A7d(L nm sz:Nat)(s:V)(xs:Option (List (List V)))(k:Res)(h:A0)(n:Nat):Prop:=
 match xs with
 |none=>False
 | some xs=>C4 xs sz∧match s with
  | .nils=>xs.length≤L∧k (.sl nm n 0 xs.length) (A0.put h nm n (.rows sz xs)) (n+1)
  | .sl b st i m=>match A0.get h b st with
   | some (.rows sz' rs)=>sz'=sz∧i+m≤rs.length∧m+xs.length≤L∧
     k (.sl b n 0 (m+xs.length)) (A0.put h b n (.rows sz ((rs.drop i).take m++xs))) (n+1)
   |_=>False
  |_=>False
def A6e(sz:Nat)(d:V)(xs:Option (List (List V)))(k:Res)(h:A0)(n:Nat):Prop:=
 match xs with
 |none=>False
 | some xs=>C4 xs sz∧match d with
  | .nils=>k (.int .i64 0) h n
  | .sl b st i m=>match A0.get h b st with
   | some (.rows sz' rs)=>sz'=sz∧i+m≤rs.length∧
     k (.int .i64 (min xs.length m:Nat)) (A0.put h b st (.rows sz (rs.take i++xs.take (min xs.length m)++rs.drop (i+min xs.length m)))) n
   |_=>False
  |_=>False
def B1K(nm:Nat)(z:List V)(x:V)(k:Res)(h:A0)(n:Nat):Prop:=
 match x with
 | .int .i64 m=>0≤m∧m≤137438953472∧k (.sl nm n 0 m.toNat) (A0.put h nm n (.rows z.length (List.replicate m.toNat z))) (n+1)
 |_=>False
def G4(d:Int):Option V→Option Int
 |none=>some d
 |some (.int _ z)=>some z
 |_=>none
def B0F(sz:Nat)(x:V)(lo hi:Option V)(k:Res)(h:A0)(n:Nat):Prop:=
 match x with
 | .sl b st i m=>match G4 0 lo,G4 m hi with
  |some l,some u=>A9O (A0.get h b st)=some sz∧0≤l∧l≤u∧u≤m∧k (.sl b st (i+l.toNat) (u-l).toNat) h n
  |_,_=>False
 | .isl es=>match G4 0 lo,G4 es.length hi with
  |some l,some u=>C4 es sz∧0≤l∧l≤u∧u≤es.length∧k (.isl ((es.drop l.toNat).take (u-l).toNat)) h n
  |_,_=>False
 | .nils=>match G4 0 lo,G4 0 hi with
  |some l,some u=>l=0∧u=0∧k .nils h n
  |_,_=>False
 |_=>False
def B2i(x:V)(lo hi:Option V)(k:Res)(h:A0)(n:Nat):Prop:=
 match x with
 | .str s=>match G4 0 lo,G4 s.length hi with
  |some l,some u=>0≤l∧l≤u∧u≤s.length∧k (.str ((s.drop l.toNat).take (u-l).toNat)) h n
  |_,_=>False
 |_=>False
def A2X:V→V→Option Bool
 | .int j a,.int j' b=>bif decide (j=j')then some (decide (a=b))else none
 | .str a,.str b=>some (decide (a=b))
 | .bool a,.bool b=>some (decide (a=b))
 |_,_=>none
def A2r:V→List (V×V)→Prop
 |_,[]=>True
 |k,e::r=>(A2X k e.1).isSome=true∧A2r k r
def S7(k:V):List (V×V)→Option V
 | []=>none
 |e::r=>bif (A2X k e.1).getD false then some e.2 else S7 k r
def A5P(k v:V):List (V×V)→List (V×V)
 | []=> [(k,v)]
 |e::r=>bif (A2X k e.1).getD false then(k,v)::r else e::A5P k v r
def B8J(k:V):List (V×V)→List (V×V)
 | []=> []
 |e::r=>bif (A2X k e.1).getD false then r else e::B8J k r
def A2i:Nat→V→Bool
 |0,.int .. |1,.str _|2,.bool _=>true
 |_,_=>false
def B0c(z:V)(ok:Bool)(r:Option V):V:=
 match r with
 |some v=>bif ok then .tup [v,.bool true]else v
 |none=>bif ok then .tup [z,.bool false]else z
def A6g(kd:Nat)(z:V)(ok:Bool)(m key:V)(k:Res)(h:A0)(n:Nat):Prop:=
 match m with
 | .nilm=>A2i kd key=true∧k (B0c z ok none) h n
 | .mp b st=>match A0.get h b st with
  |some (.map es)=>A2i kd key=true∧A2r key es∧k (B0c z ok (S7 key es)) h n
  |_=>False
 |_=>False
def B0f(kd:Nat)(m key v:V)(k:Res)(h:A0)(n:Nat):Prop:=
 match m with
 | .mp b st=>match A0.get h b st with
  |some (.map es)=>A2i kd key=true∧A2r key es∧k .undef (A0.put h b st (.map (A5P key v es))) n
  |_=>False
 |_=>False
def A8C(kd:Nat)(m key:V)(k:Res)(h:A0)(n:Nat):Prop:=
 match m with
 | .nilm=>A2i kd key=true∧k (.tup []) h n
 | .mp b st=>match A0.get h b st with
  |some (.map es)=>A2i kd key=true∧A2r key es∧k (.tup []) (A0.put h b st (.map (B8J key es))) n
  |_=>False
 |_=>False
def J8(P:Program)(g:FuncId):Bool:=
 match P.funcs[g]? with
 |some fn=>fn.body.isSome&& !(fn.name== "runtime.NumGoroutine")
 |none=>false
def C1V(P:Program)(w:World)(O:Nat→Prop)(ρ:Nat→Loc)(h:A0)(n:Nat)(k:Res):Ending→World→Prop:=fun e w'=>
 ∃v x h' n' ρ',e= .returned v∧k x h' n'∧HeapR w' O ρ' n' h'∧R (A5 w' O ρ' n' h') x v∧Ext (A5 w O ρ n h) (A5 w' O ρ' n' h')
def P7(P:Program)(b st:Nat)(as:List V)(h:A0)(n:Nat)(k:Res):Prop:=
 ∀w O ρ cargs,HeapR w O ρ n h→st<n→RL (A5 w O ρ n h) as cargs→ ∃r:Loop,w.heap[(ρ st).blk]? =some (.loop r)∧cargs.size=r.params.size∧
  RoundIn Fence.wide 0 P (ρ st).blk r.fn ((r.params.zip cargs).foldl (fun tmps (t,a)=>tmps.setIfInBounds t a) r.tmps) r.assign r.body w (C1V P w O ρ h n k)
def A7f(P:Program)(f:V)(as:List V)(h:A0)(n:Nat)(k:Res):Prop:=
 match f with
 | .fn g cs=>J8 P g=true∧A2 P g (as++cs) h n k
 | .yld b st=>P7 P b st as h n k
 |_=>False
def A5I(fn neg:Bool)(x:V)(k:Res)(h:A0)(n:Nat):Prop:=
 match fn,x with
 |false,.nils=>k (.bool !neg) h n
 |false,.isl es=>k (.bool neg) h n∧(es= []→k (.bool !neg) h n)
 |false,.sl _ _ _ m=>k (.bool neg) h n∧(m=0→k (.bool !neg) h n)
 |true,.fn _ _=>k (.bool neg) h n
 |true,.cst .nilFunc=>k (.bool !neg) h n
 |_,_=>False
def A3e(P:Program)(f:FuncId)(as:List V)(k:Res)(h:A0)(n:Nat):Prop:= ∃r,(∀k':Res,k' r h n→A2 P f as h n k')∧k r h n
def C5M:List FuncId:= [18,42,43,44,45,107]
def D1W:List FuncId:= [18,26,42,43,44,45,107]
def C6e:List (Nat×Nat×Nat):= []
def C7I:List FuncId:= [99]
def A7(P:Program)(o:AO)(s:St)(k:Res):Prop:=
 match o with
 | .mov x=>k (s.ev x) s.h s.n
 | .pick c a b=>G8 (B7l (s.ev c) (s.ev a) (s.ev b)) k s.h s.n
 | .nilck x=>G8 (B3k (s.ev x)) k s.h s.n
 | .box nm sz x=>B3Q nm sz (A1E (s.ev x)) k s.h s.n
 | .build z ps=>G8 ((A2p s z ps).map .agg) k s.h s.n
 | .mkrow nm sz xs=>B7y nm sz (G7 sz s xs) k s.h s.n
 | .mkisl sz xs=>B6Q (G7 sz s xs) k s.h s.n
 | .mkraw nm xs=>B8P nm (G7 1 s xs) k s.h s.n
 | .cvr x=>B5h (s.ev x) k s.h s.n
 | .load m agg x=>G8 (A2s s.h (s.ev x) m agg) k s.h s.n
 | .store m x v=>A8A (B3I s.h (s.ev x) (s.ev v) m) k s.n
 | .faddr off x=>G8 (B2M off (s.ev x)) k s.h s.n
 | .iaddr sz x i=>A1H sz (s.ev x) (s.ev i) k s.h s.n
 | .iaddrA len sz x i=>A1M len sz (s.ev x) (s.ev i) k s.h s.n
 | .fld off m agg x=>G8 (C2v off m agg (s.ev x)) k s.h s.n
 | .idx x i=>B5r (s.ev x) (s.ev i) k s.h s.n
 | .ext i x=>G8 (C2u i (s.ev x)) k s.h s.n
 | .bin op x y=>S3 op (s.ev x) (s.ev y) k s.h s.n
 | .binw op x y=>G8 (B2B op (s.ev x) (s.ev y)) k s.h s.n
 | .eqp kind neg x y=>G8 (bif B1G kind (s.ev x)then B8r neg (s.ev x) (s.ev y)else none) k s.h s.n
 | .eqa neg t x y=>G8 (C2t neg t (s.ev x) (s.ev y)) k s.h s.n
 | .un op x=>unK op (s.ev x) k s.h s.n
 | .negw x=>G8 (B4I (s.ev x)) k s.h s.n
 | .conv j x=>G8 (B6z j (s.ev x)) k s.h s.n
 | .cap0 x=>G8 (B6m (s.ev x)) k s.h s.n
 | .grw nm z x y=>B5o nm z (s.ev x) (s.ev y) k s.h s.n
 | .rgm nm x=>B5L nm (s.ev x) k s.h s.n
 | .nxm x=>B5A (s.ev x) k s.h s.n
 | .ent x=>B5i (s.ev x) k s.h s.n
 | .bst x=>G8 (C0n (A0i s.h (s.ev x))) k s.h s.n
 | .byts nm x=>A8y nm (s.ev x) k s.h s.n
 | .isnil neg x=>G8 (B2W neg (s.ev x)) k s.h s.n
 | .eqn fn neg x=>A5I fn neg (s.ev x) k s.h s.n
 | .len kind x=>G8 (B3a s.h kind (s.ev x)) k s.h s.n
 | .lenc m=>k (.int .i64 m) s.h s.n
 | .mm mx xs=>G8 (mmV mx (xs.map s.ev)) k s.h s.n
 | .app nm sz b x=>A7d 137438953472 nm sz (s.ev b) (A3P s.h (s.ev x)) k s.h s.n
 | .apb L nm sz b x=>A7d L nm sz (s.ev b) (A3P s.h (s.ev x)) k s.h s.n
 | .copy sz d x=>A6e sz (s.ev d) (A3P s.h (s.ev x)) k s.h s.n
 | .mksl nm z x=>B1K nm z (s.ev x) k s.h s.n
 | .slc sz x lo hi=>B0F sz (s.ev x) (lo.map s.ev) (hi.map s.ev) k s.h s.n
 | .sls x lo hi=>B2i (s.ev x) (lo.map s.ev) (hi.map s.ev) k s.h s.n
 | .mkfn f xs=>k (.fn f (xs.map s.ev)) s.h s.n
 | .mkmap nm=>k (.mp nm s.n) (A0.put s.h nm s.n (.map [])) (s.n+1)
 | .look kd z ok m x=>A6g kd z ok (s.ev m) (s.ev x) k s.h s.n
 | .mput kd m x v=>B0f kd (s.ev m) (s.ev x) (s.ev v) k s.h s.n
 | .mdel kd m x=>A8C kd (s.ev m) (s.ev x) k s.h s.n
 | .sh l x y=>shK l (s.ev x) (s.ev y) k s.h s.n
 | .idxA len sz m agg x i=>A7n len sz m agg (s.ev x) (s.ev i) k s.h s.n
 | .clr z x=>B2d z (s.ev x) k s.h s.n
 | .slz nm sz x=>B2j nm sz (s.ev x) k s.h s.n
 | .call f xs=>A2 P f (xs.map s.ev) s.h s.n k
 | .pcall f xs=>A3e P f (xs.map s.ev) k s.h s.n
 | .callv f xs=>A7f P (s.ev f) (xs.map s.ev) s.h s.n k
 | .bad=>False
def fin(d:Option Nat)(sl:List (Nat×V))(K:St→Prop):Res:=fun r h n=>
 match d with
 |some i=>K ⟨E8 sl i r,h,n⟩
 |none=>K ⟨sl,h,n⟩
def B0h:Value→Bool
 | .bool _=>false
 |_=>true
def stepG(v:V)(want:Bool)(A B C:Prop):Prop:=
 match v with
 | .bool b=>(b=want→A)∧(b= !want→B)
 | .cst u=>B0h u=true∧C
 |_=>False
def D5(P:Program)(i:AI)(s:St)(K:St→Prop):Prop:=
 match i.g with
 |none=>A7 P i.o s (fin i.d s.sl K)
 | some (j,want)=>stepG (C3 s.sl j) want
   (A7 P i.o ⟨E8 s.sl j (.bool want),s.h,s.n⟩ (fin i.d (E8 s.sl j (.bool want)) K))
   (fin i.d (E8 s.sl j (.bool !want)) K (.cst Go.undef) s.h s.n)
   (fin i.d s.sl K (.cst Go.undef) s.h s.n)
def cV:Value→Option V
 | .bool b=>some (.bool b)
 | .int k n=>some (.int k n)
 | .string s=>some (.str s.data.toList)
 | .pointer none=>some .nilp
 | .slice none 0 0=>some .nils
 | .map none=>some .nilm
 | .nilFunc=>some (.cst .nilFunc)
 | .nilIface=>some (.cst .nilIface)
 |_=>none
def cVs:List Value→Option (List V)
 | []=>some []
 |v::r=>match cV v,cVs r with
  |some x,some xs=>some (x::xs)
  |_,_=>none
def zV(z:Value):Option V:=
 match z with
 | .agg cs=>(cVs cs.toList).map .agg
 |v=>cV v
def B0:Operand→Option Opd
 | .tmp i=>some (.t i)
 | .const v=>(zV v).map .c
 | .func f=>some (.f f)
 | .global g=>if (B3d B2S g).isSome then some (.g g)else none
def Q8:List Operand→Option (List Opd)
 | []=>some []
 |x::r=>match B0 x,Q8 r with
  |some y,some ys=>some (y::ys)
  |_,_=>none
def A9D(P:Program)(t:TypeId):Option (Nat×Bool):=
 match P.info? t,P.underlying t with
 |some i,some (.struct _)|some i,some (.array ..)=>some (i.size,true)
 |some i,some _=>some (i.size,false)
 |_,_=>none
def M4(P:Program):Nat→TypeId→Option ETy
 |0,_=>none
 |d+1,t=>match P.underlying t with
  |some .bool=>some (.leaf 0)
  |some (.int _)=>some (.leaf 1)
  |some .string=>some (.leaf 2)
  |some (.struct fs)=>if P.stoodInHeld t then none else(shapeFs (M4 P d) fs.toList).map .agg
  |_=>none
where
 shapeFs (g:TypeId→Option ETy):List Field→Option (List (Nat×Nat×ETy))
  | []=>some []
  |f::r=>if f.name= "_" then none else match P.info? f.type,g f.type,shapeFs g r with
   |some i,some e,some es=>some ((f.offset,i.size,e)::es)
   |_,_,_=>none
end Go.Abs
