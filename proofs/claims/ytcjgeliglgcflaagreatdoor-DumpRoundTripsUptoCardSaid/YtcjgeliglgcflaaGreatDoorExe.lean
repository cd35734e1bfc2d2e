/-
 Abstract code run as a program on known data: what it answers is a contract. No condition.
-/
import Derived.Test.YtcjgeliglgcflaaGreatDoorWk
set_option linter.unusedVariables false
set_option linter.unusedSimpArgs false
namespace Go.Abs
variable {PK:H1}
abbrev P4:=Option (V×A2×Nat)
def E9(v:V)(h:A2)(n:Nat):P4:=some (v,h,n)
def A2I(o:Option V)(h:A2)(n:Nat):P4:=
 match o with
 |some v=>E9 v h n
 |none=>none
def gE(b:Bool)(r:P4):P4:=bif b then r else none
def Good(o:P4)(k:Res):Prop:= ∃x,o=some x∧k x.1 x.2.1 x.2.2
theorem Good.one{v:V}{h:A2}{n:Nat}{k:Res}(hg:Good (E9 v h n) k):k v h n:=by
 obtain⟨l,h1,h2⟩:=hg
 injection h1 with h1
 subst h1
 exact h2
theorem Good.opt{o:Option V}{h:A2}{n:Nat}{k:Res}(hg:Good (A2I o h n) k):F8 o k h n:=by
 cases o with
 |none=>obtain⟨l,h1,_⟩:=hg;cases h1
 |some v=>exact Good.one hg
theorem Good.g{b:Bool}{o:P4}{k:Res}(hg:Good (gE b o) k):b=true∧Good o k:=by
 cases b with
 |false=>obtain⟨l,h1,_⟩:=hg;cases h1
 |true=>exact⟨rfl,hg⟩
theorem Good.no{k:Res}(hg:Good none k):False:=by obtain⟨l,h1,_⟩:=hg;cases h1
def A9Y(es:List (List V))(sz:Nat):Bool:=es.all fun r=>Nat.beq r.length sz
theorem A2u{es:List (List V)}{sz:Nat}(h:A9Y es sz=true):C4 es sz:=fun r hr=>Nat.eq_of_beq_eq_true (List.all_eq_true.1 h r hr)
def zle(a b:Int):Bool:=match b-a with
 | .ofNat _=>true
 | .negSucc _=>false
theorem R9{a b:Int}:zle a b=true↔a≤b:=by
 unfold zle
 split
 ·rename_i m h
  have h:b-a=(m:Int):=h
  simp only [true_iff];omega
 ·rename_i m h
  simp only [Bool.false_eq_true,false_iff];omega
def zlt(a b:Int):Bool:=zle (a+1) b
theorem A7k{a b:Int}:zlt a b=true↔a<b:=by unfold zlt;rw [R9];omega
def zeq(a b:Int):Bool:=match a,b with
 | .ofNat a,.ofNat b=>Nat.beq a b
 | .negSucc a,.negSucc b=>Nat.beq a b
 |_,_=>false
theorem A9C{a b:Int}:zeq a b=true↔a=b:=by
 unfold zeq
 cases a<;>cases b<;>simp<;>omega
theorem B8W(a b:Int):decide (a≤b)=zle a b:=by rw [Bool.eq_iff_iff,decide_eq_true_eq,R9]
theorem B8X(a b:Int):decide (a<b)=zlt a b:=by rw [Bool.eq_iff_iff,decide_eq_true_eq,A7k]
theorem B8V(a b:Int):decide (a=b)=zeq a b:=by rw [Bool.eq_iff_iff,decide_eq_true_eq,A9C]
def kEq:IntKind→IntKind→Bool
 | .i8,.i8| .i16,.i16| .i32,.i32| .i64,.i64| .u8,.u8| .u16,.u16| .u32,.u32| .u64,.u64=>true
 |_,_=>false
theorem B1a{a b:IntKind}:kEq a b=true↔a=b:=by cases a<;>cases b<;>simp [kEq]
def C6r(k:IntKind)(z:Int):Bool:=
 match k with
 | .i64=>zle (-9223372036854775808) z&&zle z 9223372036854775807
 |_=>true
theorem C1v{k:IntKind}{z:Int}(h:C6r k z=true):inR k z:=by
 cases k<;>simp only [C6r,inR,Bool.and_eq_true,R9]at h⊢
 exact h
def A9D(k:IntKind)(z:Int)(h:A2)(n:Nat):P4:=gE (C6r k z) (E9 (B3Y k z) h n)
theorem Good.arith{j:IntKind}{z:Int}{h:A2}{n:Nat}{k:Res}(hg:Good (A9D j z h n) k):S0 j z k h n:=⟨C1v hg.g.1,hg.g.2.one⟩
theorem A8R{a b:Nat}:Nat.beq a b=true↔a=b:=⟨Nat.eq_of_beq_eq_true,fun h=>h ▸ Nat.beq_refl a⟩
def R4:List UInt8→List UInt8→Bool
 | [],[]=>true
 |a::r,b::s=>Nat.beq a.toNat b.toNat&&R4 r s
 |_,_=>false
theorem A2T: ∀{a b:List UInt8},R4 a b=true↔a=b
 | [],[]=>by simp [R4]
 | [],_::_=>by simp [R4]
 |_::_,[]=>by simp [R4]
 |a::r,b::s=>by
  simp only [R4,Bool.and_eq_true,A2T,List.cons.injEq,A8R]
  rw [←UInt8.toNat_inj]
theorem A6U(a b:List UInt8):decide (a=b)=R4 a b:=by rw [Bool.eq_iff_iff,decide_eq_true_eq,A2T]
def C5H(op:BinOp)(x y:V)(h:A2)(n:Nat):P4:=
 match x,y with
 | .int j a,.int j' b=>gE (kEq j j') (match op with
  | .add=>A9D j (a+b) h n
  | .sub=>A9D j (a-b) h n
  | .mul=>A9D j (a*b) h n
  | .quo=>gE (!zeq b 0) (A9D j (a.tdiv b) h n)
  | .rem=>gE (!zeq b 0) (E9 (.int j (a.tmod b)) h n)
  | .eql=>E9 (.bool (zeq a b)) h n
  | .neq=>E9 (.bool (!zeq a b)) h n
  | .lss=>E9 (.bool (zlt a b)) h n
  | .leq=>E9 (.bool (zle a b)) h n
  | .gtr=>E9 (.bool (zlt b a)) h n
  | .geq=>E9 (.bool (zle b a)) h n
  | .and=>E9 (.int j (S2 .and j a b)) h n
  | .or=>E9 (.int j (S2 .or j a b)) h n
  | .xor=>E9 (.int j (S2 .xor j a b)) h n
  | .andNot=>E9 (.int j (S2 .andNot j a b)) h n
  |_=>none)
 | .str a,.str b=>match op with
  | .add=>gE (Nat.ble (a.length+b.length) 1099511627776) (E9 (.str (a++b)) h n)
  | .eql=>E9 (.bool (R4 a b)) h n
  | .neq=>E9 (.bool (!R4 a b)) h n
  | .lss=>E9 (.bool (N6 a b)) h n
  | .geq=>E9 (.bool (!N6 a b)) h n
  | .leq=>E9 (.bool (N6 a b||R4 a b)) h n
  | .gtr=>E9 (.bool !(N6 a b||R4 a b)) h n
  |_=>none
 |_,_=>none
theorem B8K{a b:Int}(h:(!zeq a b)=true):a≠b:=fun e=>by
 rw [A9C.2 e]at h;cases h
theorem Good.bin{op:BinOp}{x y:V}{h:A2}{n:Nat}{k:Res}(hg:Good (C5H op x y h n) k):S1 op x y k h n:=by
 unfold C5H at hg
 split at hg
 ·rename_i j a j' b
  obtain⟨h1,hg⟩:=hg.g
  have h1:=B1a.1 h1
  unfold S1
  refine⟨h1,?_⟩
  cases op<;>simp only at hg⊢
  case add=>exact hg.arith
  case sub=>exact hg.arith
  case mul=>exact hg.arith
  case quo=>exact⟨B8K hg.g.1,hg.g.2.arith⟩
  case rem=>exact⟨B8K hg.g.1,hg.g.2.one⟩
  case eql=>rw [B8V];exact hg.one
  case neq=>rw [decide_not,B8V];exact hg.one
  case lss=>rw [B8X];exact hg.one
  case leq=>rw [B8W];exact hg.one
  case gtr=>rw [B8X];exact hg.one
  case geq=>rw [B8W];exact hg.one
  case and=>exact hg.one
  case or=>exact hg.one
  case xor=>exact hg.one
  case andNot=>exact hg.one
  all_goals exact hg.no
 ·rename_i a b
  unfold S1
  cases op<;>simp only at hg⊢
  case add=>exact⟨Nat.le_of_ble_eq_true hg.g.1,hg.g.2.one⟩
  case eql=>rw [A6U];exact hg.one
  case neq=>rw [decide_not,A6U];exact hg.one
  case lss=>exact hg.one
  case geq=>exact hg.one
  case leq=>rw [A6U];exact hg.one
  case gtr=>rw [A6U];exact hg.one
  all_goals exact hg.no
 ·exact hg.no.elim
def unE(op:UnOp)(x:V)(h:A2)(n:Nat):P4:=
 match op,x with
 | .neg,.int j a=>A9D j (0-a) h n
 | .not,.bool b=>E9 (.bool !b) h n
 | .xor,.int j a=>E9 (.int j (S2 .xor j (bif j.signed then -1 else j.max) a)) h n
 |_,_=>none
theorem Good.un{op:UnOp}{x:V}{h:A2}{n:Nat}{k:Res}(hg:Good (unE op x h n) k):unK op x k h n:=by
 unfold unE at hg
 split at hg
 ·exact hg.arith
 ·exact hg.one
 ·exact hg.one
 ·exact hg.no.elim
def B7m(sz:Nat)(x i:V)(h:A2)(n:Nat):P4:=
 match i with
 | .int _ z=>match x with
  | .sl b st i0 m=>gE (zle 0 z&&zlt z m&&(match A8t (A2.get h b st)with|some s=>Nat.beq s sz|none=>false)) (E9 (.ptr b st (i0+z.toNat) 0) h n)
  | .isl es=>gE (zle 0 z&&zlt z es.length&&A9Y es sz) (E9 (.iptr es z.toNat 0) h n)
  |_=>none
 |_=>none
theorem Good.iaddr{sz:Nat}{x i:V}{h:A2}{n:Nat}{k:Res}(hg:Good (B7m sz x i h n) k):A1Y sz x i k h n:=by
 unfold B7m at hg
 split at hg
 ·split at hg
  ·obtain⟨h1,hg⟩:=hg.g
   simp only [Bool.and_eq_true,R9,A7k]at h1
   obtain⟨⟨a,b⟩,c⟩:=h1
   refine⟨a,b,?_,hg.one⟩
   split at c
   ·rename_i s hs;rw [hs,Nat.eq_of_beq_eq_true c]
   ·cases c
  ·obtain⟨h1,hg⟩:=hg.g
   simp only [Bool.and_eq_true,R9,A7k]at h1
   exact⟨h1.1.1,h1.1.2,A2u h1.2,hg.one⟩
  ·exact hg.no.elim
 ·exact hg.no.elim
def B4s(len sz:Nat)(x i:V)(h:A2)(n:Nat):P4:=
 match i with
 | .int _ z=>match x with
  | .ptr b st i0 j=>gE (zle 0 z&&zlt z len) (E9 (.ptr b st i0 (j+z.toNat*sz)) h n)
  | .iptr es i0 j=>gE (zle 0 z&&zlt z len) (E9 (.iptr es i0 (j+z.toNat*sz)) h n)
  |_=>none
 |_=>none
theorem Good.iaddrA{len sz:Nat}{x i:V}{h:A2}{n:Nat}{k:Res}(hg:Good (B4s len sz x i h n) k):A0y len sz x i k h n:=by
 unfold B4s at hg
 split at hg
 ·split at hg
  ·obtain⟨h1,hg⟩:=hg.g
   simp only [Bool.and_eq_true,R9,A7k]at h1
   exact⟨h1.1,h1.2,hg.one⟩
  ·obtain⟨h1,hg⟩:=hg.g
   simp only [Bool.and_eq_true,R9,A7k]at h1
   exact⟨h1.1,h1.2,hg.one⟩
  ·exact hg.no.elim
 ·exact hg.no.elim
def C6p(x i:V)(h:A2)(n:Nat):P4:=
 match x,i with
 | .str s,.int _ z=>gE (zle 0 z) (A2I ((s[z.toNat]?).map fun b=> .int .u8 b.toNat) h n)
 |_,_=>none
theorem Good.idx{x i:V}{h:A2}{n:Nat}{k:Res}(hg:Good (C6p x i h n) k):B4t x i k h n:=by
 unfold C6p at hg
 split at hg
 ·exact⟨R9.1 hg.g.1,hg.g.2.opt⟩
 ·exact hg.no.elim
def shE(left:Bool)(x y:V)(h:A2)(n:Nat):P4:=
 match x,y with
 | .int j a,.int _ b=>gE (zle 0 b) (E9 (.int j (shZ left j a b)) h n)
 |_,_=>none
theorem Good.sh{l:Bool}{x y:V}{h:A2}{n:Nat}{k:Res}(hg:Good (shE l x y h n) k):shK l x y k h n:=by
 unfold shE at hg
 split at hg
 ·exact⟨R9.1 hg.g.1,hg.g.2.one⟩
 ·exact hg.no.elim
def C1u(len sz m:Nat)(agg:Bool)(x i:V)(h:A2)(n:Nat):P4:=
 match x,i with
 | .agg cs,.int _ z=>gE (zle 0 z&&zlt z len) (A2I (F7 cs (z.toNat*sz) m agg) h n)
 |_,_=>none
theorem Good.idxA{len sz m:Nat}{agg:Bool}{x i:V}{h:A2}{n:Nat}{k:Res}(hg:Good (C1u len sz m agg x i h n) k):A5X len sz m agg x i k h n:=by
 unfold C1u at hg
 split at hg
 ·obtain⟨h1,hg⟩:=hg.g
  simp only [Bool.and_eq_true,R9,A7k]at h1
  exact⟨h1.1,h1.2,hg.opt⟩
 ·exact hg.no.elim
def C5U(z:List V)(x:V)(h:A2)(n:Nat):P4:=
 match x with
 | .nils=>E9 (.tup []) h n
 | .sl b st i m=>match A2.get h b st with
  |some (.rows sz rs)=>gE (Nat.beq sz z.length&&Nat.ble (i+m) rs.length) (E9 (.tup []) (A2.put h b st (.rows sz (rs.take i++List.replicate m z++rs.drop (i+m)))) n)
  |_=>none
 |_=>none
theorem Good.clr{z:List V}{x:V}{h:A2}{n:Nat}{k:Res}(hg:Good (C5U z x h n) k):B0I z x k h n:=by
 unfold C5U at hg
 unfold B0I
 split at hg
 ·exact hg.one
 ·simp only
  split at hg
  ·rename_i he
   obtain⟨h1,hg⟩:=hg.g
   simp only [Bool.and_eq_true,A8R,Nat.ble_eq]at h1
   rw [he]
   exact⟨h1.1,h1.2,hg.one⟩
  ·exact hg.no.elim
 ·exact hg.no.elim
def C6M(nm:Nat)(rs:Option (List (List V)))(h:A2)(n:Nat):P4:=
 match rs with
 |some rs=>gE (Nat.ble 1 rs.length) (E9 (.sl nm n 0 rs.length) (A2.put h nm n (.raw rs)) (n+1))
 |none=>none
theorem Good.raw{nm:Nat}{rs:Option (List (List V))}{h:A2}{n:Nat}{k:Res}(hg:Good (C6M nm rs h n) k):B7G nm rs k h n:=by
 unfold C6M at hg
 split at hg
 ·obtain⟨h1,hg⟩:=hg.g
  exact⟨Nat.le_of_ble_eq_true h1,hg.one⟩
 ·exact hg.no.elim
def C5X(x:V)(h:A2)(n:Nat):P4:=
 match x with
 | .sl b st 0 m=>match A2.get h b st with
  |some (.raw rs)=>gE (Nat.beq m rs.length) (E9 (.sl b st 0 m) (A2.put h b st (.rows 1 rs)) n)
  |_=>none
 |_=>none
theorem Good.cvr{x:V}{h:A2}{n:Nat}{k:Res}(hg:Good (C5X x h n) k):B4n x k h n:=by
 unfold C5X at hg
 unfold B4n
 split at hg
 ·simp only
  split at hg
  ·rename_i he
   obtain⟨h1,hg⟩:=hg.g
   rw [he]
   exact⟨Nat.eq_of_beq_eq_true h1,hg.one⟩
  ·exact hg.no.elim
 ·exact hg.no.elim
def C5L(nm sz:Nat)(cs:Option (List V))(h:A2)(n:Nat):P4:=
 match cs with
 |some cs=>gE (Nat.beq cs.length sz) (E9 (.ptr nm n 0 0) (A2.put h nm n (.rows sz [cs])) (n+1))
 |none=>none
def C0R(T nm sz:Nat)(cs:Option (List V))(h:A2)(n:Nat):P4:=
 match cs with
 |some cs=>gE (Nat.beq cs.length sz) (E9 (.ptr nm n 0 0) (A2.put h nm n (.tb T sz [cs])) (n+1))
 |none=>none
theorem Good.boxt{T nm sz:Nat}{cs:Option (List V)}{h:A2}{n:Nat}{k:Res}(hg:Good (C0R T nm sz cs h n) k):B0h T nm sz cs k h n:=by
 unfold C0R at hg
 split at hg
 ·exact⟨Nat.eq_of_beq_eq_true hg.g.1,hg.g.2.one⟩
 ·exact hg.no.elim
theorem Good.box{nm sz:Nat}{cs:Option (List V)}{h:A2}{n:Nat}{k:Res}(hg:Good (C5L nm sz cs h n) k):B4g nm sz cs k h n:=by
 unfold C5L at hg
 split at hg
 ·exact⟨Nat.eq_of_beq_eq_true hg.g.1,hg.g.2.one⟩
 ·exact hg.no.elim
def C6T(nm sz:Nat)(rs:Option (List (List V)))(h:A2)(n:Nat):P4:=
 match rs with
 |some rs=>E9 (.sl nm n 0 rs.length) (A2.put h nm n (.rows sz rs)) (n+1)
 |none=>none
theorem Good.row{nm sz:Nat}{rs:Option (List (List V))}{h:A2}{n:Nat}{k:Res}(hg:Good (C6T nm sz rs h n) k):B7L nm sz rs k h n:=by
 unfold C6T at hg
 split at hg
 ·exact hg.one
 ·exact hg.no.elim
def C6s(rs:Option (List (List V)))(h:A2)(n:Nat):P4:=
 match rs with
 |some rs=>E9 (.isl rs) h n
 |none=>none
theorem Good.isl{rs:Option (List (List V))}{h:A2}{n:Nat}{k:Res}(hg:Good (C6s rs h n) k):B5J rs k h n:=by
 unfold C6s at hg
 split at hg
 ·exact hg.one
 ·exact hg.no.elim
def C1s(h:Option A2)(n:Nat):P4:=
 match h with
 |some h=>E9 .undef h n
 |none=>none
theorem Good.heap{h:Option A2}{n:Nat}{k:Res}(hg:Good (C1s h n) k):A3J h k n:=by
 unfold C1s at hg
 split at hg
 ·exact hg.one
 ·exact hg.no.elim
def C2V(L nm sz:Nat)(s:V)(xs:Option (List (List V)))(h:A2)(n:Nat):P4:=
 match xs with
 |none=>none
 | some xs=>gE (A9Y xs sz) (match s with
  | .nils=>gE (Nat.ble xs.length L) (E9 (.sl nm n 0 xs.length) (A2.put h nm n (.rows sz xs)) (n+1))
  | .sl b st i m=>match A2.get h b st with
   | some (.rows sz' rs)=>gE (Nat.beq sz' sz&&Nat.ble (i+m) rs.length&&Nat.ble (m+xs.length) L)
     (E9 (.sl b n 0 (m+xs.length)) (A2.put h b n (.rows sz ((rs.drop i).take m++xs))) (n+1))
   |_=>none
  |_=>none)
theorem Good.app{L nm sz:Nat}{s:V}{xs:Option (List (List V))}{h:A2}{n:Nat}{k:Res}(hg:Good (C2V L nm sz s xs h n) k):A5M L nm sz s xs k h n:=by
 unfold C2V at hg
 split at hg
 ·exact hg.no.elim
 ·obtain⟨h0,hg⟩:=hg.g
  unfold A5M
  refine⟨A2u h0,?_⟩
  split at hg
  ·exact⟨Nat.le_of_ble_eq_true hg.g.1,hg.g.2.one⟩
  ·simp only
   split at hg
   ·rename_i he
    obtain⟨h1,hg⟩:=hg.g
    simp only [Bool.and_eq_true,A8R,Nat.ble_eq]at h1
    rw [he]
    exact⟨h1.1.1,h1.1.2,h1.2,hg.one⟩
   ·exact hg.no.elim
  ·exact hg.no.elim
def C0I(T nm sz:Nat)(s:V)(xs:Option (List (List V)))(h:A2)(n:Nat):P4:=
 match xs with
 |none=>none
 | some xs=>gE (A9Y xs sz&&Nat.beq sz 1) (match s with
  | .nils=>gE (Nat.ble xs.length 137438953472) (E9 (.sl nm n 0 xs.length) (A2.put h nm n (.tb T sz xs)) (n+1))
  | .sl b st i m=>match A2.get h b st with
   | some (.tb T' sz' rs)=>gE (Nat.beq i 0&&Nat.beq T' T&&Nat.beq sz' sz&&Nat.beq m rs.length&&Nat.ble (m+xs.length) 137438953472)
     (E9 (.sl b n 0 (m+xs.length)) (A2.put h b n (.tb T sz (rs++xs))) (n+1))
   |_=>none
  |_=>none)
theorem Good.appt{T nm sz:Nat}{s:V}{xs:Option (List (List V))}{h:A2}{n:Nat}{k:Res}(hg:Good (C0I T nm sz s xs h n) k):A2R T nm sz s xs k h n:=by
 unfold C0I at hg
 split at hg
 ·exact hg.no.elim
 ·obtain⟨h0,hg⟩:=hg.g
  rw [Bool.and_eq_true]at h0
  unfold A2R
  refine⟨A2u h0.1,Nat.eq_of_beq_eq_true h0.2,?_⟩
  split at hg
  ·exact⟨Nat.le_of_ble_eq_true hg.g.1,hg.g.2.one⟩
  ·simp only
   split at hg
   ·rename_i he
    obtain⟨h1,hg⟩:=hg.g
    simp only [Bool.and_eq_true,A8R,Nat.ble_eq]at h1
    rw [he]
    exact⟨h1.1.1.1.1,h1.1.1.1.2,h1.1.1.2,h1.1.2,h1.2,hg.one⟩
   ·exact hg.no.elim
  ·exact hg.no.elim
def C4E(sz:Nat)(d:V)(xs:Option (List (List V)))(h:A2)(n:Nat):P4:=
 match xs with
 |none=>none
 | some xs=>gE (A9Y xs sz) (match d with
  | .nils=>E9 (.int .i64 0) h n
  | .sl b st i m=>match A2.get h b st with
   | some (.rows sz' rs)=>gE (Nat.beq sz' sz&&Nat.ble (i+m) rs.length)
     (E9 (.int .i64 (min xs.length m:Nat)) (A2.put h b st (.rows sz (rs.take i++xs.take (min xs.length m)++rs.drop (i+min xs.length m)))) n)
   |_=>none
  |_=>none)
theorem Good.copy{sz:Nat}{d:V}{xs:Option (List (List V))}{h:A2}{n:Nat}{k:Res}(hg:Good (C4E sz d xs h n) k):C4F sz d xs k h n:=by
 unfold C4E at hg
 split at hg
 ·exact hg.no.elim
 ·obtain⟨h0,hg⟩:=hg.g
  unfold C4F
  refine⟨A2u h0,?_⟩
  split at hg
  ·exact hg.one
  ·simp only
   split at hg
   ·rename_i he
    obtain⟨h1,hg⟩:=hg.g
    simp only [Bool.and_eq_true,A8R,Nat.ble_eq]at h1
    rw [he]
    exact⟨h1.1,h1.2,hg.one⟩
   ·exact hg.no.elim
  ·exact hg.no.elim
def C1I(nm:Nat)(z:List V)(x:V)(h:A2)(n:Nat):P4:=
 match x with
 | .int .i64 m=>gE (zle 0 m&&zle m 137438953472) (E9 (.sl nm n 0 m.toNat) (A2.put h nm n (.rows z.length (List.replicate m.toNat z))) (n+1))
 |_=>none
theorem Good.mksl{nm:Nat}{z:List V}{x:V}{h:A2}{n:Nat}{k:Res}(hg:Good (C1I nm z x h n) k):B0x nm z x k h n:=by
 unfold C1I at hg
 split at hg
 ·obtain⟨h1,hg⟩:=hg.g
  simp only [Bool.and_eq_true,R9]at h1
  exact⟨h1.1,h1.2,hg.one⟩
 ·exact hg.no.elim
def C6X(sz:Nat)(x:V)(lo hi:Option V)(h:A2)(n:Nat):P4:=
 match x with
 | .sl b st i m=>match F6 0 lo,F6 m hi with
  |some l,some u=>gE ((match A8t (A2.get h b st)with|some s=>Nat.beq s sz|none=>false)&&zle 0 l&&zle l u&&zle u m) (E9 (.sl b st (i+l.toNat) (u-l).toNat) h n)
  |_,_=>none
 | .isl es=>match F6 0 lo,F6 es.length hi with
  |some l,some u=>gE (A9Y es sz&&zle 0 l&&zle l u&&zle u es.length) (E9 (.isl ((es.drop l.toNat).take (u-l).toNat)) h n)
  |_,_=>none
 | .nils=>match F6 0 lo,F6 0 hi with
  |some l,some u=>gE (zeq l 0&&zeq u 0) (E9 .nils h n)
  |_,_=>none
 |_=>none
theorem Good.slc{sz:Nat}{x:V}{lo hi:Option V}{h:A2}{n:Nat}{k:Res}(hg:Good (C6X sz x lo hi h n) k):A9q sz x lo hi k h n:=by
 unfold C6X at hg
 unfold A9q
 split at hg
 ·simp only
  split at hg
  ·rename_i h1 h2
   obtain⟨h0,hg⟩:=hg.g
   simp only [Bool.and_eq_true,R9]at h0
   rw [h1,h2]
   refine⟨?_,h0.1.1.2,h0.1.2,h0.2,hg.one⟩
   have c:=h0.1.1.1
   split at c
   ·rename_i s hs;rw [hs,Nat.eq_of_beq_eq_true c]
   ·cases c
  ·exact hg.no.elim
 ·simp only
  split at hg
  ·rename_i h1 h2
   obtain⟨h0,hg⟩:=hg.g
   simp only [Bool.and_eq_true,R9]at h0
   rw [h1,h2]
   exact⟨A2u h0.1.1.1,h0.1.1.2,h0.1.2,h0.2,hg.one⟩
  ·exact hg.no.elim
 ·simp only
  split at hg
  ·rename_i h1 h2
   obtain⟨h0,hg⟩:=hg.g
   simp only [Bool.and_eq_true,A9C]at h0
   rw [h1,h2]
   exact⟨h0.1,h0.2,hg.one⟩
  ·exact hg.no.elim
 ·exact hg.no.elim
def C7a(x:V)(lo hi:Option V)(h:A2)(n:Nat):P4:=
 match x with
 | .str s=>match F6 0 lo,F6 s.length hi with
  |some l,some u=>gE (zle 0 l&&zle l u&&zle u s.length) (E9 (.str ((s.drop l.toNat).take (u-l).toNat)) h n)
  |_,_=>none
 |_=>none
theorem Good.sls{x:V}{lo hi:Option V}{h:A2}{n:Nat}{k:Res}(hg:Good (C7a x lo hi h n) k):B0O x lo hi k h n:=by
 unfold C7a at hg
 unfold B0O
 split at hg
 ·simp only
  split at hg
  ·rename_i h1 h2
   obtain⟨h0,hg⟩:=hg.g
   simp only [Bool.and_eq_true,R9]at h0
   rw [h1,h2]
   exact⟨h0.1.1,h0.1.2,h0.2,hg.one⟩
  ·exact hg.no.elim
 ·exact hg.no.elim
def B4u(k:V):List (V×V)→Bool
 | []=>true
 |e::r=>(B5M k e.1).isSome&&B4u k r
theorem B1W{k:V}: ∀{l:List (V×V)},B4u k l=true→B8A k l
 | [],_=>trivial
 |_::_,h=>by
  simp only [B4u,Bool.and_eq_true]at h
  exact⟨h.1,B1W h.2⟩
def C4R(kd:Nat)(z:V)(ok:Bool)(m key:V)(h:A2)(n:Nat):P4:=
 match m with
 | .nilm=>gE (C1A kd key) (E9 (B5T z ok none) h n)
 | .mp b st=>match A2.get h b st with
  |some (.map es)=>gE (C1A kd key&&B4u key es) (E9 (B5T z ok (B8E key es)) h n)
  |_=>none
 |_=>none
theorem Good.look{kd:Nat}{z:V}{ok:Bool}{m key:V}{h:A2}{n:Nat}{k:Res}(hg:Good (C4R kd z ok m key h n) k):C4S kd z ok m key k h n:=by
 unfold C4R at hg
 unfold C4S
 split at hg
 ·exact⟨hg.g.1,hg.g.2.one⟩
 ·simp only
  split at hg
  ·rename_i he
   obtain⟨h1,hg⟩:=hg.g
   simp only [Bool.and_eq_true]at h1
   rw [he]
   exact⟨h1.1,B1W h1.2,hg.one⟩
  ·exact hg.no.elim
 ·exact hg.no.elim
abbrev I9:=FuncId→List V→A2→Nat→P4
def C0S(P:Program)(C:I9)(f:V)(xs:List V)(h:A2)(n:Nat):P4:=
 match f with
 | .fn g cs=>gE (H9 P g) (C g (xs++cs) h n)
 |_=>none
def C6e(fn neg:Bool)(x:V)(h:A2)(n:Nat):P4:=
 match fn,x with
 |false,.nils=>E9 (.bool !neg) h n
 |false,.isl (_::_)=>E9 (.bool neg) h n
 |false,.sl _ _ _ (_+1)=>E9 (.bool neg) h n
 |true,.fn _ _=>E9 (.bool neg) h n
 |true,.cst .nilFunc=>E9 (.bool !neg) h n
 |_,_=>none
theorem Good.eqn{fn neg:Bool}{x:V}{h:A2}{n:Nat}{k:Res}(hg:Good (C6e fn neg x h n) k):A4A fn neg x k h n:=by
 unfold C6e at hg
 split at hg
 ·exact hg.one
 ·exact⟨hg.one,fun e=>by cases e⟩
 ·exact⟨hg.one,fun e=>by cases e⟩
 ·exact hg.one
 ·exact hg.one
 ·exact hg.no.elim
def C0Q(sz:Nat)(cs:Option (List V))(h:A2)(n:Nat):P4:=
 match cs with
 |some cs=>bif Nat.beq cs.length sz then E9 (.iptr [cs] 0 0) h n else none
 |none=>none
theorem Good.boxi{sz:Nat}{cs:Option (List V)}{h:A2}{n:Nat}{k:Res}(hg:Good (C0Q sz cs h n) k):A8v sz cs k h n:=by
 unfold C0Q at hg
 unfold A8v
 split at hg
 ·rename_i cs
  cases hb:Nat.beq cs.length sz with
  |true=>rw [hb]at hg;exact⟨Nat.eq_of_beq_eq_true hb,hg.one⟩
  |false=>rw [hb]at hg;exact hg.no.elim
 ·exact hg.no.elim
def B7z(m:Nat)(agg:Bool)(x:V)(h:A2)(n:Nat):P4:=
 match x with
 | .iptr es i j=>A2I (B8Q es i fun row=>F7 row j m agg) h n
 |_=>none
theorem Good.loadi{m:Nat}{agg:Bool}{x:V}{h:A2}{n:Nat}{k:Res}(hg:Good (B7z m agg x h n) k):A2m m agg x k h n:=by
 unfold B7z at hg
 unfold A2m
 split at hg
 ·exact hg.opt
 ·exact hg.no.elim
def exO(P:Program)(C:I9)(s:St):AO→P4
 | .mov x=>E9 (s.ev x) s.h s.n
 | .pick c a b=>A2I (B6h (s.ev c) (s.ev a) (s.ev b)) s.h s.n
 | .nilck x=>A2I (B2h (s.ev x)) s.h s.n
 | .box nm sz x=>C5L nm sz (R1 (s.ev x)) s.h s.n
 | .boxt T nm sz x=>C0R T nm sz (R1 (s.ev x)) s.h s.n
 | .appt T nm sz b x=>C0I T nm sz (s.ev b) (A9r s.h (s.ev x)) s.h s.n
 | .build z ps=>A2I ((A1e s z ps).map .agg) s.h s.n
 | .mkrow nm sz xs=>C6T nm sz (G4 sz s xs) s.h s.n
 | .mkisl sz xs=>C6s (G4 sz s xs) s.h s.n
 | .load m agg x=>A2I (A6d s.h (s.ev x) m agg) s.h s.n
 | .store m x v=>C1s (B2D s.h (s.ev x) (s.ev v) m) s.n
 | .faddr off x=>A2I (B1I off (s.ev x)) s.h s.n
 | .iaddr sz x i=>B7m sz (s.ev x) (s.ev i) s.h s.n
 | .iaddrA len sz x i=>B4s len sz (s.ev x) (s.ev i) s.h s.n
 | .fld off m agg x=>A2I (C1j off m agg (s.ev x)) s.h s.n
 | .idx x i=>C6p (s.ev x) (s.ev i) s.h s.n
 | .ext i x=>A2I (C1i i (s.ev x)) s.h s.n
 | .bin op x y=>C5H op (s.ev x) (s.ev y) s.h s.n
 | .binw op x y=>A2I (B1t op (s.ev x) (s.ev y)) s.h s.n
 | .eqp kind neg x y=>A2I (bif B0r kind (s.ev x)then B7i neg (s.ev x) (s.ev y)else none) s.h s.n
 | .eqa neg t x y=>A2I (C1g neg t (s.ev x) (s.ev y)) s.h s.n
 | .un op x=>unE op (s.ev x) s.h s.n
 | .negw x=>A2I (B3M (s.ev x)) s.h s.n
 | .conv j x=>A2I (B5r j (s.ev x)) s.h s.n
 | .bst x=>A2I (B4h (A3q s.h (s.ev x))) s.h s.n
 | .mkraw nm xs=>C6M nm (G4 1 s xs) s.h s.n
 | .cvr x=>C5X (s.ev x) s.h s.n
 | .isnil neg x=>A2I (B1T neg (s.ev x)) s.h s.n
 | .len kind x=>A2I (C1D s.h kind (s.ev x)) s.h s.n
 | .lenc m=>E9 (.int .i64 m) s.h s.n
 | .mm mx xs=>A2I (mmV mx (xs.map s.ev)) s.h s.n
 | .app nm sz b x=>C2V 137438953472 nm sz (s.ev b) (A9r s.h (s.ev x)) s.h s.n
 | .apb L nm sz b x=>C2V L nm sz (s.ev b) (A9r s.h (s.ev x)) s.h s.n
 | .mksl nm z x=>C1I nm z (s.ev x) s.h s.n
 | .slc sz x lo hi=>C6X sz (s.ev x) (lo.map s.ev) (hi.map s.ev) s.h s.n
 | .sls x lo hi=>C7a (s.ev x) (lo.map s.ev) (hi.map s.ev) s.h s.n
 | .mkfn f xs=>E9 (.fn f (xs.map s.ev)) s.h s.n
 | .sh l x y=>shE l (s.ev x) (s.ev y) s.h s.n
 | .idxA len sz m agg x i=>C1u len sz m agg (s.ev x) (s.ev i) s.h s.n
 | .clr z x=>C5U z (s.ev x) s.h s.n
 | .call f xs=>C f (xs.map s.ev) s.h s.n
 | .callp f xs=>C f (xs.map s.ev) s.h s.n
 | .tas t x=>A2I (C2z t (s.ev x)) s.h s.n
 | .mki t x=>A2I ((unV (s.ev x)).map fun u=> .cst (.iface t u)) s.h s.n
 | .pan _=>none
 | .boxi sz x=>C0Q sz (R1 (s.ev x)) s.h s.n
 | .loadi m agg x=>B7z m agg (s.ev x) s.h s.n
 | .callv f xs=>C0S P C (s.ev f) (xs.map s.ev) s.h s.n
 | .pcall .. =>none
 | .eqn fn neg x=>C6e fn neg (s.ev x) s.h s.n
 | .bad=>none
def H4(P:Program)(C:I9):Prop:= ∀f xs h n k,Good (C f xs h n) k→A3 P f xs h n k
theorem B9C{P:Program}{C:I9}(hC:H4 P C){s:St}{o:AO}{k:Res}(hg:Good (exO P C s o) k):B0 P PK o s k:=by
 cases o<;>simp only [exO]at hg<;>simp only [B0]
 case mov=>exact hg.one
 case pick=>exact hg.opt
 case nilck=>exact hg.opt
 case box=>exact hg.box
 case boxt=>exact hg.boxt
 case appt=>exact hg.appt
 case build=>exact hg.opt
 case mkrow=>exact hg.row
 case mkisl=>exact hg.isl
 case load=>exact hg.opt
 case store=>exact hg.heap
 case faddr=>exact hg.opt
 case iaddr=>exact hg.iaddr
 case iaddrA=>exact hg.iaddrA
 case fld=>exact hg.opt
 case idx=>exact hg.idx
 case ext=>exact hg.opt
 case bin=>exact hg.bin
 case binw=>exact hg.opt
 case eqp=>exact hg.opt
 case eqa=>exact hg.opt
 case un=>exact hg.un
 case negw=>exact hg.opt
 case conv=>exact hg.opt
 case bst=>exact hg.opt
 case mkraw=>exact hg.raw
 case cvr=>exact hg.cvr
 case isnil=>exact hg.opt
 case len=>exact hg.opt
 case lenc=>exact hg.one
 case mm=>exact hg.opt
 case app=>exact hg.app
 case apb=>exact hg.app
 case mksl=>exact hg.mksl
 case slc=>exact hg.slc
 case sls=>exact hg.sls
 case mkfn=>exact hg.one
 case sh=>exact hg.sh
 case idxA=>exact hg.idxA
 case clr=>exact hg.clr
 case call=>exact hC _ _ _ _ _ hg
 case callp=>exact(hC _ _ _ _ _ hg).toP
 case boxi=>exact hg.boxi
 case tas=>exact hg.opt
 case mki=>exact hg.opt
 case pan=>exact hg.no.elim
 case loadi=>exact hg.loadi
 case callv=>
  unfold C0S at hg
  split at hg
  ·rename_i g cs he
   rw [he]
   exact⟨hg.g.1,hC _ _ _ _ _ hg.g.2⟩
  ·exact hg.no.elim
 case pcall=>exact hg.no.elim
 case eqn=>exact hg.eqn
 case bad=>exact hg.no
def bEq:Bool→Bool→Bool
 |true,true|false,false=>true
 |_,_=>false
theorem C3a{a b:Bool}(h:bEq a b=true):a=b:=by cases a<;>cases b<;>first|rfl|cases h
def C0Y:Value→Value→Bool
 | .nilIface,.nilIface=>true
 | .nilFunc,.nilFunc=>true
 | .tuple ⟨[]⟩,.tuple ⟨[]⟩=>true
 |_,_=>false
theorem C0Z{a b:Value}(h:C0Y a b=true):a=b:=by
 unfold C0Y at h
 split at h
 ·rfl
 ·rfl
 ·rfl
 ·cases h
mutual
def V.beq:V→V→Bool
 | .undef,.undef=>true
 | .bool a,.bool b=>bEq a b
 | .int k n,.int k' n'=>kEq k k'&&zeq n n'
 | .str a,.str b=>R4 a b
 | .agg a,.agg b=>V.beqL a b
 | .tup a,.tup b=>V.beqL a b
 | .nilp,.nilp=>true
 | .ptr b st i j,.ptr b' st' i' j'=>Nat.beq b b'&&(Nat.beq st st'&&(Nat.beq i i'&&Nat.beq j j'))
 | .nils,.nils=>true
 | .sl b st i j,.sl b' st' i' j'=>Nat.beq b b'&&(Nat.beq st st'&&(Nat.beq i i'&&Nat.beq j j'))
 | .isl a,.isl b=>V.beqLL a b
 | .iptr a i j,.iptr b i' j'=>V.beqLL a b&&(Nat.beq i i'&&Nat.beq j j')
 | .nilm,.nilm=>true
 | .mp b st,.mp b' st'=>Nat.beq b b'&&Nat.beq st st'
 | .fn f cs,.fn g ds=>Nat.beq f g&&V.beqL cs ds
 | .err,.err=>true
 | .cst v,.cst w=>C0Y v w
 | .anyi k,.anyi k'=>kEq k k'
 |_,_=>false
def V.beqL:List V→List V→Bool
 | [],[]=>true
 |a::r,b::s=>V.beq a b&&V.beqL r s
 |_,_=>false
def V.beqLL:List (List V)→List (List V)→Bool
 | [],[]=>true
 |a::r,b::s=>V.beqL a b&&V.beqLL r s
 |_,_=>false
end
mutual
theorem V.beq_eq: ∀{a b:V},V.beq a b=true→a=b
 | .undef,b,h=>by cases b<;>first|rfl|simp [V.beq]at h
 | .bool a,b,h=>by
  cases b<;>simp only [V.beq,Bool.false_eq_true]at h
  rw [C3a h]
 | .int k n,b,h=>by
  cases b<;>simp only [V.beq,Bool.false_eq_true,Bool.and_eq_true]at h
  rw [B1a.1 h.1,A9C.1 h.2]
 | .str a,b,h=>by
  cases b<;>simp only [V.beq,Bool.false_eq_true]at h
  rw [A2T.1 h]
 | .agg a,b,h=>by
  cases b<;>simp only [V.beq,Bool.false_eq_true]at h
  rw [V.beqL_eq h]
 | .tup a,b,h=>by
  cases b<;>simp only [V.beq,Bool.false_eq_true]at h
  rw [V.beqL_eq h]
 | .nilp,b,h=>by cases b<;>first|rfl|simp [V.beq]at h
 | .ptr b st i j,x,h=>by
  cases x<;>simp only [V.beq,Bool.false_eq_true,Bool.and_eq_true,A8R]at h
  obtain⟨rfl,rfl,rfl,rfl⟩:=h;rfl
 | .nils,b,h=>by cases b<;>first|rfl|simp [V.beq]at h
 | .sl b st i j,x,h=>by
  cases x<;>simp only [V.beq,Bool.false_eq_true,Bool.and_eq_true,A8R]at h
  obtain⟨rfl,rfl,rfl,rfl⟩:=h;rfl
 | .isl a,b,h=>by
  cases b<;>simp only [V.beq,Bool.false_eq_true]at h
  rw [V.beqLL_eq h]
 | .iptr a i j,b,h=>by
  cases b<;>simp only [V.beq,Bool.false_eq_true,Bool.and_eq_true,A8R]at h
  obtain⟨h1,rfl,rfl⟩:=h;rw [V.beqLL_eq h1]
 | .nilm,b,h=>by cases b<;>first|rfl|simp [V.beq]at h
 | .mp b st,x,h=>by
  cases x<;>simp only [V.beq,Bool.false_eq_true,Bool.and_eq_true,A8R]at h
  obtain⟨rfl,rfl⟩:=h;rfl
 | .fn f cs,x,h=>by
  cases x<;>simp only [V.beq,Bool.false_eq_true,Bool.and_eq_true,A8R]at h
  obtain⟨rfl,h1⟩:=h;rw [V.beqL_eq h1]
 | .cst v,b,h=>by
  cases b<;>simp only [V.beq,Bool.false_eq_true]at h
  rw [C0Z h]
 | .err,b,h=>by cases b<;>first|rfl|simp [V.beq]at h
 | .anyi k,b,h=>by
  cases b<;>simp only [V.beq,Bool.false_eq_true]at h
  rw [B1a.1 h]
theorem V.beqL_eq: ∀{a b:List V},V.beqL a b=true→a=b
 | [],b,h=>by cases b<;>first|rfl|simp [V.beqL]at h
 |x::r,b,h=>by
  cases b<;>simp only [V.beqL,Bool.false_eq_true,Bool.and_eq_true]at h
  rw [V.beq_eq h.1,V.beqL_eq h.2]
theorem V.beqLL_eq: ∀{a b:List (List V)},V.beqLL a b=true→a=b
 | [],b,h=>by cases b<;>first|rfl|simp [V.beqLL]at h
 |x::r,b,h=>by
  cases b<;>simp only [V.beqLL,Bool.false_eq_true,Bool.and_eq_true]at h
  rw [V.beqL_eq h.1,V.beqLL_eq h.2]
end
def B8h:List (V×V)→List (V×V)→Bool
 | [],[]=>true
 |a::r,b::s=>V.beq a.1 b.1&&(V.beq a.2 b.2&&B8h r s)
 |_,_=>false
theorem B5b: ∀{a b:List (V×V)},B8h a b=true→a=b
 | [],[],_=>rfl
 | [],_::_,h=>by cases h
 |_::_,[],h=>by cases h
 |x::r,y::s,h=>by
  simp only [B8h,Bool.and_eq_true]at h
  rw [show x=y from Prod.ext (V.beq_eq h.1) (V.beq_eq h.2.1),B5b h.2.2]
def B1s:List Value→List Value→Bool
 | [],[]=>true
 | .int k n::r,.int k' n'::s=>kEq k k'&&(zeq n n'&&B1s r s)
 |_,_=>false
theorem B5d: ∀{a b:List Value},B1s a b=true→a=b
 | [],b,h=>by cases b<;>first|rfl|simp [B1s]at h
 |x::r,b,h=>by
  cases x<;>rcases b with _|⟨y,s⟩<;>try (simp [B1s]at h;done)
  cases y<;>try (simp [B1s]at h;done)
  simp only [B1s,Bool.and_eq_true]at h
  obtain⟨h1,h2,h3⟩:=h
  rw [B1a.1 h1,A9C.1 h2,B5d h3]
def B6Y:Blk→Blk→Bool
 | .rows sz rs,.rows sz' rs'=>Nat.beq sz sz'&&V.beqLL rs rs'
 | .map es,.map es'=>B8h es es'
 | .tb T sz rs,.tb T' sz' rs'=>Nat.beq T T'&&(Nat.beq sz sz'&&V.beqLL rs rs')
 | .fz T l,.fz T' l'=>Nat.beq T T'&&B1s l l'
 |_,_=>false
theorem B9d{a b:Blk}(h:B6Y a b=true):a=b:=by
 cases a<;>cases b<;>simp only [B6Y,Bool.false_eq_true,Bool.and_eq_true,A8R]at h
 ·rw [h.1,V.beqLL_eq h.2]
 ·rw [B5b h]
 ·rw [h.1,h.2.1,V.beqLL_eq h.2.2]
 ·rw [h.1,B5d h.2]
def C3c:A2→A2→Bool
 | [],[]=>true
 |a::r,b::s=>Nat.beq a.1 b.1&&(Nat.beq a.2.1 b.2.1&&(B6Y a.2.2 b.2.2&&C3c r s))
 |_,_=>false
theorem B8g: ∀{a b:A2},C3c a b=true→a=b
 | [],[],_=>rfl
 | [],_::_,h=>by cases h
 |_::_,[],h=>by cases h
 |(x1,x2,x3)::r,(y1,y2,y3)::s,h=>by
  simp only [C3c,Bool.and_eq_true,A8R]at h
  obtain⟨rfl,rfl,h3,h4⟩:=h
  rw [B9d h3,B8g h4]
def B8i:List (Nat×V)→List (Nat×V)→Bool
 | [],[]=>true
 |a::r,b::s=>Nat.beq a.1 b.1&&(V.beq a.2 b.2&&B8i r s)
 |_,_=>false
theorem B5c: ∀{a b:List (Nat×V)},B8i a b=true→a=b
 | [],[],_=>rfl
 | [],_::_,h=>by cases h
 |_::_,[],h=>by cases h
 |(x1,x2)::r,(y1,y2)::s,h=>by
  simp only [B8i,Bool.and_eq_true,A8R]at h
  obtain⟨rfl,h2,h4⟩:=h
  rw [V.beq_eq h2,B5c h4]
def C0J(a b:St):Bool:=B8i a.sl b.sl&&(C3c a.h b.h&&Nat.beq a.n b.n)
theorem C0K{a b:St}(h:C0J a b=true):a=b:=by
 obtain⟨a1,a2,a3⟩:=a
 obtain⟨b1,b2,b3⟩:=b
 simp only [C0J,Bool.and_eq_true,A8R]at h
 rw [B5c h.1,B8g h.2.1,h.2.2]
def B9D(d:Option Nat)(sl:List (Nat×V))(r:V×A2×Nat):St:=
 match d with
 |some i=>⟨E1 sl i r.1,r.2.1,r.2.2⟩
 |none=>⟨sl,r.2.1,r.2.2⟩
def exA(P:Program)(C:I9)(i:AI)(s:St):Option St:=
 match i.g with
 |none=>(exO P C s i.o).map (B9D i.d s.sl)
 |some (j,want)=>match C8 s.sl j with
  | .bool b=>bif bEq b want then(exO P C ⟨E1 s.sl j (.bool want),s.h,s.n⟩ i.o).map (B9D i.d (E1 s.sl j (.bool want)))else some (B9D i.d (E1 s.sl j (.bool !want)) (.cst Go.undef,s.h,s.n))
  | .cst u=>bif A8S u then some (B9D i.d s.sl (.cst Go.undef,s.h,s.n))else none
  |_=>none
def exV(P:Program)(C:I9):List AI→St→Option St
 | [],s=>some s
 |i::r,s=>match exA P C i s with
  |some s'=>exV P C r s'
  |none=>none
def B6u(P:Program)(C:I9)(s s':St):List (List AI)→Bool
 | []=>true
 |l::r=>match exV P C l s with
  |some s2=>C0J s2 s'&&B6u P C s s' r
  |none=>false
def C6g(P:Program)(C:I9)(s:St):List (List AI)→Option St
 | []=>none
 |l::r=>match exV P C l s with
  |some s'=>bif B6u P C s s' r then some s' else none
  |none=>none
section
variable {P:Program} {C:I9} {k:Res}
theorem A6W{K':St→Prop}{d:Option Nat}{sl:List (Nat×V)}{x:V×A2×Nat}(hg:K' (B9D d sl x)):fin d sl K' x.1 x.2.1 x.2.2:=by
 cases d<;>exact hg
theorem B9B(hC:H4 P C){i:AI}{s s':St}{K':St→Prop}(hg:exA P C i s=some s')(hK:K' s'):F5 P PK i s K':=by
 have some_: ∀{t:St} {sl:List (Nat×V)},(exO P C t i.o).map (B9D i.d sl)=some s'→B0 P PK i.o t (fin i.d sl K'):=by
  intro t sl h
  obtain⟨x,h1,h2⟩:=Option.map_eq_some_iff.1 h
  exact B9C hC ⟨x,h1,A6W (by rw [h2];exact hK)⟩
 unfold exA at hg
 unfold F5
 split at hg
 ·rename_i e
  rw [e]
  exact some_ hg
 ·rename_i j want e
  rw [e]
  simp only
  split at hg
  ·rename_i b hb
   rw [hb]
   cases b<;>cases want<;>simp only [bEq,cond_true,cond_false]at hg<;>refine⟨fun e=> ?_,fun e=> ?_⟩
   any_goals (cases e;done)
   ·exact some_ hg
   ·injection hg with hg;exact A6W (x:=(.cst Go.undef,s.h,s.n)) (by rw [hg];exact hK)
   ·injection hg with hg;exact A6W (x:=(.cst Go.undef,s.h,s.n)) (by rw [hg];exact hK)
   ·exact some_ hg
  ·rename_i u hu
   rw [hu]
   cases hb:A8S u with
   |false=>rw [hb]at hg;cases hg
   |true=>
    rw [hb]at hg
    injection hg with hg
    exact⟨hb,A6W (x:=(.cst Go.undef,s.h,s.n)) (by rw [hg];exact hK)⟩
  ·cases hg
theorem A9N(hC:H4 P C){K':St→Prop}{s':St}(hK:K' s'): ∀{l:List AI} {s:St},exV P C l s=some s'→vo P PK l K' s
 | [],_,hg=>by injection hg with hg;subst hg;exact hK
 |i::r,s,hg=>by
  simp only [exV]at hg
  split at hg
  ·rename_i t ht;exact B9B (K':=vo P PK r K') hC ht (A9N hC hK hg)
  ·cases hg
theorem B0D(hC:H4 P C){K':St→Prop}{s s':St}(hK:K' s'): ∀{l:List (List AI)},B6u P C s s' l=true→A7N P PK l K' s
 | [],_=>trivial
 | l::r,hg=>by
  simp only [B6u]at hg
  split at hg
  ·rename_i t ht
   simp only [Bool.and_eq_true]at hg
   rw [C0K hg.1]at ht
   exact⟨A9N hC hK ht,B0D hC hK hg.2⟩
  ·cases hg
theorem B7j(hC:H4 P C){K':St→Prop}{s s':St}(hK:K' s'): ∀{l:List (List AI)},C6g P C s l=some s'→A7N P PK l K' s
 | [],h=>by cases h
 | l::r,hg=>by
  simp only [C6g]at hg
  split at hg
  ·rename_i t ht
   cases hb:B6u P C s t r with
   |false=>rw [hb]at hg;cases hg
   |true=>
    rw [hb,cond_true]at hg
    injection hg with hg
    subst hg
    exact⟨A9N hC hK ht,B0D hC hK hb⟩
  ·cases hg
def nmB:Nat:=1000000000000
def low(f b st:Nat):Bool:=Nat.blt b nmB&&Nat.ble f st
section
variable (f:Nat)
mutual
def B4F:V→V
 | .sl b st i n=>bif low f b st then .sl (nmB+st) st i n else .sl b st i n
 | .ptr b st i n=>bif low f b st then .ptr (nmB+st) st i n else .ptr b st i n
 | .mp b st=>bif low f b st then .mp (nmB+st) st else .mp b st
 | .agg l=> .agg (renL l)
 | .tup l=> .tup (renL l)
 |v=>v
def renL:List V→List V
 | []=> []
 |a::r=>B4F a::renL r
end
mutual
def C1H:V→Bool
 | .sl _ st _ _=>Nat.ble f st
 | .ptr _ st _ _=>Nat.ble f st
 | .mp _ st=>Nat.ble f st
 | .agg l=>menL l
 | .tup l=>menL l
 | .fn _ _=>true
 |_=>false
def menL:List V→Bool
 | []=>false
 |a::r=>C1H a||menL r
end
end
mutual
theorem A9W(f:Nat): ∀v:V,L8 v (B4F f v)
 | .sl b st i n=>by rw [B4F];cases low f b st<;>exact .sl
 | .ptr b st i n=>by rw [B4F];cases low f b st<;>exact .ptr
 | .mp b st=>by rw [B4F];cases low f b st<;>exact .mp
 | .agg l=>by rw [B4F];exact .agg (renL_same f l)
 | .tup l=>by rw [B4F];exact .tup (renL_same f l)
 | .undef=> .refl _
 | .bool _=> .refl _
 | .int _ _=> .refl _
 | .str _=> .refl _
 | .nilp=> .refl _
 | .nils=> .refl _
 | .isl _=> .refl _
 | .iptr _ _ _=> .refl _
 | .nilm=> .refl _
 | .fn _ _=> .refl _
 | .yld _ _=> .refl _
 | .cst _=> .refl _
 | .err=> .refl _
 | .anyi _=> .refl _
theorem renL_same(f:Nat): ∀l:List V,A3D l (renL f l)
 | []=>by rw [renL];trivial
 |a::r=>by rw [renL];exact⟨A9W f a,renL_same f r⟩
end
def D0c(f:Nat):Blk→Blk
 | .rows sz rs=> .rows sz (rs.map (renL f))
 | .tb T sz rs=> .tb T sz (rs.map (renL f))
 | .map es=> .map es
 |b=>b
theorem f0.tb{T sz:Nat}{rs rs2:List (List V)}(hl:rs2.length=rs.length)(hr: ∀(i:Nat) r2,rs2[i]? =some r2→ ∃r,rs[i]? =some r∧A3D r r2):f0 (.tb T sz rs) (.tb T sz rs2):=
 fun E st ⟨h1,h2,h3⟩=>⟨f0.rows (Nat.le_of_eq hl) hr E st h1,h2,by rw [hl];exact h3⟩
theorem B9W(f:Nat)(b:Blk):f0 b (D0c f b):=by
 cases b with
 |map es=>exact .refl _
 |loop=>exact .refl _
 |mapb=>exact .refl _
 |iter=>exact .refl _
 |raw=>exact .refl _
 |tb T sz rs=>
  refine .tb (by simp) fun i r2 h=> ?_
  rw [List.getElem?_map]at h
  obtain⟨r,h1,h2⟩:=Option.map_eq_some_iff.1 h
  exact⟨r,h1,h2 ▸ renL_same f r⟩
 |fz=>exact .refl _
 |rows sz rs=>
  refine .rows (by simp) fun i r2 h=> ?_
  rw [List.getElem?_map]at h
  obtain⟨r,h1,h2⟩:=Option.map_eq_some_iff.1 h
  exact⟨r,h1,h2 ▸ renL_same f r⟩
def C9V(f:Nat):Blk→Bool
 | .rows _ rs=>rs.any (menL f)
 | .map es=>es.any fun p=>C1H f p.1||C1H f p.2
 | .loop .. =>true
 | .mapb .. =>true
 | .iter .. =>true
 | .raw .. =>true
 | .tb _ _ rs=>rs.any (menL f)
 | .fz .. =>false
def B9X(f:Nat):A2→Nat→Nat
 | [],b=>b
 |e::r,b=>bif Nat.beq e.1 b then(bif low f e.1 e.2.1 then nmB+e.2.1 else b)else B9X f r b
def C9Q:Option Nat→Nat→Bool
 |some m,st=>Nat.ble m st
 |none,_=>false
def B7I(f:Nat)(d:Option Nat)(h0:A2):A2→A2
 | []=> []
 |e::r=>bif C9Q d e.2.1 then B7I f d h0 r else(B9X f h0 e.1,e.2.1,D0c f e.2.2)::B7I f d h0 r
theorem A7d(f:Nat)(d:Option Nat)(h0:A2): ∀h:A2,(∀e∈h,e∈h0)→y4 (B9X f h0) h0 (B7I f d h0 h)
 | [],_=>trivial
 |e::r,hm=>by
  simp only [B7I]
  have:=A7d f d h0 r fun x hx=>hm x (List.mem_cons_of_mem _ hx)
  cases C9Q d e.2.1
  ·exact⟨⟨e,hm e List.mem_cons_self,rfl,rfl,B9W f _⟩,this⟩
  ·exact this
def C2b(f:Nat)(s0:List (Nat×V)):List (Nat×V)→List (Nat×V)
 | []=> []
 |p::r=>(p.1,B4F f (C8 s0 p.1))::C2b f s0 r
theorem B2q(f:Nat)(s0:List (Nat×V)): ∀s:List (Nat×V),B1n s0 (C2b f s0 s)
 | []=>trivial
 |p::r=>⟨A9W f _,B2q f s0 r⟩
def D0d(f:Nat)(s:St):St:=⟨C2b f s.sl s.sl,B7I f none s.h s.h,s.n⟩
theorem C3L(f:Nat)(s:St):Wk s (D0d f s):= .turn (B9X f s.h) (B2q _ _ _) (A7d _ _ _ _ fun _ h=>h)
def B5F(h:A2)(b:Nat):Bool:=h.any fun e=>Nat.beq e.1 b
def C9Y(h:A2):AO→Bool
 | .box nm _ _=>B5F h nm
 | .boxt _ nm _ _=>B5F h nm
 | .appt _ nm _ _ _=>B5F h nm
 | .mkrow nm _ _=>B5F h nm
 | .mksl nm _ _=>B5F h nm
 | .mkraw nm _=>B5F h nm
 | .app nm _ _ _=>B5F h nm
 | .apb _ nm _ _ _=>B5F h nm
 |_=>false
def C4U(h:A2):List (List AI)→Bool
 | []=>false
 |l::_=>l.any fun i=>C9Y h i.o
def C7y(f:Nat)(l:List (List AI))(s:St):St:=bif C4U s.h l then D0d f s else s
theorem C4f(f:Nat)(l:List (List AI))(s:St):Wk s (C7y f l s):=by
 unfold C7y
 cases C4U s.h l
 ·exact .refl _
 ·exact C3L f s
def B9u(f:Nat)(x:V×A2×Nat):V×A2×Nat:=
 bif x.2.1.any (fun e=>Nat.ble f e.2.1)then
  (bif C1H f x.1||x.2.1.any (fun e=>Nat.blt e.2.1 f&&C9V f e.2.2)then(B4F f x.1,B7I f none x.2.1 x.2.1,x.2.2)else(x.1,B7I f (some f) x.2.1 x.2.1,x.2.2))
 else x
theorem C3k(f:Nat)(x:V×A2×Nat):Wk ⟨[(0,x.1)],x.2.1,x.2.2⟩ ⟨[(0,(B9u f x).1)],(B9u f x).2.1,(B9u f x).2.2⟩:=by
 unfold B9u
 cases x.2.1.any (fun e=>Nat.ble f e.2.1)
 ·exact .refl _
 ·simp only [cond_true]
  cases C1H f x.1||x.2.1.any (fun e=>Nat.blt e.2.1 f&&C9V f e.2.2)
  ·exact .turn (B9X f x.2.1) ⟨.refl _,trivial⟩ (A7d _ _ _ _ fun _ h=>h)
  ·exact .turn (B9X f x.2.1) ⟨A9W f _,trivial⟩ (A7d _ _ _ _ fun _ h=>h)
theorem B9v{P:Program}{g:FuncId}{xs:List V}{h:A2}{n:Nat}{k:Res}{o:P4}(ho: ∀k,Good o k→A3 P g xs h n k)(hg:Good (o.map (B9u n)) k):A3 P g xs h n k:=by
 obtain⟨y,h1,h2⟩:=hg
 obtain⟨x,h3,rfl⟩:=Option.map_eq_some_iff.1 h1
 refine(ho (fun r h' n'=>(r,h',n')=x) ⟨x,h3,rfl⟩).wk ?_
 rintro r h' n' rfl
 exact⟨_,_,_,C3k n (r,h',n'),h2⟩
def C3M(rs:List RV)(s:St):P4:=
 match A4m s rs with
 |some vs=>E9 (A7w vs) s.h s.n
 |none=>none
def exG(P:Program)(C:I9)(rs:List RV)(f:Nat):Nat→List AItem→St→P4
 |0,_,_=>none
 |_+1,[],s=>C3M rs s
 |m+1,.code .skip::k,s=>exG P C rs f m k s
 |m+1,.code (.ops l)::k,s=>match C6g P C (C7y f l s) l with
  |some s'=>exG P C rs f m k s'
  |none=>none
 |_+1,.code .bad::_,_=>none
 |m+1,.code (.seq a b)::k,s=>exG P C rs f m (.code a:: .code b::k) s
 |m+1,.code (.cond x a b)::k,s=>match s.ev x with
  | .bool true=>exG P C rs f m (.code a::k) s
  | .bool false=>exG P C rs f m (.code b::k) s
  |_=>none
 |m+1,.code (.block id a)::k,s=>exG P C rs f m (.code a:: .blk id::k) s
 |m+1,.code (.loop a)::k,s=>exG P C rs f m (.code a:: .lp a::k) s
 |m+1,.code (.exit id)::k,s=>match Nat.beq 999999999 id,U1 id k with
  |false,some k'=>exG P C rs f m k' s
  |_,_=>none
 |_+1,.code .ret::_,s=>C3M rs s
 |m+1,.blk _::k,s=>exG P C rs f m k s
 |m+1,.lp a::k,s=>exG P C rs f m (.code a:: .lp a::k) s
 |m+1,.code (.dfr d)::k,s=>exG P C rs f m k ⟨E1 s.sl d .undef,s.h,s.n⟩
 |_+1,.code (.rng ..)::_,_=>none
 |_+1,.beg::_,_=>none
theorem B3R{N:Nat}{rs:List RV}{s:St}(hg:Good (C3M rs s) k):B4H ⟨P,N,rs,k,none,none⟩ s:=by
 unfold C3M at hg
 unfold B4H
 split at hg
 ·rename_i vs hvs
  simp only
  rw [hvs]
  exact hg.one
 ·exact hg.no.elim
theorem K2(hC:H4 P C){N:Nat}{rs:List RV}{f:Nat}: ∀{m:Nat} {l:List AItem} {s:St},Good (exG P C rs f m l s) k→Run ⟨P,N,rs,k,none,none⟩ l s
 |0,_,_,hg=>hg.no.elim
 |m+1,[],s,hg=>Run.go 1 (B3R hg)
 |m+1,.code .skip::l,s,hg=>Run.go 1 (K2 hC (m:=m) hg)
 |m+1,.code (.ops is)::l,s,hg=>by
  simp only [exG]at hg
  split at hg
  ·rename_i t ht;exact Run.wk (C4f f is s) (Run.go 1 (B7j hC (K2 hC (m:=m) hg) ht))
  ·exact hg.no.elim
 |m+1,.code .bad::_,_,hg=>hg.no.elim
 |m+1,.code (.seq a b)::l,s,hg=>Run.go 1 (K2 hC (m:=m) hg)
 |m+1,.code (.cond x a b)::l,s,hg=>by
  simp only [exG]at hg
  split at hg
  ·rename_i hv;exact fun fn bs hrs=>OK.cond hv (fun _=>K2 hC (m:=m) hg fn bs hrs) (fun e=>by cases e)
  ·rename_i hv;exact fun fn bs hrs=>OK.cond hv (fun e=>by cases e) (fun _=>K2 hC (m:=m) hg fn bs hrs)
  ·exact hg.no.elim
 |m+1,.code (.block id a)::l,s,hg=>Run.go 1 (K2 hC (m:=m) hg)
 |m+1,.code (.loop a)::l,s,hg=>Run.loop (K2 hC (m:=m) hg)
 |m+1,.code (.exit id)::l,s,hg=>by
  simp only [exG]at hg
  split at hg
  ·rename_i k' hsc hk;exact fun fn bs hrs=>OK.exit hsc hk (K2 hC (m:=m) hg fn bs hrs)
  ·exact hg.no.elim
 |m+1,.code .ret::_,s,hg=>Run.go 1 (B3R hg)
 |m+1,.blk _::l,s,hg=>Run.go 1 (K2 hC (m:=m) hg)
 |m+1,.lp a::l,s,hg=>Run.lp (K2 hC (m:=m) hg)
 |m+1,.code (.dfr d)::l,s,hg=>Run.go 1 (K2 hC (m:=m) hg)
 |m+1,.code (.rng ..)::_,_,hg=>hg.no.elim
 |m+1,.beg::_,_,hg=>hg.no.elim
end
def exC(P:Program)(T:List (FuncId×Nat×AC×List RV))(lib:I9)(m:Nat):Nat→I9
 |0,_,_,_,_=>none
 | d+1,f,xs,h,n=>match lib f xs h n with
  |some l=>some l
  |none=>match look T f with
   |some e=>(gE (Nat.ble xs.length e.1) (exG P (exC P T lib m d) e.2.2 n m [.code e.2.1] ⟨A8 0 xs,h,n⟩)).map (B9u n)
   |none=>none
where
 look:List (FuncId×Nat×AC×List RV)→FuncId→Option (Nat×AC×List RV)
  | [],_=>none
  |e::r,f=>bif Nat.beq e.1 f then some e.2 else look r f
def B4(P:Program)(T:List (FuncId×Nat×AC×List RV)):Prop:= ∀e∈T,B3 P e.1=some e.2
theorem B4.nil{P:Program}:B4 P []:=fun e h=>by cases h
theorem B4.cons{P:Program}{T:List (FuncId×Nat×AC×List RV)}{f N:Nat}{ac:AC}{rs:List RV}(h:B3 P f=some (N,ac,rs))(hr:B4 P T):B4 P ((f,N,ac,rs)::T):=fun e he=>by
 rcases List.mem_cons.1 he with rfl|he
 ·exact h
 ·exact hr e he
theorem B4.look{P:Program}: ∀{T:List (FuncId×Nat×AC×List RV)},B4 P T→ ∀{f:FuncId} {c},exC.look T f=some c→B3 P f=some c
 | [],_,f,c,h=>by cases h
 | e::r,hT,f,c,h=>by
  simp only [exC.look]at h
  cases hb:Nat.beq e.1 f with
  |true=>
   rw [hb]at h;injection h with h
   rw [←Nat.eq_of_beq_eq_true hb,←h];exact hT e List.mem_cons_self
  |false=>rw [hb]at h;exact B4.look (fun e he=>hT e (List.mem_cons_of_mem _ he)) h
def B8I:I9:=fun _ _ _ _=>none
theorem A2o{P:Program}:H4 P B8I:=fun _ _ _ _ _ hg=>hg.no.elim
theorem B3t{P:Program}{T:List (FuncId×Nat×AC×List RV)}{lib:I9}(hT:B4 P T)(hl:H4 P lib){m:Nat}: ∀{d:Nat},H4 P (exC P T lib m d)
 |0,_,_,_,_,_,hg=>hg.no.elim
 | d+1,f,xs,h,n,k,hg=>by
  simp only [exC]at hg
  split at hg
  ·rename_i l he;exact hl f xs h n k (by rw [he];exact hg)
  ·split at hg
   ·rename_i e he
    refine B9v (fun k hg=> ?_) hg
    obtain⟨h1,hg⟩:=hg.g
    exact A3.enter (N:=e.1) (ac:=e.2.1) (rs:=e.2.2) (hT.look he) (Nat.le_of_ble_eq_true h1) (K2 (B3t hT hl) hg)
   ·exact hg.no.elim
def exR(P:Program)(T:List (FuncId×Nat×AC×List RV))(lib:I9)(m d:Nat)(fr:Nat)(f:FuncId)(xs:List V):Option V:=
 (exC P T lib m d f xs [] 0).map fun x=>frz fr x.2.1 x.1
theorem Pure.exec{P:Program}{T:List (FuncId×Nat×AC×List RV)}{lib:I9}(hT:B4 P T)(hl:H4 P lib){m d fr:Nat}{f:FuncId}{xs:List V}{r:V}(h:exR P T lib m d fr f xs=some r):Pure P f xs r:=by
 refine Pure.of fr (B3t (d:=d) (m:=m) hT hl f xs [] 0 _ ?_)
 obtain⟨x,h1,h2⟩:=Option.map_eq_some_iff.1 h
 exact⟨x,h1,h2⟩
def eqR(o:Option V)(r:V):Bool:=
 match o with
 |some v=>V.beq v r
 |none=>false
theorem Pure.execB{P:Program}{T:List (FuncId×Nat×AC×List RV)}{lib:I9}(hT:B4 P T)(hl:H4 P lib){m d fr:Nat}{f:FuncId}{xs:List V}{r:V}(h:eqR (exR P T lib m d fr f xs) r=true):Pure P f xs r:=by
 unfold eqR at h
 split at h
 ·rename_i v hv;exact Pure.exec hT hl (by rw [hv,V.beq_eq h])
 ·cases h
end Go.Abs
