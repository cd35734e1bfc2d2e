/-
 Abstract code run as a program on known data: what it answers is a contract. No condition.
-/
import Derived.Test.YtnihmhbcjpcobaaGreatDoorWk
set_option linter.unusedVariables false
set_option linter.unusedSimpArgs false
namespace Go.Abs
abbrev P6:=Option (V×A0×Nat)
def F5(v:V)(h:A0)(n:Nat):P6:=some (v,h,n)
def A4L(o:Option V)(h:A0)(n:Nat):P6:=
 match o with
 |some v=>F5 v h n
 |none=>none
def gE(b:Bool)(r:P6):P6:=bif b then r else none
def E4(o:P6)(k:Res):Prop:= ∃x,o=some x∧k x.1 x.2.1 x.2.2
theorem E4.one{v:V}{h:A0}{n:Nat}{k:Res}(hg:E4 (F5 v h n) k):k v h n:=by
 obtain⟨l,h1,h2⟩:=hg
 injection h1 with h1
 subst h1
 exact h2
theorem E4.opt{o:Option V}{h:A0}{n:Nat}{k:Res}(hg:E4 (A4L o h n) k):G8 o k h n:=by
 cases o with
 |none=>obtain⟨l,h1,_⟩:=hg;cases h1
 |some v=>exact E4.one hg
theorem E4.g{b:Bool}{o:P6}{k:Res}(hg:E4 (gE b o) k):b=true∧E4 o k:=by
 cases b with
 |false=>obtain⟨l,h1,_⟩:=hg;cases h1
 |true=>exact⟨rfl,hg⟩
theorem E4.no{k:Res}(hg:E4 none k):False:=by obtain⟨l,h1,_⟩:=hg;cases h1
def B3x(es:List (List V))(sz:Nat):Bool:=es.all fun r=>Nat.beq r.length sz
theorem A5T{es:List (List V)}{sz:Nat}(h:B3x es sz=true):C4 es sz:=fun r hr=>Nat.eq_of_beq_eq_true (List.all_eq_true.1 h r hr)
def zle(a b:Int):Bool:=match b-a with
 | .ofNat _=>true
 | .negSucc _=>false
theorem R8{a b:Int}:zle a b=true↔a≤b:=by
 unfold zle
 split
 ·rename_i m h
  have h:b-a=(m:Int):=h
  simp only [true_iff];omega
 ·rename_i m h
  simp only [Bool.false_eq_true,false_iff];omega
def zlt(a b:Int):Bool:=zle (a+1) b
theorem A8r{a b:Int}:zlt a b=true↔a<b:=by unfold zlt;rw [R8];omega
def zeq(a b:Int):Bool:=match a,b with
 | .ofNat a,.ofNat b=>Nat.beq a b
 | .negSucc a,.negSucc b=>Nat.beq a b
 |_,_=>false
theorem B2v{a b:Int}:zeq a b=true↔a=b:=by
 unfold zeq
 cases a<;>cases b<;>simp<;>omega
theorem C0d(a b:Int):decide (a≤b)=zle a b:=by rw [Bool.eq_iff_iff,decide_eq_true_eq,R8]
theorem C0e(a b:Int):decide (a<b)=zlt a b:=by rw [Bool.eq_iff_iff,decide_eq_true_eq,A8r]
theorem C0c(a b:Int):decide (a=b)=zeq a b:=by rw [Bool.eq_iff_iff,decide_eq_true_eq,B2v]
def kEq:IntKind→IntKind→Bool
 | .i8,.i8| .i16,.i16| .i32,.i32| .i64,.i64| .u8,.u8| .u16,.u16| .u32,.u32| .u64,.u64=>true
 |_,_=>false
theorem B5s{a b:IntKind}:kEq a b=true↔a=b:=by cases a<;>cases b<;>simp [kEq]
def C6Z(k:IntKind)(z:Int):Bool:=
 match k with
 | .i64=>zle (-9223372036854775808) z&&zle z 9223372036854775807
 |_=>true
theorem C2C{k:IntKind}{z:Int}(h:C6Z k z=true):inR k z:=by
 cases k<;>simp only [C6Z,inR,Bool.and_eq_true,R8]at h⊢
 exact h
def B0O(k:IntKind)(z:Int)(h:A0)(n:Nat):P6:=gE (C6Z k z) (F5 (B4W k z) h n)
theorem E4.arith{j:IntKind}{z:Int}{h:A0}{n:Nat}{k:Res}(hg:E4 (B0O j z h n) k):R9 j z k h n:=⟨C2C hg.g.1,hg.g.2.one⟩
theorem B1i{a b:Nat}:Nat.beq a b=true↔a=b:=⟨Nat.eq_of_beq_eq_true,fun h=>h ▸ Nat.beq_refl a⟩
def R0:List UInt8→List UInt8→Bool
 | [],[]=>true
 |a::r,b::s=>Nat.beq a.toNat b.toNat&&R0 r s
 |_,_=>false
theorem A3R: ∀{a b:List UInt8},R0 a b=true↔a=b
 | [],[]=>by simp [R0]
 | [],_::_=>by simp [R0]
 |_::_,[]=>by simp [R0]
 |a::r,b::s=>by
  simp only [R0,Bool.and_eq_true,A3R,List.cons.injEq,B1i]
  rw [←UInt8.toNat_inj]
theorem A8e(a b:List UInt8):decide (a=b)=R0 a b:=by rw [Bool.eq_iff_iff,decide_eq_true_eq,A3R]
def C6q(op:BinOp)(x y:V)(h:A0)(n:Nat):P6:=
 match x,y with
 | .int j a,.int j' b=>gE (kEq j j') (match op with
  | .add=>B0O j (a+b) h n
  | .sub=>B0O j (a-b) h n
  | .mul=>B0O j (a*b) h n
  | .quo=>gE (!zeq b 0) (B0O j (a.tdiv b) h n)
  | .rem=>gE (!zeq b 0) (F5 (.int j (a.tmod b)) h n)
  | .eql=>F5 (.bool (zeq a b)) h n
  | .neq=>F5 (.bool (!zeq a b)) h n
  | .lss=>F5 (.bool (zlt a b)) h n
  | .leq=>F5 (.bool (zle a b)) h n
  | .gtr=>F5 (.bool (zlt b a)) h n
  | .geq=>F5 (.bool (zle b a)) h n
  | .and=>F5 (.int j (A2d .and j a b)) h n
  | .or=>F5 (.int j (A2d .or j a b)) h n
  | .xor=>F5 (.int j (A2d .xor j a b)) h n
  | .andNot=>F5 (.int j (A2d .andNot j a b)) h n
  |_=>none)
 | .str a,.str b=>match op with
  | .add=>gE (Nat.ble (a.length+b.length) 1099511627776) (F5 (.str (a++b)) h n)
  | .eql=>F5 (.bool (R0 a b)) h n
  | .neq=>F5 (.bool (!R0 a b)) h n
  | .lss=>F5 (.bool (L9 a b)) h n
  | .geq=>F5 (.bool (!L9 a b)) h n
  | .leq=>F5 (.bool (L9 a b||R0 a b)) h n
  | .gtr=>F5 (.bool !(L9 a b||R0 a b)) h n
  |_=>none
 |_,_=>none
theorem B9T{a b:Int}(h:(!zeq a b)=true):a≠b:=fun e=>by
 rw [B2v.2 e]at h;cases h
theorem E4.bin{op:BinOp}{x y:V}{h:A0}{n:Nat}{k:Res}(hg:E4 (C6q op x y h n) k):S3 op x y k h n:=by
 unfold C6q at hg
 split at hg
 ·rename_i j a j' b
  obtain⟨h1,hg⟩:=hg.g
  have h1:=B5s.1 h1
  unfold S3
  refine⟨h1,?_⟩
  cases op<;>simp only at hg⊢
  case add=>exact hg.arith
  case sub=>exact hg.arith
  case mul=>exact hg.arith
  case quo=>exact⟨B9T hg.g.1,hg.g.2.arith⟩
  case rem=>exact⟨B9T hg.g.1,hg.g.2.one⟩
  case eql=>rw [C0c];exact hg.one
  case neq=>rw [decide_not,C0c];exact hg.one
  case lss=>rw [C0e];exact hg.one
  case leq=>rw [C0d];exact hg.one
  case gtr=>rw [C0e];exact hg.one
  case geq=>rw [C0d];exact hg.one
  case and=>exact hg.one
  case or=>exact hg.one
  case xor=>exact hg.one
  case andNot=>exact hg.one
  all_goals exact hg.no
 ·rename_i a b
  unfold S3
  cases op<;>simp only at hg⊢
  case add=>exact⟨Nat.le_of_ble_eq_true hg.g.1,hg.g.2.one⟩
  case eql=>rw [A8e];exact hg.one
  case neq=>rw [decide_not,A8e];exact hg.one
  case lss=>exact hg.one
  case geq=>exact hg.one
  case leq=>rw [A8e];exact hg.one
  case gtr=>rw [A8e];exact hg.one
  all_goals exact hg.no
 ·exact hg.no.elim
def unE(op:UnOp)(x:V)(h:A0)(n:Nat):P6:=
 match op,x with
 | .neg,.int j a=>B0O j (0-a) h n
 | .not,.bool b=>F5 (.bool !b) h n
 | .xor,.int j a=>F5 (.int j (A2d .xor j (bif j.signed then -1 else j.max) a)) h n
 |_,_=>none
theorem E4.un{op:UnOp}{x:V}{h:A0}{n:Nat}{k:Res}(hg:E4 (unE op x h n) k):unK op x k h n:=by
 unfold unE at hg
 split at hg
 ·exact hg.arith
 ·exact hg.one
 ·exact hg.one
 ·exact hg.no.elim
def B8u(sz:Nat)(x i:V)(h:A0)(n:Nat):P6:=
 match i with
 | .int _ z=>match x with
  | .sl b st i0 m=>gE (zle 0 z&&zlt z m&&(match A9O (A0.get h b st)with|some s=>Nat.beq s sz|none=>false)) (F5 (.ptr b st (i0+z.toNat) 0) h n)
  | .isl es=>gE (zle 0 z&&zlt z es.length&&B3x es sz) (F5 (.iptr es z.toNat 0) h n)
  |_=>none
 |_=>none
theorem E4.iaddr{sz:Nat}{x i:V}{h:A0}{n:Nat}{k:Res}(hg:E4 (B8u sz x i h n) k):A1H sz x i k h n:=by
 unfold B8u at hg
 split at hg
 ·split at hg
  ·obtain⟨h1,hg⟩:=hg.g
   simp only [Bool.and_eq_true,R8,A8r]at h1
   obtain⟨⟨a,b⟩,c⟩:=h1
   refine⟨a,b,?_,hg.one⟩
   split at c
   ·rename_i s hs;rw [hs,Nat.eq_of_beq_eq_true c]
   ·cases c
  ·obtain⟨h1,hg⟩:=hg.g
   simp only [Bool.and_eq_true,R8,A8r]at h1
   exact⟨h1.1.1,h1.1.2,A5T h1.2,hg.one⟩
  ·exact hg.no.elim
 ·exact hg.no.elim
def B5q(len sz:Nat)(x i:V)(h:A0)(n:Nat):P6:=
 match i with
 | .int _ z=>match x with
  | .ptr b st i0 j=>gE (zle 0 z&&zlt z len) (F5 (.ptr b st i0 (j+z.toNat*sz)) h n)
  | .iptr es i0 j=>gE (zle 0 z&&zlt z len) (F5 (.iptr es i0 (j+z.toNat*sz)) h n)
  |_=>none
 |_=>none
theorem E4.iaddrA{len sz:Nat}{x i:V}{h:A0}{n:Nat}{k:Res}(hg:E4 (B5q len sz x i h n) k):A1M len sz x i k h n:=by
 unfold B5q at hg
 split at hg
 ·split at hg
  ·obtain⟨h1,hg⟩:=hg.g
   simp only [Bool.and_eq_true,R8,A8r]at h1
   exact⟨h1.1,h1.2,hg.one⟩
  ·obtain⟨h1,hg⟩:=hg.g
   simp only [Bool.and_eq_true,R8,A8r]at h1
   exact⟨h1.1,h1.2,hg.one⟩
  ·exact hg.no.elim
 ·exact hg.no.elim
def C6X(x i:V)(h:A0)(n:Nat):P6:=
 match x,i with
 | .str s,.int _ z=>gE (zle 0 z) (A4L ((s[z.toNat]?).map fun b=> .int .u8 b.toNat) h n)
 |_,_=>none
theorem E4.idx{x i:V}{h:A0}{n:Nat}{k:Res}(hg:E4 (C6X x i h n) k):B5r x i k h n:=by
 unfold C6X at hg
 split at hg
 ·exact⟨R8.1 hg.g.1,hg.g.2.opt⟩
 ·exact hg.no.elim
def shE(left:Bool)(x y:V)(h:A0)(n:Nat):P6:=
 match x,y with
 | .int j a,.int _ b=>gE (zle 0 b) (F5 (.int j (shZ left j a b)) h n)
 |_,_=>none
theorem E4.sh{l:Bool}{x y:V}{h:A0}{n:Nat}{k:Res}(hg:E4 (shE l x y h n) k):shK l x y k h n:=by
 unfold shE at hg
 split at hg
 ·exact⟨R8.1 hg.g.1,hg.g.2.one⟩
 ·exact hg.no.elim
def C2B(len sz m:Nat)(agg:Bool)(x i:V)(h:A0)(n:Nat):P6:=
 match x,i with
 | .agg cs,.int _ z=>gE (zle 0 z&&zlt z len) (A4L (J9 cs (z.toNat*sz) m agg) h n)
 |_,_=>none
theorem E4.idxA{len sz m:Nat}{agg:Bool}{x i:V}{h:A0}{n:Nat}{k:Res}(hg:E4 (C2B len sz m agg x i h n) k):A7n len sz m agg x i k h n:=by
 unfold C2B at hg
 split at hg
 ·obtain⟨h1,hg⟩:=hg.g
  simp only [Bool.and_eq_true,R8,A8r]at h1
  exact⟨h1.1,h1.2,hg.opt⟩
 ·exact hg.no.elim
def C6B(z:List V)(x:V)(h:A0)(n:Nat):P6:=
 match x with
 | .nils=>F5 (.tup []) h n
 | .sl b st i m=>match A0.get h b st with
  |some (.rows sz rs)=>gE (Nat.beq sz z.length&&Nat.ble (i+m) rs.length) (F5 (.tup []) (A0.put h b st (.rows sz (rs.take i++List.replicate m z++rs.drop (i+m)))) n)
  |_=>none
 |_=>none
theorem E4.clr{z:List V}{x:V}{h:A0}{n:Nat}{k:Res}(hg:E4 (C6B z x h n) k):B2d z x k h n:=by
 unfold C6B at hg
 unfold B2d
 split at hg
 ·exact hg.one
 ·simp only
  split at hg
  ·rename_i he
   obtain⟨h1,hg⟩:=hg.g
   simp only [Bool.and_eq_true,B1i,Nat.ble_eq]at h1
   rw [he]
   exact⟨h1.1,h1.2,hg.one⟩
  ·exact hg.no.elim
 ·exact hg.no.elim
def C7y(nm:Nat)(rs:Option (List (List V)))(h:A0)(n:Nat):P6:=
 match rs with
 |some rs=>gE (Nat.ble 1 rs.length) (F5 (.sl nm n 0 rs.length) (A0.put h nm n (.raw rs)) (n+1))
 |none=>none
theorem E4.raw{nm:Nat}{rs:Option (List (List V))}{h:A0}{n:Nat}{k:Res}(hg:E4 (C7y nm rs h n) k):B8P nm rs k h n:=by
 unfold C7y at hg
 split at hg
 ·obtain⟨h1,hg⟩:=hg.g
  exact⟨Nat.le_of_ble_eq_true h1,hg.one⟩
 ·exact hg.no.elim
def C6G(x:V)(h:A0)(n:Nat):P6:=
 match x with
 | .sl b st 0 m=>match A0.get h b st with
  |some (.raw rs)=>gE (Nat.beq m rs.length) (F5 (.sl b st 0 m) (A0.put h b st (.rows 1 rs)) n)
  |_=>none
 |_=>none
theorem E4.cvr{x:V}{h:A0}{n:Nat}{k:Res}(hg:E4 (C6G x h n) k):B5h x k h n:=by
 unfold C6G at hg
 unfold B5h
 split at hg
 ·simp only
  split at hg
  ·rename_i he
   obtain⟨h1,hg⟩:=hg.g
   rw [he]
   exact⟨Nat.eq_of_beq_eq_true h1,hg.one⟩
  ·exact hg.no.elim
 ·exact hg.no.elim
def C2c(nm:Nat)(x:V)(h:A0)(n:Nat):P6:=
 match x with
 | .str s=>F5 (.sl nm n 0 s.length) (A0.put h nm n (.rows 1 (K0 s))) (n+1)
 |_=>none
theorem E4.byts{nm:Nat}{x:V}{h:A0}{n:Nat}{k:Res}(hg:E4 (C2c nm x h n) k):A8y nm x k h n:=by
 unfold C2c at hg
 split at hg
 ·exact hg.one
 ·exact hg.no.elim
def C7Q(nm sz:Nat)(x:V)(h:A0)(n:Nat):P6:=
 match x with
 | .nils| .isl _| .sl .. =>F5 (.sl nm n 0 0) (A0.put h nm n (.rows sz [])) (n+1)
 |_=>none
theorem E4.slz{nm sz:Nat}{x:V}{h:A0}{n:Nat}{k:Res}(hg:E4 (C7Q nm sz x h n) k):B2j nm sz x k h n:=by
 unfold C7Q at hg
 split at hg
 ·exact hg.one
 ·exact hg.one
 ·exact hg.one
 ·exact hg.no.elim
def C6u(nm sz:Nat)(cs:Option (List V))(h:A0)(n:Nat):P6:=
 match cs with
 |some cs=>gE (Nat.beq cs.length sz) (F5 (.ptr nm n 0 0) (A0.put h nm n (.rows sz [cs])) (n+1))
 |none=>none
theorem E4.box{nm sz:Nat}{cs:Option (List V)}{h:A0}{n:Nat}{k:Res}(hg:E4 (C6u nm sz cs h n) k):B3Q nm sz cs k h n:=by
 unfold C6u at hg
 split at hg
 ·exact⟨Nat.eq_of_beq_eq_true hg.g.1,hg.g.2.one⟩
 ·exact hg.no.elim
def C7G(nm sz:Nat)(rs:Option (List (List V)))(h:A0)(n:Nat):P6:=
 match rs with
 |some rs=>F5 (.sl nm n 0 rs.length) (A0.put h nm n (.rows sz rs)) (n+1)
 |none=>none
theorem E4.row{nm sz:Nat}{rs:Option (List (List V))}{h:A0}{n:Nat}{k:Res}(hg:E4 (C7G nm sz rs h n) k):B7y nm sz rs k h n:=by
 unfold C7G at hg
 split at hg
 ·exact hg.one
 ·exact hg.no.elim
def C7a(rs:Option (List (List V)))(h:A0)(n:Nat):P6:=
 match rs with
 |some rs=>F5 (.isl rs) h n
 |none=>none
theorem E4.isl{rs:Option (List (List V))}{h:A0}{n:Nat}{k:Res}(hg:E4 (C7a rs h n) k):B6Q rs k h n:=by
 unfold C7a at hg
 split at hg
 ·exact hg.one
 ·exact hg.no.elim
def C2A(h:Option A0)(n:Nat):P6:=
 match h with
 |some h=>F5 .undef h n
 |none=>none
theorem E4.heap{h:Option A0}{n:Nat}{k:Res}(hg:E4 (C2A h n) k):A8A h k n:=by
 unfold C2A at hg
 split at hg
 ·exact hg.one
 ·exact hg.no.elim
def C3U(L nm sz:Nat)(s:V)(xs:Option (List (List V)))(h:A0)(n:Nat):P6:=
 match xs with
 |none=>none
 | some xs=>gE (B3x xs sz) (match s with
  | .nils=>gE (Nat.ble xs.length L) (F5 (.sl nm n 0 xs.length) (A0.put h nm n (.rows sz xs)) (n+1))
  | .sl b st i m=>match A0.get h b st with
   | some (.rows sz' rs)=>gE (Nat.beq sz' sz&&Nat.ble (i+m) rs.length&&Nat.ble (m+xs.length) L)
     (F5 (.sl b n 0 (m+xs.length)) (A0.put h b n (.rows sz ((rs.drop i).take m++xs))) (n+1))
   |_=>none
  |_=>none)
theorem E4.app{L nm sz:Nat}{s:V}{xs:Option (List (List V))}{h:A0}{n:Nat}{k:Res}(hg:E4 (C3U L nm sz s xs h n) k):A7d L nm sz s xs k h n:=by
 unfold C3U at hg
 split at hg
 ·exact hg.no.elim
 ·obtain⟨h0,hg⟩:=hg.g
  unfold A7d
  refine⟨A5T h0,?_⟩
  split at hg
  ·exact⟨Nat.le_of_ble_eq_true hg.g.1,hg.g.2.one⟩
  ·simp only
   split at hg
   ·rename_i he
    obtain⟨h1,hg⟩:=hg.g
    simp only [Bool.and_eq_true,B1i,Nat.ble_eq]at h1
    rw [he]
    exact⟨h1.1.1,h1.1.2,h1.2,hg.one⟩
   ·exact hg.no.elim
  ·exact hg.no.elim
def C2k(sz:Nat)(d:V)(xs:Option (List (List V)))(h:A0)(n:Nat):P6:=
 match xs with
 |none=>none
 | some xs=>gE (B3x xs sz) (match d with
  | .nils=>F5 (.int .i64 0) h n
  | .sl b st i m=>match A0.get h b st with
   | some (.rows sz' rs)=>gE (Nat.beq sz' sz&&Nat.ble (i+m) rs.length)
     (F5 (.int .i64 (min xs.length m:Nat)) (A0.put h b st (.rows sz (rs.take i++xs.take (min xs.length m)++rs.drop (i+min xs.length m)))) n)
   |_=>none
  |_=>none)
theorem E4.copy{sz:Nat}{d:V}{xs:Option (List (List V))}{h:A0}{n:Nat}{k:Res}(hg:E4 (C2k sz d xs h n) k):A6e sz d xs k h n:=by
 unfold C2k at hg
 split at hg
 ·exact hg.no.elim
 ·obtain⟨h0,hg⟩:=hg.g
  unfold A6e
  refine⟨A5T h0,?_⟩
  split at hg
  ·exact hg.one
  ·simp only
   split at hg
   ·rename_i he
    obtain⟨h1,hg⟩:=hg.g
    simp only [Bool.and_eq_true,B1i,Nat.ble_eq]at h1
    rw [he]
    exact⟨h1.1,h1.2,hg.one⟩
   ·exact hg.no.elim
  ·exact hg.no.elim
def C2O(nm:Nat)(z:List V)(x:V)(h:A0)(n:Nat):P6:=
 match x with
 | .int .i64 m=>gE (zle 0 m&&zle m 137438953472) (F5 (.sl nm n 0 m.toNat) (A0.put h nm n (.rows z.length (List.replicate m.toNat z))) (n+1))
 |_=>none
theorem E4.mksl{nm:Nat}{z:List V}{x:V}{h:A0}{n:Nat}{k:Res}(hg:E4 (C2O nm z x h n) k):B1K nm z x k h n:=by
 unfold C2O at hg
 split at hg
 ·obtain⟨h1,hg⟩:=hg.g
  simp only [Bool.and_eq_true,R8]at h1
  exact⟨h1.1,h1.2,hg.one⟩
 ·exact hg.no.elim
def C7L(sz:Nat)(x:V)(lo hi:Option V)(h:A0)(n:Nat):P6:=
 match x with
 | .sl b st i m=>match G4 0 lo,G4 m hi with
  |some l,some u=>gE ((match A9O (A0.get h b st)with|some s=>Nat.beq s sz|none=>false)&&zle 0 l&&zle l u&&zle u m) (F5 (.sl b st (i+l.toNat) (u-l).toNat) h n)
  |_,_=>none
 | .isl es=>match G4 0 lo,G4 es.length hi with
  |some l,some u=>gE (B3x es sz&&zle 0 l&&zle l u&&zle u es.length) (F5 (.isl ((es.drop l.toNat).take (u-l).toNat)) h n)
  |_,_=>none
 | .nils=>match G4 0 lo,G4 0 hi with
  |some l,some u=>gE (zeq l 0&&zeq u 0) (F5 .nils h n)
  |_,_=>none
 |_=>none
theorem E4.slc{sz:Nat}{x:V}{lo hi:Option V}{h:A0}{n:Nat}{k:Res}(hg:E4 (C7L sz x lo hi h n) k):B0F sz x lo hi k h n:=by
 unfold C7L at hg
 unfold B0F
 split at hg
 ·simp only
  split at hg
  ·rename_i h1 h2
   obtain⟨h0,hg⟩:=hg.g
   simp only [Bool.and_eq_true,R8]at h0
   rw [h1,h2]
   refine⟨?_,h0.1.1.2,h0.1.2,h0.2,hg.one⟩
   have c:=h0.1.1.1
   split at c
   ·rename_i s hs;rw [hs,Nat.eq_of_beq_eq_true c]
   ·cases c
  ·exact hg.no.elim
 ·simp only
  split at hg
  ·rename_i h1 h2
   obtain⟨h0,hg⟩:=hg.g
   simp only [Bool.and_eq_true,R8]at h0
   rw [h1,h2]
   exact⟨A5T h0.1.1.1,h0.1.1.2,h0.1.2,h0.2,hg.one⟩
  ·exact hg.no.elim
 ·simp only
  split at hg
  ·rename_i h1 h2
   obtain⟨h0,hg⟩:=hg.g
   simp only [Bool.and_eq_true,B2v]at h0
   rw [h1,h2]
   exact⟨h0.1,h0.2,hg.one⟩
  ·exact hg.no.elim
 ·exact hg.no.elim
def C7O(x:V)(lo hi:Option V)(h:A0)(n:Nat):P6:=
 match x with
 | .str s=>match G4 0 lo,G4 s.length hi with
  |some l,some u=>gE (zle 0 l&&zle l u&&zle u s.length) (F5 (.str ((s.drop l.toNat).take (u-l).toNat)) h n)
  |_,_=>none
 |_=>none
theorem E4.sls{x:V}{lo hi:Option V}{h:A0}{n:Nat}{k:Res}(hg:E4 (C7O x lo hi h n) k):B2i x lo hi k h n:=by
 unfold C7O at hg
 unfold B2i
 split at hg
 ·simp only
  split at hg
  ·rename_i h1 h2
   obtain⟨h0,hg⟩:=hg.g
   simp only [Bool.and_eq_true,R8]at h0
   rw [h1,h2]
   exact⟨h0.1.1,h0.1.2,h0.2,hg.one⟩
  ·exact hg.no.elim
 ·exact hg.no.elim
def B0Z(k:V):List (V×V)→Bool
 | []=>true
 |e::r=>(A2X k e.1).isSome&&B0Z k r
theorem A5K{k:V}: ∀{l:List (V×V)},B0Z k l=true→A2r k l
 | [],_=>trivial
 |_::_,h=>by
  simp only [B0Z,Bool.and_eq_true]at h
  exact⟨h.1,A5K h.2⟩
def C2J(kd:Nat)(z:V)(ok:Bool)(m key:V)(h:A0)(n:Nat):P6:=
 match m with
 | .nilm=>gE (A2i kd key) (F5 (B0c z ok none) h n)
 | .mp b st=>match A0.get h b st with
  |some (.map es)=>gE (A2i kd key&&B0Z key es) (F5 (B0c z ok (S7 key es)) h n)
  |_=>none
 |_=>none
theorem E4.look{kd:Nat}{z:V}{ok:Bool}{m key:V}{h:A0}{n:Nat}{k:Res}(hg:E4 (C2J kd z ok m key h n) k):A6g kd z ok m key k h n:=by
 unfold C2J at hg
 unfold A6g
 split at hg
 ·exact⟨hg.g.1,hg.g.2.one⟩
 ·simp only
  split at hg
  ·rename_i he
   obtain⟨h1,hg⟩:=hg.g
   simp only [Bool.and_eq_true]at h1
   rw [he]
   exact⟨h1.1,A5K h1.2,hg.one⟩
  ·exact hg.no.elim
 ·exact hg.no.elim
def C2P(kd:Nat)(m key v:V)(h:A0)(n:Nat):P6:=
 match m with
 | .mp b st=>match A0.get h b st with
  |some (.map es)=>gE (A2i kd key&&B0Z key es) (F5 .undef (A0.put h b st (.map (A5P key v es))) n)
  |_=>none
 |_=>none
theorem E4.mput{kd:Nat}{m key v:V}{h:A0}{n:Nat}{k:Res}(hg:E4 (C2P kd m key v h n) k):B0f kd m key v k h n:=by
 unfold C2P at hg
 unfold B0f
 split at hg
 ·simp only
  split at hg
  ·rename_i he
   obtain⟨h1,hg⟩:=hg.g
   simp only [Bool.and_eq_true]at h1
   rw [he]
   exact⟨h1.1,A5K h1.2,hg.one⟩
  ·exact hg.no.elim
 ·exact hg.no.elim
def C2L(kd:Nat)(m key:V)(h:A0)(n:Nat):P6:=
 match m with
 | .nilm=>gE (A2i kd key) (F5 (.tup []) h n)
 | .mp b st=>match A0.get h b st with
  |some (.map es)=>gE (A2i kd key&&B0Z key es) (F5 (.tup []) (A0.put h b st (.map (B8J key es))) n)
  |_=>none
 |_=>none
theorem E4.mdel{kd:Nat}{m key:V}{h:A0}{n:Nat}{k:Res}(hg:E4 (C2L kd m key h n) k):A8C kd m key k h n:=by
 unfold C2L at hg
 unfold A8C
 split at hg
 ·exact⟨hg.g.1,hg.g.2.one⟩
 ·simp only
  split at hg
  ·rename_i he
   obtain⟨h1,hg⟩:=hg.g
   simp only [Bool.and_eq_true]at h1
   rw [he]
   exact⟨h1.1,A5K h1.2,hg.one⟩
  ·exact hg.no.elim
 ·exact hg.no.elim
abbrev Q7:=FuncId→List V→A0→Nat→P6
def C2d(P:Program)(C:Q7)(f:V)(xs:List V)(h:A0)(n:Nat):P6:=
 match f with
 | .fn g cs=>gE (J8 P g) (C g (xs++cs) h n)
 |_=>none
def C6N(fn neg:Bool)(x:V)(h:A0)(n:Nat):P6:=
 match fn,x with
 |false,.nils=>F5 (.bool !neg) h n
 |false,.isl (_::_)=>F5 (.bool neg) h n
 |false,.sl _ _ _ (_+1)=>F5 (.bool neg) h n
 |true,.fn _ _=>F5 (.bool neg) h n
 |true,.cst .nilFunc=>F5 (.bool !neg) h n
 |_,_=>none
theorem E4.eqn{fn neg:Bool}{x:V}{h:A0}{n:Nat}{k:Res}(hg:E4 (C6N fn neg x h n) k):A5I fn neg x k h n:=by
 unfold C6N at hg
 split at hg
 ·exact hg.one
 ·exact⟨hg.one,fun e=>by cases e⟩
 ·exact⟨hg.one,fun e=>by cases e⟩
 ·exact hg.one
 ·exact hg.one
 ·exact hg.no.elim
def exO(P:Program)(C:Q7)(s:St):AO→P6
 | .mov x=>F5 (s.ev x) s.h s.n
 | .pick c a b=>A4L (B7l (s.ev c) (s.ev a) (s.ev b)) s.h s.n
 | .nilck x=>A4L (B3k (s.ev x)) s.h s.n
 | .box nm sz x=>C6u nm sz (A1E (s.ev x)) s.h s.n
 | .build z ps=>A4L ((A2p s z ps).map .agg) s.h s.n
 | .mkrow nm sz xs=>C7G nm sz (G7 sz s xs) s.h s.n
 | .mkisl sz xs=>C7a (G7 sz s xs) s.h s.n
 | .load m agg x=>A4L (A2s s.h (s.ev x) m agg) s.h s.n
 | .store m x v=>C2A (B3I s.h (s.ev x) (s.ev v) m) s.n
 | .faddr off x=>A4L (B2M off (s.ev x)) s.h s.n
 | .iaddr sz x i=>B8u sz (s.ev x) (s.ev i) s.h s.n
 | .iaddrA len sz x i=>B5q len sz (s.ev x) (s.ev i) s.h s.n
 | .fld off m agg x=>A4L (C2v off m agg (s.ev x)) s.h s.n
 | .idx x i=>C6X (s.ev x) (s.ev i) s.h s.n
 | .ext i x=>A4L (C2u i (s.ev x)) s.h s.n
 | .bin op x y=>C6q op (s.ev x) (s.ev y) s.h s.n
 | .binw op x y=>A4L (B2B op (s.ev x) (s.ev y)) s.h s.n
 | .eqp kind neg x y=>A4L (bif B1G kind (s.ev x)then B8r neg (s.ev x) (s.ev y)else none) s.h s.n
 | .eqa neg t x y=>A4L (C2t neg t (s.ev x) (s.ev y)) s.h s.n
 | .un op x=>unE op (s.ev x) s.h s.n
 | .negw x=>A4L (B4I (s.ev x)) s.h s.n
 | .conv j x=>A4L (B6z j (s.ev x)) s.h s.n
 | .cap0 x=>A4L (B6m (s.ev x)) s.h s.n
 | .grw _ _ _ _| .rgm _ _| .nxm _| .ent _=>none
 | .bst x=>A4L (C0n (A0i s.h (s.ev x))) s.h s.n
 | .byts nm x=>C2c nm (s.ev x) s.h s.n
 | .mkraw nm xs=>C7y nm (G7 1 s xs) s.h s.n
 | .cvr x=>C6G (s.ev x) s.h s.n
 | .isnil neg x=>A4L (B2W neg (s.ev x)) s.h s.n
 | .len kind x=>A4L (B3a s.h kind (s.ev x)) s.h s.n
 | .lenc m=>F5 (.int .i64 m) s.h s.n
 | .mm mx xs=>A4L (mmV mx (xs.map s.ev)) s.h s.n
 | .app nm sz b x=>C3U 137438953472 nm sz (s.ev b) (A3P s.h (s.ev x)) s.h s.n
 | .apb L nm sz b x=>C3U L nm sz (s.ev b) (A3P s.h (s.ev x)) s.h s.n
 | .copy sz d x=>C2k sz (s.ev d) (A3P s.h (s.ev x)) s.h s.n
 | .mksl nm z x=>C2O nm z (s.ev x) s.h s.n
 | .slc sz x lo hi=>C7L sz (s.ev x) (lo.map s.ev) (hi.map s.ev) s.h s.n
 | .sls x lo hi=>C7O (s.ev x) (lo.map s.ev) (hi.map s.ev) s.h s.n
 | .mkfn f xs=>F5 (.fn f (xs.map s.ev)) s.h s.n
 | .mkmap nm=>F5 (.mp nm s.n) (A0.put s.h nm s.n (.map [])) (s.n+1)
 | .look kd z ok m x=>C2J kd z ok (s.ev m) (s.ev x) s.h s.n
 | .mput kd m x v=>C2P kd (s.ev m) (s.ev x) (s.ev v) s.h s.n
 | .mdel kd m x=>C2L kd (s.ev m) (s.ev x) s.h s.n
 | .sh l x y=>shE l (s.ev x) (s.ev y) s.h s.n
 | .idxA len sz m agg x i=>C2B len sz m agg (s.ev x) (s.ev i) s.h s.n
 | .clr z x=>C6B z (s.ev x) s.h s.n
 | .slz nm sz x=>C7Q nm sz (s.ev x) s.h s.n
 | .call f xs=>C f (xs.map s.ev) s.h s.n
 | .callv f xs=>C2d P C (s.ev f) (xs.map s.ev) s.h s.n
 | .pcall .. =>none
 | .eqn fn neg x=>C6N fn neg (s.ev x) s.h s.n
 | .bad=>none
def P5(P:Program)(C:Q7):Prop:= ∀f xs h n k,E4 (C f xs h n) k→A2 P f xs h n k
theorem C0D{P:Program}{C:Q7}(hC:P5 P C){s:St}{o:AO}{k:Res}(hg:E4 (exO P C s o) k):A7 P o s k:=by
 cases o<;>simp only [exO]at hg<;>simp only [A7]
 case mov=>exact hg.one
 case pick=>exact hg.opt
 case nilck=>exact hg.opt
 case box=>exact hg.box
 case build=>exact hg.opt
 case mkrow=>exact hg.row
 case mkisl=>exact hg.isl
 case load=>exact hg.opt
 case store=>exact hg.heap
 case faddr=>exact hg.opt
 case iaddr=>exact hg.iaddr
 case iaddrA=>exact hg.iaddrA
 case fld=>exact hg.opt
 case idx=>exact hg.idx
 case ext=>exact hg.opt
 case bin=>exact hg.bin
 case binw=>exact hg.opt
 case eqp=>exact hg.opt
 case eqa=>exact hg.opt
 case un=>exact hg.un
 case negw=>exact hg.opt
 case conv=>exact hg.opt
 case bst=>exact hg.opt
 case cap0=>exact hg.opt
 case grw=>exact hg.no.elim
 case rgm=>exact hg.no.elim
 case nxm=>exact hg.no.elim
 case ent=>exact hg.no.elim
 case byts=>exact hg.byts
 case mkraw=>exact hg.raw
 case cvr=>exact hg.cvr
 case isnil=>exact hg.opt
 case len=>exact hg.opt
 case lenc=>exact hg.one
 case mm=>exact hg.opt
 case app=>exact hg.app
 case apb=>exact hg.app
 case copy=>exact hg.copy
 case mksl=>exact hg.mksl
 case slc=>exact hg.slc
 case sls=>exact hg.sls
 case mkfn=>exact hg.one
 case mkmap=>exact hg.one
 case look=>exact hg.look
 case mput=>exact hg.mput
 case mdel=>exact hg.mdel
 case sh=>exact hg.sh
 case idxA=>exact hg.idxA
 case clr=>exact hg.clr
 case slz=>exact hg.slz
 case call=>exact hC _ _ _ _ _ hg
 case callv=>
  unfold C2d at hg
  split at hg
  ·rename_i g cs he
   rw [he]
   exact⟨hg.g.1,hC _ _ _ _ _ hg.g.2⟩
  ·exact hg.no.elim
 case pcall=>exact hg.no.elim
 case eqn=>exact hg.eqn
 case bad=>exact hg.no
def bEq:Bool→Bool→Bool
 |true,true|false,false=>true
 |_,_=>false
theorem C3Y{a b:Bool}(h:bEq a b=true):a=b:=by cases a<;>cases b<;>first|rfl|cases h
def C2l:Value→Value→Bool
 | .nilIface,.nilIface=>true
 | .nilFunc,.nilFunc=>true
 |_,_=>false
theorem C2m{a b:Value}(h:C2l a b=true):a=b:=by
 unfold C2l at h
 split at h
 ·rfl
 ·rfl
 ·cases h
mutual
def V.beq:V→V→Bool
 | .undef,.undef=>true
 | .bool a,.bool b=>bEq a b
 | .int k n,.int k' n'=>kEq k k'&&zeq n n'
 | .str a,.str b=>R0 a b
 | .agg a,.agg b=>V.beqL a b
 | .tup a,.tup b=>V.beqL a b
 | .nilp,.nilp=>true
 | .ptr b st i j,.ptr b' st' i' j'=>Nat.beq b b'&&(Nat.beq st st'&&(Nat.beq i i'&&Nat.beq j j'))
 | .nils,.nils=>true
 | .sl b st i j,.sl b' st' i' j'=>Nat.beq b b'&&(Nat.beq st st'&&(Nat.beq i i'&&Nat.beq j j'))
 | .isl a,.isl b=>V.beqLL a b
 | .iptr a i j,.iptr b i' j'=>V.beqLL a b&&(Nat.beq i i'&&Nat.beq j j')
 | .nilm,.nilm=>true
 | .mp b st,.mp b' st'=>Nat.beq b b'&&Nat.beq st st'
 | .fn f cs,.fn g ds=>Nat.beq f g&&V.beqL cs ds
 | .err,.err=>true
 | .cst v,.cst w=>C2l v w
 | .anyi k,.anyi k'=>kEq k k'
 |_,_=>false
def V.beqL:List V→List V→Bool
 | [],[]=>true
 |a::r,b::s=>V.beq a b&&V.beqL r s
 |_,_=>false
def V.beqLL:List (List V)→List (List V)→Bool
 | [],[]=>true
 |a::r,b::s=>V.beqL a b&&V.beqLL r s
 |_,_=>false
end
mutual
theorem V.beq_eq: ∀{a b:V},V.beq a b=true→a=b
 | .undef,b,h=>by cases b<;>first|rfl|simp [V.beq]at h
 | .bool a,b,h=>by
  cases b<;>simp only [V.beq,Bool.false_eq_true]at h
  rw [C3Y h]
 | .int k n,b,h=>by
  cases b<;>simp only [V.beq,Bool.false_eq_true,Bool.and_eq_true]at h
  rw [B5s.1 h.1,B2v.1 h.2]
 | .str a,b,h=>by
  cases b<;>simp only [V.beq,Bool.false_eq_true]at h
  rw [A3R.1 h]
 | .agg a,b,h=>by
  cases b<;>simp only [V.beq,Bool.false_eq_true]at h
  rw [V.beqL_eq h]
 | .tup a,b,h=>by
  cases b<;>simp only [V.beq,Bool.false_eq_true]at h
  rw [V.beqL_eq h]
 | .nilp,b,h=>by cases b<;>first|rfl|simp [V.beq]at h
 | .ptr b st i j,x,h=>by
  cases x<;>simp only [V.beq,Bool.false_eq_true,Bool.and_eq_true,B1i]at h
  obtain⟨rfl,rfl,rfl,rfl⟩:=h;rfl
 | .nils,b,h=>by cases b<;>first|rfl|simp [V.beq]at h
 | .sl b st i j,x,h=>by
  cases x<;>simp only [V.beq,Bool.false_eq_true,Bool.and_eq_true,B1i]at h
  obtain⟨rfl,rfl,rfl,rfl⟩:=h;rfl
 | .isl a,b,h=>by
  cases b<;>simp only [V.beq,Bool.false_eq_true]at h
  rw [V.beqLL_eq h]
 | .iptr a i j,b,h=>by
  cases b<;>simp only [V.beq,Bool.false_eq_true,Bool.and_eq_true,B1i]at h
  obtain⟨h1,rfl,rfl⟩:=h;rw [V.beqLL_eq h1]
 | .nilm,b,h=>by cases b<;>first|rfl|simp [V.beq]at h
 | .mp b st,x,h=>by
  cases x<;>simp only [V.beq,Bool.false_eq_true,Bool.and_eq_true,B1i]at h
  obtain⟨rfl,rfl⟩:=h;rfl
 | .fn f cs,x,h=>by
  cases x<;>simp only [V.beq,Bool.false_eq_true,Bool.and_eq_true,B1i]at h
  obtain⟨rfl,h1⟩:=h;rw [V.beqL_eq h1]
 | .cst v,b,h=>by
  cases b<;>simp only [V.beq,Bool.false_eq_true]at h
  rw [C2m h]
 | .err,b,h=>by cases b<;>first|rfl|simp [V.beq]at h
 | .anyi k,b,h=>by
  cases b<;>simp only [V.beq,Bool.false_eq_true]at h
  rw [B5s.1 h]
theorem V.beqL_eq: ∀{a b:List V},V.beqL a b=true→a=b
 | [],b,h=>by cases b<;>first|rfl|simp [V.beqL]at h
 |x::r,b,h=>by
  cases b<;>simp only [V.beqL,Bool.false_eq_true,Bool.and_eq_true]at h
  rw [V.beq_eq h.1,V.beqL_eq h.2]
theorem V.beqLL_eq: ∀{a b:List (List V)},V.beqLL a b=true→a=b
 | [],b,h=>by cases b<;>first|rfl|simp [V.beqLL]at h
 |x::r,b,h=>by
  cases b<;>simp only [V.beqLL,Bool.false_eq_true,Bool.and_eq_true]at h
  rw [V.beqL_eq h.1,V.beqLL_eq h.2]
end
def B9u:List (V×V)→List (V×V)→Bool
 | [],[]=>true
 |a::r,b::s=>V.beq a.1 b.1&&(V.beq a.2 b.2&&B9u r s)
 |_,_=>false
theorem B6j: ∀{a b:List (V×V)},B9u a b=true→a=b
 | [],[],_=>rfl
 | [],_::_,h=>by cases h
 |_::_,[],h=>by cases h
 |x::r,y::s,h=>by
  simp only [B9u,Bool.and_eq_true]at h
  rw [show x=y from Prod.ext (V.beq_eq h.1) (V.beq_eq h.2.1),B6j h.2.2]
def B8a:Blk→Blk→Bool
 | .rows sz rs,.rows sz' rs'=>Nat.beq sz sz'&&V.beqLL rs rs'
 | .map es,.map es'=>B9u es es'
 |_,_=>false
theorem C0k{a b:Blk}(h:B8a a b=true):a=b:=by
 cases a<;>cases b<;>simp only [B8a,Bool.false_eq_true,Bool.and_eq_true,B1i]at h
 ·rw [h.1,V.beqLL_eq h.2]
 ·rw [B6j h]
def C4a:A0→A0→Bool
 | [],[]=>true
 |a::r,b::s=>Nat.beq a.1 b.1&&(Nat.beq a.2.1 b.2.1&&(B8a a.2.2 b.2.2&&C4a r s))
 |_,_=>false
theorem B9t: ∀{a b:A0},C4a a b=true→a=b
 | [],[],_=>rfl
 | [],_::_,h=>by cases h
 |_::_,[],h=>by cases h
 |(x1,x2,x3)::r,(y1,y2,y3)::s,h=>by
  simp only [C4a,Bool.and_eq_true,B1i]at h
  obtain⟨rfl,rfl,h3,h4⟩:=h
  rw [C0k h3,B9t h4]
def B9v:List (Nat×V)→List (Nat×V)→Bool
 | [],[]=>true
 |a::r,b::s=>Nat.beq a.1 b.1&&(V.beq a.2 b.2&&B9v r s)
 |_,_=>false
theorem B6k: ∀{a b:List (Nat×V)},B9v a b=true→a=b
 | [],[],_=>rfl
 | [],_::_,h=>by cases h
 |_::_,[],h=>by cases h
 |(x1,x2)::r,(y1,y2)::s,h=>by
  simp only [B9v,Bool.and_eq_true,B1i]at h
  obtain⟨rfl,h2,h4⟩:=h
  rw [V.beq_eq h2,B6k h4]
def C1Z(a b:St):Bool:=B9v a.sl b.sl&&(C4a a.h b.h&&Nat.beq a.n b.n)
theorem C2a{a b:St}(h:C1Z a b=true):a=b:=by
 obtain⟨a1,a2,a3⟩:=a
 obtain⟨b1,b2,b3⟩:=b
 simp only [C1Z,Bool.and_eq_true,B1i]at h
 rw [B6k h.1,B9t h.2.1,h.2.2]
def C0F(d:Option Nat)(sl:List (Nat×V))(r:V×A0×Nat):St:=
 match d with
 |some i=>⟨E8 sl i r.1,r.2.1,r.2.2⟩
 |none=>⟨sl,r.2.1,r.2.2⟩
def exA(P:Program)(C:Q7)(i:AI)(s:St):Option St:=
 match i.g with
 |none=>(exO P C s i.o).map (C0F i.d s.sl)
 |some (j,want)=>match C3 s.sl j with
  | .bool b=>bif bEq b want then(exO P C ⟨E8 s.sl j (.bool want),s.h,s.n⟩ i.o).map (C0F i.d (E8 s.sl j (.bool want)))else some (C0F i.d (E8 s.sl j (.bool !want)) (.cst Go.undef,s.h,s.n))
  | .cst u=>bif B0h u then some (C0F i.d s.sl (.cst Go.undef,s.h,s.n))else none
  |_=>none
def exV(P:Program)(C:Q7):List AI→St→Option St
 | [],s=>some s
 |i::r,s=>match exA P C i s with
  |some s'=>exV P C r s'
  |none=>none
def B7E(P:Program)(C:Q7)(s s':St):List (List AI)→Bool
 | []=>true
 |l::r=>match exV P C l s with
  |some s2=>C1Z s2 s'&&B7E P C s s' r
  |none=>false
def C6P(P:Program)(C:Q7)(s:St):List (List AI)→Option St
 | []=>none
 |l::r=>match exV P C l s with
  |some s'=>bif B7E P C s s' r then some s' else none
  |none=>none
section
variable {P:Program} {C:Q7} {k:Res}
theorem A8g{K':St→Prop}{d:Option Nat}{sl:List (Nat×V)}{x:V×A0×Nat}(hg:K' (C0F d sl x)):fin d sl K' x.1 x.2.1 x.2.2:=by
 cases d<;>exact hg
theorem C0C(hC:P5 P C){i:AI}{s s':St}{K':St→Prop}(hg:exA P C i s=some s')(hK:K' s'):D5 P i s K':=by
 have some_: ∀{t:St} {sl:List (Nat×V)},(exO P C t i.o).map (C0F i.d sl)=some s'→A7 P i.o t (fin i.d sl K'):=by
  intro t sl h
  obtain⟨x,h1,h2⟩:=Option.map_eq_some_iff.1 h
  exact C0D hC ⟨x,h1,A8g (by rw [h2];exact hK)⟩
 unfold exA at hg
 unfold D5
 split at hg
 ·rename_i e
  rw [e]
  exact some_ hg
 ·rename_i j want e
  rw [e]
  simp only
  split at hg
  ·rename_i b hb
   rw [hb]
   cases b<;>cases want<;>simp only [bEq,cond_true,cond_false]at hg<;>refine⟨fun e=> ?_,fun e=> ?_⟩
   any_goals (cases e;done)
   ·exact some_ hg
   ·injection hg with hg;exact A8g (x:=(.cst Go.undef,s.h,s.n)) (by rw [hg];exact hK)
   ·injection hg with hg;exact A8g (x:=(.cst Go.undef,s.h,s.n)) (by rw [hg];exact hK)
   ·exact some_ hg
  ·rename_i u hu
   rw [hu]
   cases hb:B0h u with
   |false=>rw [hb]at hg;cases hg
   |true=>
    rw [hb]at hg
    injection hg with hg
    exact⟨hb,A8g (x:=(.cst Go.undef,s.h,s.n)) (by rw [hg];exact hK)⟩
  ·cases hg
theorem B0W(hC:P5 P C){K':St→Prop}{s':St}(hK:K' s'): ∀{l:List AI} {s:St},exV P C l s=some s'→vo P l K' s
 | [],_,hg=>by injection hg with hg;subst hg;exact hK
 |i::r,s,hg=>by
  simp only [exV]at hg
  split at hg
  ·rename_i t ht;exact C0C (K':=vo P r K') hC ht (B0W hC hK hg)
  ·cases hg
theorem B1T(hC:P5 P C){K':St→Prop}{s s':St}(hK:K' s'): ∀{l:List (List AI)},B7E P C s s' l=true→B1Y P l K' s
 | [],_=>trivial
 | l::r,hg=>by
  simp only [B7E]at hg
  split at hg
  ·rename_i t ht
   simp only [Bool.and_eq_true]at hg
   rw [C2a hg.1]at ht
   exact⟨B0W hC hK ht,B1T hC hK hg.2⟩
  ·cases hg
theorem B8s(hC:P5 P C){K':St→Prop}{s s':St}(hK:K' s'): ∀{l:List (List AI)},C6P P C s l=some s'→B1Y P l K' s
 | [],h=>by cases h
 | l::r,hg=>by
  simp only [C6P]at hg
  split at hg
  ·rename_i t ht
   cases hb:B7E P C s t r with
   |false=>rw [hb]at hg;cases hg
   |true=>
    rw [hb,cond_true]at hg
    injection hg with hg
    subst hg
    exact⟨B0W hC hK ht,B1T hC hK hb⟩
  ·cases hg
def nmB:Nat:=1000000000000
def low(f b st:Nat):Bool:=Nat.blt b nmB&&Nat.ble f st
section
variable (f:Nat)
mutual
def B5I:V→V
 | .sl b st i n=>bif low f b st then .sl (nmB+st) st i n else .sl b st i n
 | .ptr b st i n=>bif low f b st then .ptr (nmB+st) st i n else .ptr b st i n
 | .mp b st=>bif low f b st then .mp (nmB+st) st else .mp b st
 | .agg l=> .agg (renL l)
 | .tup l=> .tup (renL l)
 |v=>v
def renL:List V→List V
 | []=> []
 |a::r=>B5I a::renL r
end
mutual
def C2N:V→Bool
 | .sl _ st _ _=>Nat.ble f st
 | .ptr _ st _ _=>Nat.ble f st
 | .mp _ st=>Nat.ble f st
 | .agg l=>menL l
 | .tup l=>menL l
 | .fn _ _=>true
 |_=>false
def menL:List V→Bool
 | []=>false
 |a::r=>C2N a||menL r
end
end
mutual
theorem B1m(f:Nat): ∀v:V,F4 v (B5I f v)
 | .sl b st i n=>by rw [B5I];cases low f b st<;>exact .sl
 | .ptr b st i n=>by rw [B5I];cases low f b st<;>exact .ptr
 | .mp b st=>by rw [B5I];cases low f b st<;>exact .mp
 | .agg l=>by rw [B5I];exact .agg (renL_same f l)
 | .tup l=>by rw [B5I];exact .tup (renL_same f l)
 | .undef=> .refl _
 | .bool _=> .refl _
 | .int _ _=> .refl _
 | .str _=> .refl _
 | .nilp=> .refl _
 | .nils=> .refl _
 | .isl _=> .refl _
 | .iptr _ _ _=> .refl _
 | .nilm=> .refl _
 | .fn _ _=> .refl _
 | .yld _ _=> .refl _
 | .cst _=> .refl _
 | .err=> .refl _
 | .anyi _=> .refl _
theorem renL_same(f:Nat): ∀l:List V,A3Q l (renL f l)
 | []=>by rw [renL];trivial
 |a::r=>by rw [renL];exact⟨B1m f a,renL_same f r⟩
end
def D0V(f:Nat):Blk→Blk
 | .rows sz rs=> .rows sz (rs.map (renL f))
 | .map es=> .map es
 |b=>b
theorem C1e(f:Nat)(b:Blk):Q9 b (D0V f b):=by
 cases b with
 |map es=>exact .refl _
 |loop=>exact .refl _
 |mapb=>exact .refl _
 |iter=>exact .refl _
 |raw=>exact .refl _
 |rows sz rs=>
  refine .rows (by simp) fun i r2 h=> ?_
  rw [List.getElem?_map]at h
  obtain⟨r,h1,h2⟩:=Option.map_eq_some_iff.1 h
  exact⟨r,h1,h2 ▸ renL_same f r⟩
def D0P(f:Nat):Blk→Bool
 | .rows _ rs=>rs.any (menL f)
 | .map es=>es.any fun p=>C2N f p.1||C2N f p.2
 | .loop .. =>true
 | .mapb .. =>true
 | .iter .. =>true
 | .raw .. =>true
def C1f(f:Nat):A0→Nat→Nat
 | [],b=>b
 |e::r,b=>bif Nat.beq e.1 b then(bif low f e.1 e.2.1 then nmB+e.2.1 else b)else C1f f r b
def D0H:Option Nat→Nat→Bool
 |some m,st=>Nat.ble m st
 |none,_=>false
def B8T(f:Nat)(d:Option Nat)(h0:A0):A0→A0
 | []=> []
 |e::r=>bif D0H d e.2.1 then B8T f d h0 r else(C1f f h0 e.1,e.2.1,D0V f e.2.2)::B8T f d h0 r
theorem A8l(f:Nat)(d:Option Nat)(h0:A0): ∀h:A0,(∀e∈h,e∈h0)→A0m (C1f f h0) h0 (B8T f d h0 h)
 | [],_=>trivial
 |e::r,hm=>by
  simp only [B8T]
  have:=A8l f d h0 r fun x hx=>hm x (List.mem_cons_of_mem _ hx)
  cases D0H d e.2.1
  ·exact⟨⟨e,hm e List.mem_cons_self,rfl,rfl,C1e f _⟩,this⟩
  ·exact this
def C3d(f:Nat)(s0:List (Nat×V)):List (Nat×V)→List (Nat×V)
 | []=> []
 |p::r=>(p.1,B5I f (C3 s0 p.1))::C3d f s0 r
theorem B3v(f:Nat)(s0:List (Nat×V)): ∀s:List (Nat×V),A9M s0 (C3d f s0 s)
 | []=>trivial
 |p::r=>⟨B1m f _,B3v f s0 r⟩
def D0W(f:Nat)(s:St):St:=⟨C3d f s.sl s.sl,B8T f none s.h s.h,s.n⟩
theorem C4G(f:Nat)(s:St):Wk s (D0W f s):= .turn (C1f f s.h) (B3v _ _ _) (A8l _ _ _ _ fun _ h=>h)
def B5p(h:A0)(b:Nat):Bool:=h.any fun e=>Nat.beq e.1 b
def D0R(h:A0):AO→Bool
 | .box nm _ _=>B5p h nm
 | .mkrow nm _ _=>B5p h nm
 | .mksl nm _ _=>B5p h nm
 | .mkmap nm=>B5p h nm
 | .slz nm _ _=>B5p h nm
 | .byts nm _=>B5p h nm
 | .mkraw nm _=>B5p h nm
 | .app nm _ _ _=>B5p h nm
 | .apb _ nm _ _ _=>B5p h nm
 |_=>false
def C5J(h:A0):List (List AI)→Bool
 | []=>false
 |l::_=>l.any fun i=>D0R h i.o
def C8p(f:Nat)(l:List (List AI))(s:St):St:=bif C5J s.h l then D0W f s else s
theorem C5e(f:Nat)(l:List (List AI))(s:St):Wk s (C8p f l s):=by
 unfold C8p
 cases C5J s.h l
 ·exact .refl _
 ·exact C4G f s
def C0y(f:Nat)(x:V×A0×Nat):V×A0×Nat:=
 bif x.2.1.any (fun e=>Nat.ble f e.2.1)then
  (bif C2N f x.1||x.2.1.any (fun e=>Nat.blt e.2.1 f&&D0P f e.2.2)then(B5I f x.1,B8T f none x.2.1 x.2.1,x.2.2)else(x.1,B8T f (some f) x.2.1 x.2.1,x.2.2))
 else x
theorem C4g(f:Nat)(x:V×A0×Nat):Wk ⟨[(0,x.1)],x.2.1,x.2.2⟩ ⟨[(0,(C0y f x).1)],(C0y f x).2.1,(C0y f x).2.2⟩:=by
 unfold C0y
 cases x.2.1.any (fun e=>Nat.ble f e.2.1)
 ·exact .refl _
 ·simp only [cond_true]
  cases C2N f x.1||x.2.1.any (fun e=>Nat.blt e.2.1 f&&D0P f e.2.2)
  ·exact .turn (C1f f x.2.1) ⟨.refl _,trivial⟩ (A8l _ _ _ _ fun _ h=>h)
  ·exact .turn (C1f f x.2.1) ⟨B1m f _,trivial⟩ (A8l _ _ _ _ fun _ h=>h)
theorem C0z{P:Program}{g:FuncId}{xs:List V}{h:A0}{n:Nat}{k:Res}{o:P6}(ho: ∀k,E4 o k→A2 P g xs h n k)(hg:E4 (o.map (C0y n)) k):A2 P g xs h n k:=by
 obtain⟨y,h1,h2⟩:=hg
 obtain⟨x,h3,rfl⟩:=Option.map_eq_some_iff.1 h1
 refine(ho (fun r h' n'=>(r,h',n')=x) ⟨x,h3,rfl⟩).wk ?_
 rintro r h' n' rfl
 exact⟨_,_,_,C4g n (r,h',n'),h2⟩
def C4H(rs:List RV)(s:St):P6:=
 match A6F s rs with
 |some vs=>F5 (B0i vs) s.h s.n
 |none=>none
def exG(P:Program)(C:Q7)(rs:List RV)(f:Nat):Nat→List AItem→St→P6
 |0,_,_=>none
 |_+1,[],s=>C4H rs s
 |m+1,.code .skip::k,s=>exG P C rs f m k s
 |m+1,.code (.ops l)::k,s=>match C6P P C (C8p f l s) l with
  |some s'=>exG P C rs f m k s'
  |none=>none
 |_+1,.code .bad::_,_=>none
 |m+1,.code (.seq a b)::k,s=>exG P C rs f m (.code a:: .code b::k) s
 |m+1,.code (.cond x a b)::k,s=>match s.ev x with
  | .bool true=>exG P C rs f m (.code a::k) s
  | .bool false=>exG P C rs f m (.code b::k) s
  |_=>none
 |m+1,.code (.block id a)::k,s=>exG P C rs f m (.code a:: .blk id::k) s
 |m+1,.code (.loop a)::k,s=>exG P C rs f m (.code a:: .lp a::k) s
 |m+1,.code (.exit id)::k,s=>match Nat.beq 999999999 id,W4 id k with
  |false,some k'=>exG P C rs f m k' s
  |_,_=>none
 |_+1,.code .ret::_,s=>C4H rs s
 |m+1,.blk _::k,s=>exG P C rs f m k s
 |m+1,.lp a::k,s=>exG P C rs f m (.code a:: .lp a::k) s
 |m+1,.code (.dfr d)::k,s=>exG P C rs f m k ⟨E8 s.sl d .undef,s.h,s.n⟩
 |_+1,.code (.rng ..)::_,_=>none
 |_+1,.beg::_,_=>none
theorem B4P{N:Nat}{rs:List RV}{s:St}(hg:E4 (C4H rs s) k):C1h ⟨P,N,rs,k,none⟩ s:=by
 unfold C4H at hg
 unfold C1h
 split at hg
 ·rename_i vs hvs
  simp only
  rw [hvs]
  exact hg.one
 ·exact hg.no.elim
theorem K8(hC:P5 P C){N:Nat}{rs:List RV}{f:Nat}: ∀{m:Nat} {l:List AItem} {s:St},E4 (exG P C rs f m l s) k→Run ⟨P,N,rs,k,none⟩ l s
 |0,_,_,hg=>hg.no.elim
 |m+1,[],s,hg=>Run.go 1 (B4P hg)
 |m+1,.code .skip::l,s,hg=>Run.go 1 (K8 hC (m:=m) hg)
 |m+1,.code (.ops is)::l,s,hg=>by
  simp only [exG]at hg
  split at hg
  ·rename_i t ht;exact Run.wk (C5e f is s) (Run.go 1 (B8s hC (K8 hC (m:=m) hg) ht))
  ·exact hg.no.elim
 |m+1,.code .bad::_,_,hg=>hg.no.elim
 |m+1,.code (.seq a b)::l,s,hg=>Run.go 1 (K8 hC (m:=m) hg)
 |m+1,.code (.cond x a b)::l,s,hg=>by
  simp only [exG]at hg
  split at hg
  ·rename_i hv;exact fun fn bs hrs=>OK.cond hv (fun _=>K8 hC (m:=m) hg fn bs hrs) (fun e=>by cases e)
  ·rename_i hv;exact fun fn bs hrs=>OK.cond hv (fun e=>by cases e) (fun _=>K8 hC (m:=m) hg fn bs hrs)
  ·exact hg.no.elim
 |m+1,.code (.block id a)::l,s,hg=>Run.go 1 (K8 hC (m:=m) hg)
 |m+1,.code (.loop a)::l,s,hg=>Run.loop (K8 hC (m:=m) hg)
 |m+1,.code (.exit id)::l,s,hg=>by
  simp only [exG]at hg
  split at hg
  ·rename_i k' hsc hk;exact fun fn bs hrs=>OK.exit hsc hk (K8 hC (m:=m) hg fn bs hrs)
  ·exact hg.no.elim
 |m+1,.code .ret::_,s,hg=>Run.go 1 (B4P hg)
 |m+1,.blk _::l,s,hg=>Run.go 1 (K8 hC (m:=m) hg)
 |m+1,.lp a::l,s,hg=>Run.lp (K8 hC (m:=m) hg)
 |m+1,.code (.dfr d)::l,s,hg=>Run.go 1 (K8 hC (m:=m) hg)
 |m+1,.code (.rng ..)::_,_,hg=>hg.no.elim
 |m+1,.beg::_,_,hg=>hg.no.elim
end
def exC(P:Program)(T:List (FuncId×Nat×AC×List RV))(lib:Q7)(m:Nat):Nat→Q7
 |0,_,_,_,_=>none
 | d+1,f,xs,h,n=>match lib f xs h n with
  |some l=>some l
  |none=>match look T f with
   |some e=>(gE (Nat.ble xs.length e.1) (exG P (exC P T lib m d) e.2.2 n m [.code e.2.1] ⟨A4 0 xs,h,n⟩)).map (C0y n)
   |none=>none
where
 look:List (FuncId×Nat×AC×List RV)→FuncId→Option (Nat×AC×List RV)
  | [],_=>none
  |e::r,f=>bif Nat.beq e.1 f then some e.2 else look r f
def A8(P:Program)(T:List (FuncId×Nat×AC×List RV)):Prop:= ∀e∈T,B3 P e.1=some e.2
theorem A8.nil{P:Program}:A8 P []:=fun e h=>by cases h
theorem A8.cons{P:Program}{T:List (FuncId×Nat×AC×List RV)}{f N:Nat}{ac:AC}{rs:List RV}(h:B3 P f=some (N,ac,rs))(hr:A8 P T):A8 P ((f,N,ac,rs)::T):=fun e he=>by
 rcases List.mem_cons.1 he with rfl|he
 ·exact h
 ·exact hr e he
theorem A8.look{P:Program}: ∀{T:List (FuncId×Nat×AC×List RV)},A8 P T→ ∀{f:FuncId} {c},exC.look T f=some c→B3 P f=some c
 | [],_,f,c,h=>by cases h
 | e::r,hT,f,c,h=>by
  simp only [exC.look]at h
  cases hb:Nat.beq e.1 f with
  |true=>
   rw [hb]at h;injection h with h
   rw [←Nat.eq_of_beq_eq_true hb,←h];exact hT e List.mem_cons_self
  |false=>rw [hb]at h;exact A8.look (fun e he=>hT e (List.mem_cons_of_mem _ he)) h
def B9S:Q7:=fun _ _ _ _=>none
theorem B3l{P:Program}:P5 P B9S:=fun _ _ _ _ _ hg=>hg.no.elim
theorem B4o{P:Program}{T:List (FuncId×Nat×AC×List RV)}{lib:Q7}(hT:A8 P T)(hl:P5 P lib){m:Nat}: ∀{d:Nat},P5 P (exC P T lib m d)
 |0,_,_,_,_,_,hg=>hg.no.elim
 | d+1,f,xs,h,n,k,hg=>by
  simp only [exC]at hg
  split at hg
  ·rename_i l he;exact hl f xs h n k (by rw [he];exact hg)
  ·split at hg
   ·rename_i e he
    refine C0z (fun k hg=> ?_) hg
    obtain⟨h1,hg⟩:=hg.g
    exact A2.enter (N:=e.1) (ac:=e.2.1) (rs:=e.2.2) (hT.look he) (Nat.le_of_ble_eq_true h1) (K8 (B4o hT hl) hg)
   ·exact hg.no.elim
def exR(P:Program)(T:List (FuncId×Nat×AC×List RV))(lib:Q7)(m d:Nat)(fr:Nat)(f:FuncId)(xs:List V):Option V:=
 (exC P T lib m d f xs [] 0).map fun x=>frz fr x.2.1 x.1
theorem Pure.exec{P:Program}{T:List (FuncId×Nat×AC×List RV)}{lib:Q7}(hT:A8 P T)(hl:P5 P lib){m d fr:Nat}{f:FuncId}{xs:List V}{r:V}(h:exR P T lib m d fr f xs=some r):Pure P f xs r:=by
 refine Pure.of fr (B4o (d:=d) (m:=m) hT hl f xs [] 0 _ ?_)
 obtain⟨x,h1,h2⟩:=Option.map_eq_some_iff.1 h
 exact⟨x,h1,h2⟩
def eqR(o:Option V)(r:V):Bool:=
 match o with
 |some v=>V.beq v r
 |none=>false
theorem Pure.execB{P:Program}{T:List (FuncId×Nat×AC×List RV)}{lib:Q7}(hT:A8 P T)(hl:P5 P lib){m d fr:Nat}{f:FuncId}{xs:List V}{r:V}(h:eqR (exR P T lib m d fr f xs) r=true):Pure P f xs r:=by
 unfold eqR at h
 split at h
 ·rename_i v hv;exact Pure.exec hT hl (by rw [hv,V.beq_eq h])
 ·cases h
end Go.Abs
