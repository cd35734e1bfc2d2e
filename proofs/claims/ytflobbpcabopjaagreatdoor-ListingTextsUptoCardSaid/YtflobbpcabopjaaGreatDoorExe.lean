/-
 Abstract code run as a program on known data: what it answers is a contract. No condition.
-/
import Derived.Test.YtflobbpcabopjaaGreatDoorWk
set_option linter.unusedVariables false
set_option linter.unusedSimpArgs false
namespace Go.Abs
variable {PK:O7}
abbrev O6:=Option (V×A2×Nat)
def F3(v:V)(h:A2)(n:Nat):O6:=some (v,h,n)
def A4n(o:Option V)(h:A2)(n:Nat):O6:=
 match o with
 |some v=>F3 v h n
 |none=>none
def gE(b:Bool)(r:O6):O6:=bif b then r else none
def D9(o:O6)(k:Res):Prop:= ∃x,o=some x∧k x.1 x.2.1 x.2.2
theorem D9.one{v:V}{h:A2}{n:Nat}{k:Res}(hg:D9 (F3 v h n) k):k v h n:=by
 obtain⟨l,h1,h2⟩:=hg
 injection h1 with h1
 subst h1
 exact h2
theorem D9.opt{o:Option V}{h:A2}{n:Nat}{k:Res}(hg:D9 (A4n o h n) k):H5 o k h n:=by
 cases o with
 |none=>obtain⟨l,h1,_⟩:=hg;cases h1
 |some v=>exact D9.one hg
theorem D9.g{b:Bool}{o:O6}{k:Res}(hg:D9 (gE b o) k):b=true∧D9 o k:=by
 cases b with
 |false=>obtain⟨l,h1,_⟩:=hg;cases h1
 |true=>exact⟨rfl,hg⟩
theorem D9.no{k:Res}(hg:D9 none k):False:=by obtain⟨l,h1,_⟩:=hg;cases h1
def B3E(es:List (List V))(sz:Nat):Bool:=es.all fun r=>Nat.beq r.length sz
theorem A2L{es:List (List V)}{sz:Nat}(h:B3E es sz=true):C1 es sz:=fun r hr=>Nat.eq_of_beq_eq_true (List.all_eq_true.1 h r hr)
def zle(a b:Int):Bool:=match b-a with
 | .ofNat _=>true
 | .negSucc _=>false
theorem R9{a b:Int}:zle a b=true↔a≤b:=by
 unfold zle
 split
 ·rename_i m h
  have h:b-a=(m:Int):=h
  simp only [true_iff];omega
 ·rename_i m h
  simp only [Bool.false_eq_true,false_iff];omega
def zlt(a b:Int):Bool:=zle (a+1) b
theorem B0h{a b:Int}:zlt a b=true↔a<b:=by unfold zlt;rw [R9];omega
def zeq(a b:Int):Bool:=match a,b with
 | .ofNat a,.ofNat b=>Nat.beq a b
 | .negSucc a,.negSucc b=>Nat.beq a b
 |_,_=>false
theorem B2O{a b:Int}:zeq a b=true↔a=b:=by
 unfold zeq
 cases a<;>cases b<;>simp<;>omega
theorem C2s(a b:Int):decide (a≤b)=zle a b:=by rw [Bool.eq_iff_iff,decide_eq_true_eq,R9]
theorem C2t(a b:Int):decide (a<b)=zlt a b:=by rw [Bool.eq_iff_iff,decide_eq_true_eq,B0h]
theorem C2r(a b:Int):decide (a=b)=zeq a b:=by rw [Bool.eq_iff_iff,decide_eq_true_eq,B2O]
def kEq:IntKind→IntKind→Bool
 | .i8,.i8| .i16,.i16| .i32,.i32| .i64,.i64| .u8,.u8| .u16,.u16| .u32,.u32| .u64,.u64=>true
 |_,_=>false
theorem B4G{a b:IntKind}:kEq a b=true↔a=b:=by cases a<;>cases b<;>simp [kEq]
def C9T(k:IntKind)(z:Int):Bool:=
 match k with
 | .i64=>zle (-9223372036854775808) z&&zle z 9223372036854775807
 |_=>true
theorem C5d{k:IntKind}{z:Int}(h:C9T k z=true):inR k z:=by
 cases k<;>simp only [C9T,inR,Bool.and_eq_true,R9]at h⊢
 exact h
def B2Q(k:IntKind)(z:Int)(h:A2)(n:Nat):O6:=gE (C9T k z) (F3 (B7t k z) h n)
theorem D9.arith{j:IntKind}{z:Int}{h:A2}{n:Nat}{k:Res}(hg:D9 (B2Q j z h n) k):S1 j z k h n:=⟨C5d hg.g.1,hg.g.2.one⟩
theorem B2a{a b:Nat}:Nat.beq a b=true↔a=b:=⟨Nat.eq_of_beq_eq_true,fun h=>h ▸ Nat.beq_refl a⟩
def Q6:List UInt8→List UInt8→Bool
 | [],[]=>true
 |a::r,b::s=>Nat.beq a.toNat b.toNat&&Q6 r s
 |_,_=>false
theorem A3P: ∀{a b:List UInt8},Q6 a b=true↔a=b
 | [],[]=>by simp [Q6]
 | [],_::_=>by simp [Q6]
 |_::_,[]=>by simp [Q6]
 |a::r,b::s=>by
  simp only [Q6,Bool.and_eq_true,A3P,List.cons.injEq,B2a]
  rw [←UInt8.toNat_inj]
theorem A9S(a b:List UInt8):decide (a=b)=Q6 a b:=by rw [Bool.eq_iff_iff,decide_eq_true_eq,A3P]
def C9l(op:BinOp)(x y:V)(h:A2)(n:Nat):O6:=
 match x,y with
 | .int j a,.int j' b=>gE (kEq j j') (match op with
  | .add=>B2Q j (a+b) h n
  | .sub=>B2Q j (a-b) h n
  | .mul=>B2Q j (a*b) h n
  | .quo=>gE (!zeq b 0) (B2Q j (a.tdiv b) h n)
  | .rem=>gE (!zeq b 0) (F3 (.int j (a.tmod b)) h n)
  | .eql=>F3 (.bool (zeq a b)) h n
  | .neq=>F3 (.bool (!zeq a b)) h n
  | .lss=>F3 (.bool (zlt a b)) h n
  | .leq=>F3 (.bool (zle a b)) h n
  | .gtr=>F3 (.bool (zlt b a)) h n
  | .geq=>F3 (.bool (zle b a)) h n
  | .and=>F3 (.int j (A1s .and j a b)) h n
  | .or=>F3 (.int j (A1s .or j a b)) h n
  | .xor=>F3 (.int j (A1s .xor j a b)) h n
  | .andNot=>F3 (.int j (A1s .andNot j a b)) h n
  |_=>none)
 | .str a,.str b=>match op with
  | .add=>gE (Nat.ble (a.length+b.length) 1099511627776) (F3 (.str (a++b)) h n)
  | .eql=>F3 (.bool (Q6 a b)) h n
  | .neq=>F3 (.bool (!Q6 a b)) h n
  | .lss=>F3 (.bool (M2 a b)) h n
  | .geq=>F3 (.bool (!M2 a b)) h n
  | .leq=>F3 (.bool (M2 a b||Q6 a b)) h n
  | .gtr=>F3 (.bool !(M2 a b||Q6 a b)) h n
  |_=>none
 |_,_=>none
theorem C2b{a b:Int}(h:(!zeq a b)=true):a≠b:=fun e=>by
 rw [B2O.2 e]at h;cases h
theorem D9.bin{op:BinOp}{x y:V}{h:A2}{n:Nat}{k:Res}(hg:D9 (C9l op x y h n) k):S2 op x y k h n:=by
 unfold C9l at hg
 split at hg
 ·rename_i j a j' b
  obtain⟨h1,hg⟩:=hg.g
  have h1:=B4G.1 h1
  unfold S2
  refine⟨h1,?_⟩
  cases op<;>simp only at hg⊢
  case add=>exact hg.arith
  case sub=>exact hg.arith
  case mul=>exact hg.arith
  case quo=>exact⟨C2b hg.g.1,hg.g.2.arith⟩
  case rem=>exact⟨C2b hg.g.1,hg.g.2.one⟩
  case eql=>rw [C2r];exact hg.one
  case neq=>rw [decide_not,C2r];exact hg.one
  case lss=>rw [C2t];exact hg.one
  case leq=>rw [C2s];exact hg.one
  case gtr=>rw [C2t];exact hg.one
  case geq=>rw [C2s];exact hg.one
  case and=>exact hg.one
  case or=>exact hg.one
  case xor=>exact hg.one
  case andNot=>exact hg.one
  all_goals exact hg.no
 ·rename_i a b
  unfold S2
  cases op<;>simp only at hg⊢
  case add=>exact⟨Nat.le_of_ble_eq_true hg.g.1,hg.g.2.one⟩
  case eql=>rw [A9S];exact hg.one
  case neq=>rw [decide_not,A9S];exact hg.one
  case lss=>exact hg.one
  case geq=>exact hg.one
  case leq=>rw [A9S];exact hg.one
  case gtr=>rw [A9S];exact hg.one
  all_goals exact hg.no
 ·exact hg.no.elim
def unE(op:UnOp)(x:V)(h:A2)(n:Nat):O6:=
 match op,x with
 | .neg,.int j a=>B2Q j (0-a) h n
 | .not,.bool b=>F3 (.bool !b) h n
 | .xor,.int j a=>F3 (.int j (A1s .xor j (bif j.signed then -1 else j.max) a)) h n
 |_,_=>none
theorem D9.un{op:UnOp}{x:V}{h:A2}{n:Nat}{k:Res}(hg:D9 (unE op x h n) k):unK op x k h n:=by
 unfold unE at hg
 split at hg
 ·exact hg.arith
 ·exact hg.one
 ·exact hg.one
 ·exact hg.no.elim
def C0C(sz:Nat)(x i:V)(h:A2)(n:Nat):O6:=
 match i with
 | .int _ z=>match x with
  | .sl b st i0 m=>gE (zle 0 z&&zlt z m&&(match B1y (A2.get h b st)with|some s=>Nat.beq s sz|none=>false)) (F3 (.ptr b st (i0+z.toNat) 0) h n)
  | .isl es=>gE (zle 0 z&&zlt z es.length&&B3E es sz) (F3 (.iptr es z.toNat 0) h n)
  |_=>none
 |_=>none
theorem D9.iaddr{sz:Nat}{x i:V}{h:A2}{n:Nat}{k:Res}(hg:D9 (C0C sz x i h n) k):A2n sz x i k h n:=by
 unfold C0C at hg
 split at hg
 ·split at hg
  ·obtain⟨h1,hg⟩:=hg.g
   simp only [Bool.and_eq_true,R9,B0h]at h1
   obtain⟨⟨a,b⟩,c⟩:=h1
   refine⟨a,b,?_,hg.one⟩
   split at c
   ·rename_i s hs;rw [hs,Nat.eq_of_beq_eq_true c]
   ·cases c
  ·obtain⟨h1,hg⟩:=hg.g
   simp only [Bool.and_eq_true,R9,B0h]at h1
   exact⟨h1.1.1,h1.1.2,A2L h1.2,hg.one⟩
  ·exact hg.no.elim
 ·exact hg.no.elim
def B7O(len sz:Nat)(x i:V)(h:A2)(n:Nat):O6:=
 match i with
 | .int _ z=>match x with
  | .ptr b st i0 j=>gE (zle 0 z&&zlt z len) (F3 (.ptr b st i0 (j+z.toNat*sz)) h n)
  | .iptr es i0 j=>gE (zle 0 z&&zlt z len) (F3 (.iptr es i0 (j+z.toNat*sz)) h n)
  |_=>none
 |_=>none
theorem D9.iaddrA{len sz:Nat}{x i:V}{h:A2}{n:Nat}{k:Res}(hg:D9 (B7O len sz x i h n) k):A0U len sz x i k h n:=by
 unfold B7O at hg
 split at hg
 ·split at hg
  ·obtain⟨h1,hg⟩:=hg.g
   simp only [Bool.and_eq_true,R9,B0h]at h1
   exact⟨h1.1,h1.2,hg.one⟩
  ·obtain⟨h1,hg⟩:=hg.g
   simp only [Bool.and_eq_true,R9,B0h]at h1
   exact⟨h1.1,h1.2,hg.one⟩
  ·exact hg.no.elim
 ·exact hg.no.elim
def C9R(x i:V)(h:A2)(n:Nat):O6:=
 match x,i with
 | .str s,.int _ z=>gE (zle 0 z) (A4n ((s[z.toNat]?).map fun b=> .int .u8 b.toNat) h n)
 |_,_=>none
theorem D9.idx{x i:V}{h:A2}{n:Nat}{k:Res}(hg:D9 (C9R x i h n) k):B7P x i k h n:=by
 unfold C9R at hg
 split at hg
 ·exact⟨R9.1 hg.g.1,hg.g.2.opt⟩
 ·exact hg.no.elim
def shE(left:Bool)(x y:V)(h:A2)(n:Nat):O6:=
 match x,y with
 | .int j a,.int _ b=>gE (zle 0 b) (F3 (.int j (shZ left j a b)) h n)
 |_,_=>none
theorem D9.sh{l:Bool}{x y:V}{h:A2}{n:Nat}{k:Res}(hg:D9 (shE l x y h n) k):shK l x y k h n:=by
 unfold shE at hg
 split at hg
 ·exact⟨R9.1 hg.g.1,hg.g.2.one⟩
 ·exact hg.no.elim
def C5c(len sz m:Nat)(agg:Bool)(x i:V)(h:A2)(n:Nat):O6:=
 match x,i with
 | .agg cs,.int _ z=>gE (zle 0 z&&zlt z len) (A4n (G5 cs (z.toNat*sz) m agg) h n)
 |_,_=>none
theorem D9.idxA{len sz m:Nat}{agg:Bool}{x i:V}{h:A2}{n:Nat}{k:Res}(hg:D9 (C5c len sz m agg x i h n) k):A8F len sz m agg x i k h n:=by
 unfold C5c at hg
 split at hg
 ·obtain⟨h1,hg⟩:=hg.g
  simp only [Bool.and_eq_true,R9,B0h]at h1
  exact⟨h1.1,h1.2,hg.opt⟩
 ·exact hg.no.elim
def C9y(z:List V)(x:V)(h:A2)(n:Nat):O6:=
 match x with
 | .nils=>F3 (.tup []) h n
 | .sl b st i m=>match A2.get h b st with
  |some (.rows sz rs)=>gE (Nat.beq sz z.length&&Nat.ble (i+m) rs.length) (F3 (.tup []) (A2.put h b st (.rows sz (rs.take i++List.replicate m z++rs.drop (i+m)))) n)
  |_=>none
 |_=>none
theorem D9.clr{z:List V}{x:V}{h:A2}{n:Nat}{k:Res}(hg:D9 (C9y z x h n) k):B4m z x k h n:=by
 unfold C9y at hg
 unfold B4m
 split at hg
 ·exact hg.one
 ·simp only
  split at hg
  ·rename_i he
   obtain⟨h1,hg⟩:=hg.g
   simp only [Bool.and_eq_true,B2a,Nat.ble_eq]at h1
   rw [he]
   exact⟨h1.1,h1.2,hg.one⟩
  ·exact hg.no.elim
 ·exact hg.no.elim
def D0n(nm:Nat)(rs:Option (List (List V)))(h:A2)(n:Nat):O6:=
 match rs with
 |some rs=>gE (Nat.ble 1 rs.length) (F3 (.sl nm n 0 rs.length) (A2.put h nm n (.raw rs)) (n+1))
 |none=>none
theorem D9.raw{nm:Nat}{rs:Option (List (List V))}{h:A2}{n:Nat}{k:Res}(hg:D9 (D0n nm rs h n) k):C0X nm rs k h n:=by
 unfold D0n at hg
 split at hg
 ·obtain⟨h1,hg⟩:=hg.g
  exact⟨Nat.le_of_ble_eq_true h1,hg.one⟩
 ·exact hg.no.elim
def C9B(x:V)(h:A2)(n:Nat):O6:=
 match x with
 | .sl b st 0 m=>match A2.get h b st with
  |some (.raw rs)=>gE (Nat.beq m rs.length) (F3 (.sl b st 0 m) (A2.put h b st (.rows 1 rs)) n)
  |_=>none
 |_=>none
theorem D9.cvr{x:V}{h:A2}{n:Nat}{k:Res}(hg:D9 (C9B x h n) k):B7I x k h n:=by
 unfold C9B at hg
 unfold B7I
 split at hg
 ·simp only
  split at hg
  ·rename_i he
   obtain⟨h1,hg⟩:=hg.g
   rw [he]
   exact⟨Nat.eq_of_beq_eq_true h1,hg.one⟩
  ·exact hg.no.elim
 ·exact hg.no.elim
def C9q(nm sz:Nat)(cs:Option (List V))(h:A2)(n:Nat):O6:=
 match cs with
 |some cs=>gE (Nat.beq cs.length sz) (F3 (.ptr nm n 0 0) (A2.put h nm n (.rows sz [cs])) (n+1))
 |none=>none
def C4y(T nm sz:Nat)(cs:Option (List V))(h:A2)(n:Nat):O6:=
 match cs with
 |some cs=>gE (Nat.beq cs.length sz) (F3 (.ptr nm n 0 0) (A2.put h nm n (.tb T sz [cs])) (n+1))
 |none=>none
theorem D9.boxt{T nm sz:Nat}{cs:Option (List V)}{h:A2}{n:Nat}{k:Res}(hg:D9 (C4y T nm sz cs h n) k):B3L T nm sz cs k h n:=by
 unfold C4y at hg
 split at hg
 ·exact⟨Nat.eq_of_beq_eq_true hg.g.1,hg.g.2.one⟩
 ·exact hg.no.elim
theorem D9.box{nm sz:Nat}{cs:Option (List V)}{h:A2}{n:Nat}{k:Res}(hg:D9 (C9q nm sz cs h n) k):B7A nm sz cs k h n:=by
 unfold C9q at hg
 split at hg
 ·exact⟨Nat.eq_of_beq_eq_true hg.g.1,hg.g.2.one⟩
 ·exact hg.no.elim
def D0u(nm sz:Nat)(rs:Option (List (List V)))(h:A2)(n:Nat):O6:=
 match rs with
 |some rs=>F3 (.sl nm n 0 rs.length) (A2.put h nm n (.rows sz rs)) (n+1)
 |none=>none
theorem D9.row{nm sz:Nat}{rs:Option (List (List V))}{h:A2}{n:Nat}{k:Res}(hg:D9 (D0u nm sz rs h n) k):C1i nm sz rs k h n:=by
 unfold D0u at hg
 split at hg
 ·exact hg.one
 ·exact hg.no.elim
def C9U(rs:Option (List (List V)))(h:A2)(n:Nat):O6:=
 match rs with
 |some rs=>F3 (.isl rs) h n
 |none=>none
theorem D9.isl{rs:Option (List (List V))}{h:A2}{n:Nat}{k:Res}(hg:D9 (C9U rs h n) k):B9d rs k h n:=by
 unfold C9U at hg
 split at hg
 ·exact hg.one
 ·exact hg.no.elim
def C5a(h:Option A2)(n:Nat):O6:=
 match h with
 |some h=>F3 .undef h n
 |none=>none
theorem D9.heap{h:Option A2}{n:Nat}{k:Res}(hg:D9 (C5a h n) k):A4P h k n:=by
 unfold C5a at hg
 split at hg
 ·exact hg.one
 ·exact hg.no.elim
def C6y(L nm sz:Nat)(s:V)(xs:Option (List (List V)))(h:A2)(n:Nat):O6:=
 match xs with
 |none=>none
 | some xs=>gE (B3E xs sz) (match s with
  | .nils=>gE (Nat.ble xs.length L) (F3 (.sl nm n 0 xs.length) (A2.put h nm n (.rows sz xs)) (n+1))
  | .sl b st i m=>match A2.get h b st with
   | some (.rows sz' rs)=>gE (Nat.beq sz' sz&&Nat.ble (i+m) rs.length&&Nat.ble (m+xs.length) L)
     (F3 (.sl b n 0 (m+xs.length)) (A2.put h b n (.rows sz ((rs.drop i).take m++xs))) (n+1))
   |_=>none
  |_=>none)
theorem D9.app{L nm sz:Nat}{s:V}{xs:Option (List (List V))}{h:A2}{n:Nat}{k:Res}(hg:D9 (C6y L nm sz s xs h n) k):A8t L nm sz s xs k h n:=by
 unfold C6y at hg
 split at hg
 ·exact hg.no.elim
 ·obtain⟨h0,hg⟩:=hg.g
  unfold A8t
  refine⟨A2L h0,?_⟩
  split at hg
  ·exact⟨Nat.le_of_ble_eq_true hg.g.1,hg.g.2.one⟩
  ·simp only
   split at hg
   ·rename_i he
    obtain⟨h1,hg⟩:=hg.g
    simp only [Bool.and_eq_true,B2a,Nat.ble_eq]at h1
    rw [he]
    exact⟨h1.1.1,h1.1.2,h1.2,hg.one⟩
   ·exact hg.no.elim
  ·exact hg.no.elim
def C4r(T nm sz:Nat)(s:V)(xs:Option (List (List V)))(h:A2)(n:Nat):O6:=
 match xs with
 |none=>none
 | some xs=>gE (B3E xs sz&&Nat.beq sz 1) (match s with
  | .nils=>gE (Nat.ble xs.length 137438953472) (F3 (.sl nm n 0 xs.length) (A2.put h nm n (.tb T sz xs)) (n+1))
  | .sl b st i m=>match A2.get h b st with
   | some (.tb T' sz' rs)=>gE (Nat.beq i 0&&Nat.beq T' T&&Nat.beq sz' sz&&Nat.beq m rs.length&&Nat.ble (m+xs.length) 137438953472)
     (F3 (.sl b n 0 (m+xs.length)) (A2.put h b n (.tb T sz (rs++xs))) (n+1))
   |_=>none
  |_=>none)
theorem D9.appt{T nm sz:Nat}{s:V}{xs:Option (List (List V))}{h:A2}{n:Nat}{k:Res}(hg:D9 (C4r T nm sz s xs h n) k):A3O T nm sz s xs k h n:=by
 unfold C4r at hg
 split at hg
 ·exact hg.no.elim
 ·obtain⟨h0,hg⟩:=hg.g
  rw [Bool.and_eq_true]at h0
  unfold A3O
  refine⟨A2L h0.1,Nat.eq_of_beq_eq_true h0.2,?_⟩
  split at hg
  ·exact⟨Nat.le_of_ble_eq_true hg.g.1,hg.g.2.one⟩
  ·simp only
   split at hg
   ·rename_i he
    obtain⟨h1,hg⟩:=hg.g
    simp only [Bool.and_eq_true,B2a,Nat.ble_eq]at h1
    rw [he]
    exact⟨h1.1.1.1.1,h1.1.1.1.2,h1.1.1.2,h1.1.2,h1.2,hg.one⟩
   ·exact hg.no.elim
  ·exact hg.no.elim
def C8g(sz:Nat)(d:V)(xs:Option (List (List V)))(h:A2)(n:Nat):O6:=
 match xs with
 |none=>none
 | some xs=>gE (B3E xs sz) (match d with
  | .nils=>F3 (.int .i64 0) h n
  | .sl b st i m=>match A2.get h b st with
   | some (.rows sz' rs)=>gE (Nat.beq sz' sz&&Nat.ble (i+m) rs.length)
     (F3 (.int .i64 (min xs.length m:Nat)) (A2.put h b st (.rows sz (rs.take i++xs.take (min xs.length m)++rs.drop (i+min xs.length m)))) n)
   |_=>none
  |_=>none)
theorem D9.copy{sz:Nat}{d:V}{xs:Option (List (List V))}{h:A2}{n:Nat}{k:Res}(hg:D9 (C8g sz d xs h n) k):C8h sz d xs k h n:=by
 unfold C8g at hg
 split at hg
 ·exact hg.no.elim
 ·obtain⟨h0,hg⟩:=hg.g
  unfold C8h
  refine⟨A2L h0,?_⟩
  split at hg
  ·exact hg.one
  ·simp only
   split at hg
   ·rename_i he
    obtain⟨h1,hg⟩:=hg.g
    simp only [Bool.and_eq_true,B2a,Nat.ble_eq]at h1
    rw [he]
    exact⟨h1.1,h1.2,hg.one⟩
   ·exact hg.no.elim
  ·exact hg.no.elim
def C5o(nm:Nat)(z:List V)(x:V)(h:A2)(n:Nat):O6:=
 match x with
 | .int .i64 m=>gE (zle 0 m&&zle m 137438953472) (F3 (.sl nm n 0 m.toNat) (A2.put h nm n (.rows z.length (List.replicate m.toNat z))) (n+1))
 |_=>none
theorem D9.mksl{nm:Nat}{z:List V}{x:V}{h:A2}{n:Nat}{k:Res}(hg:D9 (C5o nm z x h n) k):B3W nm z x k h n:=by
 unfold C5o at hg
 split at hg
 ·obtain⟨h1,hg⟩:=hg.g
  simp only [Bool.and_eq_true,R9]at h1
  exact⟨h1.1,h1.2,hg.one⟩
 ·exact hg.no.elim
def D0A(sz:Nat)(x:V)(lo hi:Option V)(h:A2)(n:Nat):O6:=
 match x with
 | .sl b st i m=>match G3 0 lo,G3 m hi with
  |some l,some u=>gE ((match B1y (A2.get h b st)with|some s=>Nat.beq s sz|none=>false)&&zle 0 l&&zle l u&&zle u m) (F3 (.sl b st (i+l.toNat) (u-l).toNat) h n)
  |_,_=>none
 | .isl es=>match G3 0 lo,G3 es.length hi with
  |some l,some u=>gE (B3E es sz&&zle 0 l&&zle l u&&zle u es.length) (F3 (.isl ((es.drop l.toNat).take (u-l).toNat)) h n)
  |_,_=>none
 | .nils=>match G3 0 lo,G3 0 hi with
  |some l,some u=>gE (zeq l 0&&zeq u 0) (F3 .nils h n)
  |_,_=>none
 |_=>none
theorem D9.slc{sz:Nat}{x:V}{lo hi:Option V}{h:A2}{n:Nat}{k:Res}(hg:D9 (D0A sz x lo hi h n) k):B2E sz x lo hi k h n:=by
 unfold D0A at hg
 unfold B2E
 split at hg
 ·simp only
  split at hg
  ·rename_i h1 h2
   obtain⟨h0,hg⟩:=hg.g
   simp only [Bool.and_eq_true,R9]at h0
   rw [h1,h2]
   refine⟨?_,h0.1.1.2,h0.1.2,h0.2,hg.one⟩
   have c:=h0.1.1.1
   split at c
   ·rename_i s hs;rw [hs,Nat.eq_of_beq_eq_true c]
   ·cases c
  ·exact hg.no.elim
 ·simp only
  split at hg
  ·rename_i h1 h2
   obtain⟨h0,hg⟩:=hg.g
   simp only [Bool.and_eq_true,R9]at h0
   rw [h1,h2]
   exact⟨A2L h0.1.1.1,h0.1.1.2,h0.1.2,h0.2,hg.one⟩
  ·exact hg.no.elim
 ·simp only
  split at hg
  ·rename_i h1 h2
   obtain⟨h0,hg⟩:=hg.g
   simp only [Bool.and_eq_true,B2O]at h0
   rw [h1,h2]
   exact⟨h0.1,h0.2,hg.one⟩
  ·exact hg.no.elim
 ·exact hg.no.elim
def D0D(x:V)(lo hi:Option V)(h:A2)(n:Nat):O6:=
 match x with
 | .str s=>match G3 0 lo,G3 s.length hi with
  |some l,some u=>gE (zle 0 l&&zle l u&&zle u s.length) (F3 (.str ((s.drop l.toNat).take (u-l).toNat)) h n)
  |_,_=>none
 |_=>none
theorem D9.sls{x:V}{lo hi:Option V}{h:A2}{n:Nat}{k:Res}(hg:D9 (D0D x lo hi h n) k):B4v x lo hi k h n:=by
 unfold D0D at hg
 unfold B4v
 split at hg
 ·simp only
  split at hg
  ·rename_i h1 h2
   obtain⟨h0,hg⟩:=hg.g
   simp only [Bool.and_eq_true,R9]at h0
   rw [h1,h2]
   exact⟨h0.1.1,h0.1.2,h0.2,hg.one⟩
  ·exact hg.no.elim
 ·exact hg.no.elim
def B7R(k:V):List (V×V)→Bool
 | []=>true
 |e::r=>(B9g k e.1).isSome&&B7R k r
theorem B5u{k:V}: ∀{l:List (V×V)},B7R k l=true→C1V k l
 | [],_=>trivial
 |_::_,h=>by
  simp only [B7R,Bool.and_eq_true]at h
  exact⟨h.1,B5u h.2⟩
def C8y(kd:Nat)(z:V)(ok:Bool)(m key:V)(h:A2)(n:Nat):O6:=
 match m with
 | .nilm=>gE (C5h kd key) (F3 (B9n z ok none) h n)
 | .mp b st=>match A2.get h b st with
  |some (.map es)=>gE (C5h kd key&&B7R key es) (F3 (B9n z ok (C1Y key es)) h n)
  |_=>none
 |_=>none
theorem D9.look{kd:Nat}{z:V}{ok:Bool}{m key:V}{h:A2}{n:Nat}{k:Res}(hg:D9 (C8y kd z ok m key h n) k):C8z kd z ok m key k h n:=by
 unfold C8y at hg
 unfold C8z
 split at hg
 ·exact⟨hg.g.1,hg.g.2.one⟩
 ·simp only
  split at hg
  ·rename_i he
   obtain⟨h1,hg⟩:=hg.g
   simp only [Bool.and_eq_true]at h1
   rw [he]
   exact⟨h1.1,B5u h1.2,hg.one⟩
  ·exact hg.no.elim
 ·exact hg.no.elim
abbrev G8:=FuncId→List V→A2→Nat→O6
def C4B(P:Program)(C:G8)(f:V)(xs:List V)(h:A2)(n:Nat):O6:=
 match f with
 | .fn g cs=>gE (K9 P g) (C g (xs++cs) h n)
 |_=>none
def C9H(fn neg:Bool)(x:V)(h:A2)(n:Nat):O6:=
 match fn,x with
 |false,.nils=>F3 (.bool !neg) h n
 |false,.isl (_::_)=>F3 (.bool neg) h n
 |false,.sl _ _ _ (_+1)=>F3 (.bool neg) h n
 |true,.fn _ _=>F3 (.bool neg) h n
 |true,.cst .nilFunc=>F3 (.bool !neg) h n
 |_,_=>none
theorem D9.eqn{fn neg:Bool}{x:V}{h:A2}{n:Nat}{k:Res}(hg:D9 (C9H fn neg x h n) k):A6g fn neg x k h n:=by
 unfold C9H at hg
 split at hg
 ·exact hg.one
 ·exact⟨hg.one,fun e=>by cases e⟩
 ·exact⟨hg.one,fun e=>by cases e⟩
 ·exact hg.one
 ·exact hg.one
 ·exact hg.no.elim
def C4x(sz:Nat)(cs:Option (List V))(h:A2)(n:Nat):O6:=
 match cs with
 |some cs=>bif Nat.beq cs.length sz then F3 (.iptr [cs] 0 0) h n else none
 |none=>none
theorem D9.boxi{sz:Nat}{cs:Option (List V)}{h:A2}{n:Nat}{k:Res}(hg:D9 (C4x sz cs h n) k):B1A sz cs k h n:=by
 unfold C4x at hg
 unfold B1A
 split at hg
 ·rename_i cs
  cases hb:Nat.beq cs.length sz with
  |true=>rw [hb]at hg;exact⟨Nat.eq_of_beq_eq_true hb,hg.one⟩
  |false=>rw [hb]at hg;exact hg.no.elim
 ·exact hg.no.elim
def C0Q(m:Nat)(agg:Bool)(x:V)(h:A2)(n:Nat):O6:=
 match x with
 | .iptr es i j=>A4n (C2m es i fun row=>G5 row j m agg) h n
 |_=>none
theorem D9.loadi{m:Nat}{agg:Bool}{x:V}{h:A2}{n:Nat}{k:Res}(hg:D9 (C0Q m agg x h n) k):A2D m agg x k h n:=by
 unfold C0Q at hg
 unfold A2D
 split at hg
 ·exact hg.opt
 ·exact hg.no.elim
def exO(P:Program)(C:G8)(s:St):AO→O6
 | .mov x=>F3 (s.ev x) s.h s.n
 | .pick c a b=>A4n (B9A (s.ev c) (s.ev a) (s.ev b)) s.h s.n
 | .nilck x=>A4n (B5D (s.ev x)) s.h s.n
 | .box nm sz x=>C9q nm sz (Q5 (s.ev x)) s.h s.n
 | .boxt T nm sz x=>C4y T nm sz (Q5 (s.ev x)) s.h s.n
 | .appt T nm sz b x=>C4r T nm sz (s.ev b) (B2F s.h (s.ev x)) s.h s.n
 | .build z ps=>A4n ((A1A s z ps).map .agg) s.h s.n
 | .mkrow nm sz xs=>D0u nm sz (H3 sz s xs) s.h s.n
 | .mkisl sz xs=>C9U (H3 sz s xs) s.h s.n
 | .load m agg x=>A4n (A8R s.h (s.ev x) m agg) s.h s.n
 | .store m x v=>C5a (B6a s.h (s.ev x) (s.ev v) m) s.n
 | .faddr off x=>A4n (B5l off (s.ev x)) s.h s.n
 | .iaddr sz x i=>C0C sz (s.ev x) (s.ev i) s.h s.n
 | .iaddrA len sz x i=>B7O len sz (s.ev x) (s.ev i) s.h s.n
 | .fld off m agg x=>A4n (C4T off m agg (s.ev x)) s.h s.n
 | .idx x i=>C9R (s.ev x) (s.ev i) s.h s.n
 | .ext i x=>A4n (C4S i (s.ev x)) s.h s.n
 | .bin op x y=>C9l op (s.ev x) (s.ev y) s.h s.n
 | .binw op x y=>A4n (B4W op (s.ev x) (s.ev y)) s.h s.n
 | .eqp kind neg x y=>A4n (bif B3R kind (s.ev x)then C0w neg (s.ev x) (s.ev y)else none) s.h s.n
 | .eqa neg t x y=>A4n (C4O neg t (s.ev x) (s.ev y)) s.h s.n
 | .un op x=>unE op (s.ev x) s.h s.n
 | .negw x=>A4n (B7b (s.ev x)) s.h s.n
 | .conv j x=>A4n (B8N j (s.ev x)) s.h s.n
 | .bst x=>A4n (B7B (A3h s.h (s.ev x))) s.h s.n
 | .mkraw nm xs=>D0n nm (H3 1 s xs) s.h s.n
 | .cvr x=>C9B (s.ev x) s.h s.n
 | .isnil neg x=>A4n (B5q neg (s.ev x)) s.h s.n
 | .len kind x=>A4n (C5j s.h kind (s.ev x)) s.h s.n
 | .lenc m=>F3 (.int .i64 m) s.h s.n
 | .mm mx xs=>A4n (mmV mx (xs.map s.ev)) s.h s.n
 | .app nm sz b x=>C6y 137438953472 nm sz (s.ev b) (B2F s.h (s.ev x)) s.h s.n
 | .apb L nm sz b x=>C6y L nm sz (s.ev b) (B2F s.h (s.ev x)) s.h s.n
 | .mksl nm z x=>C5o nm z (s.ev x) s.h s.n
 | .slc sz x lo hi=>D0A sz (s.ev x) (lo.map s.ev) (hi.map s.ev) s.h s.n
 | .sls x lo hi=>D0D (s.ev x) (lo.map s.ev) (hi.map s.ev) s.h s.n
 | .mkfn f xs=>F3 (.fn f (xs.map s.ev)) s.h s.n
 | .sh l x y=>shE l (s.ev x) (s.ev y) s.h s.n
 | .idxA len sz m agg x i=>C5c len sz m agg (s.ev x) (s.ev i) s.h s.n
 | .clr z x=>C9y z (s.ev x) s.h s.n
 | .call f xs=>C f (xs.map s.ev) s.h s.n
 | .callp f xs=>C f (xs.map s.ev) s.h s.n
 | .pan _=>none
 | .boxi sz x=>C4x sz (Q5 (s.ev x)) s.h s.n
 | .loadi m agg x=>C0Q m agg (s.ev x) s.h s.n
 | .callv f xs=>C4B P C (s.ev f) (xs.map s.ev) s.h s.n
 | .pcall .. =>none
 | .eqn fn neg x=>C9H fn neg (s.ev x) s.h s.n
 | .bad=>none
def G6(P:Program)(C:G8):Prop:= ∀f xs h n k,D9 (C f xs h n) k→A0 P f xs h n k
theorem C3a{P:Program}{C:G8}(hC:G6 P C){s:St}{o:AO}{k:Res}(hg:D9 (exO P C s o) k):A5 P PK o s k:=by
 cases o<;>simp only [exO]at hg<;>simp only [A5]
 case mov=>exact hg.one
 case pick=>exact hg.opt
 case nilck=>exact hg.opt
 case box=>exact hg.box
 case boxt=>exact hg.boxt
 case appt=>exact hg.appt
 case build=>exact hg.opt
 case mkrow=>exact hg.row
 case mkisl=>exact hg.isl
 case load=>exact hg.opt
 case store=>exact hg.heap
 case faddr=>exact hg.opt
 case iaddr=>exact hg.iaddr
 case iaddrA=>exact hg.iaddrA
 case fld=>exact hg.opt
 case idx=>exact hg.idx
 case ext=>exact hg.opt
 case bin=>exact hg.bin
 case binw=>exact hg.opt
 case eqp=>exact hg.opt
 case eqa=>exact hg.opt
 case un=>exact hg.un
 case negw=>exact hg.opt
 case conv=>exact hg.opt
 case bst=>exact hg.opt
 case mkraw=>exact hg.raw
 case cvr=>exact hg.cvr
 case isnil=>exact hg.opt
 case len=>exact hg.opt
 case lenc=>exact hg.one
 case mm=>exact hg.opt
 case app=>exact hg.app
 case apb=>exact hg.app
 case mksl=>exact hg.mksl
 case slc=>exact hg.slc
 case sls=>exact hg.sls
 case mkfn=>exact hg.one
 case sh=>exact hg.sh
 case idxA=>exact hg.idxA
 case clr=>exact hg.clr
 case call=>exact hC _ _ _ _ _ hg
 case callp=>exact(hC _ _ _ _ _ hg).toP
 case boxi=>exact hg.boxi
 case pan=>exact hg.no.elim
 case loadi=>exact hg.loadi
 case callv=>
  unfold C4B at hg
  split at hg
  ·rename_i g cs he
   rw [he]
   exact⟨hg.g.1,hC _ _ _ _ _ hg.g.2⟩
  ·exact hg.no.elim
 case pcall=>exact hg.no.elim
 case eqn=>exact hg.eqn
 case bad=>exact hg.no
def bEq:Bool→Bool→Bool
 |true,true|false,false=>true
 |_,_=>false
theorem C6D{a b:Bool}(h:bEq a b=true):a=b:=by cases a<;>cases b<;>first|rfl|cases h
def C4H:Value→Value→Bool
 | .nilIface,.nilIface=>true
 | .nilFunc,.nilFunc=>true
 | .tuple ⟨[]⟩,.tuple ⟨[]⟩=>true
 |_,_=>false
theorem C4I{a b:Value}(h:C4H a b=true):a=b:=by
 unfold C4H at h
 split at h
 ·rfl
 ·rfl
 ·rfl
 ·cases h
mutual
def V.beq:V→V→Bool
 | .undef,.undef=>true
 | .bool a,.bool b=>bEq a b
 | .int k n,.int k' n'=>kEq k k'&&zeq n n'
 | .str a,.str b=>Q6 a b
 | .agg a,.agg b=>V.beqL a b
 | .tup a,.tup b=>V.beqL a b
 | .nilp,.nilp=>true
 | .ptr b st i j,.ptr b' st' i' j'=>Nat.beq b b'&&(Nat.beq st st'&&(Nat.beq i i'&&Nat.beq j j'))
 | .nils,.nils=>true
 | .sl b st i j,.sl b' st' i' j'=>Nat.beq b b'&&(Nat.beq st st'&&(Nat.beq i i'&&Nat.beq j j'))
 | .isl a,.isl b=>V.beqLL a b
 | .iptr a i j,.iptr b i' j'=>V.beqLL a b&&(Nat.beq i i'&&Nat.beq j j')
 | .nilm,.nilm=>true
 | .mp b st,.mp b' st'=>Nat.beq b b'&&Nat.beq st st'
 | .fn f cs,.fn g ds=>Nat.beq f g&&V.beqL cs ds
 | .err,.err=>true
 | .cst v,.cst w=>C4H v w
 | .anyi k,.anyi k'=>kEq k k'
 |_,_=>false
def V.beqL:List V→List V→Bool
 | [],[]=>true
 |a::r,b::s=>V.beq a b&&V.beqL r s
 |_,_=>false
def V.beqLL:List (List V)→List (List V)→Bool
 | [],[]=>true
 |a::r,b::s=>V.beqL a b&&V.beqLL r s
 |_,_=>false
end
mutual
theorem V.beq_eq: ∀{a b:V},V.beq a b=true→a=b
 | .undef,b,h=>by cases b<;>first|rfl|simp [V.beq]at h
 | .bool a,b,h=>by
  cases b<;>simp only [V.beq,Bool.false_eq_true]at h
  rw [C6D h]
 | .int k n,b,h=>by
  cases b<;>simp only [V.beq,Bool.false_eq_true,Bool.and_eq_true]at h
  rw [B4G.1 h.1,B2O.1 h.2]
 | .str a,b,h=>by
  cases b<;>simp only [V.beq,Bool.false_eq_true]at h
  rw [A3P.1 h]
 | .agg a,b,h=>by
  cases b<;>simp only [V.beq,Bool.false_eq_true]at h
  rw [V.beqL_eq h]
 | .tup a,b,h=>by
  cases b<;>simp only [V.beq,Bool.false_eq_true]at h
  rw [V.beqL_eq h]
 | .nilp,b,h=>by cases b<;>first|rfl|simp [V.beq]at h
 | .ptr b st i j,x,h=>by
  cases x<;>simp only [V.beq,Bool.false_eq_true,Bool.and_eq_true,B2a]at h
  obtain⟨rfl,rfl,rfl,rfl⟩:=h;rfl
 | .nils,b,h=>by cases b<;>first|rfl|simp [V.beq]at h
 | .sl b st i j,x,h=>by
  cases x<;>simp only [V.beq,Bool.false_eq_true,Bool.and_eq_true,B2a]at h
  obtain⟨rfl,rfl,rfl,rfl⟩:=h;rfl
 | .isl a,b,h=>by
  cases b<;>simp only [V.beq,Bool.false_eq_true]at h
  rw [V.beqLL_eq h]
 | .iptr a i j,b,h=>by
  cases b<;>simp only [V.beq,Bool.false_eq_true,Bool.and_eq_true,B2a]at h
  obtain⟨h1,rfl,rfl⟩:=h;rw [V.beqLL_eq h1]
 | .nilm,b,h=>by cases b<;>first|rfl|simp [V.beq]at h
 | .mp b st,x,h=>by
  cases x<;>simp only [V.beq,Bool.false_eq_true,Bool.and_eq_true,B2a]at h
  obtain⟨rfl,rfl⟩:=h;rfl
 | .fn f cs,x,h=>by
  cases x<;>simp only [V.beq,Bool.false_eq_true,Bool.and_eq_true,B2a]at h
  obtain⟨rfl,h1⟩:=h;rw [V.beqL_eq h1]
 | .cst v,b,h=>by
  cases b<;>simp only [V.beq,Bool.false_eq_true]at h
  rw [C4I h]
 | .err,b,h=>by cases b<;>first|rfl|simp [V.beq]at h
 | .anyi k,b,h=>by
  cases b<;>simp only [V.beq,Bool.false_eq_true]at h
  rw [B4G.1 h]
theorem V.beqL_eq: ∀{a b:List V},V.beqL a b=true→a=b
 | [],b,h=>by cases b<;>first|rfl|simp [V.beqL]at h
 |x::r,b,h=>by
  cases b<;>simp only [V.beqL,Bool.false_eq_true,Bool.and_eq_true]at h
  rw [V.beq_eq h.1,V.beqL_eq h.2]
theorem V.beqLL_eq: ∀{a b:List (List V)},V.beqLL a b=true→a=b
 | [],b,h=>by cases b<;>first|rfl|simp [V.beqLL]at h
 |x::r,b,h=>by
  cases b<;>simp only [V.beqLL,Bool.false_eq_true,Bool.and_eq_true]at h
  rw [V.beqL_eq h.1,V.beqLL_eq h.2]
end
def C1F:List (V×V)→List (V×V)→Bool
 | [],[]=>true
 |a::r,b::s=>V.beq a.1 b.1&&(V.beq a.2 b.2&&C1F r s)
 |_,_=>false
theorem B8x: ∀{a b:List (V×V)},C1F a b=true→a=b
 | [],[],_=>rfl
 | [],_::_,h=>by cases h
 |_::_,[],h=>by cases h
 |x::r,y::s,h=>by
  simp only [C1F,Bool.and_eq_true]at h
  rw [show x=y from Prod.ext (V.beq_eq h.1) (V.beq_eq h.2.1),B8x h.2.2]
def B4V:List Value→List Value→Bool
 | [],[]=>true
 | .int k n::r,.int k' n'::s=>kEq k k'&&(zeq n n'&&B4V r s)
 |_,_=>false
theorem B8z: ∀{a b:List Value},B4V a b=true→a=b
 | [],b,h=>by cases b<;>first|rfl|simp [B4V]at h
 |x::r,b,h=>by
  cases x<;>rcases b with _|⟨y,s⟩<;>try (simp [B4V]at h;done)
  cases y<;>try (simp [B4V]at h;done)
  simp only [B4V,Bool.and_eq_true]at h
  obtain⟨h1,h2,h3⟩:=h
  rw [B4G.1 h1,B2O.1 h2,B8z h3]
def C0k:Blk→Blk→Bool
 | .rows sz rs,.rows sz' rs'=>Nat.beq sz sz'&&V.beqLL rs rs'
 | .map es,.map es'=>C1F es es'
 | .tb T sz rs,.tb T' sz' rs'=>Nat.beq T T'&&(Nat.beq sz sz'&&V.beqLL rs rs')
 | .fz T l,.fz T' l'=>Nat.beq T T'&&B4V l l'
 |_,_=>false
theorem C2A{a b:Blk}(h:C0k a b=true):a=b:=by
 cases a<;>cases b<;>simp only [C0k,Bool.false_eq_true,Bool.and_eq_true,B2a]at h
 ·rw [h.1,V.beqLL_eq h.2]
 ·rw [B8x h]
 ·rw [h.1,h.2.1,V.beqLL_eq h.2.2]
 ·rw [h.1,B8z h.2]
def C6F:A2→A2→Bool
 | [],[]=>true
 |a::r,b::s=>Nat.beq a.1 b.1&&(Nat.beq a.2.1 b.2.1&&(C0k a.2.2 b.2.2&&C6F r s))
 |_,_=>false
theorem C1E: ∀{a b:A2},C6F a b=true→a=b
 | [],[],_=>rfl
 | [],_::_,h=>by cases h
 |_::_,[],h=>by cases h
 |(x1,x2,x3)::r,(y1,y2,y3)::s,h=>by
  simp only [C6F,Bool.and_eq_true,B2a]at h
  obtain⟨rfl,rfl,h3,h4⟩:=h
  rw [C2A h3,C1E h4]
def C1G:List (Nat×V)→List (Nat×V)→Bool
 | [],[]=>true
 |a::r,b::s=>Nat.beq a.1 b.1&&(V.beq a.2 b.2&&C1G r s)
 |_,_=>false
theorem B8y: ∀{a b:List (Nat×V)},C1G a b=true→a=b
 | [],[],_=>rfl
 | [],_::_,h=>by cases h
 |_::_,[],h=>by cases h
 |(x1,x2)::r,(y1,y2)::s,h=>by
  simp only [C1G,Bool.and_eq_true,B2a]at h
  obtain⟨rfl,h2,h4⟩:=h
  rw [V.beq_eq h2,B8y h4]
def C4t(a b:St):Bool:=C1G a.sl b.sl&&(C6F a.h b.h&&Nat.beq a.n b.n)
theorem C4u{a b:St}(h:C4t a b=true):a=b:=by
 obtain⟨a1,a2,a3⟩:=a
 obtain⟨b1,b2,b3⟩:=b
 simp only [C4t,Bool.and_eq_true,B2a]at h
 rw [B8y h.1,C1E h.2.1,h.2.2]
def C3b(d:Option Nat)(sl:List (Nat×V))(r:V×A2×Nat):St:=
 match d with
 |some i=>⟨E4 sl i r.1,r.2.1,r.2.2⟩
 |none=>⟨sl,r.2.1,r.2.2⟩
def exA(P:Program)(C:G8)(i:AI)(s:St):Option St:=
 match i.g with
 |none=>(exO P C s i.o).map (C3b i.d s.sl)
 |some (j,want)=>match C3 s.sl j with
  | .bool b=>bif bEq b want then(exO P C ⟨E4 s.sl j (.bool want),s.h,s.n⟩ i.o).map (C3b i.d (E4 s.sl j (.bool want)))else some (C3b i.d (E4 s.sl j (.bool !want)) (.cst Go.undef,s.h,s.n))
  | .cst u=>bif B2b u then some (C3b i.d s.sl (.cst Go.undef,s.h,s.n))else none
  |_=>none
def exV(P:Program)(C:G8):List AI→St→Option St
 | [],s=>some s
 |i::r,s=>match exA P C i s with
  |some s'=>exV P C r s'
  |none=>none
def B9P(P:Program)(C:G8)(s s':St):List (List AI)→Bool
 | []=>true
 |l::r=>match exV P C l s with
  |some s2=>C4t s2 s'&&B9P P C s s' r
  |none=>false
def C9K(P:Program)(C:G8)(s:St):List (List AI)→Option St
 | []=>none
 |l::r=>match exV P C l s with
  |some s'=>bif B9P P C s s' r then some s' else none
  |none=>none
section
variable {P:Program} {C:G8} {k:Res}
theorem A9U{K':St→Prop}{d:Option Nat}{sl:List (Nat×V)}{x:V×A2×Nat}(hg:K' (C3b d sl x)):fin d sl K' x.1 x.2.1 x.2.2:=by
 cases d<;>exact hg
theorem C2Z(hC:G6 P C){i:AI}{s s':St}{K':St→Prop}(hg:exA P C i s=some s')(hK:K' s'):G2 P PK i s K':=by
 have some_: ∀{t:St} {sl:List (Nat×V)},(exO P C t i.o).map (C3b i.d sl)=some s'→A5 P PK i.o t (fin i.d sl K'):=by
  intro t sl h
  obtain⟨x,h1,h2⟩:=Option.map_eq_some_iff.1 h
  exact C3a hC ⟨x,h1,A9U (by rw [h2];exact hK)⟩
 unfold exA at hg
 unfold G2
 split at hg
 ·rename_i e
  rw [e]
  exact some_ hg
 ·rename_i j want e
  rw [e]
  simp only
  split at hg
  ·rename_i b hb
   rw [hb]
   cases b<;>cases want<;>simp only [bEq,cond_true,cond_false]at hg<;>refine⟨fun e=> ?_,fun e=> ?_⟩
   any_goals (cases e;done)
   ·exact some_ hg
   ·injection hg with hg;exact A9U (x:=(.cst Go.undef,s.h,s.n)) (by rw [hg];exact hK)
   ·injection hg with hg;exact A9U (x:=(.cst Go.undef,s.h,s.n)) (by rw [hg];exact hK)
   ·exact some_ hg
  ·rename_i u hu
   rw [hu]
   cases hb:B2b u with
   |false=>rw [hb]at hg;cases hg
   |true=>
    rw [hb]at hg
    injection hg with hg
    exact⟨hb,A9U (x:=(.cst Go.undef,s.h,s.n)) (by rw [hg];exact hK)⟩
  ·cases hg
theorem B3e(hC:G6 P C){K':St→Prop}{s':St}(hK:K' s'): ∀{l:List AI} {s:St},exV P C l s=some s'→vo P PK l K' s
 | [],_,hg=>by injection hg with hg;subst hg;exact hK
 |i::r,s,hg=>by
  simp only [exV]at hg
  split at hg
  ·rename_i t ht;exact C2Z (K':=vo P PK r K') hC ht (B3e hC hK hg)
  ·cases hg
theorem B4e(hC:G6 P C){K':St→Prop}{s s':St}(hK:K' s'): ∀{l:List (List AI)},B9P P C s s' l=true→B4j P PK l K' s
 | [],_=>trivial
 | l::r,hg=>by
  simp only [B9P]at hg
  split at hg
  ·rename_i t ht
   simp only [Bool.and_eq_true]at hg
   rw [C4u hg.1]at ht
   exact⟨B3e hC hK ht,B4e hC hK hg.2⟩
  ·cases hg
theorem C0x(hC:G6 P C){K':St→Prop}{s s':St}(hK:K' s'): ∀{l:List (List AI)},C9K P C s l=some s'→B4j P PK l K' s
 | [],h=>by cases h
 | l::r,hg=>by
  simp only [C9K]at hg
  split at hg
  ·rename_i t ht
   cases hb:B9P P C s t r with
   |false=>rw [hb]at hg;cases hg
   |true=>
    rw [hb,cond_true]at hg
    injection hg with hg
    subst hg
    exact⟨B3e hC hK ht,B4e hC hK hb⟩
  ·cases hg
def nmB:Nat:=1000000000000
def low(f b st:Nat):Bool:=Nat.blt b nmB&&Nat.ble f st
section
variable (f:Nat)
mutual
def B8b:V→V
 | .sl b st i n=>bif low f b st then .sl (nmB+st) st i n else .sl b st i n
 | .ptr b st i n=>bif low f b st then .ptr (nmB+st) st i n else .ptr b st i n
 | .mp b st=>bif low f b st then .mp (nmB+st) st else .mp b st
 | .agg l=> .agg (renL l)
 | .tup l=> .tup (renL l)
 |v=>v
def renL:List V→List V
 | []=> []
 |a::r=>B8b a::renL r
end
mutual
def C5n:V→Bool
 | .sl _ st _ _=>Nat.ble f st
 | .ptr _ st _ _=>Nat.ble f st
 | .mp _ st=>Nat.ble f st
 | .agg l=>menL l
 | .tup l=>menL l
 | .fn _ _=>true
 |_=>false
def menL:List V→Bool
 | []=>false
 |a::r=>C5n a||menL r
end
end
mutual
theorem B3B(f:Nat): ∀v:V,H7 v (B8b f v)
 | .sl b st i n=>by rw [B8b];cases low f b st<;>exact .sl
 | .ptr b st i n=>by rw [B8b];cases low f b st<;>exact .ptr
 | .mp b st=>by rw [B8b];cases low f b st<;>exact .mp
 | .agg l=>by rw [B8b];exact .agg (renL_same f l)
 | .tup l=>by rw [B8b];exact .tup (renL_same f l)
 | .undef=> .refl _
 | .bool _=> .refl _
 | .int _ _=> .refl _
 | .str _=> .refl _
 | .nilp=> .refl _
 | .nils=> .refl _
 | .isl _=> .refl _
 | .iptr _ _ _=> .refl _
 | .nilm=> .refl _
 | .fn _ _=> .refl _
 | .yld _ _=> .refl _
 | .cst _=> .refl _
 | .err=> .refl _
 | .anyi _=> .refl _
theorem renL_same(f:Nat): ∀l:List V,A4I l (renL f l)
 | []=>by rw [renL];trivial
 |a::r=>by rw [renL];exact⟨B3B f a,renL_same f r⟩
end
def D3D(f:Nat):Blk→Blk
 | .rows sz rs=> .rows sz (rs.map (renL f))
 | .tb T sz rs=> .tb T sz (rs.map (renL f))
 | .map es=> .map es
 |b=>b
theorem o8.tb{T sz:Nat}{rs rs2:List (List V)}(hl:rs2.length=rs.length)(hr: ∀(i:Nat) r2,rs2[i]? =some r2→ ∃r,rs[i]? =some r∧A4I r r2):o8 (.tb T sz rs) (.tb T sz rs2):=
 fun E st ⟨h1,h2,h3⟩=>⟨o8.rows (Nat.le_of_eq hl) hr E st h1,h2,by rw [hl];exact h3⟩
theorem C3C(f:Nat)(b:Blk):o8 b (D3D f b):=by
 cases b with
 |map es=>exact .refl _
 |loop=>exact .refl _
 |mapb=>exact .refl _
 |iter=>exact .refl _
 |raw=>exact .refl _
 |tb T sz rs=>
  refine .tb (by simp) fun i r2 h=> ?_
  rw [List.getElem?_map]at h
  obtain⟨r,h1,h2⟩:=Option.map_eq_some_iff.1 h
  exact⟨r,h1,h2 ▸ renL_same f r⟩
 |fz=>exact .refl _
 |rows sz rs=>
  refine .rows (by simp) fun i r2 h=> ?_
  rw [List.getElem?_map]at h
  obtain⟨r,h1,h2⟩:=Option.map_eq_some_iff.1 h
  exact⟨r,h1,h2 ▸ renL_same f r⟩
def D3w(f:Nat):Blk→Bool
 | .rows _ rs=>rs.any (menL f)
 | .map es=>es.any fun p=>C5n f p.1||C5n f p.2
 | .loop .. =>true
 | .mapb .. =>true
 | .iter .. =>true
 | .raw .. =>true
 | .tb _ _ rs=>rs.any (menL f)
 | .fz .. =>false
def C3D(f:Nat):A2→Nat→Nat
 | [],b=>b
 |e::r,b=>bif Nat.beq e.1 b then(bif low f e.1 e.2.1 then nmB+e.2.1 else b)else C3D f r b
def D3q:Option Nat→Nat→Bool
 |some m,st=>Nat.ble m st
 |none,_=>false
def C1a(f:Nat)(d:Option Nat)(h0:A2):A2→A2
 | []=> []
 |e::r=>bif D3q d e.2.1 then C1a f d h0 r else(C3D f h0 e.1,e.2.1,D3D f e.2.2)::C1a f d h0 r
theorem B0b(f:Nat)(d:Option Nat)(h0:A2): ∀h:A2,(∀e∈h,e∈h0)→A0t (C3D f h0) h0 (C1a f d h0 h)
 | [],_=>trivial
 |e::r,hm=>by
  simp only [C1a]
  have:=B0b f d h0 r fun x hx=>hm x (List.mem_cons_of_mem _ hx)
  cases D3q d e.2.1
  ·exact⟨⟨e,hm e List.mem_cons_self,rfl,rfl,C3C f _⟩,this⟩
  ·exact this
def C5L(f:Nat)(s0:List (Nat×V)):List (Nat×V)→List (Nat×V)
 | []=> []
 |p::r=>(p.1,B8b f (C3 s0 p.1))::C5L f s0 r
theorem B5O(f:Nat)(s0:List (Nat×V)): ∀s:List (Nat×V),B4Q s0 (C5L f s0 s)
 | []=>trivial
 |p::r=>⟨B3B f _,B5O f s0 r⟩
def D3E(f:Nat)(s:St):St:=⟨C5L f s.sl s.sl,C1a f none s.h s.h,s.n⟩
theorem C7t(f:Nat)(s:St):Wk s (D3E f s):= .turn (C3D f s.h) (B5O _ _ _) (B0b _ _ _ _ fun _ h=>h)
def B9a(h:A2)(b:Nat):Bool:=h.any fun e=>Nat.beq e.1 b
def D3z(h:A2):AO→Bool
 | .box nm _ _=>B9a h nm
 | .boxt _ nm _ _=>B9a h nm
 | .appt _ nm _ _ _=>B9a h nm
 | .mkrow nm _ _=>B9a h nm
 | .mksl nm _ _=>B9a h nm
 | .mkraw nm _=>B9a h nm
 | .app nm _ _ _=>B9a h nm
 | .apb _ nm _ _ _=>B9a h nm
 |_=>false
def C8B(h:A2):List (List AI)→Bool
 | []=>false
 |l::_=>l.any fun i=>D3z h i.o
def D1c(f:Nat)(l:List (List AI))(s:St):St:=bif C8B s.h l then D3E f s else s
theorem C7N(f:Nat)(l:List (List AI))(s:St):Wk s (D1c f l s):=by
 unfold D1c
 cases C8B s.h l
 ·exact .refl _
 ·exact C7t f s
def C2S(f:Nat)(x:V×A2×Nat):V×A2×Nat:=
 bif x.2.1.any (fun e=>Nat.ble f e.2.1)then
  (bif C5n f x.1||x.2.1.any (fun e=>Nat.blt e.2.1 f&&D3w f e.2.2)then(B8b f x.1,C1a f none x.2.1 x.2.1,x.2.2)else(x.1,C1a f (some f) x.2.1 x.2.1,x.2.2))
 else x
theorem C6L(f:Nat)(x:V×A2×Nat):Wk ⟨[(0,x.1)],x.2.1,x.2.2⟩ ⟨[(0,(C2S f x).1)],(C2S f x).2.1,(C2S f x).2.2⟩:=by
 unfold C2S
 cases x.2.1.any (fun e=>Nat.ble f e.2.1)
 ·exact .refl _
 ·simp only [cond_true]
  cases C5n f x.1||x.2.1.any (fun e=>Nat.blt e.2.1 f&&D3w f e.2.2)
  ·exact .turn (C3D f x.2.1) ⟨.refl _,trivial⟩ (B0b _ _ _ _ fun _ h=>h)
  ·exact .turn (C3D f x.2.1) ⟨B3B f _,trivial⟩ (B0b _ _ _ _ fun _ h=>h)
theorem C2T{P:Program}{g:FuncId}{xs:List V}{h:A2}{n:Nat}{k:Res}{o:O6}(ho: ∀k,D9 o k→A0 P g xs h n k)(hg:D9 (o.map (C2S n)) k):A0 P g xs h n k:=by
 obtain⟨y,h1,h2⟩:=hg
 obtain⟨x,h3,rfl⟩:=Option.map_eq_some_iff.1 h1
 refine(ho (fun r h' n'=>(r,h',n')=x) ⟨x,h3,rfl⟩).wk ?_
 rintro r h' n' rfl
 exact⟨_,_,_,C6L n (r,h',n'),h2⟩
def C7u(rs:List RV)(s:St):O6:=
 match A7N s rs with
 |some vs=>F3 (B2e vs) s.h s.n
 |none=>none
def exG(P:Program)(C:G8)(rs:List RV)(f:Nat):Nat→List AItem→St→O6
 |0,_,_=>none
 |_+1,[],s=>C7u rs s
 |m+1,.code .skip::k,s=>exG P C rs f m k s
 |m+1,.code (.ops l)::k,s=>match C9K P C (D1c f l s) l with
  |some s'=>exG P C rs f m k s'
  |none=>none
 |_+1,.code .bad::_,_=>none
 |m+1,.code (.seq a b)::k,s=>exG P C rs f m (.code a:: .code b::k) s
 |m+1,.code (.cond x a b)::k,s=>match s.ev x with
  | .bool true=>exG P C rs f m (.code a::k) s
  | .bool false=>exG P C rs f m (.code b::k) s
  |_=>none
 |m+1,.code (.block id a)::k,s=>exG P C rs f m (.code a:: .blk id::k) s
 |m+1,.code (.loop a)::k,s=>exG P C rs f m (.code a:: .lp a::k) s
 |m+1,.code (.exit id)::k,s=>match Nat.beq 999999999 id,V3 id k with
  |false,some k'=>exG P C rs f m k' s
  |_,_=>none
 |_+1,.code .ret::_,s=>C7u rs s
 |m+1,.blk _::k,s=>exG P C rs f m k s
 |m+1,.lp a::k,s=>exG P C rs f m (.code a:: .lp a::k) s
 |m+1,.code (.dfr d)::k,s=>exG P C rs f m k ⟨E4 s.sl d .undef,s.h,s.n⟩
 |_+1,.code (.rng ..)::_,_=>none
 |_+1,.beg::_,_=>none
theorem B7i{N:Nat}{rs:List RV}{s:St}(hg:D9 (C7u rs s) k):C3E ⟨P,N,rs,k,none,none⟩ s:=by
 unfold C7u at hg
 unfold C3E
 split at hg
 ·rename_i vs hvs
  simp only
  rw [hvs]
  exact hg.one
 ·exact hg.no.elim
theorem L2(hC:G6 P C){N:Nat}{rs:List RV}{f:Nat}: ∀{m:Nat} {l:List AItem} {s:St},D9 (exG P C rs f m l s) k→Run ⟨P,N,rs,k,none,none⟩ l s
 |0,_,_,hg=>hg.no.elim
 |m+1,[],s,hg=>Run.go 1 (B7i hg)
 |m+1,.code .skip::l,s,hg=>Run.go 1 (L2 hC (m:=m) hg)
 |m+1,.code (.ops is)::l,s,hg=>by
  simp only [exG]at hg
  split at hg
  ·rename_i t ht;exact Run.wk (C7N f is s) (Run.go 1 (C0x hC (L2 hC (m:=m) hg) ht))
  ·exact hg.no.elim
 |m+1,.code .bad::_,_,hg=>hg.no.elim
 |m+1,.code (.seq a b)::l,s,hg=>Run.go 1 (L2 hC (m:=m) hg)
 |m+1,.code (.cond x a b)::l,s,hg=>by
  simp only [exG]at hg
  split at hg
  ·rename_i hv;exact fun fn bs hrs=>OK.cond hv (fun _=>L2 hC (m:=m) hg fn bs hrs) (fun e=>by cases e)
  ·rename_i hv;exact fun fn bs hrs=>OK.cond hv (fun e=>by cases e) (fun _=>L2 hC (m:=m) hg fn bs hrs)
  ·exact hg.no.elim
 |m+1,.code (.block id a)::l,s,hg=>Run.go 1 (L2 hC (m:=m) hg)
 |m+1,.code (.loop a)::l,s,hg=>Run.loop (L2 hC (m:=m) hg)
 |m+1,.code (.exit id)::l,s,hg=>by
  simp only [exG]at hg
  split at hg
  ·rename_i k' hsc hk;exact fun fn bs hrs=>OK.exit hsc hk (L2 hC (m:=m) hg fn bs hrs)
  ·exact hg.no.elim
 |m+1,.code .ret::_,s,hg=>Run.go 1 (B7i hg)
 |m+1,.blk _::l,s,hg=>Run.go 1 (L2 hC (m:=m) hg)
 |m+1,.lp a::l,s,hg=>Run.lp (L2 hC (m:=m) hg)
 |m+1,.code (.dfr d)::l,s,hg=>Run.go 1 (L2 hC (m:=m) hg)
 |m+1,.code (.rng ..)::_,_,hg=>hg.no.elim
 |m+1,.beg::_,_,hg=>hg.no.elim
end
def exC(P:Program)(T:List (FuncId×Nat×AC×List RV))(lib:G8)(m:Nat):Nat→G8
 |0,_,_,_,_=>none
 | d+1,f,xs,h,n=>match lib f xs h n with
  |some l=>some l
  |none=>match look T f with
   |some e=>(gE (Nat.ble xs.length e.1) (exG P (exC P T lib m d) e.2.2 n m [.code e.2.1] ⟨A3 0 xs,h,n⟩)).map (C2S n)
   |none=>none
where
 look:List (FuncId×Nat×AC×List RV)→FuncId→Option (Nat×AC×List RV)
  | [],_=>none
  |e::r,f=>bif Nat.beq e.1 f then some e.2 else look r f
def A8(P:Program)(T:List (FuncId×Nat×AC×List RV)):Prop:= ∀e∈T,A6 P e.1=some e.2
theorem A8.nil{P:Program}:A8 P []:=fun e h=>by cases h
theorem A8.cons{P:Program}{T:List (FuncId×Nat×AC×List RV)}{f N:Nat}{ac:AC}{rs:List RV}(h:A6 P f=some (N,ac,rs))(hr:A8 P T):A8 P ((f,N,ac,rs)::T):=fun e he=>by
 rcases List.mem_cons.1 he with rfl|he
 ·exact h
 ·exact hr e he
theorem A8.look{P:Program}: ∀{T:List (FuncId×Nat×AC×List RV)},A8 P T→ ∀{f:FuncId} {c},exC.look T f=some c→A6 P f=some c
 | [],_,f,c,h=>by cases h
 | e::r,hT,f,c,h=>by
  simp only [exC.look]at h
  cases hb:Nat.beq e.1 f with
  |true=>
   rw [hb]at h;injection h with h
   rw [←Nat.eq_of_beq_eq_true hb,←h];exact hT e List.mem_cons_self
  |false=>rw [hb]at h;exact A8.look (fun e he=>hT e (List.mem_cons_of_mem _ he)) h
def C1Z:G8:=fun _ _ _ _=>none
theorem B5E{P:Program}:G6 P C1Z:=fun _ _ _ _ _ hg=>hg.no.elim
theorem B6K{P:Program}{T:List (FuncId×Nat×AC×List RV)}{lib:G8}(hT:A8 P T)(hl:G6 P lib){m:Nat}: ∀{d:Nat},G6 P (exC P T lib m d)
 |0,_,_,_,_,_,hg=>hg.no.elim
 | d+1,f,xs,h,n,k,hg=>by
  simp only [exC]at hg
  split at hg
  ·rename_i l he;exact hl f xs h n k (by rw [he];exact hg)
  ·split at hg
   ·rename_i e he
    refine C2T (fun k hg=> ?_) hg
    obtain⟨h1,hg⟩:=hg.g
    exact A0.enter (N:=e.1) (ac:=e.2.1) (rs:=e.2.2) (hT.look he) (Nat.le_of_ble_eq_true h1) (L2 (B6K hT hl) hg)
   ·exact hg.no.elim
def exR(P:Program)(T:List (FuncId×Nat×AC×List RV))(lib:G8)(m d:Nat)(fr:Nat)(f:FuncId)(xs:List V):Option V:=
 (exC P T lib m d f xs [] 0).map fun x=>frz fr x.2.1 x.1
theorem Pure.exec{P:Program}{T:List (FuncId×Nat×AC×List RV)}{lib:G8}(hT:A8 P T)(hl:G6 P lib){m d fr:Nat}{f:FuncId}{xs:List V}{r:V}(h:exR P T lib m d fr f xs=some r):Pure P f xs r:=by
 refine Pure.of fr (B6K (d:=d) (m:=m) hT hl f xs [] 0 _ ?_)
 obtain⟨x,h1,h2⟩:=Option.map_eq_some_iff.1 h
 exact⟨x,h1,h2⟩
def eqR(o:Option V)(r:V):Bool:=
 match o with
 |some v=>V.beq v r
 |none=>false
theorem Pure.execB{P:Program}{T:List (FuncId×Nat×AC×List RV)}{lib:G8}(hT:A8 P T)(hl:G6 P lib){m d fr:Nat}{f:FuncId}{xs:List V}{r:V}(h:eqR (exR P T lib m d fr f xs) r=true):Pure P f xs r:=by
 unfold eqR at h
 split at h
 ·rename_i v hv;exact Pure.exec hT hl (by rw [hv,V.beq_eq h])
 ·cases h
end Go.Abs
