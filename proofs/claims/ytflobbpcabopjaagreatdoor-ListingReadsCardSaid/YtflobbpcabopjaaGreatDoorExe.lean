/-
 Abstract code run as a program on known data: what it answers is a contract. No condition.
-/
import Derived.Test.YtflobbpcabopjaaGreatDoorWk
set_option linter.unusedVariables false set_option linter.unusedSimpArgs false namespace Go.Abs
variable {PK:R8}
abbrev P1:=Option (V×A2×Nat)
def G3(v:V)(h:A2)(n:Nat):P1:=some (v,h,n)
def A4M(o:Option V)(h:A2)(n:Nat):P1:=
 match o with
 |some v=>G3 v h n
 |none=>none
def gE(b:Bool)(r:P1):P1:=bif b then r else none
def F5(o:P1)(k:Res):Prop:= ∃x,o=some x∧k x.1 x.2.1 x.2.2
theorem F5.one{v:V}{h:A2}{n:Nat}{k:Res}(hg:F5 (G3 v h n) k):k v h n:=by
 obtain⟨l,h1,h2⟩:=hg
 injection h1 with h1
 subst h1
 exact h2
theorem F5.opt{o:Option V}{h:A2}{n:Nat}{k:Res}(hg:F5 (A4M o h n) k):J1 o k h n:=by
 cases o with
 |none=>obtain⟨l,h1,_⟩:=hg;cases h1
 |some v=>exact F5.one hg
theorem F5.g{b:Bool}{o:P1}{k:Res}(hg:F5 (gE b o) k):b=true∧F5 o k:=by
 cases b with
 |false=>obtain⟨l,h1,_⟩:=hg;cases h1
 |true=>exact⟨rfl,hg⟩
theorem F5.no{k:Res}(hg:F5 none k):False:=by obtain⟨l,h1,_⟩:=hg;cases h1
def B3s(es:List (List V))(sz:Nat):Bool:=es.all fun r=>Nat.beq r.length sz
theorem A3B{es:List (List V)}{sz:Nat}(h:B3s es sz=true):D5 es sz:=fun r hr=>Nat.eq_of_beq_eq_true (List.all_eq_true.1 h r hr)
def zle(a b:Int):Bool:=match b-a with
 | .ofNat _=>true
 | .negSucc _=>false
theorem V3{a b:Int}:zle a b=true↔a≤b:=by
 unfold zle
 split
 ·rename_i m h
  have h:b-a=(m:Int):=h
  simp only [true_iff];omega
 ·rename_i m h
  simp only [Bool.false_eq_true,false_iff];omega
def zlt(a b:Int):Bool:=zle (a+1) b
theorem A9S{a b:Int}:zlt a b=true↔a<b:=by unfold zlt;rw [V3];omega
def zeq(a b:Int):Bool:=match a,b with
 | .ofNat a,.ofNat b=>Nat.beq a b
 | .negSucc a,.negSucc b=>Nat.beq a b
 |_,_=>false
theorem B2T{a b:Int}:zeq a b=true↔a=b:=by
 unfold zeq
 cases a<;>cases b<;>simp<;>omega
theorem C3G(a b:Int):decide (a≤b)=zle a b:=by rw [Bool.eq_iff_iff,decide_eq_true_eq,V3]
theorem C3H(a b:Int):decide (a<b)=zlt a b:=by rw [Bool.eq_iff_iff,decide_eq_true_eq,A9S]
theorem C3F(a b:Int):decide (a=b)=zeq a b:=by rw [Bool.eq_iff_iff,decide_eq_true_eq,B2T]
def kEq:IntKind→IntKind→Bool
 | .i8,.i8| .i16,.i16| .i32,.i32| .i64,.i64| .u8,.u8| .u16,.u16| .u32,.u32| .u64,.u64=>true
 |_,_=>false
theorem B4l{a b:IntKind}:kEq a b=true↔a=b:=by cases a<;>cases b<;>simp [kEq]
def D2u(k:IntKind)(z:Int):Bool:=
 match k with
 | .i64=>zle (-9223372036854775808) z&&zle z 9223372036854775807
 |_=>true
theorem C6J{k:IntKind}{z:Int}(h:D2u k z=true):inR k z:=by
 cases k<;>simp only [D2u,inR,Bool.and_eq_true,V3]at h⊢
 exact h
def B2V(k:IntKind)(z:Int)(h:A2)(n:Nat):P1:=gE (D2u k z) (G3 (B7N k z) h n)
theorem F5.arith{j:IntKind}{z:Int}{h:A2}{n:Nat}{k:Res}(hg:F5 (B2V j z h n) k):V4 j z k h n:=⟨C6J hg.g.1,hg.g.2.one⟩
theorem B2e{a b:Nat}:Nat.beq a b=true↔a=b:=⟨Nat.eq_of_beq_eq_true,fun h=>h ▸ Nat.beq_refl a⟩
def M3:List UInt8→List UInt8→Bool
 | [],[]=>true
 |a::r,b::s=>Nat.beq a.toNat b.toNat&&M3 r s
 |_,_=>false
theorem o8: ∀{a b:List UInt8},M3 a b=true↔a=b
 | [],[]=>by simp [M3]
 | [],_::_=>by simp [M3]
 |_::_,[]=>by simp [M3]
 |a::r,b::s=>by
  simp only [M3,Bool.and_eq_true,o8,List.cons.injEq,B2e]
  rw [←UInt8.toNat_inj]
theorem A9x(a b:List UInt8):decide (a=b)=M3 a b:=by rw [Bool.eq_iff_iff,decide_eq_true_eq,o8]
def D1C(op:BinOp)(x y:V)(h:A2)(n:Nat):P1:=
 match x,y with
 | .int j a,.int j' b=>gE (kEq j j') (match op with
  | .add=>B2V j (a+b) h n
  | .sub=>B2V j (a-b) h n
  | .mul=>B2V j (a*b) h n
  | .quo=>gE (!zeq b 0) (B2V j (a.tdiv b) h n)
  | .rem=>gE (!zeq b 0) (G3 (.int j (a.tmod b)) h n)
  | .eql=>G3 (.bool (zeq a b)) h n
  | .neq=>G3 (.bool (!zeq a b)) h n
  | .lss=>G3 (.bool (zlt a b)) h n
  | .leq=>G3 (.bool (zle a b)) h n
  | .gtr=>G3 (.bool (zlt b a)) h n
  | .geq=>G3 (.bool (zle b a)) h n
  | .and=>G3 (.int j (A2c .and j a b)) h n
  | .or=>G3 (.int j (A2c .or j a b)) h n
  | .xor=>G3 (.int j (A2c .xor j a b)) h n
  | .andNot=>G3 (.int j (A2c .andNot j a b)) h n
  |_=>none)
 | .str a,.str b=>match op with
  | .add=>gE (Nat.ble (a.length+b.length) 1099511627776) (G3 (.str (a++b)) h n)
  | .eql=>G3 (.bool (M3 a b)) h n
  | .neq=>G3 (.bool (!M3 a b)) h n
  | .lss=>G3 (.bool (O8 a b)) h n
  | .geq=>G3 (.bool (!O8 a b)) h n
  | .leq=>G3 (.bool (O8 a b||M3 a b)) h n
  | .gtr=>G3 (.bool !(O8 a b||M3 a b)) h n
  |_=>none
 |_,_=>none
theorem C3n{a b:Int}(h:(!zeq a b)=true):a≠b:=fun e=>by
 rw [B2T.2 e]at h;cases h
theorem F5.bin{op:BinOp}{x y:V}{h:A2}{n:Nat}{k:Res}(hg:F5 (D1C op x y h n) k):V5 op x y k h n:=by
 unfold D1C at hg
 split at hg
 ·rename_i j a j' b
  obtain⟨h1,hg⟩:=hg.g
  have h1:=B4l.1 h1
  unfold V5
  refine⟨h1,?_⟩
  cases op<;>simp only at hg⊢
  case add=>exact hg.arith
  case sub=>exact hg.arith
  case mul=>exact hg.arith
  case quo=>exact⟨C3n hg.g.1,hg.g.2.arith⟩
  case rem=>exact⟨C3n hg.g.1,hg.g.2.one⟩
  case eql=>rw [C3F];exact hg.one
  case neq=>rw [decide_not,C3F];exact hg.one
  case lss=>rw [C3H];exact hg.one
  case leq=>rw [C3G];exact hg.one
  case gtr=>rw [C3H];exact hg.one
  case geq=>rw [C3G];exact hg.one
  case and=>exact hg.one
  case or=>exact hg.one
  case xor=>exact hg.one
  case andNot=>exact hg.one
  all_goals exact hg.no
 ·rename_i a b
  unfold V5
  cases op<;>simp only at hg⊢
  case add=>exact⟨Nat.le_of_ble_eq_true hg.g.1,hg.g.2.one⟩
  case eql=>rw [A9x];exact hg.one
  case neq=>rw [decide_not,A9x];exact hg.one
  case lss=>exact hg.one
  case geq=>exact hg.one
  case leq=>rw [A9x];exact hg.one
  case gtr=>rw [A9x];exact hg.one
  all_goals exact hg.no
 ·exact JJ
def unE(op:UnOp)(x:V)(h:A2)(n:Nat):P1:=
 match op,x with
 | .neg,.int j a=>B2V j (0-a) h n
 | .not,.bool b=>G3 (.bool !b) h n
 | .xor,.int j a=>G3 (.int j (A2c .xor j (bif j.signed then -1 else j.max) a)) h n
 |_,_=>none
theorem F5.un{op:UnOp}{x:V}{h:A2}{n:Nat}{k:Res}(hg:F5 (unE op x h n) k):unK op x k h n:=by
 unfold unE at hg
 split at hg
 ·exact hg.arith
 ·exact hg.one
 ·exact hg.one
 ·exact JJ
def C1E(sz:Nat)(x i:V)(h:A2)(n:Nat):P1:=
 match i with
 | .int _ z=>match x with
  | .sl b st i0 m=>gE (zle 0 z&&zlt z m&&(match B1r (A2.get h b st)with|some s=>Nat.beq s sz|none=>false)) (G3 (.ptr b st (i0+z.toNat) 0) h n)
  | .isl es=>gE (zle 0 z&&zlt z es.length&&B3s es sz) (G3 (.iptr es z.toNat 0) h n)
  |_=>none
 |_=>none
theorem F5.iaddr{sz:Nat}{x i:V}{h:A2}{n:Nat}{k:Res}(hg:F5 (C1E sz x i h n) k):A3b sz x i k h n:=by
 unfold C1E at hg
 split at hg
 ·split at hg
  ·obtain⟨h1,hg⟩:=hg.g
   simp only [Bool.and_eq_true,V3,A9S]at h1
   obtain⟨⟨a,b⟩,c⟩:=h1
   refine⟨a,b,?_,hg.one⟩
   exact KG
  ·obtain⟨h1,hg⟩:=hg.g
   simp only [Bool.and_eq_true,V3,A9S]at h1
   exact⟨h1.1.1,h1.1.2,A3B h1.2,hg.one⟩
  ·exact JJ
 ·exact JJ
def B8n(len sz:Nat)(x i:V)(h:A2)(n:Nat):P1:=
 match i with
 | .int _ z=>match x with
  | .ptr b st i0 j=>gE (zle 0 z&&zlt z len) (G3 (.ptr b st i0 (j+z.toNat*sz)) h n)
  | .iptr es i0 j=>gE (zle 0 z&&zlt z len) (G3 (.iptr es i0 (j+z.toNat*sz)) h n)
  |_=>none
 |_=>none
theorem F5.iaddrA{len sz:Nat}{x i:V}{h:A2}{n:Nat}{k:Res}(hg:F5 (B8n len sz x i h n) k):A1M len sz x i k h n:=by
 unfold B8n at hg
 split at hg
 ·split at hg
  ·exact Kc
  ·exact Kc
  ·exact JJ
 ·exact JJ
def D2s(x i:V)(h:A2)(n:Nat):P1:=
 match x,i with
 | .str s,.int _ z=>gE (zle 0 z) (A4M ((s[z.toNat]?).map fun b=> .int .u8 b.toNat) h n)
 |_,_=>none
theorem F5.idx{x i:V}{h:A2}{n:Nat}{k:Res}(hg:F5 (D2s x i h n) k):B8o x i k h n:=by
 unfold D2s at hg
 split at hg
 ·exact⟨V3.1 hg.g.1,hg.g.2.opt⟩
 ·exact JJ
def shE(left:Bool)(x y:V)(h:A2)(n:Nat):P1:=
 match x,y with
 | .int j a,.int _ b=>gE (zle 0 b) (G3 (.int j (shZ left j a b)) h n)
 |_,_=>none
theorem F5.sh{l:Bool}{x y:V}{h:A2}{n:Nat}{k:Res}(hg:F5 (shE l x y h n) k):shK l x y k h n:=by
 unfold shE at hg
 split at hg
 ·exact⟨V3.1 hg.g.1,hg.g.2.one⟩
 ·exact JJ
def C6I(len sz m:Nat)(agg:Bool)(x i:V)(h:A2)(n:Nat):P1:=
 match x,i with
 | .agg cs,.int _ z=>gE (zle 0 z&&zlt z len) (A4M (I1 cs (z.toNat*sz) m agg) h n)
 |_,_=>none
theorem F5.idxA{len sz m:Nat}{agg:Bool}{x i:V}{h:A2}{n:Nat}{k:Res}(hg:F5 (C6I len sz m agg x i h n) k):A8k len sz m agg x i k h n:=by
 unfold C6I at hg
 split at hg
 ·obtain⟨h1,hg⟩:=hg.g
  simp only [Bool.and_eq_true,V3,A9S]at h1
  exact⟨h1.1,h1.2,hg.opt⟩
 ·exact JJ
def D1T(z:List V)(x:V)(h:A2)(n:Nat):P1:=
 match x with
 | .nils=>G3 (.tup []) h n
 | .sl b st i m=>match A2.get h b st with
  |some (.rows sz rs)=>gE (Nat.beq sz z.length&&Nat.ble (i+m) rs.length) (G3 (.tup []) (A2.put h b st (.rows sz (rs.take i++List.replicate m z++rs.drop (i+m)))) n)
  |_=>none
 |_=>none
theorem F5.clr{z:List V}{x:V}{h:A2}{n:Nat}{k:Res}(hg:F5 (D1T z x h n) k):B3W z x k h n:=by
 unfold D1T at hg
 unfold B3W
 exact XE
def D2S(nm:Nat)(rs:Option (List (List V)))(h:A2)(n:Nat):P1:=
 match rs with
 |some rs=>gE (Nat.ble 1 rs.length) (G3 (.sl nm n 0 rs.length) (A2.put h nm n (.raw rs)) (n+1))
 |none=>none
theorem F5.raw{nm:Nat}{rs:Option (List (List V))}{h:A2}{n:Nat}{k:Res}(hg:F5 (D2S nm rs h n) k):C2h nm rs k h n:=by
 unfold D2S at hg
 split at hg
 ·obtain⟨h1,hg⟩:=hg.g
  exact⟨Nat.le_of_ble_eq_true h1,hg.one⟩
 ·exact JJ
def D1Z(x:V)(h:A2)(n:Nat):P1:=
 match x with
 | .sl b st 0 m=>match A2.get h b st with
  |some (.raw rs)=>gE (Nat.beq m rs.length) (G3 (.sl b st 0 m) (A2.put h b st (.rows 1 rs)) n)
  |_=>none
 |_=>none
theorem F5.cvr{x:V}{h:A2}{n:Nat}{k:Res}(hg:F5 (D1Z x h n) k):B8f x k h n:=by
 unfold D1Z at hg
 unfold B8f
 split at hg
 ·simp only
  split at hg
  ·rename_i he
   obtain⟨h1,hg⟩:=hg.g
   rw [he]
   exact⟨Nat.eq_of_beq_eq_true h1,hg.one⟩
  ·exact JJ
 ·exact JJ
def D1K(nm sz:Nat)(cs:Option (List V))(h:A2)(n:Nat):P1:=
 match cs with
 |some cs=>gE (Nat.beq cs.length sz) (G3 (.ptr nm n 0 0) (A2.put h nm n (.rows sz [cs])) (n+1))
 |none=>none
def C5Y(T nm sz:Nat)(cs:Option (List V))(h:A2)(n:Nat):P1:=
 match cs with
 |some cs=>gE (Nat.beq cs.length sz) (G3 (.ptr nm n 0 0) (A2.put h nm n (.tb T sz [cs])) (n+1))
 |none=>none
theorem F5.boxt{T nm sz:Nat}{cs:Option (List V)}{h:A2}{n:Nat}{k:Res}(hg:F5 (C5Y T nm sz cs h n) k):B3z T nm sz cs k h n:=by
 unfold C5Y at hg
 exact KI
theorem F5.box{nm sz:Nat}{cs:Option (List V)}{h:A2}{n:Nat}{k:Res}(hg:F5 (D1K nm sz cs h n) k):B7X nm sz cs k h n:=by
 unfold D1K at hg
 exact KI
def D2Z(nm sz:Nat)(rs:Option (List (List V)))(h:A2)(n:Nat):P1:=
 match rs with
 |some rs=>G3 (.sl nm n 0 rs.length) (A2.put h nm n (.rows sz rs)) (n+1)
 |none=>none
theorem F5.row{nm sz:Nat}{rs:Option (List (List V))}{h:A2}{n:Nat}{k:Res}(hg:F5 (D2Z nm sz rs h n) k):C2n nm sz rs k h n:=by
 unfold D2Z at hg
 split at hg
 ·exact hg.one
 ·exact JJ
def D2w(rs:Option (List (List V)))(h:A2)(n:Nat):P1:=
 match rs with
 |some rs=>G3 (.isl rs) h n
 |none=>none
theorem F5.isl{rs:Option (List (List V))}{h:A2}{n:Nat}{k:Res}(hg:F5 (D2w rs h n) k):B9L rs k h n:=by
 unfold D2w at hg
 split at hg
 ·exact hg.one
 ·exact JJ
def C6H(h:Option A2)(n:Nat):P1:=
 match h with
 |some h=>G3 .undef h n
 |none=>none
theorem F5.heap{h:Option A2}{n:Nat}{k:Res}(hg:F5 (C6H h n) k):A5h h k n:=by
 unfold C6H at hg
 split at hg
 ·exact hg.one
 ·exact JJ
def C8v(L nm sz:Nat)(s:V)(xs:Option (List (List V)))(h:A2)(n:Nat):P1:=
 match xs with
 |none=>none
 | some xs=>gE (B3s xs sz) (match s with
  | .nils=>gE (Nat.ble xs.length L) (G3 (.sl nm n 0 xs.length) (A2.put h nm n (.rows sz xs)) (n+1))
  | .sl b st i m=>match A2.get h b st with
   | some (.rows sz' rs)=>gE (Nat.beq sz' sz&&Nat.ble (i+m) rs.length&&Nat.ble (m+xs.length) L)
     (G3 (.sl b n 0 (m+xs.length)) (A2.put h b n (.rows sz ((rs.drop i).take m++xs))) (n+1))
   |_=>none
  |_=>none)
theorem F5.app{L nm sz:Nat}{s:V}{xs:Option (List (List V))}{h:A2}{n:Nat}{k:Res}(hg:F5 (C8v L nm sz s xs h n) k):A7U L nm sz s xs k h n:=by
 unfold C8v at hg
 split at hg
 ·exact JJ
 ·obtain⟨h0,hg⟩:=hg.g
  unfold A7U
  refine⟨A3B h0,?_⟩
  split at hg
  ·exact⟨Nat.le_of_ble_eq_true hg.g.1,hg.g.2.one⟩
  ·simp only
   split at hg
   ·rename_i he
    obtain⟨h1,hg⟩:=hg.g
    simp only [Bool.and_eq_true,B2e,Nat.ble_eq]at h1
    rw [he]
    exact⟨h1.1.1,h1.1.2,h1.2,hg.one⟩
   ·exact JJ
  ·exact JJ
def C5P(T nm sz:Nat)(s:V)(xs:Option (List (List V)))(h:A2)(n:Nat):P1:=
 match xs with
 |none=>none
 | some xs=>gE (B3s xs sz&&Nat.beq sz 1) (match s with
  | .nils=>gE (Nat.ble xs.length 137438953472) (G3 (.sl nm n 0 xs.length) (A2.put h nm n (.tb T sz xs)) (n+1))
  | .sl b st i m=>match A2.get h b st with
   | some (.tb T' sz' rs)=>gE (Nat.beq i 0&&Nat.beq T' T&&Nat.beq sz' sz&&Nat.beq m rs.length&&Nat.ble (m+xs.length) 137438953472)
     (G3 (.sl b n 0 (m+xs.length)) (A2.put h b n (.tb T sz (rs++xs))) (n+1))
   |_=>none
  |_=>none)
theorem F5.appt{T nm sz:Nat}{s:V}{xs:Option (List (List V))}{h:A2}{n:Nat}{k:Res}(hg:F5 (C5P T nm sz s xs h n) k):A4a T nm sz s xs k h n:=by
 unfold C5P at hg
 split at hg
 ·exact JJ
 ·obtain⟨h0,hg⟩:=hg.g
  rw [Bool.and_eq_true]at h0
  unfold A4a
  refine⟨A3B h0.1,Nat.eq_of_beq_eq_true h0.2,?_⟩
  split at hg
  ·exact⟨Nat.le_of_ble_eq_true hg.g.1,hg.g.2.one⟩
  ·simp only
   split at hg
   ·rename_i he
    obtain⟨h1,hg⟩:=hg.g
    simp only [Bool.and_eq_true,B2e,Nat.ble_eq]at h1
    rw [he]
    exact⟨h1.1.1.1.1,h1.1.1.1.2,h1.1.1.2,h1.1.2,h1.2,hg.one⟩
   ·exact JJ
  ·exact JJ
def D0s(sz:Nat)(d:V)(xs:Option (List (List V)))(h:A2)(n:Nat):P1:=
 match xs with
 |none=>none
 | some xs=>gE (B3s xs sz) (match d with
  | .nils=>G3 (.int .i64 0) h n
  | .sl b st i m=>match A2.get h b st with
   | some (.rows sz' rs)=>gE (Nat.beq sz' sz&&Nat.ble (i+m) rs.length)
     (G3 (.int .i64 (min xs.length m:Nat)) (A2.put h b st (.rows sz (rs.take i++xs.take (min xs.length m)++rs.drop (i+min xs.length m)))) n)
   |_=>none
  |_=>none)
theorem F5.copy{sz:Nat}{d:V}{xs:Option (List (List V))}{h:A2}{n:Nat}{k:Res}(hg:F5 (D0s sz d xs h n) k):D0t sz d xs k h n:=by
 unfold D0s at hg
 split at hg
 ·exact JJ
 ·obtain⟨h0,hg⟩:=hg.g
  unfold D0t
  refine⟨A3B h0,?_⟩
  exact XE
def C6X(nm:Nat)(z:List V)(x:V)(h:A2)(n:Nat):P1:=
 match x with
 | .int .i64 m=>gE (zle 0 m&&zle m 137438953472) (G3 (.sl nm n 0 m.toNat) (A2.put h nm n (.rows z.length (List.replicate m.toNat z))) (n+1))
 |_=>none
theorem F5.mksl{nm:Nat}{z:List V}{x:V}{h:A2}{n:Nat}{k:Res}(hg:F5 (C6X nm z x h n) k):B3I nm z x k h n:=by
 unfold C6X at hg
 split at hg
 ·obtain⟨h1,hg⟩:=hg.g
  simp only [Bool.and_eq_true,V3]at h1
  exact⟨h1.1,h1.2,hg.one⟩
 ·exact JJ
def D3f(sz:Nat)(x:V)(lo hi:Option V)(h:A2)(n:Nat):P1:=
 match x with
 | .sl b st i m=>match H8 0 lo,H8 m hi with
  |some l,some u=>gE ((match B1r (A2.get h b st)with|some s=>Nat.beq s sz|none=>false)&&zle 0 l&&zle l u&&zle u m) (G3 (.sl b st (i+l.toNat) (u-l).toNat) h n)
  |_,_=>none
 | .isl es=>match H8 0 lo,H8 es.length hi with
  |some l,some u=>gE (B3s es sz&&zle 0 l&&zle l u&&zle u es.length) (G3 (.isl ((es.drop l.toNat).take (u-l).toNat)) h n)
  |_,_=>none
 | .nils=>match H8 0 lo,H8 0 hi with
  |some l,some u=>gE (zeq l 0&&zeq u 0) (G3 .nils h n)
  |_,_=>none
 |_=>none
theorem F5.slc{sz:Nat}{x:V}{lo hi:Option V}{h:A2}{n:Nat}{k:Res}(hg:F5 (D3f sz x lo hi h n) k):B2J sz x lo hi k h n:=by
 unfold D3f at hg
 unfold B2J
 split at hg
 ·simp only
  split at hg
  ·rename_i h1 h2
   obtain⟨h0,hg⟩:=hg.g
   simp only [Bool.and_eq_true,V3]at h0
   rw [h1,h2]
   refine⟨?_,h0.1.1.2,h0.1.2,h0.2,hg.one⟩
   have c:=h0.1.1.1
   exact KG
  ·exact JJ
 ·simp only
  split at hg
  ·rename_i h1 h2
   obtain⟨h0,hg⟩:=hg.g
   simp only [Bool.and_eq_true,V3]at h0
   rw [h1,h2]
   exact⟨A3B h0.1.1.1,h0.1.1.2,h0.1.2,h0.2,hg.one⟩
  ·exact JJ
 ·simp only
  split at hg
  ·rename_i h1 h2
   obtain⟨h0,hg⟩:=hg.g
   simp only [Bool.and_eq_true,B2T]at h0
   rw [h1,h2]
   exact⟨h0.1,h0.2,hg.one⟩
  ·exact JJ
 ·exact JJ
def D3i(x:V)(lo hi:Option V)(h:A2)(n:Nat):P1:=
 match x with
 | .str s=>match H8 0 lo,H8 s.length hi with
  |some l,some u=>gE (zle 0 l&&zle l u&&zle u s.length) (G3 (.str ((s.drop l.toNat).take (u-l).toNat)) h n)
  |_,_=>none
 |_=>none
theorem F5.sls{x:V}{lo hi:Option V}{h:A2}{n:Nat}{k:Res}(hg:F5 (D3i x lo hi h n) k):B4b x lo hi k h n:=by
 unfold D3i at hg
 unfold B4b
 split at hg
 ·simp only
  split at hg
  ·rename_i h1 h2
   obtain⟨h0,hg⟩:=hg.g
   simp only [Bool.and_eq_true,V3]at h0
   rw [h1,h2]
   exact⟨h0.1.1,h0.1.2,h0.2,hg.one⟩
  ·exact JJ
 ·exact JJ
def B8p(k:V):List (V×V)→Bool
 | []=>true
 |e::r=>(B9N k e.1).isSome&&B8p k r
theorem B5j{k:V}: ∀{l:List (V×V)},B8p k l=true→C3c k l
 | [],_=>trivial
 |_::_,h=>by
  simp only [B8p,Bool.and_eq_true]at h
  exact⟨h.1,B5j h.2⟩
def D0M(kd:Nat)(z:V)(ok:Bool)(m key:V)(h:A2)(n:Nat):P1:=
 match m with
 | .nilm=>gE (C6M kd key) (G3 (B9T z ok none) h n)
 | .mp b st=>match A2.get h b st with
  |some (.map es)=>gE (C6M kd key&&B8p key es) (G3 (B9T z ok (C3h key es)) h n)
  |_=>none
 |_=>none
theorem F5.look{kd:Nat}{z:V}{ok:Bool}{m key:V}{h:A2}{n:Nat}{k:Res}(hg:F5 (D0M kd z ok m key h n) k):D0N kd z ok m key k h n:=by
 unfold D0M at hg
 unfold D0N
 split at hg
 ·exact⟨hg.g.1,hg.g.2.one⟩
 ·simp only
  split at hg
  ·rename_i he
   obtain⟨h1,hg⟩:=hg.g
   simp only [Bool.and_eq_true]at h1
   rw [he]
   exact⟨h1.1,B5j h1.2,hg.one⟩
  ·exact JJ
 ·exact JJ
abbrev G9:=FuncId→List V→A2→Nat→P1
def C6c(P:Program)(C:G9)(f:V)(xs:List V)(h:A2)(n:Nat):P1:=
 match f with
 | .fn g cs=>gE (M4 P g) (C g (xs++cs) h n)
 |_=>none
def D2f(fn neg:Bool)(x:V)(h:A2)(n:Nat):P1:=
 match fn,x with
 |false,.nils=>G3 (.bool !neg) h n
 |false,.isl (_::_)=>G3 (.bool neg) h n
 |false,.sl _ _ _ (_+1)=>G3 (.bool neg) h n
 |true,.fn _ _=>G3 (.bool neg) h n
 |true,.cst .nilFunc=>G3 (.bool !neg) h n
 |_,_=>none
theorem F5.eqn{fn neg:Bool}{x:V}{h:A2}{n:Nat}{k:Res}(hg:F5 (D2f fn neg x h n) k):A6u fn neg x k h n:=by
 unfold D2f at hg
 split at hg
 ·exact hg.one
 ·exact⟨hg.one,fun e=>by cases e⟩
 ·exact⟨hg.one,fun e=>by cases e⟩
 ·exact hg.one
 ·exact hg.one
 ·exact JJ
def C5X(sz:Nat)(cs:Option (List V))(h:A2)(n:Nat):P1:=
 match cs with
 |some cs=>bif Nat.beq cs.length sz then G3 (.iptr [cs] 0 0) h n else none
 |none=>none
theorem F5.boxi{sz:Nat}{cs:Option (List V)}{h:A2}{n:Nat}{k:Res}(hg:F5 (C5X sz cs h n) k):B1t sz cs k h n:=by
 unfold C5X at hg
 unfold B1t
 split at hg
 ·rename_i cs
  cases hb:Nat.beq cs.length sz with
  |true=>rw [hb]at hg;exact⟨Nat.eq_of_beq_eq_true hb,hg.one⟩
  |false=>rw [hb]at hg;exact hg.no.elim
 ·exact JJ
def C1S(m:Nat)(agg:Bool)(x:V)(h:A2)(n:Nat):P1:=
 match x with
 | .iptr es i j=>A4M (C3s es i fun row=>I1 row j m agg) h n
 |_=>none
theorem F5.loadi{m:Nat}{agg:Bool}{x:V}{h:A2}{n:Nat}{k:Res}(hg:F5 (C1S m agg x h n) k):A3p m agg x k h n:=by
 unfold C1S at hg
 unfold A3p
 split at hg
 ·exact hg.opt
 ·exact JJ
def exO(P:Program)(C:G9)(s:St):AO→P1
 | .mov x=>G3 (s.ev x) s.h s.n
 | .pick c a b=>A4M (C0o (s.ev c) (s.ev a) (s.ev b)) s.h s.n
 | .nilck x=>A4M (B5w (s.ev x)) s.h s.n
 | .box nm sz x=>D1K nm sz (U2 (s.ev x)) s.h s.n
 | .boxt T nm sz x=>C5Y T nm sz (U2 (s.ev x)) s.h s.n
 | .appt T nm sz b x=>C5P T nm sz (s.ev b) (B2K s.h (s.ev x)) s.h s.n
 | .build z ps=>A4M ((A2m s z ps).map .agg) s.h s.n
 | .mkrow nm sz xs=>D2Z nm sz (I9 sz s xs) s.h s.n
 | .mkisl sz xs=>D2w (I9 sz s xs) s.h s.n
 | .load m agg x=>A4M (A8v s.h (s.ev x) m agg) s.h s.n
 | .store m x v=>C6H (B6b s.h (s.ev x) (s.ev v) m) s.n
 | .faddr off x=>A4M (B4Y off (s.ev x)) s.h s.n
 | .iaddr sz x i=>C1E sz (s.ev x) (s.ev i) s.h s.n
 | .iaddrA len sz x i=>B8n len sz (s.ev x) (s.ev i) s.h s.n
 | .fld off m agg x=>A4M (C6u off m agg (s.ev x)) s.h s.n
 | .idx x i=>D2s (s.ev x) (s.ev i) s.h s.n
 | .ext i x=>A4M (C6s i (s.ev x)) s.h s.n
 | .bin op x y=>D1C op (s.ev x) (s.ev y) s.h s.n
 | .binw op x y=>A4M (B4C op (s.ev x) (s.ev y)) s.h s.n
 | .eqp kind neg x y=>A4M (bif B3E kind (s.ev x)then C1w neg (s.ev x) (s.ev y)else none) s.h s.n
 | .eqa neg t x y=>A4M (C6o neg t (s.ev x) (s.ev y)) s.h s.n
 | .un op x=>unE op (s.ev x) s.h s.n
 | .negw x=>A4M (B7p (s.ev x)) s.h s.n
 | .conv j x=>A4M (B9r j (s.ev x)) s.h s.n
 | .bst x=>A4M (C1k (A4E s.h (s.ev x))) s.h s.n
 | .mkraw nm xs=>D2S nm (I9 1 s xs) s.h s.n
 | .cvr x=>D1Z (s.ev x) s.h s.n
 | .isnil neg x=>A4M (B5g neg (s.ev x)) s.h s.n
 | .len kind x=>A4M (C6P s.h kind (s.ev x)) s.h s.n
 | .lenc m=>G3 (.int .i64 m) s.h s.n
 | .mm mx xs=>A4M (mmV mx (xs.map s.ev)) s.h s.n
 | .app nm sz b x=>C8v 137438953472 nm sz (s.ev b) (B2K s.h (s.ev x)) s.h s.n
 | .apb L nm sz b x=>C8v L nm sz (s.ev b) (B2K s.h (s.ev x)) s.h s.n
 | .mksl nm z x=>C6X nm z (s.ev x) s.h s.n
 | .slc sz x lo hi=>D3f sz (s.ev x) (lo.map s.ev) (hi.map s.ev) s.h s.n
 | .sls x lo hi=>D3i (s.ev x) (lo.map s.ev) (hi.map s.ev) s.h s.n
 | .mkfn f xs=>G3 (.fn f (xs.map s.ev)) s.h s.n
 | .sh l x y=>shE l (s.ev x) (s.ev y) s.h s.n
 | .idxA len sz m agg x i=>C6I len sz m agg (s.ev x) (s.ev i) s.h s.n
 | .clr z x=>D1T z (s.ev x) s.h s.n
 | .call f xs=>C f (xs.map s.ev) s.h s.n
 | .callp f xs=>C f (xs.map s.ev) s.h s.n
 | .pan _=>none
 | .boxi sz x=>C5X sz (U2 (s.ev x)) s.h s.n
 | .loadi m agg x=>C1S m agg (s.ev x) s.h s.n
 | .callv f xs=>C6c P C (s.ev f) (xs.map s.ev) s.h s.n
 | .pcall .. =>none
 | .eqn fn neg x=>D2f fn neg (s.ev x) s.h s.n
 | .bad=>none
def G2(P:Program)(C:G9):Prop:= ∀f xs h n k,F5 (C f xs h n) k→A0 P f xs h n k
theorem C4r{P:Program}{C:G9}(hC:G2 P C){s:St}{o:AO}{k:Res}(hg:F5 (exO P C s o) k):A8 P PK o s k:=by
 cases o<;>simp only [exO]at hg<;>simp only [A8]
 case mov=>exact hg.one
 case pick=>exact hg.opt
 case nilck=>exact hg.opt
 case box=>exact hg.box
 case boxt=>exact hg.boxt
 case appt=>exact hg.appt
 case build=>exact hg.opt
 case mkrow=>exact hg.row
 case mkisl=>exact hg.isl
 case load=>exact hg.opt
 case store=>exact hg.heap
 case faddr=>exact hg.opt
 case iaddr=>exact hg.iaddr
 case iaddrA=>exact hg.iaddrA
 case fld=>exact hg.opt
 case idx=>exact hg.idx
 case ext=>exact hg.opt
 case bin=>exact hg.bin
 case binw=>exact hg.opt
 case eqp=>exact hg.opt
 case eqa=>exact hg.opt
 case un=>exact hg.un
 case negw=>exact hg.opt
 case conv=>exact hg.opt
 case bst=>exact hg.opt
 case mkraw=>exact hg.raw
 case cvr=>exact hg.cvr
 case isnil=>exact hg.opt
 case len=>exact hg.opt
 case lenc=>exact hg.one
 case mm=>exact hg.opt
 case app=>exact hg.app
 case apb=>exact hg.app
 case mksl=>exact hg.mksl
 case slc=>exact hg.slc
 case sls=>exact hg.sls
 case mkfn=>exact hg.one
 case sh=>exact hg.sh
 case idxA=>exact hg.idxA
 case clr=>exact hg.clr
 case call=>exact hC _ _ _ _ _ hg
 case callp=>exact(hC _ _ _ _ _ hg).toP
 case boxi=>exact hg.boxi
 case pan=>exact hg.no.elim
 case loadi=>exact hg.loadi
 case callv=>
  unfold C6c at hg
  split at hg
  ·rename_i g cs he
   rw [he]
   exact⟨hg.g.1,hC _ _ _ _ _ hg.g.2⟩
  ·exact JJ
 case pcall=>exact hg.no.elim
 case eqn=>exact hg.eqn
 case bad=>exact hg.no
def bEq:Bool→Bool→Bool
 |true,true|false,false=>true
 |_,_=>false
theorem C8B{a b:Bool}(h:bEq a b=true):a=b:=by cases a<;>cases b<;>first|rfl|cases h
def C6j:Value→Value→Bool
 | .nilIface,.nilIface=>true
 | .nilFunc,.nilFunc=>true
 | .tuple ⟨[]⟩,.tuple ⟨[]⟩=>true
 |_,_=>false
theorem C6k{a b:Value}(h:C6j a b=true):a=b:=by
 unfold C6j at h
 split at h
 ·rfl
 ·rfl
 ·rfl
 ·cases h
mutual
def V.beq:V→V→Bool
 | .undef,.undef=>true
 | .bool a,.bool b=>bEq a b
 | .int k n,.int k' n'=>kEq k k'&&zeq n n'
 | .str a,.str b=>M3 a b
 | .agg a,.agg b=>V.beqL a b
 | .tup a,.tup b=>V.beqL a b
 | .nilp,.nilp=>true
 | .ptr b st i j,.ptr b' st' i' j'=>Nat.beq b b'&&(Nat.beq st st'&&(Nat.beq i i'&&Nat.beq j j'))
 | .nils,.nils=>true
 | .sl b st i j,.sl b' st' i' j'=>Nat.beq b b'&&(Nat.beq st st'&&(Nat.beq i i'&&Nat.beq j j'))
 | .isl a,.isl b=>V.beqLL a b
 | .iptr a i j,.iptr b i' j'=>V.beqLL a b&&(Nat.beq i i'&&Nat.beq j j')
 | .nilm,.nilm=>true
 | .mp b st,.mp b' st'=>Nat.beq b b'&&Nat.beq st st'
 | .fn f cs,.fn g ds=>Nat.beq f g&&V.beqL cs ds
 | .err,.err=>true
 | .cst v,.cst w=>C6j v w
 | .anyi k,.anyi k'=>kEq k k'
 |_,_=>false
def V.beqL:List V→List V→Bool
 | [],[]=>true
 |a::r,b::s=>V.beq a b&&V.beqL r s
 |_,_=>false
def V.beqLL:List (List V)→List (List V)→Bool
 | [],[]=>true
 |a::r,b::s=>V.beqL a b&&V.beqLL r s
 |_,_=>false
end
mutual
theorem V.beq_eq: ∀{a b:V},V.beq a b=true→a=b
 | .undef,b,h=>by cases b<;>first|rfl|simp [V.beq]at h
 | .bool a,b,h=>by
  cases b<;>simp only [V.beq,Bool.false_eq_true]at h
  rw [C8B h]
 | .int k n,b,h=>by
  cases b<;>simp only [V.beq,Bool.false_eq_true,Bool.and_eq_true]at h
  rw [B4l.1 h.1,B2T.1 h.2]
 | .str a,b,h=>by
  cases b<;>simp only [V.beq,Bool.false_eq_true]at h
  rw [o8.1 h]
 | .agg a,b,h=>by
  cases b<;>simp only [V.beq,Bool.false_eq_true]at h
  rw [V.beqL_eq h]
 | .tup a,b,h=>by
  cases b<;>simp only [V.beq,Bool.false_eq_true]at h
  rw [V.beqL_eq h]
 | .nilp,b,h=>by cases b<;>first|rfl|simp [V.beq]at h
 | .ptr b st i j,x,h=>by
  exact YU
 | .nils,b,h=>by cases b<;>first|rfl|simp [V.beq]at h
 | .sl b st i j,x,h=>by
  exact YU
 | .isl a,b,h=>by
  cases b<;>simp only [V.beq,Bool.false_eq_true]at h
  rw [V.beqLL_eq h]
 | .iptr a i j,b,h=>by
  cases b<;>simp only [V.beq,Bool.false_eq_true,Bool.and_eq_true,B2e]at h
  obtain⟨h1,rfl,rfl⟩:=h;rw [V.beqLL_eq h1]
 | .nilm,b,h=>by cases b<;>first|rfl|simp [V.beq]at h
 | .mp b st,x,h=>by
  cases x<;>simp only [V.beq,Bool.false_eq_true,Bool.and_eq_true,B2e]at h
  obtain⟨rfl,rfl⟩:=h;rfl
 | .fn f cs,x,h=>by
  cases x<;>simp only [V.beq,Bool.false_eq_true,Bool.and_eq_true,B2e]at h
  obtain⟨rfl,h1⟩:=h;rw [V.beqL_eq h1]
 | .cst v,b,h=>by
  cases b<;>simp only [V.beq,Bool.false_eq_true]at h
  rw [C6k h]
 | .err,b,h=>by cases b<;>first|rfl|simp [V.beq]at h
 | .anyi k,b,h=>by
  cases b<;>simp only [V.beq,Bool.false_eq_true]at h
  rw [B4l.1 h]
theorem V.beqL_eq: ∀{a b:List V},V.beqL a b=true→a=b
 | [],b,h=>by cases b<;>first|rfl|simp [V.beqL]at h
 |x::r,b,h=>by
  cases b<;>simp only [V.beqL,Bool.false_eq_true,Bool.and_eq_true]at h
  rw [V.beq_eq h.1,V.beqL_eq h.2]
theorem V.beqLL_eq: ∀{a b:List (List V)},V.beqLL a b=true→a=b
 | [],b,h=>by cases b<;>first|rfl|simp [V.beqLL]at h
 |x::r,b,h=>by
  cases b<;>simp only [V.beqLL,Bool.false_eq_true,Bool.and_eq_true]at h
  rw [V.beqL_eq h.1,V.beqLL_eq h.2]
end
def C2I:List (V×V)→List (V×V)→Bool
 | [],[]=>true
 |a::r,b::s=>V.beq a.1 b.1&&(V.beq a.2 b.2&&C2I r s)
 |_,_=>false
theorem B9d: ∀{a b:List (V×V)},C2I a b=true→a=b
 | [],[],_=>rfl
 | [],_::_,h=>by cases h
 |_::_,[],h=>by cases h
 |x::r,y::s,h=>by
  simp only [C2I,Bool.and_eq_true]at h
  rw [show x=y from Prod.ext (V.beq_eq h.1) (V.beq_eq h.2.1),B9d h.2.2]
def B4B:List Value→List Value→Bool
 | [],[]=>true
 | .int k n::r,.int k' n'::s=>kEq k k'&&(zeq n n'&&B4B r s)
 |_,_=>false
theorem B9f: ∀{a b:List Value},B4B a b=true→a=b
 | [],b,h=>by cases b<;>first|rfl|simp [B4B]at h
 |x::r,b,h=>by
  cases x<;>rcases b with _|⟨y,s⟩<;>try (simp [B4B]at h;done)
  cases y<;>try (simp [B4B]at h;done)
  simp only [B4B,Bool.and_eq_true]at h
  obtain⟨h1,h2,h3⟩:=h
  rw [B4l.1 h1,B2T.1 h2,B9f h3]
def C1h:Blk→Blk→Bool
 | .rows sz rs,.rows sz' rs'=>Nat.beq sz sz'&&V.beqLL rs rs'
 | .map es,.map es'=>C2I es es'
 | .tb T sz rs,.tb T' sz' rs'=>Nat.beq T T'&&(Nat.beq sz sz'&&V.beqLL rs rs')
 | .fz T l,.fz T' l'=>Nat.beq T T'&&B4B l l'
 |_,_=>false
theorem C3P{a b:Blk}(h:C1h a b=true):a=b:=by
 cases a<;>cases b<;>simp only [C1h,Bool.false_eq_true,Bool.and_eq_true,B2e]at h
 ·rw [h.1,V.beqLL_eq h.2]
 ·rw [B9d h]
 ·rw [h.1,h.2.1,V.beqLL_eq h.2.2]
 ·rw [h.1,B9f h.2]
def C8D:A2→A2→Bool
 | [],[]=>true
 |a::r,b::s=>Nat.beq a.1 b.1&&(Nat.beq a.2.1 b.2.1&&(C1h a.2.2 b.2.2&&C8D r s))
 |_,_=>false
theorem C2H: ∀{a b:A2},C8D a b=true→a=b
 | [],[],_=>rfl
 | [],_::_,h=>by cases h
 |_::_,[],h=>by cases h
 |(x1,x2,x3)::r,(y1,y2,y3)::s,h=>by
  simp only [C8D,Bool.and_eq_true,B2e]at h
  obtain⟨rfl,rfl,h3,h4⟩:=h
  rw [C3P h3,C2H h4]
def C2J:List (Nat×V)→List (Nat×V)→Bool
 | [],[]=>true
 |a::r,b::s=>Nat.beq a.1 b.1&&(V.beq a.2 b.2&&C2J r s)
 |_,_=>false
theorem B9e: ∀{a b:List (Nat×V)},C2J a b=true→a=b
 | [],[],_=>rfl
 | [],_::_,h=>by cases h
 |_::_,[],h=>by cases h
 |(x1,x2)::r,(y1,y2)::s,h=>by
  simp only [C2J,Bool.and_eq_true,B2e]at h
  obtain⟨rfl,h2,h4⟩:=h
  rw [V.beq_eq h2,B9e h4]
def C5T(a b:St):Bool:=C2J a.sl b.sl&&(C8D a.h b.h&&Nat.beq a.n b.n)
theorem C5U{a b:St}(h:C5T a b=true):a=b:=by
 obtain⟨a1,a2,a3⟩:=a
 obtain⟨b1,b2,b3⟩:=b
 simp only [C5T,Bool.and_eq_true,B2e]at h
 rw [B9e h.1,C2H h.2.1,h.2.2]
def C4s(d:Option Nat)(sl:List (Nat×V))(r:V×A2×Nat):St:=
 match d with
 |some i=>⟨G0 sl i r.1,r.2.1,r.2.2⟩
 |none=>⟨sl,r.2.1,r.2.2⟩
def exA(P:Program)(C:G9)(i:AI)(s:St):Option St:=
 match i.g with
 |none=>(exO P C s i.o).map (C4s i.d s.sl)
 |some (j,want)=>match E0 s.sl j with
  | .bool b=>bif bEq b want then(exO P C ⟨G0 s.sl j (.bool want),s.h,s.n⟩ i.o).map (C4s i.d (G0 s.sl j (.bool want)))else some (C4s i.d (G0 s.sl j (.bool !want)) (.cst Go.undef,s.h,s.n))
  | .cst u=>bif B2f u then some (C4s i.d s.sl (.cst Go.undef,s.h,s.n))else none
  |_=>none
def exV(P:Program)(C:G9):List AI→St→Option St
 | [],s=>some s
 |i::r,s=>match exA P C i s with
  |some s'=>exV P C r s'
  |none=>none
def C0A(P:Program)(C:G9)(s s':St):List (List AI)→Bool
 | []=>true
 |l::r=>match exV P C l s with
  |some s2=>C5T s2 s'&&C0A P C s s' r
  |none=>false
def D2h(P:Program)(C:G9)(s:St):List (List AI)→Option St
 | []=>none
 |l::r=>match exV P C l s with
  |some s'=>bif C0A P C s s' r then some s' else none
  |none=>none
section
variable {P:Program} {C:G9} {k:Res}
theorem A9A{K':St→Prop}{d:Option Nat}{sl:List (Nat×V)}{x:V×A2×Nat}(hg:K' (C4s d sl x)):fin d sl K' x.1 x.2.1 x.2.2:=by
 cases d<;>exact hg
theorem C4q(hC:G2 P C){i:AI}{s s':St}{K':St→Prop}(hg:exA P C i s=some s')(hK:K' s'):H7 P PK i s K':=by
 have some_: ∀{t:St} {sl:List (Nat×V)},(exO P C t i.o).map (C4s i.d sl)=some s'→A8 P PK i.o t (fin i.d sl K'):=by
  intro t sl h
  obtain⟨x,h1,h2⟩:=Option.map_eq_some_iff.1 h
  exact C4r hC ⟨x,h1,A9A (by rw [h2];exact hK)⟩
 unfold exA at hg
 unfold H7
 split at hg
 ·rename_i e
  rw [e]
  exact some_ hg
 ·rename_i j want e
  rw [e]
  simp only
  split at hg
  ·rename_i b hb
   rw [hb]
   cases b<;>cases want<;>simp only [bEq,cond_true,cond_false]at hg<;>refine⟨fun e=> ?_,fun e=> ?_⟩
   any_goals (cases e;done)
   ·exact some_ hg
   ·exact KC
   ·exact KC
   ·exact some_ hg
  ·rename_i u hu
   rw [hu]
   cases hb:B2f u with
   |false=>rw [hb]at hg;cases hg
   |true=>
    rw [hb]at hg
    injection hg with hg
    exact⟨hb,A9A (x:=(.cst Go.undef,s.h,s.n)) (by rw [hg];exact hK)⟩
  ·cases hg
theorem B3e(hC:G2 P C){K':St→Prop}{s':St}(hK:K' s'): ∀{l:List AI} {s:St},exV P C l s=some s'→vo P PK l K' s
 | [],_,hg=>by injection hg with hg;subst hg;exact hK
 |i::r,s,hg=>by
  simp only [exV]at hg
  split at hg
  ·rename_i t ht;exact C4q (K':=vo P PK r K') hC ht (B3e hC hK hg)
  ·cases hg
theorem B3N(hC:G2 P C){K':St→Prop}{s s':St}(hK:K' s'): ∀{l:List (List AI)},C0A P C s s' l=true→B3S P PK l K' s
 | [],_=>trivial
 | l::r,hg=>by
  simp only [C0A]at hg
  split at hg
  ·rename_i t ht
   simp only [Bool.and_eq_true]at hg
   rw [C5U hg.1]at ht
   exact⟨B3e hC hK ht,B3N hC hK hg.2⟩
  ·cases hg
theorem C1x(hC:G2 P C){K':St→Prop}{s s':St}(hK:K' s'): ∀{l:List (List AI)},D2h P C s l=some s'→B3S P PK l K' s
 | [],h=>by cases h
 | l::r,hg=>by
  simp only [D2h]at hg
  split at hg
  ·rename_i t ht
   cases hb:C0A P C s t r with
   |false=>rw [hb]at hg;cases hg
   |true=>
    rw [hb,cond_true]at hg
    injection hg with hg
    subst hg
    exact⟨B3e hC hK ht,B3N hC hK hb⟩
  ·cases hg
def nmB:Nat:=1000000000000
def low(f b st:Nat):Bool:=Nat.blt b nmB&&Nat.ble f st
section
variable (f:Nat)
mutual
def B8A:V→V
 | .sl b st i n=>bif low f b st then .sl (nmB+st) st i n else .sl b st i n
 | .ptr b st i n=>bif low f b st then .ptr (nmB+st) st i n else .ptr b st i n
 | .mp b st=>bif low f b st then .mp (nmB+st) st else .mp b st
 | .agg l=> .agg (renL l)
 | .tup l=> .tup (renL l)
 |v=>v
def renL:List V→List V
 | []=> []
 |a::r=>B8A a::renL r
end
mutual
def C6V:V→Bool
 | .sl _ st _ _=>Nat.ble f st
 | .ptr _ st _ _=>Nat.ble f st
 | .mp _ st=>Nat.ble f st
 | .agg l=>menL l
 | .tup l=>menL l
 | .fn _ _=>true
 |_=>false
def menL:List V→Bool
 | []=>false
 |a::r=>C6V a||menL r
end
end
mutual
theorem B3q(f:Nat): ∀v:V,K0 v (B8A f v)
 | .sl b st i n=>by rw [B8A];cases low f b st<;>exact .sl
 | .ptr b st i n=>by rw [B8A];cases low f b st<;>exact .ptr
 | .mp b st=>by rw [B8A];cases low f b st<;>exact .mp
 | .agg l=>by rw [B8A];exact .agg (renL_same f l)
 | .tup l=>by rw [B8A];exact .tup (renL_same f l)
 | .undef=> .refl _
 | .bool _=> .refl _
 | .int _ _=> .refl _
 | .str _=> .refl _
 | .nilp=> .refl _
 | .nils=> .refl _
 | .isl _=> .refl _
 | .iptr _ _ _=> .refl _
 | .nilm=> .refl _
 | .fn _ _=> .refl _
 | .yld _ _=> .refl _
 | .cst _=> .refl _
 | .err=> .refl _
 | .anyi _=> .refl _
theorem renL_same(f:Nat): ∀l:List V,A2V l (renL f l)
 | []=>by rw [renL];trivial
 |a::r=>by rw [renL];exact⟨B3q f a,renL_same f r⟩
end
def D6p(f:Nat):Blk→Blk
 | .rows sz rs=> .rows sz (rs.map (renL f))
 | .tb T sz rs=> .tb T sz (rs.map (renL f))
 | .map es=> .map es
 |b=>b
theorem S6.tb{T sz:Nat}{rs rs2:List (List V)}(hl:rs2.length=rs.length)(hr: ∀(i:Nat) r2,rs2[i]? =some r2→ ∃r,rs[i]? =some r∧A2V r r2):S6 (.tb T sz rs) (.tb T sz rs2):=
 fun E st ⟨h1,h2,h3⟩=>⟨S6.rows (Nat.le_of_eq hl) hr E st h1,h2,by rw [hl];exact h3⟩
theorem C4Z(f:Nat)(b:Blk):S6 b (D6p f b):=by
 cases b with
 |map es=>exact .refl _
 |loop=>exact .refl _
 |mapb=>exact .refl _
 |iter=>exact .refl _
 |raw=>exact .refl _
 |tb T sz rs=>
  refine .tb zg fun i r2 h=> ?_
  exact YK
 |fz=>exact .refl _
 |rows sz rs=>
  refine .rows zg fun i r2 h=> ?_
  exact YK
def D6i(f:Nat):Blk→Bool
 | .rows _ rs=>rs.any (menL f)
 | .map es=>es.any fun p=>C6V f p.1||C6V f p.2
 | .loop .. =>true
 | .mapb .. =>true
 | .iter .. =>true
 | .raw .. =>true
 | .tb _ _ rs=>rs.any (menL f)
 | .fz .. =>false
def C5a(f:Nat):A2→Nat→Nat
 | [],b=>b
 |e::r,b=>bif Nat.beq e.1 b then(bif low f e.1 e.2.1 then nmB+e.2.1 else b)else C5a f r b
def D5Z:Option Nat→Nat→Bool
 |some m,st=>Nat.ble m st
 |none,_=>false
def C2j(f:Nat)(d:Option Nat)(h0:A2):A2→A2
 | []=> []
 |e::r=>bif D5Z d e.2.1 then C2j f d h0 r else(C5a f h0 e.1,e.2.1,D6p f e.2.2)::C2j f d h0 r
theorem A9K(f:Nat)(d:Option Nat)(h0:A2): ∀h:A2,(∀e∈h,e∈h0)→Q6 (C5a f h0) h0 (C2j f d h0 h)
 | [],_=>trivial
 |e::r,hm=>by
  simp only [C2j]
  have:=A9K f d h0 r fun x hx=>hm x (List.mem_cons_of_mem _ hx)
  cases D5Z d e.2.1
  ·exact⟨⟨e,hm e List.mem_cons_self,rfl,rfl,C4Z f _⟩,this⟩
  ·exact this
def C7t(f:Nat)(s0:List (Nat×V)):List (Nat×V)→List (Nat×V)
 | []=> []
 |p::r=>(p.1,B8A f (E0 s0 p.1))::C7t f s0 r
theorem B5K(f:Nat)(s0:List (Nat×V)): ∀s:List (Nat×V),B1n s0 (C7t f s0 s)
 | []=>trivial
 |p::r=>⟨B3q f _,B5K f s0 r⟩
def D6q(f:Nat)(s:St):St:=⟨C7t f s.sl s.sl,C2j f none s.h s.h,s.n⟩
theorem C9z(f:Nat)(s:St):Wk s (D6q f s):= .turn (C5a f s.h) (B5K _ _ _) (A9K _ _ _ _ fun _ h=>h)
def B9F(h:A2)(b:Nat):Bool:=h.any fun e=>Nat.beq e.1 b
def D6l(h:A2):AO→Bool
 | .box nm _ _=>B9F h nm
 | .boxt _ nm _ _=>B9F h nm
 | .appt _ nm _ _ _=>B9F h nm
 | .mkrow nm _ _=>B9F h nm
 | .mksl nm _ _=>B9F h nm
 | .mkraw nm _=>B9F h nm
 | .app nm _ _ _=>B9F h nm
 | .apb _ nm _ _ _=>B9F h nm
 |_=>false
def D0P(h:A2):List (List AI)→Bool
 | []=>false
 |l::_=>l.any fun i=>D6l h i.o
def D3F(f:Nat)(l:List (List AI))(s:St):St:=bif D0P s.h l then D6q f s else s
theorem C9W(f:Nat)(l:List (List AI))(s:St):Wk s (D3F f l s):=by
 unfold D3F
 cases D0P s.h l
 ·exact .refl _
 ·exact C9z f s
def C4j(f:Nat)(x:V×A2×Nat):V×A2×Nat:=
 bif x.2.1.any (fun e=>Nat.ble f e.2.1)then
  (bif C6V f x.1||x.2.1.any (fun e=>Nat.blt e.2.1 f&&D6i f e.2.2)then(B8A f x.1,C2j f none x.2.1 x.2.1,x.2.2)else(x.1,C2j f (some f) x.2.1 x.2.1,x.2.2))
 else x
theorem C8L(f:Nat)(x:V×A2×Nat):Wk ⟨[(0,x.1)],x.2.1,x.2.2⟩ ⟨[(0,(C4j f x).1)],(C4j f x).2.1,(C4j f x).2.2⟩:=by
 unfold C4j
 cases x.2.1.any (fun e=>Nat.ble f e.2.1)
 ·exact .refl _
 ·simp only [cond_true]
  cases C6V f x.1||x.2.1.any (fun e=>Nat.blt e.2.1 f&&D6i f e.2.2)
  ·exact .turn (C5a f x.2.1) ⟨.refl _,trivial⟩ (A9K _ _ _ _ fun _ h=>h)
  ·exact .turn (C5a f x.2.1) ⟨B3q f _,trivial⟩ (A9K _ _ _ _ fun _ h=>h)
theorem C4k{P:Program}{g:FuncId}{xs:List V}{h:A2}{n:Nat}{k:Res}{o:P1}(ho: ∀k,F5 o k→A0 P g xs h n k)(hg:F5 (o.map (C4j n)) k):A0 P g xs h n k:=by
 obtain⟨y,h1,h2⟩:=hg
 obtain⟨x,h3,rfl⟩:=Option.map_eq_some_iff.1 h1
 refine(ho (fun r h' n'=>(r,h',n')=x) ⟨x,h3,rfl⟩).wk ?_
 rintro r h' n' rfl
 exact⟨_,_,_,C8L n (r,h',n'),h2⟩
def C9A(rs:List RV)(s:St):P1:=
 match A7D s rs with
 |some vs=>G3 (B2i vs) s.h s.n
 |none=>none
def exG(P:Program)(C:G9)(rs:List RV)(f:Nat):Nat→List AItem→St→P1
 |0,_,_=>none
 |_+1,[],s=>C9A rs s
 |m+1,.code .skip::k,s=>exG P C rs f m k s
 |m+1,.code (.ops l)::k,s=>match D2h P C (D3F f l s) l with
  |some s'=>exG P C rs f m k s'
  |none=>none
 |_+1,.code .bad::_,_=>none
 |m+1,.code (.seq a b)::k,s=>exG P C rs f m (.code a:: .code b::k) s
 |m+1,.code (.cond x a b)::k,s=>match s.ev x with
  | .bool true=>exG P C rs f m (.code a::k) s
  | .bool false=>exG P C rs f m (.code b::k) s
  |_=>none
 |m+1,.code (.block id a)::k,s=>exG P C rs f m (.code a:: .blk id::k) s
 |m+1,.code (.loop a)::k,s=>exG P C rs f m (.code a:: .lp a::k) s
 |m+1,.code (.exit id)::k,s=>match Nat.beq 999999999 id,Y3 id k with
  |false,some k'=>exG P C rs f m k' s
  |_,_=>none
 |_+1,.code .ret::_,s=>C9A rs s
 |m+1,.blk _::k,s=>exG P C rs f m k s
 |m+1,.lp a::k,s=>exG P C rs f m (.code a:: .lp a::k) s
 |m+1,.code (.dfr d)::k,s=>exG P C rs f m k ⟨G0 s.sl d .undef,s.h,s.n⟩
 |_+1,.code (.rng ..)::_,_=>none
 |_+1,.beg::_,_=>none
theorem B7x{N:Nat}{rs:List RV}{s:St}(hg:F5 (C9A rs s) k):C5b ⟨P,N,rs,k,none,none⟩ s:=by
 unfold C9A at hg
 unfold C5b
 split at hg
 ·rename_i vs hvs
  simp only
  rw [hvs]
  exact hg.one
 ·exact JJ
theorem N1(hC:G2 P C){N:Nat}{rs:List RV}{f:Nat}: ∀{m:Nat} {l:List AItem} {s:St},F5 (exG P C rs f m l s) k→Run ⟨P,N,rs,k,none,none⟩ l s
 |0,_,_,hg=>hg.no.elim
 |m+1,[],s,hg=>Run.go 1 (B7x hg)
 |m+1,.code .skip::l,s,hg=>Run.go 1 (N1 hC (m:=m) hg)
 |m+1,.code (.ops is)::l,s,hg=>by
  simp only [exG]at hg
  split at hg
  ·rename_i t ht;exact Run.wk (C9W f is s) (Run.go 1 (C1x hC (N1 hC (m:=m) hg) ht))
  ·exact JJ
 |m+1,.code .bad::_,_,hg=>hg.no.elim
 |m+1,.code (.seq a b)::l,s,hg=>Run.go 1 (N1 hC (m:=m) hg)
 |m+1,.code (.cond x a b)::l,s,hg=>by
  simp only [exG]at hg
  split at hg
  ·rename_i hv;exact fun fn bs hrs=>OK.cond hv (fun _=>N1 hC (m:=m) hg fn bs hrs) (fun e=>by cases e)
  ·rename_i hv;exact fun fn bs hrs=>OK.cond hv (fun e=>by cases e) (fun _=>N1 hC (m:=m) hg fn bs hrs)
  ·exact JJ
 |m+1,.code (.block id a)::l,s,hg=>Run.go 1 (N1 hC (m:=m) hg)
 |m+1,.code (.loop a)::l,s,hg=>Run.loop (N1 hC (m:=m) hg)
 |m+1,.code (.exit id)::l,s,hg=>by
  simp only [exG]at hg
  split at hg
  ·rename_i k' hsc hk;exact fun fn bs hrs=>OK.exit hsc hk (N1 hC (m:=m) hg fn bs hrs)
  ·exact JJ
 |m+1,.code .ret::_,s,hg=>Run.go 1 (B7x hg)
 |m+1,.blk _::l,s,hg=>Run.go 1 (N1 hC (m:=m) hg)
 |m+1,.lp a::l,s,hg=>Run.lp (N1 hC (m:=m) hg)
 |m+1,.code (.dfr d)::l,s,hg=>Run.go 1 (N1 hC (m:=m) hg)
 |m+1,.code (.rng ..)::_,_,hg=>hg.no.elim
 |m+1,.beg::_,_,hg=>hg.no.elim
end
def exC(P:Program)(T:List (FuncId×Nat×AC×List RV))(lib:G9)(m:Nat):Nat→G9
 |0,_,_,_,_=>none
 | d+1,f,xs,h,n=>match lib f xs h n with
  |some l=>some l
  |none=>match look T f with
   |some e=>(gE (Nat.ble xs.length e.1) (exG P (exC P T lib m d) e.2.2 n m [.code e.2.1] ⟨A3 0 xs,h,n⟩)).map (C4j n)
   |none=>none
where
 look:List (FuncId×Nat×AC×List RV)→FuncId→Option (Nat×AC×List RV)
  | [],_=>none
  |e::r,f=>bif Nat.beq e.1 f then some e.2 else look r f
def B3(P:Program)(T:List (FuncId×Nat×AC×List RV)):Prop:= ∀e∈T,B8 P e.1=some e.2
theorem B3.nil{P:Program}:B3 P []:=fun e h=>by cases h
theorem B3.cons{P:Program}{T:List (FuncId×Nat×AC×List RV)}{f N:Nat}{ac:AC}{rs:List RV}(h:B8 P f=some (N,ac,rs))(hr:B3 P T):B3 P ((f,N,ac,rs)::T):=fun e he=>by
 rcases List.mem_cons.1 he with rfl|he
 ·exact h
 ·exact hr e he
theorem B3.look{P:Program}: ∀{T:List (FuncId×Nat×AC×List RV)},B3 P T→ ∀{f:FuncId} {c},exC.look T f=some c→B8 P f=some c
 | [],_,f,c,h=>by cases h
 | e::r,hT,f,c,h=>by
  simp only [exC.look]at h
  cases hb:Nat.beq e.1 f with
  |true=>
   rw [hb]at h;injection h with h
   rw [←Nat.eq_of_beq_eq_true hb,←h];exact hT e List.mem_cons_self
  |false=>rw [hb]at h;exact B3.look (fun e he=>hT e (List.mem_cons_of_mem _ he)) h
def D0Q:G9:=fun _ _ _ _=>none
theorem B5x{P:Program}:G2 P D0Q:=fun _ _ _ _ _ hg=>hg.no.elim
theorem B6T{P:Program}{T:List (FuncId×Nat×AC×List RV)}{lib:G9}(hT:B3 P T)(hl:G2 P lib){m:Nat}: ∀{d:Nat},G2 P (exC P T lib m d)
 |0,_,_,_,_,_,hg=>hg.no.elim
 | d+1,f,xs,h,n,k,hg=>by
  simp only [exC]at hg
  split at hg
  ·rename_i l he;exact hl f xs h n k (by rw [he];exact hg)
  ·split at hg
   ·rename_i e he
    refine C4k (fun k hg=> ?_) hg
    obtain⟨h1,hg⟩:=hg.g
    exact A0.enter (N:=e.1) (ac:=e.2.1) (rs:=e.2.2) (hT.look he) (Nat.le_of_ble_eq_true h1) (N1 (B6T hT hl) hg)
   ·exact JJ
def exR(P:Program)(T:List (FuncId×Nat×AC×List RV))(lib:G9)(m d:Nat)(fr:Nat)(f:FuncId)(xs:List V):Option V:=
 (exC P T lib m d f xs [] 0).map fun x=>frz fr x.2.1 x.1
theorem Pure.exec{P:Program}{T:List (FuncId×Nat×AC×List RV)}{lib:G9}(hT:B3 P T)(hl:G2 P lib){m d fr:Nat}{f:FuncId}{xs:List V}{r:V}(h:exR P T lib m d fr f xs=some r):Pure P f xs r:=by
 refine Pure.of fr (B6T (d:=d) (m:=m) hT hl f xs [] 0 _ ?_)
 obtain⟨x,h1,h2⟩:=Option.map_eq_some_iff.1 h
 exact⟨x,h1,h2⟩
def eqR(o:Option V)(r:V):Bool:=
 match o with
 |some v=>V.beq v r
 |none=>false
theorem Pure.execB{P:Program}{T:List (FuncId×Nat×AC×List RV)}{lib:G9}(hT:B3 P T)(hl:G2 P lib){m d fr:Nat}{f:FuncId}{xs:List V}{r:V}(h:eqR (exR P T lib m d fr f xs) r=true):Pure P f xs r:=by
 unfold eqR at h
 split at h
 ·rename_i v hv;exact Pure.exec hT hl (by rw [hv,V.beq_eq h])
 ·cases h
end Go.Abs
