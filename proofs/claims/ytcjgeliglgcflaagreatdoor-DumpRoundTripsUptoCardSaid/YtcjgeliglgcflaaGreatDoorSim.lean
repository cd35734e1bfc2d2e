/-
 The evaluator as rewrite rules. No condition.
-/
import Derived.Test.YtcjgeliglgcflaaGreatDoorGo
set_option linter.unusedVariables false
set_option linter.unusedSimpArgs false
namespace Go.Abs
variable {PK:H1} {pk:Option H1}
theorem Run.unf{c:Cf}{x y:AC}{k:List AItem}{s:St}(h:x=y)(hr:Run c (.code y::k) s):Run c (.code x::k) s:=h ▸ hr
section
variable {c:Cf} {P:Program} {m:Nat} {k:List AItem} {s:St}
attribute [go_sem] go.eq_1 go.eq_2 go.eq_3 go.eq_4 go.eq_5 go.eq_6 go.eq_7 go.eq_8 go.eq_9 go.eq_10 go.eq_11 go.eq_12 go.eq_13 go.eq_14 go.eq_15 go.eq_16
@[go_sem] theorem C9f{K:St→Prop}:A7N P PK [] K s=True:=rfl
@[go_sem] theorem C7G{l:List AI}{r:List (List AI)}{K:St→Prop}:A7N P PK (l::r) K s=(vo P PK l K s∧A7N P PK r K s):=rfl
@[go_sem] theorem D1l{K:St→Prop}:vo P PK [] K s=K s:=rfl
@[go_sem] theorem D0Z{i:AI}{r:List AI}{K:St→Prop}:vo P PK (i::r) K s=F5 P PK i s (vo P PK r K):=rfl
@[go_sem ↓] theorem C7h{sl:List (Nat×V)}{h:A2}{n:Nat}{d:Option Nat}{o:AO}{K:St→Prop}:F5 P PK ⟨d,none,o⟩ ⟨sl,h,n⟩ K=B0 P PK o ⟨sl,h,n⟩ (fin d sl K):=rfl
@[go_sem ↓] theorem C7i{sl:List (Nat×V)}{h:A2}{n:Nat}{d:Option Nat}{o:AO}{j:Nat}{b:Bool}{K:St→Prop}:F5 P PK ⟨d,some (j,b),o⟩ ⟨sl,h,n⟩ K=stepG (C8 sl j) b (vo P PK [⟨d,none,o⟩] K ⟨E1 sl j (.bool b),h,n⟩) (fin d (E1 sl j (.bool !b)) K (.cst Go.undef) h n) (fin d sl K (.cst Go.undef) h n):=rfl
@[congr] theorem C5b{v v':V}{w:Bool}{A B C:Prop}(h:v=v'):stepG v w A B C=stepG v' w A B C:=by rw [h]
@[congr] theorem C4D{v v':V}{A B:Prop}(h:v=v'):A5T v A B=A5T v' A B:=by rw [h]
@[go_sem] theorem D0m{A B C:Prop}:stepG (.bool true) true A B C=A:=by simp [stepG]
@[go_sem] theorem D0j{A B C:Prop}:stepG (.bool false) false A B C=A:=by simp [stepG]
@[go_sem] theorem D0l{A B C:Prop}:stepG (.bool true) false A B C=B:=by simp [stepG]
@[go_sem] theorem D0k{A B C:Prop}:stepG (.bool false) true A B C=B:=by simp [stepG]
@[go_sem] theorem D0S{w:Bool}{A B C:Prop}:stepG (.cst Go.undef) w A B C=C:=by simp [stepG,A8S,Go.undef]
@[go_sem low] theorem D0U{b:Bool}{A B C:Prop}:stepG (.bool b) true A B C=((b=true→A)∧(b=false→B)):=rfl
@[go_sem low] theorem D0T{b:Bool}{A B C:Prop}:stepG (.bool b) false A B C=((b=false→A)∧(b=true→B)):=rfl
@[go_sem] theorem D0A{A B:Prop}:A5T (.bool true) A B=A:=by simp [A5T]
@[go_sem] theorem D0z{A B:Prop}:A5T (.bool false) A B=B:=by simp [A5T]
@[go_sem low] theorem D0y{b:Bool}{A B:Prop}:A5T (.bool b) A B=((b=true→A)∧(b=false→B)):=rfl
@[go_sem ↓] theorem C9H{d:Nat}{sl:List (Nat×V)}{K:St→Prop}{r:V}{h:A2}{n:Nat}:fin (some d) sl K r h n=K ⟨E1 sl d r,h,n⟩:=rfl
@[go_sem ↓] theorem C9G{sl:List (Nat×V)}{K:St→Prop}{r:V}{h:A2}{n:Nat}:fin none sl K r h n=K ⟨sl,h,n⟩:=rfl
@[go_sem ↓] theorem C8Z{x:Opd}{sl:List (Nat×V)}{h:A2}{n:Nat}{k:Res}:B0 P PK (.mov x) ⟨sl,h,n⟩ k=k (St.ev ⟨sl,h,n⟩ x) h n:=rfl
@[go_sem ↓] theorem C7v{c a b:Opd}{sl:List (Nat×V)}{h:A2}{n:Nat}{k:Res}:B0 P PK (.pick c a b) ⟨sl,h,n⟩ k=F8 (B6h (St.ev ⟨sl,h,n⟩ c) (St.ev ⟨sl,h,n⟩ a) (St.ev ⟨sl,h,n⟩ b)) k h n:=rfl
@[go_sem ↓] theorem C5m{x:Opd}{sl:List (Nat×V)}{h:A2}{n:Nat}{k:Res}:B0 P PK (.nilck x) ⟨sl,h,n⟩ k=F8 (B2h (St.ev ⟨sl,h,n⟩ x)) k h n:=rfl
@[go_sem ↓] theorem C8N{nm sz:Nat}{x:Opd}{sl:List (Nat×V)}{h:A2}{n:Nat}{k:Res}:B0 P PK (.box nm sz x) ⟨sl,h,n⟩ k=B4g nm sz (R1 (St.ev ⟨sl,h,n⟩ x)) k h n:=rfl
@[go_sem ↓] theorem C5c{z:List V}{ps:List (Nat×Nat×Opd)}{sl:List (Nat×V)}{h:A2}{n:Nat}{k:Res}:B0 P PK (.build z ps) ⟨sl,h,n⟩ k=F8 ((A1e ⟨sl,h,n⟩ z ps).map .agg) k h n:=rfl
@[go_sem ↓] theorem C5l{nm sz:Nat}{xs:List Opd}{sl:List (Nat×V)}{h:A2}{n:Nat}{k:Res}:B0 P PK (.mkrow nm sz xs) ⟨sl,h,n⟩ k=B7L nm sz (G4 sz ⟨sl,h,n⟩ xs) k h n:=rfl
@[go_sem ↓] theorem C5j{sz:Nat}{xs:List Opd}{sl:List (Nat×V)}{h:A2}{n:Nat}{k:Res}:B0 P PK (.mkisl sz xs) ⟨sl,h,n⟩ k=B5J (G4 sz ⟨sl,h,n⟩ xs) k h n:=rfl
def A0B(rs:List (List V))(i:Nat)(f:List V→Prop):Prop:=
 match rs[i]? with
 |some row=>f row
 |none=>False
def B0g(b:Option Blk)(f:Nat→List (List V)→Prop):Prop:=
 match b with
 |some (.rows sz rs)|some (.tb _ sz rs)=>f sz rs
 |_=>False
def A5N(b:Option Blk)(f:(Nat→List (List V)→Blk)→Nat→List (List V)→Prop):Prop:=
 match b with
 |some (.rows sz rs)=>f .rows sz rs
 |some (.tb T sz rs)=>f (.tb T) sz rs
 |_=>False
def C2A(b:Option Blk)(f:Nat→Nat→List (List V)→Prop):Prop:=
 match b with
 |some (.tb T sz rs)=>f T sz rs
 |_=>False
@[go_sem ↓] theorem C7m{T nm sz:Nat}{x:Opd}{sl:List (Nat×V)}{h:A2}{n:Nat}{k:Res}:B0 P PK (.boxt T nm sz x) ⟨sl,h,n⟩ k=B0h T nm sz (R1 (St.ev ⟨sl,h,n⟩ x)) k h n:=rfl
@[congr] theorem C4B{T nm sz:Nat}{o o':Option (List V)}{k:Res}{h:A2}{n:Nat}(e0:o=o'):B0h T nm sz o k h n=B0h T nm sz o' k h n:=by rw [e0]
@[go_sem] theorem C5O{T nm sz:Nat}{cs:List V}{k:Res}{h:A2}{n:Nat}:B0h T nm sz (some cs) k h n=(cs.length=sz∧k (.ptr nm n 0 0) (A2.put h nm n (.tb T sz [cs])) (n+1)):=rfl
@[go_sem ↓] theorem C7j{T nm sz:Nat}{b x:Opd}{sl:List (Nat×V)}{h:A2}{n:Nat}{k:Res}:B0 P PK (.appt T nm sz b x) ⟨sl,h,n⟩ k=A2R T nm sz (St.ev ⟨sl,h,n⟩ b) (A9r h (St.ev ⟨sl,h,n⟩ x)) k h n:=rfl
@[congr] theorem C4s{T nm sz:Nat}{b b':V}{o o':Option (List (List V))}{k:Res}{h:A2}{n:Nat}(e0:b=b')(e1:o=o'):A2R T nm sz b o k h n=A2R T nm sz b' o' k h n:=by rw [e0,e1]
@[go_sem] theorem C5y{T nm sz:Nat}{xs:List (List V)}{k:Res}{h:A2}{n:Nat}:A2R T nm sz .nils (some xs) k h n=(C4 xs sz∧sz=1∧xs.length≤137438953472∧k (.sl nm n 0 xs.length) (A2.put h nm n (.tb T sz xs)) (n+1)):=rfl
@[go_sem] theorem C9i{T nm sz b st i m:Nat}{xs:List (List V)}{k:Res}{h:A2}{n:Nat}:A2R T nm sz (.sl b st i m) (some xs) k h n=(C4 xs sz∧sz=1∧C2A (A2.get h b st) fun T' sz' rs=>i=0∧T'=T∧sz'=sz∧m=rs.length∧m+xs.length≤137438953472∧k (.sl b n 0 (m+xs.length)) (A2.put h b n (.tb T sz (rs++xs))) (n+1)):=by
 unfold A2R C2A
 rfl
@[congr] theorem C7x{b b':Option Blk}{f:Nat→Nat→List (List V)→Prop}(e0:b=b'):C2A b f=C2A b' f:=by rw [e0]
@[go_sem] theorem D0V{T sz:Nat}{rs:List (List V)}{f:Nat→Nat→List (List V)→Prop}:C2A (some (.tb T sz rs)) f=f T sz rs:=rfl
@[congr] theorem C2Z{b b':Option Blk}{f:(Nat→List (List V)→Blk)→Nat→List (List V)→Prop}(e0:b=b'):A5N b f=A5N b' f:=by rw [e0]
@[go_sem] theorem C4v{sz:Nat}{rs:List (List V)}{f:(Nat→List (List V)→Blk)→Nat→List (List V)→Prop}:A5N (some (.rows sz rs)) f=f .rows sz rs:=rfl
@[go_sem] theorem C7N{T sz:Nat}{rs:List (List V)}{f:(Nat→List (List V)→Blk)→Nat→List (List V)→Prop}:A5N (some (.tb T sz rs)) f=f (.tb T) sz rs:=rfl
@[go_sem] theorem C4u{f:(Nat→List (List V)→Blk)→Nat→List (List V)→Prop}:A5N none f=False:=rfl
@[go_sem] theorem C5z{es:List (V×V)}{f:(Nat→List (List V)→Blk)→Nat→List (List V)→Prop}:A5N (some (.map es)) f=False:=rfl
@[go_sem] theorem C9j{T sz:Nat}{rs:List (List V)}{f:Nat→List (List V)→Prop}:B0g (some (.tb T sz rs)) f=f sz rs:=rfl
def B2e(h0:A2)(x:V)(m:Nat)(agg:Bool)(k:Res)(h:A2)(n:Nat):Prop:=F8 (A6d h0 x m agg) k h n
def B0a(h0:A2)(x:V)(cs:Option (List V))(m:Nat)(k:Res)(n:Nat):Prop:=
 match x with
 | .ptr b st i j=>A3J (B1g h0 b st i j m (A2.get h0 b st) cs) k n
 |_=>False
@[congr] theorem C4x{rs rs':List (List V)}{i i':Nat}{f:List V→Prop}(e0:rs=rs')(e1:i=i'):A0B rs i f=A0B rs' i' f:=by rw [e0,e1]
@[congr] theorem C4w{b b':Option Blk}{f:Nat→List (List V)→Prop}(e0:b=b'):B0g b f=B0g b' f:=by rw [e0]
@[congr] theorem C4P{h0:A2}{x x':V}{m:Nat}{agg:Bool}{k:Res}{h:A2}{n:Nat}(e:x=x'):B2e h0 x m agg k h n=B2e h0 x' m agg k h n:=by rw [e]
@[congr] theorem C4e{h0:A2}{x x':V}{cs cs':Option (List V)}{m:Nat}{k:Res}{n:Nat}(e:x=x')(e1:cs=cs'):B0a h0 x cs m k n=B0a h0 x' cs' m k n:=by rw [e,e1]
@[go_sem ↓] theorem C7r{m:Nat}{agg:Bool}{x:Opd}{sl:List (Nat×V)}{h:A2}{n:Nat}{k:Res}:B0 P PK (.load m agg x) ⟨sl,h,n⟩ k=B2e h (St.ev ⟨sl,h,n⟩ x) m agg k h n:=rfl
@[go_sem ↓] theorem C5o{m:Nat}{x v:Opd}{sl:List (Nat×V)}{h:A2}{n:Nat}{k:Res}:B0 P PK (.store m x v) ⟨sl,h,n⟩ k=B0a h (St.ev ⟨sl,h,n⟩ x) (R1 (St.ev ⟨sl,h,n⟩ v)) m k n:=by
 simp only [B0,B0a,B2D]
 cases St.ev ⟨sl,h,n⟩ x<;>rfl
@[go_sem] theorem C8r{h0:A2}{b st i j m:Nat}{agg:Bool}{k:Res}{h:A2}{n:Nat}:B2e h0 (.ptr b st i j) m agg k h n=B0g (A2.get h0 b st) fun _ rs=>A0B rs i fun row=>F8 (F7 row j m agg) k h n:=by
 simp only [B2e,A6d,B0g,A0B]
 cases A2.get h0 b st with
 |none=>rfl
 |some x=>
  cases x with
  |rows sz rs=>simp only;cases rs[i]? <;>rfl
  |map es=>rfl
  |loop=>rfl
  |mapb=>rfl
  |iter=>rfl
  |raw=>rfl
  |fz=>rfl
  |tb T sz rs=>simp only;cases rs[i]? <;>rfl
@[go_sem] theorem C6z{h0:A2}{es:List (List V)}{i j m:Nat}{agg:Bool}{k:Res}{h:A2}{n:Nat}:B2e h0 (.iptr es i j) m agg k h n=A0B es i fun row=>F8 (F7 row j m agg) k h n:=by
 simp only [B2e,A6d,A0B]
 cases es[i]? <;>rfl
@[go_sem] theorem C7w{h0:A2}{b st i j m:Nat}{cs:List V}{k:Res}{n:Nat}:B0a h0 (.ptr b st i j) (some cs) m k n=
  A5N (A2.get h0 b st) fun B sz rs=>A0B rs i fun row=>cs.length=m∧j+m≤row.length∧k .undef (A2.put h0 b st (B sz (rs.set i (G3 row j cs)))) n:=by
 simp only [B0a,B1g,A5N,A0B]
 cases A2.get h0 b st with
 |none=>rfl
 | some x=>
  cases x with
  |map es=>rfl
  |loop=>rfl
  |mapb=>rfl
  |iter=>rfl
  |raw=>rfl
  |fz=>rfl
  | rows sz rs=>
   simp only
   cases rs[i]? with
   |none=>rfl
   | some row=>
    simp only
    by_cases h1:cs.length=m
    ·by_cases h2:j+m≤row.length
     ·rw [h1,Nat.beq_refl,Nat.ble_eq_true_of_le h2];simp [A3J,h2]
     ·have:Nat.ble (j+m) row.length=false:=by
       cases hb:Nat.ble (j+m) row.length with
       |false=>rfl
       |true=>exact(h2 (Nat.le_of_ble_eq_true hb)).elim
      rw [this];simp [A3J,h2]
    ·have:Nat.beq cs.length m=false:=by
      cases hb:Nat.beq cs.length m with
      |false=>rfl
      |true=>exact(h1 (Nat.eq_of_beq_eq_true hb)).elim
     rw [this];simp [A3J,h1]
  | tb T sz rs=>
   simp only
   cases rs[i]? with
   |none=>rfl
   | some row=>
    simp only
    by_cases h1:cs.length=m
    ·by_cases h2:j+m≤row.length
     ·rw [h1,Nat.beq_refl,Nat.ble_eq_true_of_le h2];simp [A3J,h2]
     ·have:Nat.ble (j+m) row.length=false:=by
       cases hb:Nat.ble (j+m) row.length with
       |false=>rfl
       |true=>exact(h2 (Nat.le_of_ble_eq_true hb)).elim
      rw [this];simp [A3J,h2]
    ·have:Nat.beq cs.length m=false:=by
      cases hb:Nat.beq cs.length m with
      |false=>rfl
      |true=>exact(h1 (Nat.eq_of_beq_eq_true hb)).elim
     rw [this];simp [A3J,h1]
@[go_sem] theorem C5B{sz:Nat}{rs:List (List V)}{f:Nat→List (List V)→Prop}:B0g (some (.rows sz rs)) f=f sz rs:=rfl
@[go_sem] theorem C5A{f:Nat→List (List V)→Prop}:B0g none f=False:=rfl
@[go_sem] theorem C7O{es:List (V×V)}{f:Nat→List (List V)→Prop}:B0g (some (.map es)) f=False:=rfl
@[go_sem high] theorem C7R{i:Nat}{f:List V→Prop}:A0B [] i f=False:=by simp [A0B]
@[go_sem high] theorem C5C{r:List V}{rs:List (List V)}{f:List V→Prop}:A0B (r::rs) 0 f=f r:=rfl
theorem B5a{rs:List (List V)}{i:Nat}{f:List V→Prop}:A0B rs i f=(i<rs.length∧ ∀row,rs[i]? =some row→f row):=by
 unfold A0B
 cases h:rs[i]? with
 |none=>
  have:=List.getElem?_eq_none_iff.1 h
  simp;omega
 |some row=>
  have:=(List.getElem?_eq_some_iff.1 h).1
  simp [this]
@[go_sem low] theorem C7P{rs:List (List V)}{i:Nat}{f:List V→Prop}:A0B rs i f=(i<rs.length∧ ∀row,rs[i]? =some row→f row):=B5a
@[go_sem] theorem C7Q{α:Type}{xs:List α}{F:α→List V}{i:Nat}{f:List V→Prop}:A0B (xs.map F) i f=(i<xs.length∧ ∀x,xs[i]? =some x→f (F x)):=by
 rw [B5a,List.length_map]
 refine propext (and_congr_right fun _=> ?_)
 rw [List.getElem?_map]
 constructor
 ·intro h x hx;exact h _ (by rw [hx];rfl)
 ·intro h row hr
  rw [Option.map_eq_some_iff]at hr
  obtain⟨x,hx,rfl⟩:=hr
  exact h x hx
@[go_sem] theorem C2R{α:Type}{xs:List α}{F:α→List V}:(xs.map F).take xs.length=xs.map F:=by
 rw [List.take_of_length_le];simp
@[go_sem ↓] theorem C5f{off:Nat}{x:Opd}{sl:List (Nat×V)}{h:A2}{n:Nat}{k:Res}:B0 P PK (.faddr off x) ⟨sl,h,n⟩ k=F8 (B1I off (St.ev ⟨sl,h,n⟩ x)) k h n:=rfl
@[go_sem ↓] theorem C5g{sz:Nat}{x i:Opd}{sl:List (Nat×V)}{h:A2}{n:Nat}{k:Res}:B0 P PK (.iaddr sz x i) ⟨sl,h,n⟩ k=A1Y sz (St.ev ⟨sl,h,n⟩ x) (St.ev ⟨sl,h,n⟩ i) k h n:=rfl
@[go_sem ↓] theorem C4d{len sz:Nat}{x i:Opd}{sl:List (Nat×V)}{h:A2}{n:Nat}{k:Res}:B0 P PK (.iaddrA len sz x i) ⟨sl,h,n⟩ k=A0y len sz (St.ev ⟨sl,h,n⟩ x) (St.ev ⟨sl,h,n⟩ i) k h n:=rfl
@[go_sem ↓] theorem C8V{off m:Nat}{agg:Bool}{x:Opd}{sl:List (Nat×V)}{h:A2}{n:Nat}{k:Res}:B0 P PK (.fld off m agg x) ⟨sl,h,n⟩ k=F8 (C1j off m agg (St.ev ⟨sl,h,n⟩ x)) k h n:=rfl
@[go_sem ↓] theorem C8W{x i:Opd}{sl:List (Nat×V)}{h:A2}{n:Nat}{k:Res}:B0 P PK (.idx x i) ⟨sl,h,n⟩ k=B4t (St.ev ⟨sl,h,n⟩ x) (St.ev ⟨sl,h,n⟩ i) k h n:=rfl
@[go_sem ↓] theorem C8U{i:Nat}{x:Opd}{sl:List (Nat×V)}{h:A2}{n:Nat}{k:Res}:B0 P PK (.ext i x) ⟨sl,h,n⟩ k=F8 (C1i i (St.ev ⟨sl,h,n⟩ x)) k h n:=rfl
@[go_sem ↓] theorem C7k{op:BinOp}{x y:Opd}{sl:List (Nat×V)}{h:A2}{n:Nat}{k:Res}:B0 P PK (.binw op x y) ⟨sl,h,n⟩ k=F8 (B1t op (St.ev ⟨sl,h,n⟩ x) (St.ev ⟨sl,h,n⟩ y)) k h n:=rfl
@[go_sem] theorem C8a{j:IntKind}{a b:Int}:B1t .add (.int j a) (.int j b)=some (.int j (j.wrap (a+b))):=if_pos rfl
@[go_sem] theorem C8c{j:IntKind}{a b:Int}:B1t .sub (.int j a) (.int j b)=some (.int j (j.wrap (a-b))):=if_pos rfl
@[go_sem] theorem C8b{j:IntKind}{a b:Int}:B1t .mul (.int j a) (.int j b)=some (.int j (j.wrap (a*b))):=if_pos rfl
@[go_sem ↓] theorem C8M{op:BinOp}{x y:Opd}{sl:List (Nat×V)}{h:A2}{n:Nat}{k:Res}:B0 P PK (.bin op x y) ⟨sl,h,n⟩ k=S1 op (St.ev ⟨sl,h,n⟩ x) (St.ev ⟨sl,h,n⟩ y) k h n:=rfl
@[go_sem ↓] theorem C8T{kind:Nat}{neg:Bool}{x y:Opd}{sl:List (Nat×V)}{h:A2}{n:Nat}{k:Res}:B0 P PK (.eqp kind neg x y) ⟨sl,h,n⟩ k=F8 (bif B0r kind (St.ev ⟨sl,h,n⟩ x)then B7i neg (St.ev ⟨sl,h,n⟩ x) (St.ev ⟨sl,h,n⟩ y)else none) k h n:=rfl
@[go_sem ↓] theorem C8R{neg:Bool}{t:ETy}{x y:Opd}{sl:List (Nat×V)}{h:A2}{n:Nat}{k:Res}:B0 P PK (.eqa neg t x y) ⟨sl,h,n⟩ k=F8 (C1g neg t (St.ev ⟨sl,h,n⟩ x) (St.ev ⟨sl,h,n⟩ y)) k h n:=rfl
@[go_sem ↓] theorem C7u{x:Opd}{sl:List (Nat×V)}{h:A2}{n:Nat}{k:Res}:B0 P PK (.negw x) ⟨sl,h,n⟩ k=F8 (B3M (St.ev ⟨sl,h,n⟩ x)) k h n:=rfl
@[go_sem] theorem C8w{j:IntKind}{a:Int}:B3M (.int j a)=some (.int j (j.wrap (0-a))):=by rw [B3M]
@[go_sem ↓] theorem D0p{op:UnOp}{x:Opd}{sl:List (Nat×V)}{h:A2}{n:Nat}{k:Res}:B0 P PK (.un op x) ⟨sl,h,n⟩ k=unK op (St.ev ⟨sl,h,n⟩ x) k h n:=rfl
@[go_sem ↓] theorem C5h{neg:Bool}{x:Opd}{sl:List (Nat×V)}{h:A2}{n:Nat}{k:Res}:B0 P PK (.isnil neg x) ⟨sl,h,n⟩ k=F8 (B1T neg (St.ev ⟨sl,h,n⟩ x)) k h n:=rfl
@[go_sem ↓] theorem C7o{j:IntKind}{x:Opd}{sl:List (Nat×V)}{h:A2}{n:Nat}{k:Res}:B0 P PK (.conv j x) ⟨sl,h,n⟩ k=F8 (B5r j (St.ev ⟨sl,h,n⟩ x)) k h n:=rfl
@[go_sem ↓] theorem C8X{kind:Nat}{x:Opd}{sl:List (Nat×V)}{h:A2}{n:Nat}{k:Res}:B0 P PK (.len kind x) ⟨sl,h,n⟩ k=F8 (C1D h kind (St.ev ⟨sl,h,n⟩ x)) k h n:=rfl
@[go_sem ↓] theorem C7q{m:Nat}{sl:List (Nat×V)}{h:A2}{n:Nat}{k:Res}:B0 P PK (.lenc m) ⟨sl,h,n⟩ k=k (.int .i64 m) h n:=rfl
@[go_sem ↓] theorem D0n{mx:Bool}{xs:List Opd}{sl:List (Nat×V)}{h:A2}{n:Nat}{k:Res}:B0 P PK (.mm mx xs) ⟨sl,h,n⟩ k=F8 (mmV mx (xs.map (St.ev ⟨sl,h,n⟩))) k h n:=rfl
@[go_sem ↓] theorem C8K{nm sz:Nat}{b x:Opd}{sl:List (Nat×V)}{h:A2}{n:Nat}{k:Res}:B0 P PK (.app nm sz b x) ⟨sl,h,n⟩ k=A5M 137438953472 nm sz (St.ev ⟨sl,h,n⟩ b) (A9r h (St.ev ⟨sl,h,n⟩ x)) k h n:=rfl
@[go_sem ↓] theorem C8J{L nm sz:Nat}{b x:Opd}{sl:List (Nat×V)}{h:A2}{n:Nat}{k:Res}:B0 P PK (.apb L nm sz b x) ⟨sl,h,n⟩ k=A5M L nm sz (St.ev ⟨sl,h,n⟩ b) (A9r h (St.ev ⟨sl,h,n⟩ x)) k h n:=rfl
@[go_sem ↓] theorem C7t{nm:Nat}{z:List V}{x:Opd}{sl:List (Nat×V)}{h:A2}{n:Nat}{k:Res}:B0 P PK (.mksl nm z x) ⟨sl,h,n⟩ k=B0x nm z (St.ev ⟨sl,h,n⟩ x) k h n:=rfl
@[go_sem ↓] theorem C9b{sz:Nat}{x:Opd}{lo hi:Option Opd}{sl:List (Nat×V)}{h:A2}{n:Nat}{k:Res}:B0 P PK (.slc sz x lo hi) ⟨sl,h,n⟩ k=A9q sz (St.ev ⟨sl,h,n⟩ x) (lo.map (St.ev ⟨sl,h,n⟩)) (hi.map (St.ev ⟨sl,h,n⟩)) k h n:=rfl
@[go_sem ↓] theorem C9c{x:Opd}{lo hi:Option Opd}{sl:List (Nat×V)}{h:A2}{n:Nat}{k:Res}:B0 P PK (.sls x lo hi) ⟨sl,h,n⟩ k=B0O (St.ev ⟨sl,h,n⟩ x) (lo.map (St.ev ⟨sl,h,n⟩)) (hi.map (St.ev ⟨sl,h,n⟩)) k h n:=rfl
@[go_sem ↓] theorem C5n{f:FuncId}{xs:List Opd}{sl:List (Nat×V)}{h:A2}{n:Nat}{k:Res}:B0 P PK (.pcall f xs) ⟨sl,h,n⟩ k=A2s P f (xs.map (St.ev ⟨sl,h,n⟩)) k h n:=rfl
@[congr] theorem C3G{f:FuncId}{as as':List V}{k:Res}{h:A2}{n:Nat}(e:as=as'):A2s P f as k h n=A2s P f as' k h n:=by rw [e]
@[go_sem ↓] theorem C8S{fn neg:Bool}{x:Opd}{sl:List (Nat×V)}{h:A2}{n:Nat}{k:Res}:B0 P PK (.eqn fn neg x) ⟨sl,h,n⟩ k=A4A fn neg (St.ev ⟨sl,h,n⟩ x) k h n:=rfl
@[congr] theorem C6f{fn neg:Bool}{x x':V}{k:Res}{h:A2}{n:Nat}(e:x=x'):A4A fn neg x k h n=A4A fn neg x' k h n:=by rw [e]
@[go_sem] theorem C8k{neg:Bool}{k:Res}{h:A2}{n:Nat}:A4A false neg .nils k h n=k (.bool !neg) h n:=rfl
@[go_sem] theorem C9D{neg:Bool}{es:List (List V)}{k:Res}{h:A2}{n:Nat}:A4A false neg (.isl es) k h n=(k (.bool neg) h n∧(es= []→k (.bool !neg) h n)):=rfl
@[go_sem] theorem D0F{neg:Bool}{b st i m:Nat}{k:Res}{h:A2}{n:Nat}:A4A false neg (.sl b st i m) k h n=(k (.bool neg) h n∧(m=0→k (.bool !neg) h n)):=rfl
@[go_sem] theorem D0E{neg:Bool}{f:FuncId}{cs:List V}{k:Res}{h:A2}{n:Nat}:A4A true neg (.fn f cs) k h n=k (.bool neg) h n:=rfl
@[go_sem] theorem C8j{neg:Bool}{k:Res}{h:A2}{n:Nat}:A4A true neg (.cst .nilFunc) k h n=k (.bool !neg) h n:=rfl
@[go_sem ↓] theorem C7s{f:FuncId}{xs:List Opd}{sl:List (Nat×V)}{h:A2}{n:Nat}{k:Res}:B0 P PK (.mkfn f xs) ⟨sl,h,n⟩ k=k (.fn f (xs.map (St.ev ⟨sl,h,n⟩))) h n:=rfl
@[go_sem ↓] theorem D0o{l:Bool}{x y:Opd}{sl:List (Nat×V)}{h:A2}{n:Nat}{k:Res}:B0 P PK (.sh l x y) ⟨sl,h,n⟩ k=shK l (St.ev ⟨sl,h,n⟩ x) (St.ev ⟨sl,h,n⟩ y) k h n:=rfl
@[go_sem ↓] theorem C7p{len sz m:Nat}{agg:Bool}{x y:Opd}{sl:List (Nat×V)}{h:A2}{n:Nat}{k:Res}:B0 P PK (.idxA len sz m agg x y) ⟨sl,h,n⟩ k=A5X len sz m agg (St.ev ⟨sl,h,n⟩ x) (St.ev ⟨sl,h,n⟩ y) k h n:=rfl
@[go_sem] theorem C5R:C9z .nils=some (.int .i64 0):=rfl
@[go_sem] theorem C3C{e:Nat×Nat×Blk}{r:A2}{st:Nat}:B4C (e::r) st=bif Nat.beq e.2.1 st then some (e.1,e.2.2)else B4C r st:=rfl
@[go_sem ↓] theorem C8O{x:Opd}{sl:List (Nat×V)}{h:A2}{n:Nat}{k:Res}:B0 P PK (.bst x) ⟨sl,h,n⟩ k=F8 (B4h (A3q h (St.ev ⟨sl,h,n⟩ x))) k h n:=rfl
@[go_sem ↓] theorem C5k{nm:Nat}{xs:List Opd}{sl:List (Nat×V)}{h:A2}{n:Nat}{k:Res}:B0 P PK (.mkraw nm xs) ⟨sl,h,n⟩ k=B7G nm (G4 1 ⟨sl,h,n⟩ xs) k h n:=rfl
@[congr] theorem C6N{nm:Nat}{o o':Option (List (List V))}{k:Res}{h:A2}{n:Nat}(e0:o=o'):B7G nm o k h n=B7G nm o' k h n:=by rw [e0]
@[go_sem] theorem C8A{nm:Nat}{rs:List (List V)}{k:Res}{h:A2}{n:Nat}:B7G nm (some rs) k h n=(0<rs.length∧k (.sl nm n 0 rs.length) (A2.put h nm n (.raw rs)) (n+1)):=rfl
@[go_sem ↓] theorem C8Q{x:Opd}{sl:List (Nat×V)}{h:A2}{n:Nat}{k:Res}:B0 P PK (.cvr x) ⟨sl,h,n⟩ k=B4n (St.ev ⟨sl,h,n⟩ x) k h n:=rfl
@[congr] theorem C5Y{x x':V}{k:Res}{h:A2}{n:Nat}(e0:x=x'):B4n x k h n=B4n x' k h n:=by rw [e0]
@[go_sem] theorem D0C{b st m:Nat}{k:Res}{h:A2}{n:Nat}:B4n (.sl b st 0 m) k h n=B7c (A2.get h b st) fun rs=>m=rs.length∧k (.sl b st 0 m) (A2.put h b st (.rows 1 rs)) n:=rfl
@[congr] theorem C5W{b b':Option Blk}{f:List (List V)→Prop}(e0:b=b'):B7c b f=B7c b' f:=by rw [e0]
@[go_sem] theorem C9A{rs:List (List V)}{f:List (List V)→Prop}:B7c (some (.raw rs)) f=f rs:=rfl
@[go_sem] theorem B4i{s:List UInt8}:B4h (some (C1 s))=some (.str s):=by
 have: ∀s:List UInt8,A8x (C1 s)=some s:=by
  intro s
  induction s with
  |nil=>rfl
  |cons b s ih=>
   have e:C1 (b::s)= [.int .u8 b.toNat]::C1 s:=rfl
   rw [e,A8x,ih]
   simp
 simp only [B4h,this]
@[go_sem ↓] theorem C8P{z:List V}{x:Opd}{sl:List (Nat×V)}{h:A2}{n:Nat}{k:Res}:B0 P PK (.clr z x) ⟨sl,h,n⟩ k=B0I z (St.ev ⟨sl,h,n⟩ x) k h n:=rfl
@[congr] theorem C8G{l:Bool}{x x' y y':V}{k:Res}{h:A2}{n:Nat}(e0:x=x')(e1:y=y'):shK l x y k h n=shK l x' y' k h n:=by rw [e0,e1]
@[go_sem] theorem D0Q{l:Bool}{j j':IntKind}{a b:Int}{k:Res}{h:A2}{n:Nat}:shK l (.int j a) (.int j' b) k h n=(0≤b∧k (.int j (shZ l j a b)) h n):=rfl
@[congr] theorem C4N{len sz m:Nat}{agg:Bool}{x x' y y':V}{k:Res}{h:A2}{n:Nat}(e0:x=x')(e1:y=y'):A5X len sz m agg x y k h n=A5X len sz m agg x' y' k h n:=by rw [e0,e1]
@[go_sem] theorem C8n{len sz m:Nat}{agg:Bool}{cs:List V}{j:IntKind}{z:Int}{k:Res}{h:A2}{n:Nat}:A5X len sz m agg (.agg cs) (.int j z) k h n=(0≤z∧z<len∧F8 (F7 cs (z.toNat*sz) m agg) k h n):=rfl
@[congr] theorem C5V{z:List V}{x x':V}{k:Res}{h:A2}{n:Nat}(e0:x=x'):B0I z x k h n=B0I z x' k h n:=by rw [e0]
@[go_sem] theorem C8h{z:List V}{k:Res}{h:A2}{n:Nat}:B0I z .nils k h n=k (.tup []) h n:=rfl
@[go_sem ↓] theorem C7n{f:FuncId}{xs:List Opd}{sl:List (Nat×V)}{h:A2}{n:Nat}{k:Res}:B0 P PK (.call f xs) ⟨sl,h,n⟩ k=A3 P f (xs.map (St.ev ⟨sl,h,n⟩)) h n k:=rfl
@[go_sem ↓] theorem C9d{t:TypeId}{x:Opd}{sl:List (Nat×V)}{h:A2}{n:Nat}{k:Res}:B0 P PK (.tas t x) ⟨sl,h,n⟩ k=F8 (C2z t (St.ev ⟨sl,h,n⟩ x)) k h n:=rfl
@[go_sem] theorem D1a{k:IntKind}{z:Int}:zV (.agg #[.int k z])=some (.agg [.int k z]):=rfl
@[go_sem ↓] theorem C8Y{t:TypeId}{x:Opd}{sl:List (Nat×V)}{h:A2}{n:Nat}{k:Res}:B0 P PK (.mki t x) ⟨sl,h,n⟩ k=F8 ((unV (St.ev ⟨sl,h,n⟩ x)).map fun u=> .cst (.iface t u)) k h n:=rfl
@[go_sem ↓] theorem C9a{x:Opd}{sl:List (Nat×V)}{h:A2}{n:Nat}{k:Res}:B0 P PK (.pan x) ⟨sl,h,n⟩ k=C3F PK (St.ev ⟨sl,h,n⟩ x) h n:=rfl
@[go_sem ↓] theorem C7l{sz:Nat}{x:Opd}{sl:List (Nat×V)}{h:A2}{n:Nat}{k:Res}:B0 P PK (.boxi sz x) ⟨sl,h,n⟩ k=A8v sz (R1 (St.ev ⟨sl,h,n⟩ x)) k h n:=rfl
@[congr] theorem C4A{sz:Nat}{o o':Option (List V)}{k:Res}{h:A2}{n:Nat}(e0:o=o'):A8v sz o k h n=A8v sz o' k h n:=by rw [e0]
@[go_sem] theorem C5N{sz:Nat}{cs:List V}{k:Res}{h:A2}{n:Nat}:A8v sz (some cs) k h n=(cs.length=sz∧k (.iptr [cs] 0 0) h n):=rfl
@[go_sem ↓] theorem C5i{m:Nat}{agg:Bool}{x:Opd}{sl:List (Nat×V)}{h:A2}{n:Nat}{k:Res}:B0 P PK (.loadi m agg x) ⟨sl,h,n⟩ k=A2m m agg (St.ev ⟨sl,h,n⟩ x) k h n:=rfl
@[congr] theorem C3y{m:Nat}{agg:Bool}{x x':V}{k:Res}{h:A2}{n:Nat}(e:x=x'):A2m m agg x k h n=A2m m agg x' k h n:=by rw [e]
@[go_sem] theorem C4Q{es:List (List V)}{i j m:Nat}{agg:Bool}{k:Res}{h:A2}{n:Nat}:A2m m agg (.iptr es i j) k h n=A0B es i fun row=>F8 (F7 row j m agg) k h n:=by
 simp only [A2m,B8Q,A0B]
 cases es[i]? <;>rfl
@[go_sem ↓] theorem C5d{f:FuncId}{xs:List Opd}{sl:List (Nat×V)}{h:A2}{n:Nat}{k:Res}:B0 P PK (.callp f xs) ⟨sl,h,n⟩ k=C2 P f (xs.map (St.ev ⟨sl,h,n⟩)) h n k PK:=rfl
@[go_sem ↓] theorem C5e{x:Opd}{xs:List Opd}{sl:List (Nat×V)}{h:A2}{n:Nat}{k:Res}:B0 P PK (.callv x xs) ⟨sl,h,n⟩ k=A5R P (St.ev ⟨sl,h,n⟩ x) (xs.map (St.ev ⟨sl,h,n⟩)) h n k:=rfl
@[go_sem ↓] theorem C8L{sl:List (Nat×V)}{h:A2}{n:Nat}{k:Res}:B0 P PK (.bad) ⟨sl,h,n⟩ k=False:=rfl
@[congr] theorem C6F{o o':Option V}{k:Res}{h:A2}{n:Nat}(e0:o=o'):F8 o k h n=F8 o' k h n:=by rw [e0]
@[go_sem] theorem D0M{v:V}{k:Res}{h:A2}{n:Nat}:F8 (some v) k h n=k v h n:=rfl
@[go_sem] theorem C8z  {k:Res}{h:A2}{n:Nat}:F8 none k h n=False:=rfl
@[congr] theorem C5M{nm sz:Nat}{o o':Option (List V)}{k:Res}{h:A2}{n:Nat}(e0:o=o'):B4g nm sz o k h n=B4g nm sz o' k h n:=by rw [e0]
@[go_sem] theorem C8f{nm sz:Nat}{cs:List V}{k:Res}{h:A2}{n:Nat}:B4g nm sz (some cs) k h n=(cs.length=sz∧k (.ptr nm n 0 0) (A2.put h nm n (.rows sz [cs])) (n+1)):=rfl
@[congr] theorem C6U{nm sz:Nat}{o o':Option (List (List V))}{k:Res}{h:A2}{n:Nat}(e0:o=o'):B7L nm sz o k h n=B7L nm sz o' k h n:=by rw [e0]
@[go_sem] theorem C8E{nm sz:Nat}{rs:List (List V)}{k:Res}{h:A2}{n:Nat}:B7L nm sz (some rs) k h n=k (.sl nm n 0 rs.length) (A2.put h nm n (.rows sz rs)) (n+1):=rfl
@[congr] theorem C6t{o o':Option (List (List V))}{k:Res}{h:A2}{n:Nat}(e0:o=o'):B5J o k h n=B5J o' k h n:=by rw [e0]
@[go_sem] theorem C8o{rs:List (List V)}{k:Res}{h:A2}{n:Nat}:B5J (some rs) k h n=k (.isl rs) h n:=rfl
@[congr] theorem C4K{o o':Option A2}{k:Res}{n:Nat}(e:o=o'):A3J o k n=A3J o' k n:=by rw [e]
@[go_sem] theorem C6l{h:A2}{k:Res}{n:Nat}:A3J (some h) k n=k .undef h n:=rfl
@[congr] theorem C3q{sz:Nat}{x x' i i':V}{k:Res}{h:A2}{n:Nat}(e0:x=x')(e1:i=i'):A1Y sz x i k h n=A1Y sz x' i' k h n:=by rw [e0,e1]
@[go_sem] theorem C8m{sz b st i0 m:Nat}{j:IntKind}{z:Int}{k:Res}{h:A2}{n:Nat}:A1Y sz (.sl b st i0 m) (.int j z) k h n=(0≤z∧z<m∧A8t (A2.get h b st)=some sz∧k (.ptr b st (i0+z.toNat) 0) h n):=rfl
@[go_sem] theorem C6n{sz:Nat}{es:List (List V)}{j:IntKind}{z:Int}{k:Res}{h:A2}{n:Nat}:A1Y sz (.isl es) (.int j z) k h n=(0≤z∧z<es.length∧C4 es sz∧k (.iptr es z.toNat 0) h n):=rfl
@[go_sem] theorem C4M{sz:Nat}{i:V}{k:Res}{h:A2}{n:Nat}:A1Y sz .nils i k h n=False:=by cases i<;>rfl
@[congr] theorem C2Q{len sz:Nat}{x x' i i':V}{k:Res}{h:A2}{n:Nat}(e0:x=x')(e1:i=i'):A0y len sz x i k h n=A0y len sz x' i' k h n:=by rw [e0,e1]
@[go_sem] theorem C4L{len sz b st i0 q:Nat}{j:IntKind}{z:Int}{k:Res}{h:A2}{n:Nat}:A0y len sz (.ptr b st i0 q) (.int j z) k h n=(0≤z∧z<len∧k (.ptr b st i0 (q+z.toNat*sz)) h n):=rfl
@[go_sem] theorem C3p{len sz i0 q:Nat}{es:List (List V)}{j:IntKind}{z:Int}{k:Res}{h:A2}{n:Nat}:A0y len sz (.iptr es i0 q) (.int j z) k h n=(0≤z∧z<len∧k (.iptr es i0 (q+z.toNat*sz)) h n):=rfl
@[congr] theorem C6q{x x' i i':V}{k:Res}{h:A2}{n:Nat}(e0:x=x')(e1:i=i'):B4t x i k h n=B4t x' i' k h n:=by rw [e0,e1]
@[go_sem] theorem C9R{s:List UInt8}{j:IntKind}{z:Int}{k:Res}{h:A2}{n:Nat}:B4t (.str s) (.int j z) k h n=(0≤z∧F8 ((s[z.toNat]?).map fun b=> .int .u8 b.toNat) k h n):=rfl
@[go_sem] theorem C7M{j:IntKind}{z:Int}{k:Res}{h:A2}{n:Nat}:S0 j z k h n=(inR j z∧k (B3Y j z) h n):=rfl
@[congr] theorem C5I{op:BinOp}{x x' y y':V}{k:Res}{h:A2}{n:Nat}(e0:x=x')(e1:y=y'):S1 op x y k h n=S1 op x' y' k h n:=by rw [e0,e1]
@[go_sem] theorem C9l{j j':IntKind}{a b:Int}{k:Res}{h:A2}{n:Nat}:S1 .add (.int j a) (.int j' b) k h n=(j=j'∧S0 j (a+b) k h n):=rfl
@[go_sem] theorem C9w{j j':IntKind}{a b:Int}{k:Res}{h:A2}{n:Nat}:S1 .sub (.int j a) (.int j' b) k h n=(j=j'∧S0 j (a-b) k h n):=rfl
@[go_sem] theorem C9s{j j':IntKind}{a b:Int}{k:Res}{h:A2}{n:Nat}:S1 .mul (.int j a) (.int j' b) k h n=(j=j'∧S0 j (a*b) k h n):=rfl
@[go_sem] theorem C9u{j j':IntKind}{a b:Int}{k:Res}{h:A2}{n:Nat}:S1 .quo (.int j a) (.int j' b) k h n=(j=j'∧b≠0∧S0 j (a.tdiv b) k h n):=rfl
@[go_sem] theorem C9v{j j':IntKind}{a b:Int}{k:Res}{h:A2}{n:Nat}:S1 .rem (.int j a) (.int j' b) k h n=(j=j'∧b≠0∧k (.int j (a.tmod b)) h n):=rfl
@[go_sem] theorem C9n{j j':IntKind}{a b:Int}{k:Res}{h:A2}{n:Nat}:S1 .eql (.int j a) (.int j' b) k h n=(j=j'∧k (.bool (decide (a=b))) h n):=rfl
@[go_sem] theorem C9t{j j':IntKind}{a b:Int}{k:Res}{h:A2}{n:Nat}:S1 .neq (.int j a) (.int j' b) k h n=(j=j'∧k (.bool (decide (¬a=b))) h n):=rfl
@[go_sem] theorem C9r{j j':IntKind}{a b:Int}{k:Res}{h:A2}{n:Nat}:S1 .lss (.int j a) (.int j' b) k h n=(j=j'∧k (.bool (decide (a<b))) h n):=rfl
@[go_sem] theorem C9q{j j':IntKind}{a b:Int}{k:Res}{h:A2}{n:Nat}:S1 .leq (.int j a) (.int j' b) k h n=(j=j'∧k (.bool (decide (a≤b))) h n):=rfl
@[go_sem] theorem C9p{j j':IntKind}{a b:Int}{k:Res}{h:A2}{n:Nat}:S1 .gtr (.int j a) (.int j' b) k h n=(j=j'∧k (.bool (decide (b<a))) h n):=rfl
@[go_sem] theorem C9o{j j':IntKind}{a b:Int}{k:Res}{h:A2}{n:Nat}:S1 .geq (.int j a) (.int j' b) k h n=(j=j'∧k (.bool (decide (b≤a))) h n):=rfl
@[go_sem] theorem C9m{j j':IntKind}{a b:Int}{k:Res}{h:A2}{n:Nat}:S1 .and (.int j a) (.int j' b) k h n=(j=j'∧k (.int j (S2 .and j a b)) h n):=rfl
@[go_sem] theorem D0v{j j':IntKind}{a b:Int}{k:Res}{h:A2}{n:Nat}:S1 .or (.int j a) (.int j' b) k h n=(j=j'∧k (.int j (S2 .or j a b)) h n):=rfl
@[go_sem] theorem C9x{j j':IntKind}{a b:Int}{k:Res}{h:A2}{n:Nat}:S1 .xor (.int j a) (.int j' b) k h n=(j=j'∧k (.int j (S2 .xor j a b)) h n):=rfl
@[go_sem] theorem C4y{j j':IntKind}{a b:Int}{k:Res}{h:A2}{n:Nat}:S1 .andNot (.int j a) (.int j' b) k h n=(j=j'∧k (.int j (S2 .andNot j a b)) h n):=rfl
@[go_sem] theorem C7X{a b:List UInt8}{k:Res}{h:A2}{n:Nat}:S1 .leq (.str a) (.str b) k h n=k (.bool (N6 a b||decide (a=b))) h n:=rfl
@[go_sem] theorem C7W{a b:List UInt8}{k:Res}{h:A2}{n:Nat}:S1 .gtr (.str a) (.str b) k h n=k (.bool !(N6 a b||decide (a=b))) h n:=rfl
@[go_sem] theorem C7T{a b:List UInt8}{k:Res}{h:A2}{n:Nat}:S1 .add (.str a) (.str b) k h n=(a.length+b.length≤1099511627776∧k (.str (a++b)) h n):=rfl
@[go_sem] theorem C7U{a b:List UInt8}{k:Res}{h:A2}{n:Nat}:S1 .eql (.str a) (.str b) k h n=k (.bool (decide (a=b))) h n:=rfl
@[go_sem] theorem C7Z{a b:List UInt8}{k:Res}{h:A2}{n:Nat}:S1 .neq (.str a) (.str b) k h n=k (.bool (decide (¬a=b))) h n:=rfl
@[go_sem] theorem C7Y{a b:List UInt8}{k:Res}{h:A2}{n:Nat}:S1 .lss (.str a) (.str b) k h n=k (.bool (N6 a b)) h n:=rfl
@[go_sem] theorem C7V{a b:List UInt8}{k:Res}{h:A2}{n:Nat}:S1 .geq (.str a) (.str b) k h n=k (.bool (!N6 a b)) h n:=rfl
@[congr] theorem C9e{op:UnOp}{x x':V}{k:Res}{h:A2}{n:Nat}(e0:x=x'):unK op x k h n=unK op x' k h n:=by rw [e0]
@[go_sem] theorem D0W{j:IntKind}{a:Int}{k:Res}{h:A2}{n:Nat}:unK .neg (.int j a) k h n=S0 j (0-a) k h n:=rfl
@[go_sem] theorem D0Y{j:IntKind}{a:Int}{k:Res}{h:A2}{n:Nat}:unK .xor (.int j a) k h n=k (.int j (S2 .xor j (bif j.signed then -1 else j.max) a)) h n:=rfl
@[go_sem] theorem D0X{b:Bool}{k:Res}{h:A2}{n:Nat}:unK .not (.bool b) k h n=k (.bool !b) h n:=rfl
def B2s(o:Option Blk)(f:Nat→List (List V)→Prop):Prop:=
 match o with
 |some (.rows sz rs)=>f sz rs
 |_=>False
def B6Z(a b:Option Int)(f:Int→Int→Prop):Prop:=
 match a,b with
 |some a,some b=>f a b
 |_,_=>False
@[congr] theorem C3O{o o':Option Blk}{f:Nat→List (List V)→Prop}(e:o=o'):B2s o f=B2s o' f:=by rw [e]
@[congr] theorem C5K{a a' b b':Option Int}{f:Int→Int→Prop}(e:a=a')(e':b=b'):B6Z a b f=B6Z a' b' f:=by rw [e,e']
@[go_sem] theorem C4Z{sz:Nat}{rs:List (List V)}{f:Nat→List (List V)→Prop}:B2s (some (.rows sz rs)) f=f sz rs:=rfl
@[go_sem] theorem C8e{a b:Int}{f:Int→Int→Prop}:B6Z (some a) (some b) f=f a b:=rfl
@[congr] theorem C5x{L nm sz:Nat}{b b':V}{o o':Option (List (List V))}{k:Res}{h:A2}{n:Nat}(e0:b=b')(e1:o=o'):A5M L nm sz b o k h n=A5M L nm sz b' o' k h n:=by rw [e0,e1]
@[go_sem] theorem C7L{L nm sz:Nat}{xs:List (List V)}{k:Res}{h:A2}{n:Nat}:A5M L nm sz .nils (some xs) k h n=(C4 xs sz∧xs.length≤L∧k (.sl nm n 0 xs.length) (A2.put h nm n (.rows sz xs)) (n+1)):=rfl
@[go_sem] theorem D0t{L nm sz b st i m:Nat}{xs:List (List V)}{k:Res}{h:A2}{n:Nat}:A5M L nm sz (.sl b st i m) (some xs) k h n=(C4 xs sz∧B2s (A2.get h b st) fun sz' rs=>sz'=sz∧i+m≤rs.length∧m+xs.length≤L∧k (.sl b n 0 (m+xs.length)) (A2.put h b n (.rows sz ((rs.drop i).take m++xs))) (n+1)):=rfl
@[congr] theorem C4T{nm:Nat}{z:List V}{x x':V}{k:Res}{h:A2}{n:Nat}(e0:x=x'):B0x nm z x k h n=B0x nm z x' k h n:=by rw [e0]
@[go_sem] theorem C8v{nm:Nat}{z:List V}{m:Int}{k:Res}{h:A2}{n:Nat}:B0x nm z (.int .i64 m) k h n=(0≤m∧m≤137438953472∧k (.sl nm n 0 m.toNat) (A2.put h nm n (.rows z.length (List.replicate m.toNat z))) (n+1)):=rfl
@[go_sem] theorem D0x{z:List V}{b st i m:Nat}{k:Res}{h:A2}{n:Nat}:B0I z (.sl b st i m) k h n=B2s (A2.get h b st) fun sz rs=>sz=z.length∧i+m≤rs.length∧k (.tup []) (A2.put h b st (.rows sz (rs.take i++List.replicate m z++rs.drop (i+m)))) n:=rfl
@[congr] theorem C6Y{sz:Nat}{x x':V}{lo lo' hi hi':Option V}{k:Res}{h:A2}{n:Nat}(e0:x=x')(e1:lo=lo')(e2:hi=hi'):A9q sz x lo hi k h n=A9q sz x' lo' hi' k h n:=by rw [e0,e1,e2]
@[go_sem] theorem D0R{sz b st i m:Nat}{lo hi:Option V}{k:Res}{h:A2}{n:Nat}:A9q sz (.sl b st i m) lo hi k h n=B6Z (F6 0 lo) (F6 m hi) fun l u=>A8t (A2.get h b st)=some sz∧0≤l∧l≤u∧u≤m∧k (.sl b st (i+l.toNat) (u-l).toNat) h n:=rfl
@[go_sem] theorem D0g{sz:Nat}{es:List (List V)}{lo hi:Option V}{k:Res}{h:A2}{n:Nat}:A9q sz (.isl es) lo hi k h n=B6Z (F6 0 lo) (F6 es.length hi) fun l u=>C4 es sz∧0≤l∧l≤u∧u≤es.length∧k (.isl ((es.drop l.toNat).take (u-l).toNat)) h n:=rfl
@[go_sem] theorem C8H{sz:Nat}{lo hi:Option V}{k:Res}{h:A2}{n:Nat}:A9q sz .nils lo hi k h n=B6Z (F6 0 lo) (F6 0 hi) fun l u=>l=0∧u=0∧k .nils h n:=rfl
@[congr] theorem C7b{x x':V}{lo lo' hi hi':Option V}{k:Res}{h:A2}{n:Nat}(e0:x=x')(e1:lo=lo')(e2:hi=hi'):B0O x lo hi k h n=B0O x' lo' hi' k h n:=by rw [e0,e1,e2]
@[go_sem] theorem D0h{s:List UInt8}{lo hi:Option V}{k:Res}{h:A2}{n:Nat}:B0O (.str s) lo hi k h n=B6Z (F6 0 lo) (F6 s.length hi) fun l u=>0≤l∧l≤u∧u≤s.length∧k (.str ((s.drop l.toNat).take (u-l).toNat)) h n:=rfl
def B9R(o:Option V)(f:V→Prop)(g:Prop):Prop:=
 match o with
 |some v=>f v
 |none=>g
@[congr] theorem C6E{o o':Option V}{f:V→Prop}{g:Prop}(e:o=o'):B9R o f g=B9R o' f g:=by rw [e]
@[go_sem] theorem C8y{v:V}{f:V→Prop}{g:Prop}:B9R (some v) f g=f v:=rfl
@[go_sem] theorem C8x{f:V→Prop}{g:Prop}:B9R none f g=g:=rfl
@[go_sem] theorem D0a{α:Type}{o:Option α}{F:α→V}{f:V→Prop}{g:Prop}:B9R (o.map F) f g=((∀x,o=some x→f (F x))∧(o=none→g)):=by
 cases o<;>simp [B9R]
@[go_sem] theorem C8g{g:FuncId}{cs as:List V}{k:Res}{h:A2}{n:Nat}:A5R P (.fn g cs) as h n k=(H9 P g=true∧A3 P g (as++cs) h n k):=rfl
@[congr] theorem C3f{x x':V}{as as':List V}{k:Res}{h:A2}{n:Nat}(e:x=x')(e':as=as'):A5R P x as h n k=A5R P x' as' h n k:=by rw [e,e']
@[congr] theorem C4q{f:FuncId}{as as':List V}{k:Res}{h h':A2}{n n':Nat}{pk:H1}(e:as=as')(e':h=h')(e'':n=n'):C2 P f as h n k pk=C2 P f as' h' n' k pk:=by rw [e,e',e'']
@[congr] theorem C4r{f:FuncId}{as as':List V}{k:Res}{h h':A2}{n n':Nat}(e:as=as')(e':h=h')(e'':n=n'):A3 P f as h n k=A3 P f as' h' n' k:=by rw [e,e',e'']
def C3N(Q:Res)(o:Option (List V))(h:A2)(n:Nat):Prop:=
 match o with
 |some vs=>Q (A7w vs) h n
 |none=>False
@[congr] theorem C6P{Q:Res}{o o':Option (List V)}{h:A2}{n:Nat}(e:o=o'):C3N Q o h n=C3N Q o' h n:=by rw [e]
@[go_sem] theorem C8B{Q:Res}{vs:List V}{h:A2}{n:Nat}:C3N Q (some vs) h n=Q (A7w vs) h n:=rfl
@[go_sem ↓] theorem D0N{N:Nat}{rs:List RV}{Q:Res}{sl:List (Nat×V)}{h:A2}{n:Nat}:B4H ⟨P,N,rs,Q,none,pk⟩ ⟨sl,h,n⟩=C3N Q (A4m ⟨sl,h,n⟩ rs) h n:=rfl
@[congr] theorem C4H{b b':Bool}{A:Prop}(e:b=b'):B5x b A=B5x b' A:=by rw [e]
@[go_sem] theorem C4I{A:Prop}:B5x false A=A:=rfl
@[go_sem] theorem C9E{i j:Nat}{A:Prop}:B5x (Nat.beq i j) A=if i=j then False else A:=by
 cases h:Nat.beq i j with
 |true=>rw [if_pos (Nat.eq_of_beq_eq_true h)];rfl
 |false=>rw [if_neg fun e=>by rw [e,Nat.beq_refl]at h;cases h];rfl
@[congr] theorem C4G{o o':Option (List AItem)}{f:List AItem→Prop}{g:Prop}(e:o=o'):B1C o f g=B1C o' f g:=by rw [e]
@[go_sem] theorem C6c{l:List AItem}{f:List AItem→Prop}{g:Prop}:B1C (some l) f g=f l:=rfl
@[go_sem] theorem C6b{f:List AItem→Prop}{g:Prop}:B1C none f g=g:=rfl
@[go_sem ↓] theorem C6w{N:Nat}{rs:List RV}{Q:Res}{s:St}:A2c ⟨P,N,rs,Q,none,pk⟩ none s=B4H ⟨P,N,rs,Q,none,pk⟩ s:=rfl
@[go_sem ↓] theorem C6x{N:Nat}{rs:List RV}{Q:Res}{s:St}:A2c ⟨P,N,rs,Q,none,pk⟩ (some .ret) s=B4H ⟨P,N,rs,Q,none,pk⟩ s:=rfl
@[go_sem ↓] theorem C4O{N id:Nat}{rs:List RV}{Q:Res}{s:St}:A2c ⟨P,N,rs,Q,none,pk⟩ (some (.exit id)) s=False:=rfl
def C2c(o:Option Blk)(b st:Nat)(j:Option Code)(Q:Res)(h:A2)(n:Nat):Prop:=
 match o with
 |some (.loop N sl ps p _ _)=>Q (.bool j.isNone) (A2.put h b st (.loop N sl ps p (if j.isNone then .ready else .done) j)) n
 |_=>False
@[congr] theorem C6Q{o o':Option Blk}{b st:Nat}{j:Option Code}{Q:Res}{h:A2}{n:Nat}(e:o=o'):C2c o b st j Q h n=C2c o' b st j Q h n:=by rw [e]
@[go_sem ↓] theorem C8q{N b st:Nat}{rs:List RV}{Q:Res}{j:Option Code}{sl:List (Nat×V)}{h:A2}{n:Nat}:A2c ⟨P,N,rs,Q,some (b,st),pk⟩ j ⟨sl,h,n⟩=C2c (A2.get h b st) b st j Q h n:=rfl
@[go_sem] theorem D0e{b st N:Nat}{sl:List (Nat×V)}{ps:List Nat}{p:Code→Code→Prop}{s:LoopState}{pd:Option Code}{Q:Res}{h:A2}{n:Nat}:C2c (some (.loop N sl ps p s pd)) b st none Q h n=Q (.bool true) (A2.put h b st (.loop N sl ps p .ready none)) n:=rfl
@[go_sem] theorem C8C{b st N:Nat}{sl:List (Nat×V)}{ps:List Nat}{p:Code→Code→Prop}{s:LoopState}{pd:Option Code}{c:Code}{Q:Res}{h:A2}{n:Nat}:C2c (some (.loop N sl ps p s pd)) b st (some c) Q h n=Q (.bool false) (A2.put h b st (.loop N sl ps p .done (some c))) n:=rfl
def C3b(o:Option Blk)(b st:Nat)(K:St→Prop)(sl:List (Nat×V))(h:A2)(n:Nat):Prop:=
 match o with
 |some (.loop N sl' ps p .ready pend)=>K ⟨sl,A2.put h b st (.loop N sl' ps p .busy pend),n⟩
 |_=>False
@[congr] theorem C5F{o o':Option Blk}{b st:Nat}{K:St→Prop}{sl:List (Nat×V)}{h:A2}{n:Nat}(e:o=o'):C3b o b st K sl h n=C3b o' b st K sl h n:=by rw [e]
@[go_sem ↓] theorem D0u{N b st:Nat}{rs:List RV}{Q:Res}{K:St→Prop}{sl:List (Nat×V)}{h:A2}{n:Nat}:C5E ⟨P,N,rs,Q,some (b,st),pk⟩ ⟨sl,h,n⟩ K=C3b (A2.get h b st) b st K sl h n:=rfl
@[go_sem] theorem C5G{b st N:Nat}{sl sl':List (Nat×V)}{ps:List Nat}{p:Code→Code→Prop}{pd:Option Code}{K:St→Prop}{h:A2}{n:Nat}:C3b (some (.loop N sl' ps p .ready pd)) b st K sl h n=K ⟨sl,A2.put h b st (.loop N sl' ps p .busy pd),n⟩:=rfl
@[go_sem] theorem C8i{A:Prop}:C9C none none A=A:=rfl
@[go_sem] theorem C6G:B0B none=B6a:=rfl
@[go_sem] theorem C6H{p:H1}:B0B (some p)=p:=rfl
@[congr] theorem C6R{c:Cf}{nm:Nat}{v v':V}{ps:List Nat}{x y:AC}{s:St}{K:Option Code→St→Prop}(e:v=v'):B9Z c nm v ps x y s K=B9Z c nm v' ps x y s K:=by rw [e]
@[go_sem] theorem D0O{N nm:Nat}{rs:List RV}{Q:Res}{f:FuncId}{cs:List V}{ps:List Nat}{x y:AC}{sl:List (Nat×V)}{h:A2}{n:Nat}{K:Option Code→St→Prop}:
  B9Z ⟨P,N,rs,Q,none,none⟩ nm (.fn f cs) ps x y ⟨sl,h,n⟩ K=(H9 P f=true∧A3 P f (.yld nm n::cs) (A2.put h nm n (.loop N sl ps (d9 P N x y) .ready none)) (n+1) (B7J nm n sl K)):=by
 simp [B9Z]
def C2d(o:Option Blk)(K:Option Code→Prop):Prop:=
 match o with
 |some (.loop _ _ _ _ s pend)=>s≠ .busy∧K pend
 |_=>False
@[congr] theorem C6S{o o':Option Blk}{K:Option Code→Prop}(e:o=o'):C2d o K=C2d o' K:=by rw [e]
@[go_sem] theorem D0P{nm st:Nat}{sl:List (Nat×V)}{K:Option Code→St→Prop}{r:V}{h:A2}{n:Nat}:B7J nm st sl K r h n=C2d (A2.get h nm st) fun pend=>K pend ⟨sl,A2.del h nm,n⟩:=by
 unfold B7J C2d
 cases A2.get h nm st with
 |none=>rfl
 |some x=>cases x<;>rfl
@[go_sem] theorem C8D{N:Nat}{sl:List (Nat×V)}{ps:List Nat}{p:Code→Code→Prop}{s:LoopState}{pd:Option Code}{K:Option Code→Prop}:C2d (some (.loop N sl ps p s pd)) K=(s≠ .busy∧K pd):=rfl
@[go_sem] theorem C6v{K:List AItem→St→Prop}{k:List AItem}{s:St}:B5K K k none s=K k s:=rfl
@[go_sem] theorem C8p{K:List AItem→St→Prop}{k:List AItem}{s:St}:B5K K k (some .ret) s=K (.code .ret::k) s:=rfl
@[go_sem] theorem C6u{K:List AItem→St→Prop}{k:List AItem}{id:Nat}{s:St}:B5K K k (some (.exit id)) s=K (.code (.exit id)::k) s:=rfl
@[go_sem] theorem C4X{sl:List (Nat×V)}{p:Nat}{ps:List Nat}{a:V}{as:List V}:A4I sl (p::ps) (a::as)=A4I (E1 sl p a) ps as:=rfl
@[go_sem] theorem C6I{sl:List (Nat×V)}{as:List V}:A4I sl [] as=sl:=by cases as<;>rfl
@[go_sem] theorem C5Q{b st:Nat}{as:List V}{k:Res}{h:A2}{n:Nat}:A5R P (.yld b st) as h n k=J0 P b st as h n k:=rfl
@[congr] theorem C5v{b st:Nat}{as as':List V}{k:Res}{h h':A2}{n n':Nat}(e:as=as')(e':h=h')(e'':n=n'):J0 P b st as h n k=J0 P b st as' h' n' k:=by rw [e,e',e'']
@[congr] theorem D0r{l l':List AI}{K:St→Prop}{s s':St}(e':l=l')(e:s=s'):vo P PK l K s=vo P PK l' K s':=by rw [e,e']
@[congr] theorem C9P{k k':List AItem}{s s':St}(e':k=k')(e:s=s'):go c m k s=go c m k' s':=by rw [e,e']
@[congr] theorem C7K{s s':St}(e:s=s'):Run c k s=Run c k s':=by rw [e]
@[go_sem] theorem C8F{sz:Nat}:C4 [] sz=True:=by simp [C4]
@[go_sem] theorem C6W{sz:Nat}{r:List V}{rs:List (List V)}:C4 (r::rs) sz=(r.length=sz∧C4 rs sz):=by simp [C4]
@[go_sem] theorem C2f{i:Nat}:C8 [] i= .undef:=rfl
theorem A9F{α:Type}{i j:Nat}{a b:α}:(bif Nat.beq i j then a else b)=if i=j then a else b:=by
 by_cases h:i=j
 ·subst h;simp
 ·rw [if_neg h]
  have:Nat.beq i j=false:=by
   cases hb:Nat.beq i j with
   |false=>rfl
   |true=>exact(h (Nat.eq_of_beq_eq_true hb)).elim
  rw [this];rfl
@[go_sem] theorem C0b{p:Nat×V}{r:List (Nat×V)}{i:Nat}:C8 (p::r) i=if p.1=i then p.2 else C8 r i:=A9F
@[go_sem] theorem D0i{i:Nat}{v:V}:E1 [] i v= [(i,v)]:=rfl
@[go_sem] theorem C8I{p:Nat×V}{r:List (Nat×V)}{i:Nat}{v:V}:E1 (p::r) i v=if p.1<i then(i,v)::p::r else if p.1=i then(i,v)::r else p::E1 r i v:=by
 simp only [E1]
 rw [A9F]
 by_cases h:p.1<i
 ·rw [if_pos h,if_neg (by omega),show Nat.blt p.1 i=true from Nat.ble_eq_true_of_le h];rfl
 ·rw [if_neg h]
  have:Nat.blt p.1 i=false:=by
   cases hb:Nat.blt p.1 i with
   |false=>rfl
   |true=>exact(h (Nat.le_of_ble_eq_true hb)).elim
  rw [this];rfl
attribute [go_sem] St.ev.eq_1 St.ev.eq_2 St.ev.eq_3 St.ev.eq_4 know A4m A7w U1 B5T B0r B7i B2h B6h R1 B1I C1j C1i B5r B1T C2z unV C3F B7A C1D A9r A3q C1A B8E C9X C9W B8A F6 A8t H9
attribute [go_sem] inR B3Y C1g eqE eqE.eqFs B4p C2U mmV mm2 A1e G4 G3 A6d C1
attribute [go_sem] Option.map_some Option.map_none Option.bind_some Option.bind_none Option.getD_some Option.getD_none Option.isSome_some
attribute [go_sem] List.getElem?_cons_zero List.getElem?_cons_succ List.getElem?_nil List.length_cons List.length_nil List.drop_zero List.drop_succ_cons List.drop_nil List.take_zero List.take_succ_cons List.take_nil List.map_cons List.map_nil List.cons_append List.nil_append List.append_nil List.set_cons_zero List.set_cons_succ
attribute [go_sem] if_true if_false cond_true cond_false Bool.not_true Bool.not_false true_and and_true false_and and_false true_implies forall_const Bool.true_and Bool.and_true Bool.false_and Bool.and_false ite_true ite_false reduceIte
attribute [go_sem] Bool.not_eq_true Bool.not_eq_false decide_eq_true_eq decide_eq_false_iff_not Classical.not_not Bool.not_not decide_true decide_false Nat.zero_add Nat.add_zero ne_eq reduceCtorEq
@[go_sem] theorem D0B{α:Type}{a b:α}{p:Prop} [Decidable p]:(bif decide p then a else b)=if p then a else b:=by by_cases h:p<;>simp [h]
@[go_sem] theorem D0L{b st:Nat}:A2.get [] b st=none:=rfl
@[go_sem] theorem C9O{b' st' b st:Nat}{x:Blk}{r:A2}:A2.get ((b',st',x)::r) b st=if b'=b then(if st'=st then some x else none)else A2.get r b st:=A9F
@[go_sem] theorem D1i{h:A2}{b st:Nat}{x:Blk}:A2.put h b st x=(b,st,x)::A2.del h b:=rfl
@[go_sem] theorem D0D{b:Nat}:A2.del [] b= []:=rfl
@[go_sem] theorem C9B{b' st' b:Nat}{x:Blk}{r:A2}:A2.del ((b',st',x)::r) b=if b'=b then A2.del r b else(b',st',x)::A2.del r b:=by
 unfold A2.del
 rw [List.filter_cons,←A9F]
 cases Nat.beq b' b<;>simp
@[go_sem] theorem C8t{row:List V}{j n:Nat}:F7 row j n true=if j+n≤row.length then some (.agg ((row.drop j).take n))else none:=by
 unfold F7
 by_cases h:j+n≤row.length
 ·rw [if_pos h,Nat.ble_eq_true_of_le h];rfl
 ·rw [if_neg h]
  have:Nat.ble (j+n) row.length=false:=by
   cases hb:Nat.ble (j+n) row.length with
   |false=>rfl
   |true=>exact(h (Nat.le_of_ble_eq_true hb)).elim
  rw [this];rfl
@[go_sem] theorem C8s{row:List V}{j n:Nat}:F7 row j n false=row[j]? :=rfl
theorem C0O{α:Type}{i j:Nat}{a b:α}:(bif Nat.ble i j then a else b)=if i≤j then a else b:=by
 by_cases h:i≤j
 ·rw [if_pos h,Nat.ble_eq_true_of_le h];rfl
 ·rw [if_neg h]
  have:Nat.ble i j=false:=by
   cases hb:Nat.ble i j with
   |false=>rfl
   |true=>exact(h (Nat.le_of_ble_eq_true hb)).elim
  rw [this];rfl
@[go_sem] theorem C7S{α:Type}{i j k l:Nat}{a b:α}:(bif Nat.beq i j&&Nat.ble k l then a else b)=if i=j then(if k≤l then a else b)else b:=by
 rw [←A9F,←C0O]
 cases Nat.beq i j<;>rfl
attribute [go_sem] A9F C0O
@[go_sem] theorem D1m{sl:List (Nat×V)}{h:A2}{n i:Nat}:St.ev ⟨sl,h,n⟩ (.t i)=C8 sl i:=rfl
section
variable {d:Nat} {h:A2} {φ:Nat→Nat→Nat→Nat→V}
attribute [go_sem] V.sub A0P d6
theorem f8: ∃φ,frz d h=V.sub φ:=by cases d<;>exact⟨_,rfl⟩
@[go_sem] theorem C3m{j:IntKind}{z:Int}:frz d h (.int j z)= .int j z:=by obtain⟨φ,e⟩:=f8 (d:=d) (h:=h);rw [e,V.sub]
@[go_sem] theorem C9K{b:Bool}:frz d h (.bool b)= .bool b:=by obtain⟨φ,e⟩:=f8 (d:=d) (h:=h);rw [e,V.sub]
@[go_sem] theorem D0J{b:List UInt8}:frz d h (.str b)= .str b:=by obtain⟨φ,e⟩:=f8 (d:=d) (h:=h);rw [e,V.sub]
@[go_sem] theorem C8l:frz d h .undef= .undef:=by obtain⟨φ,e⟩:=f8 (d:=d) (h:=h);rw [e,V.sub]
@[go_sem] theorem C9M:frz d h .nilp= .nilp:=by obtain⟨φ,e⟩:=f8 (d:=d) (h:=h);rw [e,V.sub]
@[go_sem] theorem D0H:frz d h .err= .err:=by obtain⟨φ,e⟩:=f8 (d:=d) (h:=h);rw [e,V.sub]
@[go_sem] theorem C9J{k:IntKind}:frz d h (.anyi k)= .anyi k:=by obtain⟨φ,e⟩:=f8 (d:=d) (h:=h);rw [e,V.sub]
@[go_sem] theorem C9L:frz d h .nilm= .nilm:=by obtain⟨φ,e⟩:=f8 (d:=d) (h:=h);rw [e,V.sub]
@[go_sem] theorem C9N:frz d h .nils= .isl []:=by obtain⟨φ,e⟩:=f8 (d:=d) (h:=h);rw [e,V.sub]
@[go_sem] theorem D0G{cs:List V}:frz d h (.agg cs)= .agg (cs.map (frz d h)):=by obtain⟨φ,e⟩:=f8 (d:=d) (h:=h);rw [e,V.sub,A0P]
@[go_sem] theorem D0K{cs:List V}:frz d h (.tup cs)= .tup (cs.map (frz d h)):=by obtain⟨φ,e⟩:=f8 (d:=d) (h:=h);rw [e,V.sub,A0P]
@[go_sem] theorem D0I{es:List (List V)}:frz d h (.isl es)= .isl (es.map fun r=>r.map (frz d h)):=by obtain⟨φ,e⟩:=f8 (d:=d) (h:=h);rw [e,V.sub,d6]
@[go_sem] theorem D1d{b st i n:Nat}:frz (d+1) h (.sl b st i n)=match A3q h (.sl b st i n)with|some rs=> .isl (rs.map fun r=>r.map (frz d h))|none=> .undef:=by rw [frz,V.sub];rfl
end
theorem A3.pureF{f:FuncId}{xs:List V}{r:V}{h:A2}{n:Nat}{k:Res}(hp:Pure P f xs r)(has:xs.map (V.sub G6)=xs)(hk:k r h n):A3 P f xs h n k:=A3.pure hp has hk
theorem A2s.pureF{f:FuncId}{xs:List V}{r:V}{h:A2}{n:Nat}{k:Res}(hp:Pure P f xs r)(has:xs.map (V.sub G6)=xs)(hk:k r h n):A2s P f xs k h n:=⟨r,fun _ h'=>A3.pureF hp has h',hk⟩
def A6K(s:List (Nat×V)):List (Nat×V)→Prop
 | []=>True
 |p::r=>C8 s p.1=p.2∧A6K s r
def B4x(e:Nat×Nat×Blk):A2→Prop
 | []=>False
 |x::r=>x=e∨B4x e r
def A8u(h:A2):A2→Prop
 | []=>True
 |e::r=>B4x e h∧A8u h r
theorem D3{s:List (Nat×V)}: ∀{l:List (Nat×V)},A6K s l↔ ∀p∈l,p.2=C8 s p.1
 | []=>by simp [A6K]
 |p::r=>by simp only [A6K,D3,List.forall_mem_cons];rw [eq_comm]
theorem B5W{e:Nat×Nat×Blk}: ∀{l:A2},B4x e l↔e∈l
 | []=>by simp [B4x]
 |p::r=>by simp only [B4x,B5W,List.mem_cons];rw [eq_comm]
theorem A9G{h:A2}: ∀{l:A2},A8u h l↔ ∀p∈l,p∈h
 | []=>by simp [A8u]
 |p::r=>by simp only [A8u,A9G,List.forall_mem_cons,B5W]
@[go_sem] theorem D0s{s s':St}:O8 s s'=(A6K s.sl s'.sl∧A8u s.h s'.h∧s.n≤s'.n):=by
 rw [eq_iff_iff,D3,A9G];exact Iff.rfl
@[go_sem] theorem C6Z{s:List (Nat×V)}:A6K s []=True:=rfl
@[go_sem] theorem C5a{s:List (Nat×V)}{p:Nat×V}{r:List (Nat×V)}:A6K s (p::r)=(C8 s p.1=p.2∧A6K s r):=rfl
@[go_sem] theorem C9U{e:Nat×Nat×Blk}:B4x e []=False:=rfl
@[go_sem] theorem C8u{e x:Nat×Nat×Blk}{r:A2}:B4x e (x::r)=(x=e∨B4x e r):=rfl
@[go_sem] theorem C8d{h:A2}:A8u h []=True:=rfl
@[go_sem] theorem C5J{h r:A2}{e:Nat×Nat×Blk}:A8u h (e::r)=(B4x e h∧A8u h r):=rfl
attribute [go_sem] Prod.mk.injEq V.int.injEq V.bool.injEq V.str.injEq V.agg.injEq V.tup.injEq V.isl.injEq V.sl.injEq V.ptr.injEq V.mp.injEq V.yld.injEq Blk.loop.injEq Blk.rows.injEq List.cons.injEq
attribute [go_sem] List.length_map List.drop_zero List.take_length List.length_append List.length_cons List.length_nil List.length_set List.length_replicate
attribute [go_sem] List.cons_append List.nil_append
attribute [go_sem] true_or or_true or_false false_or Nat.le_refl false_implies implies_true forall_const
end
end Go.Abs
attribute [go_sem] Nat.reduceEqDiff Nat.reduceAdd Nat.reduceSub Nat.reduceMul Nat.reduceLeDiff Nat.reduceLT Nat.reduceBEq Int.reduceToNat Int.reduceLE Int.reduceLT Int.reduceEq Int.reduceNe Int.reduceAdd Int.reduceSub Int.reduceNeg Int.toNat_natCast Int.cast_ofNat_Int Int.natCast_zero Int.natCast_one reduceCtorEq reduceIte Nat.lt_irrefl and_self not_false_eq_true not_true_eq_false
