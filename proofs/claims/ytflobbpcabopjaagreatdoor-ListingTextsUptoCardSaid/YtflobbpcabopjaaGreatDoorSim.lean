/-
 The evaluator as rewrite rules. No condition.
-/
import Derived.Test.YtflobbpcabopjaaGreatDoorGo
set_option linter.unusedVariables false
set_option linter.unusedSimpArgs false
namespace Go.Abs
variable {PK:O7} {pk:Option O7}
theorem Run.unf{c:Cf}{x y:AC}{k:List AItem}{s:St}(h:x=y)(hr:Run c (.code y::k) s):Run c (.code x::k) s:=h ▸ hr
section
variable {c:Cf} {P:Program} {m:Nat} {k:List AItem} {s:St}
attribute [go_sem] go.eq_1 go.eq_2 go.eq_3 go.eq_4 go.eq_5 go.eq_6 go.eq_7 go.eq_8 go.eq_9 go.eq_10 go.eq_11 go.eq_12 go.eq_13 go.eq_14 go.eq_15 go.eq_16
@[go_sem] theorem D2G{K:St→Prop}:B4j P PK [] K s=True:=rfl
@[go_sem] theorem D1h{l:List AI}{r:List (List AI)}{K:St→Prop}:B4j P PK (l::r) K s=(vo P PK l K s∧B4j P PK r K s):=rfl
@[go_sem] theorem D4K{K:St→Prop}:vo P PK [] K s=K s:=rfl
@[go_sem] theorem D4A{i:AI}{r:List AI}{K:St→Prop}:vo P PK (i::r) K s=G2 P PK i s (vo P PK r K):=rfl
@[go_sem ↓] theorem D0K{sl:List (Nat×V)}{h:A2}{n:Nat}{d:Option Nat}{o:AO}{K:St→Prop}:G2 P PK ⟨d,none,o⟩ ⟨sl,h,n⟩ K=A5 P PK o ⟨sl,h,n⟩ (fin d sl K):=rfl
@[go_sem ↓] theorem D0L{sl:List (Nat×V)}{h:A2}{n:Nat}{d:Option Nat}{o:AO}{j:Nat}{b:Bool}{K:St→Prop}:G2 P PK ⟨d,some (j,b),o⟩ ⟨sl,h,n⟩ K=stepG (C3 sl j) b (vo P PK [⟨d,none,o⟩] K ⟨E4 sl j (.bool b),h,n⟩) (fin d (E4 sl j (.bool !b)) K (.cst Go.undef) h n) (fin d sl K (.cst Go.undef) h n):=rfl
@[congr] theorem C8I{v v':V}{w:Bool}{A B C:Prop}(h:v=v'):stepG v w A B C=stepG v' w A B C:=by rw [h]
@[congr] theorem C8f{v v':V}{A B:Prop}(h:v=v'):B1G v A B=B1G v' A B:=by rw [h]
@[go_sem] theorem D3O{A B C:Prop}:stepG (.bool true) true A B C=A:=by simp [stepG]
@[go_sem] theorem D3L{A B C:Prop}:stepG (.bool false) false A B C=A:=by simp [stepG]
@[go_sem] theorem D3N{A B C:Prop}:stepG (.bool true) false A B C=B:=by simp [stepG]
@[go_sem] theorem D3M{A B C:Prop}:stepG (.bool false) true A B C=B:=by simp [stepG]
@[go_sem] theorem D4t{w:Bool}{A B C:Prop}:stepG (.cst Go.undef) w A B C=C:=by simp [stepG,B2b,Go.undef]
@[go_sem low] theorem D4v{b:Bool}{A B C:Prop}:stepG (.bool b) true A B C=((b=true→A)∧(b=false→B)):=rfl
@[go_sem low] theorem D4u{b:Bool}{A B C:Prop}:stepG (.bool b) false A B C=((b=false→A)∧(b=true→B)):=rfl
@[go_sem] theorem D4a{A B:Prop}:B1G (.bool true) A B=A:=by simp [B1G]
@[go_sem] theorem D3Z{A B:Prop}:B1G (.bool false) A B=B:=by simp [B1G]
@[go_sem low] theorem D3Y{b:Bool}{A B:Prop}:B1G (.bool b) A B=((b=true→A)∧(b=false→B)):=rfl
@[go_sem ↓] theorem D3h{d:Nat}{sl:List (Nat×V)}{K:St→Prop}{r:V}{h:A2}{n:Nat}:fin (some d) sl K r h n=K ⟨E4 sl d r,h,n⟩:=rfl
@[go_sem ↓] theorem D3g{sl:List (Nat×V)}{K:St→Prop}{r:V}{h:A2}{n:Nat}:fin none sl K r h n=K ⟨sl,h,n⟩:=rfl
@[go_sem ↓] theorem D2A{x:Opd}{sl:List (Nat×V)}{h:A2}{n:Nat}{k:Res}:A5 P PK (.mov x) ⟨sl,h,n⟩ k=k (St.ev ⟨sl,h,n⟩ x) h n:=rfl
@[go_sem ↓] theorem D0Y{c a b:Opd}{sl:List (Nat×V)}{h:A2}{n:Nat}{k:Res}:A5 P PK (.pick c a b) ⟨sl,h,n⟩ k=H5 (B9A (St.ev ⟨sl,h,n⟩ c) (St.ev ⟨sl,h,n⟩ a) (St.ev ⟨sl,h,n⟩ b)) k h n:=rfl
@[go_sem ↓] theorem C8T{x:Opd}{sl:List (Nat×V)}{h:A2}{n:Nat}{k:Res}:A5 P PK (.nilck x) ⟨sl,h,n⟩ k=H5 (B5D (St.ev ⟨sl,h,n⟩ x)) k h n:=rfl
@[go_sem ↓] theorem D2p{nm sz:Nat}{x:Opd}{sl:List (Nat×V)}{h:A2}{n:Nat}{k:Res}:A5 P PK (.box nm sz x) ⟨sl,h,n⟩ k=B7A nm sz (Q5 (St.ev ⟨sl,h,n⟩ x)) k h n:=rfl
@[go_sem ↓] theorem C8J{z:List V}{ps:List (Nat×Nat×Opd)}{sl:List (Nat×V)}{h:A2}{n:Nat}{k:Res}:A5 P PK (.build z ps) ⟨sl,h,n⟩ k=H5 ((A1A ⟨sl,h,n⟩ z ps).map .agg) k h n:=rfl
@[go_sem ↓] theorem C8S{nm sz:Nat}{xs:List Opd}{sl:List (Nat×V)}{h:A2}{n:Nat}{k:Res}:A5 P PK (.mkrow nm sz xs) ⟨sl,h,n⟩ k=C1i nm sz (H3 sz ⟨sl,h,n⟩ xs) k h n:=rfl
@[go_sem ↓] theorem C8Q{sz:Nat}{xs:List Opd}{sl:List (Nat×V)}{h:A2}{n:Nat}{k:Res}:A5 P PK (.mkisl sz xs) ⟨sl,h,n⟩ k=B9d (H3 sz ⟨sl,h,n⟩ xs) k h n:=rfl
def A0Z(rs:List (List V))(i:Nat)(f:List V→Prop):Prop:=
 match rs[i]? with
 |some row=>f row
 |none=>False
def B3K(b:Option Blk)(f:Nat→List (List V)→Prop):Prop:=
 match b with
 |some (.rows sz rs)|some (.tb _ sz rs)=>f sz rs
 |_=>False
def A8u(b:Option Blk)(f:(Nat→List (List V)→Blk)→Nat→List (List V)→Prop):Prop:=
 match b with
 |some (.rows sz rs)=>f .rows sz rs
 |some (.tb T sz rs)=>f (.tb T) sz rs
 |_=>False
def C6i(b:Option Blk)(f:Nat→Nat→List (List V)→Prop):Prop:=
 match b with
 |some (.tb T sz rs)=>f T sz rs
 |_=>False
@[go_sem ↓] theorem D0P{T nm sz:Nat}{x:Opd}{sl:List (Nat×V)}{h:A2}{n:Nat}{k:Res}:A5 P PK (.boxt T nm sz x) ⟨sl,h,n⟩ k=B3L T nm sz (Q5 (St.ev ⟨sl,h,n⟩ x)) k h n:=rfl
@[congr] theorem C8d{T nm sz:Nat}{o o':Option (List V)}{k:Res}{h:A2}{n:Nat}(e0:o=o'):B3L T nm sz o k h n=B3L T nm sz o' k h n:=by rw [e0]
@[go_sem] theorem C9t{T nm sz:Nat}{cs:List V}{k:Res}{h:A2}{n:Nat}:B3L T nm sz (some cs) k h n=(cs.length=sz∧k (.ptr nm n 0 0) (A2.put h nm n (.tb T sz [cs])) (n+1)):=rfl
@[go_sem ↓] theorem D0M{T nm sz:Nat}{b x:Opd}{sl:List (Nat×V)}{h:A2}{n:Nat}{k:Res}:A5 P PK (.appt T nm sz b x) ⟨sl,h,n⟩ k=A3O T nm sz (St.ev ⟨sl,h,n⟩ b) (B2F h (St.ev ⟨sl,h,n⟩ x)) k h n:=rfl
@[congr] theorem C7V{T nm sz:Nat}{b b':V}{o o':Option (List (List V))}{k:Res}{h:A2}{n:Nat}(e0:b=b')(e1:o=o'):A3O T nm sz b o k h n=A3O T nm sz b' o' k h n:=by rw [e0,e1]
@[go_sem] theorem C9c{T nm sz:Nat}{xs:List (List V)}{k:Res}{h:A2}{n:Nat}:A3O T nm sz .nils (some xs) k h n=(C1 xs sz∧sz=1∧xs.length≤137438953472∧k (.sl nm n 0 xs.length) (A2.put h nm n (.tb T sz xs)) (n+1)):=rfl
@[go_sem] theorem D2I{T nm sz b st i m:Nat}{xs:List (List V)}{k:Res}{h:A2}{n:Nat}:A3O T nm sz (.sl b st i m) (some xs) k h n=(C1 xs sz∧sz=1∧C6i (A2.get h b st) fun T' sz' rs=>i=0∧T'=T∧sz'=sz∧m=rs.length∧m+xs.length≤137438953472∧k (.sl b n 0 (m+xs.length)) (A2.put h b n (.tb T sz (rs++xs))) (n+1)):=by
 unfold A3O C6i
 rfl
@[congr] theorem D1b{b b':Option Blk}{f:Nat→Nat→List (List V)→Prop}(e0:b=b'):C6i b f=C6i b' f:=by rw [e0]
@[go_sem] theorem D4w{T sz:Nat}{rs:List (List V)}{f:Nat→Nat→List (List V)→Prop}:C6i (some (.tb T sz rs)) f=f T sz rs:=rfl
@[congr] theorem C6C{b b':Option Blk}{f:(Nat→List (List V)→Blk)→Nat→List (List V)→Prop}(e0:b=b'):A8u b f=A8u b' f:=by rw [e0]
@[go_sem] theorem C7Y{sz:Nat}{rs:List (List V)}{f:(Nat→List (List V)→Blk)→Nat→List (List V)→Prop}:A8u (some (.rows sz rs)) f=f .rows sz rs:=rfl
@[go_sem] theorem D1n{T sz:Nat}{rs:List (List V)}{f:(Nat→List (List V)→Blk)→Nat→List (List V)→Prop}:A8u (some (.tb T sz rs)) f=f (.tb T) sz rs:=rfl
@[go_sem] theorem C7X{f:(Nat→List (List V)→Blk)→Nat→List (List V)→Prop}:A8u none f=False:=rfl
@[go_sem] theorem C9d{es:List (V×V)}{f:(Nat→List (List V)→Blk)→Nat→List (List V)→Prop}:A8u (some (.map es)) f=False:=rfl
@[go_sem] theorem D2J{T sz:Nat}{rs:List (List V)}{f:Nat→List (List V)→Prop}:B3K (some (.tb T sz rs)) f=f sz rs:=rfl
def B5A(h0:A2)(x:V)(m:Nat)(agg:Bool)(k:Res)(h:A2)(n:Nat):Prop:=H5 (A8R h0 x m agg) k h n
def B3I(h0:A2)(x:V)(cs:Option (List V))(m:Nat)(k:Res)(n:Nat):Prop:=
 match x with
 | .ptr b st i j=>A4P (B4O h0 b st i j m (A2.get h0 b st) cs) k n
 |_=>False
@[congr] theorem C8a{rs rs':List (List V)}{i i':Nat}{f:List V→Prop}(e0:rs=rs')(e1:i=i'):A0Z rs i f=A0Z rs' i' f:=by rw [e0,e1]
@[congr] theorem C7Z{b b':Option Blk}{f:Nat→List (List V)→Prop}(e0:b=b'):B3K b f=B3K b' f:=by rw [e0]
@[congr] theorem C8w{h0:A2}{x x':V}{m:Nat}{agg:Bool}{k:Res}{h:A2}{n:Nat}(e:x=x'):B5A h0 x m agg k h n=B5A h0 x' m agg k h n:=by rw [e]
@[congr] theorem C7L{h0:A2}{x x':V}{cs cs':Option (List V)}{m:Nat}{k:Res}{n:Nat}(e:x=x')(e1:cs=cs'):B3I h0 x cs m k n=B3I h0 x' cs' m k n:=by rw [e,e1]
@[go_sem ↓] theorem D0U{m:Nat}{agg:Bool}{x:Opd}{sl:List (Nat×V)}{h:A2}{n:Nat}{k:Res}:A5 P PK (.load m agg x) ⟨sl,h,n⟩ k=B5A h (St.ev ⟨sl,h,n⟩ x) m agg k h n:=rfl
@[go_sem ↓] theorem C8V{m:Nat}{x v:Opd}{sl:List (Nat×V)}{h:A2}{n:Nat}{k:Res}:A5 P PK (.store m x v) ⟨sl,h,n⟩ k=B3I h (St.ev ⟨sl,h,n⟩ x) (Q5 (St.ev ⟨sl,h,n⟩ v)) m k n:=by
 simp only [A5,B3I,B6a]
 cases St.ev ⟨sl,h,n⟩ x<;>rfl
@[go_sem] theorem D1S{h0:A2}{b st i j m:Nat}{agg:Bool}{k:Res}{h:A2}{n:Nat}:B5A h0 (.ptr b st i j) m agg k h n=B3K (A2.get h0 b st) fun _ rs=>A0Z rs i fun row=>H5 (G5 row j m agg) k h n:=by
 simp only [B5A,A8R,B3K,A0Z]
 cases A2.get h0 b st with
 |none=>rfl
 |some x=>
  cases x with
  |rows sz rs=>simp only;cases rs[i]? <;>rfl
  |map es=>rfl
  |loop=>rfl
  |mapb=>rfl
  |iter=>rfl
  |raw=>rfl
  |fz=>rfl
  |tb T sz rs=>simp only;cases rs[i]? <;>rfl
@[go_sem] theorem D0c{h0:A2}{es:List (List V)}{i j m:Nat}{agg:Bool}{k:Res}{h:A2}{n:Nat}:B5A h0 (.iptr es i j) m agg k h n=A0Z es i fun row=>H5 (G5 row j m agg) k h n:=by
 simp only [B5A,A8R,A0Z]
 cases es[i]? <;>rfl
@[go_sem] theorem D0Z{h0:A2}{b st i j m:Nat}{cs:List V}{k:Res}{n:Nat}:B3I h0 (.ptr b st i j) (some cs) m k n=
  A8u (A2.get h0 b st) fun B sz rs=>A0Z rs i fun row=>cs.length=m∧j+m≤row.length∧k .undef (A2.put h0 b st (B sz (rs.set i (H2 row j cs)))) n:=by
 simp only [B3I,B4O,A8u,A0Z]
 cases A2.get h0 b st with
 |none=>rfl
 | some x=>
  cases x with
  |map es=>rfl
  |loop=>rfl
  |mapb=>rfl
  |iter=>rfl
  |raw=>rfl
  |fz=>rfl
  | rows sz rs=>
   simp only
   cases rs[i]? with
   |none=>rfl
   | some row=>
    simp only
    by_cases h1:cs.length=m
    ·by_cases h2:j+m≤row.length
     ·rw [h1,Nat.beq_refl,Nat.ble_eq_true_of_le h2];simp [A4P,h2]
     ·have:Nat.ble (j+m) row.length=false:=by
       cases hb:Nat.ble (j+m) row.length with
       |false=>rfl
       |true=>exact(h2 (Nat.le_of_ble_eq_true hb)).elim
      rw [this];simp [A4P,h2]
    ·have:Nat.beq cs.length m=false:=by
      cases hb:Nat.beq cs.length m with
      |false=>rfl
      |true=>exact(h1 (Nat.eq_of_beq_eq_true hb)).elim
     rw [this];simp [A4P,h1]
  | tb T sz rs=>
   simp only
   cases rs[i]? with
   |none=>rfl
   | some row=>
    simp only
    by_cases h1:cs.length=m
    ·by_cases h2:j+m≤row.length
     ·rw [h1,Nat.beq_refl,Nat.ble_eq_true_of_le h2];simp [A4P,h2]
     ·have:Nat.ble (j+m) row.length=false:=by
       cases hb:Nat.ble (j+m) row.length with
       |false=>rfl
       |true=>exact(h2 (Nat.le_of_ble_eq_true hb)).elim
      rw [this];simp [A4P,h2]
    ·have:Nat.beq cs.length m=false:=by
      cases hb:Nat.beq cs.length m with
      |false=>rfl
      |true=>exact(h1 (Nat.eq_of_beq_eq_true hb)).elim
     rw [this];simp [A4P,h1]
@[go_sem] theorem C9f{sz:Nat}{rs:List (List V)}{f:Nat→List (List V)→Prop}:B3K (some (.rows sz rs)) f=f sz rs:=rfl
@[go_sem] theorem C9e{f:Nat→List (List V)→Prop}:B3K none f=False:=rfl
@[go_sem] theorem D1o{es:List (V×V)}{f:Nat→List (List V)→Prop}:B3K (some (.map es)) f=False:=rfl
@[go_sem high] theorem D1r{i:Nat}{f:List V→Prop}:A0Z [] i f=False:=by simp [A0Z]
@[go_sem high] theorem C9g{r:List V}{rs:List (List V)}{f:List V→Prop}:A0Z (r::rs) 0 f=f r:=rfl
theorem B8w{rs:List (List V)}{i:Nat}{f:List V→Prop}:A0Z rs i f=(i<rs.length∧ ∀row,rs[i]? =some row→f row):=by
 unfold A0Z
 cases h:rs[i]? with
 |none=>
  have:=List.getElem?_eq_none_iff.1 h
  simp;omega
 |some row=>
  have:=(List.getElem?_eq_some_iff.1 h).1
  simp [this]
@[go_sem low] theorem D1p{rs:List (List V)}{i:Nat}{f:List V→Prop}:A0Z rs i f=(i<rs.length∧ ∀row,rs[i]? =some row→f row):=B8w
@[go_sem] theorem D1q{α:Type}{xs:List α}{F:α→List V}{i:Nat}{f:List V→Prop}:A0Z (xs.map F) i f=(i<xs.length∧ ∀x,xs[i]? =some x→f (F x)):=by
 rw [B8w,List.length_map]
 refine propext (and_congr_right fun _=> ?_)
 rw [List.getElem?_map]
 constructor
 ·intro h x hx;exact h _ (by rw [hx];rfl)
 ·intro h row hr
  rw [Option.map_eq_some_iff]at hr
  obtain⟨x,hx,rfl⟩:=hr
  exact h x hx
@[go_sem] theorem C6u{α:Type}{xs:List α}{F:α→List V}:(xs.map F).take xs.length=xs.map F:=by
 rw [List.take_of_length_le];simp
@[go_sem ↓] theorem C8M{off:Nat}{x:Opd}{sl:List (Nat×V)}{h:A2}{n:Nat}{k:Res}:A5 P PK (.faddr off x) ⟨sl,h,n⟩ k=H5 (B5l off (St.ev ⟨sl,h,n⟩ x)) k h n:=rfl
@[go_sem ↓] theorem C8N{sz:Nat}{x i:Opd}{sl:List (Nat×V)}{h:A2}{n:Nat}{k:Res}:A5 P PK (.iaddr sz x i) ⟨sl,h,n⟩ k=A2n sz (St.ev ⟨sl,h,n⟩ x) (St.ev ⟨sl,h,n⟩ i) k h n:=rfl
@[go_sem ↓] theorem C7K{len sz:Nat}{x i:Opd}{sl:List (Nat×V)}{h:A2}{n:Nat}{k:Res}:A5 P PK (.iaddrA len sz x i) ⟨sl,h,n⟩ k=A0U len sz (St.ev ⟨sl,h,n⟩ x) (St.ev ⟨sl,h,n⟩ i) k h n:=rfl
@[go_sem ↓] theorem D2x{off m:Nat}{agg:Bool}{x:Opd}{sl:List (Nat×V)}{h:A2}{n:Nat}{k:Res}:A5 P PK (.fld off m agg x) ⟨sl,h,n⟩ k=H5 (C4T off m agg (St.ev ⟨sl,h,n⟩ x)) k h n:=rfl
@[go_sem ↓] theorem D2y{x i:Opd}{sl:List (Nat×V)}{h:A2}{n:Nat}{k:Res}:A5 P PK (.idx x i) ⟨sl,h,n⟩ k=B7P (St.ev ⟨sl,h,n⟩ x) (St.ev ⟨sl,h,n⟩ i) k h n:=rfl
@[go_sem ↓] theorem D2w{i:Nat}{x:Opd}{sl:List (Nat×V)}{h:A2}{n:Nat}{k:Res}:A5 P PK (.ext i x) ⟨sl,h,n⟩ k=H5 (C4S i (St.ev ⟨sl,h,n⟩ x)) k h n:=rfl
@[go_sem ↓] theorem D0N{op:BinOp}{x y:Opd}{sl:List (Nat×V)}{h:A2}{n:Nat}{k:Res}:A5 P PK (.binw op x y) ⟨sl,h,n⟩ k=H5 (B4W op (St.ev ⟨sl,h,n⟩ x) (St.ev ⟨sl,h,n⟩ y)) k h n:=rfl
@[go_sem] theorem D1B{j:IntKind}{a b:Int}:B4W .add (.int j a) (.int j b)=some (.int j (j.wrap (a+b))):=if_pos rfl
@[go_sem] theorem D1D{j:IntKind}{a b:Int}:B4W .sub (.int j a) (.int j b)=some (.int j (j.wrap (a-b))):=if_pos rfl
@[go_sem] theorem D1C{j:IntKind}{a b:Int}:B4W .mul (.int j a) (.int j b)=some (.int j (j.wrap (a*b))):=if_pos rfl
@[go_sem ↓] theorem D2o{op:BinOp}{x y:Opd}{sl:List (Nat×V)}{h:A2}{n:Nat}{k:Res}:A5 P PK (.bin op x y) ⟨sl,h,n⟩ k=S2 op (St.ev ⟨sl,h,n⟩ x) (St.ev ⟨sl,h,n⟩ y) k h n:=rfl
@[go_sem ↓] theorem D2v{kind:Nat}{neg:Bool}{x y:Opd}{sl:List (Nat×V)}{h:A2}{n:Nat}{k:Res}:A5 P PK (.eqp kind neg x y) ⟨sl,h,n⟩ k=H5 (bif B3R kind (St.ev ⟨sl,h,n⟩ x)then C0w neg (St.ev ⟨sl,h,n⟩ x) (St.ev ⟨sl,h,n⟩ y)else none) k h n:=rfl
@[go_sem ↓] theorem D2t{neg:Bool}{t:ETy}{x y:Opd}{sl:List (Nat×V)}{h:A2}{n:Nat}{k:Res}:A5 P PK (.eqa neg t x y) ⟨sl,h,n⟩ k=H5 (C4O neg t (St.ev ⟨sl,h,n⟩ x) (St.ev ⟨sl,h,n⟩ y)) k h n:=rfl
@[go_sem ↓] theorem D0X{x:Opd}{sl:List (Nat×V)}{h:A2}{n:Nat}{k:Res}:A5 P PK (.negw x) ⟨sl,h,n⟩ k=H5 (B7b (St.ev ⟨sl,h,n⟩ x)) k h n:=rfl
@[go_sem] theorem D1X{j:IntKind}{a:Int}:B7b (.int j a)=some (.int j (j.wrap (0-a))):=by rw [B7b]
@[go_sem ↓] theorem D3R{op:UnOp}{x:Opd}{sl:List (Nat×V)}{h:A2}{n:Nat}{k:Res}:A5 P PK (.un op x) ⟨sl,h,n⟩ k=unK op (St.ev ⟨sl,h,n⟩ x) k h n:=rfl
@[go_sem ↓] theorem C8O{neg:Bool}{x:Opd}{sl:List (Nat×V)}{h:A2}{n:Nat}{k:Res}:A5 P PK (.isnil neg x) ⟨sl,h,n⟩ k=H5 (B5q neg (St.ev ⟨sl,h,n⟩ x)) k h n:=rfl
@[go_sem ↓] theorem D0R{j:IntKind}{x:Opd}{sl:List (Nat×V)}{h:A2}{n:Nat}{k:Res}:A5 P PK (.conv j x) ⟨sl,h,n⟩ k=H5 (B8N j (St.ev ⟨sl,h,n⟩ x)) k h n:=rfl
@[go_sem ↓] theorem D2z{kind:Nat}{x:Opd}{sl:List (Nat×V)}{h:A2}{n:Nat}{k:Res}:A5 P PK (.len kind x) ⟨sl,h,n⟩ k=H5 (C5j h kind (St.ev ⟨sl,h,n⟩ x)) k h n:=rfl
@[go_sem ↓] theorem D0T{m:Nat}{sl:List (Nat×V)}{h:A2}{n:Nat}{k:Res}:A5 P PK (.lenc m) ⟨sl,h,n⟩ k=k (.int .i64 m) h n:=rfl
@[go_sem ↓] theorem D3P{mx:Bool}{xs:List Opd}{sl:List (Nat×V)}{h:A2}{n:Nat}{k:Res}:A5 P PK (.mm mx xs) ⟨sl,h,n⟩ k=H5 (mmV mx (xs.map (St.ev ⟨sl,h,n⟩))) k h n:=rfl
@[go_sem ↓] theorem D2m{nm sz:Nat}{b x:Opd}{sl:List (Nat×V)}{h:A2}{n:Nat}{k:Res}:A5 P PK (.app nm sz b x) ⟨sl,h,n⟩ k=A8t 137438953472 nm sz (St.ev ⟨sl,h,n⟩ b) (B2F h (St.ev ⟨sl,h,n⟩ x)) k h n:=rfl
@[go_sem ↓] theorem D2l{L nm sz:Nat}{b x:Opd}{sl:List (Nat×V)}{h:A2}{n:Nat}{k:Res}:A5 P PK (.apb L nm sz b x) ⟨sl,h,n⟩ k=A8t L nm sz (St.ev ⟨sl,h,n⟩ b) (B2F h (St.ev ⟨sl,h,n⟩ x)) k h n:=rfl
@[go_sem ↓] theorem D0W{nm:Nat}{z:List V}{x:Opd}{sl:List (Nat×V)}{h:A2}{n:Nat}{k:Res}:A5 P PK (.mksl nm z x) ⟨sl,h,n⟩ k=B3W nm z (St.ev ⟨sl,h,n⟩ x) k h n:=rfl
@[go_sem ↓] theorem D2C{sz:Nat}{x:Opd}{lo hi:Option Opd}{sl:List (Nat×V)}{h:A2}{n:Nat}{k:Res}:A5 P PK (.slc sz x lo hi) ⟨sl,h,n⟩ k=B2E sz (St.ev ⟨sl,h,n⟩ x) (lo.map (St.ev ⟨sl,h,n⟩)) (hi.map (St.ev ⟨sl,h,n⟩)) k h n:=rfl
@[go_sem ↓] theorem D2D{x:Opd}{lo hi:Option Opd}{sl:List (Nat×V)}{h:A2}{n:Nat}{k:Res}:A5 P PK (.sls x lo hi) ⟨sl,h,n⟩ k=B4v (St.ev ⟨sl,h,n⟩ x) (lo.map (St.ev ⟨sl,h,n⟩)) (hi.map (St.ev ⟨sl,h,n⟩)) k h n:=rfl
@[go_sem ↓] theorem C8U{f:FuncId}{xs:List Opd}{sl:List (Nat×V)}{h:A2}{n:Nat}{k:Res}:A5 P PK (.pcall f xs) ⟨sl,h,n⟩ k=A2J P f (xs.map (St.ev ⟨sl,h,n⟩)) k h n:=rfl
@[congr] theorem C7r{f:FuncId}{as as':List V}{k:Res}{h:A2}{n:Nat}(e:as=as'):A2J P f as k h n=A2J P f as' k h n:=by rw [e]
@[go_sem ↓] theorem D2u{fn neg:Bool}{x:Opd}{sl:List (Nat×V)}{h:A2}{n:Nat}{k:Res}:A5 P PK (.eqn fn neg x) ⟨sl,h,n⟩ k=A6g fn neg (St.ev ⟨sl,h,n⟩ x) k h n:=rfl
@[congr] theorem C9I{fn neg:Bool}{x x':V}{k:Res}{h:A2}{n:Nat}(e:x=x'):A6g fn neg x k h n=A6g fn neg x' k h n:=by rw [e]
@[go_sem] theorem D1L{neg:Bool}{k:Res}{h:A2}{n:Nat}:A6g false neg .nils k h n=k (.bool !neg) h n:=rfl
@[go_sem] theorem D3d{neg:Bool}{es:List (List V)}{k:Res}{h:A2}{n:Nat}:A6g false neg (.isl es) k h n=(k (.bool neg) h n∧(es= []→k (.bool !neg) h n)):=rfl
@[go_sem] theorem D4f{neg:Bool}{b st i m:Nat}{k:Res}{h:A2}{n:Nat}:A6g false neg (.sl b st i m) k h n=(k (.bool neg) h n∧(m=0→k (.bool !neg) h n)):=rfl
@[go_sem] theorem D4e{neg:Bool}{f:FuncId}{cs:List V}{k:Res}{h:A2}{n:Nat}:A6g true neg (.fn f cs) k h n=k (.bool neg) h n:=rfl
@[go_sem] theorem D1K{neg:Bool}{k:Res}{h:A2}{n:Nat}:A6g true neg (.cst .nilFunc) k h n=k (.bool !neg) h n:=rfl
@[go_sem ↓] theorem D0V{f:FuncId}{xs:List Opd}{sl:List (Nat×V)}{h:A2}{n:Nat}{k:Res}:A5 P PK (.mkfn f xs) ⟨sl,h,n⟩ k=k (.fn f (xs.map (St.ev ⟨sl,h,n⟩))) h n:=rfl
@[go_sem ↓] theorem D3Q{l:Bool}{x y:Opd}{sl:List (Nat×V)}{h:A2}{n:Nat}{k:Res}:A5 P PK (.sh l x y) ⟨sl,h,n⟩ k=shK l (St.ev ⟨sl,h,n⟩ x) (St.ev ⟨sl,h,n⟩ y) k h n:=rfl
@[go_sem ↓] theorem D0S{len sz m:Nat}{agg:Bool}{x y:Opd}{sl:List (Nat×V)}{h:A2}{n:Nat}{k:Res}:A5 P PK (.idxA len sz m agg x y) ⟨sl,h,n⟩ k=A8F len sz m agg (St.ev ⟨sl,h,n⟩ x) (St.ev ⟨sl,h,n⟩ y) k h n:=rfl
@[go_sem] theorem C9w:D2Y .nils=some (.int .i64 0):=rfl
@[go_sem] theorem C7n{e:Nat×Nat×Blk}{r:A2}{st:Nat}:B7V (e::r) st=bif Nat.beq e.2.1 st then some (e.1,e.2.2)else B7V r st:=rfl
@[go_sem ↓] theorem D2q{x:Opd}{sl:List (Nat×V)}{h:A2}{n:Nat}{k:Res}:A5 P PK (.bst x) ⟨sl,h,n⟩ k=H5 (B7B (A3h h (St.ev ⟨sl,h,n⟩ x))) k h n:=rfl
@[go_sem ↓] theorem C8R{nm:Nat}{xs:List Opd}{sl:List (Nat×V)}{h:A2}{n:Nat}{k:Res}:A5 P PK (.mkraw nm xs) ⟨sl,h,n⟩ k=C0X nm (H3 1 ⟨sl,h,n⟩ xs) k h n:=rfl
@[congr] theorem D0o{nm:Nat}{o o':Option (List (List V))}{k:Res}{h:A2}{n:Nat}(e0:o=o'):C0X nm o k h n=C0X nm o' k h n:=by rw [e0]
@[go_sem] theorem D2b{nm:Nat}{rs:List (List V)}{k:Res}{h:A2}{n:Nat}:C0X nm (some rs) k h n=(0<rs.length∧k (.sl nm n 0 rs.length) (A2.put h nm n (.raw rs)) (n+1)):=rfl
@[go_sem ↓] theorem D2s{x:Opd}{sl:List (Nat×V)}{h:A2}{n:Nat}{k:Res}:A5 P PK (.cvr x) ⟨sl,h,n⟩ k=B7I (St.ev ⟨sl,h,n⟩ x) k h n:=rfl
@[congr] theorem C9C{x x':V}{k:Res}{h:A2}{n:Nat}(e0:x=x'):B7I x k h n=B7I x' k h n:=by rw [e0]
@[go_sem] theorem D4c{b st m:Nat}{k:Res}{h:A2}{n:Nat}:B7I (.sl b st 0 m) k h n=C0q (A2.get h b st) fun rs=>m=rs.length∧k (.sl b st 0 m) (A2.put h b st (.rows 1 rs)) n:=rfl
@[congr] theorem C9A{b b':Option Blk}{f:List (List V)→Prop}(e0:b=b'):C0q b f=C0q b' f:=by rw [e0]
@[go_sem] theorem D3a{rs:List (List V)}{f:List (List V)→Prop}:C0q (some (.raw rs)) f=f rs:=rfl
@[go_sem] theorem A6c{s:List UInt8}:B7B (some (A9 s))=some (.str s):=by
 have: ∀s:List UInt8,B6y (A9 s)=some s:=by
  intro s
  induction s with
  |nil=>rfl
  |cons b s ih=>
   have e:A9 (b::s)= [.int .u8 b.toNat]::A9 s:=rfl
   rw [e,B6y,ih]
   simp
 simp only [B7B,this]
@[go_sem ↓] theorem D2r{z:List V}{x:Opd}{sl:List (Nat×V)}{h:A2}{n:Nat}{k:Res}:A5 P PK (.clr z x) ⟨sl,h,n⟩ k=B4m z (St.ev ⟨sl,h,n⟩ x) k h n:=rfl
@[congr] theorem D2i{l:Bool}{x x' y y':V}{k:Res}{h:A2}{n:Nat}(e0:x=x')(e1:y=y'):shK l x y k h n=shK l x' y' k h n:=by rw [e0,e1]
@[go_sem] theorem D4r{l:Bool}{j j':IntKind}{a b:Int}{k:Res}{h:A2}{n:Nat}:shK l (.int j a) (.int j' b) k h n=(0≤b∧k (.int j (shZ l j a b)) h n):=rfl
@[congr] theorem C8t{len sz m:Nat}{agg:Bool}{x x' y y':V}{k:Res}{h:A2}{n:Nat}(e0:x=x')(e1:y=y'):A8F len sz m agg x y k h n=A8F len sz m agg x' y' k h n:=by rw [e0,e1]
@[go_sem] theorem D1O{len sz m:Nat}{agg:Bool}{cs:List V}{j:IntKind}{z:Int}{k:Res}{h:A2}{n:Nat}:A8F len sz m agg (.agg cs) (.int j z) k h n=(0≤z∧z<len∧H5 (G5 cs (z.toNat*sz) m agg) k h n):=rfl
@[congr] theorem C9z{z:List V}{x x':V}{k:Res}{h:A2}{n:Nat}(e0:x=x'):B4m z x k h n=B4m z x' k h n:=by rw [e0]
@[go_sem] theorem D1I{z:List V}{k:Res}{h:A2}{n:Nat}:B4m z .nils k h n=k (.tup []) h n:=rfl
@[go_sem ↓] theorem D0Q{f:FuncId}{xs:List Opd}{sl:List (Nat×V)}{h:A2}{n:Nat}{k:Res}:A5 P PK (.call f xs) ⟨sl,h,n⟩ k=A0 P f (xs.map (St.ev ⟨sl,h,n⟩)) h n k:=rfl
@[go_sem] theorem D4B{k:IntKind}{z:Int}:zV (.agg #[.int k z])=some (.agg [.int k z]):=rfl
@[go_sem ↓] theorem D2B{x:Opd}{sl:List (Nat×V)}{h:A2}{n:Nat}{k:Res}:A5 P PK (.pan x) ⟨sl,h,n⟩ k=C7q PK (St.ev ⟨sl,h,n⟩ x) h n:=rfl
@[go_sem ↓] theorem D0O{sz:Nat}{x:Opd}{sl:List (Nat×V)}{h:A2}{n:Nat}{k:Res}:A5 P PK (.boxi sz x) ⟨sl,h,n⟩ k=B1A sz (Q5 (St.ev ⟨sl,h,n⟩ x)) k h n:=rfl
@[congr] theorem C8c{sz:Nat}{o o':Option (List V)}{k:Res}{h:A2}{n:Nat}(e0:o=o'):B1A sz o k h n=B1A sz o' k h n:=by rw [e0]
@[go_sem] theorem C9s{sz:Nat}{cs:List V}{k:Res}{h:A2}{n:Nat}:B1A sz (some cs) k h n=(cs.length=sz∧k (.iptr [cs] 0 0) h n):=rfl
@[go_sem ↓] theorem C8P{m:Nat}{agg:Bool}{x:Opd}{sl:List (Nat×V)}{h:A2}{n:Nat}{k:Res}:A5 P PK (.loadi m agg x) ⟨sl,h,n⟩ k=A2D m agg (St.ev ⟨sl,h,n⟩ x) k h n:=rfl
@[congr] theorem C7g{m:Nat}{agg:Bool}{x x':V}{k:Res}{h:A2}{n:Nat}(e:x=x'):A2D m agg x k h n=A2D m agg x' k h n:=by rw [e]
@[go_sem] theorem C8x{es:List (List V)}{i j m:Nat}{agg:Bool}{k:Res}{h:A2}{n:Nat}:A2D m agg (.iptr es i j) k h n=A0Z es i fun row=>H5 (G5 row j m agg) k h n:=by
 simp only [A2D,C2m,A0Z]
 cases es[i]? <;>rfl
@[go_sem ↓] theorem C8K{f:FuncId}{xs:List Opd}{sl:List (Nat×V)}{h:A2}{n:Nat}{k:Res}:A5 P PK (.callp f xs) ⟨sl,h,n⟩ k=B3J P f (xs.map (St.ev ⟨sl,h,n⟩)) h n k PK:=rfl
@[go_sem ↓] theorem C8L{x:Opd}{xs:List Opd}{sl:List (Nat×V)}{h:A2}{n:Nat}{k:Res}:A5 P PK (.callv x xs) ⟨sl,h,n⟩ k=A8z P (St.ev ⟨sl,h,n⟩ x) (xs.map (St.ev ⟨sl,h,n⟩)) h n k:=rfl
@[go_sem ↓] theorem D2n{sl:List (Nat×V)}{h:A2}{n:Nat}{k:Res}:A5 P PK (.bad) ⟨sl,h,n⟩ k=False:=rfl
@[congr] theorem D0j{o o':Option V}{k:Res}{h:A2}{n:Nat}(e0:o=o'):H5 o k h n=H5 o' k h n:=by rw [e0]
@[go_sem] theorem D4n{v:V}{k:Res}{h:A2}{n:Nat}:H5 (some v) k h n=k v h n:=rfl
@[go_sem] theorem D2a  {k:Res}{h:A2}{n:Nat}:H5 none k h n=False:=rfl
@[congr] theorem C9r{nm sz:Nat}{o o':Option (List V)}{k:Res}{h:A2}{n:Nat}(e0:o=o'):B7A nm sz o k h n=B7A nm sz o' k h n:=by rw [e0]
@[go_sem] theorem D1G{nm sz:Nat}{cs:List V}{k:Res}{h:A2}{n:Nat}:B7A nm sz (some cs) k h n=(cs.length=sz∧k (.ptr nm n 0 0) (A2.put h nm n (.rows sz [cs])) (n+1)):=rfl
@[congr] theorem D0v{nm sz:Nat}{o o':Option (List (List V))}{k:Res}{h:A2}{n:Nat}(e0:o=o'):C1i nm sz o k h n=C1i nm sz o' k h n:=by rw [e0]
@[go_sem] theorem D2f{nm sz:Nat}{rs:List (List V)}{k:Res}{h:A2}{n:Nat}:C1i nm sz (some rs) k h n=k (.sl nm n 0 rs.length) (A2.put h nm n (.rows sz rs)) (n+1):=rfl
@[congr] theorem C9V{o o':Option (List (List V))}{k:Res}{h:A2}{n:Nat}(e0:o=o'):B9d o k h n=B9d o' k h n:=by rw [e0]
@[go_sem] theorem D1P{rs:List (List V)}{k:Res}{h:A2}{n:Nat}:B9d (some rs) k h n=k (.isl rs) h n:=rfl
@[congr] theorem C8q{o o':Option A2}{k:Res}{n:Nat}(e:o=o'):A4P o k n=A4P o' k n:=by rw [e]
@[go_sem] theorem C9N{h:A2}{k:Res}{n:Nat}:A4P (some h) k n=k .undef h n:=rfl
@[congr] theorem C6U{sz:Nat}{x x' i i':V}{k:Res}{h:A2}{n:Nat}(e0:x=x')(e1:i=i'):A2n sz x i k h n=A2n sz x' i' k h n:=by rw [e0,e1]
@[go_sem] theorem D1N{sz b st i0 m:Nat}{j:IntKind}{z:Int}{k:Res}{h:A2}{n:Nat}:A2n sz (.sl b st i0 m) (.int j z) k h n=(0≤z∧z<m∧B1y (A2.get h b st)=some sz∧k (.ptr b st (i0+z.toNat) 0) h n):=rfl
@[go_sem] theorem C9P{sz:Nat}{es:List (List V)}{j:IntKind}{z:Int}{k:Res}{h:A2}{n:Nat}:A2n sz (.isl es) (.int j z) k h n=(0≤z∧z<es.length∧C1 es sz∧k (.iptr es z.toNat 0) h n):=rfl
@[go_sem] theorem C8s{sz:Nat}{i:V}{k:Res}{h:A2}{n:Nat}:A2n sz .nils i k h n=False:=by cases i<;>rfl
@[congr] theorem C6t{len sz:Nat}{x x' i i':V}{k:Res}{h:A2}{n:Nat}(e0:x=x')(e1:i=i'):A0U len sz x i k h n=A0U len sz x' i' k h n:=by rw [e0,e1]
@[go_sem] theorem C8r{len sz b st i0 q:Nat}{j:IntKind}{z:Int}{k:Res}{h:A2}{n:Nat}:A0U len sz (.ptr b st i0 q) (.int j z) k h n=(0≤z∧z<len∧k (.ptr b st i0 (q+z.toNat*sz)) h n):=rfl
@[go_sem] theorem C6T{len sz i0 q:Nat}{es:List (List V)}{j:IntKind}{z:Int}{k:Res}{h:A2}{n:Nat}:A0U len sz (.iptr es i0 q) (.int j z) k h n=(0≤z∧z<len∧k (.iptr es i0 (q+z.toNat*sz)) h n):=rfl
@[congr] theorem C9S{x x' i i':V}{k:Res}{h:A2}{n:Nat}(e0:x=x')(e1:i=i'):B7P x i k h n=B7P x' i' k h n:=by rw [e0,e1]
@[go_sem] theorem D3r{s:List UInt8}{j:IntKind}{z:Int}{k:Res}{h:A2}{n:Nat}:B7P (.str s) (.int j z) k h n=(0≤z∧H5 ((s[z.toNat]?).map fun b=> .int .u8 b.toNat) k h n):=rfl
@[go_sem] theorem D1m{j:IntKind}{z:Int}{k:Res}{h:A2}{n:Nat}:S1 j z k h n=(inR j z∧k (B7t j z) h n):=rfl
@[congr] theorem C9m{op:BinOp}{x x' y y':V}{k:Res}{h:A2}{n:Nat}(e0:x=x')(e1:y=y'):S2 op x y k h n=S2 op x' y' k h n:=by rw [e0,e1]
@[go_sem] theorem D2K{j j':IntKind}{a b:Int}{k:Res}{h:A2}{n:Nat}:S2 .add (.int j a) (.int j' b) k h n=(j=j'∧S1 j (a+b) k h n):=rfl
@[go_sem] theorem D2V{j j':IntKind}{a b:Int}{k:Res}{h:A2}{n:Nat}:S2 .sub (.int j a) (.int j' b) k h n=(j=j'∧S1 j (a-b) k h n):=rfl
@[go_sem] theorem D2R{j j':IntKind}{a b:Int}{k:Res}{h:A2}{n:Nat}:S2 .mul (.int j a) (.int j' b) k h n=(j=j'∧S1 j (a*b) k h n):=rfl
@[go_sem] theorem D2T{j j':IntKind}{a b:Int}{k:Res}{h:A2}{n:Nat}:S2 .quo (.int j a) (.int j' b) k h n=(j=j'∧b≠0∧S1 j (a.tdiv b) k h n):=rfl
@[go_sem] theorem D2U{j j':IntKind}{a b:Int}{k:Res}{h:A2}{n:Nat}:S2 .rem (.int j a) (.int j' b) k h n=(j=j'∧b≠0∧k (.int j (a.tmod b)) h n):=rfl
@[go_sem] theorem D2M{j j':IntKind}{a b:Int}{k:Res}{h:A2}{n:Nat}:S2 .eql (.int j a) (.int j' b) k h n=(j=j'∧k (.bool (decide (a=b))) h n):=rfl
@[go_sem] theorem D2S{j j':IntKind}{a b:Int}{k:Res}{h:A2}{n:Nat}:S2 .neq (.int j a) (.int j' b) k h n=(j=j'∧k (.bool (decide (¬a=b))) h n):=rfl
@[go_sem] theorem D2Q{j j':IntKind}{a b:Int}{k:Res}{h:A2}{n:Nat}:S2 .lss (.int j a) (.int j' b) k h n=(j=j'∧k (.bool (decide (a<b))) h n):=rfl
@[go_sem] theorem D2P{j j':IntKind}{a b:Int}{k:Res}{h:A2}{n:Nat}:S2 .leq (.int j a) (.int j' b) k h n=(j=j'∧k (.bool (decide (a≤b))) h n):=rfl
@[go_sem] theorem D2O{j j':IntKind}{a b:Int}{k:Res}{h:A2}{n:Nat}:S2 .gtr (.int j a) (.int j' b) k h n=(j=j'∧k (.bool (decide (b<a))) h n):=rfl
@[go_sem] theorem D2N{j j':IntKind}{a b:Int}{k:Res}{h:A2}{n:Nat}:S2 .geq (.int j a) (.int j' b) k h n=(j=j'∧k (.bool (decide (b≤a))) h n):=rfl
@[go_sem] theorem D2L{j j':IntKind}{a b:Int}{k:Res}{h:A2}{n:Nat}:S2 .and (.int j a) (.int j' b) k h n=(j=j'∧k (.int j (A1s .and j a b)) h n):=rfl
@[go_sem] theorem D3W{j j':IntKind}{a b:Int}{k:Res}{h:A2}{n:Nat}:S2 .or (.int j a) (.int j' b) k h n=(j=j'∧k (.int j (A1s .or j a b)) h n):=rfl
@[go_sem] theorem D2W{j j':IntKind}{a b:Int}{k:Res}{h:A2}{n:Nat}:S2 .xor (.int j a) (.int j' b) k h n=(j=j'∧k (.int j (A1s .xor j a b)) h n):=rfl
@[go_sem] theorem C8b{j j':IntKind}{a b:Int}{k:Res}{h:A2}{n:Nat}:S2 .andNot (.int j a) (.int j' b) k h n=(j=j'∧k (.int j (A1s .andNot j a b)) h n):=rfl
@[go_sem] theorem D1y{a b:List UInt8}{k:Res}{h:A2}{n:Nat}:S2 .leq (.str a) (.str b) k h n=k (.bool (M2 a b||decide (a=b))) h n:=rfl
@[go_sem] theorem D1x{a b:List UInt8}{k:Res}{h:A2}{n:Nat}:S2 .gtr (.str a) (.str b) k h n=k (.bool !(M2 a b||decide (a=b))) h n:=rfl
@[go_sem] theorem D1u{a b:List UInt8}{k:Res}{h:A2}{n:Nat}:S2 .add (.str a) (.str b) k h n=(a.length+b.length≤1099511627776∧k (.str (a++b)) h n):=rfl
@[go_sem] theorem D1v{a b:List UInt8}{k:Res}{h:A2}{n:Nat}:S2 .eql (.str a) (.str b) k h n=k (.bool (decide (a=b))) h n:=rfl
@[go_sem] theorem D1A{a b:List UInt8}{k:Res}{h:A2}{n:Nat}:S2 .neq (.str a) (.str b) k h n=k (.bool (decide (¬a=b))) h n:=rfl
@[go_sem] theorem D1z{a b:List UInt8}{k:Res}{h:A2}{n:Nat}:S2 .lss (.str a) (.str b) k h n=k (.bool (M2 a b)) h n:=rfl
@[go_sem] theorem D1w{a b:List UInt8}{k:Res}{h:A2}{n:Nat}:S2 .geq (.str a) (.str b) k h n=k (.bool (!M2 a b)) h n:=rfl
@[congr] theorem D2F{op:UnOp}{x x':V}{k:Res}{h:A2}{n:Nat}(e0:x=x'):unK op x k h n=unK op x' k h n:=by rw [e0]
@[go_sem] theorem D4x{j:IntKind}{a:Int}{k:Res}{h:A2}{n:Nat}:unK .neg (.int j a) k h n=S1 j (0-a) k h n:=rfl
@[go_sem] theorem D4z{j:IntKind}{a:Int}{k:Res}{h:A2}{n:Nat}:unK .xor (.int j a) k h n=k (.int j (A1s .xor j (bif j.signed then -1 else j.max) a)) h n:=rfl
@[go_sem] theorem D4y{b:Bool}{k:Res}{h:A2}{n:Nat}:unK .not (.bool b) k h n=k (.bool !b) h n:=rfl
def B5R(o:Option Blk)(f:Nat→List (List V)→Prop):Prop:=
 match o with
 |some (.rows sz rs)=>f sz rs
 |_=>False
def C0l(a b:Option Int)(f:Int→Int→Prop):Prop:=
 match a,b with
 |some a,some b=>f a b
 |_,_=>False
@[congr] theorem C7x{o o':Option Blk}{f:Nat→List (List V)→Prop}(e:o=o'):B5R o f=B5R o' f:=by rw [e]
@[congr] theorem C9p{a a' b b':Option Int}{f:Int→Int→Prop}(e:a=a')(e':b=b'):C0l a b f=C0l a' b' f:=by rw [e,e']
@[go_sem] theorem C8G{sz:Nat}{rs:List (List V)}{f:Nat→List (List V)→Prop}:B5R (some (.rows sz rs)) f=f sz rs:=rfl
@[go_sem] theorem D1F{a b:Int}{f:Int→Int→Prop}:C0l (some a) (some b) f=f a b:=rfl
@[congr] theorem C9b{L nm sz:Nat}{b b':V}{o o':Option (List (List V))}{k:Res}{h:A2}{n:Nat}(e0:b=b')(e1:o=o'):A8t L nm sz b o k h n=A8t L nm sz b' o' k h n:=by rw [e0,e1]
@[go_sem] theorem D1l{L nm sz:Nat}{xs:List (List V)}{k:Res}{h:A2}{n:Nat}:A8t L nm sz .nils (some xs) k h n=(C1 xs sz∧xs.length≤L∧k (.sl nm n 0 xs.length) (A2.put h nm n (.rows sz xs)) (n+1)):=rfl
@[go_sem] theorem D3U{L nm sz b st i m:Nat}{xs:List (List V)}{k:Res}{h:A2}{n:Nat}:A8t L nm sz (.sl b st i m) (some xs) k h n=(C1 xs sz∧B5R (A2.get h b st) fun sz' rs=>sz'=sz∧i+m≤rs.length∧m+xs.length≤L∧k (.sl b n 0 (m+xs.length)) (A2.put h b n (.rows sz ((rs.drop i).take m++xs))) (n+1)):=rfl
@[congr] theorem C8A{nm:Nat}{z:List V}{x x':V}{k:Res}{h:A2}{n:Nat}(e0:x=x'):B3W nm z x k h n=B3W nm z x' k h n:=by rw [e0]
@[go_sem] theorem D1W{nm:Nat}{z:List V}{m:Int}{k:Res}{h:A2}{n:Nat}:B3W nm z (.int .i64 m) k h n=(0≤m∧m≤137438953472∧k (.sl nm n 0 m.toNat) (A2.put h nm n (.rows z.length (List.replicate m.toNat z))) (n+1)):=rfl
@[go_sem] theorem D3X{z:List V}{b st i m:Nat}{k:Res}{h:A2}{n:Nat}:B4m z (.sl b st i m) k h n=B5R (A2.get h b st) fun sz rs=>sz=z.length∧i+m≤rs.length∧k (.tup []) (A2.put h b st (.rows sz (rs.take i++List.replicate m z++rs.drop (i+m)))) n:=rfl
@[congr] theorem D0B{sz:Nat}{x x':V}{lo lo' hi hi':Option V}{k:Res}{h:A2}{n:Nat}(e0:x=x')(e1:lo=lo')(e2:hi=hi'):B2E sz x lo hi k h n=B2E sz x' lo' hi' k h n:=by rw [e0,e1,e2]
@[go_sem] theorem D4s{sz b st i m:Nat}{lo hi:Option V}{k:Res}{h:A2}{n:Nat}:B2E sz (.sl b st i m) lo hi k h n=C0l (G3 0 lo) (G3 m hi) fun l u=>B1y (A2.get h b st)=some sz∧0≤l∧l≤u∧u≤m∧k (.sl b st (i+l.toNat) (u-l).toNat) h n:=rfl
@[go_sem] theorem D3I{sz:Nat}{es:List (List V)}{lo hi:Option V}{k:Res}{h:A2}{n:Nat}:B2E sz (.isl es) lo hi k h n=C0l (G3 0 lo) (G3 es.length hi) fun l u=>C1 es sz∧0≤l∧l≤u∧u≤es.length∧k (.isl ((es.drop l.toNat).take (u-l).toNat)) h n:=rfl
@[go_sem] theorem D2j{sz:Nat}{lo hi:Option V}{k:Res}{h:A2}{n:Nat}:B2E sz .nils lo hi k h n=C0l (G3 0 lo) (G3 0 hi) fun l u=>l=0∧u=0∧k .nils h n:=rfl
@[congr] theorem D0E{x x':V}{lo lo' hi hi':Option V}{k:Res}{h:A2}{n:Nat}(e0:x=x')(e1:lo=lo')(e2:hi=hi'):B4v x lo hi k h n=B4v x' lo' hi' k h n:=by rw [e0,e1,e2]
@[go_sem] theorem D3J{s:List UInt8}{lo hi:Option V}{k:Res}{h:A2}{n:Nat}:B4v (.str s) lo hi k h n=C0l (G3 0 lo) (G3 s.length hi) fun l u=>0≤l∧l≤u∧u≤s.length∧k (.str ((s.drop l.toNat).take (u-l).toNat)) h n:=rfl
def C3u(o:Option V)(f:V→Prop)(g:Prop):Prop:=
 match o with
 |some v=>f v
 |none=>g
@[congr] theorem D0i{o o':Option V}{f:V→Prop}{g:Prop}(e:o=o'):C3u o f g=C3u o' f g:=by rw [e]
@[go_sem] theorem D1Z{v:V}{f:V→Prop}{g:Prop}:C3u (some v) f g=f v:=rfl
@[go_sem] theorem D1Y{f:V→Prop}{g:Prop}:C3u none f g=g:=rfl
@[go_sem] theorem D3B{α:Type}{o:Option α}{F:α→V}{f:V→Prop}{g:Prop}:C3u (o.map F) f g=((∀x,o=some x→f (F x))∧(o=none→g)):=by
 cases o<;>simp [C3u]
@[go_sem] theorem D1H{g:FuncId}{cs as:List V}{k:Res}{h:A2}{n:Nat}:A8z P (.fn g cs) as h n k=(K9 P g=true∧A0 P g (as++cs) h n k):=rfl
@[congr] theorem C6H{x x':V}{as as':List V}{k:Res}{h:A2}{n:Nat}(e:x=x')(e':as=as'):A8z P x as h n k=A8z P x' as' h n k:=by rw [e,e']
@[congr] theorem C7T{f:FuncId}{as as':List V}{k:Res}{h h':A2}{n n':Nat}{pk:O7}(e:as=as')(e':h=h')(e'':n=n'):B3J P f as h n k pk=B3J P f as' h' n' k pk:=by rw [e,e',e'']
@[congr] theorem C7U{f:FuncId}{as as':List V}{k:Res}{h h':A2}{n n':Nat}(e:as=as')(e':h=h')(e'':n=n'):A0 P f as h n k=A0 P f as' h' n' k:=by rw [e,e',e'']
def C7w(Q:Res)(o:Option (List V))(h:A2)(n:Nat):Prop:=
 match o with
 |some vs=>Q (B2e vs) h n
 |none=>False
@[congr] theorem D0p{Q:Res}{o o':Option (List V)}{h:A2}{n:Nat}(e:o=o'):C7w Q o h n=C7w Q o' h n:=by rw [e]
@[go_sem] theorem D2c{Q:Res}{vs:List V}{h:A2}{n:Nat}:C7w Q (some vs) h n=Q (B2e vs) h n:=rfl
@[go_sem ↓] theorem D4o{N:Nat}{rs:List RV}{Q:Res}{sl:List (Nat×V)}{h:A2}{n:Nat}:C3E ⟨P,N,rs,Q,none,pk⟩ ⟨sl,h,n⟩=C7w Q (A7N ⟨sl,h,n⟩ rs) h n:=rfl
@[congr] theorem C8l{b b':Bool}{A:Prop}(e:b=b'):B8S b A=B8S b' A:=by rw [e]
@[go_sem] theorem C8m{A:Prop}:B8S false A=A:=rfl
@[go_sem] theorem D3e{i j:Nat}{A:Prop}:B8S (Nat.beq i j) A=if i=j then False else A:=by
 cases h:Nat.beq i j with
 |true=>rw [if_pos (Nat.eq_of_beq_eq_true h)];rfl
 |false=>rw [if_neg fun e=>by rw [e,Nat.beq_refl]at h;cases h];rfl
@[congr] theorem C8j{o o':Option (List AItem)}{f:List AItem→Prop}{g:Prop}(e:o=o'):B5j o f g=B5j o' f g:=by rw [e]
@[go_sem] theorem C9G{l:List AItem}{f:List AItem→Prop}{g:Prop}:B5j (some l) f g=f l:=rfl
@[go_sem] theorem C9F{f:List AItem→Prop}{g:Prop}:B5j none f g=g:=rfl
@[go_sem ↓] theorem C9Y{N:Nat}{rs:List RV}{Q:Res}{s:St}:A2r ⟨P,N,rs,Q,none,pk⟩ none s=C3E ⟨P,N,rs,Q,none,pk⟩ s:=rfl
@[go_sem ↓] theorem C9Z{N:Nat}{rs:List RV}{Q:Res}{s:St}:A2r ⟨P,N,rs,Q,none,pk⟩ (some .ret) s=C3E ⟨P,N,rs,Q,none,pk⟩ s:=rfl
@[go_sem ↓] theorem C8v{N id:Nat}{rs:List RV}{Q:Res}{s:St}:A2r ⟨P,N,rs,Q,none,pk⟩ (some (.exit id)) s=False:=rfl
def C5N(o:Option Blk)(b st:Nat)(j:Option Code)(Q:Res)(h:A2)(n:Nat):Prop:=
 match o with
 |some (.loop N sl ps p _ _)=>Q (.bool j.isNone) (A2.put h b st (.loop N sl ps p (if j.isNone then .ready else .done) j)) n
 |_=>False
@[congr] theorem D0r{o o':Option Blk}{b st:Nat}{j:Option Code}{Q:Res}{h:A2}{n:Nat}(e:o=o'):C5N o b st j Q h n=C5N o' b st j Q h n:=by rw [e]
@[go_sem ↓] theorem D1R{N b st:Nat}{rs:List RV}{Q:Res}{j:Option Code}{sl:List (Nat×V)}{h:A2}{n:Nat}:A2r ⟨P,N,rs,Q,some (b,st),pk⟩ j ⟨sl,h,n⟩=C5N (A2.get h b st) b st j Q h n:=rfl
@[go_sem] theorem D3F{b st N:Nat}{sl:List (Nat×V)}{ps:List Nat}{p:Code→Code→Prop}{s:LoopState}{pd:Option Code}{Q:Res}{h:A2}{n:Nat}:C5N (some (.loop N sl ps p s pd)) b st none Q h n=Q (.bool true) (A2.put h b st (.loop N sl ps p .ready none)) n:=rfl
@[go_sem] theorem D2d{b st N:Nat}{sl:List (Nat×V)}{ps:List Nat}{p:Code→Code→Prop}{s:LoopState}{pd:Option Code}{c:Code}{Q:Res}{h:A2}{n:Nat}:C5N (some (.loop N sl ps p s pd)) b st (some c) Q h n=Q (.bool false) (A2.put h b st (.loop N sl ps p .done (some c))) n:=rfl
def C6E(o:Option Blk)(b st:Nat)(K:St→Prop)(sl:List (Nat×V))(h:A2)(n:Nat):Prop:=
 match o with
 |some (.loop N sl' ps p .ready pend)=>K ⟨sl,A2.put h b st (.loop N sl' ps p .busy pend),n⟩
 |_=>False
@[congr] theorem C9j{o o':Option Blk}{b st:Nat}{K:St→Prop}{sl:List (Nat×V)}{h:A2}{n:Nat}(e:o=o'):C6E o b st K sl h n=C6E o' b st K sl h n:=by rw [e]
@[go_sem ↓] theorem D3V{N b st:Nat}{rs:List RV}{Q:Res}{K:St→Prop}{sl:List (Nat×V)}{h:A2}{n:Nat}:C9i ⟨P,N,rs,Q,some (b,st),pk⟩ ⟨sl,h,n⟩ K=C6E (A2.get h b st) b st K sl h n:=rfl
@[go_sem] theorem C9k{b st N:Nat}{sl sl':List (Nat×V)}{ps:List Nat}{p:Code→Code→Prop}{pd:Option Code}{K:St→Prop}{h:A2}{n:Nat}:C6E (some (.loop N sl' ps p .ready pd)) b st K sl h n=K ⟨sl,A2.put h b st (.loop N sl' ps p .busy pd),n⟩:=rfl
@[go_sem] theorem D1J{A:Prop}:D3c none none A=A:=rfl
@[go_sem] theorem D0k:B9z none=C8C:=rfl
@[go_sem] theorem D0l{p:O7}:B9z (some p)=p:=rfl
@[congr] theorem D0s{c:Cf}{nm:Nat}{v v':V}{ps:List Nat}{x y:AC}{s:St}{K:Option Code→St→Prop}(e:v=v'):C3I c nm v ps x y s K=C3I c nm v' ps x y s K:=by rw [e]
@[go_sem] theorem D4p{N nm:Nat}{rs:List RV}{Q:Res}{f:FuncId}{cs:List V}{ps:List Nat}{x y:AC}{sl:List (Nat×V)}{h:A2}{n:Nat}{K:Option Code→St→Prop}:
  C3I ⟨P,N,rs,Q,none,none⟩ nm (.fn f cs) ps x y ⟨sl,h,n⟩ K=(K9 P f=true∧A0 P f (.yld nm n::cs) (A2.put h nm n (.loop N sl ps (o7 P N x y) .ready none)) (n+1) (C1f nm n sl K)):=by
 simp [C3I]
def C5O(o:Option Blk)(K:Option Code→Prop):Prop:=
 match o with
 |some (.loop _ _ _ _ s pend)=>s≠ .busy∧K pend
 |_=>False
@[congr] theorem D0t{o o':Option Blk}{K:Option Code→Prop}(e:o=o'):C5O o K=C5O o' K:=by rw [e]
@[go_sem] theorem D4q{nm st:Nat}{sl:List (Nat×V)}{K:Option Code→St→Prop}{r:V}{h:A2}{n:Nat}:C1f nm st sl K r h n=C5O (A2.get h nm st) fun pend=>K pend ⟨sl,A2.del h nm,n⟩:=by
 unfold C1f C5O
 cases A2.get h nm st with
 |none=>rfl
 |some x=>cases x<;>rfl
@[go_sem] theorem D2e{N:Nat}{sl:List (Nat×V)}{ps:List Nat}{p:Code→Code→Prop}{s:LoopState}{pd:Option Code}{K:Option Code→Prop}:C5O (some (.loop N sl ps p s pd)) K=(s≠ .busy∧K pd):=rfl
@[go_sem] theorem C9X{K:List AItem→St→Prop}{k:List AItem}{s:St}:B9e K k none s=K k s:=rfl
@[go_sem] theorem D1Q{K:List AItem→St→Prop}{k:List AItem}{s:St}:B9e K k (some .ret) s=K (.code .ret::k) s:=rfl
@[go_sem] theorem C9W{K:List AItem→St→Prop}{k:List AItem}{id:Nat}{s:St}:B9e K k (some (.exit id)) s=K (.code (.exit id)::k) s:=rfl
@[go_sem] theorem C8F{sl:List (Nat×V)}{p:Nat}{ps:List Nat}{a:V}{as:List V}:A6z sl (p::ps) (a::as)=A6z (E4 sl p a) ps as:=rfl
@[go_sem] theorem D0m{sl:List (Nat×V)}{as:List V}:A6z sl [] as=sl:=by cases as<;>rfl
@[go_sem] theorem C9v{b st:Nat}{as:List V}{k:Res}{h:A2}{n:Nat}:A8z P (.yld b st) as h n k=G9 P b st as h n k:=rfl
@[congr] theorem C9a{b st:Nat}{as as':List V}{k:Res}{h h':A2}{n n':Nat}(e:as=as')(e':h=h')(e'':n=n'):G9 P b st as h n k=G9 P b st as' h' n' k:=by rw [e,e',e'']
@[congr] theorem D3S{l l':List AI}{K:St→Prop}{s s':St}(e':l=l')(e:s=s'):vo P PK l K s=vo P PK l' K s':=by rw [e,e']
@[congr] theorem D3p{k k':List AItem}{s s':St}(e':k=k')(e:s=s'):go c m k s=go c m k' s':=by rw [e,e']
@[congr] theorem D1k{s s':St}(e:s=s'):Run c k s=Run c k s':=by rw [e]
@[go_sem] theorem D2g{sz:Nat}:C1 [] sz=True:=by simp [C1]
@[go_sem] theorem D0x{sz:Nat}{r:List V}{rs:List (List V)}:C1 (r::rs) sz=(r.length=sz∧C1 rs sz):=by simp [C1]
@[go_sem] theorem D3G{i:Nat}:C3 [] i= .undef:=rfl
theorem B2T{α:Type}{i j:Nat}{a b:α}:(bif Nat.beq i j then a else b)=if i=j then a else b:=by
 by_cases h:i=j
 ·subst h;simp
 ·rw [if_neg h]
  have:Nat.beq i j=false:=by
   cases hb:Nat.beq i j with
   |false=>rfl
   |true=>exact(h (Nat.eq_of_beq_eq_true hb)).elim
  rw [this];rfl
@[go_sem] theorem D2h{p:Nat×V}{r:List (Nat×V)}{i:Nat}:C3 (p::r) i=if p.1=i then p.2 else C3 r i:=B2T
@[go_sem] theorem D3K{i:Nat}{v:V}:E4 [] i v= [(i,v)]:=rfl
@[go_sem] theorem D2k{p:Nat×V}{r:List (Nat×V)}{i:Nat}{v:V}:E4 (p::r) i v=if p.1<i then(i,v)::p::r else if p.1=i then(i,v)::r else p::E4 r i v:=by
 simp only [E4]
 rw [B2T]
 by_cases h:p.1<i
 ·rw [if_pos h,if_neg (by omega),show Nat.blt p.1 i=true from Nat.ble_eq_true_of_le h];rfl
 ·rw [if_neg h]
  have:Nat.blt p.1 i=false:=by
   cases hb:Nat.blt p.1 i with
   |false=>rfl
   |true=>exact(h (Nat.le_of_ble_eq_true hb)).elim
  rw [this];rfl
attribute [go_sem] St.ev.eq_1 St.ev.eq_2 St.ev.eq_3 St.ev.eq_4 know A7N B2e V3 B9n B3R C0w B5D B9A Q5 B5l C4T C4S B8N B5q D4J unV C7q C0S C5j B2F A3h C5h C1Y D3y D3x C1V G3 B1y K9
attribute [go_sem] inR B7t C4O eqE eqE.eqFs B7L C6x mmV mm2 A1A H3 H2 A8R A9
attribute [go_sem] Option.map_some Option.map_none Option.bind_some Option.bind_none Option.getD_some Option.getD_none Option.isSome_some
attribute [go_sem] List.getElem?_cons_zero List.getElem?_cons_succ List.getElem?_nil List.length_cons List.length_nil List.drop_zero List.drop_succ_cons List.drop_nil List.take_zero List.take_succ_cons List.take_nil List.map_cons List.map_nil List.cons_append List.nil_append List.append_nil List.set_cons_zero List.set_cons_succ
attribute [go_sem] if_true if_false cond_true cond_false Bool.not_true Bool.not_false true_and and_true false_and and_false true_implies forall_const Bool.true_and Bool.and_true Bool.false_and Bool.and_false ite_true ite_false reduceIte
attribute [go_sem] Bool.not_eq_true Bool.not_eq_false decide_eq_true_eq decide_eq_false_iff_not Classical.not_not Bool.not_not decide_true decide_false Nat.zero_add Nat.add_zero ne_eq reduceCtorEq
@[go_sem] theorem D4b{α:Type}{a b:α}{p:Prop} [Decidable p]:(bif decide p then a else b)=if p then a else b:=by by_cases h:p<;>simp [h]
@[go_sem] theorem D4l{b st:Nat}:A2.get [] b st=none:=rfl
@[go_sem] theorem D3o{b' st' b st:Nat}{x:Blk}{r:A2}:A2.get ((b',st',x)::r) b st=if b'=b then(if st'=st then some x else none)else A2.get r b st:=B2T
@[go_sem] theorem D4H{h:A2}{b st:Nat}{x:Blk}:A2.put h b st x=(b,st,x)::A2.del h b:=rfl
@[go_sem] theorem D4d{b:Nat}:A2.del [] b= []:=rfl
@[go_sem] theorem D3b{b' st' b:Nat}{x:Blk}{r:A2}:A2.del ((b',st',x)::r) b=if b'=b then A2.del r b else(b',st',x)::A2.del r b:=by
 unfold A2.del
 rw [List.filter_cons,←B2T]
 cases Nat.beq b' b<;>simp
@[go_sem] theorem D1U{row:List V}{j n:Nat}:G5 row j n true=if j+n≤row.length then some (.agg ((row.drop j).take n))else none:=by
 unfold G5
 by_cases h:j+n≤row.length
 ·rw [if_pos h,Nat.ble_eq_true_of_le h];rfl
 ·rw [if_neg h]
  have:Nat.ble (j+n) row.length=false:=by
   cases hb:Nat.ble (j+n) row.length with
   |false=>rfl
   |true=>exact(h (Nat.le_of_ble_eq_true hb)).elim
  rw [this];rfl
@[go_sem] theorem D1T{row:List V}{j n:Nat}:G5 row j n false=row[j]? :=rfl
theorem C4w{α:Type}{i j:Nat}{a b:α}:(bif Nat.ble i j then a else b)=if i≤j then a else b:=by
 by_cases h:i≤j
 ·rw [if_pos h,Nat.ble_eq_true_of_le h];rfl
 ·rw [if_neg h]
  have:Nat.ble i j=false:=by
   cases hb:Nat.ble i j with
   |false=>rfl
   |true=>exact(h (Nat.le_of_ble_eq_true hb)).elim
  rw [this];rfl
@[go_sem] theorem D1t{α:Type}{i j k l:Nat}{a b:α}:(bif Nat.beq i j&&Nat.ble k l then a else b)=if i=j then(if k≤l then a else b)else b:=by
 rw [←B2T,←C4w]
 cases Nat.beq i j<;>rfl
attribute [go_sem] B2T C4w
@[go_sem] theorem D4L{sl:List (Nat×V)}{h:A2}{n i:Nat}:St.ev ⟨sl,h,n⟩ (.t i)=C3 sl i:=rfl
section
variable {d:Nat} {h:A2} {φ:Nat→Nat→Nat→Nat→V}
attribute [go_sem] V.sub A1q U3
theorem A0K: ∃φ,frz d h=V.sub φ:=by cases d<;>exact⟨_,rfl⟩
@[go_sem] theorem C6Q{j:IntKind}{z:Int}:frz d h (.int j z)= .int j z:=by obtain⟨φ,e⟩:=A0K (d:=d) (h:=h);rw [e,V.sub]
@[go_sem] theorem D3k{b:Bool}:frz d h (.bool b)= .bool b:=by obtain⟨φ,e⟩:=A0K (d:=d) (h:=h);rw [e,V.sub]
@[go_sem] theorem D4j{b:List UInt8}:frz d h (.str b)= .str b:=by obtain⟨φ,e⟩:=A0K (d:=d) (h:=h);rw [e,V.sub]
@[go_sem] theorem D1M:frz d h .undef= .undef:=by obtain⟨φ,e⟩:=A0K (d:=d) (h:=h);rw [e,V.sub]
@[go_sem] theorem D3m:frz d h .nilp= .nilp:=by obtain⟨φ,e⟩:=A0K (d:=d) (h:=h);rw [e,V.sub]
@[go_sem] theorem D4h:frz d h .err= .err:=by obtain⟨φ,e⟩:=A0K (d:=d) (h:=h);rw [e,V.sub]
@[go_sem] theorem D3j{k:IntKind}:frz d h (.anyi k)= .anyi k:=by obtain⟨φ,e⟩:=A0K (d:=d) (h:=h);rw [e,V.sub]
@[go_sem] theorem D3l:frz d h .nilm= .nilm:=by obtain⟨φ,e⟩:=A0K (d:=d) (h:=h);rw [e,V.sub]
@[go_sem] theorem D3n:frz d h .nils= .isl []:=by obtain⟨φ,e⟩:=A0K (d:=d) (h:=h);rw [e,V.sub]
@[go_sem] theorem D4g{cs:List V}:frz d h (.agg cs)= .agg (cs.map (frz d h)):=by obtain⟨φ,e⟩:=A0K (d:=d) (h:=h);rw [e,V.sub,A1q]
@[go_sem] theorem D4k{cs:List V}:frz d h (.tup cs)= .tup (cs.map (frz d h)):=by obtain⟨φ,e⟩:=A0K (d:=d) (h:=h);rw [e,V.sub,A1q]
@[go_sem] theorem D4i{es:List (List V)}:frz d h (.isl es)= .isl (es.map fun r=>r.map (frz d h)):=by obtain⟨φ,e⟩:=A0K (d:=d) (h:=h);rw [e,V.sub,U3]
@[go_sem] theorem D4D{b st i n:Nat}:frz (d+1) h (.sl b st i n)=match A3h h (.sl b st i n)with|some rs=> .isl (rs.map fun r=>r.map (frz d h))|none=> .undef:=by rw [frz,V.sub];rfl
end
theorem A0.pureF{f:FuncId}{xs:List V}{r:V}{h:A2}{n:Nat}{k:Res}(hp:Pure P f xs r)(has:xs.map (V.sub E8)=xs)(hk:k r h n):A0 P f xs h n k:=A0.pure hp has hk
theorem A2J.pureF{f:FuncId}{xs:List V}{r:V}{h:A2}{n:Nat}{k:Res}(hp:Pure P f xs r)(has:xs.map (V.sub E8)=xs)(hk:k r h n):A2J P f xs k h n:=⟨r,fun _ h'=>A0.pureF hp has h',hk⟩
def A9K(s:List (Nat×V)):List (Nat×V)→Prop
 | []=>True
 |p::r=>C3 s p.1=p.2∧A9K s r
def B7S(e:Nat×Nat×Blk):A2→Prop
 | []=>False
 |x::r=>x=e∨B7S e r
def B1z(h:A2):A2→Prop
 | []=>True
 |e::r=>B7S e h∧B1z h r
theorem B3{s:List (Nat×V)}: ∀{l:List (Nat×V)},A9K s l↔ ∀p∈l,p.2=C3 s p.1
 | []=>by simp [A9K]
 |p::r=>by simp only [A9K,B3,List.forall_mem_cons];rw [eq_comm]
theorem B9p{e:Nat×Nat×Blk}: ∀{l:A2},B7S e l↔e∈l
 | []=>by simp [B7S]
 |p::r=>by simp only [B7S,B9p,List.mem_cons];rw [eq_comm]
theorem B2U{h:A2}: ∀{l:A2},B1z h l↔ ∀p∈l,p∈h
 | []=>by simp [B1z]
 |p::r=>by simp only [B1z,B2U,List.forall_mem_cons,B9p]
@[go_sem] theorem D3T{s s':St}:F7 s s'=(A9K s.sl s'.sl∧B1z s.h s'.h∧s.n≤s'.n):=by
 rw [eq_iff_iff,B3,B2U];exact Iff.rfl
@[go_sem] theorem D0C{s:List (Nat×V)}:A9K s []=True:=rfl
@[go_sem] theorem C8H{s:List (Nat×V)}{p:Nat×V}{r:List (Nat×V)}:A9K s (p::r)=(C3 s p.1=p.2∧A9K s r):=rfl
@[go_sem] theorem D3v{e:Nat×Nat×Blk}:B7S e []=False:=rfl
@[go_sem] theorem D1V{e x:Nat×Nat×Blk}{r:A2}:B7S e (x::r)=(x=e∨B7S e r):=rfl
@[go_sem] theorem D1E{h:A2}:B1z h []=True:=rfl
@[go_sem] theorem C9o{h r:A2}{e:Nat×Nat×Blk}:B1z h (e::r)=(B7S e h∧B1z h r):=rfl
attribute [go_sem] Prod.mk.injEq V.int.injEq V.bool.injEq V.str.injEq V.agg.injEq V.tup.injEq V.isl.injEq V.sl.injEq V.ptr.injEq V.mp.injEq V.yld.injEq Blk.loop.injEq Blk.rows.injEq List.cons.injEq
attribute [go_sem] List.length_map List.drop_zero List.take_length List.length_append List.length_cons List.length_nil List.length_set List.length_replicate
attribute [go_sem] List.cons_append List.nil_append
attribute [go_sem] true_or or_true or_false false_or Nat.le_refl false_implies implies_true forall_const
end
end Go.Abs
attribute [go_sem] Nat.reduceEqDiff Nat.reduceAdd Nat.reduceSub Nat.reduceMul Nat.reduceLeDiff Nat.reduceLT Nat.reduceBEq Int.reduceToNat Int.reduceLE Int.reduceLT Int.reduceEq Int.reduceNe Int.reduceAdd Int.reduceSub Int.reduceNeg Int.toNat_natCast Int.cast_ofNat_Int Int.natCast_zero Int.natCast_one reduceCtorEq reduceIte Nat.lt_irrefl and_self not_false_eq_true not_true_eq_false
