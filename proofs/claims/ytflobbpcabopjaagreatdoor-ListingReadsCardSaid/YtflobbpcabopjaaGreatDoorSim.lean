/-
 The evaluator as rewrite rules. No condition.
-/
import Derived.Test.YtflobbpcabopjaaGreatDoorGo
set_option linter.unusedVariables false set_option linter.unusedSimpArgs false namespace Go.Abs
variable {PK:R8} {pk:Option R8}
theorem Run.unf{c:Cf}{x y:AC}{k:List AItem}{s:St}(h:x=y)(hr:Run c (.code y::k) s):Run c (.code x::k) s:=h ▸ hr
section
variable {c:Cf} {P:Program} {m:Nat} {k:List AItem} {s:St}
attribute [go_sem] go.eq_1 go.eq_2 go.eq_3 go.eq_4 go.eq_5 go.eq_6 go.eq_7 go.eq_8 go.eq_9 go.eq_10 go.eq_11 go.eq_12 go.eq_13 go.eq_14 go.eq_15 go.eq_16
@[go_sem] theorem D5i{K:St→Prop}:B3S P PK [] K s=True:=rfl
@[go_sem] theorem D3M{l:List AI}{r:List (List AI)}{K:St→Prop}:B3S P PK (l::r) K s=(vo P PK l K s∧B3S P PK r K s):=rfl
@[go_sem] theorem D7z{K:St→Prop}:vo P PK [] K s=K s:=rfl
@[go_sem] theorem D7n{i:AI}{r:List AI}{K:St→Prop}:vo P PK (i::r) K s=H7 P PK i s (vo P PK r K):=rfl
@[go_sem ↓] theorem D3o{sl:List (Nat×V)}{h:A2}{n:Nat}{d:Option Nat}{o:AO}{K:St→Prop}:H7 P PK ⟨d,none,o⟩ ⟨sl,h,n⟩ K=A8 P PK o ⟨sl,h,n⟩ (fin d sl K):=rfl
@[go_sem ↓] theorem D3p{sl:List (Nat×V)}{h:A2}{n:Nat}{d:Option Nat}{o:AO}{j:Nat}{b:Bool}{K:St→Prop}:H7 P PK ⟨d,some (j,b),o⟩ ⟨sl,h,n⟩ K=stepG (E0 sl j) b (vo P PK [⟨d,none,o⟩] K ⟨G0 sl j (.bool b),h,n⟩) (fin d (G0 sl j (.bool !b)) K (.cst Go.undef) h n) (fin d sl K (.cst Go.undef) h n):=rfl
@[congr] theorem D0Z{v v':V}{w:Bool}{A B C:Prop}(h:v=v'):stepG v w A B C=stepG v' w A B C:=by rw [h]
@[congr] theorem D0r{v v':V}{A B:Prop}(h:v=v'):B1F v A B=B1F v' A B:=by rw [h]
@[go_sem] theorem D6A{A B C:Prop}:stepG (.bool true) true A B C=A:=by simp [stepG]
@[go_sem] theorem D6x{A B C:Prop}:stepG (.bool false) false A B C=A:=by simp [stepG]
@[go_sem] theorem D6z{A B C:Prop}:stepG (.bool true) false A B C=B:=by simp [stepG]
@[go_sem] theorem D6y{A B C:Prop}:stepG (.bool false) true A B C=B:=by simp [stepG]
@[go_sem] theorem D7g{w:Bool}{A B C:Prop}:stepG (.cst Go.undef) w A B C=C:=by simp [stepG,B2f,Go.undef]
@[go_sem low] theorem D7i{b:Bool}{A B C:Prop}:stepG (.bool b) true A B C=((b=true→A)∧(b=false→B)):=rfl
@[go_sem low] theorem D7h{b:Bool}{A B C:Prop}:stepG (.bool b) false A B C=((b=false→A)∧(b=true→B)):=rfl
@[go_sem] theorem D6O{A B:Prop}:B1F (.bool true) A B=A:=by simp [B1F]
@[go_sem] theorem D6N{A B:Prop}:B1F (.bool false) A B=B:=by simp [B1F]
@[go_sem low] theorem D6M{b:Bool}{A B:Prop}:B1F (.bool b) A B=((b=true→A)∧(b=false→B)):=rfl
@[go_sem ↓] theorem D5N{d:Nat}{sl:List (Nat×V)}{K:St→Prop}{r:V}{h:A2}{n:Nat}:fin (some d) sl K r h n=K ⟨G0 sl d r,h,n⟩:=rfl
@[go_sem ↓] theorem D5M{sl:List (Nat×V)}{K:St→Prop}{r:V}{h:A2}{n:Nat}:fin none sl K r h n=K ⟨sl,h,n⟩:=rfl
@[go_sem ↓] theorem D5d{x:Opd}{sl:List (Nat×V)}{h:A2}{n:Nat}{k:Res}:A8 P PK (.mov x) ⟨sl,h,n⟩ k=k (St.ev ⟨sl,h,n⟩ x) h n:=rfl
@[go_sem ↓] theorem D3C{c a b:Opd}{sl:List (Nat×V)}{h:A2}{n:Nat}{k:Res}:A8 P PK (.pick c a b) ⟨sl,h,n⟩ k=J1 (C0o (St.ev ⟨sl,h,n⟩ c) (St.ev ⟨sl,h,n⟩ a) (St.ev ⟨sl,h,n⟩ b)) k h n:=rfl
@[go_sem ↓] theorem D1k{x:Opd}{sl:List (Nat×V)}{h:A2}{n:Nat}{k:Res}:A8 P PK (.nilck x) ⟨sl,h,n⟩ k=J1 (B5w (St.ev ⟨sl,h,n⟩ x)) k h n:=rfl
@[go_sem ↓] theorem D4S{nm sz:Nat}{x:Opd}{sl:List (Nat×V)}{h:A2}{n:Nat}{k:Res}:A8 P PK (.box nm sz x) ⟨sl,h,n⟩ k=B7X nm sz (U2 (St.ev ⟨sl,h,n⟩ x)) k h n:=rfl
@[go_sem ↓] theorem D1a{z:List V}{ps:List (Nat×Nat×Opd)}{sl:List (Nat×V)}{h:A2}{n:Nat}{k:Res}:A8 P PK (.build z ps) ⟨sl,h,n⟩ k=J1 ((A2m ⟨sl,h,n⟩ z ps).map .agg) k h n:=rfl
@[go_sem ↓] theorem D1j{nm sz:Nat}{xs:List Opd}{sl:List (Nat×V)}{h:A2}{n:Nat}{k:Res}:A8 P PK (.mkrow nm sz xs) ⟨sl,h,n⟩ k=C2n nm sz (I9 sz ⟨sl,h,n⟩ xs) k h n:=rfl
@[go_sem ↓] theorem D1h{sz:Nat}{xs:List Opd}{sl:List (Nat×V)}{h:A2}{n:Nat}{k:Res}:A8 P PK (.mkisl sz xs) ⟨sl,h,n⟩ k=B9L (I9 sz ⟨sl,h,n⟩ xs) k h n:=rfl
def A1R(rs:List (List V))(i:Nat)(f:List V→Prop):Prop:=
 match rs[i]? with
 |some row=>f row
 |none=>False
def B3y(b:Option Blk)(f:Nat→List (List V)→Prop):Prop:=
 match b with
 |some (.rows sz rs)|some (.tb _ sz rs)=>f sz rs
 |_=>False
def A7V(b:Option Blk)(f:(Nat→List (List V)→Blk)→Nat→List (List V)→Prop):Prop:=
 match b with
 |some (.rows sz rs)=>f .rows sz rs
 |some (.tb T sz rs)=>f (.tb T) sz rs
 |_=>False
def C7Z(b:Option Blk)(f:Nat→Nat→List (List V)→Prop):Prop:=
 match b with
 |some (.tb T sz rs)=>f T sz rs
 |_=>False
@[go_sem ↓] theorem D3t{T nm sz:Nat}{x:Opd}{sl:List (Nat×V)}{h:A2}{n:Nat}{k:Res}:A8 P PK (.boxt T nm sz x) ⟨sl,h,n⟩ k=B3z T nm sz (U2 (St.ev ⟨sl,h,n⟩ x)) k h n:=rfl
@[congr] theorem D0p{T nm sz:Nat}{o o':Option (List V)}{k:Res}{h:A2}{n:Nat}(e0:o=o'):B3z T nm sz o k h n=B3z T nm sz o' k h n:=by rw [e0]
@[go_sem] theorem D1N{T nm sz:Nat}{cs:List V}{k:Res}{h:A2}{n:Nat}:B3z T nm sz (some cs) k h n=(cs.length=sz∧k (.ptr nm n 0 0) (A2.put h nm n (.tb T sz [cs])) (n+1)):=rfl
@[go_sem ↓] theorem D3q{T nm sz:Nat}{b x:Opd}{sl:List (Nat×V)}{h:A2}{n:Nat}{k:Res}:A8 P PK (.appt T nm sz b x) ⟨sl,h,n⟩ k=A4a T nm sz (St.ev ⟨sl,h,n⟩ b) (B2K h (St.ev ⟨sl,h,n⟩ x)) k h n:=rfl
@[congr] theorem D0g{T nm sz:Nat}{b b':V}{o o':Option (List (List V))}{k:Res}{h:A2}{n:Nat}(e0:b=b')(e1:o=o'):A4a T nm sz b o k h n=A4a T nm sz b' o' k h n:=by rw [e0,e1]
@[go_sem] theorem D1t{T nm sz:Nat}{xs:List (List V)}{k:Res}{h:A2}{n:Nat}:A4a T nm sz .nils (some xs) k h n=(D5 xs sz∧sz=1∧xs.length≤137438953472∧k (.sl nm n 0 xs.length) (A2.put h nm n (.tb T sz xs)) (n+1)):=rfl
@[go_sem] theorem D5l{T nm sz b st i m:Nat}{xs:List (List V)}{k:Res}{h:A2}{n:Nat}:A4a T nm sz (.sl b st i m) (some xs) k h n=(D5 xs sz∧sz=1∧C7Z (A2.get h b st) fun T' sz' rs=>i=0∧T'=T∧sz'=sz∧m=rs.length∧m+xs.length≤137438953472∧k (.sl b n 0 (m+xs.length)) (A2.put h b n (.tb T sz (rs++xs))) (n+1)):=by
 unfold A4a C7Z
 rfl
@[congr] theorem D3E{b b':Option Blk}{f:Nat→Nat→List (List V)→Prop}(e0:b=b'):C7Z b f=C7Z b' f:=by rw [e0]
@[go_sem] theorem D7j{T sz:Nat}{rs:List (List V)}{f:Nat→Nat→List (List V)→Prop}:C7Z (some (.tb T sz rs)) f=f T sz rs:=rfl
@[congr] theorem C8A{b b':Option Blk}{f:(Nat→List (List V)→Blk)→Nat→List (List V)→Prop}(e0:b=b'):A7V b f=A7V b' f:=by rw [e0]
@[go_sem] theorem D0j{sz:Nat}{rs:List (List V)}{f:(Nat→List (List V)→Blk)→Nat→List (List V)→Prop}:A7V (some (.rows sz rs)) f=f .rows sz rs:=rfl
@[go_sem] theorem D3S{T sz:Nat}{rs:List (List V)}{f:(Nat→List (List V)→Blk)→Nat→List (List V)→Prop}:A7V (some (.tb T sz rs)) f=f (.tb T) sz rs:=rfl
@[go_sem] theorem D0i{f:(Nat→List (List V)→Blk)→Nat→List (List V)→Prop}:A7V none f=False:=rfl
@[go_sem] theorem D1v{es:List (V×V)}{f:(Nat→List (List V)→Blk)→Nat→List (List V)→Prop}:A7V (some (.map es)) f=False:=rfl
@[go_sem] theorem D5n{T sz:Nat}{rs:List (List V)}{f:Nat→List (List V)→Prop}:B3y (some (.tb T sz rs)) f=f sz rs:=rfl
def B5t(h0:A2)(x:V)(m:Nat)(agg:Bool)(k:Res)(h:A2)(n:Nat):Prop:=J1 (A8v h0 x m agg) k h n
def B3t(h0:A2)(x:V)(cs:Option (List V))(m:Nat)(k:Res)(n:Nat):Prop:=
 match x with
 | .ptr b st i j=>A5h (B4s h0 b st i j m (A2.get h0 b st) cs) k n
 |_=>False
@[congr] theorem D0l{rs rs':List (List V)}{i i':Nat}{f:List V→Prop}(e0:rs=rs')(e1:i=i'):A1R rs i f=A1R rs' i' f:=by rw [e0,e1]
@[congr] theorem D0k{b b':Option Blk}{f:Nat→List (List V)→Prop}(e0:b=b'):B3y b f=B3y b' f:=by rw [e0]
@[congr] theorem D0K{h0:A2}{x x':V}{m:Nat}{agg:Bool}{k:Res}{h:A2}{n:Nat}(e:x=x'):B5t h0 x m agg k h n=B5t h0 x' m agg k h n:=by rw [e]
@[congr] theorem C9U{h0:A2}{x x':V}{cs cs':Option (List V)}{m:Nat}{k:Res}{n:Nat}(e:x=x')(e1:cs=cs'):B3t h0 x cs m k n=B3t h0 x' cs' m k n:=by rw [e,e1]
@[go_sem ↓] theorem D3y{m:Nat}{agg:Bool}{x:Opd}{sl:List (Nat×V)}{h:A2}{n:Nat}{k:Res}:A8 P PK (.load m agg x) ⟨sl,h,n⟩ k=B5t h (St.ev ⟨sl,h,n⟩ x) m agg k h n:=rfl
@[go_sem ↓] theorem D1m{m:Nat}{x v:Opd}{sl:List (Nat×V)}{h:A2}{n:Nat}{k:Res}:A8 P PK (.store m x v) ⟨sl,h,n⟩ k=B3t h (St.ev ⟨sl,h,n⟩ x) (U2 (St.ev ⟨sl,h,n⟩ v)) m k n:=by
 simp only [A8,B3t,B6b]
 cases St.ev ⟨sl,h,n⟩ x<;>rfl
@[go_sem] theorem D4w{h0:A2}{b st i j m:Nat}{agg:Bool}{k:Res}{h:A2}{n:Nat}:B5t h0 (.ptr b st i j) m agg k h n=B3y (A2.get h0 b st) fun _ rs=>A1R rs i fun row=>J1 (I1 row j m agg) k h n:=by
 simp only [B5t,A8v,B3y,A1R]
 cases A2.get h0 b st with
 |none=>rfl
 |some x=>
  cases x with
  |rows sz rs=>simp only;cases rs[i]? <;>rfl
  |map es=>rfl
  |loop=>rfl
  |mapb=>rfl
  |iter=>rfl
  |raw=>rfl
  |fz=>rfl
  |tb T sz rs=>simp only;cases rs[i]? <;>rfl
@[go_sem] theorem D2D{h0:A2}{es:List (List V)}{i j m:Nat}{agg:Bool}{k:Res}{h:A2}{n:Nat}:B5t h0 (.iptr es i j) m agg k h n=A1R es i fun row=>J1 (I1 row j m agg) k h n:=by
 simp only [B5t,A8v,A1R]
 cases es[i]? <;>rfl
@[go_sem] theorem D3D{h0:A2}{b st i j m:Nat}{cs:List V}{k:Res}{n:Nat}:B3t h0 (.ptr b st i j) (some cs) m k n=
  A7V (A2.get h0 b st) fun B sz rs=>A1R rs i fun row=>cs.length=m∧j+m≤row.length∧k .undef (A2.put h0 b st (B sz (rs.set i (I8 row j cs)))) n:=by
 simp only [B3t,B4s,A7V,A1R]
 cases A2.get h0 b st with
 |none=>rfl
 | some x=>
  cases x with
  |map es=>rfl
  |loop=>rfl
  |mapb=>rfl
  |iter=>rfl
  |raw=>rfl
  |fz=>rfl
  | rows sz rs=>
   exact KB
  | tb T sz rs=>
   exact KB
@[go_sem] theorem D1x{sz:Nat}{rs:List (List V)}{f:Nat→List (List V)→Prop}:B3y (some (.rows sz rs)) f=f sz rs:=rfl
@[go_sem] theorem D1w{f:Nat→List (List V)→Prop}:B3y none f=False:=rfl
@[go_sem] theorem D3T{es:List (V×V)}{f:Nat→List (List V)→Prop}:B3y (some (.map es)) f=False:=rfl
@[go_sem high] theorem D3W{i:Nat}{f:List V→Prop}:A1R [] i f=False:=by simp [A1R]
@[go_sem high] theorem D1y{r:List V}{rs:List (List V)}{f:List V→Prop}:A1R (r::rs) 0 f=f r:=rfl
theorem B9b{rs:List (List V)}{i:Nat}{f:List V→Prop}:A1R rs i f=(i<rs.length∧ ∀row,rs[i]? =some row→f row):=by
 unfold A1R
 cases h:rs[i]? with
 |none=>
  have:=List.getElem?_eq_none_iff.1 h
  simp;omega
 |some row=>
  have:=(List.getElem?_eq_some_iff.1 h).1
  simp [this]
@[go_sem low] theorem D3U{rs:List (List V)}{i:Nat}{f:List V→Prop}:A1R rs i f=(i<rs.length∧ ∀row,rs[i]? =some row→f row):=B9b
@[go_sem] theorem D3V{α:Type}{xs:List α}{F:α→List V}{i:Nat}{f:List V→Prop}:A1R (xs.map F) i f=(i<xs.length∧ ∀x,xs[i]? =some x→f (F x)):=by
 rw [B9b,List.length_map]
 refine propext (and_congr_right fun _=> ?_)
 rw [List.getElem?_map]
 constructor
 ·intro h x hx;exact h _ (by rw [hx];rfl)
 ·intro h row hr
  rw [Option.map_eq_some_iff]at hr
  obtain⟨x,hx,rfl⟩:=hr
  exact h x hx
@[go_sem] theorem C8q{α:Type}{xs:List α}{F:α→List V}:(xs.map F).take xs.length=xs.map F:=by
 rw [List.take_of_length_le];simp
@[go_sem ↓] theorem D1d{off:Nat}{x:Opd}{sl:List (Nat×V)}{h:A2}{n:Nat}{k:Res}:A8 P PK (.faddr off x) ⟨sl,h,n⟩ k=J1 (B4Y off (St.ev ⟨sl,h,n⟩ x)) k h n:=rfl
@[go_sem ↓] theorem D1e{sz:Nat}{x i:Opd}{sl:List (Nat×V)}{h:A2}{n:Nat}{k:Res}:A8 P PK (.iaddr sz x i) ⟨sl,h,n⟩ k=A3b sz (St.ev ⟨sl,h,n⟩ x) (St.ev ⟨sl,h,n⟩ i) k h n:=rfl
@[go_sem ↓] theorem C9T{len sz:Nat}{x i:Opd}{sl:List (Nat×V)}{h:A2}{n:Nat}{k:Res}:A8 P PK (.iaddrA len sz x i) ⟨sl,h,n⟩ k=A1M len sz (St.ev ⟨sl,h,n⟩ x) (St.ev ⟨sl,h,n⟩ i) k h n:=rfl
@[go_sem ↓] theorem D5a{off m:Nat}{agg:Bool}{x:Opd}{sl:List (Nat×V)}{h:A2}{n:Nat}{k:Res}:A8 P PK (.fld off m agg x) ⟨sl,h,n⟩ k=J1 (C6u off m agg (St.ev ⟨sl,h,n⟩ x)) k h n:=rfl
@[go_sem ↓] theorem D5b{x i:Opd}{sl:List (Nat×V)}{h:A2}{n:Nat}{k:Res}:A8 P PK (.idx x i) ⟨sl,h,n⟩ k=B8o (St.ev ⟨sl,h,n⟩ x) (St.ev ⟨sl,h,n⟩ i) k h n:=rfl
@[go_sem ↓] theorem D4Z{i:Nat}{x:Opd}{sl:List (Nat×V)}{h:A2}{n:Nat}{k:Res}:A8 P PK (.ext i x) ⟨sl,h,n⟩ k=J1 (C6s i (St.ev ⟨sl,h,n⟩ x)) k h n:=rfl
@[go_sem ↓] theorem D3r{op:BinOp}{x y:Opd}{sl:List (Nat×V)}{h:A2}{n:Nat}{k:Res}:A8 P PK (.binw op x y) ⟨sl,h,n⟩ k=J1 (B4C op (St.ev ⟨sl,h,n⟩ x) (St.ev ⟨sl,h,n⟩ y)) k h n:=rfl
@[go_sem] theorem D4f{j:IntKind}{a b:Int}:B4C .add (.int j a) (.int j b)=some (.int j (j.wrap (a+b))):=if_pos rfl
@[go_sem] theorem D4h{j:IntKind}{a b:Int}:B4C .sub (.int j a) (.int j b)=some (.int j (j.wrap (a-b))):=if_pos rfl
@[go_sem] theorem D4g{j:IntKind}{a b:Int}:B4C .mul (.int j a) (.int j b)=some (.int j (j.wrap (a*b))):=if_pos rfl
@[go_sem ↓] theorem D4R{op:BinOp}{x y:Opd}{sl:List (Nat×V)}{h:A2}{n:Nat}{k:Res}:A8 P PK (.bin op x y) ⟨sl,h,n⟩ k=V5 op (St.ev ⟨sl,h,n⟩ x) (St.ev ⟨sl,h,n⟩ y) k h n:=rfl
@[go_sem ↓] theorem D4Y{kind:Nat}{neg:Bool}{x y:Opd}{sl:List (Nat×V)}{h:A2}{n:Nat}{k:Res}:A8 P PK (.eqp kind neg x y) ⟨sl,h,n⟩ k=J1 (bif B3E kind (St.ev ⟨sl,h,n⟩ x)then C1w neg (St.ev ⟨sl,h,n⟩ x) (St.ev ⟨sl,h,n⟩ y)else none) k h n:=rfl
@[go_sem ↓] theorem D4W{neg:Bool}{t:ETy}{x y:Opd}{sl:List (Nat×V)}{h:A2}{n:Nat}{k:Res}:A8 P PK (.eqa neg t x y) ⟨sl,h,n⟩ k=J1 (C6o neg t (St.ev ⟨sl,h,n⟩ x) (St.ev ⟨sl,h,n⟩ y)) k h n:=rfl
@[go_sem ↓] theorem D3B{x:Opd}{sl:List (Nat×V)}{h:A2}{n:Nat}{k:Res}:A8 P PK (.negw x) ⟨sl,h,n⟩ k=J1 (B7p (St.ev ⟨sl,h,n⟩ x)) k h n:=rfl
@[go_sem] theorem D4B{j:IntKind}{a:Int}:B7p (.int j a)=some (.int j (j.wrap (0-a))):=by rw [B7p]
@[go_sem ↓] theorem D6D{op:UnOp}{x:Opd}{sl:List (Nat×V)}{h:A2}{n:Nat}{k:Res}:A8 P PK (.un op x) ⟨sl,h,n⟩ k=unK op (St.ev ⟨sl,h,n⟩ x) k h n:=rfl
@[go_sem ↓] theorem D1f{neg:Bool}{x:Opd}{sl:List (Nat×V)}{h:A2}{n:Nat}{k:Res}:A8 P PK (.isnil neg x) ⟨sl,h,n⟩ k=J1 (B5g neg (St.ev ⟨sl,h,n⟩ x)) k h n:=rfl
@[go_sem ↓] theorem D3v{j:IntKind}{x:Opd}{sl:List (Nat×V)}{h:A2}{n:Nat}{k:Res}:A8 P PK (.conv j x) ⟨sl,h,n⟩ k=J1 (B9r j (St.ev ⟨sl,h,n⟩ x)) k h n:=rfl
@[go_sem ↓] theorem D5c{kind:Nat}{x:Opd}{sl:List (Nat×V)}{h:A2}{n:Nat}{k:Res}:A8 P PK (.len kind x) ⟨sl,h,n⟩ k=J1 (C6P h kind (St.ev ⟨sl,h,n⟩ x)) k h n:=rfl
@[go_sem ↓] theorem D3x{m:Nat}{sl:List (Nat×V)}{h:A2}{n:Nat}{k:Res}:A8 P PK (.lenc m) ⟨sl,h,n⟩ k=k (.int .i64 m) h n:=rfl
@[go_sem ↓] theorem D6B{mx:Bool}{xs:List Opd}{sl:List (Nat×V)}{h:A2}{n:Nat}{k:Res}:A8 P PK (.mm mx xs) ⟨sl,h,n⟩ k=J1 (mmV mx (xs.map (St.ev ⟨sl,h,n⟩))) k h n:=rfl
@[go_sem ↓] theorem D4P{nm sz:Nat}{b x:Opd}{sl:List (Nat×V)}{h:A2}{n:Nat}{k:Res}:A8 P PK (.app nm sz b x) ⟨sl,h,n⟩ k=A7U 137438953472 nm sz (St.ev ⟨sl,h,n⟩ b) (B2K h (St.ev ⟨sl,h,n⟩ x)) k h n:=rfl
@[go_sem ↓] theorem D4O{L nm sz:Nat}{b x:Opd}{sl:List (Nat×V)}{h:A2}{n:Nat}{k:Res}:A8 P PK (.apb L nm sz b x) ⟨sl,h,n⟩ k=A7U L nm sz (St.ev ⟨sl,h,n⟩ b) (B2K h (St.ev ⟨sl,h,n⟩ x)) k h n:=rfl
@[go_sem ↓] theorem D3A{nm:Nat}{z:List V}{x:Opd}{sl:List (Nat×V)}{h:A2}{n:Nat}{k:Res}:A8 P PK (.mksl nm z x) ⟨sl,h,n⟩ k=B3I nm z (St.ev ⟨sl,h,n⟩ x) k h n:=rfl
@[go_sem ↓] theorem D5f{sz:Nat}{x:Opd}{lo hi:Option Opd}{sl:List (Nat×V)}{h:A2}{n:Nat}{k:Res}:A8 P PK (.slc sz x lo hi) ⟨sl,h,n⟩ k=B2J sz (St.ev ⟨sl,h,n⟩ x) (lo.map (St.ev ⟨sl,h,n⟩)) (hi.map (St.ev ⟨sl,h,n⟩)) k h n:=rfl
@[go_sem ↓] theorem D5g{x:Opd}{lo hi:Option Opd}{sl:List (Nat×V)}{h:A2}{n:Nat}{k:Res}:A8 P PK (.sls x lo hi) ⟨sl,h,n⟩ k=B4b (St.ev ⟨sl,h,n⟩ x) (lo.map (St.ev ⟨sl,h,n⟩)) (hi.map (St.ev ⟨sl,h,n⟩)) k h n:=rfl
@[go_sem ↓] theorem D1l{f:FuncId}{xs:List Opd}{sl:List (Nat×V)}{h:A2}{n:Nat}{k:Res}:A8 P PK (.pcall f xs) ⟨sl,h,n⟩ k=A3y P f (xs.map (St.ev ⟨sl,h,n⟩)) k h n:=rfl
@[congr] theorem C9u{f:FuncId}{as as':List V}{k:Res}{h:A2}{n:Nat}(e:as=as'):A3y P f as k h n=A3y P f as' k h n:=by rw [e]
@[go_sem ↓] theorem D4X{fn neg:Bool}{x:Opd}{sl:List (Nat×V)}{h:A2}{n:Nat}{k:Res}:A8 P PK (.eqn fn neg x) ⟨sl,h,n⟩ k=A6u fn neg (St.ev ⟨sl,h,n⟩ x) k h n:=rfl
@[congr] theorem D2g{fn neg:Bool}{x x':V}{k:Res}{h:A2}{n:Nat}(e:x=x'):A6u fn neg x k h n=A6u fn neg x' k h n:=by rw [e]
@[go_sem] theorem D4p{neg:Bool}{k:Res}{h:A2}{n:Nat}:A6u false neg .nils k h n=k (.bool !neg) h n:=rfl
@[go_sem] theorem D5J{neg:Bool}{es:List (List V)}{k:Res}{h:A2}{n:Nat}:A6u false neg (.isl es) k h n=(k (.bool neg) h n∧(es= []→k (.bool !neg) h n)):=rfl
@[go_sem] theorem D6T{neg:Bool}{b st i m:Nat}{k:Res}{h:A2}{n:Nat}:A6u false neg (.sl b st i m) k h n=(k (.bool neg) h n∧(m=0→k (.bool !neg) h n)):=rfl
@[go_sem] theorem D6S{neg:Bool}{f:FuncId}{cs:List V}{k:Res}{h:A2}{n:Nat}:A6u true neg (.fn f cs) k h n=k (.bool neg) h n:=rfl
@[go_sem] theorem D4o{neg:Bool}{k:Res}{h:A2}{n:Nat}:A6u true neg (.cst .nilFunc) k h n=k (.bool !neg) h n:=rfl
@[go_sem ↓] theorem D3z{f:FuncId}{xs:List Opd}{sl:List (Nat×V)}{h:A2}{n:Nat}{k:Res}:A8 P PK (.mkfn f xs) ⟨sl,h,n⟩ k=k (.fn f (xs.map (St.ev ⟨sl,h,n⟩))) h n:=rfl
@[go_sem ↓] theorem D6C{l:Bool}{x y:Opd}{sl:List (Nat×V)}{h:A2}{n:Nat}{k:Res}:A8 P PK (.sh l x y) ⟨sl,h,n⟩ k=shK l (St.ev ⟨sl,h,n⟩ x) (St.ev ⟨sl,h,n⟩ y) k h n:=rfl
@[go_sem ↓] theorem D3w{len sz m:Nat}{agg:Bool}{x y:Opd}{sl:List (Nat×V)}{h:A2}{n:Nat}{k:Res}:A8 P PK (.idxA len sz m agg x y) ⟨sl,h,n⟩ k=A8k len sz m agg (St.ev ⟨sl,h,n⟩ x) (St.ev ⟨sl,h,n⟩ y) k h n:=rfl
@[go_sem] theorem D1R:D5E .nils=some (.int .i64 0):=rfl
@[go_sem] theorem C9l{e:Nat×Nat×Blk}{r:A2}{st:Nat}:B8u (e::r) st=bif Nat.beq e.2.1 st then some (e.1,e.2.2)else B8u r st:=rfl
@[go_sem ↓] theorem D4T{x:Opd}{sl:List (Nat×V)}{h:A2}{n:Nat}{k:Res}:A8 P PK (.bst x) ⟨sl,h,n⟩ k=J1 (C1k (A4E h (St.ev ⟨sl,h,n⟩ x))) k h n:=rfl
@[go_sem ↓] theorem D1i{nm:Nat}{xs:List Opd}{sl:List (Nat×V)}{h:A2}{n:Nat}{k:Res}:A8 P PK (.mkraw nm xs) ⟨sl,h,n⟩ k=C2h nm (I9 1 ⟨sl,h,n⟩ xs) k h n:=rfl
@[congr] theorem D2T{nm:Nat}{o o':Option (List (List V))}{k:Res}{h:A2}{n:Nat}(e0:o=o'):C2h nm o k h n=C2h nm o' k h n:=by rw [e0]
@[go_sem] theorem D4F{nm:Nat}{rs:List (List V)}{k:Res}{h:A2}{n:Nat}:C2h nm (some rs) k h n=(0<rs.length∧k (.sl nm n 0 rs.length) (A2.put h nm n (.raw rs)) (n+1)):=rfl
@[go_sem ↓] theorem D4V{x:Opd}{sl:List (Nat×V)}{h:A2}{n:Nat}{k:Res}:A8 P PK (.cvr x) ⟨sl,h,n⟩ k=B8f (St.ev ⟨sl,h,n⟩ x) k h n:=rfl
@[congr] theorem D2a{x x':V}{k:Res}{h:A2}{n:Nat}(e0:x=x'):B8f x k h n=B8f x' k h n:=by rw [e0]
@[go_sem] theorem D6Q{b st m:Nat}{k:Res}{h:A2}{n:Nat}:B8f (.sl b st 0 m) k h n=C1r (A2.get h b st) fun rs=>m=rs.length∧k (.sl b st 0 m) (A2.put h b st (.rows 1 rs)) n:=rfl
@[congr] theorem D1Y{b b':Option Blk}{f:List (List V)→Prop}(e0:b=b'):C1r b f=C1r b' f:=by rw [e0]
@[go_sem] theorem D5G{rs:List (List V)}{f:List (List V)→Prop}:C1r (some (.raw rs)) f=f rs:=rfl
@[go_sem] theorem B7Y{s:List UInt8}:C1k (some (C2 s))=some (.str s):=by
 have: ∀s:List UInt8,B6F (C2 s)=some s:=by
  intro s
  induction s with
  |nil=>rfl
  |cons b s ih=>
   have e:C2 (b::s)= [.int .u8 b.toNat]::C2 s:=rfl
   rw [e,B6F,ih]
   simp
 simp only [C1k,this]
@[go_sem ↓] theorem D4U{z:List V}{x:Opd}{sl:List (Nat×V)}{h:A2}{n:Nat}{k:Res}:A8 P PK (.clr z x) ⟨sl,h,n⟩ k=B3W z (St.ev ⟨sl,h,n⟩ x) k h n:=rfl
@[congr] theorem D4L{l:Bool}{x x' y y':V}{k:Res}{h:A2}{n:Nat}(e0:x=x')(e1:y=y'):shK l x y k h n=shK l x' y' k h n:=by rw [e0,e1]
@[go_sem] theorem D7e{l:Bool}{j j':IntKind}{a b:Int}{k:Res}{h:A2}{n:Nat}:shK l (.int j a) (.int j' b) k h n=(0≤b∧k (.int j (shZ l j a b)) h n):=rfl
@[congr] theorem D0I{len sz m:Nat}{agg:Bool}{x x' y y':V}{k:Res}{h:A2}{n:Nat}(e0:x=x')(e1:y=y'):A8k len sz m agg x y k h n=A8k len sz m agg x' y' k h n:=by rw [e0,e1]
@[go_sem] theorem D4s{len sz m:Nat}{agg:Bool}{cs:List V}{j:IntKind}{z:Int}{k:Res}{h:A2}{n:Nat}:A8k len sz m agg (.agg cs) (.int j z) k h n=(0≤z∧z<len∧J1 (I1 cs (z.toNat*sz) m agg) k h n):=rfl
@[congr] theorem D1U{z:List V}{x x':V}{k:Res}{h:A2}{n:Nat}(e0:x=x'):B3W z x k h n=B3W z x' k h n:=by rw [e0]
@[go_sem] theorem D4m{z:List V}{k:Res}{h:A2}{n:Nat}:B3W z .nils k h n=k (.tup []) h n:=rfl
@[go_sem ↓] theorem D3u{f:FuncId}{xs:List Opd}{sl:List (Nat×V)}{h:A2}{n:Nat}{k:Res}:A8 P PK (.call f xs) ⟨sl,h,n⟩ k=A0 P f (xs.map (St.ev ⟨sl,h,n⟩)) h n k:=rfl
@[go_sem] theorem D7o{k:IntKind}{z:Int}:zV (.agg #[.int k z])=some (.agg [.int k z]):=rfl
@[go_sem ↓] theorem D5e{x:Opd}{sl:List (Nat×V)}{h:A2}{n:Nat}{k:Res}:A8 P PK (.pan x) ⟨sl,h,n⟩ k=C9r PK (St.ev ⟨sl,h,n⟩ x) h n:=rfl
@[go_sem ↓] theorem D3s{sz:Nat}{x:Opd}{sl:List (Nat×V)}{h:A2}{n:Nat}{k:Res}:A8 P PK (.boxi sz x) ⟨sl,h,n⟩ k=B1t sz (U2 (St.ev ⟨sl,h,n⟩ x)) k h n:=rfl
@[congr] theorem D0o{sz:Nat}{o o':Option (List V)}{k:Res}{h:A2}{n:Nat}(e0:o=o'):B1t sz o k h n=B1t sz o' k h n:=by rw [e0]
@[go_sem] theorem D1M{sz:Nat}{cs:List V}{k:Res}{h:A2}{n:Nat}:B1t sz (some cs) k h n=(cs.length=sz∧k (.iptr [cs] 0 0) h n):=rfl
@[go_sem ↓] theorem D1g{m:Nat}{agg:Bool}{x:Opd}{sl:List (Nat×V)}{h:A2}{n:Nat}{k:Res}:A8 P PK (.loadi m agg x) ⟨sl,h,n⟩ k=A3p m agg (St.ev ⟨sl,h,n⟩ x) k h n:=rfl
@[congr] theorem C9i{m:Nat}{agg:Bool}{x x':V}{k:Res}{h:A2}{n:Nat}(e:x=x'):A3p m agg x k h n=A3p m agg x' k h n:=by rw [e]
@[go_sem] theorem D0L{es:List (List V)}{i j m:Nat}{agg:Bool}{k:Res}{h:A2}{n:Nat}:A3p m agg (.iptr es i j) k h n=A1R es i fun row=>J1 (I1 row j m agg) k h n:=by
 simp only [A3p,C3s,A1R]
 cases es[i]? <;>rfl
@[go_sem ↓] theorem D1b{f:FuncId}{xs:List Opd}{sl:List (Nat×V)}{h:A2}{n:Nat}{k:Res}:A8 P PK (.callp f xs) ⟨sl,h,n⟩ k=B3x P f (xs.map (St.ev ⟨sl,h,n⟩)) h n k PK:=rfl
@[go_sem ↓] theorem D1c{x:Opd}{xs:List Opd}{sl:List (Nat×V)}{h:A2}{n:Nat}{k:Res}:A8 P PK (.callv x xs) ⟨sl,h,n⟩ k=A8a P (St.ev ⟨sl,h,n⟩ x) (xs.map (St.ev ⟨sl,h,n⟩)) h n k:=rfl
@[go_sem ↓] theorem D4Q{sl:List (Nat×V)}{h:A2}{n:Nat}{k:Res}:A8 P PK (.bad) ⟨sl,h,n⟩ k=False:=rfl
@[congr] theorem D2K{o o':Option V}{k:Res}{h:A2}{n:Nat}(e0:o=o'):J1 o k h n=J1 o' k h n:=by rw [e0]
@[go_sem] theorem D7a{v:V}{k:Res}{h:A2}{n:Nat}:J1 (some v) k h n=k v h n:=rfl
@[go_sem] theorem D4E  {k:Res}{h:A2}{n:Nat}:J1 none k h n=False:=rfl
@[congr] theorem D1L{nm sz:Nat}{o o':Option (List V)}{k:Res}{h:A2}{n:Nat}(e0:o=o'):B7X nm sz o k h n=B7X nm sz o' k h n:=by rw [e0]
@[go_sem] theorem D4k{nm sz:Nat}{cs:List V}{k:Res}{h:A2}{n:Nat}:B7X nm sz (some cs) k h n=(cs.length=sz∧k (.ptr nm n 0 0) (A2.put h nm n (.rows sz [cs])) (n+1)):=rfl
@[congr] theorem D3a{nm sz:Nat}{o o':Option (List (List V))}{k:Res}{h:A2}{n:Nat}(e0:o=o'):C2n nm sz o k h n=C2n nm sz o' k h n:=by rw [e0]
@[go_sem] theorem D4J{nm sz:Nat}{rs:List (List V)}{k:Res}{h:A2}{n:Nat}:C2n nm sz (some rs) k h n=k (.sl nm n 0 rs.length) (A2.put h nm n (.rows sz rs)) (n+1):=rfl
@[congr] theorem D2x{o o':Option (List (List V))}{k:Res}{h:A2}{n:Nat}(e0:o=o'):B9L o k h n=B9L o' k h n:=by rw [e0]
@[go_sem] theorem D4t{rs:List (List V)}{k:Res}{h:A2}{n:Nat}:B9L (some rs) k h n=k (.isl rs) h n:=rfl
@[congr] theorem D0F{o o':Option A2}{k:Res}{n:Nat}(e:o=o'):A5h o k n=A5h o' k n:=by rw [e]
@[go_sem] theorem D2n{h:A2}{k:Res}{n:Nat}:A5h (some h) k n=k .undef h n:=rfl
@[congr] theorem C8S{sz:Nat}{x x' i i':V}{k:Res}{h:A2}{n:Nat}(e0:x=x')(e1:i=i'):A3b sz x i k h n=A3b sz x' i' k h n:=by rw [e0,e1]
@[go_sem] theorem D4r{sz b st i0 m:Nat}{j:IntKind}{z:Int}{k:Res}{h:A2}{n:Nat}:A3b sz (.sl b st i0 m) (.int j z) k h n=(0≤z∧z<m∧B1r (A2.get h b st)=some sz∧k (.ptr b st (i0+z.toNat) 0) h n):=rfl
@[go_sem] theorem D2q{sz:Nat}{es:List (List V)}{j:IntKind}{z:Int}{k:Res}{h:A2}{n:Nat}:A3b sz (.isl es) (.int j z) k h n=(0≤z∧z<es.length∧D5 es sz∧k (.iptr es z.toNat 0) h n):=rfl
@[go_sem] theorem D0H{sz:Nat}{i:V}{k:Res}{h:A2}{n:Nat}:A3b sz .nils i k h n=False:=by cases i<;>rfl
@[congr] theorem C8p{len sz:Nat}{x x' i i':V}{k:Res}{h:A2}{n:Nat}(e0:x=x')(e1:i=i'):A1M len sz x i k h n=A1M len sz x' i' k h n:=by rw [e0,e1]
@[go_sem] theorem D0G{len sz b st i0 q:Nat}{j:IntKind}{z:Int}{k:Res}{h:A2}{n:Nat}:A1M len sz (.ptr b st i0 q) (.int j z) k h n=(0≤z∧z<len∧k (.ptr b st i0 (q+z.toNat*sz)) h n):=rfl
@[go_sem] theorem C8R{len sz i0 q:Nat}{es:List (List V)}{j:IntKind}{z:Int}{k:Res}{h:A2}{n:Nat}:A1M len sz (.iptr es i0 q) (.int j z) k h n=(0≤z∧z<len∧k (.iptr es i0 (q+z.toNat*sz)) h n):=rfl
@[congr] theorem D2t{x x' i i':V}{k:Res}{h:A2}{n:Nat}(e0:x=x')(e1:i=i'):B8o x i k h n=B8o x' i' k h n:=by rw [e0,e1]
@[go_sem] theorem D6b{s:List UInt8}{j:IntKind}{z:Int}{k:Res}{h:A2}{n:Nat}:B8o (.str s) (.int j z) k h n=(0≤z∧J1 ((s[z.toNat]?).map fun b=> .int .u8 b.toNat) k h n):=rfl
@[go_sem] theorem D3R{j:IntKind}{z:Int}{k:Res}{h:A2}{n:Nat}:V4 j z k h n=(inR j z∧k (B7N j z) h n):=rfl
@[congr] theorem D1D{op:BinOp}{x x' y y':V}{k:Res}{h:A2}{n:Nat}(e0:x=x')(e1:y=y'):V5 op x y k h n=V5 op x' y' k h n:=by rw [e0,e1]
@[go_sem] theorem D5p{j j':IntKind}{a b:Int}{k:Res}{h:A2}{n:Nat}:V5 .add (.int j a) (.int j' b) k h n=(j=j'∧V4 j (a+b) k h n):=rfl
@[go_sem] theorem D5A{j j':IntKind}{a b:Int}{k:Res}{h:A2}{n:Nat}:V5 .sub (.int j a) (.int j' b) k h n=(j=j'∧V4 j (a-b) k h n):=rfl
@[go_sem] theorem D5w{j j':IntKind}{a b:Int}{k:Res}{h:A2}{n:Nat}:V5 .mul (.int j a) (.int j' b) k h n=(j=j'∧V4 j (a*b) k h n):=rfl
@[go_sem] theorem D5y{j j':IntKind}{a b:Int}{k:Res}{h:A2}{n:Nat}:V5 .quo (.int j a) (.int j' b) k h n=(j=j'∧b≠0∧V4 j (a.tdiv b) k h n):=rfl
@[go_sem] theorem D5z{j j':IntKind}{a b:Int}{k:Res}{h:A2}{n:Nat}:V5 .rem (.int j a) (.int j' b) k h n=(j=j'∧b≠0∧k (.int j (a.tmod b)) h n):=rfl
@[go_sem] theorem D5r{j j':IntKind}{a b:Int}{k:Res}{h:A2}{n:Nat}:V5 .eql (.int j a) (.int j' b) k h n=(j=j'∧k (.bool (decide (a=b))) h n):=rfl
@[go_sem] theorem D5x{j j':IntKind}{a b:Int}{k:Res}{h:A2}{n:Nat}:V5 .neq (.int j a) (.int j' b) k h n=(j=j'∧k (.bool (decide (¬a=b))) h n):=rfl
@[go_sem] theorem D5v{j j':IntKind}{a b:Int}{k:Res}{h:A2}{n:Nat}:V5 .lss (.int j a) (.int j' b) k h n=(j=j'∧k (.bool (decide (a<b))) h n):=rfl
@[go_sem] theorem D5u{j j':IntKind}{a b:Int}{k:Res}{h:A2}{n:Nat}:V5 .leq (.int j a) (.int j' b) k h n=(j=j'∧k (.bool (decide (a≤b))) h n):=rfl
@[go_sem] theorem D5t{j j':IntKind}{a b:Int}{k:Res}{h:A2}{n:Nat}:V5 .gtr (.int j a) (.int j' b) k h n=(j=j'∧k (.bool (decide (b<a))) h n):=rfl
@[go_sem] theorem D5s{j j':IntKind}{a b:Int}{k:Res}{h:A2}{n:Nat}:V5 .geq (.int j a) (.int j' b) k h n=(j=j'∧k (.bool (decide (b≤a))) h n):=rfl
@[go_sem] theorem D5q{j j':IntKind}{a b:Int}{k:Res}{h:A2}{n:Nat}:V5 .and (.int j a) (.int j' b) k h n=(j=j'∧k (.int j (A2c .and j a b)) h n):=rfl
@[go_sem] theorem D6K{j j':IntKind}{a b:Int}{k:Res}{h:A2}{n:Nat}:V5 .or (.int j a) (.int j' b) k h n=(j=j'∧k (.int j (A2c .or j a b)) h n):=rfl
@[go_sem] theorem D5B{j j':IntKind}{a b:Int}{k:Res}{h:A2}{n:Nat}:V5 .xor (.int j a) (.int j' b) k h n=(j=j'∧k (.int j (A2c .xor j a b)) h n):=rfl
@[go_sem] theorem D0m{j j':IntKind}{a b:Int}{k:Res}{h:A2}{n:Nat}:V5 .andNot (.int j a) (.int j' b) k h n=(j=j'∧k (.int j (A2c .andNot j a b)) h n):=rfl
@[go_sem] theorem D4c{a b:List UInt8}{k:Res}{h:A2}{n:Nat}:V5 .leq (.str a) (.str b) k h n=k (.bool (O8 a b||decide (a=b))) h n:=rfl
@[go_sem] theorem D4b{a b:List UInt8}{k:Res}{h:A2}{n:Nat}:V5 .gtr (.str a) (.str b) k h n=k (.bool !(O8 a b||decide (a=b))) h n:=rfl
@[go_sem] theorem D3Y{a b:List UInt8}{k:Res}{h:A2}{n:Nat}:V5 .add (.str a) (.str b) k h n=(a.length+b.length≤1099511627776∧k (.str (a++b)) h n):=rfl
@[go_sem] theorem D3Z{a b:List UInt8}{k:Res}{h:A2}{n:Nat}:V5 .eql (.str a) (.str b) k h n=k (.bool (decide (a=b))) h n:=rfl
@[go_sem] theorem D4e{a b:List UInt8}{k:Res}{h:A2}{n:Nat}:V5 .neq (.str a) (.str b) k h n=k (.bool (decide (¬a=b))) h n:=rfl
@[go_sem] theorem D4d{a b:List UInt8}{k:Res}{h:A2}{n:Nat}:V5 .lss (.str a) (.str b) k h n=k (.bool (O8 a b)) h n:=rfl
@[go_sem] theorem D4a{a b:List UInt8}{k:Res}{h:A2}{n:Nat}:V5 .geq (.str a) (.str b) k h n=k (.bool (!O8 a b)) h n:=rfl
@[congr] theorem D5h{op:UnOp}{x x':V}{k:Res}{h:A2}{n:Nat}(e0:x=x'):unK op x k h n=unK op x' k h n:=by rw [e0]
@[go_sem] theorem D7k{j:IntKind}{a:Int}{k:Res}{h:A2}{n:Nat}:unK .neg (.int j a) k h n=V4 j (0-a) k h n:=rfl
@[go_sem] theorem D7m{j:IntKind}{a:Int}{k:Res}{h:A2}{n:Nat}:unK .xor (.int j a) k h n=k (.int j (A2c .xor j (bif j.signed then -1 else j.max) a)) h n:=rfl
@[go_sem] theorem D7l{b:Bool}{k:Res}{h:A2}{n:Nat}:unK .not (.bool b) k h n=k (.bool !b) h n:=rfl
def B5N(o:Option Blk)(f:Nat→List (List V)→Prop):Prop:=
 match o with
 |some (.rows sz rs)=>f sz rs
 |_=>False
def C1j(a b:Option Int)(f:Int→Int→Prop):Prop:=
 match a,b with
 |some a,some b=>f a b
 |_,_=>False
@[congr] theorem C9E{o o':Option Blk}{f:Nat→List (List V)→Prop}(e:o=o'):B5N o f=B5N o' f:=by rw [e]
@[congr] theorem D1F{a a' b b':Option Int}{f:Int→Int→Prop}(e:a=a')(e':b=b'):C1j a b f=C1j a' b' f:=by rw [e,e']
@[go_sem] theorem D0W{sz:Nat}{rs:List (List V)}{f:Nat→List (List V)→Prop}:B5N (some (.rows sz rs)) f=f sz rs:=rfl
@[go_sem] theorem D4j{a b:Int}{f:Int→Int→Prop}:C1j (some a) (some b) f=f a b:=rfl
@[congr] theorem D1s{L nm sz:Nat}{b b':V}{o o':Option (List (List V))}{k:Res}{h:A2}{n:Nat}(e0:b=b')(e1:o=o'):A7U L nm sz b o k h n=A7U L nm sz b' o' k h n:=by rw [e0,e1]
@[go_sem] theorem D3Q{L nm sz:Nat}{xs:List (List V)}{k:Res}{h:A2}{n:Nat}:A7U L nm sz .nils (some xs) k h n=(D5 xs sz∧xs.length≤L∧k (.sl nm n 0 xs.length) (A2.put h nm n (.rows sz xs)) (n+1)):=rfl
@[go_sem] theorem D6I{L nm sz b st i m:Nat}{xs:List (List V)}{k:Res}{h:A2}{n:Nat}:A7U L nm sz (.sl b st i m) (some xs) k h n=(D5 xs sz∧B5N (A2.get h b st) fun sz' rs=>sz'=sz∧i+m≤rs.length∧m+xs.length≤L∧k (.sl b n 0 (m+xs.length)) (A2.put h b n (.rows sz ((rs.drop i).take m++xs))) (n+1)):=rfl
@[congr] theorem D0O{nm:Nat}{z:List V}{x x':V}{k:Res}{h:A2}{n:Nat}(e0:x=x'):B3I nm z x k h n=B3I nm z x' k h n:=by rw [e0]
@[go_sem] theorem D4A{nm:Nat}{z:List V}{m:Int}{k:Res}{h:A2}{n:Nat}:B3I nm z (.int .i64 m) k h n=(0≤m∧m≤137438953472∧k (.sl nm n 0 m.toNat) (A2.put h nm n (.rows z.length (List.replicate m.toNat z))) (n+1)):=rfl
@[go_sem] theorem D6L{z:List V}{b st i m:Nat}{k:Res}{h:A2}{n:Nat}:B3W z (.sl b st i m) k h n=B5N (A2.get h b st) fun sz rs=>sz=z.length∧i+m≤rs.length∧k (.tup []) (A2.put h b st (.rows sz (rs.take i++List.replicate m z++rs.drop (i+m)))) n:=rfl
@[congr] theorem D3g{sz:Nat}{x x':V}{lo lo' hi hi':Option V}{k:Res}{h:A2}{n:Nat}(e0:x=x')(e1:lo=lo')(e2:hi=hi'):B2J sz x lo hi k h n=B2J sz x' lo' hi' k h n:=by rw [e0,e1,e2]
@[go_sem] theorem D7f{sz b st i m:Nat}{lo hi:Option V}{k:Res}{h:A2}{n:Nat}:B2J sz (.sl b st i m) lo hi k h n=C1j (H8 0 lo) (H8 m hi) fun l u=>B1r (A2.get h b st)=some sz∧0≤l∧l≤u∧u≤m∧k (.sl b st (i+l.toNat) (u-l).toNat) h n:=rfl
@[go_sem] theorem D6t{sz:Nat}{es:List (List V)}{lo hi:Option V}{k:Res}{h:A2}{n:Nat}:B2J sz (.isl es) lo hi k h n=C1j (H8 0 lo) (H8 es.length hi) fun l u=>D5 es sz∧0≤l∧l≤u∧u≤es.length∧k (.isl ((es.drop l.toNat).take (u-l).toNat)) h n:=rfl
@[go_sem] theorem D4M{sz:Nat}{lo hi:Option V}{k:Res}{h:A2}{n:Nat}:B2J sz .nils lo hi k h n=C1j (H8 0 lo) (H8 0 hi) fun l u=>l=0∧u=0∧k .nils h n:=rfl
@[congr] theorem D3j{x x':V}{lo lo' hi hi':Option V}{k:Res}{h:A2}{n:Nat}(e0:x=x')(e1:lo=lo')(e2:hi=hi'):B4b x lo hi k h n=B4b x' lo' hi' k h n:=by rw [e0,e1,e2]
@[go_sem] theorem D6u{s:List UInt8}{lo hi:Option V}{k:Res}{h:A2}{n:Nat}:B4b (.str s) lo hi k h n=C1j (H8 0 lo) (H8 s.length hi) fun l u=>0≤l∧l≤u∧u≤s.length∧k (.str ((s.drop l.toNat).take (u-l).toNat)) h n:=rfl
def C4S(o:Option V)(f:V→Prop)(g:Prop):Prop:=
 match o with
 |some v=>f v
 |none=>g
@[congr] theorem D2J{o o':Option V}{f:V→Prop}{g:Prop}(e:o=o'):C4S o f g=C4S o' f g:=by rw [e]
@[go_sem] theorem D4D{v:V}{f:V→Prop}{g:Prop}:C4S (some v) f g=f v:=rfl
@[go_sem] theorem D4C{f:V→Prop}{g:Prop}:C4S none f g=g:=rfl
@[go_sem] theorem D6n{α:Type}{o:Option α}{F:α→V}{f:V→Prop}{g:Prop}:C4S (o.map F) f g=((∀x,o=some x→f (F x))∧(o=none→g)):=by
 cases o<;>simp [C4S]
@[go_sem] theorem D4l{g:FuncId}{cs as:List V}{k:Res}{h:A2}{n:Nat}:A8a P (.fn g cs) as h n k=(M4 P g=true∧A0 P g (as++cs) h n k):=rfl
@[congr] theorem C8H{x x':V}{as as':List V}{k:Res}{h:A2}{n:Nat}(e:x=x')(e':as=as'):A8a P x as h n k=A8a P x' as' h n k:=by rw [e,e']
@[congr] theorem D0e{f:FuncId}{as as':List V}{k:Res}{h h':A2}{n n':Nat}{pk:R8}(e:as=as')(e':h=h')(e'':n=n'):B3x P f as h n k pk=B3x P f as' h' n' k pk:=by rw [e,e',e'']
@[congr] theorem D0f{f:FuncId}{as as':List V}{k:Res}{h h':A2}{n n':Nat}(e:as=as')(e':h=h')(e'':n=n'):A0 P f as h n k=A0 P f as' h' n' k:=by rw [e,e',e'']
def C9C(Q:Res)(o:Option (List V))(h:A2)(n:Nat):Prop:=
 match o with
 |some vs=>Q (B2i vs) h n
 |none=>False
@[congr] theorem D2U{Q:Res}{o o':Option (List V)}{h:A2}{n:Nat}(e:o=o'):C9C Q o h n=C9C Q o' h n:=by rw [e]
@[go_sem] theorem D4G{Q:Res}{vs:List V}{h:A2}{n:Nat}:C9C Q (some vs) h n=Q (B2i vs) h n:=rfl
@[go_sem ↓] theorem D7b{N:Nat}{rs:List RV}{Q:Res}{sl:List (Nat×V)}{h:A2}{n:Nat}:C5b ⟨P,N,rs,Q,none,pk⟩ ⟨sl,h,n⟩=C9C Q (A7D ⟨sl,h,n⟩ rs) h n:=rfl
@[congr] theorem D0w{b b':Bool}{A:Prop}(e:b=b'):B9v b A=B9v b' A:=by rw [e]
@[go_sem] theorem D0x{A:Prop}:B9v false A=A:=rfl
@[go_sem] theorem D5K{i j:Nat}{A:Prop}:B9v (Nat.beq i j) A=if i=j then False else A:=by
 cases h:Nat.beq i j with
 |true=>rw [if_pos (Nat.eq_of_beq_eq_true h)];rfl
 |false=>rw [if_neg fun e=>by rw [e,Nat.beq_refl]at h;cases h];rfl
@[congr] theorem D0u{o o':Option (List AItem)}{f:List AItem→Prop}{g:Prop}(e:o=o'):B4S o f g=B4S o' f g:=by rw [e]
@[go_sem] theorem D2e{l:List AItem}{f:List AItem→Prop}{g:Prop}:B4S (some l) f g=f l:=rfl
@[go_sem] theorem D2d{f:List AItem→Prop}{g:Prop}:B4S none f g=g:=rfl
@[go_sem ↓] theorem D2B{N:Nat}{rs:List RV}{Q:Res}{s:St}:A3e ⟨P,N,rs,Q,none,pk⟩ none s=C5b ⟨P,N,rs,Q,none,pk⟩ s:=rfl
@[go_sem ↓] theorem D2C{N:Nat}{rs:List RV}{Q:Res}{s:St}:A3e ⟨P,N,rs,Q,none,pk⟩ (some .ret) s=C5b ⟨P,N,rs,Q,none,pk⟩ s:=rfl
@[go_sem ↓] theorem D0J{N id:Nat}{rs:List RV}{Q:Res}{s:St}:A3e ⟨P,N,rs,Q,none,pk⟩ (some (.exit id)) s=False:=rfl
def C7v(o:Option Blk)(b st:Nat)(j:Option Code)(Q:Res)(h:A2)(n:Nat):Prop:=
 match o with
 |some (.loop N sl ps p _ _)=>Q (.bool j.isNone) (A2.put h b st (.loop N sl ps p (if j.isNone then .ready else .done) j)) n
 |_=>False
@[congr] theorem D2W{o o':Option Blk}{b st:Nat}{j:Option Code}{Q:Res}{h:A2}{n:Nat}(e:o=o'):C7v o b st j Q h n=C7v o' b st j Q h n:=by rw [e]
@[go_sem ↓] theorem D4v{N b st:Nat}{rs:List RV}{Q:Res}{j:Option Code}{sl:List (Nat×V)}{h:A2}{n:Nat}:A3e ⟨P,N,rs,Q,some (b,st),pk⟩ j ⟨sl,h,n⟩=C7v (A2.get h b st) b st j Q h n:=rfl
@[go_sem] theorem D6r{b st N:Nat}{sl:List (Nat×V)}{ps:List Nat}{p:Code→Code→Prop}{s:LoopState}{pd:Option Code}{Q:Res}{h:A2}{n:Nat}:C7v (some (.loop N sl ps p s pd)) b st none Q h n=Q (.bool true) (A2.put h b st (.loop N sl ps p .ready none)) n:=rfl
@[go_sem] theorem D4H{b st N:Nat}{sl:List (Nat×V)}{ps:List Nat}{p:Code→Code→Prop}{s:LoopState}{pd:Option Code}{c:Code}{Q:Res}{h:A2}{n:Nat}:C7v (some (.loop N sl ps p s pd)) b st (some c) Q h n=Q (.bool false) (A2.put h b st (.loop N sl ps p .done (some c))) n:=rfl
def C8C(o:Option Blk)(b st:Nat)(K:St→Prop)(sl:List (Nat×V))(h:A2)(n:Nat):Prop:=
 match o with
 |some (.loop N sl' ps p .ready pend)=>K ⟨sl,A2.put h b st (.loop N sl' ps p .busy pend),n⟩
 |_=>False
@[congr] theorem D1A{o o':Option Blk}{b st:Nat}{K:St→Prop}{sl:List (Nat×V)}{h:A2}{n:Nat}(e:o=o'):C8C o b st K sl h n=C8C o' b st K sl h n:=by rw [e]
@[go_sem ↓] theorem D6J{N b st:Nat}{rs:List RV}{Q:Res}{K:St→Prop}{sl:List (Nat×V)}{h:A2}{n:Nat}:D1z ⟨P,N,rs,Q,some (b,st),pk⟩ ⟨sl,h,n⟩ K=C8C (A2.get h b st) b st K sl h n:=rfl
@[go_sem] theorem D1B{b st N:Nat}{sl sl':List (Nat×V)}{ps:List Nat}{p:Code→Code→Prop}{pd:Option Code}{K:St→Prop}{h:A2}{n:Nat}:C8C (some (.loop N sl' ps p .ready pd)) b st K sl h n=K ⟨sl,A2.put h b st (.loop N sl' ps p .busy pd),n⟩:=rfl
@[go_sem] theorem D4n{A:Prop}:D5I none none A=A:=rfl
@[go_sem] theorem D2M:C0k none=D0R:=rfl
@[go_sem] theorem D2N{p:R8}:C0k (some p)=p:=rfl
@[congr] theorem D2X{c:Cf}{nm:Nat}{v v':V}{ps:List Nat}{x y:AC}{s:St}{K:Option Code→St→Prop}(e:v=v'):C5d c nm v ps x y s K=C5d c nm v' ps x y s K:=by rw [e]
@[go_sem] theorem D7c{N nm:Nat}{rs:List RV}{Q:Res}{f:FuncId}{cs:List V}{ps:List Nat}{x y:AC}{sl:List (Nat×V)}{h:A2}{n:Nat}{K:Option Code→St→Prop}:
  C5d ⟨P,N,rs,Q,none,none⟩ nm (.fn f cs) ps x y ⟨sl,h,n⟩ K=(M4 P f=true∧A0 P f (.yld nm n::cs) (A2.put h nm n (.loop N sl ps (A0l P N x y) .ready none)) (n+1) (C2l nm n sl K)):=by
 simp [C5d]
def C7w(o:Option Blk)(K:Option Code→Prop):Prop:=
 match o with
 |some (.loop _ _ _ _ s pend)=>s≠ .busy∧K pend
 |_=>False
@[congr] theorem D2Y{o o':Option Blk}{K:Option Code→Prop}(e:o=o'):C7w o K=C7w o' K:=by rw [e]
@[go_sem] theorem D7d{nm st:Nat}{sl:List (Nat×V)}{K:Option Code→St→Prop}{r:V}{h:A2}{n:Nat}:C2l nm st sl K r h n=C7w (A2.get h nm st) fun pend=>K pend ⟨sl,A2.del h nm,n⟩:=by
 unfold C2l C7w
 cases A2.get h nm st with
 |none=>rfl
 |some x=>cases x<;>rfl
@[go_sem] theorem D4I{N:Nat}{sl:List (Nat×V)}{ps:List Nat}{p:Code→Code→Prop}{s:LoopState}{pd:Option Code}{K:Option Code→Prop}:C7w (some (.loop N sl ps p s pd)) K=(s≠ .busy∧K pd):=rfl
@[go_sem] theorem D2z{K:List AItem→St→Prop}{k:List AItem}{s:St}:B9M K k none s=K k s:=rfl
@[go_sem] theorem D4u{K:List AItem→St→Prop}{k:List AItem}{s:St}:B9M K k (some .ret) s=K (.code .ret::k) s:=rfl
@[go_sem] theorem D2y{K:List AItem→St→Prop}{k:List AItem}{id:Nat}{s:St}:B9M K k (some (.exit id)) s=K (.code (.exit id)::k) s:=rfl
@[go_sem] theorem D0V{sl:List (Nat×V)}{p:Nat}{ps:List Nat}{a:V}{as:List V}:A6E sl (p::ps) (a::as)=A6E (G0 sl p a) ps as:=rfl
@[go_sem] theorem D2O{sl:List (Nat×V)}{as:List V}:A6E sl [] as=sl:=by cases as<;>rfl
@[go_sem] theorem D1Q{b st:Nat}{as:List V}{k:Res}{h:A2}{n:Nat}:A8a P (.yld b st) as h n k=J4 P b st as h n k:=rfl
@[congr] theorem D1r{b st:Nat}{as as':List V}{k:Res}{h h':A2}{n n':Nat}(e:as=as')(e':h=h')(e'':n=n'):J4 P b st as h n k=J4 P b st as' h' n' k:=by rw [e,e',e'']
@[congr] theorem D6G{l l':List AI}{K:St→Prop}{s s':St}(e':l=l')(e:s=s'):vo P PK l K s=vo P PK l' K s':=by rw [e,e']
@[congr] theorem D5Y{k k':List AItem}{s s':St}(e':k=k')(e:s=s'):go c m k s=go c m k' s':=by rw [e,e']
@[congr] theorem D3P{s s':St}(e:s=s'):Run c k s=Run c k s':=by rw [e]
@[go_sem] theorem D4K{sz:Nat}:D5 [] sz=True:=by simp [D5]
@[go_sem] theorem D3d{sz:Nat}{r:List V}{rs:List (List V)}:D5 (r::rs) sz=(r.length=sz∧D5 rs sz):=by simp [D5]
@[go_sem] theorem C7z{i:Nat}:E0 [] i= .undef:=rfl
theorem B2X{α:Type}{i j:Nat}{a b:α}:(bif Nat.beq i j then a else b)=if i=j then a else b:=by
 by_cases h:i=j
 ·subst h;simp
 ·rw [if_neg h]
  have:Nat.beq i j=false:=by
   cases hb:Nat.beq i j with
   |false=>rfl
   |true=>exact(h (Nat.eq_of_beq_eq_true hb)).elim
  rw [this];rfl
@[go_sem] theorem C5g{p:Nat×V}{r:List (Nat×V)}{i:Nat}:E0 (p::r) i=if p.1=i then p.2 else E0 r i:=B2X
@[go_sem] theorem D6v{i:Nat}{v:V}:G0 [] i v= [(i,v)]:=rfl
@[go_sem] theorem D4N{p:Nat×V}{r:List (Nat×V)}{i:Nat}{v:V}:G0 (p::r) i v=if p.1<i then(i,v)::p::r else if p.1=i then(i,v)::r else p::G0 r i v:=by
 simp only [G0]
 rw [B2X]
 by_cases h:p.1<i
 ·rw [if_pos h,if_neg zd,show Nat.blt p.1 i=true from Nat.ble_eq_true_of_le h];rfl
 ·rw [if_neg h]
  have:Nat.blt p.1 i=false:=by
   cases hb:Nat.blt p.1 i with
   |false=>rfl
   |true=>exact(h (Nat.le_of_ble_eq_true hb)).elim
  rw [this];rfl
attribute [go_sem] St.ev.eq_1 St.ev.eq_2 St.ev.eq_3 St.ev.eq_4 know A7D B2i Y3 B9T B3E C1w B5w C0o U2 B4Y C6u C6s B9r B5g D7y unV C9r C1V C6P B2K A4E C6M C3h D6k D6j C3c H8 B1r M4
attribute [go_sem] inR B7N C6o eqE eqE.eqFs B8j C8u mmV mm2 A2m I9 I8 A8v C2
attribute [go_sem] Option.map_some Option.map_none Option.bind_some Option.bind_none Option.getD_some Option.getD_none Option.isSome_some
attribute [go_sem] List.getElem?_cons_zero List.getElem?_cons_succ List.getElem?_nil List.length_cons List.length_nil List.drop_zero List.drop_succ_cons List.drop_nil List.take_zero List.take_succ_cons List.take_nil List.map_cons List.map_nil List.cons_append List.nil_append List.append_nil List.set_cons_zero List.set_cons_succ
attribute [go_sem] if_true if_false cond_true cond_false Bool.not_true Bool.not_false true_and and_true false_and and_false true_implies forall_const Bool.true_and Bool.and_true Bool.false_and Bool.and_false ite_true ite_false reduceIte
attribute [go_sem] Bool.not_eq_true Bool.not_eq_false decide_eq_true_eq decide_eq_false_iff_not Classical.not_not Bool.not_not decide_true decide_false Nat.zero_add Nat.add_zero ne_eq reduceCtorEq
@[go_sem] theorem D6P{α:Type}{a b:α}{p:Prop} [Decidable p]:(bif decide p then a else b)=if p then a else b:=by by_cases h:p<;>simp [h]
@[go_sem] theorem D6Z{b st:Nat}:A2.get [] b st=none:=rfl
@[go_sem] theorem D5X{b' st' b st:Nat}{x:Blk}{r:A2}:A2.get ((b',st',x)::r) b st=if b'=b then(if st'=st then some x else none)else A2.get r b st:=B2X
@[go_sem] theorem D7u{h:A2}{b st:Nat}{x:Blk}:A2.put h b st x=(b,st,x)::A2.del h b:=rfl
@[go_sem] theorem D6R{b:Nat}:A2.del [] b= []:=rfl
@[go_sem] theorem D5H{b' st' b:Nat}{x:Blk}{r:A2}:A2.del ((b',st',x)::r) b=if b'=b then A2.del r b else(b',st',x)::A2.del r b:=by
 unfold A2.del
 rw [List.filter_cons,←B2X]
 cases Nat.beq b' b<;>simp
@[go_sem] theorem D4y{row:List V}{j n:Nat}:I1 row j n true=if j+n≤row.length then some (.agg ((row.drop j).take n))else none:=by
 unfold I1
 by_cases h:j+n≤row.length
 ·rw [if_pos h,Nat.ble_eq_true_of_le h];rfl
 ·rw [if_neg h]
  have:Nat.ble (j+n) row.length=false:=by
   cases hb:Nat.ble (j+n) row.length with
   |false=>rfl
   |true=>exact(h (Nat.le_of_ble_eq_true hb)).elim
  rw [this];rfl
@[go_sem] theorem D4x{row:List V}{j n:Nat}:I1 row j n false=row[j]? :=rfl
theorem C5W{α:Type}{i j:Nat}{a b:α}:(bif Nat.ble i j then a else b)=if i≤j then a else b:=by
 by_cases h:i≤j
 ·rw [if_pos h,Nat.ble_eq_true_of_le h];rfl
 ·rw [if_neg h]
  have:Nat.ble i j=false:=by
   cases hb:Nat.ble i j with
   |false=>rfl
   |true=>exact(h (Nat.le_of_ble_eq_true hb)).elim
  rw [this];rfl
@[go_sem] theorem D3X{α:Type}{i j k l:Nat}{a b:α}:(bif Nat.beq i j&&Nat.ble k l then a else b)=if i=j then(if k≤l then a else b)else b:=by
 rw [←B2X,←C5W]
 cases Nat.beq i j<;>rfl
attribute [go_sem] B2X C5W
@[go_sem] theorem D7A{sl:List (Nat×V)}{h:A2}{n i:Nat}:St.ev ⟨sl,h,n⟩ (.t i)=E0 sl i:=rfl
section
variable {d:Nat} {h:A2} {φ:Nat→Nat→Nat→Nat→V}
attribute [go_sem] V.sub A1Z A0g
theorem A1A: ∃φ,frz d h=V.sub φ:=by cases d<;>exact⟨_,rfl⟩
@[go_sem] theorem C8O{j:IntKind}{z:Int}:frz d h (.int j z)= .int j z:=by obtain⟨φ,e⟩:=A1A (d:=d) (h:=h);rw [e,V.sub]
@[go_sem] theorem D5Q{b:Bool}:frz d h (.bool b)= .bool b:=by obtain⟨φ,e⟩:=A1A (d:=d) (h:=h);rw [e,V.sub]
@[go_sem] theorem D6X{b:List UInt8}:frz d h (.str b)= .str b:=by obtain⟨φ,e⟩:=A1A (d:=d) (h:=h);rw [e,V.sub]
@[go_sem] theorem D4q:frz d h .undef= .undef:=by obtain⟨φ,e⟩:=A1A (d:=d) (h:=h);rw [e,V.sub]
@[go_sem] theorem D5S:frz d h .nilp= .nilp:=by obtain⟨φ,e⟩:=A1A (d:=d) (h:=h);rw [e,V.sub]
@[go_sem] theorem D6V:frz d h .err= .err:=by obtain⟨φ,e⟩:=A1A (d:=d) (h:=h);rw [e,V.sub]
@[go_sem] theorem D5P{k:IntKind}:frz d h (.anyi k)= .anyi k:=by obtain⟨φ,e⟩:=A1A (d:=d) (h:=h);rw [e,V.sub]
@[go_sem] theorem D5R:frz d h .nilm= .nilm:=by obtain⟨φ,e⟩:=A1A (d:=d) (h:=h);rw [e,V.sub]
@[go_sem] theorem D5T:frz d h .nils= .isl []:=by obtain⟨φ,e⟩:=A1A (d:=d) (h:=h);rw [e,V.sub]
@[go_sem] theorem D6U{cs:List V}:frz d h (.agg cs)= .agg (cs.map (frz d h)):=by obtain⟨φ,e⟩:=A1A (d:=d) (h:=h);rw [e,V.sub,A1Z]
@[go_sem] theorem D6Y{cs:List V}:frz d h (.tup cs)= .tup (cs.map (frz d h)):=by obtain⟨φ,e⟩:=A1A (d:=d) (h:=h);rw [e,V.sub,A1Z]
@[go_sem] theorem D6W{es:List (List V)}:frz d h (.isl es)= .isl (es.map fun r=>r.map (frz d h)):=by obtain⟨φ,e⟩:=A1A (d:=d) (h:=h);rw [e,V.sub,A0g]
@[go_sem] theorem D7r{b st i n:Nat}:frz (d+1) h (.sl b st i n)=match A4E h (.sl b st i n)with|some rs=> .isl (rs.map fun r=>r.map (frz d h))|none=> .undef:=by rw [frz,V.sub];rfl
end
theorem A0.pureF{f:FuncId}{xs:List V}{r:V}{h:A2}{n:Nat}{k:Res}(hp:Pure P f xs r)(has:xs.map (V.sub I6)=xs)(hk:k r h n):A0 P f xs h n k:=A0.pure hp has hk
theorem A3y.pureF{f:FuncId}{xs:List V}{r:V}{h:A2}{n:Nat}{k:Res}(hp:Pure P f xs r)(has:xs.map (V.sub I6)=xs)(hk:k r h n):A3y P f xs k h n:=⟨r,fun _ h'=>A0.pureF hp has h',hk⟩
def A1a(s:List (Nat×V)):List (Nat×V)→Prop
 | []=>True
 |p::r=>E0 s p.1=p.2∧A1a s r
def B8r(e:Nat×Nat×Blk):A2→Prop
 | []=>False
 |x::r=>x=e∨B8r e r
def B1s(h:A2):A2→Prop
 | []=>True
 |e::r=>B8r e h∧B1s h r
theorem B0{s:List (Nat×V)}: ∀{l:List (Nat×V)},A1a s l↔ ∀p∈l,p.2=E0 s p.1
 | []=>by simp [A1a]
 |p::r=>by simp only [A1a,B0,List.forall_mem_cons];rw [eq_comm]
theorem B9W{e:Nat×Nat×Blk}: ∀{l:A2},B8r e l↔e∈l
 | []=>by simp [B8r]
 |p::r=>by simp only [B8r,B9W,List.mem_cons];rw [eq_comm]
theorem C0{h:A2}: ∀{l:A2},B1s h l↔ ∀p∈l,p∈h
 | []=>by simp [B1s]
 |p::r=>by simp only [B1s,C0,List.forall_mem_cons,B9W]
@[go_sem] theorem D6H{s s':St}:E8 s s'=(A1a s.sl s'.sl∧B1s s.h s'.h∧s.n≤s'.n):=by
 rw [eq_iff_iff,B0,C0];exact Iff.rfl
@[go_sem] theorem D3h{s:List (Nat×V)}:A1a s []=True:=rfl
@[go_sem] theorem D0X{s:List (Nat×V)}{p:Nat×V}{r:List (Nat×V)}:A1a s (p::r)=(E0 s p.1=p.2∧A1a s r):=rfl
@[go_sem] theorem D6h{e:Nat×Nat×Blk}:B8r e []=False:=rfl
@[go_sem] theorem D4z{e x:Nat×Nat×Blk}{r:A2}:B8r e (x::r)=(x=e∨B8r e r):=rfl
@[go_sem] theorem D4i{h:A2}:B1s h []=True:=rfl
@[go_sem] theorem D1E{h r:A2}{e:Nat×Nat×Blk}:B1s h (e::r)=(B8r e h∧B1s h r):=rfl
attribute [go_sem] Prod.mk.injEq V.int.injEq V.bool.injEq V.str.injEq V.agg.injEq V.tup.injEq V.isl.injEq V.sl.injEq V.ptr.injEq V.mp.injEq V.yld.injEq Blk.loop.injEq Blk.rows.injEq List.cons.injEq
attribute [go_sem] List.length_map List.drop_zero List.take_length List.length_append List.length_cons List.length_nil List.length_set List.length_replicate
attribute [go_sem] List.cons_append List.nil_append
attribute [go_sem] true_or or_true or_false false_or Nat.le_refl false_implies implies_true forall_const
end
end Go.Abs
attribute [go_sem] Nat.reduceEqDiff Nat.reduceAdd Nat.reduceSub Nat.reduceMul Nat.reduceLeDiff Nat.reduceLT Nat.reduceBEq Int.reduceToNat Int.reduceLE Int.reduceLT Int.reduceEq Int.reduceNe Int.reduceAdd Int.reduceSub Int.reduceNeg Int.toNat_natCast Int.cast_ofNat_Int Int.natCast_zero Int.natCast_one reduceCtorEq reduceIte Nat.lt_irrefl and_self not_false_eq_true not_true_eq_false
