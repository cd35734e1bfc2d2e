/-
 The evaluator as rewrite rules. No condition.
-/
import Derived.Test.YtnihmhbcjpcobaaGreatDoorGo
set_option linter.unusedVariables false
set_option linter.unusedSimpArgs false
namespace Go.Abs
theorem Run.unf{c:Cf}{x y:AC}{k:List AItem}{s:St}(h:x=y)(hr:Run c (.code y::k) s):Run c (.code x::k) s:=h ▸ hr
section
variable {c:Cf} {P:Program} {m:Nat} {k:List AItem} {s:St}
attribute [go_sem] go.eq_1 go.eq_2 go.eq_3 go.eq_4 go.eq_5 go.eq_6 go.eq_7 go.eq_8 go.eq_9 go.eq_10 go.eq_11 go.eq_12 go.eq_13 go.eq_14 go.eq_15 go.eq_16
@[go_sem] theorem C9Z{K:St→Prop}:B1Y P [] K s=True:=rfl
@[go_sem] theorem C8s{l:List AI}{r:List (List AI)}{K:St→Prop}:B1Y P (l::r) K s=(vo P l K s∧B1Y P r K s):=rfl
@[go_sem] theorem D2a{K:St→Prop}:vo P [] K s=K s:=rfl
@[go_sem] theorem D1V{i:AI}{r:List AI}{K:St→Prop}:vo P (i::r) K s=D5 P i s (vo P r K):=rfl
@[go_sem ↓] theorem C7W{sl:List (Nat×V)}{h:A0}{n:Nat}{d:Option Nat}{o:AO}{K:St→Prop}:D5 P ⟨d,none,o⟩ ⟨sl,h,n⟩ K=A7 P o ⟨sl,h,n⟩ (fin d sl K):=rfl
@[go_sem ↓] theorem C7X{sl:List (Nat×V)}{h:A0}{n:Nat}{d:Option Nat}{o:AO}{j:Nat}{b:Bool}{K:St→Prop}:D5 P ⟨d,some (j,b),o⟩ ⟨sl,h,n⟩ K=stepG (C3 sl j) b (vo P [⟨d,none,o⟩] K ⟨E8 sl j (.bool b),h,n⟩) (fin d (E8 sl j (.bool !b)) K (.cst Go.undef) h n) (fin d sl K (.cst Go.undef) h n):=rfl
@[congr] theorem C5Q{v v':V}{w:Bool}{A B C:Prop}(h:v=v'):stepG v w A B C=stepG v' w A B C:=by rw [h]
@[congr] theorem C5o{v v':V}{A B:Prop}(h:v=v'):A9V v A B=A9V v' A B:=by rw [h]
@[go_sem] theorem D1j{A B C:Prop}:stepG (.bool true) true A B C=A:=by simp [stepG]
@[go_sem] theorem D1g{A B C:Prop}:stepG (.bool false) false A B C=A:=by simp [stepG]
@[go_sem] theorem D1i{A B C:Prop}:stepG (.bool true) false A B C=B:=by simp [stepG]
@[go_sem] theorem D1h{A B C:Prop}:stepG (.bool false) true A B C=B:=by simp [stepG]
@[go_sem] theorem D1P{w:Bool}{A B C:Prop}:stepG (.cst Go.undef) w A B C=C:=by simp [stepG,B0h,Go.undef]
@[go_sem low] theorem D1R{b:Bool}{A B C:Prop}:stepG (.bool b) true A B C=((b=true→A)∧(b=false→B)):=rfl
@[go_sem low] theorem D1Q{b:Bool}{A B C:Prop}:stepG (.bool b) false A B C=((b=false→A)∧(b=true→B)):=rfl
@[go_sem] theorem D1w{A B:Prop}:A9V (.bool true) A B=A:=by simp [A9V]
@[go_sem] theorem D1v{A B:Prop}:A9V (.bool false) A B=B:=by simp [A9V]
@[go_sem low] theorem D1u{b:Bool}{A B:Prop}:A9V (.bool b) A B=((b=true→A)∧(b=false→B)):=rfl
@[go_sem ↓] theorem D0z{d:Nat}{sl:List (Nat×V)}{K:St→Prop}{r:V}{h:A0}{n:Nat}:fin (some d) sl K r h n=K ⟨E8 sl d r,h,n⟩:=rfl
@[go_sem ↓] theorem D0y{sl:List (Nat×V)}{K:St→Prop}{r:V}{h:A0}{n:Nat}:fin none sl K r h n=K ⟨sl,h,n⟩:=rfl
@[go_sem ↓] theorem C9S{x:Opd}{sl:List (Nat×V)}{h:A0}{n:Nat}{k:Res}:A7 P (.mov x) ⟨sl,h,n⟩ k=k (St.ev ⟨sl,h,n⟩ x) h n:=rfl
@[go_sem ↓] theorem C8n{c a b:Opd}{sl:List (Nat×V)}{h:A0}{n:Nat}{k:Res}:A7 P (.pick c a b) ⟨sl,h,n⟩ k=G8 (B7l (St.ev ⟨sl,h,n⟩ c) (St.ev ⟨sl,h,n⟩ a) (St.ev ⟨sl,h,n⟩ b)) k h n:=rfl
@[go_sem ↓] theorem C6a{x:Opd}{sl:List (Nat×V)}{h:A0}{n:Nat}{k:Res}:A7 P (.nilck x) ⟨sl,h,n⟩ k=G8 (B3k (St.ev ⟨sl,h,n⟩ x)) k h n:=rfl
@[go_sem ↓] theorem C9F{nm sz:Nat}{x:Opd}{sl:List (Nat×V)}{h:A0}{n:Nat}{k:Res}:A7 P (.box nm sz x) ⟨sl,h,n⟩ k=B3Q nm sz (A1E (St.ev ⟨sl,h,n⟩ x)) k h n:=rfl
@[go_sem ↓] theorem C5R{z:List V}{ps:List (Nat×Nat×Opd)}{sl:List (Nat×V)}{h:A0}{n:Nat}{k:Res}:A7 P (.build z ps) ⟨sl,h,n⟩ k=G8 ((A2p ⟨sl,h,n⟩ z ps).map .agg) k h n:=rfl
@[go_sem ↓] theorem C5Z{nm sz:Nat}{xs:List Opd}{sl:List (Nat×V)}{h:A0}{n:Nat}{k:Res}:A7 P (.mkrow nm sz xs) ⟨sl,h,n⟩ k=B7y nm sz (G7 sz ⟨sl,h,n⟩ xs) k h n:=rfl
@[go_sem ↓] theorem C5W{sz:Nat}{xs:List Opd}{sl:List (Nat×V)}{h:A0}{n:Nat}{k:Res}:A7 P (.mkisl sz xs) ⟨sl,h,n⟩ k=B6Q (G7 sz ⟨sl,h,n⟩ xs) k h n:=rfl
def A2T(rs:List (List V))(i:Nat)(f:List V→Prop):Prop:=
 match rs[i]? with
 |some row=>f row
 |none=>False
def A9N(b:Option Blk)(f:Nat→List (List V)→Prop):Prop:=
 match b with
 |some (.rows sz rs)=>f sz rs
 |_=>False
def B3c(h0:A0)(x:V)(m:Nat)(agg:Bool)(k:Res)(h:A0)(n:Nat):Prop:=G8 (A2s h0 x m agg) k h n
def B1t(h0:A0)(x:V)(cs:Option (List V))(m:Nat)(k:Res)(n:Nat):Prop:=
 match x with
 | .ptr b st i j=>A8A (B2u h0 b st i j m (A0.get h0 b st) cs) k n
 |_=>False
@[congr] theorem C5k{rs rs':List (List V)}{i i':Nat}{f:List V→Prop}(e0:rs=rs')(e1:i=i'):A2T rs i f=A2T rs' i' f:=by rw [e0,e1]
@[congr] theorem C5j{b b':Option Blk}{f:Nat→List (List V)→Prop}(e0:b=b'):A9N b f=A9N b' f:=by rw [e0]
@[congr] theorem C5C{h0:A0}{x x':V}{m:Nat}{agg:Bool}{k:Res}{h:A0}{n:Nat}(e:x=x'):B3c h0 x m agg k h n=B3c h0 x' m agg k h n:=by rw [e]
@[congr] theorem C5d{h0:A0}{x x':V}{cs cs':Option (List V)}{m:Nat}{k:Res}{n:Nat}(e:x=x')(e1:cs=cs'):B1t h0 x cs m k n=B1t h0 x' cs' m k n:=by rw [e,e1]
@[go_sem ↓] theorem C8g{m:Nat}{agg:Bool}{x:Opd}{sl:List (Nat×V)}{h:A0}{n:Nat}{k:Res}:A7 P (.load m agg x) ⟨sl,h,n⟩ k=B3c h (St.ev ⟨sl,h,n⟩ x) m agg k h n:=rfl
@[go_sem ↓] theorem C6c{m:Nat}{x v:Opd}{sl:List (Nat×V)}{h:A0}{n:Nat}{k:Res}:A7 P (.store m x v) ⟨sl,h,n⟩ k=B1t h (St.ev ⟨sl,h,n⟩ x) (A1E (St.ev ⟨sl,h,n⟩ v)) m k n:=by
 simp only [A7,B1t,B3I]
 cases St.ev ⟨sl,h,n⟩ x<;>rfl
@[go_sem] theorem C9e{h0:A0}{b st i j m:Nat}{agg:Bool}{k:Res}{h:A0}{n:Nat}:B3c h0 (.ptr b st i j) m agg k h n=A9N (A0.get h0 b st) fun _ rs=>A2T rs i fun row=>G8 (J9 row j m agg) k h n:=by
 simp only [B3c,A2s,A9N,A2T]
 cases A0.get h0 b st with
 |none=>rfl
 |some x=>
  cases x with
  |rows sz rs=>simp only;cases rs[i]? <;>rfl
  |map es=>rfl
  |loop=>rfl
  |mapb=>rfl
  |iter=>rfl
  |raw=>rfl
@[go_sem] theorem C7j{h0:A0}{es:List (List V)}{i j m:Nat}{agg:Bool}{k:Res}{h:A0}{n:Nat}:B3c h0 (.iptr es i j) m agg k h n=A2T es i fun row=>G8 (J9 row j m agg) k h n:=by
 simp only [B3c,A2s,A2T]
 cases es[i]? <;>rfl
@[go_sem] theorem C8o{h0:A0}{b st i j m:Nat}{cs:List V}{k:Res}{n:Nat}:B1t h0 (.ptr b st i j) (some cs) m k n=
  A9N (A0.get h0 b st) fun sz rs=>A2T rs i fun row=>cs.length=m∧j+m≤row.length∧k .undef (A0.put h0 b st (.rows sz (rs.set i (J2 row j cs)))) n:=by
 simp only [B1t,B2u,A9N,A2T]
 cases A0.get h0 b st with
 |none=>rfl
 | some x=>
  cases x with
  |map es=>rfl
  |loop=>rfl
  |mapb=>rfl
  |iter=>rfl
  |raw=>rfl
  | rows sz rs=>
   simp only
   cases rs[i]? with
   |none=>rfl
   | some row=>
    simp only
    by_cases h1:cs.length=m
    ·by_cases h2:j+m≤row.length
     ·rw [h1,Nat.beq_refl,Nat.ble_eq_true_of_le h2];simp [A8A,h2]
     ·have:Nat.ble (j+m) row.length=false:=by
       cases hb:Nat.ble (j+m) row.length with
       |false=>rfl
       |true=>exact(h2 (Nat.le_of_ble_eq_true hb)).elim
      rw [this];simp [A8A,h2]
    ·have:Nat.beq cs.length m=false:=by
      cases hb:Nat.beq cs.length m with
      |false=>rfl
      |true=>exact(h1 (Nat.eq_of_beq_eq_true hb)).elim
     rw [this];simp [A8A,h1]
@[go_sem] theorem C6l{sz:Nat}{rs:List (List V)}{f:Nat→List (List V)→Prop}:A9N (some (.rows sz rs)) f=f sz rs:=rfl
@[go_sem] theorem C6k{f:Nat→List (List V)→Prop}:A9N none f=False:=rfl
@[go_sem] theorem C8y{es:List (V×V)}{f:Nat→List (List V)→Prop}:A9N (some (.map es)) f=False:=rfl
@[go_sem high] theorem C8B{i:Nat}{f:List V→Prop}:A2T [] i f=False:=by simp [A2T]
@[go_sem high] theorem C6m{r:List V}{rs:List (List V)}{f:List V→Prop}:A2T (r::rs) 0 f=f r:=rfl
theorem B6i{rs:List (List V)}{i:Nat}{f:List V→Prop}:A2T rs i f=(i<rs.length∧ ∀row,rs[i]? =some row→f row):=by
 unfold A2T
 cases h:rs[i]? with
 |none=>
  have:=List.getElem?_eq_none_iff.1 h
  simp;omega
 |some row=>
  have:=(List.getElem?_eq_some_iff.1 h).1
  simp [this]
@[go_sem low] theorem C8z{rs:List (List V)}{i:Nat}{f:List V→Prop}:A2T rs i f=(i<rs.length∧ ∀row,rs[i]? =some row→f row):=B6i
@[go_sem] theorem C8A{α:Type}{xs:List α}{F:α→List V}{i:Nat}{f:List V→Prop}:A2T (xs.map F) i f=(i<xs.length∧ ∀x,xs[i]? =some x→f (F x)):=by
 rw [B6i,List.length_map]
 refine propext (and_congr_right fun _=> ?_)
 rw [List.getElem?_map]
 constructor
 ·intro h x hx;exact h _ (by rw [hx];rfl)
 ·intro h row hr
  rw [Option.map_eq_some_iff]at hr
  obtain⟨x,hx,rfl⟩:=hr
  exact h x hx
@[go_sem] theorem C3Q{α:Type}{xs:List α}{F:α→List V}:(xs.map F).take xs.length=xs.map F:=by
 rw [List.take_of_length_le];simp
@[go_sem ↓] theorem C5T{off:Nat}{x:Opd}{sl:List (Nat×V)}{h:A0}{n:Nat}{k:Res}:A7 P (.faddr off x) ⟨sl,h,n⟩ k=G8 (B2M off (St.ev ⟨sl,h,n⟩ x)) k h n:=rfl
@[go_sem ↓] theorem C5U{sz:Nat}{x i:Opd}{sl:List (Nat×V)}{h:A0}{n:Nat}{k:Res}:A7 P (.iaddr sz x i) ⟨sl,h,n⟩ k=A1H sz (St.ev ⟨sl,h,n⟩ x) (St.ev ⟨sl,h,n⟩ i) k h n:=rfl
@[go_sem ↓] theorem C5c{len sz:Nat}{x i:Opd}{sl:List (Nat×V)}{h:A0}{n:Nat}{k:Res}:A7 P (.iaddrA len sz x i) ⟨sl,h,n⟩ k=A1M len sz (St.ev ⟨sl,h,n⟩ x) (St.ev ⟨sl,h,n⟩ i) k h n:=rfl
@[go_sem ↓] theorem C9O{off m:Nat}{agg:Bool}{x:Opd}{sl:List (Nat×V)}{h:A0}{n:Nat}{k:Res}:A7 P (.fld off m agg x) ⟨sl,h,n⟩ k=G8 (C2v off m agg (St.ev ⟨sl,h,n⟩ x)) k h n:=rfl
@[go_sem ↓] theorem C9Q{x i:Opd}{sl:List (Nat×V)}{h:A0}{n:Nat}{k:Res}:A7 P (.idx x i) ⟨sl,h,n⟩ k=B5r (St.ev ⟨sl,h,n⟩ x) (St.ev ⟨sl,h,n⟩ i) k h n:=rfl
@[go_sem ↓] theorem C9N{i:Nat}{x:Opd}{sl:List (Nat×V)}{h:A0}{n:Nat}{k:Res}:A7 P (.ext i x) ⟨sl,h,n⟩ k=G8 (C2u i (St.ev ⟨sl,h,n⟩ x)) k h n:=rfl
@[go_sem ↓] theorem C7Y{op:BinOp}{x y:Opd}{sl:List (Nat×V)}{h:A0}{n:Nat}{k:Res}:A7 P (.binw op x y) ⟨sl,h,n⟩ k=G8 (B2B op (St.ev ⟨sl,h,n⟩ x) (St.ev ⟨sl,h,n⟩ y)) k h n:=rfl
@[go_sem] theorem C8K{j:IntKind}{a b:Int}:B2B .add (.int j a) (.int j b)=some (.int j (j.wrap (a+b))):=if_pos rfl
@[go_sem] theorem C8M{j:IntKind}{a b:Int}:B2B .sub (.int j a) (.int j b)=some (.int j (j.wrap (a-b))):=if_pos rfl
@[go_sem] theorem C8L{j:IntKind}{a b:Int}:B2B .mul (.int j a) (.int j b)=some (.int j (j.wrap (a*b))):=if_pos rfl
@[go_sem ↓] theorem C9E{op:BinOp}{x y:Opd}{sl:List (Nat×V)}{h:A0}{n:Nat}{k:Res}:A7 P (.bin op x y) ⟨sl,h,n⟩ k=S3 op (St.ev ⟨sl,h,n⟩ x) (St.ev ⟨sl,h,n⟩ y) k h n:=rfl
@[go_sem ↓] theorem C9M{kind:Nat}{neg:Bool}{x y:Opd}{sl:List (Nat×V)}{h:A0}{n:Nat}{k:Res}:A7 P (.eqp kind neg x y) ⟨sl,h,n⟩ k=G8 (bif B1G kind (St.ev ⟨sl,h,n⟩ x)then B8r neg (St.ev ⟨sl,h,n⟩ x) (St.ev ⟨sl,h,n⟩ y)else none) k h n:=rfl
@[go_sem ↓] theorem C9K{neg:Bool}{t:ETy}{x y:Opd}{sl:List (Nat×V)}{h:A0}{n:Nat}{k:Res}:A7 P (.eqa neg t x y) ⟨sl,h,n⟩ k=G8 (C2t neg t (St.ev ⟨sl,h,n⟩ x) (St.ev ⟨sl,h,n⟩ y)) k h n:=rfl
@[go_sem ↓] theorem C8m{x:Opd}{sl:List (Nat×V)}{h:A0}{n:Nat}{k:Res}:A7 P (.negw x) ⟨sl,h,n⟩ k=G8 (B4I (St.ev ⟨sl,h,n⟩ x)) k h n:=rfl
@[go_sem] theorem C9k{j:IntKind}{a:Int}:B4I (.int j a)=some (.int j (j.wrap (0-a))):=by rw [B4I]
@[go_sem ↓] theorem D1m{op:UnOp}{x:Opd}{sl:List (Nat×V)}{h:A0}{n:Nat}{k:Res}:A7 P (.un op x) ⟨sl,h,n⟩ k=unK op (St.ev ⟨sl,h,n⟩ x) k h n:=rfl
@[go_sem ↓] theorem C5V{neg:Bool}{x:Opd}{sl:List (Nat×V)}{h:A0}{n:Nat}{k:Res}:A7 P (.isnil neg x) ⟨sl,h,n⟩ k=G8 (B2W neg (St.ev ⟨sl,h,n⟩ x)) k h n:=rfl
@[go_sem ↓] theorem C8c{j:IntKind}{x:Opd}{sl:List (Nat×V)}{h:A0}{n:Nat}{k:Res}:A7 P (.conv j x) ⟨sl,h,n⟩ k=G8 (B6z j (St.ev ⟨sl,h,n⟩ x)) k h n:=rfl
@[go_sem ↓] theorem C9R{kind:Nat}{x:Opd}{sl:List (Nat×V)}{h:A0}{n:Nat}{k:Res}:A7 P (.len kind x) ⟨sl,h,n⟩ k=G8 (B3a h kind (St.ev ⟨sl,h,n⟩ x)) k h n:=rfl
@[go_sem ↓] theorem C8f{m:Nat}{sl:List (Nat×V)}{h:A0}{n:Nat}{k:Res}:A7 P (.lenc m) ⟨sl,h,n⟩ k=k (.int .i64 m) h n:=rfl
@[go_sem ↓] theorem D1k{mx:Bool}{xs:List Opd}{sl:List (Nat×V)}{h:A0}{n:Nat}{k:Res}:A7 P (.mm mx xs) ⟨sl,h,n⟩ k=G8 (mmV mx (xs.map (St.ev ⟨sl,h,n⟩))) k h n:=rfl
@[go_sem ↓] theorem C9C{nm sz:Nat}{b x:Opd}{sl:List (Nat×V)}{h:A0}{n:Nat}{k:Res}:A7 P (.app nm sz b x) ⟨sl,h,n⟩ k=A7d 137438953472 nm sz (St.ev ⟨sl,h,n⟩ b) (A3P h (St.ev ⟨sl,h,n⟩ x)) k h n:=rfl
@[go_sem ↓] theorem C9B{L nm sz:Nat}{b x:Opd}{sl:List (Nat×V)}{h:A0}{n:Nat}{k:Res}:A7 P (.apb L nm sz b x) ⟨sl,h,n⟩ k=A7d L nm sz (St.ev ⟨sl,h,n⟩ b) (A3P h (St.ev ⟨sl,h,n⟩ x)) k h n:=rfl
@[go_sem ↓] theorem C8d{sz:Nat}{d x:Opd}{sl:List (Nat×V)}{h:A0}{n:Nat}{k:Res}:A7 P (.copy sz d x) ⟨sl,h,n⟩ k=A6e sz (St.ev ⟨sl,h,n⟩ d) (A3P h (St.ev ⟨sl,h,n⟩ x)) k h n:=rfl
@[go_sem ↓] theorem C8k{nm:Nat}{z:List V}{x:Opd}{sl:List (Nat×V)}{h:A0}{n:Nat}{k:Res}:A7 P (.mksl nm z x) ⟨sl,h,n⟩ k=B1K nm z (St.ev ⟨sl,h,n⟩ x) k h n:=rfl
@[go_sem ↓] theorem C9V{sz:Nat}{x:Opd}{lo hi:Option Opd}{sl:List (Nat×V)}{h:A0}{n:Nat}{k:Res}:A7 P (.slc sz x lo hi) ⟨sl,h,n⟩ k=B0F sz (St.ev ⟨sl,h,n⟩ x) (lo.map (St.ev ⟨sl,h,n⟩)) (hi.map (St.ev ⟨sl,h,n⟩)) k h n:=rfl
@[go_sem ↓] theorem C9W{x:Opd}{lo hi:Option Opd}{sl:List (Nat×V)}{h:A0}{n:Nat}{k:Res}:A7 P (.sls x lo hi) ⟨sl,h,n⟩ k=B2i (St.ev ⟨sl,h,n⟩ x) (lo.map (St.ev ⟨sl,h,n⟩)) (hi.map (St.ev ⟨sl,h,n⟩)) k h n:=rfl
@[go_sem ↓] theorem C6b{f:FuncId}{xs:List Opd}{sl:List (Nat×V)}{h:A0}{n:Nat}{k:Res}:A7 P (.pcall f xs) ⟨sl,h,n⟩ k=A3e P f (xs.map (St.ev ⟨sl,h,n⟩)) k h n:=rfl
@[congr] theorem C4E{f:FuncId}{as as':List V}{k:Res}{h:A0}{n:Nat}(e:as=as'):A3e P f as k h n=A3e P f as' k h n:=by rw [e]
@[go_sem ↓] theorem C9L{fn neg:Bool}{x:Opd}{sl:List (Nat×V)}{h:A0}{n:Nat}{k:Res}:A7 P (.eqn fn neg x) ⟨sl,h,n⟩ k=A5I fn neg (St.ev ⟨sl,h,n⟩ x) k h n:=rfl
@[congr] theorem C6O{fn neg:Bool}{x x':V}{k:Res}{h:A0}{n:Nat}(e:x=x'):A5I fn neg x k h n=A5I fn neg x' k h n:=by rw [e]
@[go_sem] theorem C8W{neg:Bool}{k:Res}{h:A0}{n:Nat}:A5I false neg .nils k h n=k (.bool !neg) h n:=rfl
@[go_sem] theorem D0v{neg:Bool}{es:List (List V)}{k:Res}{h:A0}{n:Nat}:A5I false neg (.isl es) k h n=(k (.bool neg) h n∧(es= []→k (.bool !neg) h n)):=rfl
@[go_sem] theorem D1B{neg:Bool}{b st i m:Nat}{k:Res}{h:A0}{n:Nat}:A5I false neg (.sl b st i m) k h n=(k (.bool neg) h n∧(m=0→k (.bool !neg) h n)):=rfl
@[go_sem] theorem D1A{neg:Bool}{f:FuncId}{cs:List V}{k:Res}{h:A0}{n:Nat}:A5I true neg (.fn f cs) k h n=k (.bool neg) h n:=rfl
@[go_sem] theorem C8V{neg:Bool}{k:Res}{h:A0}{n:Nat}:A5I true neg (.cst .nilFunc) k h n=k (.bool !neg) h n:=rfl
@[go_sem ↓] theorem C8j{f:FuncId}{xs:List Opd}{sl:List (Nat×V)}{h:A0}{n:Nat}{k:Res}:A7 P (.mkfn f xs) ⟨sl,h,n⟩ k=k (.fn f (xs.map (St.ev ⟨sl,h,n⟩))) h n:=rfl
@[go_sem ↓] theorem C5X{nm:Nat}{sl:List (Nat×V)}{h:A0}{n:Nat}{k:Res}:A7 P (.mkmap nm) ⟨sl,h,n⟩ k=k (.mp nm n) (A0.put h nm n (.map [])) (n+1):=rfl
@[go_sem ↓] theorem C8h{kd:Nat}{z:V}{ok:Bool}{m x:Opd}{sl:List (Nat×V)}{h:A0}{n:Nat}{k:Res}:A7 P (.look kd z ok m x) ⟨sl,h,n⟩ k=A6g kd z ok (St.ev ⟨sl,h,n⟩ m) (St.ev ⟨sl,h,n⟩ x) k h n:=rfl
@[go_sem ↓] theorem C8l{kd:Nat}{m x v:Opd}{sl:List (Nat×V)}{h:A0}{n:Nat}{k:Res}:A7 P (.mput kd m x v) ⟨sl,h,n⟩ k=B0f kd (St.ev ⟨sl,h,n⟩ m) (St.ev ⟨sl,h,n⟩ x) (St.ev ⟨sl,h,n⟩ v) k h n:=rfl
@[go_sem ↓] theorem C8i{kd:Nat}{m x:Opd}{sl:List (Nat×V)}{h:A0}{n:Nat}{k:Res}:A7 P (.mdel kd m x) ⟨sl,h,n⟩ k=A8C kd (St.ev ⟨sl,h,n⟩ m) (St.ev ⟨sl,h,n⟩ x) k h n:=rfl
@[go_sem ↓] theorem D1l{l:Bool}{x y:Opd}{sl:List (Nat×V)}{h:A0}{n:Nat}{k:Res}:A7 P (.sh l x y) ⟨sl,h,n⟩ k=shK l (St.ev ⟨sl,h,n⟩ x) (St.ev ⟨sl,h,n⟩ y) k h n:=rfl
@[go_sem ↓] theorem C8e{len sz m:Nat}{agg:Bool}{x y:Opd}{sl:List (Nat×V)}{h:A0}{n:Nat}{k:Res}:A7 P (.idxA len sz m agg x y) ⟨sl,h,n⟩ k=A7n len sz m agg (St.ev ⟨sl,h,n⟩ x) (St.ev ⟨sl,h,n⟩ y) k h n:=rfl
@[go_sem ↓] theorem C8b{x:Opd}{sl:List (Nat×V)}{h:A0}{n:Nat}{k:Res}:A7 P (.cap0 x) ⟨sl,h,n⟩ k=G8 (B6m (St.ev ⟨sl,h,n⟩ x)) k h n:=rfl
@[go_sem] theorem C6y:B6m .nils=some (.int .i64 0):=rfl
@[go_sem ↓] theorem C9P{nm:Nat}{z:List V}{x y:Opd}{sl:List (Nat×V)}{h:A0}{n:Nat}{k:Res}:A7 P (.grw nm z x y) ⟨sl,h,n⟩ k=B5o nm z (St.ev ⟨sl,h,n⟩ x) (St.ev ⟨sl,h,n⟩ y) k h n:=rfl
@[congr] theorem C6T{nm:Nat}{z:List V}{x x' y y':V}{k:Res}{h:A0}{n:Nat}(e0:x=x')(e1:y=y'):B5o nm z x y k h n=B5o nm z x' y' k h n:=by rw [e0,e1]
@[go_sem] theorem C8Y{nm:Nat}{z:List V}{m:Int}{k:Res}{h:A0}{n:Nat}:B5o nm z .nils (.int .i64 m) k h n=(0<m∧m≤137438953472∧k (.sl nm n 0 m.toNat) (A0.put h nm n (.rows z.length (List.replicate m.toNat z))) (n+1)):=rfl
@[go_sem ↓] theorem C9U{nm:Nat}{x:Opd}{sl:List (Nat×V)}{h:A0}{n:Nat}{k:Res}:A7 P (.rgm nm x) ⟨sl,h,n⟩ k=B5L nm (St.ev ⟨sl,h,n⟩ x) k h n:=rfl
@[congr] theorem C7C{nm:Nat}{x x':V}{k:Res}{h:A0}{n:Nat}(e0:x=x'):B5L nm x k h n=B5L nm x' k h n:=by rw [e0]
@[go_sem] theorem D1J{nm b st:Nat}{k:Res}{h:A0}{n:Nat}:B5L nm (.mp b st) k h n=(nm≠b∧B8V nm b st (A0.get h b st) k h n):=rfl
@[congr] theorem C7B{nm b st:Nat}{B B':Option Blk}{k:Res}{h:A0}{n:Nat}(e0:B=B'):B8V nm b st B k h n=B8V nm b st B' k h n:=by rw [e0]
@[go_sem] theorem D0Y{nm b st:Nat}{es:List (V×V)}{k:Res}{h:A0}{n:Nat}:B8V nm b st (some (.map es)) k h n= ∀(bs:List Nat) (ck:Nat),bs.length=es.length→k (.ptr nm n 0 0) (A0.put (A0.put h b st (.mapb es bs ck)) nm n (.iter st es bs ck (bs.zip es) none)) (n+1):=rfl
@[go_sem ↓] theorem C9T{x:Opd}{sl:List (Nat×V)}{h:A0}{n:Nat}{k:Res}:A7 P (.nxm x) ⟨sl,h,n⟩ k=B5A (St.ev ⟨sl,h,n⟩ x) k h n:=rfl
@[congr] theorem C7s{x x':V}{k:Res}{h:A0}{n:Nat}(e0:x=x'):B5A x k h n=B5A x' k h n:=by rw [e0]
@[go_sem] theorem D0S{b st:Nat}{k:Res}{h:A0}{n:Nat}:B5A (.ptr b st 0 0) k h n=B8M b st (A0.get h b st) k h n:=rfl
@[congr] theorem C7r{b st:Nat}{B B':Option Blk}{k:Res}{h:A0}{n:Nat}(e0:B=B'):B8M b st B k h n=B8M b st B' k h n:=by rw [e0]
@[go_sem] theorem C9l{b st mst:Nat}{es:List (V×V)}{bs:List Nat}{ck:Nat}{left:List (Nat×V×V)}{last:Option (V×V)}{k:Res}{h:A0}{n:Nat}:B8M b st (some (.iter mst es bs ck left last)) k h n=B3o (A2A h mst) fun mb es' bs' ck'=>es'=es∧bs'=bs∧ck'=ck∧mb≠b∧(left= []→k (.tup [.bool false]) (A0.put h mb mst (.map es)) n)∧
   ∀x e y,left=x++e::y→k (.tup [.bool true,e.2.1,e.2.2]) (A0.put h b st (.iter mst es bs ck (x++y) (some e.2))) n:=rfl
@[congr] theorem C7t{M M':Option (Nat×Blk)}{f:Nat→List (V×V)→List Nat→Nat→Prop}(e0:M=M'):B3o M f=B3o M' f:=by rw [e0]
@[go_sem] theorem C9m{mb:Nat}{es:List (V×V)}{bs:List Nat}{ck:Nat}{f:Nat→List (V×V)→List Nat→Nat→Prop}:B3o (some (mb,.mapb es bs ck)) f=f mb es bs ck:=rfl
@[go_sem] theorem C4B{e:Nat×Nat×Blk}{r:A0}{st:Nat}:A2A (e::r) st=bif Nat.beq e.2.1 st then some (e.1,e.2.2)else A2A r st:=rfl
@[go_sem ↓] theorem C9J{x:Opd}{sl:List (Nat×V)}{h:A0}{n:Nat}{k:Res}:A7 P (.ent x) ⟨sl,h,n⟩ k=B5i (St.ev ⟨sl,h,n⟩ x) k h n:=rfl
@[congr] theorem C6M{x x':V}{k:Res}{h:A0}{n:Nat}(e0:x=x'):B5i x k h n=B5i x' k h n:=by rw [e0]
@[go_sem] theorem D0u{b st:Nat}{k:Res}{h:A0}{n:Nat}:B5i (.ptr b st 0 0) k h n=B8o (A0.get h b st) k h n:=rfl
@[congr] theorem C6L{B B':Option Blk}{k:Res}{h:A0}{n:Nat}(e0:B=B'):B8o B k h n=B8o B' k h n:=by rw [e0]
@[go_sem] theorem C8U{mst:Nat}{es:List (V×V)}{bs:List Nat}{ck:Nat}{left:List (Nat×V×V)}{p:V×V}{k:Res}{h:A0}{n:Nat}:B8o (some (.iter mst es bs ck left (some p))) k h n=B3o (A2A h mst) fun _ es' bs' ck'=>es'=es∧bs'=bs∧ck'=ck∧k (.tup [p.1,p.2]) h n:=rfl
@[go_sem ↓] theorem C9G{x:Opd}{sl:List (Nat×V)}{h:A0}{n:Nat}{k:Res}:A7 P (.bst x) ⟨sl,h,n⟩ k=G8 (C0n (A0i h (St.ev ⟨sl,h,n⟩ x))) k h n:=rfl
@[go_sem ↓] theorem C7Z{nm:Nat}{x:Opd}{sl:List (Nat×V)}{h:A0}{n:Nat}{k:Res}:A7 P (.byts nm x) ⟨sl,h,n⟩ k=A8y nm (St.ev ⟨sl,h,n⟩ x) k h n:=rfl
@[go_sem ↓] theorem C5Y{nm:Nat}{xs:List Opd}{sl:List (Nat×V)}{h:A0}{n:Nat}{k:Res}:A7 P (.mkraw nm xs) ⟨sl,h,n⟩ k=B8P nm (G7 1 ⟨sl,h,n⟩ xs) k h n:=rfl
@[congr] theorem C7z{nm:Nat}{o o':Option (List (List V))}{k:Res}{h:A0}{n:Nat}(e0:o=o'):B8P nm o k h n=B8P nm o' k h n:=by rw [e0]
@[go_sem] theorem C9q{nm:Nat}{rs:List (List V)}{k:Res}{h:A0}{n:Nat}:B8P nm (some rs) k h n=(0<rs.length∧k (.sl nm n 0 rs.length) (A0.put h nm n (.raw rs)) (n+1)):=rfl
@[go_sem ↓] theorem C9I{x:Opd}{sl:List (Nat×V)}{h:A0}{n:Nat}{k:Res}:A7 P (.cvr x) ⟨sl,h,n⟩ k=B5h (St.ev ⟨sl,h,n⟩ x) k h n:=rfl
@[congr] theorem C6H{x x':V}{k:Res}{h:A0}{n:Nat}(e0:x=x'):B5h x k h n=B5h x' k h n:=by rw [e0]
@[go_sem] theorem D1y{b st m:Nat}{k:Res}{h:A0}{n:Nat}:B5h (.sl b st 0 m) k h n=B8f (A0.get h b st) fun rs=>m=rs.length∧k (.sl b st 0 m) (A0.put h b st (.rows 1 rs)) n:=rfl
@[congr] theorem C6F{b b':Option Blk}{f:List (List V)→Prop}(e0:b=b'):B8f b f=B8f b' f:=by rw [e0]
@[go_sem] theorem D0r{rs:List (List V)}{f:List (List V)→Prop}:B8f (some (.raw rs)) f=f rs:=rfl
@[congr] theorem C5m{nm:Nat}{x x':V}{k:Res}{h:A0}{n:Nat}(e0:x=x'):A8y nm x k h n=A8y nm x' k h n:=by rw [e0]
@[go_sem] theorem C8Q{nm:Nat}{s:List UInt8}{k:Res}{h:A0}{n:Nat}:A8y nm (.str s) k h n=k (.sl nm n 0 s.length) (A0.put h nm n (.rows 1 (K0 s))) (n+1):=rfl
@[go_sem] theorem C4b{s:List UInt8}:C0n (some (K0 s))=some (.str s):=by
 have: ∀s:List UInt8,B4e (K0 s)=some s:=by
  intro s
  induction s with
  |nil=>rfl
  |cons b s ih=>
   have e:K0 (b::s)= [.int .u8 b.toNat]::K0 s:=rfl
   rw [e,B4e,ih]
   simp
 simp only [C0n,this]
@[go_sem ↓] theorem C9H{z:List V}{x:Opd}{sl:List (Nat×V)}{h:A0}{n:Nat}{k:Res}:A7 P (.clr z x) ⟨sl,h,n⟩ k=B2d z (St.ev ⟨sl,h,n⟩ x) k h n:=rfl
@[go_sem ↓] theorem C9X{nm sz:Nat}{x:Opd}{sl:List (Nat×V)}{h:A0}{n:Nat}{k:Res}:A7 P (.slz nm sz x) ⟨sl,h,n⟩ k=B2j nm sz (St.ev ⟨sl,h,n⟩ x) k h n:=rfl
@[congr] theorem C9x{l:Bool}{x x' y y':V}{k:Res}{h:A0}{n:Nat}(e0:x=x')(e1:y=y'):shK l x y k h n=shK l x' y' k h n:=by rw [e0,e1]
@[go_sem] theorem D1M{l:Bool}{j j':IntKind}{a b:Int}{k:Res}{h:A0}{n:Nat}:shK l (.int j a) (.int j' b) k h n=(0≤b∧k (.int j (shZ l j a b)) h n):=rfl
@[congr] theorem C5z{len sz m:Nat}{agg:Bool}{x x' y y':V}{k:Res}{h:A0}{n:Nat}(e0:x=x')(e1:y=y'):A7n len sz m agg x y k h n=A7n len sz m agg x' y' k h n:=by rw [e0,e1]
@[go_sem] theorem C9a{len sz m:Nat}{agg:Bool}{cs:List V}{j:IntKind}{z:Int}{k:Res}{h:A0}{n:Nat}:A7n len sz m agg (.agg cs) (.int j z) k h n=(0≤z∧z<len∧G8 (J9 cs (z.toNat*sz) m agg) k h n):=rfl
@[congr] theorem C6C{z:List V}{x x':V}{k:Res}{h:A0}{n:Nat}(e0:x=x'):B2d z x k h n=B2d z x' k h n:=by rw [e0]
@[go_sem] theorem C8S{z:List V}{k:Res}{h:A0}{n:Nat}:B2d z .nils k h n=k (.tup []) h n:=rfl
@[congr] theorem C7R{nm sz:Nat}{x x':V}{k:Res}{h:A0}{n:Nat}(e0:x=x'):B2j nm sz x k h n=B2j nm sz x' k h n:=by rw [e0]
@[go_sem] theorem C9z{nm sz:Nat}{k:Res}{h:A0}{n:Nat}:B2j nm sz .nils k h n=k (.sl nm n 0 0) (A0.put h nm n (.rows sz [])) (n+1):=rfl
@[go_sem] theorem D1e{nm sz:Nat}{es:List (List V)}{k:Res}{h:A0}{n:Nat}:B2j nm sz (.isl es) k h n=k (.sl nm n 0 0) (A0.put h nm n (.rows sz [])) (n+1):=rfl
@[go_sem] theorem D1O{nm sz b st i m:Nat}{k:Res}{h:A0}{n:Nat}:B2j nm sz (.sl b st i m) k h n=k (.sl nm n 0 0) (A0.put h nm n (.rows sz [])) (n+1):=rfl
@[go_sem ↓] theorem C8a{f:FuncId}{xs:List Opd}{sl:List (Nat×V)}{h:A0}{n:Nat}{k:Res}:A7 P (.call f xs) ⟨sl,h,n⟩ k=A2 P f (xs.map (St.ev ⟨sl,h,n⟩)) h n k:=rfl
@[go_sem ↓] theorem C5S{x:Opd}{xs:List Opd}{sl:List (Nat×V)}{h:A0}{n:Nat}{k:Res}:A7 P (.callv x xs) ⟨sl,h,n⟩ k=A7f P (St.ev ⟨sl,h,n⟩ x) (xs.map (St.ev ⟨sl,h,n⟩)) h n k:=rfl
@[go_sem ↓] theorem C9D{sl:List (Nat×V)}{h:A0}{n:Nat}{k:Res}:A7 P (.bad) ⟨sl,h,n⟩ k=False:=rfl
@[congr] theorem C7w{o o':Option V}{k:Res}{h:A0}{n:Nat}(e0:o=o'):G8 o k h n=G8 o' k h n:=by rw [e0]
@[go_sem] theorem D1H{v:V}{k:Res}{h:A0}{n:Nat}:G8 (some v) k h n=k v h n:=rfl
@[go_sem] theorem C9p  {k:Res}{h:A0}{n:Nat}:G8 none k h n=False:=rfl
@[congr] theorem C6v{nm sz:Nat}{o o':Option (List V)}{k:Res}{h:A0}{n:Nat}(e0:o=o'):B3Q nm sz o k h n=B3Q nm sz o' k h n:=by rw [e0]
@[go_sem] theorem C8P{nm sz:Nat}{cs:List V}{k:Res}{h:A0}{n:Nat}:B3Q nm sz (some cs) k h n=(cs.length=sz∧k (.ptr nm n 0 0) (A0.put h nm n (.rows sz [cs])) (n+1)):=rfl
@[congr] theorem C7H{nm sz:Nat}{o o':Option (List (List V))}{k:Res}{h:A0}{n:Nat}(e0:o=o'):B7y nm sz o k h n=B7y nm sz o' k h n:=by rw [e0]
@[go_sem] theorem C9u{nm sz:Nat}{rs:List (List V)}{k:Res}{h:A0}{n:Nat}:B7y nm sz (some rs) k h n=k (.sl nm n 0 rs.length) (A0.put h nm n (.rows sz rs)) (n+1):=rfl
@[congr] theorem C7b{o o':Option (List (List V))}{k:Res}{h:A0}{n:Nat}(e0:o=o'):B6Q o k h n=B6Q o' k h n:=by rw [e0]
@[go_sem] theorem C9b{rs:List (List V)}{k:Res}{h:A0}{n:Nat}:B6Q (some rs) k h n=k (.isl rs) h n:=rfl
@[congr] theorem C5w{o o':Option A0}{k:Res}{n:Nat}(e:o=o'):A8A o k n=A8A o' k n:=by rw [e]
@[go_sem] theorem C6U{h:A0}{k:Res}{n:Nat}:A8A (some h) k n=k .undef h n:=rfl
@[congr] theorem C4m{sz:Nat}{x x' i i':V}{k:Res}{h:A0}{n:Nat}(e0:x=x')(e1:i=i'):A1H sz x i k h n=A1H sz x' i' k h n:=by rw [e0,e1]
@[go_sem] theorem C8Z{sz b st i0 m:Nat}{j:IntKind}{z:Int}{k:Res}{h:A0}{n:Nat}:A1H sz (.sl b st i0 m) (.int j z) k h n=(0≤z∧z<m∧A9O (A0.get h b st)=some sz∧k (.ptr b st (i0+z.toNat) 0) h n):=rfl
@[go_sem] theorem C6W{sz:Nat}{es:List (List V)}{j:IntKind}{z:Int}{k:Res}{h:A0}{n:Nat}:A1H sz (.isl es) (.int j z) k h n=(0≤z∧z<es.length∧C4 es sz∧k (.iptr es z.toNat 0) h n):=rfl
@[go_sem] theorem C5y{sz:Nat}{i:V}{k:Res}{h:A0}{n:Nat}:A1H sz .nils i k h n=False:=by cases i<;>rfl
@[congr] theorem C3P{len sz:Nat}{x x' i i':V}{k:Res}{h:A0}{n:Nat}(e0:x=x')(e1:i=i'):A1M len sz x i k h n=A1M len sz x' i' k h n:=by rw [e0,e1]
@[go_sem] theorem C5x{len sz b st i0 q:Nat}{j:IntKind}{z:Int}{k:Res}{h:A0}{n:Nat}:A1M len sz (.ptr b st i0 q) (.int j z) k h n=(0≤z∧z<len∧k (.ptr b st i0 (q+z.toNat*sz)) h n):=rfl
@[go_sem] theorem C4l{len sz i0 q:Nat}{es:List (List V)}{j:IntKind}{z:Int}{k:Res}{h:A0}{n:Nat}:A1M len sz (.iptr es i0 q) (.int j z) k h n=(0≤z∧z<len∧k (.iptr es i0 (q+z.toNat*sz)) h n):=rfl
@[congr] theorem C6Y{x x' i i':V}{k:Res}{h:A0}{n:Nat}(e0:x=x')(e1:i=i'):B5r x i k h n=B5r x' i' k h n:=by rw [e0,e1]
@[go_sem] theorem D0I{s:List UInt8}{j:IntKind}{z:Int}{k:Res}{h:A0}{n:Nat}:B5r (.str s) (.int j z) k h n=(0≤z∧G8 ((s[z.toNat]?).map fun b=> .int .u8 b.toNat) k h n):=rfl
@[go_sem] theorem C8x{j:IntKind}{z:Int}{k:Res}{h:A0}{n:Nat}:R9 j z k h n=(inR j z∧k (B4W j z) h n):=rfl
@[congr] theorem C6r{op:BinOp}{x x' y y':V}{k:Res}{h:A0}{n:Nat}(e0:x=x')(e1:y=y'):S3 op x y k h n=S3 op x' y' k h n:=by rw [e0,e1]
@[go_sem] theorem D0c{j j':IntKind}{a b:Int}{k:Res}{h:A0}{n:Nat}:S3 .add (.int j a) (.int j' b) k h n=(j=j'∧R9 j (a+b) k h n):=rfl
@[go_sem] theorem D0n{j j':IntKind}{a b:Int}{k:Res}{h:A0}{n:Nat}:S3 .sub (.int j a) (.int j' b) k h n=(j=j'∧R9 j (a-b) k h n):=rfl
@[go_sem] theorem D0j{j j':IntKind}{a b:Int}{k:Res}{h:A0}{n:Nat}:S3 .mul (.int j a) (.int j' b) k h n=(j=j'∧R9 j (a*b) k h n):=rfl
@[go_sem] theorem D0l{j j':IntKind}{a b:Int}{k:Res}{h:A0}{n:Nat}:S3 .quo (.int j a) (.int j' b) k h n=(j=j'∧b≠0∧R9 j (a.tdiv b) k h n):=rfl
@[go_sem] theorem D0m{j j':IntKind}{a b:Int}{k:Res}{h:A0}{n:Nat}:S3 .rem (.int j a) (.int j' b) k h n=(j=j'∧b≠0∧k (.int j (a.tmod b)) h n):=rfl
@[go_sem] theorem D0e{j j':IntKind}{a b:Int}{k:Res}{h:A0}{n:Nat}:S3 .eql (.int j a) (.int j' b) k h n=(j=j'∧k (.bool (decide (a=b))) h n):=rfl
@[go_sem] theorem D0k{j j':IntKind}{a b:Int}{k:Res}{h:A0}{n:Nat}:S3 .neq (.int j a) (.int j' b) k h n=(j=j'∧k (.bool (decide (¬a=b))) h n):=rfl
@[go_sem] theorem D0i{j j':IntKind}{a b:Int}{k:Res}{h:A0}{n:Nat}:S3 .lss (.int j a) (.int j' b) k h n=(j=j'∧k (.bool (decide (a<b))) h n):=rfl
@[go_sem] theorem D0h{j j':IntKind}{a b:Int}{k:Res}{h:A0}{n:Nat}:S3 .leq (.int j a) (.int j' b) k h n=(j=j'∧k (.bool (decide (a≤b))) h n):=rfl
@[go_sem] theorem D0g{j j':IntKind}{a b:Int}{k:Res}{h:A0}{n:Nat}:S3 .gtr (.int j a) (.int j' b) k h n=(j=j'∧k (.bool (decide (b<a))) h n):=rfl
@[go_sem] theorem D0f{j j':IntKind}{a b:Int}{k:Res}{h:A0}{n:Nat}:S3 .geq (.int j a) (.int j' b) k h n=(j=j'∧k (.bool (decide (b≤a))) h n):=rfl
@[go_sem] theorem D0d{j j':IntKind}{a b:Int}{k:Res}{h:A0}{n:Nat}:S3 .and (.int j a) (.int j' b) k h n=(j=j'∧k (.int j (A2d .and j a b)) h n):=rfl
@[go_sem] theorem D1s{j j':IntKind}{a b:Int}{k:Res}{h:A0}{n:Nat}:S3 .or (.int j a) (.int j' b) k h n=(j=j'∧k (.int j (A2d .or j a b)) h n):=rfl
@[go_sem] theorem D0o{j j':IntKind}{a b:Int}{k:Res}{h:A0}{n:Nat}:S3 .xor (.int j a) (.int j' b) k h n=(j=j'∧k (.int j (A2d .xor j a b)) h n):=rfl
@[go_sem] theorem C5l{j j':IntKind}{a b:Int}{k:Res}{h:A0}{n:Nat}:S3 .andNot (.int j a) (.int j' b) k h n=(j=j'∧k (.int j (A2d .andNot j a b)) h n):=rfl
@[go_sem] theorem C8H{a b:List UInt8}{k:Res}{h:A0}{n:Nat}:S3 .leq (.str a) (.str b) k h n=k (.bool (L9 a b||decide (a=b))) h n:=rfl
@[go_sem] theorem C8G{a b:List UInt8}{k:Res}{h:A0}{n:Nat}:S3 .gtr (.str a) (.str b) k h n=k (.bool !(L9 a b||decide (a=b))) h n:=rfl
@[go_sem] theorem C8D{a b:List UInt8}{k:Res}{h:A0}{n:Nat}:S3 .add (.str a) (.str b) k h n=(a.length+b.length≤1099511627776∧k (.str (a++b)) h n):=rfl
@[go_sem] theorem C8E{a b:List UInt8}{k:Res}{h:A0}{n:Nat}:S3 .eql (.str a) (.str b) k h n=k (.bool (decide (a=b))) h n:=rfl
@[go_sem] theorem C8J{a b:List UInt8}{k:Res}{h:A0}{n:Nat}:S3 .neq (.str a) (.str b) k h n=k (.bool (decide (¬a=b))) h n:=rfl
@[go_sem] theorem C8I{a b:List UInt8}{k:Res}{h:A0}{n:Nat}:S3 .lss (.str a) (.str b) k h n=k (.bool (L9 a b)) h n:=rfl
@[go_sem] theorem C8F{a b:List UInt8}{k:Res}{h:A0}{n:Nat}:S3 .geq (.str a) (.str b) k h n=k (.bool (!L9 a b)) h n:=rfl
@[congr] theorem C9Y{op:UnOp}{x x':V}{k:Res}{h:A0}{n:Nat}(e0:x=x'):unK op x k h n=unK op x' k h n:=by rw [e0]
@[go_sem] theorem D1S{j:IntKind}{a:Int}{k:Res}{h:A0}{n:Nat}:unK .neg (.int j a) k h n=R9 j (0-a) k h n:=rfl
@[go_sem] theorem D1U{j:IntKind}{a:Int}{k:Res}{h:A0}{n:Nat}:unK .xor (.int j a) k h n=k (.int j (A2d .xor j (bif j.signed then -1 else j.max) a)) h n:=rfl
@[go_sem] theorem D1T{b:Bool}{k:Res}{h:A0}{n:Nat}:unK .not (.bool b) k h n=k (.bool !b) h n:=rfl
def B1o(o:Option Blk)(f:Nat→List (List V)→Prop):Prop:=
 match o with
 |some (.rows sz rs)=>f sz rs
 |_=>False
def B3g(o:Option Blk)(f:List (V×V)→Prop):Prop:=
 match o with
 |some (.map es)=>f es
 |_=>False
def B8b(a b:Option Int)(f:Int→Int→Prop):Prop:=
 match a,b with
 |some a,some b=>f a b
 |_,_=>False
@[congr] theorem C4K{o o':Option Blk}{f:Nat→List (List V)→Prop}(e:o=o'):B1o o f=B1o o' f:=by rw [e]
@[congr] theorem C5E{o o':Option Blk}{f:List (V×V)→Prop}(e:o=o'):B3g o f=B3g o' f:=by rw [e]
@[congr] theorem C6t{a a' b b':Option Int}{f:Int→Int→Prop}(e:a=a')(e':b=b'):B8b a b f=B8b a' b' f:=by rw [e,e']
@[go_sem] theorem C5O{sz:Nat}{rs:List (List V)}{f:Nat→List (List V)→Prop}:B1o (some (.rows sz rs)) f=f sz rs:=rfl
@[go_sem] theorem C9h{es:List (V×V)}{f:List (V×V)→Prop}:B3g (some (.map es)) f=f es:=rfl
@[go_sem] theorem C8O{a b:Int}{f:Int→Int→Prop}:B8b (some a) (some b) f=f a b:=rfl
@[congr] theorem C6j{L nm sz:Nat}{b b':V}{o o':Option (List (List V))}{k:Res}{h:A0}{n:Nat}(e0:b=b')(e1:o=o'):A7d L nm sz b o k h n=A7d L nm sz b' o' k h n:=by rw [e0,e1]
@[go_sem] theorem C8w{L nm sz:Nat}{xs:List (List V)}{k:Res}{h:A0}{n:Nat}:A7d L nm sz .nils (some xs) k h n=(C4 xs sz∧xs.length≤L∧k (.sl nm n 0 xs.length) (A0.put h nm n (.rows sz xs)) (n+1)):=rfl
@[go_sem] theorem D1q{L nm sz b st i m:Nat}{xs:List (List V)}{k:Res}{h:A0}{n:Nat}:A7d L nm sz (.sl b st i m) (some xs) k h n=(C4 xs sz∧B1o (A0.get h b st) fun sz' rs=>sz'=sz∧i+m≤rs.length∧m+xs.length≤L∧k (.sl b n 0 (m+xs.length)) (A0.put h b n (.rows sz ((rs.drop i).take m++xs))) (n+1)):=rfl
@[congr] theorem C5p{sz:Nat}{b b':V}{o o':Option (List (List V))}{k:Res}{h:A0}{n:Nat}(e0:b=b')(e1:o=o'):A6e sz b o k h n=A6e sz b' o' k h n:=by rw [e0,e1]
@[go_sem] theorem C6E{sz:Nat}{xs:List (List V)}{k:Res}{h:A0}{n:Nat}:A6e sz .nils (some xs) k h n=(C4 xs sz∧k (.int .i64 0) h n):=rfl
@[go_sem] theorem D0q{sz b st i m:Nat}{xs:List (List V)}{k:Res}{h:A0}{n:Nat}:A6e sz (.sl b st i m) (some xs) k h n=(C4 xs sz∧B1o (A0.get h b st) fun sz' rs=>sz'=sz∧i+m≤rs.length∧k (.int .i64 (min xs.length m:Nat)) (A0.put h b st (.rows sz (rs.take i++xs.take (min xs.length m)++rs.drop (i+min xs.length m)))) n):=rfl
@[congr] theorem C5G{nm:Nat}{z:List V}{x x':V}{k:Res}{h:A0}{n:Nat}(e0:x=x'):B1K nm z x k h n=B1K nm z x' k h n:=by rw [e0]
@[go_sem] theorem C9j{nm:Nat}{z:List V}{m:Int}{k:Res}{h:A0}{n:Nat}:B1K nm z (.int .i64 m) k h n=(0≤m∧m≤137438953472∧k (.sl nm n 0 m.toNat) (A0.put h nm n (.rows z.length (List.replicate m.toNat z))) (n+1)):=rfl
@[go_sem] theorem D1t{z:List V}{b st i m:Nat}{k:Res}{h:A0}{n:Nat}:B2d z (.sl b st i m) k h n=B1o (A0.get h b st) fun sz rs=>sz=z.length∧i+m≤rs.length∧k (.tup []) (A0.put h b st (.rows sz (rs.take i++List.replicate m z++rs.drop (i+m)))) n:=rfl
@[congr] theorem C7M{sz:Nat}{x x':V}{lo lo' hi hi':Option V}{k:Res}{h:A0}{n:Nat}(e0:x=x')(e1:lo=lo')(e2:hi=hi'):B0F sz x lo hi k h n=B0F sz x' lo' hi' k h n:=by rw [e0,e1,e2]
@[go_sem] theorem D1N{sz b st i m:Nat}{lo hi:Option V}{k:Res}{h:A0}{n:Nat}:B0F sz (.sl b st i m) lo hi k h n=B8b (G4 0 lo) (G4 m hi) fun l u=>A9O (A0.get h b st)=some sz∧0≤l∧l≤u∧u≤m∧k (.sl b st (i+l.toNat) (u-l).toNat) h n:=rfl
@[go_sem] theorem D1c{sz:Nat}{es:List (List V)}{lo hi:Option V}{k:Res}{h:A0}{n:Nat}:B0F sz (.isl es) lo hi k h n=B8b (G4 0 lo) (G4 es.length hi) fun l u=>C4 es sz∧0≤l∧l≤u∧u≤es.length∧k (.isl ((es.drop l.toNat).take (u-l).toNat)) h n:=rfl
@[go_sem] theorem C9y{sz:Nat}{lo hi:Option V}{k:Res}{h:A0}{n:Nat}:B0F sz .nils lo hi k h n=B8b (G4 0 lo) (G4 0 hi) fun l u=>l=0∧u=0∧k .nils h n:=rfl
@[congr] theorem C7P{x x':V}{lo lo' hi hi':Option V}{k:Res}{h:A0}{n:Nat}(e0:x=x')(e1:lo=lo')(e2:hi=hi'):B2i x lo hi k h n=B2i x' lo' hi' k h n:=by rw [e0,e1,e2]
@[go_sem] theorem D1d{s:List UInt8}{lo hi:Option V}{k:Res}{h:A0}{n:Nat}:B2i (.str s) lo hi k h n=B8b (G4 0 lo) (G4 s.length hi) fun l u=>0≤l∧l≤u∧u≤s.length∧k (.str ((s.drop l.toNat).take (u-l).toNat)) h n:=rfl
@[congr] theorem C5D{kd:Nat}{z:V}{ok:Bool}{m m' x x':V}{k:Res}{h:A0}{n:Nat}(e0:m=m')(e1:x=x'):A6g kd z ok m x k h n=A6g kd z ok m' x' k h n:=by rw [e0,e1]
@[go_sem] theorem C7l{kd:Nat}{z:V}{ok:Bool}{x:V}{k:Res}{h:A0}{n:Nat}:A6g kd z ok .nilm x k h n=(A2i kd x=true∧k (B0c z ok none) h n):=rfl
def B8O(o:Option V)(f:V→Prop)(g:Prop):Prop:=
 match o with
 |some v=>f v
 |none=>g
@[congr] theorem C7v{o o':Option V}{f:V→Prop}{g:Prop}(e:o=o'):B8O o f g=B8O o' f g:=by rw [e]
@[go_sem] theorem C9o{v:V}{f:V→Prop}{g:Prop}:B8O (some v) f g=f v:=rfl
@[go_sem] theorem C9n{f:V→Prop}{g:Prop}:B8O none f g=g:=rfl
@[go_sem] theorem D0U{α:Type}{o:Option α}{F:α→V}{f:V→Prop}{g:Prop}:B8O (o.map F) f g=((∀x,o=some x→f (F x))∧(o=none→g)):=by
 cases o<;>simp [B8O]
@[go_sem] theorem D0M{kd b st:Nat}{z:V}{ok:Bool}{x:V}{k:Res}{h:A0}{n:Nat}:A6g kd z ok (.mp b st) x k h n=B3g (A0.get h b st) fun es=>A2i kd x=true∧A2r x es∧B8O (S7 x es) (fun v=>k (B0c z ok (some v)) h n) (k (B0c z ok none) h n):=by
 simp only [A6g,B3g]
 cases A0.get h b st with
 |none=>rfl
 | some x=>
  cases x with
  |rows sz rs=>rfl
  |map es=>
   simp only
   refine propext (and_congr_right fun _=>and_congr_right fun _=> ?_)
   cases S7 _ es<;>exact Iff.rfl
  |loop=>rfl
  |mapb=>rfl
  |iter=>rfl
  |raw=>rfl
@[congr] theorem C5H{kd:Nat}{m m' x x' v v':V}{k:Res}{h:A0}{n:Nat}(e0:m=m')(e1:x=x')(e2:v=v'):B0f kd m x v k h n=B0f kd m' x' v' k h n:=by rw [e0,e1,e2]
@[go_sem] theorem D0Q{kd b st:Nat}{x v:V}{k:Res}{h:A0}{n:Nat}:B0f kd (.mp b st) x v k h n=B3g (A0.get h b st) fun es=>A2i kd x=true∧A2r x es∧k .undef (A0.put h b st (.map (A5P x v es))) n:=rfl
@[congr] theorem C5F{kd:Nat}{m m' x x':V}{k:Res}{h:A0}{n:Nat}(e0:m=m')(e1:x=x'):A8C kd m x k h n=A8C kd m' x' k h n:=by rw [e0,e1]
@[go_sem] theorem C7q{kd:Nat}{x:V}{k:Res}{h:A0}{n:Nat}:A8C kd .nilm x k h n=(A2i kd x=true∧k (.tup []) h n):=rfl
@[go_sem] theorem D0N{kd b st:Nat}{x:V}{k:Res}{h:A0}{n:Nat}:A8C kd (.mp b st) x k h n=B3g (A0.get h b st) fun es=>A2i kd x=true∧A2r x es∧k (.tup []) (A0.put h b st (.map (B8J x es))) n:=rfl
@[go_sem] theorem C8R{g:FuncId}{cs as:List V}{k:Res}{h:A0}{n:Nat}:A7f P (.fn g cs) as h n k=(J8 P g=true∧A2 P g (as++cs) h n k):=rfl
@[congr] theorem C4c{x x':V}{as as':List V}{k:Res}{h:A0}{n:Nat}(e:x=x')(e':as=as'):A7f P x as h n k=A7f P x' as' h n k:=by rw [e,e']
@[congr] theorem C5g{f:FuncId}{as as':List V}{k:Res}{h h':A0}{n n':Nat}(e:as=as')(e':h=h')(e'':n=n'):A2 P f as h n k=A2 P f as' h' n' k:=by rw [e,e',e'']
def C4J(Q:Res)(o:Option (List V))(h:A0)(n:Nat):Prop:=
 match o with
 |some vs=>Q (B0i vs) h n
 |none=>False
@[congr] theorem C7A{Q:Res}{o o':Option (List V)}{h:A0}{n:Nat}(e:o=o'):C4J Q o h n=C4J Q o' h n:=by rw [e]
@[go_sem] theorem C9r{Q:Res}{vs:List V}{h:A0}{n:Nat}:C4J Q (some vs) h n=Q (B0i vs) h n:=rfl
@[go_sem ↓] theorem D1I{N:Nat}{rs:List RV}{Q:Res}{sl:List (Nat×V)}{h:A0}{n:Nat}:C1h ⟨P,N,rs,Q,none⟩ ⟨sl,h,n⟩=C4J Q (A6F ⟨sl,h,n⟩ rs) h n:=rfl
@[congr] theorem C5r{b b':Bool}{A:Prop}(e:b=b'):B6G b A=B6G b' A:=by rw [e]
@[go_sem] theorem C5s{A:Prop}:B6G false A=A:=rfl
@[go_sem] theorem D0w{i j:Nat}{A:Prop}:B6G (Nat.beq i j) A=if i=j then False else A:=by
 cases h:Nat.beq i j with
 |true=>rw [if_pos (Nat.eq_of_beq_eq_true h)];rfl
 |false=>rw [if_neg fun e=>by rw [e,Nat.beq_refl]at h;cases h];rfl
@[congr] theorem C5q{o o':Option (List AItem)}{f:List AItem→Prop}{g:Prop}(e:o=o'):B2K o f g=B2K o' f g:=by rw [e]
@[go_sem] theorem C6K{l:List AItem}{f:List AItem→Prop}{g:Prop}:B2K (some l) f g=f l:=rfl
@[go_sem] theorem C6J{f:List AItem→Prop}{g:Prop}:B2K none f g=g:=rfl
@[go_sem ↓] theorem C7f{N:Nat}{rs:List RV}{Q:Res}{s:St}:A2Y ⟨P,N,rs,Q,none⟩ none s=C1h ⟨P,N,rs,Q,none⟩ s:=rfl
@[go_sem ↓] theorem C7g{N:Nat}{rs:List RV}{Q:Res}{s:St}:A2Y ⟨P,N,rs,Q,none⟩ (some .ret) s=C1h ⟨P,N,rs,Q,none⟩ s:=rfl
@[go_sem ↓] theorem C5B{N id:Nat}{rs:List RV}{Q:Res}{s:St}:A2Y ⟨P,N,rs,Q,none⟩ (some (.exit id)) s=False:=rfl
def C3e(o:Option Blk)(b st:Nat)(j:Option Code)(Q:Res)(h:A0)(n:Nat):Prop:=
 match o with
 |some (.loop N sl ps p _ _)=>Q (.bool j.isNone) (A0.put h b st (.loop N sl ps p (if j.isNone then .ready else .done) j)) n
 |_=>False
@[congr] theorem C7D{o o':Option Blk}{b st:Nat}{j:Option Code}{Q:Res}{h:A0}{n:Nat}(e:o=o'):C3e o b st j Q h n=C3e o' b st j Q h n:=by rw [e]
@[go_sem ↓] theorem C9d{N b st:Nat}{rs:List RV}{Q:Res}{j:Option Code}{sl:List (Nat×V)}{h:A0}{n:Nat}:A2Y ⟨P,N,rs,Q,some (b,st)⟩ j ⟨sl,h,n⟩=C3e (A0.get h b st) b st j Q h n:=rfl
@[go_sem] theorem D0Z{b st N:Nat}{sl:List (Nat×V)}{ps:List Nat}{p:Code→Code→Prop}{s:LoopState}{pd:Option Code}{Q:Res}{h:A0}{n:Nat}:C3e (some (.loop N sl ps p s pd)) b st none Q h n=Q (.bool true) (A0.put h b st (.loop N sl ps p .ready none)) n:=rfl
@[go_sem] theorem C9s{b st N:Nat}{sl:List (Nat×V)}{ps:List Nat}{p:Code→Code→Prop}{s:LoopState}{pd:Option Code}{c:Code}{Q:Res}{h:A0}{n:Nat}:C3e (some (.loop N sl ps p s pd)) b st (some c) Q h n=Q (.bool false) (A0.put h b st (.loop N sl ps p .done (some c))) n:=rfl
def C3Z(o:Option Blk)(b st:Nat)(K:St→Prop)(sl:List (Nat×V))(h:A0)(n:Nat):Prop:=
 match o with
 |some (.loop N sl' ps p .ready pend)=>K ⟨sl,A0.put h b st (.loop N sl' ps p .busy pend),n⟩
 |_=>False
@[congr] theorem C6o{o o':Option Blk}{b st:Nat}{K:St→Prop}{sl:List (Nat×V)}{h:A0}{n:Nat}(e:o=o'):C3Z o b st K sl h n=C3Z o' b st K sl h n:=by rw [e]
@[go_sem ↓] theorem D1r{N b st:Nat}{rs:List RV}{Q:Res}{K:St→Prop}{sl:List (Nat×V)}{h:A0}{n:Nat}:C6n ⟨P,N,rs,Q,some (b,st)⟩ ⟨sl,h,n⟩ K=C3Z (A0.get h b st) b st K sl h n:=rfl
@[go_sem] theorem C6p{b st N:Nat}{sl sl':List (Nat×V)}{ps:List Nat}{p:Code→Code→Prop}{pd:Option Code}{K:St→Prop}{h:A0}{n:Nat}:C3Z (some (.loop N sl' ps p .ready pd)) b st K sl h n=K ⟨sl,A0.put h b st (.loop N sl' ps p .busy pd),n⟩:=rfl
@[go_sem] theorem C8T{A:Prop}:D0t none A=A:=rfl
@[congr] theorem C7E{c:Cf}{nm:Nat}{v v':V}{ps:List Nat}{x y:AC}{s:St}{K:Option Code→St→Prop}(e:v=v'):C1l c nm v ps x y s K=C1l c nm v' ps x y s K:=by rw [e]
@[go_sem] theorem D1K{N nm:Nat}{rs:List RV}{Q:Res}{f:FuncId}{cs:List V}{ps:List Nat}{x y:AC}{sl:List (Nat×V)}{h:A0}{n:Nat}{K:Option Code→St→Prop}:
  C1l ⟨P,N,rs,Q,none⟩ nm (.fn f cs) ps x y ⟨sl,h,n⟩ K=(J8 P f=true∧A2 P f (.yld nm n::cs) (A0.put h nm n (.loop N sl ps (A0l P N x y) .ready none)) (n+1) (B8Y nm n sl K)):=by
 simp [C1l]
def C3g(o:Option Blk)(K:Option Code→Prop):Prop:=
 match o with
 |some (.loop _ _ _ _ s pend)=>s≠ .busy∧K pend
 |_=>False
@[congr] theorem C7F{o o':Option Blk}{K:Option Code→Prop}(e:o=o'):C3g o K=C3g o' K:=by rw [e]
@[go_sem] theorem D1L{nm st:Nat}{sl:List (Nat×V)}{K:Option Code→St→Prop}{r:V}{h:A0}{n:Nat}:B8Y nm st sl K r h n=C3g (A0.get h nm st) fun pend=>K pend ⟨sl,A0.del h nm,n⟩:=by
 unfold B8Y C3g
 cases A0.get h nm st with
 |none=>rfl
 |some x=>cases x<;>rfl
@[go_sem] theorem C9t{N:Nat}{sl:List (Nat×V)}{ps:List Nat}{p:Code→Code→Prop}{s:LoopState}{pd:Option Code}{K:Option Code→Prop}:C3g (some (.loop N sl ps p s pd)) K=(s≠ .busy∧K pd):=rfl
@[go_sem] theorem C7d{K:List AItem→St→Prop}{k:List AItem}{s:St}:B6S K k none s=K k s:=rfl
@[go_sem] theorem C9c{K:List AItem→St→Prop}{k:List AItem}{s:St}:B6S K k (some .ret) s=K (.code .ret::k) s:=rfl
@[go_sem] theorem C7c{K:List AItem→St→Prop}{k:List AItem}{id:Nat}{s:St}:B6S K k (some (.exit id)) s=K (.code (.exit id)::k) s:=rfl
@[go_sem] theorem C5N{sl:List (Nat×V)}{p:Nat}{ps:List Nat}{a:V}{as:List V}:A5R sl (p::ps) (a::as)=A5R (E8 sl p a) ps as:=rfl
@[go_sem] theorem C7x{sl:List (Nat×V)}{as:List V}:A5R sl [] as=sl:=by cases as<;>rfl
@[go_sem] theorem C6x{b st:Nat}{as:List V}{k:Res}{h:A0}{n:Nat}:A7f P (.yld b st) as h n k=P7 P b st as h n k:=rfl
@[congr] theorem C6i{b st:Nat}{as as':List V}{k:Res}{h h':A0}{n n':Nat}(e:as=as')(e':h=h')(e'':n=n'):P7 P b st as h n k=P7 P b st as' h' n' k:=by rw [e,e',e'']
@[congr] theorem D1o{l l':List AI}{K:St→Prop}{s s':St}(e':l=l')(e:s=s'):vo P l K s=vo P l' K s':=by rw [e,e']
@[congr] theorem D0G{k k':List AItem}{s s':St}(e':k=k')(e:s=s'):go c m k s=go c m k' s':=by rw [e,e']
@[congr] theorem C8v{s s':St}(e:s=s'):Run c k s=Run c k s':=by rw [e]
@[go_sem] theorem C9v{sz:Nat}:C4 [] sz=True:=by simp [C4]
@[go_sem] theorem C7J{sz:Nat}{r:List V}{rs:List (List V)}:C4 (r::rs) sz=(r.length=sz∧C4 rs sz):=by simp [C4]
@[go_sem] theorem D1a{i:Nat}:C3 [] i= .undef:=rfl
theorem B0R{α:Type}{i j:Nat}{a b:α}:(bif Nat.beq i j then a else b)=if i=j then a else b:=by
 by_cases h:i=j
 ·subst h;simp
 ·rw [if_neg h]
  have:Nat.beq i j=false:=by
   cases hb:Nat.beq i j with
   |false=>rfl
   |true=>exact(h (Nat.eq_of_beq_eq_true hb)).elim
  rw [this];rfl
@[go_sem] theorem C9w{p:Nat×V}{r:List (Nat×V)}{i:Nat}:C3 (p::r) i=if p.1=i then p.2 else C3 r i:=B0R
@[go_sem] theorem D1f{i:Nat}{v:V}:E8 [] i v= [(i,v)]:=rfl
@[go_sem] theorem C9A{p:Nat×V}{r:List (Nat×V)}{i:Nat}{v:V}:E8 (p::r) i v=if p.1<i then(i,v)::p::r else if p.1=i then(i,v)::r else p::E8 r i v:=by
 simp only [E8]
 rw [B0R]
 by_cases h:p.1<i
 ·rw [if_pos h,if_neg (by omega),show Nat.blt p.1 i=true from Nat.ble_eq_true_of_le h];rfl
 ·rw [if_neg h]
  have:Nat.blt p.1 i=false:=by
   cases hb:Nat.blt p.1 i with
   |false=>rfl
   |true=>exact(h (Nat.le_of_ble_eq_true hb)).elim
  rw [this];rfl
attribute [go_sem] St.ev.eq_1 St.ev.eq_2 St.ev.eq_3 St.ev.eq_4 know A6F B0i W4 B0c B1G B8r B3k B7l A1E B2M C2v C2u B6z B2W B8I B3a A3P A0i A2i S7 A5P B8J A2r G4 A9O J8
attribute [go_sem] inR B4W C2t eqE eqE.eqFs B5j C3R mmV mm2 A2p G7 J2 A2s K0
attribute [go_sem] Option.map_some Option.map_none Option.bind_some Option.bind_none Option.getD_some Option.getD_none Option.isSome_some
attribute [go_sem] List.getElem?_cons_zero List.getElem?_cons_succ List.getElem?_nil List.length_cons List.length_nil List.drop_zero List.drop_succ_cons List.drop_nil List.take_zero List.take_succ_cons List.take_nil List.map_cons List.map_nil List.cons_append List.nil_append List.append_nil List.set_cons_zero List.set_cons_succ
attribute [go_sem] if_true if_false cond_true cond_false Bool.not_true Bool.not_false true_and and_true false_and and_false true_implies forall_const Bool.true_and Bool.and_true Bool.false_and Bool.and_false ite_true ite_false reduceIte
attribute [go_sem] Bool.not_eq_true Bool.not_eq_false decide_eq_true_eq decide_eq_false_iff_not Classical.not_not Bool.not_not decide_true decide_false Nat.zero_add Nat.add_zero ne_eq reduceCtorEq
@[go_sem] theorem D1x{α:Type}{a b:α}{p:Prop} [Decidable p]:(bif decide p then a else b)=if p then a else b:=by by_cases h:p<;>simp [h]
@[go_sem] theorem D1G{b st:Nat}:A0.get [] b st=none:=rfl
@[go_sem] theorem D0F{b' st' b st:Nat}{x:Blk}{r:A0}:A0.get ((b',st',x)::r) b st=if b'=b then(if st'=st then some x else none)else A0.get r b st:=B0R
@[go_sem] theorem D1Y{h:A0}{b st:Nat}{x:Blk}:A0.put h b st x=(b,st,x)::A0.del h b:=rfl
@[go_sem] theorem D1z{b:Nat}:A0.del [] b= []:=rfl
@[go_sem] theorem D0s{b' st' b:Nat}{x:Blk}{r:A0}:A0.del ((b',st',x)::r) b=if b'=b then A0.del r b else(b',st',x)::A0.del r b:=by
 unfold A0.del
 rw [List.filter_cons,←B0R]
 cases Nat.beq b' b<;>simp
@[go_sem] theorem C9g{row:List V}{j n:Nat}:J9 row j n true=if j+n≤row.length then some (.agg ((row.drop j).take n))else none:=by
 unfold J9
 by_cases h:j+n≤row.length
 ·rw [if_pos h,Nat.ble_eq_true_of_le h];rfl
 ·rw [if_neg h]
  have:Nat.ble (j+n) row.length=false:=by
   cases hb:Nat.ble (j+n) row.length with
   |false=>rfl
   |true=>exact(h (Nat.le_of_ble_eq_true hb)).elim
  rw [this];rfl
@[go_sem] theorem C9f{row:List V}{j n:Nat}:J9 row j n false=row[j]? :=rfl
theorem C2b{α:Type}{i j:Nat}{a b:α}:(bif Nat.ble i j then a else b)=if i≤j then a else b:=by
 by_cases h:i≤j
 ·rw [if_pos h,Nat.ble_eq_true_of_le h];rfl
 ·rw [if_neg h]
  have:Nat.ble i j=false:=by
   cases hb:Nat.ble i j with
   |false=>rfl
   |true=>exact(h (Nat.le_of_ble_eq_true hb)).elim
  rw [this];rfl
@[go_sem] theorem C8C{α:Type}{i j k l:Nat}{a b:α}:(bif Nat.beq i j&&Nat.ble k l then a else b)=if i=j then(if k≤l then a else b)else b:=by
 rw [←B0R,←C2b]
 cases Nat.beq i j<;>rfl
attribute [go_sem] B0R C2b
@[go_sem] theorem D2b{sl:List (Nat×V)}{h:A0}{n i:Nat}:St.ev ⟨sl,h,n⟩ (.t i)=C3 sl i:=rfl
section
variable {d:Nat} {h:A0} {φ:Nat→Nat→Nat→Nat→V}
attribute [go_sem] V.sub A2b N7
theorem D8: ∃φ,frz d h=V.sub φ:=by cases d<;>exact⟨_,rfl⟩
@[go_sem] theorem B5n{j:IntKind}{z:Int}:frz d h (.int j z)= .int j z:=by obtain⟨φ,e⟩:=D8 (d:=d) (h:=h);rw [e,V.sub]
@[go_sem] theorem D0C{b:Bool}:frz d h (.bool b)= .bool b:=by obtain⟨φ,e⟩:=D8 (d:=d) (h:=h);rw [e,V.sub]
@[go_sem] theorem D1E{b:List UInt8}:frz d h (.str b)= .str b:=by obtain⟨φ,e⟩:=D8 (d:=d) (h:=h);rw [e,V.sub]
@[go_sem] theorem C8X:frz d h .undef= .undef:=by obtain⟨φ,e⟩:=D8 (d:=d) (h:=h);rw [e,V.sub]
@[go_sem] theorem D0E:frz d h .nilp= .nilp:=by obtain⟨φ,e⟩:=D8 (d:=d) (h:=h);rw [e,V.sub]
@[go_sem] theorem D1D:frz d h .err= .err:=by obtain⟨φ,e⟩:=D8 (d:=d) (h:=h);rw [e,V.sub]
@[go_sem] theorem D0B{k:IntKind}:frz d h (.anyi k)= .anyi k:=by obtain⟨φ,e⟩:=D8 (d:=d) (h:=h);rw [e,V.sub]
@[go_sem] theorem D0D:frz d h .nilm= .nilm:=by obtain⟨φ,e⟩:=D8 (d:=d) (h:=h);rw [e,V.sub]
@[go_sem] theorem C2x:frz d h .nils= .isl []:=by obtain⟨φ,e⟩:=D8 (d:=d) (h:=h);rw [e,V.sub]
@[go_sem] theorem D1C{cs:List V}:frz d h (.agg cs)= .agg (cs.map (frz d h)):=by obtain⟨φ,e⟩:=D8 (d:=d) (h:=h);rw [e,V.sub,A2b]
@[go_sem] theorem D1F{cs:List V}:frz d h (.tup cs)= .tup (cs.map (frz d h)):=by obtain⟨φ,e⟩:=D8 (d:=d) (h:=h);rw [e,V.sub,A2b]
@[go_sem] theorem C4j{es:List (List V)}:frz d h (.isl es)= .isl (es.map fun r=>r.map (frz d h)):=by obtain⟨φ,e⟩:=D8 (d:=d) (h:=h);rw [e,V.sub,N7]
@[go_sem] theorem C6S{b st i n:Nat}:frz (d+1) h (.sl b st i n)=match A0i h (.sl b st i n)with|some rs=> .isl (rs.map fun r=>r.map (frz d h))|none=> .undef:=by rw [frz,V.sub];rfl
end
theorem A2.pureF{f:FuncId}{xs:List V}{r:V}{h:A0}{n:Nat}{k:Res}(hp:Pure P f xs r)(has:xs.map (V.sub H0)=xs)(hk:k r h n):A2 P f xs h n k:=A2.pure hp has hk
theorem A3e.pureF{f:FuncId}{xs:List V}{r:V}{h:A0}{n:Nat}{k:Res}(hp:Pure P f xs r)(has:xs.map (V.sub H0)=xs)(hk:k r h n):A3e P f xs k h n:=⟨r,fun _ h'=>A2.pureF hp has h',hk⟩
def A4s(s:List (Nat×V)):List (Nat×V)→Prop
 | []=>True
 |p::r=>C3 s p.1=p.2∧A4s s r
def B5v(e:Nat×Nat×Blk):A0→Prop
 | []=>False
 |x::r=>x=e∨B5v e r
def A9P(h:A0):A0→Prop
 | []=>True
 |e::r=>B5v e h∧A9P h r
theorem F9{s:List (Nat×V)}: ∀{l:List (Nat×V)},A4s s l↔ ∀p∈l,p.2=C3 s p.1
 | []=>by simp [A4s]
 |p::r=>by simp only [A4s,F9,List.forall_mem_cons];rw [eq_comm]
theorem B7a{e:Nat×Nat×Blk}: ∀{l:A0},B5v e l↔e∈l
 | []=>by simp [B5v]
 |p::r=>by simp only [B5v,B7a,List.mem_cons];rw [eq_comm]
theorem B0S{h:A0}: ∀{l:A0},A9P h l↔ ∀p∈l,p∈h
 | []=>by simp [A9P]
 |p::r=>by simp only [A9P,B0S,List.forall_mem_cons,B7a]
@[go_sem] theorem D1p{s s':St}:B6 s s'=(A4s s.sl s'.sl∧A9P s.h s'.h∧s.n≤s'.n):=by
 rw [eq_iff_iff,F9,B0S];exact Iff.rfl
@[go_sem] theorem C7N{s:List (Nat×V)}:A4s s []=True:=rfl
@[go_sem] theorem C5P{s:List (Nat×V)}{p:Nat×V}{r:List (Nat×V)}:A4s s (p::r)=(C3 s p.1=p.2∧A4s s r):=rfl
@[go_sem] theorem D0O{e:Nat×Nat×Blk}:B5v e []=False:=rfl
@[go_sem] theorem C9i{e x:Nat×Nat×Blk}{r:A0}:B5v e (x::r)=(x=e∨B5v e r):=rfl
@[go_sem] theorem C8N{h:A0}:A9P h []=True:=rfl
@[go_sem] theorem C6s{h r:A0}{e:Nat×Nat×Blk}:A9P h (e::r)=(B5v e h∧A9P h r):=rfl
attribute [go_sem] Prod.mk.injEq V.int.injEq V.bool.injEq V.str.injEq V.agg.injEq V.tup.injEq V.isl.injEq V.sl.injEq V.ptr.injEq V.mp.injEq V.yld.injEq Blk.loop.injEq Blk.rows.injEq List.cons.injEq
attribute [go_sem] List.length_map List.drop_zero List.take_length List.length_append List.length_cons List.length_nil List.length_set List.length_replicate
attribute [go_sem] List.cons_append List.nil_append
attribute [go_sem] true_or or_true or_false false_or Nat.le_refl false_implies implies_true forall_const
end
end Go.Abs
attribute [go_sem] Nat.reduceEqDiff Nat.reduceAdd Nat.reduceSub Nat.reduceMul Nat.reduceLeDiff Nat.reduceLT Nat.reduceBEq Int.reduceToNat Int.reduceLE Int.reduceLT Int.reduceEq Int.reduceNe Int.reduceAdd Int.reduceSub Int.reduceNeg Int.toNat_natCast Int.cast_ofNat_Int Int.natCast_zero Int.natCast_one reduceCtorEq reduceIte Nat.lt_irrefl and_self not_false_eq_true not_true_eq_false
