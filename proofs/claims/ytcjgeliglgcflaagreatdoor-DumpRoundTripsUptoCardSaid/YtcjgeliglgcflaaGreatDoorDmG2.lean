/-
 What the reader of functions takes from its bytes. No condition.
-/
import Derived.Test.YtcjgeliglgcflaaGreatDoorDmG1
import Derived.Test.YtcjgeliglgcflaaGreatDoorFnCk
set_option linter.unusedVariables false
set_option linter.unusedSimpArgs false
set_option maxRecDepth 100000
set_option maxHeartbeats 0
namespace Go.Proofs.YtcjgeliglgcflaaGreatDoor
open Go Go.Abs
attribute [local irreducible] A3 C2 Run
abbrev gN(k:Nat):Nat:=45*10000+k
-- EV: rD, gN
attribute [local go_sem] rD gN
def J8(l:List Int):Prop:=K4 l∧l.length≤10000000000
theorem J8.of{l w r:List Int}(hg:J8 l)(h:l=w++r):J8 r:=by
 subst h
 refine⟨hg.1.right,?_⟩
 have:=hg.2
 rw [List.length_append]at this
 omega
theorem A1D{α β:Type}{f:List Int→Rd α}{m N:Nat}{l1 l2:List Int}{x:α}{xs:List α}{K:List α→List Int→Rd β}{G:Rd β}(hN:N=m+1)(hG:(Q5 f N l1).bind (fun r l=>K (xs++r) l)=G)(h:f l1= .ok (x,l2)):(Q5 f m l2).bind (fun r l=>K ((xs++ [x])++r) l)=G:=by
 subst hN
 rw [←hG,Q5,h,Rd.bind_ok]
 cases Q5 f m l2 with
 |ok y=>show K (xs++ [x]++y.1) y.2=K (xs++x::y.1) y.2;rw [List.append_assoc];rfl
 |error e=>rfl
theorem A1C{α β:Type}{f:List Int→Rd α}{m N:Nat}{l1:List Int}{K:List α→List Int→Rd β}{G:Rd β}(hN:N=m+1)(hG:(Q5 f N l1).bind K=G)(e:Int)(h:f l1= .error e):G= .error e:=by
 subst hN
 rw [←hG,Q5,h]
 rfl
theorem E4{α β:Type}{G:Rd β}{H:Rd α}{pk:H1}{rest:A2}{n:Nat}(hpk:pk=A8r G)(hf: ∀e,H= .error e→G= .error e): ∀x h' n',n≤n'→A8r H x h' n'→B4Z pk x (h'++rest) n':=by
 rintro x h' n' _ ⟨e,h1,rfl,rfl⟩
 subst hpk
 exact .none ⟨e,hf e h1,rfl,rfl⟩
theorem A7R.one{st:Nat}{fs:List (List V)}{sz:Nat}{r r2:List V}(h:B1l st fs r r2):A7R st fs (.rows sz [r]) (.rows sz [r2]):=
 .rows (by simp) fun i x hx=>by
  cases i with
  |zero=>obtain rfl:=Option.some.inj hx;exact⟨r,rfl,h⟩
  |succ i=>cases hx
def fk6(p:Fn)(x:List Vr)(l:List Int):Rd Fn:= .ok ({p with vars:=x},l)
def fk5(p:Fn)(x:List Upv)(l:List Int):Rd Fn:=(L9 vrP l).bind (fk6 {p with ups:=x})
def fk4(p:Fn)(x:List Fn)(l:List Int):Rd Fn:=(L9 upP l).bind (fk5 {p with protos:=x})
def fk3(f:List Int→Rd Fn)(p:Fn)(x:List Kst)(l:List Int):Rd Fn:=(L9 f l).bind (fk4 {p with consts:=x})
def fk2(f:List Int→Rd Fn)(p:Fn)(x:List Int)(l:List Int):Rd Fn:=(L9 B0Q l).bind (fk3 f {p with lines:=x})
def fk1(f:List Int→Rd Fn)(p:Fn)(x:List Ins)(l:List Int):Rd Fn:=(L9 W8 l).bind (fk2 f {p with code:=x})
theorem B8w(d:Nat)(l:List Int):A4D (d+1) l=(B0P l).bind fun name l=>(W8 l).bind fun line l=>(W8 l).bind fun params l=>(A2C l).bind fun vararg l=>(W8 l).bind fun regs l=>(L9 B2T l).bind (fk1 (A4D d) ⟨name,line,params,vararg,regs,[],[],[],[],[],[]⟩):=rfl
theorem C6j: ∀(d:Nat) (s n:Nat) (z:Int) (l:List Int),z=65-(d:Int)→d≤64→J8 l→C2 Tryz.prog 45 [.ptr rD s 0 0,.int .i64 z] (rdH rD s l) n (B6T rD s (A4D d l) fun p=> .agg p.row) (A8r (A4D d l)):=by
 intro d
 induction d with
 |zero=>
  intro s n z l hz _ hg
  refine C2.enterK O0 (Nat.le_of_ble_eq_true rfl) fun Q pk hQ hpk=>Run.go 100 ?_
  have c:z>64:=by omega
  simp -implicitDefEqProofs only [go_sem,A8,c]
  refine C2.at [] [] (A0q rD s _ 3) rfl rfl (fun _ _ _ _ h=>h.elim) ?_
  rintro x h' n' _ ⟨rfl,rfl⟩
  subst hpk
  exact .none ⟨3,rfl,rfl,rfl⟩
 |succ d ih=>
 intro s n0 z l hz hd hg
 have hnu:=fun n l=>B7C rD s n l
 have htr:=fun n l=>B6N rD s n l
 have hst:=fun n l=>C2v rD s n l
 have hle:=fun n l=>C1E rD s n l
 have hva:=fun n l=>C7F s n l
 have hfn:=fun n l hl=>ih s n (z+1) l (by omega) (by omega) hl
 clear ih
 refine C2.enterK O0 (Nat.le_of_ble_eq_true rfl) fun Q pk hQ hpk=>Run.go 100 ?_
 obtain⟨G,hG⟩: ∃G,A4D (d+1) l=G:=⟨_,rfl⟩
 rw [hG]at hQ hpk
 rw [B8w]at hG
 have hgf: ∀l x r,J8 l→A4D d l= .ok (x,r)→J8 r:=fun l x r hl h=>hl.of (B1O d l r x hl.1 h)
 generalize A4D d=f at*
 have c:(z>64)=False:=eq_false (by omega)
 unfold rdH
 simp -implicitDefEqProofs only [go_sem,A8,c]
 refine C2.at [1] [0] (hst _ l) rfl rfl ?_ (E4 hpk fun e h=>by rw [←hG,h];rfl)
 rintro r h' m1 _ ⟨name,l1,h1,rfl,rfl⟩
 rw [h1,Rd.bind_ok]at hG
 have hg1:J8 l1:=(hg).of (A2B hg.1 h1)
 simp -implicitDefEqProofs only [go_sem,rdH]
 refine C2.at [0] [1] (hnu _ l1) rfl rfl ?_ (E4 hpk fun e h=>by rw [←hG,h];rfl)
 rintro r h' m2 _ ⟨line,l2,h2,rfl,rfl⟩
 rw [h2,Rd.bind_ok]at hG
 have hg2:J8 l2:=hg1.of (C9 hg1.1 h2).1
 simp -implicitDefEqProofs only [go_sem,rdH]
 refine C2.at [0] [1] (hnu _ l2) rfl rfl ?_ (E4 hpk fun e h=>by rw [←hG,h];rfl)
 rintro r h' m3 _ ⟨params,l3,h3,rfl,rfl⟩
 rw [h3,Rd.bind_ok]at hG
 have hg3:J8 l3:=hg2.of (C9 hg2.1 h3).1
 simp -implicitDefEqProofs only [go_sem,rdH]
 refine C2.at [0] [1] (htr _ l3) rfl rfl ?_ (E4 hpk fun e h=>by rw [←hG,h];rfl)
 rintro r h' m4 _ ⟨vararg,l4,h4,rfl,rfl⟩
 rw [h4,Rd.bind_ok]at hG
 have hg4:J8 l4:=hg3.of (A2D hg3.1 h4)
 simp -implicitDefEqProofs only [go_sem,rdH]
 refine C2.at [0] [1] (hnu _ l4) rfl rfl ?_ (E4 hpk fun e h=>by rw [←hG,h];rfl)
 rintro r h' m5 _ ⟨regs,l5,h5,rfl,rfl⟩
 rw [h5,Rd.bind_ok]at hG
 have hg5:J8 l5:=hg4.of (C9 hg4.1 h5).1
 simp -implicitDefEqProofs only [go_sem,rdH]
 -- code
 refine C2.at [1] [0,2] (hle _ l5) rfl rfl ?_ (E4 hpk fun e h=>by rw [←hG,L9,h];rfl)
 rintro r h' ma0 _ ⟨N0,a0,ha0,rfl,rfl⟩
 rw [L9,ha0,Rd.bind_ok]at hG
 obtain⟨e0,u0,_⟩:=A0H hg5.1 ha0
 have ga0:J8 a0:=hg5.of e0
 simp -implicitDefEqProofs only [go_sem,rdH]
 refine Run.roundsK (fun(x:List Ins×List Int×Nat×Nat)=>⟨[(23,.int .i64 (x.1.length:Int)),(22,.int .i64 (N0:Int)),(5,.ptr (gN 5) m5 0 0),(4,.ptr (gN 4) n0 0 0),(1,.int .i64 z),(0,.ptr rD s 0 0)],[(rD,s,.rows 1 [[.isl (byR x.2.1)]]),(gN 5,m5,.rows 11 [[.str name,.int .i64 line,.int .i64 params,.bool vararg,.int .i64 regs,.sl (gN 39) x.2.2.1 0 x.1.length,.nils,.nils,.nils,.nils,.nils]]),(gN 4,n0,.rows 11 [[.str [],.int .i64 0,.int .i64 0,.bool false,.int .i64 0,.nils,.nils,.nils,.nils,.nils,.nils]]),(gN 39,x.2.2.1,.rows 5 (x.1.map Ins.row))],x.2.2.2⟩)
  (fun x=>x.1.length≤N0∧J8 x.2.1∧Rd.bind (Q5 B2T (N0-x.1.length) x.2.1) (fun r l=>fk1 f ⟨name,line,params,vararg,regs,[],[],[],[],[],[]⟩ (x.1++r) l)=G) (fun x=>N0-x.1.length) ([],a0,ma0,ma0+1) ?_ ⟨Nat.zero_le _,ga0,hG⟩ ?_
 ·refine .trans (.fresh (gN 39) 5 _ _ _) (.turn id ⟨.refl _,.refl _,.refl _,.refl _,.refl _,.refl _,trivial⟩ ?_)
  simp -implicitDefEqProofs only [go_sem,Nat.reduceDiv]
  exact .at 1 rfl rfl (.refl _) (.at 2 rfl rfl (.row ⟨.refl _,.refl _,.refl _,.refl _,.refl _,.nils,.refl _,.refl _,.refl _,.refl _,.refl _,trivial⟩) (.at 3 rfl rfl (.refl _) (.at 0 rfl rfl (.refl _) (.of fun e he=>by cases he))))
 clear hG
 rintro⟨code,l6,st0,mm0⟩ ⟨hk,hg6,hG⟩ lp
 dsimp only at hk hg6 hG lp⊢
 by_cases c0:(code.length:Int)<(N0:Int)
 ·obtain⟨q,hN⟩: ∃q,N0-code.length=q+1:=⟨N0-code.length-1,by omega⟩
  obtain⟨E,hE⟩: ∃E,B2T l6=E:=⟨_,rfl⟩
  have hX: ∀e,E= .error e→G= .error e:=fun e h=>A1C hN hG e (hE.trans h)
  have hE0:=hE
  unfold B2T at hE
  have hlt:(code.map Ins.row).length=code.length:=List.length_map ..
  have hsz:C4 (code.map Ins.row) 5=True:=eq_true fun r hr=>by obtain⟨y,_,rfl⟩:=List.mem_map.1 hr;rfl
  have htk:(code.map Ins.row).take code.length=code.map Ins.row:=List.take_of_length_le (by omega)
  have kb:code.length≤10000000000:=by have:=ga0.2;omega
  have j1:(code.length≤code.length)=True:=eq_true (Nat.le_refl _)
  have j2:(code.length≤137438953471)=True:=eq_true (by have:=ga0.2;omega)
  have fin:=fun x b2 s2 m2 s' (h1:B2T l6= .ok (x,b2)) (h2:J8 b2)=>lp s' (code++ [x],b2,s2,m2) ⟨by simp;omega,h2,by
   have:=A1D hN hG h1
   rw [show N0-(code++ [x]).length=q by simp;omega]
   exact this⟩ (by simp;omega)
  dsimp only at fin
  simp only [List.map_append,List.map_cons,List.map_nil,List.length_append,List.length_cons,List.length_nil]at fin
  clear lp hG
  refine Run.unf S4 (Run.go 100 ?_)
  generalize code.map Ins.row=RR at*
  generalize code.length=k at*
  simp -implicitDefEqProofs only [go_sem,c0,hlt,hsz,htk,j1,j2,Nat.reduceDiv]
  refine⟨?_,?_,?_,?_,?_,?_⟩
  all_goals (
   refine C2.at [0] [1,2,3] (hnu _ l6) rfl rfl ?_ (E4 hpk fun e h=>hX e (by rw [←hE,h];rfl))
   rintro r h' w0 _ ⟨z1,b1,h0,rfl,rfl⟩
   rw [h0,Rd.bind_ok]at hE
   have k0:J8 b1:=hg6.of (C9 hg6.1 h0).1
   simp -implicitDefEqProofs only [go_sem,rdH,hlt,hsz,htk,j1,j2,Nat.reduceDiv]
   refine C2.at [0] [1,2,3] (hnu _ b1) rfl rfl ?_ (E4 hpk fun e h=>hX e (by rw [←hE,h];rfl))
   rintro r h' w1 _ ⟨z2,b2,h1,rfl,rfl⟩
   rw [h1,Rd.bind_ok]at hE
   have k1:J8 b2:=k0.of (C9 k0.1 h1).1
   simp -implicitDefEqProofs only [go_sem,rdH,hlt,hsz,htk,j1,j2,Nat.reduceDiv]
   refine C2.at [0] [1,2,3] (hnu _ b2) rfl rfl ?_ (E4 hpk fun e h=>hX e (by rw [←hE,h];rfl))
   rintro r h' w2 _ ⟨z3,b3,h2,rfl,rfl⟩
   rw [h2,Rd.bind_ok]at hE
   have k2:J8 b3:=k1.of (C9 k1.1 h2).1
   simp -implicitDefEqProofs only [go_sem,rdH,hlt,hsz,htk,j1,j2,Nat.reduceDiv]
   refine C2.at [0] [1,2,3] (hnu _ b3) rfl rfl ?_ (E4 hpk fun e h=>hX e (by rw [←hE,h];rfl))
   rintro r h' w3 _ ⟨z4,b4,h3,rfl,rfl⟩
   rw [h3,Rd.bind_ok]at hE
   have k3:J8 b4:=k2.of (C9 k2.1 h3).1
   simp -implicitDefEqProofs only [go_sem,rdH,hlt,hsz,htk,j1,j2,Nat.reduceDiv]
   refine C2.at [0] [1,2,3] (hnu _ b4) rfl rfl ?_ (E4 hpk fun e h=>hX e (by rw [←hE,h];rfl))
   rintro r h' w4 _ ⟨z5,b5,h4,rfl,rfl⟩
   rw [h4,Rd.bind_ok]at hE
   have k4:J8 b5:=k3.of (C9 k3.1 h4).1
   simp -implicitDefEqProofs only [go_sem,rdH,hlt,hsz,htk,j1,j2,Nat.reduceDiv]
   exact⟨⟨by omega,by omega⟩,fin ⟨z1,z2,z3,z4,z5⟩ b5 _ _ _ (hE0.trans hE.symm) k4 (.turn id ⟨.refl _,.refl _,.refl _,.refl _,.refl _,.refl _,trivial⟩ (.at 2 rfl rfl (.refl _) (.at 0 rfl rfl (.refl _) (.at 3 rfl rfl (.refl _) (.at 1 rfl rfl (.refl _) (.of fun e he=>by cases he))))))⟩)
 have x0:code.length=N0:=by omega
 rw [show N0-code.length=0 by omega,Q5,Rd.bind_ok,List.append_nil,fk1]at hG
 dsimp only at hG
 clear lp
 refine Run.wk (s':=⟨[(23,.int .i64 (code.length:Int)),(22,.int .i64 (N0:Int)),(5,.ptr (gN 5) m5 0 0),(4,.ptr (gN 4) n0 0 0),(1,.int .i64 z),(0,.ptr rD s 0 0)],[(rD,s,.rows 1 [[.isl (byR l6)]]),(gN 5,m5,.rows 11 [[.str name,.int .i64 line,.int .i64 params,.bool vararg,.int .i64 regs,.isl (code.map Ins.row),.nils,.nils,.nils,.nils,.nils]]),(gN 4,n0,.rows 11 [[.str [],.int .i64 0,.int .i64 0,.bool false,.int .i64 0,.nils,.nils,.nils,.nils,.nils,.nils]])],mm0⟩)
  (.freeze (b:=gN 39) (st:=st0) (sz:=5) (rs:=code.map Ins.row) (by simp) ⟨.of (.refl _),.of (.refl _),.of (.refl _),.of (.refl _),.of (.refl _),.of (.refl _),trivial⟩
    (.at 0 rfl (by decide) (.of (.refl _)) (.at 1 rfl (by decide) (A7R.one ⟨.of (.refl _),.of (.refl _),.of (.refl _),.of (.refl _),.of (.refl _),Frz.all (by simp),.of (.refl _),.of (.refl _),.of (.refl _),.of (.refl _),.of (.refl _),trivial⟩) (.at 2 rfl (by decide) (.of (.refl _)) trivial)))) ?_
 refine Run.unf S4 (Run.go 100 ?_)
 clear ga0
 simp -implicitDefEqProofs only [go_sem,c0]
 -- lines
 refine C2.at [0] [1,2] (hle _ l6) rfl rfl ?_ (E4 hpk fun e h=>by rw [←hG,L9,h];rfl)
 rintro r h' ma1 _ ⟨N1,a1,ha1,rfl,rfl⟩
 rw [L9,ha1,Rd.bind_ok]at hG
 obtain⟨e1,u1,_⟩:=A0H hg6.1 ha1
 have ga1:J8 a1:=hg6.of e1
 simp -implicitDefEqProofs only [go_sem,rdH]
 refine Run.roundsK (fun(x:List Int×List Int×Nat×Nat)=>⟨[(44,.int .i64 (x.1.length:Int)),(43,.int .i64 (N1:Int)),(5,.ptr (gN 5) m5 0 0),(4,.ptr (gN 4) n0 0 0),(1,.int .i64 z),(0,.ptr rD s 0 0)],[(rD,s,.rows 1 [[.isl (byR x.2.1)]]),(gN 5,m5,.rows 11 [[.str name,.int .i64 line,.int .i64 params,.bool vararg,.int .i64 regs,.isl (code.map Ins.row),.sl (gN 51) x.2.2.1 0 x.1.length,.nils,.nils,.nils,.nils]]),(gN 4,n0,.rows 11 [[.str [],.int .i64 0,.int .i64 0,.bool false,.int .i64 0,.nils,.nils,.nils,.nils,.nils,.nils]]),(gN 51,x.2.2.1,.rows 1 (x.1.map D1))],x.2.2.2⟩)
  (fun x=>x.1.length≤N1∧J8 x.2.1∧Rd.bind (Q5 W8 (N1-x.1.length) x.2.1) (fun r l=>fk2 f ⟨name,line,params,vararg,regs,code,[],[],[],[],[]⟩ (x.1++r) l)=G) (fun x=>N1-x.1.length) ([],a1,ma1,ma1+1) ?_ ⟨Nat.zero_le _,ga1,hG⟩ ?_
 ·refine .trans (.fresh (gN 51) 1 _ _ _) (.turn id ⟨.refl _,.refl _,.refl _,.refl _,.refl _,.refl _,trivial⟩ ?_)
  simp -implicitDefEqProofs only [go_sem,Nat.reduceDiv]
  exact .at 1 rfl rfl (.refl _) (.at 2 rfl rfl (.row ⟨.refl _,.refl _,.refl _,.refl _,.refl _,.refl _,.nils,.refl _,.refl _,.refl _,.refl _,trivial⟩) (.at 3 rfl rfl (.refl _) (.at 0 rfl rfl (.refl _) (.of fun e he=>by cases he))))
 clear hG
 rintro⟨lines,l7,st1,mm1⟩ ⟨hk,hg7,hG⟩ lp
 dsimp only at hk hg7 hG lp⊢
 by_cases c1:(lines.length:Int)<(N1:Int)
 ·obtain⟨q,hN⟩: ∃q,N1-lines.length=q+1:=⟨N1-lines.length-1,by omega⟩
  obtain⟨E,hE⟩: ∃E,W8 l7=E:=⟨_,rfl⟩
  have hX: ∀e,E= .error e→G= .error e:=fun e h=>A1C hN hG e (hE.trans h)
  have hE0:=hE
  have hlt:(lines.map D1).length=lines.length:=List.length_map ..
  have hsz:C4 (lines.map D1) 1=True:=eq_true fun r hr=>by obtain⟨y,_,rfl⟩:=List.mem_map.1 hr;rfl
  have htk:(lines.map D1).take lines.length=lines.map D1:=List.take_of_length_le (by omega)
  have kb:lines.length≤10000000000:=by have:=ga1.2;omega
  have j1:(lines.length≤lines.length)=True:=eq_true (Nat.le_refl _)
  have j2:(lines.length≤137438953471)=True:=eq_true (by have:=ga1.2;omega)
  have fin:=fun x b2 s2 m2 s' (h1:W8 l7= .ok (x,b2)) (h2:J8 b2)=>lp s' (lines++ [x],b2,s2,m2) ⟨by simp;omega,h2,by
   have:=A1D hN hG h1
   rw [show N1-(lines++ [x]).length=q by simp;omega]
   exact this⟩ (by simp;omega)
  dsimp only at fin
  simp only [List.map_append,List.map_cons,List.map_nil,List.length_append,List.length_cons,List.length_nil]at fin
  clear lp hG
  refine Run.unf S5 (Run.go 100 ?_)
  generalize lines.map D1=RR at*
  generalize lines.length=k at*
  simp -implicitDefEqProofs only [go_sem,c1,hlt,hsz,htk,j1,j2,Nat.reduceDiv]
  refine⟨?_,?_⟩
  all_goals (
   refine C2.at [0] [1,2,3] (hnu _ l7) rfl rfl ?_ (E4 hpk fun e h=>hX e (hE.symm.trans h))
   rintro r h' w0 _ ⟨z1,b1,h0,rfl,rfl⟩
   simp -implicitDefEqProofs only [go_sem,rdH,hlt,hsz,htk,j1,j2,Nat.reduceDiv]
   exact⟨⟨by omega,by omega⟩,fin z1 b1 _ _ _ h0 (hg7.of (C9 hg7.1 h0).1) (.turn id ⟨.refl _,.refl _,.refl _,.refl _,.refl _,.refl _,trivial⟩ (.at 2 rfl rfl (.refl _) (.at 0 rfl rfl (.refl _) (.at 3 rfl rfl (.refl _) (.at 1 rfl rfl (.refl _) (.of fun e he=>by cases he))))))⟩)
 have x1:lines.length=N1:=by omega
 rw [show N1-lines.length=0 by omega,Q5,Rd.bind_ok,List.append_nil,fk2]at hG
 dsimp only at hG
 clear lp
 refine Run.wk (s':=⟨[(44,.int .i64 (lines.length:Int)),(43,.int .i64 (N1:Int)),(5,.ptr (gN 5) m5 0 0),(4,.ptr (gN 4) n0 0 0),(1,.int .i64 z),(0,.ptr rD s 0 0)],[(rD,s,.rows 1 [[.isl (byR l7)]]),(gN 5,m5,.rows 11 [[.str name,.int .i64 line,.int .i64 params,.bool vararg,.int .i64 regs,.isl (code.map Ins.row),.isl (lines.map D1),.nils,.nils,.nils,.nils]]),(gN 4,n0,.rows 11 [[.str [],.int .i64 0,.int .i64 0,.bool false,.int .i64 0,.nils,.nils,.nils,.nils,.nils,.nils]])],mm1⟩)
  (.freeze (b:=gN 51) (st:=st1) (sz:=1) (rs:=lines.map D1) (by simp) ⟨.of (.refl _),.of (.refl _),.of (.refl _),.of (.refl _),.of (.refl _),.of (.refl _),trivial⟩
    (.at 0 rfl (by decide) (.of (.refl _)) (.at 1 rfl (by decide) (A7R.one ⟨.of (.refl _),.of (.refl _),.of (.refl _),.of (.refl _),.of (.refl _),.of (.refl _),Frz.all (by simp),.of (.refl _),.of (.refl _),.of (.refl _),.of (.refl _),trivial⟩) (.at 2 rfl (by decide) (.of (.refl _)) trivial)))) ?_
 refine Run.unf S5 (Run.go 100 ?_)
 clear ga1
 simp -implicitDefEqProofs only [go_sem,c1]
 -- consts
 refine C2.at [0] [1,2] (hle _ l7) rfl rfl ?_ (E4 hpk fun e h=>by rw [←hG,L9,h];rfl)
 rintro r h' ma2 _ ⟨N2,a2,ha2,rfl,rfl⟩
 rw [L9,ha2,Rd.bind_ok]at hG
 obtain⟨e2,u2,_⟩:=A0H hg7.1 ha2
 have ga2:J8 a2:=hg7.of e2
 simp -implicitDefEqProofs only [go_sem,rdH]
 refine Run.roundsK (fun(x:List Kst×List Int×Nat×Nat)=>⟨[(56,.int .i64 (x.1.length:Int)),(55,.int .i64 (N2:Int)),(5,.ptr (gN 5) m5 0 0),(4,.ptr (gN 4) n0 0 0),(1,.int .i64 z),(0,.ptr rD s 0 0)],[(rD,s,.rows 1 [[.isl (byR x.2.1)]]),(gN 5,m5,.rows 11 [[.str name,.int .i64 line,.int .i64 params,.bool vararg,.int .i64 regs,.isl (code.map Ins.row),.isl (lines.map D1),.sl (gN 63) x.2.2.1 0 x.1.length,.nils,.nils,.nils]]),(gN 4,n0,.rows 11 [[.str [],.int .i64 0,.int .i64 0,.bool false,.int .i64 0,.nils,.nils,.nils,.nils,.nils,.nils]]),(gN 63,x.2.2.1,.rows 5 (x.1.map Kst.row))],x.2.2.2⟩)
  (fun x=>x.1.length≤N2∧J8 x.2.1∧Rd.bind (Q5 B0Q (N2-x.1.length) x.2.1) (fun r l=>fk3 f ⟨name,line,params,vararg,regs,code,lines,[],[],[],[]⟩ (x.1++r) l)=G) (fun x=>N2-x.1.length) ([],a2,ma2,ma2+1) ?_ ⟨Nat.zero_le _,ga2,hG⟩ ?_
 ·refine .trans (.fresh (gN 63) 5 _ _ _) (.turn id ⟨.refl _,.refl _,.refl _,.refl _,.refl _,.refl _,trivial⟩ ?_)
  simp -implicitDefEqProofs only [go_sem,Nat.reduceDiv]
  exact .at 1 rfl rfl (.refl _) (.at 2 rfl rfl (.row ⟨.refl _,.refl _,.refl _,.refl _,.refl _,.refl _,.refl _,.nils,.refl _,.refl _,.refl _,trivial⟩) (.at 3 rfl rfl (.refl _) (.at 0 rfl rfl (.refl _) (.of fun e he=>by cases he))))
 clear hG
 rintro⟨consts,l8,st2,mm2⟩ ⟨hk,hg8,hG⟩ lp
 dsimp only at hk hg8 hG lp⊢
 by_cases c2:(consts.length:Int)<(N2:Int)
 ·obtain⟨q,hN⟩: ∃q,N2-consts.length=q+1:=⟨N2-consts.length-1,by omega⟩
  obtain⟨E,hE⟩: ∃E,B0Q l8=E:=⟨_,rfl⟩
  have hX: ∀e,E= .error e→G= .error e:=fun e h=>A1C hN hG e (hE.trans h)
  have hE0:=hE
  have hlt:(consts.map Kst.row).length=consts.length:=List.length_map ..
  have hsz:C4 (consts.map Kst.row) 5=True:=eq_true fun r hr=>by obtain⟨y,_,rfl⟩:=List.mem_map.1 hr;rfl
  have htk:(consts.map Kst.row).take consts.length=consts.map Kst.row:=List.take_of_length_le (by omega)
  have kb:consts.length≤10000000000:=by have:=ga2.2;omega
  have j1:(consts.length≤consts.length)=True:=eq_true (Nat.le_refl _)
  have j2:(consts.length≤137438953471)=True:=eq_true (by have:=ga2.2;omega)
  have fin:=fun x b2 s2 m2 s' (h1:B0Q l8= .ok (x,b2)) (h2:J8 b2)=>lp s' (consts++ [x],b2,s2,m2) ⟨by simp;omega,h2,by
   have:=A1D hN hG h1
   rw [show N2-(consts++ [x]).length=q by simp;omega]
   exact this⟩ (by simp;omega)
  dsimp only at fin
  simp only [List.map_append,List.map_cons,List.map_nil,List.length_append,List.length_cons,List.length_nil]at fin
  clear lp hG
  refine Run.unf S6 (Run.go 100 ?_)
  generalize consts.map Kst.row=RR at*
  generalize consts.length=k at*
  simp -implicitDefEqProofs only [go_sem,c2,hlt,hsz,htk,j1,j2,Nat.reduceDiv]
  refine⟨?_,?_⟩
  all_goals (
   refine C2.at [0] [1,2,3] (hva _ l8 hg8.1) rfl rfl ?_ (E4 hpk fun e h=>hX e (hE.symm.trans h))
   rintro r h' w0 _ ⟨v,b1,h0,rfl,rfl⟩
   simp -implicitDefEqProofs only [go_sem,rdH,hlt,hsz,htk,j1,j2,Nat.reduceDiv,Kst.row]
   exact⟨⟨by omega,by omega⟩,fin v b1 _ _ _ h0 (hg8.of (B6P hg8.1 h0)) (.turn id ⟨.refl _,.refl _,.refl _,.refl _,.refl _,.refl _,trivial⟩ (.at 2 rfl rfl (.refl _) (.at 0 rfl rfl (.refl _) (.at 3 rfl rfl (.refl _) (.at 1 rfl rfl (.refl _) (.of fun e he=>by cases he))))))⟩)
 have x2:consts.length=N2:=by omega
 rw [show N2-consts.length=0 by omega,Q5,Rd.bind_ok,List.append_nil,fk3]at hG
 dsimp only at hG
 clear lp
 refine Run.wk (s':=⟨[(56,.int .i64 (consts.length:Int)),(55,.int .i64 (N2:Int)),(5,.ptr (gN 5) m5 0 0),(4,.ptr (gN 4) n0 0 0),(1,.int .i64 z),(0,.ptr rD s 0 0)],[(rD,s,.rows 1 [[.isl (byR l8)]]),(gN 5,m5,.rows 11 [[.str name,.int .i64 line,.int .i64 params,.bool vararg,.int .i64 regs,.isl (code.map Ins.row),.isl (lines.map D1),.isl (consts.map Kst.row),.nils,.nils,.nils]]),(gN 4,n0,.rows 11 [[.str [],.int .i64 0,.int .i64 0,.bool false,.int .i64 0,.nils,.nils,.nils,.nils,.nils,.nils]])],mm2⟩)
  (.freeze (b:=gN 63) (st:=st2) (sz:=5) (rs:=consts.map Kst.row) (by simp) ⟨.of (.refl _),.of (.refl _),.of (.refl _),.of (.refl _),.of (.refl _),.of (.refl _),trivial⟩
    (.at 0 rfl (by decide) (.of (.refl _)) (.at 1 rfl (by decide) (A7R.one ⟨.of (.refl _),.of (.refl _),.of (.refl _),.of (.refl _),.of (.refl _),.of (.refl _),.of (.refl _),Frz.all (by simp),.of (.refl _),.of (.refl _),.of (.refl _),trivial⟩) (.at 2 rfl (by decide) (.of (.refl _)) trivial)))) ?_
 refine Run.unf S6 (Run.go 100 ?_)
 clear ga2
 simp -implicitDefEqProofs only [go_sem,c2]
 -- protos
 refine C2.at [0] [1,2] (hle _ l8) rfl rfl ?_ (E4 hpk fun e h=>by rw [←hG,L9,h];rfl)
 rintro r h' ma3 _ ⟨N3,a3,ha3,rfl,rfl⟩
 rw [L9,ha3,Rd.bind_ok]at hG
 obtain⟨e3,u3,_⟩:=A0H hg8.1 ha3
 have ga3:J8 a3:=hg8.of e3
 simp -implicitDefEqProofs only [go_sem,rdH]
 refine Run.roundsK (fun(x:List Fn×List Int×Nat×Nat)=>⟨[(68,.int .i64 (x.1.length:Int)),(67,.int .i64 (N3:Int)),(5,.ptr (gN 5) m5 0 0),(4,.ptr (gN 4) n0 0 0),(1,.int .i64 z),(0,.ptr rD s 0 0)],[(rD,s,.rows 1 [[.isl (byR x.2.1)]]),(gN 5,m5,.rows 11 [[.str name,.int .i64 line,.int .i64 params,.bool vararg,.int .i64 regs,.isl (code.map Ins.row),.isl (lines.map D1),.isl (consts.map Kst.row),.sl (gN 77) x.2.2.1 0 x.1.length,.nils,.nils]]),(gN 4,n0,.rows 11 [[.str [],.int .i64 0,.int .i64 0,.bool false,.int .i64 0,.nils,.nils,.nils,.nils,.nils,.nils]]),(gN 77,x.2.2.1,.rows 11 (x.1.map Fn.row))],x.2.2.2⟩)
  (fun x=>x.1.length≤N3∧J8 x.2.1∧Rd.bind (Q5 f (N3-x.1.length) x.2.1) (fun r l=>fk4 ⟨name,line,params,vararg,regs,code,lines,consts,[],[],[]⟩ (x.1++r) l)=G) (fun x=>N3-x.1.length) ([],a3,ma3,ma3+1) ?_ ⟨Nat.zero_le _,ga3,hG⟩ ?_
 ·refine .trans (.fresh (gN 77) 11 _ _ _) (.turn id ⟨.refl _,.refl _,.refl _,.refl _,.refl _,.refl _,trivial⟩ ?_)
  simp -implicitDefEqProofs only [go_sem,Nat.reduceDiv]
  exact .at 1 rfl rfl (.refl _) (.at 2 rfl rfl (.row ⟨.refl _,.refl _,.refl _,.refl _,.refl _,.refl _,.refl _,.refl _,.nils,.refl _,.refl _,trivial⟩) (.at 3 rfl rfl (.refl _) (.at 0 rfl rfl (.refl _) (.of fun e he=>by cases he))))
 clear hG
 rintro⟨protos,l9,st3,mm3⟩ ⟨hk,hg9,hG⟩ lp
 dsimp only at hk hg9 hG lp⊢
 by_cases c3:(protos.length:Int)<(N3:Int)
 ·obtain⟨q,hN⟩: ∃q,N3-protos.length=q+1:=⟨N3-protos.length-1,by omega⟩
  obtain⟨E,hE⟩: ∃E,f l9=E:=⟨_,rfl⟩
  have hX: ∀e,E= .error e→G= .error e:=fun e h=>A1C hN hG e (hE.trans h)
  have hE0:=hE
  have hlt:(protos.map Fn.row).length=protos.length:=List.length_map ..
  have hsz:C4 (protos.map Fn.row) 11=True:=eq_true fun r hr=>by obtain⟨y,_,rfl⟩:=List.mem_map.1 hr;exact Fn.row_len y
  have htk:(protos.map Fn.row).take protos.length=protos.map Fn.row:=List.take_of_length_le (by omega)
  have kb:protos.length≤10000000000:=by have:=ga3.2;omega
  have j1:(protos.length≤protos.length)=True:=eq_true (Nat.le_refl _)
  have j2:(protos.length≤137438953471)=True:=eq_true (by have:=ga3.2;omega)
  have fin:=fun x b2 s2 m2 s' (h1:f l9= .ok (x,b2)) (h2:J8 b2)=>lp s' (protos++ [x],b2,s2,m2) ⟨by simp;omega,h2,by
   have:=A1D hN hG h1
   rw [show N3-(protos++ [x]).length=q by simp;omega]
   exact this⟩ (by simp;omega)
  dsimp only at fin
  simp only [List.map_append,List.map_cons,List.map_nil,List.length_append,List.length_cons,List.length_nil]at fin
  clear lp hG
  refine Run.unf S7 (Run.go 100 ?_)
  generalize protos.map Fn.row=RR at*
  generalize protos.length=k at*
  simp -implicitDefEqProofs only [go_sem,c3,hlt,hsz,htk,j1,j2,Nat.reduceDiv]
  refine⟨?_,?_⟩
  all_goals (
   refine⟨⟨by omega,by omega⟩,?_⟩
   refine C2.at [0] [1,2,3] (hfn _ l9 hg9) rfl rfl ?_ (E4 hpk fun e h=>hX e (hE.symm.trans h))
   rintro r h' w0 _ ⟨q,b1,h0,rfl,rfl⟩
   simp -implicitDefEqProofs only [go_sem,rdH,hlt,hsz,htk,j1,j2,Nat.reduceDiv,Fn.row_eq]
   exact⟨⟨by omega,by omega⟩,fin q b1 _ _ _ h0 (hgf _ _ _ hg9 h0) (.turn id ⟨.refl _,.refl _,.refl _,.refl _,.refl _,.refl _,trivial⟩ (.at 2 rfl rfl (.refl _) (.at 0 rfl rfl (.refl _) (.at 3 rfl rfl (.refl _) (.at 1 rfl rfl (.of_eq (by rw [Fn.row_eq q])) (.of fun e he=>by cases he))))))⟩)
 have x3:protos.length=N3:=by omega
 rw [show N3-protos.length=0 by omega,Q5,Rd.bind_ok,List.append_nil,fk4]at hG
 dsimp only at hG
 clear lp
 refine Run.wk (s':=⟨[(68,.int .i64 (protos.length:Int)),(67,.int .i64 (N3:Int)),(5,.ptr (gN 5) m5 0 0),(4,.ptr (gN 4) n0 0 0),(1,.int .i64 z),(0,.ptr rD s 0 0)],[(rD,s,.rows 1 [[.isl (byR l9)]]),(gN 5,m5,.rows 11 [[.str name,.int .i64 line,.int .i64 params,.bool vararg,.int .i64 regs,.isl (code.map Ins.row),.isl (lines.map D1),.isl (consts.map Kst.row),.isl (protos.map Fn.row),.nils,.nils]]),(gN 4,n0,.rows 11 [[.str [],.int .i64 0,.int .i64 0,.bool false,.int .i64 0,.nils,.nils,.nils,.nils,.nils,.nils]])],mm3⟩)
  (.freeze (b:=gN 77) (st:=st3) (sz:=11) (rs:=protos.map Fn.row) (by simp) ⟨.of (.refl _),.of (.refl _),.of (.refl _),.of (.refl _),.of (.refl _),.of (.refl _),trivial⟩
    (.at 0 rfl (by decide) (.of (.refl _)) (.at 1 rfl (by decide) (A7R.one ⟨.of (.refl _),.of (.refl _),.of (.refl _),.of (.refl _),.of (.refl _),.of (.refl _),.of (.refl _),.of (.refl _),Frz.all (by simp),.of (.refl _),.of (.refl _),trivial⟩) (.at 2 rfl (by decide) (.of (.refl _)) trivial)))) ?_
 refine Run.unf S7 (Run.go 100 ?_)
 clear ga3
 simp -implicitDefEqProofs only [go_sem,c3]
 -- ups
 refine C2.at [0] [1,2] (hle _ l9) rfl rfl ?_ (E4 hpk fun e h=>by rw [←hG,L9,h];rfl)
 rintro r h' ma4 _ ⟨N4,a4,ha4,rfl,rfl⟩
 rw [L9,ha4,Rd.bind_ok]at hG
 obtain⟨e4,u4,_⟩:=A0H hg9.1 ha4
 have ga4:J8 a4:=hg9.of e4
 simp -implicitDefEqProofs only [go_sem,rdH]
 refine Run.roundsK (fun(x:List Upv×List Int×Nat×Nat)=>⟨[(82,.int .i64 (x.1.length:Int)),(81,.int .i64 (N4:Int)),(5,.ptr (gN 5) m5 0 0),(4,.ptr (gN 4) n0 0 0),(1,.int .i64 z),(0,.ptr rD s 0 0)],[(rD,s,.rows 1 [[.isl (byR x.2.1)]]),(gN 5,m5,.rows 11 [[.str name,.int .i64 line,.int .i64 params,.bool vararg,.int .i64 regs,.isl (code.map Ins.row),.isl (lines.map D1),.isl (consts.map Kst.row),.isl (protos.map Fn.row),.sl (gN 94) x.2.2.1 0 x.1.length,.nils]]),(gN 4,n0,.rows 11 [[.str [],.int .i64 0,.int .i64 0,.bool false,.int .i64 0,.nils,.nils,.nils,.nils,.nils,.nils]]),(gN 94,x.2.2.1,.rows 3 (x.1.map Upv.row))],x.2.2.2⟩)
  (fun x=>x.1.length≤N4∧J8 x.2.1∧Rd.bind (Q5 upP (N4-x.1.length) x.2.1) (fun r l=>fk5 ⟨name,line,params,vararg,regs,code,lines,consts,protos,[],[]⟩ (x.1++r) l)=G) (fun x=>N4-x.1.length) ([],a4,ma4,ma4+1) ?_ ⟨Nat.zero_le _,ga4,hG⟩ ?_
 ·refine .trans (.fresh (gN 94) 3 _ _ _) (.turn id ⟨.refl _,.refl _,.refl _,.refl _,.refl _,.refl _,trivial⟩ ?_)
  simp -implicitDefEqProofs only [go_sem,Nat.reduceDiv]
  exact .at 1 rfl rfl (.refl _) (.at 2 rfl rfl (.row ⟨.refl _,.refl _,.refl _,.refl _,.refl _,.refl _,.refl _,.refl _,.refl _,.nils,.refl _,trivial⟩) (.at 3 rfl rfl (.refl _) (.at 0 rfl rfl (.refl _) (.of fun e he=>by cases he))))
 clear hG
 rintro⟨ups,l10,st4,mm4⟩ ⟨hk,hg10,hG⟩ lp
 dsimp only at hk hg10 hG lp⊢
 by_cases c4:(ups.length:Int)<(N4:Int)
 ·obtain⟨q,hN⟩: ∃q,N4-ups.length=q+1:=⟨N4-ups.length-1,by omega⟩
  obtain⟨E,hE⟩: ∃E,upP l10=E:=⟨_,rfl⟩
  have hX: ∀e,E= .error e→G= .error e:=fun e h=>A1C hN hG e (hE.trans h)
  have hE0:=hE
  unfold upP at hE
  have hlt:(ups.map Upv.row).length=ups.length:=List.length_map ..
  have hsz:C4 (ups.map Upv.row) 3=True:=eq_true fun r hr=>by obtain⟨y,_,rfl⟩:=List.mem_map.1 hr;rfl
  have htk:(ups.map Upv.row).take ups.length=ups.map Upv.row:=List.take_of_length_le (by omega)
  have kb:ups.length≤10000000000:=by have:=ga4.2;omega
  have j1:(ups.length≤ups.length)=True:=eq_true (Nat.le_refl _)
  have j2:(ups.length≤137438953471)=True:=eq_true (by have:=ga4.2;omega)
  have fin:=fun x b2 s2 m2 s' (h1:upP l10= .ok (x,b2)) (h2:J8 b2)=>lp s' (ups++ [x],b2,s2,m2) ⟨by simp;omega,h2,by
   have:=A1D hN hG h1
   rw [show N4-(ups++ [x]).length=q by simp;omega]
   exact this⟩ (by simp;omega)
  dsimp only at fin
  simp only [List.map_append,List.map_cons,List.map_nil,List.length_append,List.length_cons,List.length_nil]at fin
  clear lp hG
  refine Run.unf S8 (Run.go 100 ?_)
  generalize ups.map Upv.row=RR at*
  generalize ups.length=k at*
  simp -implicitDefEqProofs only [go_sem,c4,hlt,hsz,htk,j1,j2,Nat.reduceDiv]
  refine⟨?_,?_,?_,?_⟩
  all_goals (
   refine C2.at [0] [1,2,3] (hst _ l10) rfl rfl ?_ (E4 hpk fun e h=>hX e (by rw [←hE,h];rfl))
   rintro r h' w0 _ ⟨t,b1,h0,rfl,rfl⟩
   rw [h0,Rd.bind_ok]at hE
   have k0:J8 b1:=hg10.of (A2B hg10.1 h0)
   simp -implicitDefEqProofs only [go_sem,rdH,hlt,hsz,htk,j1,j2,Nat.reduceDiv]
   refine C2.at [0] [1,2,3] (htr _ b1) rfl rfl ?_ (E4 hpk fun e h=>hX e (by rw [←hE,h];rfl))
   rintro r h' w1 _ ⟨tb,b2,h1,rfl,rfl⟩
   rw [h1,Rd.bind_ok]at hE
   have k1:J8 b2:=k0.of (A2D k0.1 h1)
   simp -implicitDefEqProofs only [go_sem,rdH,hlt,hsz,htk,j1,j2,Nat.reduceDiv]
   refine C2.at [0] [1,2,3] (hnu _ b2) rfl rfl ?_ (E4 hpk fun e h=>hX e (by rw [←hE,h];rfl))
   rintro r h' w2 _ ⟨z1,b3,h2,rfl,rfl⟩
   rw [h2,Rd.bind_ok]at hE
   have k2:J8 b3:=k1.of (C9 k1.1 h2).1
   simp -implicitDefEqProofs only [go_sem,rdH,hlt,hsz,htk,j1,j2,Nat.reduceDiv]
   exact⟨⟨by omega,by omega⟩,fin ⟨t,tb,z1⟩ b3 _ _ _ (hE0.trans hE.symm) k2 (.turn id ⟨.refl _,.refl _,.refl _,.refl _,.refl _,.refl _,trivial⟩ (.at 2 rfl rfl (.refl _) (.at 0 rfl rfl (.refl _) (.at 3 rfl rfl (.refl _) (.at 1 rfl rfl (.refl _) (.of fun e he=>by cases he))))))⟩)
 have x4:ups.length=N4:=by omega
 rw [show N4-ups.length=0 by omega,Q5,Rd.bind_ok,List.append_nil,fk5]at hG
 dsimp only at hG
 clear lp
 refine Run.wk (s':=⟨[(82,.int .i64 (ups.length:Int)),(81,.int .i64 (N4:Int)),(5,.ptr (gN 5) m5 0 0),(4,.ptr (gN 4) n0 0 0),(1,.int .i64 z),(0,.ptr rD s 0 0)],[(rD,s,.rows 1 [[.isl (byR l10)]]),(gN 5,m5,.rows 11 [[.str name,.int .i64 line,.int .i64 params,.bool vararg,.int .i64 regs,.isl (code.map Ins.row),.isl (lines.map D1),.isl (consts.map Kst.row),.isl (protos.map Fn.row),.isl (ups.map Upv.row),.nils]]),(gN 4,n0,.rows 11 [[.str [],.int .i64 0,.int .i64 0,.bool false,.int .i64 0,.nils,.nils,.nils,.nils,.nils,.nils]])],mm4⟩)
  (.freeze (b:=gN 94) (st:=st4) (sz:=3) (rs:=ups.map Upv.row) (by simp) ⟨.of (.refl _),.of (.refl _),.of (.refl _),.of (.refl _),.of (.refl _),.of (.refl _),trivial⟩
    (.at 0 rfl (by decide) (.of (.refl _)) (.at 1 rfl (by decide) (A7R.one ⟨.of (.refl _),.of (.refl _),.of (.refl _),.of (.refl _),.of (.refl _),.of (.refl _),.of (.refl _),.of (.refl _),.of (.refl _),Frz.all (by simp),.of (.refl _),trivial⟩) (.at 2 rfl (by decide) (.of (.refl _)) trivial)))) ?_
 refine Run.unf S8 (Run.go 100 ?_)
 clear ga4
 simp -implicitDefEqProofs only [go_sem,c4]
 -- vars
 refine C2.at [0] [1,2] (hle _ l10) rfl rfl ?_ (E4 hpk fun e h=>by rw [←hG,L9,h];rfl)
 rintro r h' ma5 _ ⟨N5,a5,ha5,rfl,rfl⟩
 rw [L9,ha5,Rd.bind_ok]at hG
 obtain⟨e5,u5,_⟩:=A0H hg10.1 ha5
 have ga5:J8 a5:=hg10.of e5
 simp -implicitDefEqProofs only [go_sem,rdH]
 refine Run.roundsK (fun(x:List Vr×List Int×Nat×Nat)=>⟨[(99,.int .i64 (x.1.length:Int)),(98,.int .i64 (N5:Int)),(5,.ptr (gN 5) m5 0 0),(4,.ptr (gN 4) n0 0 0),(1,.int .i64 z),(0,.ptr rD s 0 0)],[(rD,s,.rows 1 [[.isl (byR x.2.1)]]),(gN 5,m5,.rows 11 [[.str name,.int .i64 line,.int .i64 params,.bool vararg,.int .i64 regs,.isl (code.map Ins.row),.isl (lines.map D1),.isl (consts.map Kst.row),.isl (protos.map Fn.row),.isl (ups.map Upv.row),.sl (gN 115) x.2.2.1 0 x.1.length]]),(gN 4,n0,.rows 11 [[.str [],.int .i64 0,.int .i64 0,.bool false,.int .i64 0,.nils,.nils,.nils,.nils,.nils,.nils]]),(gN 115,x.2.2.1,.rows 5 (x.1.map Vr.row))],x.2.2.2⟩)
  (fun x=>x.1.length≤N5∧J8 x.2.1∧Rd.bind (Q5 vrP (N5-x.1.length) x.2.1) (fun r l=>fk6 ⟨name,line,params,vararg,regs,code,lines,consts,protos,ups,[]⟩ (x.1++r) l)=G) (fun x=>N5-x.1.length) ([],a5,ma5,ma5+1) ?_ ⟨Nat.zero_le _,ga5,hG⟩ ?_
 ·refine .trans (.fresh (gN 115) 5 _ _ _) (.turn id ⟨.refl _,.refl _,.refl _,.refl _,.refl _,.refl _,trivial⟩ ?_)
  simp -implicitDefEqProofs only [go_sem,Nat.reduceDiv]
  exact .at 1 rfl rfl (.refl _) (.at 2 rfl rfl (.row ⟨.refl _,.refl _,.refl _,.refl _,.refl _,.refl _,.refl _,.refl _,.refl _,.refl _,.nils,trivial⟩) (.at 3 rfl rfl (.refl _) (.at 0 rfl rfl (.refl _) (.of fun e he=>by cases he))))
 clear hG
 rintro⟨vars,l11,st5,mm5⟩ ⟨hk,hg11,hG⟩ lp
 dsimp only at hk hg11 hG lp⊢
 by_cases c5:(vars.length:Int)<(N5:Int)
 ·obtain⟨q,hN⟩: ∃q,N5-vars.length=q+1:=⟨N5-vars.length-1,by omega⟩
  obtain⟨E,hE⟩: ∃E,vrP l11=E:=⟨_,rfl⟩
  have hX: ∀e,E= .error e→G= .error e:=fun e h=>A1C hN hG e (hE.trans h)
  have hE0:=hE
  unfold vrP at hE
  have hlt:(vars.map Vr.row).length=vars.length:=List.length_map ..
  have hsz:C4 (vars.map Vr.row) 5=True:=eq_true fun r hr=>by obtain⟨y,_,rfl⟩:=List.mem_map.1 hr;rfl
  have htk:(vars.map Vr.row).take vars.length=vars.map Vr.row:=List.take_of_length_le (by omega)
  have kb:vars.length≤10000000000:=by have:=ga5.2;omega
  have j1:(vars.length≤vars.length)=True:=eq_true (Nat.le_refl _)
  have j2:(vars.length≤137438953471)=True:=eq_true (by have:=ga5.2;omega)
  have fin:=fun x b2 s2 m2 s' (h1:vrP l11= .ok (x,b2)) (h2:J8 b2)=>lp s' (vars++ [x],b2,s2,m2) ⟨by simp;omega,h2,by
   have:=A1D hN hG h1
   rw [show N5-(vars++ [x]).length=q by simp;omega]
   exact this⟩ (by simp;omega)
  dsimp only at fin
  simp only [List.map_append,List.map_cons,List.map_nil,List.length_append,List.length_cons,List.length_nil]at fin
  clear lp hG
  refine Run.unf S9 (Run.go 100 ?_)
  generalize vars.map Vr.row=RR at*
  generalize vars.length=k at*
  simp -implicitDefEqProofs only [go_sem,c5,hlt,hsz,htk,j1,j2,Nat.reduceDiv]
  refine⟨?_,?_,?_,?_,?_,?_⟩
  all_goals (
   refine C2.at [0] [1,2,3] (hst _ l11) rfl rfl ?_ (E4 hpk fun e h=>hX e (by rw [←hE,h];rfl))
   rintro r h' w0 _ ⟨t,b1,h0,rfl,rfl⟩
   rw [h0,Rd.bind_ok]at hE
   have k0:J8 b1:=hg11.of (A2B hg11.1 h0)
   simp -implicitDefEqProofs only [go_sem,rdH,hlt,hsz,htk,j1,j2,Nat.reduceDiv]
   refine C2.at [0] [1,2,3] (hnu _ b1) rfl rfl ?_ (E4 hpk fun e h=>hX e (by rw [←hE,h];rfl))
   rintro r h' w1 _ ⟨z1,b2,h1,rfl,rfl⟩
   rw [h1,Rd.bind_ok]at hE
   have k1:J8 b2:=k0.of (C9 k0.1 h1).1
   simp -implicitDefEqProofs only [go_sem,rdH,hlt,hsz,htk,j1,j2,Nat.reduceDiv]
   refine C2.at [0] [1,2,3] (hnu _ b2) rfl rfl ?_ (E4 hpk fun e h=>hX e (by rw [←hE,h];rfl))
   rintro r h' w2 _ ⟨z2,b3,h2,rfl,rfl⟩
   rw [h2,Rd.bind_ok]at hE
   have k2:J8 b3:=k1.of (C9 k1.1 h2).1
   simp -implicitDefEqProofs only [go_sem,rdH,hlt,hsz,htk,j1,j2,Nat.reduceDiv]
   refine C2.at [0] [1,2,3] (hnu _ b3) rfl rfl ?_ (E4 hpk fun e h=>hX e (by rw [←hE,h];rfl))
   rintro r h' w3 _ ⟨z3,b4,h3,rfl,rfl⟩
   rw [h3,Rd.bind_ok]at hE
   have k3:J8 b4:=k2.of (C9 k2.1 h3).1
   simp -implicitDefEqProofs only [go_sem,rdH,hlt,hsz,htk,j1,j2,Nat.reduceDiv]
   refine C2.at [0] [1,2,3] (hnu _ b4) rfl rfl ?_ (E4 hpk fun e h=>hX e (by rw [←hE,h];rfl))
   rintro r h' w4 _ ⟨z4,b5,h4,rfl,rfl⟩
   rw [h4,Rd.bind_ok]at hE
   have k4:J8 b5:=k3.of (C9 k3.1 h4).1
   simp -implicitDefEqProofs only [go_sem,rdH,hlt,hsz,htk,j1,j2,Nat.reduceDiv]
   exact⟨⟨by omega,by omega⟩,fin ⟨t,z1,z2,z3,z4⟩ b5 _ _ _ (hE0.trans hE.symm) k4 (.turn id ⟨.refl _,.refl _,.refl _,.refl _,.refl _,.refl _,trivial⟩ (.at 2 rfl rfl (.refl _) (.at 0 rfl rfl (.refl _) (.at 3 rfl rfl (.refl _) (.at 1 rfl rfl (.refl _) (.of fun e he=>by cases he))))))⟩)
 have x5:vars.length=N5:=by omega
 rw [show N5-vars.length=0 by omega,Q5,Rd.bind_ok,List.append_nil,fk6]at hG
 dsimp only at hG
 clear lp
 refine Run.wk (s':=⟨[(99,.int .i64 (vars.length:Int)),(98,.int .i64 (N5:Int)),(5,.ptr (gN 5) m5 0 0),(4,.ptr (gN 4) n0 0 0),(1,.int .i64 z),(0,.ptr rD s 0 0)],[(rD,s,.rows 1 [[.isl (byR l11)]]),(gN 5,m5,.rows 11 [[.str name,.int .i64 line,.int .i64 params,.bool vararg,.int .i64 regs,.isl (code.map Ins.row),.isl (lines.map D1),.isl (consts.map Kst.row),.isl (protos.map Fn.row),.isl (ups.map Upv.row),.isl (vars.map Vr.row)]]),(gN 4,n0,.rows 11 [[.str [],.int .i64 0,.int .i64 0,.bool false,.int .i64 0,.nils,.nils,.nils,.nils,.nils,.nils]])],mm5⟩)
  (.freeze (b:=gN 115) (st:=st5) (sz:=5) (rs:=vars.map Vr.row) (by simp) ⟨.of (.refl _),.of (.refl _),.of (.refl _),.of (.refl _),.of (.refl _),.of (.refl _),trivial⟩
    (.at 0 rfl (by decide) (.of (.refl _)) (.at 1 rfl (by decide) (A7R.one ⟨.of (.refl _),.of (.refl _),.of (.refl _),.of (.refl _),.of (.refl _),.of (.refl _),.of (.refl _),.of (.refl _),.of (.refl _),.of (.refl _),Frz.all (by simp),trivial⟩) (.at 2 rfl (by decide) (.of (.refl _)) trivial)))) ?_
 refine Run.unf S9 (Run.go 100 ?_)
 clear ga5
 simp -implicitDefEqProofs only [go_sem,c5]
 subst hQ
 refine .to (r2:= .agg (Fn.row ⟨name,line,params,vararg,regs,code,lines,consts,protos,ups,vars⟩)) (h2:=rdH rD s l11) ⟨_,_,hG.symm,rfl,rfl⟩ (.turn id ⟨.of_eq (by simp [C8,Fn.row_eq]),trivial⟩ (.at 1 rfl rfl (.refl _) (.of fun e he=>by cases he)))
end Go.Proofs.YtcjgeliglgcflaaGreatDoor
