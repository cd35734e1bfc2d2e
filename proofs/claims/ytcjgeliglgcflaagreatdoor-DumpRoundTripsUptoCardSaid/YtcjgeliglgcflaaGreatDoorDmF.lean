/-
 What the writer of numbers, truths, texts and values puts behind its bytes. No condition.
-/
import Derived.Test.YtcjgeliglgcflaaGreatDoorFn
import Derived.Test.YtcjgeliglgcflaaGreatDoorCode
import Derived.Test.YtcjgeliglgcflaaGreatDoorFnCk
set_option linter.unusedVariables false
set_option linter.unusedSimpArgs false
set_option maxRecDepth 100000
set_option maxHeartbeats 0
namespace Go.Proofs.YtcjgeliglgcflaaGreatDoor
open Go.Abs
attribute [local irreducible] A3 Run
abbrev dW:Nat:=(6*10000+15)
abbrev dB:Nat:=(6*10000+12)
-- EV: dW, dB
attribute [local go_sem] dW dB
def byR(l:List Int):List (List V):=l.map fun z=> [.int .u8 z]
def wrH(W sW B s:Nat)(l:List Int):A2:= [(W,sW,.rows 1 [[.sl B s 0 l.length]]),(B,s,.rows 1 (byR l))]
theorem P5(l:List Int):(byR l).length=l.length:=List.length_map ..
theorem A3s(l:List Int):C4 (byR l) 1=True:=eq_true (fun r hr=>by obtain⟨y,_,rfl⟩:=List.mem_map.1 hr;rfl)
theorem B1v(l:List Int)(z:Int):byR (l++ [z])=byR l++ [[.int .u8 z]]:=by simp [byR]
theorem A5Q(l:List Int):(byR l).take l.length=byR l:=List.take_of_length_le (by rw [P5];exact Nat.le_refl _)
def uN(z:Int):Nat→Int
 |0=>IntKind.u64.wrap z
 |k+1=>shZ false .u64 (uN z k) 8
def A7o(z:Int):Nat→List Int
 |0=> []
 |k+1=>A7o z k++ [IntKind.u8.wrap (uN z k)]
def D8(z:Int):List Int:=A7o z 8
theorem B2i(z:Int): ∀k,(A7o z k).length=k
 |0=>rfl
 |k+1=>by rw [A7o,List.length_append,B2i z k];rfl
theorem B2j(W sW B s n:Nat)(hWB:W≠B)(l:List Int)(hl:l.length≤100000000000000)(z:Int):
  A3 Tryz.prog 35 [.ptr W sW 0 0,.int .i64 z] (wrH W sW B s l) n fun r h' n'=>r= .tup []∧ ∃s',h'=wrH W sW B s' (l++D8 z):=by
 have q1:(W=B)=False:=eq_false hWB
 have q2:(B=W)=False:=eq_false (Ne.symm hWB)
 refine A3.enterK A1U (Nat.le_of_ble_eq_true rfl) fun Q hQ=>Run.go 100 ?_
 simp -implicitDefEqProofs only [go_sem,A8]
 refine Run.roundsK (fun(x:Nat×Nat×Nat)=>⟨[(7,.int .i64 x.1),(4,.int .u64 (uN z x.1)),(0,.ptr W sW 0 0)],wrH W sW B x.2.1 (l++A7o z x.1),x.2.2⟩) (fun x=>x.1≤8) (fun x=>8-x.1) (0,s,n) ?_ (Nat.zero_le _) ?_
 ·exact .turn id ⟨.refl _,.refl _,.refl _,trivial⟩ (.of fun e he=>⟨e,by simpa [A7o]using he,rfl,rfl,.refl _⟩)
 rintro⟨k,s1,m⟩ hk ih
 dsimp only at hk ih⊢
 refine Run.unf A5D (Run.go 100 ?_)
 by_cases c:(k:Int)<8
 ·have hR:=P5 (l++A7o z k)
  have hS:=A3s (l++A7o z k)
  have hT:=A5Q (l++A7o z k)
  have hle:(l++A7o z k).length≤100000000000010:=by rw [List.length_append,B2i];omega
  have fin:=fun s' s2 m2=>ih s' (k+1,s2,m2) (by dsimp only;omega) (by dsimp only;omega)
  dsimp only at fin
  unfold wrH at fin
  rw [A7o,←List.append_assoc,B1v,List.length_append,List.length_singleton]at fin
  unfold wrH
  generalize byR (l++A7o z k)=BR at*
  generalize (l++A7o z k).length=L at*
  have f1:(L≤L)=True:=eq_true (Nat.le_refl _)
  simp -implicitDefEqProofs only [go_sem,c,q1,q2,hR,hS,hT,f1]
  exact⟨by omega,⟨by omega,by omega⟩,fin _ m (m+1) (.turn id ⟨.refl _,.refl _,.refl _,trivial⟩ (.of fun e he=>⟨e,he,rfl,rfl,.refl _⟩))⟩
 ·obtain rfl:k=8:=by omega
  simp -implicitDefEqProofs only [go_sem,c]
  subst hQ
  exact .is ⟨rfl,s1,rfl⟩
theorem B2H(W sW B s n:Nat)(hWB:W≠B)(l:List Int)(hl:l.length≤100000000000000)(b:Bool):
  A3 Tryz.prog 36 [.ptr W sW 0 0,.bool b] (wrH W sW B s l) n fun r h' n'=>r= .tup []∧ ∃s',h'=wrH W sW B s' (l++ [if b then 1 else 0]):=by
 have q1:(W=B)=False:=eq_false hWB
 have q2:(B=W)=False:=eq_false (Ne.symm hWB)
 refine A3.enterK A0F (Nat.le_of_ble_eq_true rfl) fun Q hQ=>Run.go 100 ?_
 have hR:=P5 l
 have hS:=A3s l
 have hT:=A5Q l
 have f1:(l.length≤l.length)=True:=eq_true (Nat.le_refl _)
 have hW: ∀z,wrH W sW B n (l++ [z])= [(W,sW,.rows 1 [[.sl B n 0 (l.length+1)]]),(B,n,.rows 1 (byR l++ [[.int .u8 z]]))]:=fun z=>by unfold wrH;rw [B1v,List.length_append,List.length_singleton]
 unfold wrH
 cases b<;>
 ·simp -implicitDefEqProofs only [go_sem,A8,q1,q2,hR,hS,hT,f1]
  subst hQ
  exact⟨by omega,.is ⟨rfl,n,(hW _).symm⟩⟩
def w8(s:List UInt8):List Int:=D8 s.length++s.map fun u=>(u.toNat:Int)
theorem B8j(a b:List Int):byR (a++b)=byR a++byR b:=by simp [byR]
theorem D2(z:Int):(D8 z).length=8:=B2i z 8
theorem B6J(W sW B s n:Nat)(hWB:W≠B)(l:List Int)(t:List UInt8)(hl:l.length+t.length≤90000000000000):
  A3 Tryz.prog 34 [.ptr W sW 0 0,.str t] (wrH W sW B s l) n fun r h' n'=>r= .tup []∧ ∃s',h'=wrH W sW B s' (l++w8 t):=by
 have q1:(W=B)=False:=eq_false hWB
 have q2:(B=W)=False:=eq_false (Ne.symm hWB)
 refine A3.enterK A1V (Nat.le_of_ble_eq_true rfl) fun Q hQ=>Run.go 100 ?_
 simp -implicitDefEqProofs only [go_sem,A8]
 refine(B2j W sW B s _ hWB l (by omega) t.length).mono ?_
 rintro r h' n1 ⟨rfl,s1,rfl⟩
 have hR:=P5 (l++D8 t.length)
 have hS:=A3s (l++D8 t.length)
 have hT:=A5Q (l++D8 t.length)
 have hle:(l++D8 t.length).length=l.length+8:=by rw [List.length_append,D2]
 have hst:C1 t=byR (t.map fun u=>(u.toNat:Int)):=by simp [C1,byR]
 have hsl:(C1 t).length=t.length:=by rw [hst,P5,List.length_map]
 have hsz:C4 (C1 t) 1=True:=by rw [hst];exact A3s _
 have hW: ∀s2,wrH W sW B s2 (l++w8 t)= [(W,sW,.rows 1 [[.sl B s2 0 ((l++D8 t.length).length+t.length)]]),(B,s2,.rows 1 (byR (l++D8 t.length)++C1 t))]:=fun s2=>by
  unfold wrH w8
  rw [←List.append_assoc,B8j,List.length_append,List.length_map,hst]
 rw [show C1 t=t.map fun b=> [V.int .u8 (b.toNat:Int)] from rfl]at hst hsl hsz hW
 unfold wrH
 generalize byR (l++D8 t.length)=BR at*
 generalize (l++D8 t.length).length=L at*
 have f1:(L≤L)=True:=eq_true (Nat.le_refl _)
 simp -implicitDefEqProofs only [go_sem,q1,q2,hR,hS,hT,f1,hsl,hsz]
 subst hQ
 exact⟨by omega,.is ⟨rfl,n1,(hW _).symm⟩⟩
def D1b(W sW B:Nat)(l X:List Int):Res:=fun r h' _=>r= .tup []∧ ∃s' L,L=l++X∧L.length=l.length+X.length∧h'=wrH W sW B s' L
theorem A1w{P:Program}{f:FuncId}{xs:List V}{h:A2}{n W sW B:Nat}{l X:List Int}(hc:A3 P f xs h n fun r h' n'=>r= .tup []∧ ∃s',h'=wrH W sW B s' (l++X)):A3 P f xs h n (D1b W sW B l X):=
 hc.mono fun r h' n' ⟨h1,s',h2⟩=>⟨h1,s',_,rfl,List.length_append,h2⟩
def T7(v:Kst):List Int:= [IntKind.u8.wrap v.kind]++(if v.kind=1 then [if v.ref=1 then 1 else 0]else if v.kind=2 then D8 v.p++D8 v.q else if v.kind=3 then w8 v.str else [])
theorem B8a(sW s n:Nat)(l:List Int)(v:Kst)(hl:l.length+(T7 v).length≤80000000000000):
  A3 Tryz.prog 37 [.ptr dW sW 0 0,.agg v.row] (wrH dW sW dB s l) n fun r h' n'=>r= .tup []∧ ∃s',h'=wrH dW sW dB s' (l++T7 v):=by
 have hWB:dW≠dB:=by decide
 have nc:=fun s l hl z n=>A1w (B2j dW sW dB s n hWB l hl z)
 have tc:=fun s l hl b n=>A1w (B2H dW sW dB s n hWB l hl b)
 have sc:=fun s l t hl n=>A1w (B6J dW sW dB s n hWB l t hl)
 refine A3.enterK A0G (Nat.le_of_ble_eq_true rfl) fun Q hQ=>Run.go 100 ?_
 have hR:=P5 l
 have hS:=A3s l
 have hT:=A5Q l
 have f1:(l.length≤l.length)=True:=eq_true (Nat.le_refl _)
 have hW: ∀(z:Int) (s2:Nat),[(dW,sW,.rows 1 [[.sl dB s2 0 (l.length+1)]]),(dB,s2,Blk.rows 1 (byR l++ [[V.int .u8 z]]))]=wrH dW sW dB s2 (l++ [z]):=fun z s2=>by unfold wrH;rw [B1v,List.length_append,List.length_singleton]
 have l1: ∀z:Int,(l++ [z]).length=l.length+1:=fun z=>by simp
 unfold wrH
 by_cases c1:v.kind=1
 ·have e:l++T7 v=(l++ [IntKind.u8.wrap 1])++ [if v.ref=1 then 1 else 0]:=by unfold T7;rw [if_pos c1,c1];simp
  rw [e]at hQ
  simp -implicitDefEqProofs only [go_sem,A8,Kst.row,hR,hS,hT,f1,c1]
  refine⟨by omega,A3.at [0,1] [2] (tc _ (l++ [_]) (by rw [l1];omega) _ _) (hW _ _) rfl ?_⟩
  rintro r h' n1 hn1 ⟨rfl,s1,L1,rfl,k1,rfl⟩
  simp -implicitDefEqProofs only [go_sem]
  subst hQ
  exact .to (h2:=wrH dW sW dB s1 _) (n2:=n1) ⟨rfl,s1,rfl⟩ (.turn id ⟨.refl _,trivial⟩ (.of fun e he=>⟨e,List.mem_append_left _ (by simpa using he),rfl,rfl,.refl _⟩))
 by_cases c2:v.kind=2
 ·have e:l++T7 v=((l++ [IntKind.u8.wrap 2])++D8 v.p)++D8 v.q:=by unfold T7;rw [if_neg c1,if_pos c2,c2];simp
  rw [e]at hQ
  simp -implicitDefEqProofs only [go_sem,A8,Kst.row,hR,hS,hT,f1,c2]
  refine⟨by omega,A3.at [0,1] [2] (nc _ (l++ [_]) (by rw [l1];omega) _ _) (hW _ _) rfl ?_⟩
  rintro r h' n1 hn1 ⟨rfl,s1,L1,hL1,k1,rfl⟩
  rw [l1,D2]at k1
  rw [←hL1]at hQ
  simp -implicitDefEqProofs only [go_sem,wrH]
  refine A3.at [0,1] [2] (nc s1 L1 (by omega) _ _) rfl rfl ?_
  rintro r h' n2 hn2 ⟨rfl,s2,L2,hL2,k2,rfl⟩
  rw [←hL2]at hQ
  simp -implicitDefEqProofs only [go_sem]
  subst hQ
  exact .to (h2:=wrH dW sW dB s2 _) (n2:=n2) ⟨rfl,s2,rfl⟩ (.turn id ⟨.refl _,trivial⟩ (.of fun e he=>⟨e,List.mem_append_left _ he,rfl,rfl,.refl _⟩))
 by_cases c3:v.kind=3
 ·have e:l++T7 v=(l++ [IntKind.u8.wrap 3])++w8 v.str:=by unfold T7;rw [if_neg c1,if_neg c2,if_pos c3,c3];simp
  rw [e]at hQ
  simp -implicitDefEqProofs only [go_sem,A8,Kst.row,hR,hS,hT,f1,c3]
  have hvl:(T7 v).length=1+(8+v.str.length):=by unfold T7 w8;rw [if_neg c1,if_neg c2,if_pos c3];simp only [List.length_append,List.length_singleton,D2,List.length_map]
  refine⟨by omega,A3.at [0,1] [2] (sc _ (l++ [_]) _ (by rw [l1];omega) _) (hW _ _) rfl ?_⟩
  rintro r h' n1 hn1 ⟨rfl,s1,L1,hL1,k1,rfl⟩
  rw [←hL1]at hQ
  simp -implicitDefEqProofs only [go_sem]
  subst hQ
  exact .to (h2:=wrH dW sW dB s1 _) (n2:=n1) ⟨rfl,s1,rfl⟩ (.turn id ⟨.refl _,trivial⟩ (.of fun e he=>⟨e,List.mem_append_left _ he,rfl,rfl,.refl _⟩))
 ·have e:l++T7 v=l++ [IntKind.u8.wrap v.kind]:=by unfold T7;rw [if_neg c1,if_neg c2,if_neg c3];simp
  rw [e]at hQ
  simp -implicitDefEqProofs only [go_sem,A8,Kst.row,hR,hS,hT,f1,c1,c2,c3]
  subst hQ
  exact⟨by omega,.to (h2:=wrH dW sW dB (n+1) _) (n2:=n+1+1) ⟨rfl,n+1,rfl⟩ (.turn id ⟨.refl _,trivial⟩ (by rw [←hW];exact .at 0 rfl rfl (.refl _) (.at 1 rfl rfl (.refl _) (.of fun e he=>by cases he))))⟩
abbrev fN(k:Nat):Nat:=16*10000+k
-- EV: dW, dB, fN
attribute [local go_sem] dW dB fN
def F4(l:List Int):List Int:=l.flatMap D8
theorem T1: ∀l:List Int,(F4 l).length=8*l.length
 | []=>rfl
 |z::r=>by
  have:=T1 r
  unfold F4 at this⊢
  rw [List.flatMap_cons,List.length_append,this,D2,List.length_cons]
  omega
def F9(i:Ins):List Int:= [i.op,i.a,i.b,i.c,i.d]
def A2F(v:Vr):List Int:= [v.reg,v.lo,v.hi,v.attr]
def upL(u:Upv):List Int:=w8 u.name++ [if u.loc then 1 else 0]++D8 u.idx
def vrL(v:Vr):List Int:=w8 v.name++F4 (A2F v)
mutual
def W6:Fn→List Int
 |⟨name,line,params,vararg,regs,code,lines,consts,l,ups,vars⟩=>
  w8 name++D8 line++D8 params++ [if vararg then 1 else 0]++D8 regs++D8 code.length++code.flatMap (fun i=>F4 (F9 i))++D8 lines.length++F4 lines++D8 consts.length++consts.flatMap T7++D8 l.length++encL l++D8 ups.length++ups.flatMap upL++D8 vars.length++vars.flatMap vrL
def encL:List Fn→List Int
 | []=> []
 |q::r=>W6 q++encL r
end
theorem A0w(p:Fn):W6 p=w8 p.name++D8 p.line++D8 p.params++ [if p.vararg then 1 else 0]++D8 p.regs++D8 p.code.length++p.code.flatMap (fun i=>F4 (F9 i))++D8 p.lines.length++F4 p.lines++D8 p.consts.length++p.consts.flatMap T7++D8 p.protos.length++encL p.protos++D8 p.ups.length++p.ups.flatMap upL++D8 p.vars.length++p.vars.flatMap vrL:=by
 obtain⟨a,b,c,d,e,f,g,h,i,j,k⟩:=p
 rw [W6]
theorem Y8: ∀l:List Fn,encL l=l.flatMap W6
 | []=>rfl
 |q::r=>by rw [encL,Y8 r];rfl
theorem Y9{α:Type}{f:α→List Int}{l:List α}{k:Nat}{x:α}(h:l[k]? =some x):(l.take (k+1)).flatMap f=(l.take k).flatMap f++f x:=by
 rw [List.take_add_one,h,List.flatMap_append]
 simp
theorem F2{α:Type}{f:α→List Int}(hf: ∀x,1≤(f x).length): ∀l:List α,l.length≤(l.flatMap f).length
 | []=>Nat.zero_le _
 |x::r=>by
  have:=F2 hf r
  have:=hf x
  rw [List.flatMap_cons,List.length_append,List.length_cons]
  omega
theorem W3{α:Type}{f:α→List Int}(l:List α)(k:Nat):((l.take k).flatMap f).length≤(l.flatMap f).length:=by
 conv=>rhs;rw [←List.take_append_drop k l]
 rw [List.flatMap_append,List.length_append]
 omega
theorem B9G(p:Fn): ∀(sW s n:Nat) (l:List Int),l.length+(W6 p).length≤80000000000000→
  A3 Tryz.prog 16 [.ptr dW sW 0 0,.agg p.row] (wrH dW sW dB s l) n fun r h' n'=>r= .tup []∧ ∃s',h'=wrH dW sW dB s' (l++W6 p):=by
 induction p using Fn.ind with
 |h p ih=>
 intro sW s n l hl
 have hWB:dW≠dB:=by decide
 have nc:=fun s l hl z n=>A1w (B2j dW sW dB s n hWB l hl z)
 have tc:=fun s l hl b n=>A1w (B2H dW sW dB s n hWB l hl b)
 have sc:=fun s l t hl n=>A1w (B6J dW sW dB s n hWB l t hl)
 have vc:=fun s l v hl n=>A1w (B8a sW s n l v hl)
 have fc:=fun q hq s n l hl=>A1w (ih q hq sW s n l hl)
 clear ih
 rw [A0w]at hl⊢
 rw [Fn.row_eq]
 have hlC:(p.code.map Ins.row).length=p.code.length:=List.length_map ..
 have hlL:(p.lines.map D1).length=p.lines.length:=List.length_map ..
 have hlK:(p.consts.map Kst.row).length=p.consts.length:=List.length_map ..
 have hlP:(p.protos.map Fn.row).length=p.protos.length:=List.length_map ..
 have hlU:(p.ups.map Upv.row).length=p.ups.length:=List.length_map ..
 have hlV:(p.vars.map Vr.row).length=p.vars.length:=List.length_map ..
 have hzC:C4 (p.code.map Ins.row) 5=True:=eq_true (fun r hr=>by obtain⟨y,_,rfl⟩:=List.mem_map.1 hr;rfl)
 have hzL:C4 (p.lines.map D1) 1=True:=eq_true (fun r hr=>by obtain⟨y,_,rfl⟩:=List.mem_map.1 hr;rfl)
 have hzK:C4 (p.consts.map Kst.row) 5=True:=eq_true (fun r hr=>by obtain⟨y,_,rfl⟩:=List.mem_map.1 hr;rfl)
 have hzP:C4 (p.protos.map Fn.row) 11=True:=eq_true (fun r hr=>by obtain⟨y,_,rfl⟩:=List.mem_map.1 hr;exact Fn.row_len y)
 have hzU:C4 (p.ups.map Upv.row) 3=True:=eq_true (fun r hr=>by obtain⟨y,_,rfl⟩:=List.mem_map.1 hr;rfl)
 have hzV:C4 (p.vars.map Vr.row) 5=True:=eq_true (fun r hr=>by obtain⟨y,_,rfl⟩:=List.mem_map.1 hr;rfl)
 generalize hCR:p.code.map Ins.row=CR at*
 generalize hLR:p.lines.map D1=LR at*
 generalize hKR:p.consts.map Kst.row=KR at*
 generalize hPR:p.protos.map Fn.row=PR at*
 generalize hUR:p.ups.map Upv.row=UR at*
 generalize hVR:p.vars.map Vr.row=VR at*
 refine A3.enterK Y7 (Nat.le_of_ble_eq_true rfl) fun Q hQ=>Run.go 100 ?_
 have hsl: ∀t:List UInt8,(w8 t).length=8+t.length:=fun t=>by unfold w8;rw [List.length_append,D2,List.length_map]
 simp only [List.length_append,hsl,D2,List.length_cons,List.length_nil]at hl
 have hcC:=F2 (f:=fun i=>F4 (F9 i)) (fun i=>by rw [T1];show 1≤8*5;decide) p.code
 have hcL:=F2 (f:=D8) (fun z=>by rw [D2];decide) p.lines
 have hcK:=F2 (f:=T7) (fun v=>by unfold T7;simp) p.consts
 have hcP:=F2 (f:=W6) (fun q=>by rw [A0w];simp only [List.length_append,D2];omega) p.protos
 have hcU:=F2 (f:=upL) (fun u=>by unfold upL;simp only [List.length_append,List.length_singleton];omega) p.ups
 have hcV:=F2 (f:=vrL) (fun v=>by unfold vrL;simp only [List.length_append,hsl];omega) p.vars
 rw [Y8,show F4 p.lines=p.lines.flatMap D8 from rfl]at hl hQ
 simp only [←List.append_assoc]at hQ
 unfold wrH
 simp -implicitDefEqProofs only [go_sem,A8]
 refine A3.at [1,2] [0] (sc s l p.name (by omega) _) rfl rfl ?_
 rintro r h' n1 hn1 ⟨rfl,s1,L1,e1,k1,rfl⟩
 rw [←e1]at hQ
 rw [hsl]at k1
 simp -implicitDefEqProofs only [go_sem,wrH]
 refine A3.at [0,1] [2] (nc s1 L1 (by omega) _ _) rfl rfl ?_
 rintro r h' n2 hn2 ⟨rfl,s2,L2,e2,k2,rfl⟩
 rw [←e2]at hQ
 rw [D2]at k2
 simp -implicitDefEqProofs only [go_sem,wrH]
 refine A3.at [0,1] [2] (nc s2 L2 (by omega) _ _) rfl rfl ?_
 rintro r h' n3 hn3 ⟨rfl,s3,L3,e3,k3,rfl⟩
 rw [←e3]at hQ
 rw [D2]at k3
 simp -implicitDefEqProofs only [go_sem,wrH]
 refine A3.at [0,1] [2] (tc s3 L3 (by omega) _ _) rfl rfl ?_
 rintro r h' n4 hn4 ⟨rfl,s4,L4,e4,k4,rfl⟩
 rw [←e4]at hQ
 rw [List.length_singleton]at k4
 simp -implicitDefEqProofs only [go_sem,wrH]
 refine A3.at [0,1] [2] (nc s4 L4 (by omega) _ _) rfl rfl ?_
 rintro r h' n5 hn5 ⟨rfl,s5,L5,e5,k5,rfl⟩
 rw [←e5]at hQ
 rw [D2]at k5
 simp -implicitDefEqProofs only [go_sem,wrH,hlC]
 refine A3.at [0,1] [2] (nc s5 L5 (by omega) _ _) rfl rfl ?_
 rintro r h' n6 hn6 ⟨rfl,s6,L6,e6,k6,rfl⟩
 rw [←e6]at hQ
 rw [D2]at k6
 simp -implicitDefEqProofs only [go_sem,wrH,hlC]
 -- LOOPS
 refine Run.roundsK (fun(x:Nat×Nat×Nat)=>⟨[(48,.int .i64 x.1),(47,.int .i64 p.code.length),(46,.isl CR),(3,.ptr (fN 3) n 0 0),(0,.ptr dW sW 0 0)],wrH dW sW dB x.2.1 (L6++(p.code.take x.1).flatMap (fun i=>F4 (F9 i)))++ [(fN 3,n,.rows 11 [[.str p.name,.int .i64 p.line,.int .i64 p.params,.bool p.vararg,.int .i64 p.regs,.isl CR,.isl LR,.isl KR,.isl PR,.isl UR,.isl VR]])],x.2.2⟩) (fun x=>x.1≤p.code.length) (fun x=>p.code.length-x.1) (0,s6,n6) ?_ (Nat.zero_le _) ?_
 ·exact .turn id ⟨.refl _,.refl _,.refl _,.refl _,.refl _,trivial⟩ (.of fun e he=>⟨e,by simpa [wrH]using he,rfl,rfl,.refl _⟩)
 rintro⟨k,t1,m1⟩ hk lp
 dsimp only at hk lp⊢
 refine Run.unf A1L (Run.go 100 ?_)
 have hfl:=W3 (f:=(fun i=>F4 (F9 i))) p.code k
 obtain⟨M1,eM1⟩: ∃L,L=L6++(p.code.take k).flatMap (fun i=>F4 (F9 i)):=⟨_,rfl⟩
 have kM1:=congrArg List.length eM1
 rw [List.length_append]at kM1
 rw [←eM1]
 by_cases c:(k:Int)<p.code.length
 ·obtain⟨i,hi⟩: ∃i,p.code[k]? =some i:=⟨p.code[k]'(by omega),by simp⟩
  have hir:CR[k]? =some [.int .i64 i.op,.int .i64 i.a,.int .i64 i.b,.int .i64 i.c,.int .i64 i.d]:=by rw [←hCR,List.getElem?_map,hi];rfl
  have hnx:=Y9 (f:=(fun i=>F4 (F9 i))) hi
  have hfl2:=W3 (f:=(fun i=>F4 (F9 i))) p.code (k+1)
  rw [hnx,List.length_append]at hfl2
  have k0:((0:Int)≤(k:Int))=True:=eq_true (by omega)
  have k1':(k<p.code.length)=True:=eq_true (by omega)
  have fin:=fun s' s2 m2=>lp s' (k+1,s2,m2) (by dsimp only;omega) (by dsimp only;omega)
  dsimp only at fin
  rw [hnx,←List.append_assoc,←eM1]at fin
  simp -implicitDefEqProofs only [go_sem,wrH,c,k0,k1',hlC,hzC,hir,Option.some.injEq,forall_eq']
  obtain⟨stI,hstI⟩: ∃st,st=m1+1:=⟨_,rfl⟩
  rw [←hstI]
  have hiz: ∀j,(((F9 i).take j).length≤5):=fun j=>by rw [List.length_take];exact Nat.min_le_right _ _
  have hil: ∀j,(F4 ((F9 i).take j)).length=8*((F9 i).take j).length:=fun j=>T1 _
  refine Run.roundsK (fun(y:Nat×Nat×Nat)=>⟨[(64,.int .i64 y.1),(63,.int .i64 5),(62,.sl (fN 62) stI 0 5),(48,.int .i64 k),(47,.int .i64 p.code.length),(46,.isl CR),(3,.ptr (fN 3) n 0 0),(0,.ptr dW sW 0 0)],wrH dW sW dB y.2.1 (M1++F4 ((F9 i).take y.1))++ [(fN 62,stI,.rows 1 ((F9 i).map D1)),(fN 3,n,.rows 11 [[.str p.name,.int .i64 p.line,.int .i64 p.params,.bool p.vararg,.int .i64 p.regs,.isl CR,.isl LR,.isl KR,.isl PR,.isl UR,.isl VR]])],y.2.2⟩) (fun y=>y.1≤5) (fun y=>5-y.1) (0,t1,(stI+1)) ?_ (Nat.zero_le _) ?_
  ·exact .turn id ⟨.refl _,.refl _,.refl _,.refl _,.refl _,.refl _,.refl _,.refl _,trivial⟩ (.of fun e he=>⟨e,by simp only [wrH,List.take_zero,F4,List.flatMap_nil,List.append_nil,List.cons_append,List.nil_append,List.mem_cons,List.not_mem_nil,or_false]at he⊢;rcases he with h|h|h|h<;>simp [h,F9,A2F,D1],rfl,rfl,.refl _⟩)
  rintro⟨j,sj,nj⟩ hj lpi
  dsimp only at hj lpi⊢
  refine Run.unf A1M (Run.go 100 ?_)
  have hlZ:((F9 i).map D1).length=5:=rfl
  have hzZ:C4 ((F9 i).map D1) 1=True:=eq_true (fun r hr=>by obtain⟨y,_,rfl⟩:=List.mem_map.1 hr;rfl)
  have hrZ: ∀z,(F9 i)[j]? =some z→((F9 i).map D1)[j]? =some [.int .i64 z]:=fun z h=>by rw [List.getElem?_map,h];rfl
  obtain⟨Lj,ej⟩: ∃L,L=M1++F4 ((F9 i).take j):=⟨_,rfl⟩
  have kj:=congrArg List.length ej
  rw [List.length_append,hil]at kj
  have hij:=hiz j
  rw [←ej]
  by_cases cj:(j:Int)<5
  ·obtain⟨z,hz⟩: ∃z,(F9 i)[j]? =some z:=⟨(F9 i)[j]'(by show j<5;omega),by simp⟩
   have hzr:=hrZ z hz
   have hnz:=Y9 (f:=D8) hz
   have j0:((0:Int)≤(j:Int))=True:=eq_true (by omega)
   have j1:(j<5)=True:=eq_true (by omega)
   have finj:=fun s' s2 m2=>lpi s' (j+1,s2,m2) (by dsimp only;omega) (by dsimp only;omega)
   dsimp only at finj
   rw [show F4 ((F9 i).take (j+1))=_ from hnz,←List.append_assoc,←show Lj=M1++((F9 i).take j).flatMap D8 from ej]at finj
   generalize (F9 i).map D1=ZR at*
   simp -implicitDefEqProofs only [go_sem,wrH,cj,j0,j1,hlZ,hzZ,hzr,Option.some.injEq,forall_eq']
   refine A3.at [0,1] [2,3] (nc sj Lj (by omega) _ _) rfl rfl ?_
   rintro r h' nz hnz2 ⟨rfl,sz,Lz,ez,kz,rfl⟩
   rw [←ez]at finj
   simp -implicitDefEqProofs only [go_sem,wrH]
   exact⟨by omega,finj _ sz nz (.turn id ⟨.refl _,.refl _,.refl _,.refl _,.refl _,.refl _,.refl _,.refl _,trivial⟩ (.of fun e he=>⟨e,by simp only [wrH,List.cons_append,List.nil_append,List.mem_cons,List.not_mem_nil,or_false]at he⊢;rcases he with h|h|h|h<;>simp [h],rfl,rfl,.refl _⟩))⟩
  ·obtain rfl:j=5:=by omega
   rw [show (F9 i).take 5=F9 i from rfl]at ej
   rw [←ej]at fin
   simp -implicitDefEqProofs only [go_sem,cj]
   exact⟨by omega,fin _ sj nj (.turn id ⟨.refl _,.refl _,.refl _,.refl _,.refl _,trivial⟩ (.of fun e he=>⟨e,by simp only [wrH,List.cons_append,List.nil_append,List.mem_cons,List.not_mem_nil,or_false]at he⊢;rcases he with h|h|h<;>simp [h],rfl,rfl,.refl _⟩))⟩
 ·obtain rfl:k=p.code.length:=by omega
  rw [List.take_length]at eM1 hfl kM1
  rw [←eM1]at hQ
  clear lp
  simp -implicitDefEqProofs only [go_sem,wrH,c,hlL]
  refine A3.at [0,1] [2] (nc t1 M1 (by omega) _ _) rfl rfl ?_
  rintro r h' q1 hq1 ⟨rfl,u1,N1,eN1,kN1,rfl⟩
  rw [←eN1]at hQ
  rw [D2]at kN1
  simp -implicitDefEqProofs only [go_sem,wrH,hlL]
  refine Run.roundsK (fun(x:Nat×Nat×Nat)=>⟨[(81,.int .i64 x.1),(80,.int .i64 p.lines.length),(79,.isl LR),(3,.ptr (fN 3) n 0 0),(0,.ptr dW sW 0 0)],wrH dW sW dB x.2.1 (N1++(p.lines.take x.1).flatMap D8)++ [(fN 3,n,.rows 11 [[.str p.name,.int .i64 p.line,.int .i64 p.params,.bool p.vararg,.int .i64 p.regs,.isl CR,.isl LR,.isl KR,.isl PR,.isl UR,.isl VR]])],x.2.2⟩) (fun x=>x.1≤p.lines.length) (fun x=>p.lines.length-x.1) (0,u1,q1) ?_ (Nat.zero_le _) ?_
  ·exact .turn id ⟨.refl _,.refl _,.refl _,.refl _,.refl _,trivial⟩ (.of fun e he=>⟨e,by simpa [wrH]using he,rfl,rfl,.refl _⟩)
  rintro⟨k,t2,m2⟩ hk lp
  dsimp only at hk lp⊢
  refine Run.unf A1N (Run.go 100 ?_)
  have hfl:=W3 (f:=D8) p.lines k
  obtain⟨M2,eM2⟩: ∃L,L=N1++(p.lines.take k).flatMap D8:=⟨_,rfl⟩
  have kM2:=congrArg List.length eM2
  rw [List.length_append]at kM2
  rw [←eM2]
  by_cases c:(k:Int)<p.lines.length
  ·obtain⟨i,hi⟩: ∃i,p.lines[k]? =some i:=⟨p.lines[k]'(by omega),by simp⟩
   have hir:LR[k]? =some [.int .i64 i]:=by rw [←hLR,List.getElem?_map,hi];rfl
   have hnx:=Y9 (f:=D8) hi
   have hfl2:=W3 (f:=D8) p.lines (k+1)
   rw [hnx,List.length_append]at hfl2
   have k0:((0:Int)≤(k:Int))=True:=eq_true (by omega)
   have k1':(k<p.lines.length)=True:=eq_true (by omega)
   have fin:=fun s' s2 m2=>lp s' (k+1,s2,m2) (by dsimp only;omega) (by dsimp only;omega)
   dsimp only at fin
   rw [hnx,←List.append_assoc,←eM2]at fin
   rw [D2]at hfl2
   simp -implicitDefEqProofs only [go_sem,wrH,c,k0,k1',hlL,hzL,hir,Option.some.injEq,forall_eq']
   refine A3.at [0,1] [2] (nc t2 M2 (by omega) _ _) rfl rfl ?_
   rintro r h' nz hnz ⟨rfl,sz,Lz,ez,kz,rfl⟩
   rw [←ez]at fin
   simp -implicitDefEqProofs only [go_sem,wrH]
   exact⟨by omega,fin _ sz nz (.turn id ⟨.refl _,.refl _,.refl _,.refl _,.refl _,trivial⟩ (.of fun e he=>⟨e,by simp only [wrH,List.cons_append,List.nil_append,List.mem_cons,List.not_mem_nil,or_false]at he⊢;rcases he with h|h|h<;>simp [h],rfl,rfl,.refl _⟩))⟩
  ·obtain rfl:k=p.lines.length:=by omega
   rw [List.take_length]at eM2 hfl kM2
   rw [←eM2]at hQ
   clear lp
   simp -implicitDefEqProofs only [go_sem,wrH,c,hlK]
   refine A3.at [0,1] [2] (nc t2 M2 (by omega) _ _) rfl rfl ?_
   rintro r h' q2 hq2 ⟨rfl,u2,N2,eN2,kN2,rfl⟩
   rw [←eN2]at hQ
   rw [D2]at kN2
   simp -implicitDefEqProofs only [go_sem,wrH,hlK]
   refine Run.roundsK (fun(x:Nat×Nat×Nat)=>⟨[(97,.int .i64 x.1),(96,.int .i64 p.consts.length),(95,.isl KR),(3,.ptr (fN 3) n 0 0),(0,.ptr dW sW 0 0)],wrH dW sW dB x.2.1 (N2++(p.consts.take x.1).flatMap T7)++ [(fN 3,n,.rows 11 [[.str p.name,.int .i64 p.line,.int .i64 p.params,.bool p.vararg,.int .i64 p.regs,.isl CR,.isl LR,.isl KR,.isl PR,.isl UR,.isl VR]])],x.2.2⟩) (fun x=>x.1≤p.consts.length) (fun x=>p.consts.length-x.1) (0,u2,q2) ?_ (Nat.zero_le _) ?_
   ·exact .turn id ⟨.refl _,.refl _,.refl _,.refl _,.refl _,trivial⟩ (.of fun e he=>⟨e,by simpa [wrH]using he,rfl,rfl,.refl _⟩)
   rintro⟨k,t3,m3⟩ hk lp
   dsimp only at hk lp⊢
   refine Run.unf A1O (Run.go 100 ?_)
   have hfl:=W3 (f:=T7) p.consts k
   obtain⟨M3,eM3⟩: ∃L,L=N2++(p.consts.take k).flatMap T7:=⟨_,rfl⟩
   have kM3:=congrArg List.length eM3
   rw [List.length_append]at kM3
   rw [←eM3]
   by_cases c:(k:Int)<p.consts.length
   ·obtain⟨i,hi⟩: ∃i,p.consts[k]? =some i:=⟨p.consts[k]'(by omega),by simp⟩
    have hir:KR[k]? =some [.int .i64 i.kind,.int .i64 i.p,.int .i64 i.q,.str i.str,.int .i64 i.ref]:=by rw [←hKR,List.getElem?_map,hi];rfl
    have hnx:=Y9 (f:=T7) hi
    have hfl2:=W3 (f:=T7) p.consts (k+1)
    rw [hnx,List.length_append]at hfl2
    have k0:((0:Int)≤(k:Int))=True:=eq_true (by omega)
    have k1':(k<p.consts.length)=True:=eq_true (by omega)
    have fin:=fun s' s2 m2=>lp s' (k+1,s2,m2) (by dsimp only;omega) (by dsimp only;omega)
    dsimp only at fin
    rw [hnx,←List.append_assoc,←eM3]at fin
    simp -implicitDefEqProofs only [go_sem,wrH,c,k0,k1',hlK,hzK,hir,Option.some.injEq,forall_eq']
    refine A3.at [1,2] [3] (vc t3 M3 i (by omega) _) rfl rfl ?_
    rintro r h' nz hnz ⟨rfl,sz,Lz,ez,kz,rfl⟩
    rw [←ez]at fin
    simp -implicitDefEqProofs only [go_sem,wrH]
    exact⟨by omega,fin _ sz nz (.turn id ⟨.refl _,.refl _,.refl _,.refl _,.refl _,trivial⟩ (.of fun e he=>⟨e,by simp only [wrH,List.cons_append,List.nil_append,List.mem_cons,List.not_mem_nil,or_false]at he⊢;rcases he with h|h|h<;>simp [h],rfl,rfl,.refl _⟩))⟩
   ·obtain rfl:k=p.consts.length:=by omega
    rw [List.take_length]at eM3 hfl kM3
    rw [←eM3]at hQ
    clear lp
    simp -implicitDefEqProofs only [go_sem,wrH,c,hlP]
    refine A3.at [0,1] [2] (nc t3 M3 (by omega) _ _) rfl rfl ?_
    rintro r h' q3 hq3 ⟨rfl,u3,N3,eN3,kN3,rfl⟩
    rw [←eN3]at hQ
    rw [D2]at kN3
    simp -implicitDefEqProofs only [go_sem,wrH,hlP]
    refine Run.roundsK (fun(x:Nat×Nat×Nat)=>⟨[(113,.int .i64 x.1),(112,.int .i64 p.protos.length),(111,.isl PR),(3,.ptr (fN 3) n 0 0),(0,.ptr dW sW 0 0)],wrH dW sW dB x.2.1 (N3++(p.protos.take x.1).flatMap W6)++ [(fN 3,n,.rows 11 [[.str p.name,.int .i64 p.line,.int .i64 p.params,.bool p.vararg,.int .i64 p.regs,.isl CR,.isl LR,.isl KR,.isl PR,.isl UR,.isl VR]])],x.2.2⟩) (fun x=>x.1≤p.protos.length) (fun x=>p.protos.length-x.1) (0,u3,q3) ?_ (Nat.zero_le _) ?_
    ·exact .turn id ⟨.refl _,.refl _,.refl _,.refl _,.refl _,trivial⟩ (.of fun e he=>⟨e,by simpa [wrH]using he,rfl,rfl,.refl _⟩)
    rintro⟨k,t4,m4⟩ hk lp
    dsimp only at hk lp⊢
    refine Run.unf A1P (Run.go 100 ?_)
    have hfl:=W3 (f:=W6) p.protos k
    obtain⟨M4,eM4⟩: ∃L,L=N3++(p.protos.take k).flatMap W6:=⟨_,rfl⟩
    have kM4:=congrArg List.length eM4
    rw [List.length_append]at kM4
    rw [←eM4]
    by_cases c:(k:Int)<p.protos.length
    ·obtain⟨i,hi⟩: ∃i,p.protos[k]? =some i:=⟨p.protos[k]'(by omega),by simp⟩
     have hir:PR[k]? =some i.row:=by rw [←hPR,List.getElem?_map,hi];rfl
     have hnx:=Y9 (f:=W6) hi
     have hfl2:=W3 (f:=W6) p.protos (k+1)
     rw [hnx,List.length_append]at hfl2
     have k0:((0:Int)≤(k:Int))=True:=eq_true (by omega)
     have k1':(k<p.protos.length)=True:=eq_true (by omega)
     have fin:=fun s' s2 m2=>lp s' (k+1,s2,m2) (by dsimp only;omega) (by dsimp only;omega)
     dsimp only at fin
     rw [hnx,←List.append_assoc,←eM4]at fin
     obtain⟨o1,o2⟩:=C7 i
     simp -implicitDefEqProofs only [go_sem,wrH,c,k0,k1',hlP,hzP,hir,o1,o2,Option.some.injEq,forall_eq']
     refine A3.at [1,2] [3] (fc i (List.mem_of_getElem? hi) t4 _ M4 (by omega)) rfl rfl ?_
     rintro r h' nz hnz ⟨rfl,sz,Lz,ez,kz,rfl⟩
     rw [←ez]at fin
     simp -implicitDefEqProofs only [go_sem,wrH]
     exact⟨by omega,fin _ sz nz (.turn id ⟨.refl _,.refl _,.refl _,.refl _,.refl _,trivial⟩ (.of fun e he=>⟨e,by simp only [wrH,List.cons_append,List.nil_append,List.mem_cons,List.not_mem_nil,or_false]at he⊢;rcases he with h|h|h<;>simp [h],rfl,rfl,.refl _⟩))⟩
    ·obtain rfl:k=p.protos.length:=by omega
     rw [List.take_length]at eM4 hfl kM4
     rw [←eM4]at hQ
     clear lp
     simp -implicitDefEqProofs only [go_sem,wrH,c,hlU]
     refine A3.at [0,1] [2] (nc t4 M4 (by omega) _ _) rfl rfl ?_
     rintro r h' q4 hq4 ⟨rfl,u4,N4,eN4,kN4,rfl⟩
     rw [←eN4]at hQ
     rw [D2]at kN4
     simp -implicitDefEqProofs only [go_sem,wrH,hlU]
     refine Run.roundsK (fun(x:Nat×Nat×Nat)=>⟨[(129,.int .i64 x.1),(128,.int .i64 p.ups.length),(127,.isl UR),(3,.ptr (fN 3) n 0 0),(0,.ptr dW sW 0 0)],wrH dW sW dB x.2.1 (N4++(p.ups.take x.1).flatMap upL)++ [(fN 3,n,.rows 11 [[.str p.name,.int .i64 p.line,.int .i64 p.params,.bool p.vararg,.int .i64 p.regs,.isl CR,.isl LR,.isl KR,.isl PR,.isl UR,.isl VR]])],x.2.2⟩) (fun x=>x.1≤p.ups.length) (fun x=>p.ups.length-x.1) (0,u4,q4) ?_ (Nat.zero_le _) ?_
     ·exact .turn id ⟨.refl _,.refl _,.refl _,.refl _,.refl _,trivial⟩ (.of fun e he=>⟨e,by simpa [wrH]using he,rfl,rfl,.refl _⟩)
     rintro⟨k,t5,m5⟩ hk lp
     dsimp only at hk lp⊢
     refine Run.unf A1Q (Run.go 100 ?_)
     have hfl:=W3 (f:=upL) p.ups k
     obtain⟨M5,eM5⟩: ∃L,L=N4++(p.ups.take k).flatMap upL:=⟨_,rfl⟩
     have kM5:=congrArg List.length eM5
     rw [List.length_append]at kM5
     rw [←eM5]
     by_cases c:(k:Int)<p.ups.length
     ·obtain⟨i,hi⟩: ∃i,p.ups[k]? =some i:=⟨p.ups[k]'(by omega),by simp⟩
      have hir:UR[k]? =some [.str i.name,.bool i.loc,.int .i64 i.idx]:=by rw [←hUR,List.getElem?_map,hi];rfl
      have hnx:=Y9 (f:=upL) hi
      have hfl2:=W3 (f:=upL) p.ups (k+1)
      rw [hnx,List.length_append]at hfl2
      have k0:((0:Int)≤(k:Int))=True:=eq_true (by omega)
      have k1':(k<p.ups.length)=True:=eq_true (by omega)
      have fin:=fun s' s2 m2=>lp s' (k+1,s2,m2) (by dsimp only;omega) (by dsimp only;omega)
      dsimp only at fin
      rw [hnx,←List.append_assoc,←eM5]at fin
      have hup:(upL i).length=8+i.name.length+1+8:=by unfold upL;simp only [List.length_append,hsl,D2,List.length_singleton]
      rw [hup]at hfl2
      rw [show upL i=w8 i.name++ [if i.loc then 1 else 0]++D8 i.idx from rfl]at fin
      simp only [←List.append_assoc]at fin
      simp -implicitDefEqProofs only [go_sem,wrH,c,k0,k1',hlU,hzU,hir,Option.some.injEq,forall_eq']
      refine A3.at [1,2] [0,3] (sc t5 M5 i.name (by omega) _) rfl rfl ?_
      rintro r h' nx hnx' ⟨rfl,sx,Lx,ex,kx,rfl⟩
      rw [←ex]at fin
      rw [hsl]at kx
      simp -implicitDefEqProofs only [go_sem,wrH]
      refine A3.at [0,1] [2,3] (tc sx Lx (by omega) _ _) rfl rfl ?_
      rintro r h' ny hny ⟨rfl,sy,Ly,ey,ky,rfl⟩
      rw [←ey]at fin
      rw [List.length_singleton]at ky
      simp -implicitDefEqProofs only [go_sem,wrH]
      refine A3.at [0,1] [2,3] (nc sy Ly (by omega) _ _) rfl rfl ?_
      rintro r h' nz hnz ⟨rfl,sz,Lz,ez,kz,rfl⟩
      rw [←ez]at fin
      simp -implicitDefEqProofs only [go_sem,wrH]
      exact⟨by omega,fin _ sz nz (.turn id ⟨.refl _,.refl _,.refl _,.refl _,.refl _,trivial⟩ (.of fun e he=>⟨e,by simp only [wrH,List.cons_append,List.nil_append,List.mem_cons,List.not_mem_nil,or_false]at he⊢;rcases he with h|h|h<;>simp [h],rfl,rfl,.refl _⟩))⟩
     ·obtain rfl:k=p.ups.length:=by omega
      rw [List.take_length]at eM5 hfl kM5
      rw [←eM5]at hQ
      clear lp
      simp -implicitDefEqProofs only [go_sem,wrH,c,hlV]
      refine A3.at [0,1] [2] (nc t5 M5 (by omega) _ _) rfl rfl ?_
      rintro r h' q5 hq5 ⟨rfl,u5,N5,eN5,kN5,rfl⟩
      rw [←eN5]at hQ
      rw [D2]at kN5
      simp -implicitDefEqProofs only [go_sem,wrH,hlV]
      refine Run.roundsK (fun(x:Nat×Nat×Nat)=>⟨[(154,.int .i64 x.1),(153,.int .i64 p.vars.length),(152,.isl VR),(3,.ptr (fN 3) n 0 0),(0,.ptr dW sW 0 0)],wrH dW sW dB x.2.1 (N5++(p.vars.take x.1).flatMap vrL)++ [(fN 3,n,.rows 11 [[.str p.name,.int .i64 p.line,.int .i64 p.params,.bool p.vararg,.int .i64 p.regs,.isl CR,.isl LR,.isl KR,.isl PR,.isl UR,.isl VR]])],x.2.2⟩) (fun x=>x.1≤p.vars.length) (fun x=>p.vars.length-x.1) (0,u5,q5) ?_ (Nat.zero_le _) ?_
      ·exact .turn id ⟨.refl _,.refl _,.refl _,.refl _,.refl _,trivial⟩ (.of fun e he=>⟨e,by simpa [wrH]using he,rfl,rfl,.refl _⟩)
      rintro⟨k,t6,m6⟩ hk lp
      dsimp only at hk lp⊢
      refine Run.unf A1R (Run.go 100 ?_)
      have hfl:=W3 (f:=vrL) p.vars k
      obtain⟨M6,eM6⟩: ∃L,L=N5++(p.vars.take k).flatMap vrL:=⟨_,rfl⟩
      have kM6:=congrArg List.length eM6
      rw [List.length_append]at kM6
      rw [←eM6]
      by_cases c:(k:Int)<p.vars.length
      ·obtain⟨i,hi⟩: ∃i,p.vars[k]? =some i:=⟨p.vars[k]'(by omega),by simp⟩
       have hir:VR[k]? =some [.str i.name,.int .i64 i.reg,.int .i64 i.lo,.int .i64 i.hi,.int .i64 i.attr]:=by rw [←hVR,List.getElem?_map,hi];rfl
       have hnx:=Y9 (f:=vrL) hi
       have hfl2:=W3 (f:=vrL) p.vars (k+1)
       rw [hnx,List.length_append]at hfl2
       have k0:((0:Int)≤(k:Int))=True:=eq_true (by omega)
       have k1':(k<p.vars.length)=True:=eq_true (by omega)
       have fin:=fun s' s2 m2=>lp s' (k+1,s2,m2) (by dsimp only;omega) (by dsimp only;omega)
       dsimp only at fin
       rw [hnx,←List.append_assoc,←eM6]at fin
       have hup:(vrL i).length=8+i.name.length+8*4:=by unfold vrL;rw [List.length_append,hsl,T1];rfl
       rw [hup]at hfl2
       rw [show vrL i=w8 i.name++F4 (A2F i) from rfl,←List.append_assoc]at fin
       simp -implicitDefEqProofs only [go_sem,wrH,c,k0,k1',hlV,hzV,hir,Option.some.injEq,forall_eq']
       refine A3.at [1,2] [0,3] (sc t6 M6 i.name (by omega) _) rfl rfl ?_
       rintro r h' nx hnx' ⟨rfl,sx,Lx,ex,kx,rfl⟩
       rw [←ex]at fin
       rw [hsl]at kx
       simp -implicitDefEqProofs only [go_sem,wrH]
       obtain⟨stI,hstI⟩: ∃st,st=nx:=⟨_,rfl⟩
       rw [←hstI]
       have hiz: ∀j,(((A2F i).take j).length≤4):=fun j=>by rw [List.length_take];exact Nat.min_le_right _ _
       have hil: ∀j,(F4 ((A2F i).take j)).length=8*((A2F i).take j).length:=fun j=>T1 _
       refine Run.roundsK (fun(y:Nat×Nat×Nat)=>⟨[(172,.int .i64 y.1),(171,.int .i64 4),(170,.sl (fN 170) stI 0 4),(154,.int .i64 k),(153,.int .i64 p.vars.length),(152,.isl VR),(3,.ptr (fN 3) n 0 0),(0,.ptr dW sW 0 0)],wrH dW sW dB y.2.1 (Lx++F4 ((A2F i).take y.1))++ [(fN 170,stI,.rows 1 ((A2F i).map D1)),(fN 3,n,.rows 11 [[.str p.name,.int .i64 p.line,.int .i64 p.params,.bool p.vararg,.int .i64 p.regs,.isl CR,.isl LR,.isl KR,.isl PR,.isl UR,.isl VR]])],y.2.2⟩) (fun y=>y.1≤4) (fun y=>4-y.1) (0,sx,(stI+1)) ?_ (Nat.zero_le _) ?_
       ·exact .turn id ⟨.refl _,.refl _,.refl _,.refl _,.refl _,.refl _,.refl _,.refl _,trivial⟩ (.of fun e he=>⟨e,by simp only [wrH,List.take_zero,F4,List.flatMap_nil,List.append_nil,List.cons_append,List.nil_append,List.mem_cons,List.not_mem_nil,or_false]at he⊢;rcases he with h|h|h|h<;>simp [h,F9,A2F,D1],rfl,rfl,.refl _⟩)
       rintro⟨j,sj,nj⟩ hj lpi
       dsimp only at hj lpi⊢
       refine Run.unf A1S (Run.go 100 ?_)
       have hlZ:((A2F i).map D1).length=4:=rfl
       have hzZ:C4 ((A2F i).map D1) 1=True:=eq_true (fun r hr=>by obtain⟨y,_,rfl⟩:=List.mem_map.1 hr;rfl)
       have hrZ: ∀z,(A2F i)[j]? =some z→((A2F i).map D1)[j]? =some [.int .i64 z]:=fun z h=>by rw [List.getElem?_map,h];rfl
       obtain⟨Lj,ej⟩: ∃L,L=Lx++F4 ((A2F i).take j):=⟨_,rfl⟩
       have kj:=congrArg List.length ej
       rw [List.length_append,hil]at kj
       have hij:=hiz j
       rw [←ej]
       by_cases cj:(j:Int)<4
       ·obtain⟨z,hz⟩: ∃z,(A2F i)[j]? =some z:=⟨(A2F i)[j]'(by show j<4;omega),by simp⟩
        have hzr:=hrZ z hz
        have hnz:=Y9 (f:=D8) hz
        have j0:((0:Int)≤(j:Int))=True:=eq_true (by omega)
        have j1:(j<4)=True:=eq_true (by omega)
        have finj:=fun s' s2 m2=>lpi s' (j+1,s2,m2) (by dsimp only;omega) (by dsimp only;omega)
        dsimp only at finj
        rw [show F4 ((A2F i).take (j+1))=_ from hnz,←List.append_assoc,←show Lj=Lx++((A2F i).take j).flatMap D8 from ej]at finj
        generalize (A2F i).map D1=ZR at*
        simp -implicitDefEqProofs only [go_sem,wrH,cj,j0,j1,hlZ,hzZ,hzr,Option.some.injEq,forall_eq']
        refine A3.at [0,1] [2,3] (nc sj Lj (by omega) _ _) rfl rfl ?_
        rintro r h' nz hnz2 ⟨rfl,sz,Lz,ez,kz,rfl⟩
        rw [←ez]at finj
        simp -implicitDefEqProofs only [go_sem,wrH]
        exact⟨by omega,finj _ sz nz (.turn id ⟨.refl _,.refl _,.refl _,.refl _,.refl _,.refl _,.refl _,.refl _,trivial⟩ (.of fun e he=>⟨e,by simp only [wrH,List.cons_append,List.nil_append,List.mem_cons,List.not_mem_nil,or_false]at he⊢;rcases he with h|h|h|h<;>simp [h],rfl,rfl,.refl _⟩))⟩
       ·obtain rfl:j=4:=by omega
        rw [show (A2F i).take 4=A2F i from rfl]at ej
        rw [←ej]at fin
        simp -implicitDefEqProofs only [go_sem,cj]
        exact⟨by omega,fin _ sj nj (.turn id ⟨.refl _,.refl _,.refl _,.refl _,.refl _,trivial⟩ (.of fun e he=>⟨e,by simp only [wrH,List.cons_append,List.nil_append,List.mem_cons,List.not_mem_nil,or_false]at he⊢;rcases he with h|h|h<;>simp [h],rfl,rfl,.refl _⟩))⟩
      ·obtain rfl:k=p.vars.length:=by omega
       rw [List.take_length]at eM6 hfl kM6
       rw [←eM6]at hQ
       clear lp
       simp -implicitDefEqProofs only [go_sem,c]
       subst hQ
       exact .to (h2:=wrH dW sW dB t6 M6) (n2:=m6) ⟨rfl,t6,rfl⟩ (.turn id ⟨.refl _,trivial⟩ (.of fun e he=>⟨e,List.mem_append_left _ he,rfl,rfl,.refl _⟩))
end Go.Proofs.YtcjgeliglgcflaaGreatDoor
