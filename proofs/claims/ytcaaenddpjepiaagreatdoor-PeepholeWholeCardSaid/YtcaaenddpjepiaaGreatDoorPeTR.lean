/-
 Removal. No condition.
-/
import Derived.Test.YtcaaenddpjepiaaGreatDoorFnCk
import Derived.Test.YtcaaenddpjepiaaGreatDoorOpc3
import Derived.Test.YtcaaenddpjepiaaGreatDoorExe
set_option linter.unusedVariables false
set_option linter.unusedSimpArgs false
set_option maxRecDepth 100000
set_option maxHeartbeats 0
namespace Go.Proofs.YtcaaenddpjepiaaGreatDoor
open Go.Abs
attribute [local irreducible] A0 Run
def F6(gone:Nat→Bool):Nat→Nat
 |0=>0
 |k+1=>F6 gone k+(if gone k=true then 0 else 1)
theorem A8p(gone:Nat→Bool): ∀k,F6 gone k≤k
 |0=>Nat.le_refl _
 |k+1=>by rw [F6];have:=A8p gone k;split<;>omega
def F0{α:Type}(gone:Nat→Bool)(l:List α):Nat→List α
 |0=> []
 |k+1=>match l[k]? with
  |some x=>if gone k=true then F0 gone l k else F0 gone l k++ [x]
  |none=>F0 gone l k
theorem A0x{α:Type}(gone:Nat→Bool)(l:List α): ∀k,k≤l.length→(F0 gone l k).length=F6 gone k
 |0,_=>rfl
 |k+1,h=>by
  obtain⟨x,a⟩: ∃x,l[k]? =some x:=⟨l[k]' zd,by simp⟩
  rw [F0,F6,a]
  have:=A0x gone l k zd
  dsimp only
  split
  ·rw [this];rfl
  ·rw [List.length_append,this];rfl
theorem A8j{α:Type}{gone:Nat→Bool}{l:List α}{k:Nat}{x:α}(a:l[k]? =some x)(h:gone k=true):F0 gone l (k+1)=F0 gone l k:=by rw [F0,a];simp [h]
theorem A5b{α:Type}{gone:Nat→Bool}{l:List α}{k:Nat}{x:α}(a:l[k]? =some x)(h:gone k=false):F0 gone l (k+1)=F0 gone l k++ [x]:=by rw [F0,a];simp [h]
theorem B3F{α:Type}(gone:Nat→Bool)(l:List α): ∀k,(F0 gone l k).Sublist (l.take k)
 |0=>by simp [F0]
 | k+1=>by
  have i:=B3F gone l k
  rw [F0]
  cases hx:l[k]? with
  |none=>
   have:l.take (k+1)=l.take k:=by rw [List.take_add_one,hx];simp
   rw [this];exact i
  |some x=>
   have:l.take (k+1)=l.take k++ [x]:=by rw [List.take_add_one,hx];rfl
   rw [this]
   dsimp only
   split
   ·exact i.trans (List.sublist_append_left _ _)
   ·exact i.append (List.Sublist.refl _)
theorem C6E{α:Type}{gone:Nat→Bool}{l:List α}{k:Nat}{x:α}(h:x∈F0 gone l k):x∈l:=List.mem_of_mem_take ((B3F gone l k).subset h)
def n8(gone:Nat→Bool)(i:Ins):Ins:=if G9 i.op=true then{i with b:=F6 gone i.b.toNat}else i
def A7a(gone:Nat→Bool)(v:Vr):Vr:={v with lo:=F6 gone v.lo.toNat,hi:=F6 gone v.hi.toNat}
def B7c(v:Vr):Bool:=decide (v.lo≠v.hi)
def E6(gone:Nat→Bool)(p:Fn):Fn:={p with code:=(F0 gone p.code p.code.length).map (n8 gone),lines:=if p.lines.length=0 then []else F0 gone p.lines p.code.length,vars:=(p.vars.map (A7a gone)).filter B7c}
structure RemOK(p:Fn):Prop where
 code:p.code.length≤20000
 lines:p.lines.length=p.code.length∨p.lines.length=0
 jumps: ∀i∈p.code,G9 i.op=true→0≤i.b∧i.b≤p.code.length
 vars: ∀v∈p.vars,(0≤v.lo∧v.lo≤p.code.length)∧(0≤v.hi∧v.hi≤p.code.length)
 most:p.vars.length≤100000
def B0g(gone:Nat→Bool)(n k:Nat):List (List V):=(List.range n).map fun i=> [.int .i64 (if i<k then(F6 gone i:Int)else 0)]
theorem B2J(gone:Nat→Bool)(n k:Nat):(B0g gone n k).length=n:=by simp [B0g]
theorem C6Q(gone:Nat→Bool)(n:Nat):B0g gone n 0=List.replicate n [.int .i64 0]:=by
 unfold B0g
 simp only [Nat.not_lt_zero,if_false]
 rw [List.map_const'];simp
theorem B2I{gone:Nat→Bool}{n k i:Nat}(h:i<n):(B0g gone n k)[i]? =some [.int .i64 (if i<k then(F6 gone i:Int)else 0)]:=by simp [B0g,h]
theorem C9j{gone:Nat→Bool}{n k i:Nat}(h:i<n)(a:i<k):(B0g gone n k)[i]? =some [.int .i64 (F6 gone i:Int)]:=by rw [B2I h,if_pos a]
theorem C1L{gone:Nat→Bool}{n k:Nat}(h:k<n):(B0g gone n k).set k [.int .i64 (F6 gone k:Int)]=B0g gone n (k+1):=by
 refine List.ext_getElem? fun i=> ?_
 rw [List.getElem?_set]
 rcases Nat.lt_or_ge i n with a|a
 ·rw [B2I a,B2I a]
  by_cases e:k=i
  ·subst e
   rw [if_pos rfl,if_pos (by rw [B2J];exact a),if_pos (Nat.lt_succ_self _)]
  ·rw [if_neg e]
   by_cases b:i<k
   ·rw [if_pos b,if_pos zd]
   ·rw [if_neg b,if_neg zd]
 ·have d:(B0g gone n k)[i]? =none:=by simp [B0g,a]
  have c:(B0g gone n (k+1))[i]? =none:=by simp [B0g,a]
  rw [d,c,if_neg zd]
def mvL(gone:Nat→Bool)(l:List Ins)(j:Nat):List Ins:=(l.take j).map (n8 gone)++l.drop j
theorem D0Z(gone:Nat→Bool)(l:List Ins)(j:Nat):(mvL gone l j).length=l.length:=by simp [mvL];omega
theorem C9c(gone:Nat→Bool)(l:List Ins):mvL gone l 0=l:=by simp [mvL]
theorem D0Y(gone:Nat→Bool)(l:List Ins):mvL gone l l.length=l.map (n8 gone):=by simp [mvL]
theorem B9R{gone:Nat→Bool}{l:List Ins}{j:Nat}{i:Ins}(h:l[j]? =some i):(mvL gone l j)[j]? =some i:=by
 have a:=(List.getElem?_eq_some_iff.1 h).1
 unfold mvL
 exact XN
theorem C1E{gone:Nat→Bool}{l:List Ins}{j:Nat}{i:Ins}(h:l[j]? =some i):mvL gone l (j+1)=(mvL gone l j).set j (n8 gone i):=by
 obtain⟨d,c⟩:=List.getElem?_eq_some_iff.1 h
 unfold mvL
 have b:l.take (j+1)=l.take j++ [i]:=by rw [List.take_add_one,h];rfl
 have e:l.drop j=i::l.drop (j+1):=by rw [List.drop_eq_getElem_cons d,c]
 have a:((l.take j).map (n8 gone)).length=j:=by simp;omega
 exact Yz
theorem C9b{gone:Nat→Bool}{l:List Ins}{j:Nat}{i:Ins}(h:l[j]? =some i)(a:G9 i.op=false):mvL gone l (j+1)=mvL gone l j:=by
 rw [C1E h]
 have b:n8 gone i=i:=by unfold n8;rw [a];simp
 rw [b]
 refine List.ext_getElem? fun x=> ?_
 rw [List.getElem?_set]
 split
 ·rename_i e
  subst e
  rw [B9R h,if_pos (List.getElem?_eq_some_iff.1 (B9R (gone:=gone) h)).1]
 ·rfl
def A0N(gone:Nat→Bool)(l:List Vr)(k:Nat):List Vr:=((l.take k).map (A7a gone)).filter B7c
theorem B9b(gone:Nat→Bool)(l:List Vr):A0N gone l l.length=(l.map (A7a gone)).filter B7c:=by simp [A0N]
theorem B7q{gone:Nat→Bool}{l:List Vr}{k:Nat}{v:Vr}(h:l[k]? =some v):A0N gone l (k+1)=if F6 gone v.lo.toNat=F6 gone v.hi.toNat then A0N gone l k else A0N gone l k++ [A7a gone v]:=by
 unfold A0N
 rw [List.take_add_one,h,Option.toList_some,List.map_append,List.filter_append]
 by_cases e:F6 gone v.lo.toNat=F6 gone v.hi.toNat
 ·rw [if_pos e];simp [B7c,A7a,e]
 ·rw [if_neg e]
  have: ¬((F6 gone v.lo.toNat:Int)=F6 gone v.hi.toNat):=by omega
  simp [B7c,A7a,this]
theorem B9c(gone:Nat→Bool)(l:List Vr)(k:Nat):(A0N gone l k).length≤k:=by
 unfold A0N
 refine Nat.le_trans (List.length_filter_le _ _) ?_
 simp;omega
abbrev rN(k:Nat):Nat:=28*10000+k
-- EV: rN, Ins.v, Ins.row, Vr.row
attribute [local go_sem] rN Ins.v Ins.row Vr.row
theorem B4I(p:Fn)(q:RemOK p)(gone:Nat→Bool)(g:FuncId)(cs:List V)(z:A2)(hg:K8 Tryz.prog g=true)(C: ∀b,b/10000=28→ ∀e∈z,e.1≠b)
  (hf: ∀i,i<p.code.length→ ∀n,A0 Tryz.prog g (.int .i64 (i:Nat)::cs) z n fun r h' _=>r= .bool (gone i)∧h'=z) (n:Nat):
  A0 Tryz.prog 28 [.agg p.row,.fn g cs] z n fun r h' _=>r= .agg (E6 gone p).row∧h'=z:=by
 have a: ∀b,b/10000=28→A2.del z b=z:=fun b hb=>A2t.del (C b hb)
 have hc1:=q.code
 obtain⟨h1,h2⟩:=B4 p
 rw [Fn.row_eq p]
 have S:(p.code.map Ins.row).length=p.code.length:=List.length_map ..
 have hrC: ∀(k:Nat) x,p.code[k]? =some x→(p.code.map Ins.row)[k]? =some x.row:=fun k x h=>by rw [List.getElem?_map,h];rfl
 have hzC:C4 (p.code.map Ins.row) 5=True:=eq_true (B3 Ins.row 5 (fun _=>rfl) p.code)
 have hlL:(p.lines.map D1).length=p.lines.length:=List.length_map ..
 have hrL: ∀(k:Nat) x,p.lines[k]? =some x→(p.lines.map D1)[k]? =some [.int .i64 x]:=fun k x h=>by rw [List.getElem?_map,h];rfl
 have hzL:C4 (p.lines.map D1) 1=True:=eq_true (B3 D1 1 (fun _=>rfl) p.lines)
 have T:(p.vars.map Vr.row).length=p.vars.length:=List.length_map ..
 have hrV: ∀(k:Nat) x,p.vars[k]? =some x→(p.vars.map Vr.row)[k]? =some x.row:=fun k x h=>by rw [List.getElem?_map,h];rfl
 have hzV:C4 (p.vars.map Vr.row) 5=True:=eq_true (B3 Vr.row 5 (fun _=>rfl) p.vars)
 generalize hCR:p.code.map Ins.row=CR at*
 generalize hLR:p.lines.map D1=LR at*
 generalize hVR:p.vars.map Vr.row=VR at*
 generalize hKR:p.consts.map Kst.row=X at*
 generalize hPR:p.protos.map Fn.row=Y at*
 generalize hUR:p.ups.map Upv.row=UR at*
 refine A0.enterK A5k Jk fun Q hQ=>Run.go 100 ?_
 simp -implicitDefEqProofs only [go_sem,A4,a,Nat.reduceDiv,S]
 refine⟨⟨by omega,by omega⟩,by omega,by omega,?_⟩
 have hN0:List.replicate ((p.code.length:Int)+1).toNat [V.int .i64 0]=B0g gone (p.code.length+1) 0:=by rw [C6Q,show ((p.code.length:Int)+1).toNat=p.code.length+1 from by omega]
 have A:((p.code.length:Int)+1).toNat=p.code.length+1:=by omega
 rw [hN0,A]
 refine Run.roundsK (fun(x:Nat×Nat×Nat×Nat)=>⟨[(25,.int .i64 x.1),(24,.int .i64 p.code.length),(23,.isl CR),(7,.sl (rN 53) x.2.2.1 0 (if p.lines.length=0 then 0 else F6 gone x.1)),(6,.sl (rN 41) x.2.1 0 (F6 gone x.1)),(5,.sl (rN 21) (n+2) 0 (p.code.length+1)),(4,.ptr (rN 4) (n+1) 0 0),(2,.ptr (rN 2) n 0 0),(1,.fn g cs)],
   (rN 41,x.2.1,.rows 5 ((F0 gone p.code x.1).map Ins.row))::(rN 53,x.2.2.1,.rows 1 ((if p.lines.length=0 then []else F0 gone p.lines x.1).map D1))::(rN 21,n+2,.rows 1 (B0g gone (p.code.length+1) x.1))::(rN 4,n+1,.rows 11 [[.str [],.int .i64 0,.int .i64 0,.bool false,.int .i64 0,.nils,.nils,.nils,.nils,.nils,.nils]])::
   (rN 2,n,.rows 11 [[.str p.name,.int .i64 p.line,.int .i64 p.params,.bool p.vararg,.int .i64 p.regs,.isl CR,.isl LR,.isl X,.isl Y,.isl UR,.isl VR]])::z,x.2.2.2⟩)
  (fun x=>x.1≤p.code.length) (fun x=>p.code.length-x.1) (0,n+3,n+4,n+5) ?_ (Nat.zero_le _) ?_
 ·refine .trans (.fresh (rN 41) 5 _ _ _) (.trans (.fresh (rN 53) 1 _ _ _) (.turn id ⟨.refl _,.refl _,.refl _,?_,.nils,.refl _,.refl _,.refl _,.refl _,trivial⟩ ?_))
  ·rw [show (if p.lines.length=0 then 0 else F6 gone (0,n+3,n+4,n+5).1)=0 from by split<;>rfl];exact .nils
  ·refine Je ?_
   exact .at 1 rfl rfl (.refl _) (.at 0 rfl rfl (.of_eq (by split<;>rfl)) (.at 2 rfl rfl (.refl _) (.at 3 rfl rfl (.refl _) (.at 4 rfl rfl (.refl _) (.of fun e f=>⟨e,by simp [f],rfl,rfl,.refl _⟩)))))
 rintro⟨k,M,D,m⟩ hk B
 dsimp only at hk B⊢
 refine Run.unf A3j (Run.go 100 ?_)
 have hnb:=A8p gone k
 have w:=A0x gone p.code k hk
 by_cases c:(k:Int)<p.code.length
 ·obtain⟨i,N⟩: ∃i,p.code[k]? =some i:=⟨p.code[k]' zd,by simp⟩
  have I:=hrC k i N
  have H:((0:Int)≤(k:Int))=True:=Ji
  have O:(k<p.code.length)=True:=Ji
  have k3:((k:Int)<((p.code.length+1:Nat):Int))=True:=Ji
  have L:=B2I (gone:=gone) (n:=p.code.length+1) (k:=k) (i:=k) zd
  have o:=B2J gone (p.code.length+1) k
  have G:=C1L (gone:=gone) (n:=p.code.length+1) (k:=k) zd
  have U:=hf k zd
  simp -implicitDefEqProofs only [go_sem,c,H,O,k3,S,hzC,I,L,o,G,w,a,Nat.reduceDiv,Option.some.injEq,forall_eq']
  refine⟨hg,A0.use (rest:= [_,_,_,_,_,_]) (U (m+1)) rfl (fun e f e' he'=> ?_) ?_⟩
  ·simp only [List.mem_cons,List.not_mem_nil,or_false]at f
   rcases f with rfl|rfl|rfl|rfl|rfl|rfl<;>exact C _ zf e' he'
  rintro r h' n' hn ⟨rfl,hh⟩
  rw [hh]
  clear hh hn
  have hlx: ∀x,p.lines[k]? =some x∨p.lines.length=0→True:=fun _ _=>trivial
  cases hgk:gone k with
  | true=>
   have F:F0 gone p.code (k+1)=F0 gone p.code k:=A8j N hgk
   have e2:(if p.lines.length=0 then []else F0 gone p.lines (k+1))=if p.lines.length=0 then []else F0 gone p.lines k:=by
    split
    ·rfl
    ·rename_i E
     have:=q.lines.resolve_right E
     exact A8j (x:=p.lines[k]' zd) zf hgk
   have e3:F6 gone (k+1)=F6 gone k:=by show F6 gone k+_=_;rw [hgk];rfl
   have fin:=fun J=>B J (k+1,M,D,n') zk zk
   dsimp only at fin
   rw [F,e2,e3]at fin
   simp -implicitDefEqProofs only [go_sem,List.cons_append,List.nil_append]
   exact⟨⟨by omega,by omega⟩,fin _ (.turn id ⟨.refl _,.refl _,.refl _,.refl _,.refl _,.refl _,.refl _,.refl _,.refl _,trivial⟩ (.at 2 rfl rfl (.refl _) (.at 3 rfl rfl (.refl _) (.at 0 rfl rfl (.refl _) (.at 4 rfl rfl (.refl _) (.at 5 rfl rfl (.refl _) (.of fun e f=>⟨e,by simp [f],rfl,rfl,.refl _⟩)))))))⟩
  | false=>
   have F:F0 gone p.code (k+1)=F0 gone p.code k++ [i]:=A5b N hgk
   have e3:F6 gone (k+1)=F6 gone k+1:=by show F6 gone k+_=_;rw [hgk];rfl
   have s:(F6 gone k≤(F0 gone p.code k).length)=True:=Ji
   have R:(F6 gone k≤137438953471)=True:=Ji
   have htk:List.take (F6 gone k) ((F0 gone p.code k).map Ins.row)=(F0 gone p.code k).map Ins.row:=List.take_of_length_le zl
   have fin:=fun J sl2 n2=>B J (k+1,n',sl2,n2) zk zk
   dsimp only at fin
   by_cases E:p.lines.length=0
   ·have c2:((0:Int)<(p.lines.length:Int))=False:=Jj
    rw [F,e3]at fin
    simp -implicitDefEqProofs only [go_sem,List.cons_append,List.nil_append,hlL,a,Nat.reduceDiv,s,R,htk,c2]
    simp only [E,if_true]at fin⊢
    refine⟨⟨by omega,by omega⟩,fin _ D (n'+1) (.turn id ⟨.refl _,.refl _,.refl _,.refl _,.refl _,.refl _,.refl _,.refl _,.refl _,trivial⟩ (.at 0 rfl rfl (.of_eq (by simp [Ins.row])) (.at 3 rfl rfl (.refl _) (.at 1 rfl rfl (.refl _) (.at 4 rfl rfl (.refl _) (.at 5 rfl rfl (.refl _) (.of fun e f=>⟨e,by simp [f],rfl,rfl,.refl _⟩)))))))⟩
   ·have c2:((0:Int)<(p.lines.length:Int))=True:=Ji
    have hll:=q.lines.resolve_right E
    obtain⟨y,hy⟩: ∃y,p.lines[k]? =some y:=⟨p.lines[k]' zd,by simp⟩
    have hyr:=hrL k y hy
    have c3:((k:Int)<(p.lines.length:Int))=True:=Ji
    have c4:(k<p.lines.length)=True:=Ji
    have e4:F0 gone p.lines (k+1)=F0 gone p.lines k++ [y]:=A5b hy hgk
    have hkl2:=A0x gone p.lines k zd
    have hle3:(F6 gone k≤(F0 gone p.lines k).length)=True:=Ji
    have htk2:List.take (F6 gone k) ((F0 gone p.lines k).map D1)=(F0 gone p.lines k).map D1:=List.take_of_length_le zl
    have z0:(p.lines.length=0)=False:=eq_false E
    simp only [z0,if_false]at fin⊢
    rw [F,e3,e4]at fin
    simp -implicitDefEqProofs only [go_sem,List.cons_append,List.nil_append,hlL,a,Nat.reduceDiv,s,R,htk,c2,c3,c4,H,hyr,hzL,hle3,htk2,Option.some.injEq,forall_eq']
    refine⟨⟨by omega,by omega⟩,fin _ (n'+1) (n'+1+1) (.turn id ⟨.refl _,.refl _,.refl _,.refl _,.refl _,.refl _,.refl _,.refl _,.refl _,trivial⟩ (.at 1 rfl rfl (.of_eq (by simp [Ins.row])) (.at 0 rfl rfl (.of_eq (by simp [D1])) (.at 2 rfl rfl (.refl _) (.at 4 rfl rfl (.refl _) (.at 5 rfl rfl (.refl _) (.of fun e f=>⟨e,by simp [f],rfl,rfl,.refl _⟩)))))))⟩
 ·obtain rfl:k=p.code.length:=by omega
  have G:=C1L (gone:=gone) (n:=p.code.length+1) (k:=p.code.length) zd
  have o:=B2J gone (p.code.length+1) p.code.length
  have k3:((p.code.length:Int)<((p.code.length+1:Nat):Int))=True:=Ji
  have H:((0:Int)≤(p.code.length:Int))=True:=Ji
  have O:(p.code.length<p.code.length+1)=True:=Ji
  have s:(F6 gone p.code.length≤(F0 gone p.code p.code.length).length)=True:=Ji
  simp -implicitDefEqProofs only [go_sem,c,H,O,k3,S,o,G,w,a,Nat.reduceDiv,Option.some.injEq,forall_eq',List.cons_append,List.nil_append,s]
  intro row l
  have L:=B2I (gone:=gone) (n:=p.code.length+1) (k:=p.code.length) (i:=p.code.length) zd
  rw [L]at l
  obtain rfl:=Option.some.inj l
  refine⟨Nat.le_refl _,?_⟩
  rw [show List.drop 1 [V.int IntKind.i64 (if p.code.length<p.code.length then(F6 gone p.code.length:Int)else 0)]= [] from rfl,G]
  clear G L o l
  have o:=B2J gone (p.code.length+1) (p.code.length+1)
  have hNo: ∀x:Nat,x≤p.code.length→(B0g gone (p.code.length+1) (p.code.length+1))[x]? =some [.int .i64 (F6 gone x:Int)]:=fun x hx=>C9j zd zd
  generalize hNN:B0g gone (p.code.length+1) (p.code.length+1)=NN at*
  generalize hLL:(if p.lines.length=0 then []else F0 gone p.lines p.code.length)=LL at*
  generalize hlm:(if p.lines.length=0 then 0 else F6 gone p.code.length)=lm at*
  have hKm: ∀i∈F0 gone p.code p.code.length,i∈p.code:=fun i h=>C6E h
  generalize hKK:F0 gone p.code p.code.length=K at*
  generalize hmm:F6 gone p.code.length=P at*
  refine Run.roundsK (fun(x:Nat×Nat)=>⟨[(64,.int .i64 x.1),(63,.int .i64 P),(62,.sl (rN 41) M 0 P),(7,.sl (rN 53) D 0 lm),(6,.sl (rN 41) M 0 P),(5,.sl (rN 21) (n+2) 0 (p.code.length+1)),(4,.ptr (rN 4) (n+1) 0 0),(2,.ptr (rN 2) n 0 0)],
   (rN 41,M,.rows 5 ((mvL gone K x.1).map Ins.row))::(rN 21,n+2,.rows 1 NN)::(rN 53,D,.rows 1 (LL.map D1))::(rN 4,n+1,.rows 11 [[.str [],.int .i64 0,.int .i64 0,.bool false,.int .i64 0,.nils,.nils,.nils,.nils,.nils,.nils]])::
   (rN 2,n,.rows 11 [[.str p.name,.int .i64 p.line,.int .i64 p.params,.bool p.vararg,.int .i64 p.regs,.isl CR,.isl LR,.isl X,.isl Y,.isl UR,.isl VR]])::z,x.2⟩)
   (fun x=>x.1≤P) (fun x=>P-x.1) (0,m) ?_ (Nat.zero_le _) ?_
  ·exact .turn id ⟨.refl _,.refl _,.refl _,.refl _,.refl _,.refl _,.refl _,.refl _,trivial⟩ (.at 1 rfl rfl (.of_eq (by simp [C9c])) (.at 0 rfl rfl (.refl _) (.at 2 rfl rfl (.refl _) (.at 3 rfl rfl (.refl _) (.at 4 rfl rfl (.refl _) (.of fun e f=>⟨e,by simp [f],rfl,rfl,.refl _⟩))))))
  clear B
  rintro⟨j,m⟩ hj B
  dsimp only at hj B⊢
  refine Run.unf j5 (Run.go 100 ?_)
  have Z:=D0Z gone K j
  have W:C4 ((mvL gone K j).map Ins.row) 5=True:=eq_true (B3 Ins.row 5 (fun _=>rfl) _)
  by_cases c:(j:Int)<P
  ·obtain⟨i,N⟩: ∃i,K[j]? =some i:=⟨K[j]' zd,by simp⟩
   have I:((mvL gone K j).map Ins.row)[j]? =some i.row:=by rw [List.getElem?_map,B9R N];rfl
   have H:((0:Int)≤(j:Int))=True:=Ji
   have O:(j<P)=True:=Ji
   have k2:(j<K.length)=True:=Ji
   have tp:=A6l i
   have hMi:=B9R (gone:=gone) N
   simp -implicitDefEqProofs only [go_sem,c,H,O,k2,Z,W,hMi,I,w,a,Nat.reduceDiv,Option.some.injEq,forall_eq']
   refine A0.pureF tp ze ?_
   cases hj2:G9 i.op with
   |false=>
    have F:=C9b (gone:=gone) N hj2
    have fin:=fun J=>B J (j+1,m+1) zk zk
    dsimp only at fin
    rw [F]at fin
    simp -implicitDefEqProofs only [go_sem,hj2,a,Nat.reduceDiv]
    exact⟨⟨by omega,by omega⟩,fin _ (.turn id ⟨.refl _,.refl _,.refl _,.refl _,.refl _,.refl _,.refl _,.refl _,trivial⟩ (.at 1 rfl rfl (.refl _) (.at 2 rfl rfl (.refl _) (.at 3 rfl rfl (.refl _) (.at 4 rfl rfl (.refl _) (.at 5 rfl rfl (.refl _) (.of fun e f=>⟨e,by simp [f],rfl,rfl,.refl _⟩)))))))⟩
   |true=>
    have F:=C1E (gone:=gone) N
    have fin:=fun J=>B J (j+1,m+1) zk zk
    dsimp only at fin
    rw [F]at fin
    obtain⟨b0,b1⟩:=q.jumps i (hKm i (List.mem_of_getElem? N)) hj2
    obtain⟨t,ht⟩: ∃t:Nat,i.b=t:=⟨i.b.toNat,by omega⟩
    have A:=hNo t zd
    have k4:((0:Int)≤(t:Int))=True:=Ji
    have k5:(t<p.code.length+1)=True:=Ji
    have k6:((t:Int)<((p.code.length+1:Nat):Int))=True:=Ji
    simp -implicitDefEqProofs only [go_sem,hj2,ht,a,Nat.reduceDiv,c,H,O,k2,k4,k5,k6,Z,W,hMi,I,w,o,A,Option.some.injEq,forall_eq']
    refine⟨⟨by omega,by omega⟩,fin _ (.turn id ⟨.refl _,.refl _,.refl _,.refl _,.refl _,.refl _,.refl _,.refl _,trivial⟩ (.at 0 rfl rfl (.of_eq ?_) (.at 2 rfl rfl (.refl _) (.at 3 rfl rfl (.refl _) (.at 4 rfl rfl (.refl _) (.at 5 rfl rfl (.refl _) (.of fun e f=>⟨e,by simp [f],rfl,rfl,.refl _⟩)))))))⟩
    rw [List.map_set]
    unfold n8
    rw [hj2,ht]
    rfl
  ·obtain rfl:j=P:=by omega
   have hMK:mvL gone K j=K.map (n8 gone):=by rw [←w];exact D0Y gone K
   rw [hMK]
   clear B Z W hMK
   simp -implicitDefEqProofs only [go_sem,c,T,a,Nat.reduceDiv]
   refine Run.roundsK (fun(x:Nat×Nat×Nat)=>⟨[(87,.int .i64 x.1),(86,.int .i64 p.vars.length),(85,.isl VR),(14,.sl (rN 111) x.2.1 0 (A0N gone p.vars x.1).length),(7,.sl (rN 53) D 0 lm),(6,.sl (rN 41) M 0 j),(5,.sl (rN 21) (n+2) 0 (p.code.length+1)),(4,.ptr (rN 4) (n+1) 0 0),(2,.ptr (rN 2) n 0 0)],
    (rN 111,x.2.1,.rows 5 ((A0N gone p.vars x.1).map Vr.row))::(rN 41,M,.rows 5 ((K.map (n8 gone)).map Ins.row))::(rN 21,n+2,.rows 1 NN)::(rN 53,D,.rows 1 (LL.map D1))::(rN 4,n+1,.rows 11 [[.str [],.int .i64 0,.int .i64 0,.bool false,.int .i64 0,.nils,.nils,.nils,.nils,.nils,.nils]])::
    (rN 2,n,.rows 11 [[.str p.name,.int .i64 p.line,.int .i64 p.params,.bool p.vararg,.int .i64 p.regs,.isl CR,.isl LR,.isl X,.isl Y,.isl UR,.isl VR]])::z,x.2.2⟩)
    (fun x=>x.1≤p.vars.length) (fun x=>p.vars.length-x.1) (0,m,m+1) ?_ (Nat.zero_le _) ?_
   ·refine .trans (.fresh (rN 111) 5 _ _ _) (.turn id ⟨.refl _,.refl _,.refl _,.nils,.refl _,.refl _,.refl _,.refl _,.refl _,trivial⟩ ?_)
    refine Je ?_
    exact .at 0 rfl rfl (.refl _) (.at 1 rfl rfl (.refl _) (.at 2 rfl rfl (.refl _) (.at 3 rfl rfl (.refl _) (.at 4 rfl rfl (.refl _) (.at 5 rfl rfl (.refl _) (.of fun e f=>⟨e,by simp [f],rfl,rfl,.refl _⟩))))))
   clear m
   rintro⟨k,vm,m⟩ hk B
   dsimp only at hk B⊢
   refine Run.unf S6 (Run.go 100 ?_)
   have hvn:=B9c gone p.vars k
   have hvm:=q.most
   by_cases c:(k:Int)<p.vars.length
   ·obtain⟨v,hv⟩: ∃v,p.vars[k]? =some v:=⟨p.vars[k]' zd,by simp⟩
    have hvr:=hrV k v hv
    have H:((0:Int)≤(k:Int))=True:=Ji
    have O:(k<p.vars.length)=True:=Ji
    obtain⟨⟨a1,a2⟩,b1,b2⟩:=q.vars v (List.mem_of_getElem? hv)
    obtain⟨t,ht⟩: ∃t:Nat,v.lo=t:=⟨v.lo.toNat,by omega⟩
    obtain⟨u,hu⟩: ∃u:Nat,v.hi=u:=⟨v.hi.toNat,by omega⟩
    have A:=hNo t zd
    have hNu:=hNo u zd
    have k4:((0:Int)≤(t:Int))=True:=Ji
    have k5:(t<p.code.length+1)=True:=Ji
    have k6:((t:Int)<((p.code.length+1:Nat):Int))=True:=Ji
    have k7:((0:Int)≤(u:Int))=True:=Ji
    have k8:(u<p.code.length+1)=True:=Ji
    have k9:((u:Int)<((p.code.length+1:Nat):Int))=True:=Ji
    have F:=B7q (gone:=gone) hv
    rw [ht,hu,Int.toNat_natCast,Int.toNat_natCast]at F
    have fin:=fun J vm2 m2=>B J (k+1,vm2,m2) zk zk
    dsimp only at fin
    rw [F]at fin
    by_cases d:F6 gone t=F6 gone u
    ·have d1:((F6 gone t:Int)=(F6 gone u:Int))=True:=Ji
     simp only [d,if_true]at fin
     simp -implicitDefEqProofs only [go_sem,c,H,O,k4,k5,k6,k7,k8,k9,T,hzV,hvr,ht,hu,o,A,hNu,d1,a,Nat.reduceDiv,Option.some.injEq,forall_eq']
     exact⟨⟨by omega,by omega⟩,fin _ vm (m+1) (.turn id ⟨.refl _,.refl _,.refl _,.refl _,.refl _,.refl _,.refl _,.refl _,.refl _,trivial⟩ (.at 1 rfl rfl (.refl _) (.at 2 rfl rfl (.refl _) (.at 3 rfl rfl (.refl _) (.at 4 rfl rfl (.refl _) (.at 5 rfl rfl (.refl _) (.at 6 rfl rfl (.refl _) (.of fun e f=>⟨e,by simp [f],rfl,rfl,.refl _⟩))))))))⟩
    ·have d1:((F6 gone t:Int)=(F6 gone u:Int))=False:=Jj
     simp only [d,if_false]at fin
     have s:((A0N gone p.vars k).length≤137438953471)=True:=Ji
     simp -implicitDefEqProofs only [go_sem,c,H,O,k4,k5,k6,k7,k8,k9,T,hzV,hvr,ht,hu,o,A,hNu,d1,s,a,Nat.reduceDiv,Option.some.injEq,forall_eq']
     exact⟨⟨by omega,by omega⟩,fin _ (m+1) (m+1+1) (.turn id ⟨.refl _,.refl _,.refl _,.sl' zf,.refl _,.refl _,.refl _,.refl _,.refl _,trivial⟩ (.at 0 rfl rfl (.of_eq (by simp [Vr.row,A7a,ht,hu])) (.at 2 rfl rfl (.refl _) (.at 3 rfl rfl (.refl _) (.at 4 rfl rfl (.refl _) (.at 5 rfl rfl (.refl _) (.at 6 rfl rfl (.refl _) (.of fun e f=>⟨e,by simp [f],rfl,rfl,.refl _⟩))))))))⟩
   ·obtain rfl:k=p.vars.length:=by omega
    simp -implicitDefEqProofs only [go_sem,c,a,Nat.reduceDiv]
    have l:V.agg (E6 gone p).row= .agg [.str p.name,.int .i64 p.line,.int .i64 p.params,.bool p.vararg,.int .i64 p.regs,.isl ((K.map (n8 gone)).map Ins.row),.isl (LL.map D1),.isl X,.isl Y,.isl UR,.isl ((A0N gone p.vars p.vars.length).map Vr.row)]:=by
     rw [Fn.row_eq,B9b]
     unfold E6
     dsimp only
     rw [hKK,hLL,hKR,hPR,hUR]
    rw [l]at hQ
    subst hQ
    have hLl:lm=(LL.map D1).length:=by
     rw [List.length_map,←hLL,←hlm]
     by_cases E:p.lines.length=0
     ·rw [if_pos E,if_pos E];rfl
     ·rw [if_neg E,if_neg E,A0x gone p.lines _ (by have:=q.lines.resolve_right E;omega),hmm]
    have hjl:j=((K.map (n8 gone)).map Ins.row).length:=by simp [w]
    have hvl:(A0N gone p.vars p.vars.length).length=((A0N gone p.vars p.vars.length).map Vr.row).length:=by simp
    generalize (K.map (n8 gone)).map Ins.row=R1 at*
    generalize LL.map D1=R2 at*
    generalize hR3:(A0N gone p.vars p.vars.length).map Vr.row=R3 at*
    rw [hvl,hLl]
    rw [hjl]at*
    refine Z2.to (r2:= .agg [.str p.name,.int .i64 p.line,.int .i64 p.params,.bool p.vararg,.int .i64 p.regs,.isl R1,.isl R2,.isl X,.isl Y,.isl UR,.isl R3]) (h2:=z) (n2:=m) ⟨rfl,rfl⟩ ?_
    refine Wk.trans (b:=⟨[(0,.agg [.str p.name,.int .i64 p.line,.int .i64 p.params,.bool p.vararg,.int .i64 p.regs,.sl (rN 41) M 0 R1.length,.sl (rN 53) D 0 R2.length,.isl X,.isl Y,.isl UR,.isl R3])],(rN 41,M,.rows 5 R1)::(rN 53,D,.rows 1 R2)::z,m⟩) (.freeze (b:=rN 111) (st:=vm) (sz:=5) (rs:=R3) zf ⟨Frz.agg ⟨.of (.refl _),.of (.refl _),.of (.refl _),.of (.refl _),.of (.refl _),.of (.refl _),.of (.refl _),.of (.refl _),.of (.refl _),.of (.refl _),Frz.all rfl,trivial⟩,trivial⟩ (A4E.of fun e f=> ?_)) ?_
    ·simp only [List.mem_cons]at f
     rcases f with rfl|rfl|f
     ·exact⟨by simp,by dsimp only;decide⟩
     ·exact⟨by simp,by dsimp only;decide⟩
     ·exact⟨by simp [f],C _ zh e f⟩
    refine Wk.trans (b:=⟨[(0,.agg [.str p.name,.int .i64 p.line,.int .i64 p.params,.bool p.vararg,.int .i64 p.regs,.isl R1,.sl (rN 53) D 0 R2.length,.isl X,.isl Y,.isl UR,.isl R3])],(rN 53,D,.rows 1 R2)::z,m⟩) (.freeze (b:=rN 41) (st:=M) (sz:=5) (rs:=R1) zf ⟨Frz.agg ⟨.of (.refl _),.of (.refl _),.of (.refl _),.of (.refl _),.of (.refl _),Frz.all rfl,.of (.refl _),.of (.refl _),.of (.refl _),.of (.refl _),.of (.refl _),trivial⟩,trivial⟩ (A4E.of fun e f=> ?_)) ?_
    ·simp only [List.mem_cons]at f
     rcases f with rfl|f
     ·exact⟨by simp,by dsimp only;decide⟩
     ·exact⟨by simp [f],C _ zh e f⟩
    refine .freeze (b:=rN 53) (st:=D) (sz:=1) (rs:=R2) zf ⟨Frz.agg ⟨.of (.refl _),.of (.refl _),.of (.refl _),.of (.refl _),.of (.refl _),.of (.refl _),Frz.all rfl,.of (.refl _),.of (.refl _),.of (.refl _),.of (.refl _),trivial⟩,trivial⟩ (A4E.of fun e f=>⟨by simp [f],C _ zh e f⟩)
end Go.Proofs.YtcaaenddpjepiaaGreatDoor
