/-
 The range over the lines of a listing: whatever its rounds are. No condition.
-/
import Derived.Test.YtcjgeliglgcflaaGreatDoorLs1
import Derived.Test.YtcjgeliglgcflaaGreatDoorFnCk
set_option linter.unusedVariables false
set_option linter.unusedSimpArgs false
set_option maxRecDepth 100000
set_option maxHeartbeats 0
namespace Go.Proofs.YtcjgeliglgcflaaGreatDoor
open Go Go.Abs
attribute [local irreducible] A3 Run J0
abbrev l6:Nat:=(47*10000+6)
abbrev l8:Nat:=(47*10000+8)
abbrev l10:Nat:=(47*10000+10)
abbrev l13:Nat:=(47*10000+13)
abbrev lL:Nat:=(47*10000+9109)
abbrev lK(d:Nat):Nat:=1000000000000+d
-- EV: l6, l8, l10, l13, lL
attribute [local go_sem] l6 l8 l10 l13 lL
theorem B2c(p:Fn)(path:List UInt8)(d:Int)(n:Nat):A3 Tryz.prog 21 [.agg p.row,.str path,.int .i64 d] [] n
  fun r h' n'=>r= .fn 47 [.iptr [[.int .i64 d]] 0 0,.iptr [p.row] 0 0,.iptr [[.str path]] 0 0]∧h'= []∧n'=n:=by
 obtain⟨h1,h2⟩:=C7 p
 generalize p.row=pr at*
 refine A3.enterK A3N (Nat.le_of_ble_eq_true rfl) fun Q hQ=>Run.go 100 ?_
 simp -implicitDefEqProofs only [go_sem,A8,h1]
 subst hQ
 exact .is ⟨rfl,rfl,rfl⟩
structure LRd(nm st d:Nat)(whole:List (Nat×List UInt8))(J:List (Nat×List UInt8)→A2→Nat→Prop):Prop where
 round: ∀pre l rest h n,whole=pre++l::rest→J pre h n→J0 Tryz.prog nm st [.int .i64 l.1,.str l.2] h n fun r h' n'=>r= .bool true∧J (pre++ [l]) h' n'
 up: ∀pre h n n',n≤n'→J pre h n→J pre h n'
 ap: ∀pre h n,J pre h n→G7 h l6∧G7 h l8∧G7 h l10∧G7 h l13∧G7 h lL∧ ∀k,d≤k→G7 h (lK k)
theorem B5D(b st:Nat)(B:Blk)(h:A2):A2.get ((b,st,B)::h) b st=some B:=by simp [A2.get]
theorem B3l: ∀{l:List Fn} {q:Fn},q∈l→q.depth≤Fn.depths l
 | [],_,h=>by cases h
 |x::r,q,h=>by
  rw [Fn.depths]
  rcases List.mem_cons.1 h with rfl|h
  ·exact Nat.le_max_left _ _
  ·exact Nat.le_trans (B3l h) (Nat.le_max_right _ _)
theorem B7x(path:List UInt8)(d:Nat){l:List Fn}{k:Nat}{x:Fn}(h:l[k]? =some x):linesFs path d 0 l=linesFs path d 0 (l.take k)++(R2 (path++46::Lib.itoa k) d x++linesFs path d (k+1) (l.drop (k+1))):=by
 obtain⟨hk,e⟩:=List.getElem?_eq_some_iff.1 h
 have hs:l=l.take k++x::l.drop (k+1):=by rw [←e,List.getElem_cons_drop];simp
 conv=>lhs;rw [hs]
 rw [A3w,linesFs,List.length_take,Nat.zero_add,Nat.min_eq_left (by omega)]
theorem B1b{α:Type}(f:Nat→α→List UInt8)(d:Nat){l:List α}{k:Nat}{x:α}(h:l[k]? =some x):D4 f d 0 l=D4 f d 0 (l.take k)++(d,f k x)::D4 f d (k+1) (l.drop (k+1)):=by
 obtain⟨hk,e⟩:=List.getElem?_eq_some_iff.1 h
 have hs:l=l.take k++x::l.drop (k+1):=by rw [←e,List.getElem_cons_drop];simp
 conv=>lhs;rw [hs]
 rw [B2k,D4,List.length_take,Nat.zero_add,Nat.min_eq_left (by omega)]
theorem Wk.ren{b b' st:Nat}{B:Blk}{h:A2}{n:Nat}{sl sl':List (Nat×V)}(hs:B1n sl sl')(ha:G7 h b)(rest:A2):Wk ⟨sl,(b,st,B)::(rest++h),n⟩ ⟨sl',(b',st,B)::h,n⟩:=
 .turn (fun x=>if x=b then b' else x) hs ⟨⟨_,List.mem_cons_self,(if_pos rfl).symm,rfl,.refl _⟩,y4.of fun e he=>⟨e,List.mem_cons_of_mem _ (List.mem_append.2 (.inr he)),(if_neg (ha e he)).symm,rfl,.refl _⟩⟩
theorem G7.cons{b nm st:Nat}{B:Blk}{h:A2}(hn:nm≠b)(h1:G7 h b):G7 ((nm,st,B)::h) b:=fun e he=>(List.mem_cons.1 he).elim (fun e1=>by rw [e1];exact hn) (h1 e)
theorem B5S(p:Fn):(∀q∈p.each,q.Okl)→ ∀(path:List UInt8) (d:Nat),path.length≤4+22*d→d+p.depth≤65→
  ∀(nm st:Nat) (whole:List (Nat×List UInt8)) (J:List (Nat×List UInt8)→A2→Nat→Prop),LRd nm st d whole J→ ∀pre post h n,whole=pre++R2 path d p++post→J pre h n→
  A3 Tryz.prog 47 [.yld nm st,.iptr [[.int .i64 d]] 0 0,.iptr [p.row] 0 0,.iptr [[.str path]] 0 0] h n fun r h' n'=>r= .tup []∧J (pre++R2 path d p) h' n':=by
 induction p using Fn.ind with
 | h p ih'=>
  intro hok path d hpath hdep nm st whole J hR pre post h n hw hJ
  have ho:=hok p p.self_mem
  have hps:=Fn.row_sub G6 p
  obtain⟨h1,h2⟩:=C7 p
  have hhead:=B9J p ho path (by omega)
  have hcode:=B9n p ho
  have heq:=p.row_eq
  have h5:p.row[5]? =some (.isl (p.code.map Ins.row)):=by rw [heq];rfl
  have h7:p.row[7]? =some (.isl (p.consts.map Kst.row)):=by rw [heq];rfl
  have h8:p.row[8]? =some (.isl (p.protos.map Fn.row)):=by rw [heq];rfl
  have h9:p.row[9]? =some (.isl (p.ups.map Upv.row)):=by rw [heq];rfl
  have h10:p.row[10]? =some (.isl (p.vars.map Vr.row)):=by rw [heq];rfl
  clear heq
  rw [B3D]at hw⊢
  unfold B4D at hw⊢
  have k5:(p.code.map Ins.row).length=p.code.length:=List.length_map ..
  have k7:(p.consts.map Kst.row).length=p.consts.length:=List.length_map ..
  have k8:(p.protos.map Fn.row).length=p.protos.length:=List.length_map ..
  have k9:(p.ups.map Upv.row).length=p.ups.length:=List.length_map ..
  have k10:(p.vars.map Vr.row).length=p.vars.length:=List.length_map ..
  have z7:=eq_true (B8 Kst.row 5 (fun _=>rfl) p.consts)
  have z8:=eq_true (B8 Fn.row 11 Fn.row_len p.protos)
  have z9:=eq_true (B8 Upv.row 3 (fun _=>rfl) p.ups)
  have z10:=eq_true (B8 Vr.row 5 (fun _=>rfl) p.vars)
  have r7: ∀(k:Nat) v,p.consts[k]? =some v→(p.consts.map Kst.row)[k]? =some v.row:=fun k v hk=>by rw [List.getElem?_map,hk];rfl
  have r8: ∀(k:Nat) v,p.protos[k]? =some v→(p.protos.map Fn.row)[k]? =some v.row:=fun k v hk=>by rw [List.getElem?_map,hk];rfl
  have r9: ∀(k:Nat) v,p.ups[k]? =some v→(p.ups.map Upv.row)[k]? =some v.row:=fun k v hk=>by rw [List.getElem?_map,hk];rfl
  have r10: ∀(k:Nat) v,p.vars[k]? =some v→(p.vars.map Vr.row)[k]? =some v.row:=fun k v hk=>by rw [List.getElem?_map,hk];rfl
  have b5:=ho.code.1
  have b7:=ho.consts.1
  have b8:=ho.protos
  have b9:=ho.ups.1
  have b10:=ho.vars.1
  generalize p.code.map Ins.row=e5 at*
  generalize p.consts.map Kst.row=e7 at*
  generalize p.protos.map Fn.row=e8 at*
  generalize p.ups.map Upv.row=e9 at*
  generalize p.vars.map Vr.row=e10 at*
  generalize p.row=pr at*
  have hr0:=hR.round pre (d,A0b p path) ((D4 H2 (d+1) 0 p.consts++(D4 upT (d+1) 0 p.ups++(D4 A1y (d+1) 0 p.vars++D4 (T9 p.lines) (d+1) 0 p.code)))++linesFs path (d+1) 0 p.protos++post) h
  refine A3.enterK A2k (Nat.le_of_ble_eq_true rfl) fun Q hQ=>Run.go 100 ?_
  simp -implicitDefEqProofs only [go_sem,A8,h1,h2]
  refine A3.pureF hhead (by simp -implicitDefEqProofs only [go_sem,hps]) ?_
  simp -implicitDefEqProofs only [go_sem]
  refine J0.use (rest:= []) (hr0 _ (by rw [hw];simp) (hR.up _ _ _ _ (by omega) hJ)) rfl (by simp) ?_
  rintro r h' n' hn ⟨rfl,hJ'⟩
  simp -implicitDefEqProofs only [go_sem,h7]
  refine Run.roundsK (fun(x:Nat×A2×Nat)=>⟨[(26,.int .i64 x.1),(25,.int .i64 p.consts.length),(24,.isl e7),(4,.iptr [[.yld nm st]] 0 0),(3,.iptr [[.str path]] 0 0),(2,.iptr [pr] 0 0),(1,.iptr [[.int .i64 d]] 0 0)],x.2.1,x.2.2⟩)
   (fun x=>x.1≤p.consts.length∧J (pre++ [(d,A0b p path)]++D4 H2 (d+1) 0 (p.consts.take x.1)) x.2.1 x.2.2) (fun x=>p.consts.length-x.1) (0,_,_) ?_ ⟨Nat.zero_le _,by simpa [D4]using hJ'⟩ ?_
  ·refine O8.wk ⟨D3.1 (by simp -implicitDefEqProofs only [go_sem,k7]),fun e he=> ?_,Nat.le_refl _⟩
   simpa using he
  clear hJ' hn
  rintro⟨k,h3,n3⟩ ⟨hk,hJ3⟩ ih
  simp only at hk hJ3 ih⊢
  refine Run.unf A5E (Run.go 100 ?_)
  by_cases hlt:k<p.consts.length
  ·obtain⟨a6,a8,a10,a13,aL,aK⟩:=hR.ap _ _ _ hJ3
   have c0:=a6.del
   have q0:((k:Int)<(p.consts.length:Int))=True:=eq_true (by omega)
   have q1:((0:Int)≤(k:Int))=True:=eq_true (by omega)
   have hzk:((k:Int)+1)=((k+1:Nat):Int):=by omega
   obtain⟨v,hv⟩: ∃v,p.consts[k]? =some v:=⟨p.consts[k],by simp [hlt]⟩
   have hvm:=List.mem_of_getElem? hv
   have ik:=E0 k (by omega) (by omega)
   have hvr:=r7 k v hv
   have hvv:=ho.consts.2 v hvm
   have hval:=C2K v hvv.1 hvv.2
   have hvs:=Kst.row_sub G6 v
   have hl:=B1A hvv.1 hvv.2 (i:=k) (by omega)
   unfold H2 at hl
   have hj:=A2b [[99,111,110,115,116],Lib.itoa k,B0R v] (by simp) (by simp) (by omega)
   rw [show Q4 [[99,111,110,115,116],Lib.itoa k,B0R v]=H2 k v from rfl]at hj
   have hat:D4 H2 (d+1) 0 p.consts=D4 H2 (d+1) 0 (p.consts.take k)++(d+1,H2 k v)::D4 H2 (d+1) (k+1) (p.consts.drop (k+1)):=B1b H2 (d+1) hv
   have hrd:=hR.round (pre++ [(d,A0b p path)]++D4 H2 (d+1) 0 (p.consts.take k)) (d+1,H2 k v) (D4 H2 (d+1) (k+1) (p.consts.drop (k+1))++(D4 upT (d+1) 0 p.ups++(D4 A1y (d+1) 0 p.vars++D4 (T9 p.lines) (d+1) 0 p.code))++linesFs path (d+1) 0 p.protos++post) h3
   have hnx:=A7b H2 (d+1) hv
   simp only at hrd
   rw [show (((d+1:Nat):Int))=(d:Int)+1 by omega]at hrd
   have g1:v.row.length=5:=rfl
   have g2:v.row.take 5=v.row:=rfl
   generalize v.row=vr at*
   simp -implicitDefEqProofs only [go_sem,q0,q1,k7,z7,hvr,Option.some.injEq,forall_eq',g1,g2,c0]
   repeat' first|omega|refine And.intro ?_ ?_
   all_goals (
    refine A3.pureF ik (by simp -implicitDefEqProofs only [go_sem]) ?_
    simp -implicitDefEqProofs only [go_sem,g1,g2]
    repeat' first|omega|refine And.intro ?_ ?_
    all_goals (
     refine A3.pureF hval (by simp -implicitDefEqProofs only [go_sem,hvs]) ?_
     simp -implicitDefEqProofs only [go_sem,g1,g2]
     repeat' first|omega|refine And.intro ?_ ?_
     all_goals (
      refine A3.pureF hj (by simp -implicitDefEqProofs only [go_sem,List.map_cons,List.map_nil]) ?_
      simp -implicitDefEqProofs only [go_sem,g1,g2]
      refine J0.use (rest:= [_]) (hrd _ (by rw [hw,hat];simp) (hR.up _ _ _ _ (by omega) hJ3)) rfl (fun e he e' he'=> ?_) ?_
      ·rw [List.mem_singleton.1 he];exact a6 e' he'
      rintro r h4 n4 hn4 ⟨rfl,hJ4⟩
      simp -implicitDefEqProofs only [go_sem,g1,g2]
      refine⟨by omega,?_⟩
      exact ih _ (k+1,h4,n4) ⟨by simp only;omega,by simp only [hnx];rw [←List.append_assoc];exact hJ4⟩ (by simp only;omega) (O8.wk ⟨D3.1 (by simp -implicitDefEqProofs only [go_sem,hzk]),fun e he=>List.mem_cons_of_mem _ he,Nat.le_refl _⟩))))
  have e:k=p.consts.length:=by omega
  subst e
  rw [List.take_length]at hJ3
  have hJ':=hJ3
  have hn:n≤n:=Nat.le_refl _
  clear ih hJ3 hlt hk
  simp -implicitDefEqProofs only [go_sem,h9,Int.lt_irrefl]
  refine Run.roundsK (fun(x:Nat×A2×Nat)=>⟨[(46,.int .i64 x.1),(45,.int .i64 p.ups.length),(44,.isl e9),(4,.iptr [[.yld nm st]] 0 0),(3,.iptr [[.str path]] 0 0),(2,.iptr [pr] 0 0),(1,.iptr [[.int .i64 d]] 0 0)],x.2.1,x.2.2⟩)
   (fun x=>x.1≤p.ups.length∧J (pre++ [(d,A0b p path)]++D4 H2 (d+1) 0 p.consts++D4 upT (d+1) 0 (p.ups.take x.1)) x.2.1 x.2.2) (fun x=>p.ups.length-x.1) (0,_,_) ?_ ⟨Nat.zero_le _,by simpa [D4]using hJ'⟩ ?_
  ·refine O8.wk ⟨D3.1 (by simp -implicitDefEqProofs only [go_sem,k9]),fun e he=> ?_,Nat.le_refl _⟩
   simpa using he
  clear hJ' hn
  rintro⟨k,h3,n3⟩ ⟨hk,hJ3⟩ ih
  simp only at hk hJ3 ih⊢
  refine Run.unf A5F (Run.go 100 ?_)
  by_cases hlt:k<p.ups.length
  ·obtain⟨a6,a8,a10,a13,aL,aK⟩:=hR.ap _ _ _ hJ3
   have c0:=a8.del
   have q0:((k:Int)<(p.ups.length:Int))=True:=eq_true (by omega)
   have q1:((0:Int)≤(k:Int))=True:=eq_true (by omega)
   have hzk:((k:Int)+1)=((k+1:Nat):Int):=by omega
   obtain⟨v,hv⟩: ∃v,p.ups[k]? =some v:=⟨p.ups[k],by simp [hlt]⟩
   have hvm:=List.mem_of_getElem? hv
   have ik:=E0 k (by omega) (by omega)
   have hvr:=r9 k v hv
   have hvv:=ho.ups.2 v hvm
   have hup:=C4l v k (by omega) hvv.1 hvv.2
   have hvs:=Upv.row_sub G6 v
   have hat:D4 upT (d+1) 0 p.ups=D4 upT (d+1) 0 (p.ups.take k)++(d+1,upT k v)::D4 upT (d+1) (k+1) (p.ups.drop (k+1)):=B1b upT (d+1) hv
   have hrd:=hR.round (pre++ [(d,A0b p path)]++D4 H2 (d+1) 0 p.consts++D4 upT (d+1) 0 (p.ups.take k)) (d+1,upT k v) (D4 upT (d+1) (k+1) (p.ups.drop (k+1))++(D4 A1y (d+1) 0 p.vars++D4 (T9 p.lines) (d+1) 0 p.code)++linesFs path (d+1) 0 p.protos++post) h3
   have hnx:=A7b upT (d+1) hv
   simp only at hrd
   rw [show (((d+1:Nat):Int))=(d:Int)+1 by omega]at hrd
   have g1:v.row.length=3:=rfl
   have g2:v.row.take 3=v.row:=rfl
   generalize v.row=vr at*
   simp -implicitDefEqProofs only [go_sem,q0,q1,k9,z9,hvr,Option.some.injEq,forall_eq',g1,g2,c0]
   repeat' first|omega|refine And.intro ?_ ?_
   all_goals (
    refine A3.pureF hup (by simp -implicitDefEqProofs only [go_sem,hvs]) ?_
    simp -implicitDefEqProofs only [go_sem,g1,g2]
    refine J0.use (rest:= [_]) (hrd _ (by rw [hw,hat];simp) (hR.up _ _ _ _ (by omega) hJ3)) rfl (fun e he e' he'=> ?_) ?_
    ·rw [List.mem_singleton.1 he];exact a8 e' he'
    rintro r h4 n4 hn4 ⟨rfl,hJ4⟩
    simp -implicitDefEqProofs only [go_sem,g1,g2]
    refine⟨by omega,?_⟩
    exact ih _ (k+1,h4,n4) ⟨by simp only;omega,by simp only [hnx];rw [←List.append_assoc];exact hJ4⟩ (by simp only;omega) (O8.wk ⟨D3.1 (by simp -implicitDefEqProofs only [go_sem,hzk]),fun e he=>List.mem_cons_of_mem _ he,Nat.le_refl _⟩))
  have e:k=p.ups.length:=by omega
  subst e
  rw [List.take_length]at hJ3
  have hJ':=hJ3
  have hn:n≤n:=Nat.le_refl _
  clear ih hJ3 hlt hk
  simp -implicitDefEqProofs only [go_sem,h10,Int.lt_irrefl]
  refine Run.roundsK (fun(x:Nat×A2×Nat)=>⟨[(63,.int .i64 x.1),(62,.int .i64 p.vars.length),(61,.isl e10),(4,.iptr [[.yld nm st]] 0 0),(3,.iptr [[.str path]] 0 0),(2,.iptr [pr] 0 0),(1,.iptr [[.int .i64 d]] 0 0)],x.2.1,x.2.2⟩)
   (fun x=>x.1≤p.vars.length∧J (pre++ [(d,A0b p path)]++D4 H2 (d+1) 0 p.consts++D4 upT (d+1) 0 p.ups++D4 A1y (d+1) 0 (p.vars.take x.1)) x.2.1 x.2.2) (fun x=>p.vars.length-x.1) (0,_,_) ?_ ⟨Nat.zero_le _,by simpa [D4]using hJ'⟩ ?_
  ·refine O8.wk ⟨D3.1 (by simp -implicitDefEqProofs only [go_sem,k10]),fun e he=> ?_,Nat.le_refl _⟩
   simpa using he
  clear hJ' hn
  rintro⟨k,h3,n3⟩ ⟨hk,hJ3⟩ ih
  simp only at hk hJ3 ih⊢
  refine Run.unf A5G (Run.go 100 ?_)
  by_cases hlt:k<p.vars.length
  ·obtain⟨a6,a8,a10,a13,aL,aK⟩:=hR.ap _ _ _ hJ3
   have c0:=a10.del
   have q0:((k:Int)<(p.vars.length:Int))=True:=eq_true (by omega)
   have q1:((0:Int)≤(k:Int))=True:=eq_true (by omega)
   have hzk:((k:Int)+1)=((k+1:Nat):Int):=by omega
   obtain⟨v,hv⟩: ∃v,p.vars[k]? =some v:=⟨p.vars[k],by simp [hlt]⟩
   have hvm:=List.mem_of_getElem? hv
   have ik:=E0 k (by omega) (by omega)
   have hvr:=r10 k v hv
   have hvv:=ho.vars.2 v hvm
   have hup:=C2M v k (by omega) hvv.1 hvv.2.1 hvv.2.2.1 hvv.2.2.2.1
   have hvs:=Vr.row_sub G6 v
   have hat:D4 A1y (d+1) 0 p.vars=D4 A1y (d+1) 0 (p.vars.take k)++(d+1,A1y k v)::D4 A1y (d+1) (k+1) (p.vars.drop (k+1)):=B1b A1y (d+1) hv
   have hrd:=hR.round (pre++ [(d,A0b p path)]++D4 H2 (d+1) 0 p.consts++D4 upT (d+1) 0 p.ups++D4 A1y (d+1) 0 (p.vars.take k)) (d+1,A1y k v) (D4 A1y (d+1) (k+1) (p.vars.drop (k+1))++D4 (T9 p.lines) (d+1) 0 p.code++linesFs path (d+1) 0 p.protos++post) h3
   have hnx:=A7b A1y (d+1) hv
   simp only at hrd
   rw [show (((d+1:Nat):Int))=(d:Int)+1 by omega]at hrd
   have g1:v.row.length=5:=rfl
   have g2:v.row.take 5=v.row:=rfl
   generalize v.row=vr at*
   simp -implicitDefEqProofs only [go_sem,q0,q1,k10,z10,hvr,Option.some.injEq,forall_eq',g1,g2,c0]
   repeat' first|omega|refine And.intro ?_ ?_
   all_goals (
    refine A3.pureF hup (by simp -implicitDefEqProofs only [go_sem,hvs]) ?_
    simp -implicitDefEqProofs only [go_sem,g1,g2]
    refine J0.use (rest:= [_]) (hrd _ (by rw [hw,hat];simp) (hR.up _ _ _ _ (by omega) hJ3)) rfl (fun e he e' he'=> ?_) ?_
    ·rw [List.mem_singleton.1 he];exact a10 e' he'
    rintro r h4 n4 hn4 ⟨rfl,hJ4⟩
    simp -implicitDefEqProofs only [go_sem,g1,g2]
    refine⟨by omega,?_⟩
    exact ih _ (k+1,h4,n4) ⟨by simp only;omega,by simp only [hnx];rw [←List.append_assoc];exact hJ4⟩ (by simp only;omega) (O8.wk ⟨D3.1 (by simp -implicitDefEqProofs only [go_sem,hzk]),fun e he=>List.mem_cons_of_mem _ he,Nat.le_refl _⟩))
  have e:k=p.vars.length:=by omega
  subst e
  rw [List.take_length]at hJ3
  have hJ':=hJ3
  have hn:n≤n:=Nat.le_refl _
  clear ih hJ3 hlt hk
  simp -implicitDefEqProofs only [go_sem,h5,Int.lt_irrefl]
  refine Run.roundsK (fun(x:Nat×A2×Nat)=>⟨[(80,.int .i64 x.1),(79,.int .i64 p.code.length),(78,.isl e5),(4,.iptr [[.yld nm st]] 0 0),(3,.iptr [[.str path]] 0 0),(2,.iptr [pr] 0 0),(1,.iptr [[.int .i64 d]] 0 0)],x.2.1,x.2.2⟩)
   (fun x=>x.1≤p.code.length∧J (pre++ [(d,A0b p path)]++D4 H2 (d+1) 0 p.consts++D4 upT (d+1) 0 p.ups++D4 A1y (d+1) 0 p.vars++D4 (T9 p.lines) (d+1) 0 (p.code.take x.1)) x.2.1 x.2.2) (fun x=>p.code.length-x.1) (0,_,_) ?_ ⟨Nat.zero_le _,by simpa [D4]using hJ'⟩ ?_
  ·refine O8.wk ⟨D3.1 (by simp -implicitDefEqProofs only [go_sem,k5]),fun e he=> ?_,Nat.le_refl _⟩
   simpa using he
  clear hJ' hn
  rintro⟨k,h3,n3⟩ ⟨hk,hJ3⟩ ih
  simp only at hk hJ3 ih⊢
  refine Run.unf A5H (Run.go 100 ?_)
  by_cases hlt:k<p.code.length
  ·obtain⟨a6,a8,a10,a13,aL,aK⟩:=hR.ap _ _ _ hJ3
   have c0:=aL.del
   have q0:((k:Int)<(p.code.length:Int))=True:=eq_true (by omega)
   have q1:((0:Int)≤(k:Int))=True:=eq_true (by omega)
   have hzk:((k:Int)+1)=((k+1:Nat):Int):=by omega
   obtain⟨v,hv⟩: ∃v,p.code[k]? =some v:=⟨p.code[k],by simp [hlt]⟩
   have hvm:=List.mem_of_getElem? hv
   have ik:=E0 k (by omega) (by omega)
   have hup:=hcode k v hv
   have hat:D4 (T9 p.lines) (d+1) 0 p.code=D4 (T9 p.lines) (d+1) 0 (p.code.take k)++(d+1,(T9 p.lines) k v)::D4 (T9 p.lines) (d+1) (k+1) (p.code.drop (k+1)):=B1b (T9 p.lines) (d+1) hv
   have hrd:=hR.round (pre++ [(d,A0b p path)]++D4 H2 (d+1) 0 p.consts++D4 upT (d+1) 0 p.ups++D4 A1y (d+1) 0 p.vars++D4 (T9 p.lines) (d+1) 0 (p.code.take k)) (d+1,(T9 p.lines) k v) (D4 (T9 p.lines) (d+1) (k+1) (p.code.drop (k+1))++linesFs path (d+1) 0 p.protos++post) h3
   have hnx:=A7b (T9 p.lines) (d+1) hv
   simp only at hrd
   rw [show (((d+1:Nat):Int))=(d:Int)+1 by omega]at hrd
   simp -implicitDefEqProofs only [go_sem,q0,q1,k5,h1,h2,c0]
   repeat' first|omega|refine And.intro ?_ ?_
   all_goals (
    refine A3.pureF hup (by simp -implicitDefEqProofs only [go_sem,hps]) ?_
    simp -implicitDefEqProofs only [go_sem,h1,h2]
    refine J0.use (rest:= []) (hrd _ (by rw [hw,hat];simp) (hR.up _ _ _ _ (by omega) hJ3)) rfl (fun e he e' he'=> ?_) ?_
    ·cases he
    rintro r h4 n4 hn4 ⟨rfl,hJ4⟩
    simp -implicitDefEqProofs only [go_sem,h1,h2]
    refine⟨by omega,?_⟩
    exact ih _ (k+1,h4,n4) ⟨by simp only;omega,by simp only [hnx];rw [←List.append_assoc];exact hJ4⟩ (by simp only;omega) (O8.wk ⟨D3.1 (by simp -implicitDefEqProofs only [go_sem,hzk]),fun e he=>he,Nat.le_refl _⟩))
  have e:k=p.code.length:=by omega
  subst e
  rw [List.take_length]at hJ3
  have hJ':=hJ3
  have hn:n≤n:=Nat.le_refl _
  clear ih hJ3 hlt hk
  simp -implicitDefEqProofs only [go_sem,h8,Int.lt_irrefl]
  refine Run.roundsK (fun(x:Nat×A2×Nat)=>⟨[(95,.int .i64 x.1),(94,.int .i64 p.protos.length),(93,.isl e8),(4,.iptr [[.yld nm st]] 0 0),(3,.iptr [[.str path]] 0 0),(2,.iptr [pr] 0 0),(1,.iptr [[.int .i64 d]] 0 0)],x.2.1,x.2.2⟩)
   (fun x=>x.1≤p.protos.length∧J (pre++ [(d,A0b p path)]++D4 H2 (d+1) 0 p.consts++D4 upT (d+1) 0 p.ups++D4 A1y (d+1) 0 p.vars++D4 (T9 p.lines) (d+1) 0 p.code++linesFs path (d+1) 0 (p.protos.take x.1)) x.2.1 x.2.2) (fun x=>p.protos.length-x.1) (0,_,_) ?_ ⟨Nat.zero_le _,by simpa [linesFs]using hJ'⟩ ?_
  ·refine O8.wk ⟨D3.1 (by simp -implicitDefEqProofs only [go_sem,k8]),fun e he=> ?_,Nat.le_refl _⟩
   simpa using he
  clear hJ' hn
  rintro⟨k,h3,n3⟩ ⟨hk,hJ3⟩ ih
  simp only at hk hJ3 ih⊢
  refine Run.unf A5I (Run.go 100 ?_)
  by_cases hlt:k<p.protos.length
  ·obtain⟨a6,a8,a10,a13,aL,aK⟩:=hR.ap _ _ _ hJ3
   have c0:=a13.del
   have cL:=aL.del
   have q0:((k:Int)<(p.protos.length:Int))=True:=eq_true (by omega)
   have q1:((0:Int)≤(k:Int))=True:=eq_true (by omega)
   have hzk:((k:Int)+1)=((k+1:Nat):Int):=by omega
   obtain⟨q,hv⟩: ∃v,p.protos[k]? =some v:=⟨p.protos[k],by simp [hlt]⟩
   have hvm:=List.mem_of_getElem? hv
   have ik:=E0 k (by omega) (by omega)
   have lk:=A7a (n:=k) (by omega)
   have hvr:=r8 k q hv
   have hvs:=Fn.row_sub G6 q
   obtain⟨g1,g2⟩:=C7 q
   have hdq:=B3l hvm
   rw [Fn.depth_eq]at hdep
   have hcall:=ih' q hvm (fun x hx=>hok x (Fn.each_trans p q (Fn.child_mem p.self_mem hvm) x hx)) (path++46::Lib.itoa k) (d+1) (by rw [List.length_append,List.length_cons];omega) (by omega)
   simp only [show (((d+1:Nat)):Int)=(d:Int)+1 by omega]at hcall
   have hlc:=fun m=>B2c q (path++46::Lib.itoa k) ((d:Int)+1) m
   have hpe:path++ [46]++Lib.itoa (k:Int)=path++46::Lib.itoa k:=by simp
   have hpl:(path++ [46]).length=path.length+1:=by simp
   have hat:=B7x path (d+1) hv
   have hnx:=B4w path (d+1) hv
   generalize q.row=qr at*
   simp -implicitDefEqProofs only [go_sem,q0,q1,k8,z8,hvr,Option.some.injEq,forall_eq',g1,g2,c0]
   repeat' first|omega|refine And.intro ?_ ?_
   all_goals (
    refine A3.pureF ik (by simp -implicitDefEqProofs only [go_sem]) ?_
    simp -implicitDefEqProofs only [go_sem,g1,g2,hpe,hpl]
    repeat' first|omega|refine And.intro ?_ ?_
    all_goals (
     refine A3.out (hlc _) ?_
     rintro r h4 n4 hn4 ⟨rfl,rfl,rfl⟩
     simp -implicitDefEqProofs only [go_sem,cL]
     refine⟨by kernel_rfl,?_⟩
     generalize hB:Blk.loop _ _ _ _ _ _=B
     refine A3.pre (xs':= [.yld (lK d) (n3+1),.iptr [[.int .i64 ((d:Int)+1)]] 0 0,.iptr [qr] 0 0,.iptr [[.str (path++46::Lib.itoa k)]] 0 0]) (h':=(lK d,n3+1,B)::h3) (n':=n3+1+1) (Wk.ren (by first|exact⟨.yld,.refl _,.refl _,.refl _,trivial⟩|exact⟨.refl _,.refl _,.refl _,.yld,trivial⟩) aL [_]) rfl ?_
     refine(hcall (lK d) (n3+1) whole (fun pre h n=> ∃h0,h=(lK d,n3+1,B)::h0∧J pre h0 n) ⟨?_,?_,?_⟩ (pre++ [(d,A0b p path)]++D4 H2 (d+1) 0 p.consts++D4 upT (d+1) 0 p.ups++D4 A1y (d+1) 0 p.vars++D4 (T9 p.lines) (d+1) 0 p.code++linesFs path (d+1) 0 (p.protos.take k)) (linesFs path (d+1) (k+1) (p.protos.drop (k+1))++post) _ _ (by rw [hw,hat];simp) ⟨h3,rfl,hR.up _ _ _ _ (by omega) hJ3⟩).wk ?_
     ·rintro pre2 l rest2 h2 n2 hw2 ⟨h0,rfl,hJ0⟩
      obtain⟨_,_,_,_,bL,bK⟩:=hR.ap _ _ _ hJ0
      have dK:=(bK d (Nat.le_refl _)).del
      have hrd:=hR.round pre2 l rest2 h0
      subst hB
      refine J0.enterU A4E A4F (B5D _ _ _ _) rfl fun Q2 hQ2=>Run.go 100 ?_
      simp -implicitDefEqProofs only [go_sem,dK]
      refine J0.use (rest:= [_]) (hrd _ hw2 (hR.up _ _ _ _ (by omega) hJ0)) rfl (fun e he e' he'=> ?_) ?_
      ·rw [List.mem_singleton.1 he];exact bK d (Nat.le_refl _) e' he'
      rintro r h5 n5 hn5 ⟨rfl,hJ5⟩
      have dK5:=((hR.ap _ _ _ hJ5).2.2.2.2.2 d (Nat.le_refl _)).del
      simp -implicitDefEqProofs only [go_sem,dK5]
      subst hQ2
      exact .is ⟨rfl,_,rfl,hJ5⟩
     ·rintro pre2 h2 n2 n5 hn5 ⟨h0,rfl,hJ0⟩
      exact⟨h0,rfl,hR.up _ _ _ _ hn5 hJ0⟩
     ·rintro pre2 h2 n2 ⟨h0,rfl,hJ0⟩
      obtain⟨b6,b8,b10,b13,bL,bK⟩:=hR.ap _ _ _ hJ0
      have ne: ∀x:Nat,x<1000000000000→lK d≠x:=fun x hx=>by simp only [lK];omega
      exact⟨.cons (ne _ (by decide)) b6,.cons (ne _ (by decide)) b8,.cons (ne _ (by decide)) b10,.cons (ne _ (by decide)) b13,.cons (ne _ (by decide)) bL,fun k hk=> .cons (by simp only [lK];omega) (bK k (by omega))⟩
     ·rintro r h5 n5 ⟨rfl,h0,rfl,hJ5⟩
      obtain⟨b6,b8,b10,b13,bL,bK⟩:=hR.ap _ _ _ hJ5
      refine⟨.tup [],(lL,n3+1,B)::h0,n5,Wk.ren (sl:= [(0,V.tup [])]) (sl':= [(0,V.tup [])]) ⟨.refl _,trivial⟩ (bK d (Nat.le_refl _)) [],?_⟩
      subst hB
      have dL:=bL.del
      simp -implicitDefEqProofs only [go_sem,dL]
      refine⟨by omega,?_⟩
      exact ih _ (k+1,h0,n5) ⟨by simp only;omega,by simp only [hnx];rw [←List.append_assoc];exact hJ5⟩ (by simp only;omega) (O8.wk ⟨D3.1 (by simp -implicitDefEqProofs only [go_sem,hzk]),fun e he=>he,Nat.le_refl _⟩)))
  have e:k=p.protos.length:=by omega
  subst e
  rw [List.take_length]at hJ3
  simp -implicitDefEqProofs only [go_sem,Int.lt_irrefl]
  subst hQ
  exact .is ⟨rfl,by simpa using hJ3⟩
end Go.Proofs.YtcjgeliglgcflaaGreatDoor
