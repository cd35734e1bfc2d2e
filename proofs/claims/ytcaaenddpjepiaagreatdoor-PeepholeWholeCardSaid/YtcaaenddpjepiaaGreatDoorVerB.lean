/-
 The first violation of a function, and of those within it. No condition.
-/
import Derived.Test.YtcaaenddpjepiaaGreatDoorVerP4
import Derived.Test.YtcaaenddpjepiaaGreatDoorFnMb
set_option linter.unusedVariables false
set_option linter.unusedSimpArgs false
set_option maxRecDepth 100000
set_option maxHeartbeats 0
namespace Go.Proofs.YtcaaenddpjepiaaGreatDoor
open Go.Abs
attribute [local irreducible] A0 Run
-- EV: Ins.v, Ins.row
attribute [local go_sem] Ins.v Ins.row
theorem B8n{p:Fn}{k:Nat}(b:k<p.code.length)(h:A3x p (P8 p) k=true)(a: ∀j,j<k→A3x p (P8 p) j=false):M5 p=k:=by
 have:(List.range p.code.length).find? (A3x p (P8 p))=some k:=by
  rw [List.find?_range_eq_some]
  exact⟨h,List.mem_range.2 b,fun j c=>by rw [a j c];rfl⟩
 unfold M5
 rw [this]
theorem C7E(p:Fn)(a:Sound p)(n:Nat):
  A0 Tryz.prog 110 [.agg p.row,.isl ((F8 p.code).map A4i)] [] n fun r g k=> ∃s L,r= .mp (110*10000+14) s∧g= [((110*10000+14),s,.map (Q7 L (n7 p.regs.toNat (P8 p))))]∧Kn p.regs.toNat p.code.length L (P8 p)∧A0T p.regs.toNat p.code p.params (P8 p):=by
 obtain⟨i,f⟩:=B4 p
 have b:=a.regs
 have c:=a.params
 have j:=a.code
 exact C2K p.regs.toNat p.code p.params p.row i f Qg (by rw [Int.toNat_of_nonneg b.1,Fn.row_eq];rfl) Qg (fun d h=>(G8 (d:=d) (h:=h)).elim fun φ e=>by rw [e];exact Fn.row_sub φ p)
  zd a.code0 zd c.1 zd a.fit n
theorem C8q(p:Fn)(b:Sound p):Pure Tryz.prog 111 [.agg p.row] (.isl ((F8 p.code).map A4i)):=by
 obtain⟨a,h⟩:=B4 p
 have c:=b.code
 exact C3n p.code p.row a h Qg (Fn.row_sub C7 p) zd (D1V p zd)
theorem C3u(p:Fn)(f:Sound p):Pure Tryz.prog 88 [.agg p.row] (.int .i64 (M5 p)):=by
 obtain⟨w,v⟩:=B4 p
 have F:=C8q p f
 have U:=C7E p f
 have z:=fun L u o a y n s=>B7K p f (P8 p) L u o a y _ s n rfl
 have H:=fun k q h b=>B8n (p:=p) (k:=k) q h b
 have i:=B4t (p:=p)
 have g:=Fn.row_sub C7 p
 have N:p.row[5]? =some (.isl (p.code.map Ins.row)):=by rw [Fn.row_eq];rfl
 have E:(p.code.map Ins.row).length=p.code.length:=List.length_map ..
 have K:=f.code
 generalize M5 p=D at*
 generalize A3x p (P8 p)=B at*
 generalize p.code.map Ins.row=V at*
 generalize (F8 p.code).map A4i=W at*
 generalize p.row=Q at*
 refine Pure.of 0 (A0.enter A9D Jk (Run.go 100 ?_))
 simp -implicitDefEqProofs only [go_sem,A4,w,v]
 refine⟨?_,?_⟩
 all_goals
  refine A0.pureF F zn ?_
  simp -implicitDefEqProofs only [go_sem,w,v]
  refine A0.at [] [0] (U _) rfl rfl ?_
  rintro r S T M ⟨s,L,rfl,rfl,u,o⟩
  have z:=fun a y n=>z L u o a y n s
  generalize P:Q7 L (n7 p.regs.toNat (P8 p))=O at*
  simp -implicitDefEqProofs only [go_sem,N,E]
  refine Run.keep [12,11,3,1] ?_
  refine Run.roundsK (fun(x:Nat×Nat)=>⟨[(12,.int .i64 x.1),(11,.int .i64 p.code.length),(3,.mp (110*10000+14) s),(1,.ptr (88*10000+1) 0 0 0)],[((110*10000+14),s,.map O),((88*10000+1),0,.rows 11 [Q])],x.2⟩)
   (fun x=>x.1≤p.code.length∧ ∀j,j<x.1→B j=false) (fun x=>p.code.length-x.1) (0,T) (C1.wk (C1.of ze (fun e l=>l) (Nat.le_refl _))) ⟨Nat.zero_le _,fun j A=>absurd A (Nat.not_lt_zero _)⟩ ?_
  rintro⟨k,m⟩ ⟨q,b⟩ C
  simp only at q b C⊢
  refine Run.unf A5G (Run.go 100 ?_)
  by_cases d:k<p.code.length
  ·have R:((k:Int)<(p.code.length:Int))=True:=Ji
   have t:((k+1:Nat):Int)=(k:Int)+1:=by omega
   simp -implicitDefEqProofs only [go_sem,R,w,v]
   refine A0.at [0] [1] (z k d _) rfl rfl ?_
   rintro r S G J ⟨rfl,rfl⟩
   cases hv:B k with
   |true=>
    simp -implicitDefEqProofs only [go_sem,H k d hv b]
   |false=>
    refine QL ?_
    refine⟨by omega,C _ (k+1,G) ⟨by simp only;omega,fun j A=> ?_⟩ zg (C1.wk (C1.of zX (fun e l=>l) (Nat.le_refl _)))⟩
    by_cases c:j=k
    ·subst c;exact hv
    ·exact b j (by simp only at A;omega)
  ·have e:k=p.code.length:=by omega
   subst e
   have I:D= -1:=i.2 b
   simp -implicitDefEqProofs only [go_sem,Int.lt_irrefl,I]
def srV:Option (List Int×Int)→V
 |none=> .tup [.isl [],.int .i64 0,.bool false]
 |some x=> .tup [.isl (x.1.map zrw),.int .i64 x.2,.bool true]
theorem C2z(p:Fn)(T:p.bd)(hd:p.depth≤1000000)(u:L5 p=0): ∀(w:List Int),w.length+p.depth≤1000→Pure Tryz.prog 68 [.agg p.row,.isl (w.map zrw)] (srV (p.srch w)):=by
 induction p using Fn.ind with
 | h p t=>
  intro w hw
  have Y:=Fn.depth_eq p
  have ih: ∀q∈p.protos,∀k:Nat,Pure Tryz.prog 68 [.agg q.row,.isl ((w++ [(k:Int)]).map zrw)] (srV (q.srch (w++ [(k:Int)]))):=fun q g k=>by
   have K:=Fn.depths_mem g
   exact t q g (T.child g) zd (B4k u (Fn.child_mem (Fn.self_mem p) g)) _ (by simp only [List.length_append,List.length_singleton];omega)
  clear t
  obtain⟨K,Q⟩:=B4 p
  have z:=Fn.row_sub C7 p
  have hs:Sound p:= .of u
  have hf:=C3u p hs
  have hqz:=T.self.protos
  have h8:p.row[8]? =some (.isl (p.protos.map Fn.row)):=by rw [Fn.row_eq];rfl
  have P:(p.protos.map Fn.row).length=p.protos.length:=List.length_map ..
  have z8:=eq_true (B3 Fn.row 11 Fn.row_len p.protos)
  have X: ∀(k:Nat) x,p.protos[k]? =some x→(p.protos.map Fn.row)[k]? =some (Fn.row x):=fun k x u=>by rw [List.getElem?_map,u];rfl
  have f:=Fn.srch_eq p w
  have i:(w.map zrw).length=w.length:=List.length_map ..
  have L:=H1 w
  have D:(w.map zrw).take w.length=w.map zrw:=List.take_of_length_le zd
  have v:=fun d h=>(G8 (d:=d) (h:=h)).elim fun φ e=>show (w.map zrw).map (fun r=>r.map (frz d h))=w.map zrw by rw [e];exact W9 φ _
  have l:=W9 C7 w
  have B: ∀k:Nat,(w++ [(k:Int)]).map zrw=w.map zrw++ [[.int .i64 (k:Int)]]:=fun k=>by simp [zrw]
  have E:=C8a w zd
  generalize M5 p=U at*
  generalize p.srch w=sr at*
  generalize hW:w.map zrw=W at*
  generalize p.protos.map Fn.row=PR at*
  generalize p.row=R at*
  refine Pure.of 0 (A0.enter A7W Jk (Run.go 100 ?_))
  simp -implicitDefEqProofs only [go_sem,A4,K,Q]
  refine A0.pureF hf QJ ?_
  by_cases c:0≤U
  ·rw [if_pos c]at f
   subst f
   refine QO ?_
   rw [v,←hW];rfl
  rw [if_neg c]at f
  simp -implicitDefEqProofs only [go_sem,c,h8,P,K,Q]
  refine Run.keep [22,21,20,2,1] ?_
  refine Run.roundsK (fun(x:Nat×Nat)=>⟨[(22,.int .i64 x.1),(21,.int .i64 p.protos.length),(20,.isl PR),(2,.ptr (68*10000+2) 0 0 0),(1,.isl W)],[((68*10000+2),0,.rows 11 [R])],x.2⟩)
   (fun x=>x.1≤p.protos.length∧sr=Fn.srchs (p.protos.drop x.1) x.1 w) (fun x=>p.protos.length-x.1) (0,1) (C1.wk (C1.of ze (fun e A=>A) (Nat.le_refl _))) ⟨Nat.zero_le _,f⟩ ?_
  rintro⟨k,m⟩ ⟨J,a⟩ o
  simp only at J a o⊢
  refine Run.unf A4B (Run.go 100 ?_)
  by_cases j:k<p.protos.length
  ·have q0:((k:Int)<(p.protos.length:Int))=True:=Ji
   have Z:((0:Int)≤(k:Int))=True:=Ji
   have H:((k+1:Nat):Int)=(k:Int)+1:=by omega
   obtain⟨q,I⟩: ∃x,p.protos[k]? =some x:=⟨p.protos[k],by simp [j]⟩
   have M:=X k q I
   have g:=ih q (List.mem_of_getElem? I) k
   obtain⟨O,S⟩:=B4 q
   have G:=Fn.row_sub C7 q
   have F:p.protos.drop k=q::p.protos.drop (k+1):=by
    obtain⟨hk',e⟩:=List.getElem_of_getElem? I
    rw [←e,List.getElem_cons_drop]
   rw [F,Fn.srchs]at a
   rw [B]at g
   have n:(W++ [[V.int .i64 (k:Int)]]).map (fun r=>r.map (V.sub C7))=W++ [[V.int .i64 (k:Int)]]:=by rw [List.map_append,l];rfl
   have s:(W++ [[V.int .i64 (k:Int)]]).length=w.length+1:=by rw [List.length_append,i];rfl
   generalize q.row=N at*
   simp -implicitDefEqProofs only [go_sem,q0,Z,P,z8,O,S,M,j,Option.some.injEq,forall_eq']
   refine⟨?_,?_,?_⟩
   all_goals
    refine A0.at [] [0,1] (E _) rfl rfl ?_
    rintro r h' C hn2 ⟨st,rfl,rfl⟩
    simp -implicitDefEqProofs only [go_sem,i,L,D,O,S]
    refine⟨by omega,?_⟩
    refine A0.pre (xs':= [.agg N,.isl (W++ [[V.int .i64 (k:Int)]])]) (h':= [((68*10000+9),m,.rows 11 [N]),((68*10000+2),0,.rows 11 [R])]) (n':=C+1) (.freeze (b:=(89*10000+5)) (st:=C) (sz:=1) (rs:=W++ [[V.int .i64 (k:Int)]]) List.mem_cons_self ⟨Frz.all s.symm,.of (.refl _),trivial⟩ (.at 1 rfl zh (.of (.refl _)) (.at 2 rfl zh (.of (.refl _)) trivial))) rfl ?_
    refine A0.pureF g (by simp -implicitDefEqProofs only [go_sem,G,n]) ?_
    cases hsq:q.srch (w++ [(k:Int)])with
    |none=>
     rw [hsq]at a
     simp only [srV]
     refine QL ?_
     refine⟨by omega,o _ (k+1,C+1) ⟨by simp only;omega,a⟩ zg (C1.wk (C1.of zY (fun e A=>List.mem_cons_of_mem _ A) (Nat.le_refl _)))⟩
    |some x=>
     rw [hsq]at a
     subst a
     have y:=fun d h=>(G8 (d:=d) (h:=h)).elim fun φ e=>show (x.1.map zrw).map (fun r=>r.map (frz d h))=x.1.map zrw by rw [e];exact W9 φ _
     simp only [srV]
     exact Qz
  ·have e:k=p.protos.length:=by omega
   subst e
   rw [List.drop_length,Fn.srchs]at a
   subst a
   refine QN ?_
   rfl
theorem B9v(p:Fn)(g:p.bd)(o:p.depth≤900):Pure Tryz.prog 36 [.agg p.row]
  (if L5 p≠0 then .tup [.isl [],.int .i64 0,.int .i64 (L5 p)]else match p.srch []with|none=> .tup [.isl [],.int .i64 0,.int .i64 0]|some x=> .tup [.isl (x.1.map zrw),.int .i64 x.2,.int .i64 21]):=by
 obtain⟨k,i⟩:=B4 p
 have b:=Fn.row_sub C7 p
 have m:=A5Z p g zd
 have f:=fun l=>C2z p g zd l [] (by simp only [List.length_nil];omega)
 generalize p.srch []=s at*
 generalize L5 p=z at*
 generalize p.row=j at*
 refine Pure.of 0 (A0.enter A3f Jk (Run.go 100 ?_))
 simp -implicitDefEqProofs only [go_sem,A4,k,i]
 refine A0.pureF m (by simp -implicitDefEqProofs only [go_sem,b]) ?_
 by_cases a:z=0
 case neg=>
  rw [if_pos a]
  exact Qd
 rw [if_neg (fun h=>h a)]
 have n:=f a
 simp -implicitDefEqProofs only [go_sem,a,k,i]
 refine A0.pre (xs':= [.agg j,.isl []]) (h':= [((36*10000+1),0,.rows 11 [j])]) (n':=1) (.turn id ⟨I3.nilI,.refl _,trivial⟩ (.at 0 rfl rfl (.refl _) trivial)) rfl ?_
 refine A0.pureF n (by simp -implicitDefEqProofs only [go_sem,b,List.map_nil]) ?_
 cases s with
 |none=>
  simp only [srV]
  exact Xx
 |some x=>
  have c:=fun d h=>(G8 (d:=d) (h:=h)).elim fun φ e=>show (x.1.map zrw).map (fun r=>r.map (frz d h))=x.1.map zrw by rw [e];exact W9 φ _
  simp only [srV]
  exact zJ
theorem C2R(p:Fn)(f:p.bd)(g:p.depth≤900):Pure Tryz.prog 14 [.agg p.row] (.int .i64 (A5Q p)):=by
 obtain⟨d,c⟩:=B4 p
 have a:=Fn.row_sub C7 p
 have b:=B9v p f g
 unfold A5Q
 generalize p.srch []=s at*
 generalize L5 p=z at*
 generalize p.row=i at*
 by_cases e:z=0
 case neg=>
  rw [if_pos e]at b⊢
  exact YB
 rw [if_neg (fun h=>h e)]at b⊢
 cases s with
 |none=>
  rw [if_pos rfl]
  refine Pure.of 0 (A0.enter A1x Jk (Run.go 100 ?_))
  refine QW ?_
  refine A0.pureF b Qd ?_
  exact Xx
 |some x=>
  rw [if_neg (fun h=>by cases h)]
  simp only at b
  exact YB
end Go.Proofs.YtcaaenddpjepiaaGreatDoor
