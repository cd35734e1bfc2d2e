/-
 The first violation of a function, and of those within it. No condition.
-/
import Derived.Test.YtnihmhbcjpcobaaGreatDoorVerP4
import Derived.Test.YtnihmhbcjpcobaaGreatDoorFnMb
import Derived.Test.YtnihmhbcjpcobaaGreatDoorFnCk
set_option linter.unusedVariables false
set_option linter.unusedSimpArgs false
set_option maxRecDepth 100000
set_option maxHeartbeats 0
namespace Go.Proofs.YtnihmhbcjpcobaaGreatDoor
open Go.Abs
attribute [local irreducible] A2 Run
-- EV: Ins.v, Ins.row
attribute [local go_sem] Ins.v Ins.row
theorem B0X{p:Fn}{k:Nat}(hk:k<p.code.length)(h:A0j p (I1 p) k=true)(hno: ∀j,j<k→A0j p (I1 p) j=false):G9 p=k:=by
 have:(List.range p.code.length).find? (A0j p (I1 p))=some k:=by
  rw [List.find?_range_eq_some]
  exact⟨h,List.mem_range.2 hk,fun j hj=>by rw [hno j hj];rfl⟩
 unfold G9
 rw [this]
theorem C1M(p:Fn)(hs:Sound p)(n:Nat):
  A2 Tryz.prog 30 [.agg p.row,.isl ((D1 p.code).map A2h)] [] n fun r h' n'=> ∃st L,r= .mp (30*10000+14) st∧h'= [((30*10000+14),st,.map (J1 L (R1 p.regs.toNat (I1 p))))]∧Kn p.regs.toNat p.code.length L (I1 p)∧W9 p.regs.toNat p.code p.params (I1 p):=by
 obtain⟨h1,h2⟩:=B5 p
 have hr:=hs.regs
 have hp:=hs.params
 have hc:=hs.code
 exact B7P p.regs.toNat p.code p.params p.row h1 h2 (by rw [Fn.row_eq];rfl) (by rw [Int.toNat_of_nonneg hr.1,Fn.row_eq];rfl) (by rw [Fn.row_eq];rfl) (fun d h=>(D8 (d:=d) (h:=h)).elim fun φ e=>by rw [e];exact Fn.row_sub φ p)
  (by omega) hs.code0 (by omega) hp.1 (by omega) hs.fit n
theorem C2p(p:Fn)(hs:Sound p):Pure Tryz.prog 31 [.agg p.row] (.isl ((D1 p.code).map A2h)):=by
 obtain⟨h1,h2⟩:=B5 p
 have hc:=hs.code
 exact B8m p.code p.row h1 h2 (by rw [Fn.row_eq];rfl) (Fn.row_sub H0 p) (by omega) (C5u p (by omega))
theorem B8t(p:Fn)(hs:Sound p):Pure Tryz.prog 17 [.agg p.row] (.int .i64 (G9 p)):=by
 obtain⟨h1,h2⟩:=B5 p
 have hE:=C2p p hs
 have hS:=C1M p hs
 have hV:=fun L hK hI a ha n st=>B3Y p hs (I1 p) L hK hI a ha _ st n rfl
 have hF:=fun k hk h hno=>B0X (p:=p) (k:=k) hk h hno
 have hF0:=A7l (p:=p)
 have hps:=Fn.row_sub H0 p
 have h5:p.row[5]? =some (.isl (p.code.map Ins.row)):=by rw [Fn.row_eq];rfl
 have l5:(p.code.map Ins.row).length=p.code.length:=List.length_map ..
 have hcl:=hs.code
 generalize G9 p=fF at*
 generalize A0j p (I1 p)=vF at*
 generalize p.code.map Ins.row=CR at*
 generalize (D1 p.code).map A2h=ER at*
 generalize p.row=pr at*
 refine Pure.of 0 (A2.enter A6O (Nat.le_of_ble_eq_true rfl) (Run.go 100 ?_))
 simp -implicitDefEqProofs only [go_sem,A4,h1,h2]
 refine⟨?_,?_⟩
 all_goals
  refine A2.pureF hE (by simp -implicitDefEqProofs only [go_sem,hps]) ?_
  simp -implicitDefEqProofs only [go_sem,h1,h2]
  refine A2.at [] [0] (hS _) rfl rfl ?_
  rintro r h' n1 hn1 ⟨st,L,rfl,rfl,hK,hI⟩
  have hV:=fun a ha n=>hV L hK hI a ha n st
  generalize hes:J1 L (R1 p.regs.toNat (I1 p))=es at*
  simp -implicitDefEqProofs only [go_sem,h5,l5]
  refine Run.keep [12,11,3,1] ?_
  refine Run.roundsK (fun(x:Nat×Nat)=>⟨[(12,.int .i64 x.1),(11,.int .i64 p.code.length),(3,.mp (30*10000+14) st),(1,.ptr (17*10000+1) 0 0 0)],[((30*10000+14),st,.map es),((17*10000+1),0,.rows 11 [pr])],x.2⟩)
   (fun x=>x.1≤p.code.length∧ ∀j,j<x.1→vF j=false) (fun x=>p.code.length-x.1) (0,n1) (B6.wk (B6.of (by simp -implicitDefEqProofs only [go_sem]) (fun e he=>he) (Nat.le_refl _))) ⟨Nat.zero_le _,fun j hj=>absurd hj (Nat.not_lt_zero _)⟩ ?_
  rintro⟨k,m⟩ ⟨hk,hno⟩ ih
  simp only at hk hno ih⊢
  refine Run.unf A9I (Run.go 100 ?_)
  by_cases hlt:k<p.code.length
  ·have q0:((k:Int)<(p.code.length:Int))=True:=eq_true (by omega)
   have hzk:((k+1:Nat):Int)=(k:Int)+1:=by omega
   simp -implicitDefEqProofs only [go_sem,q0,h1,h2]
   refine A2.at [0] [1] (hV k hlt _) rfl rfl ?_
   rintro r h' n2 hn2 ⟨rfl,rfl⟩
   cases hv:vF k with
   |true=>
    simp -implicitDefEqProofs only [go_sem,hF k hlt hv hno]
   |false=>
    simp -implicitDefEqProofs only [go_sem]
    refine⟨by omega,ih _ (k+1,n2) ⟨by simp only;omega,fun j hj=> ?_⟩ (by simp only;omega) (B6.wk (B6.of (by simp -implicitDefEqProofs only [go_sem,hzk]) (fun e he=>he) (Nat.le_refl _)))⟩
    by_cases c:j=k
    ·subst c;exact hv
    ·exact hno j (by simp only at hj;omega)
  ·have e:k=p.code.length:=by omega
   subst e
   have hf:fF= -1:=hF0.2 hno
   simp -implicitDefEqProofs only [go_sem,Int.lt_irrefl,hf]
def srV:Option (List Int×Int)→V
 |none=> .tup [.isl [],.int .i64 0,.bool false]
 |some x=> .tup [.isl (x.1.map zrw),.int .i64 x.2,.bool true]
theorem B7F(p:Fn)(hp:p.bd)(hd:p.depth≤1000000)(hk:A2e p=0): ∀(w:List Int),w.length+p.depth≤1000→Pure Tryz.prog 11 [.agg p.row,.isl (w.map zrw)] (srV (p.srch w)):=by
 induction p using Fn.ind with
 | h p ih'=>
  intro w hw
  have hde:=Fn.depth_eq p
  have ih: ∀q∈p.protos,∀k:Nat,Pure Tryz.prog 11 [.agg q.row,.isl ((w++ [(k:Int)]).map zrw)] (srV (q.srch (w++ [(k:Int)]))):=fun q hq k=>by
   have h1:=Fn.depths_mem hq
   exact ih' q hq (hp.child hq) (by omega) (B1w hk (Fn.child_mem (Fn.self_mem p) hq)) _ (by simp only [List.length_append,List.length_singleton];omega)
  clear ih'
  obtain⟨h1,h2⟩:=B5 p
  have hps:=Fn.row_sub H0 p
  have hs:Sound p:= .of hk
  have hf:=B8t p hs
  have hqz:=hp.self.protos
  have h8:p.row[8]? =some (.isl (p.protos.map Fn.row)):=by rw [Fn.row_eq];rfl
  have l8:(p.protos.map Fn.row).length=p.protos.length:=List.length_map ..
  have z8:=eq_true (A9 Fn.row 11 Fn.row_len p.protos)
  have r8: ∀(k:Nat) x,p.protos[k]? =some x→(p.protos.map Fn.row)[k]? =some (Fn.row x):=fun k x hk=>by rw [List.getElem?_map,hk];rfl
  have hsr:=Fn.srch_eq p w
  have hwl:(w.map zrw).length=w.length:=List.length_map ..
  have hwz:=F7 w
  have hwt:(w.map zrw).take w.length=w.map zrw:=List.take_of_length_le (by omega)
  have hws:=fun d h=>(D8 (d:=d) (h:=h)).elim fun φ e=>show (w.map zrw).map (fun r=>r.map (frz d h))=w.map zrw by rw [e];exact M5 φ _
  have hws2:=M5 H0 w
  have hwk: ∀k:Nat,(w++ [(k:Int)]).map zrw=w.map zrw++ [[.int .i64 (k:Int)]]:=fun k=>by simp [zrw]
  have hcl:=C2f w (by omega)
  generalize G9 p=fF at*
  generalize p.srch w=sr at*
  generalize hW:w.map zrw=W at*
  generalize p.protos.map Fn.row=PR at*
  generalize p.row=pr at*
  refine Pure.of 0 (A2.enter A5w (Nat.le_of_ble_eq_true rfl) (Run.go 100 ?_))
  simp -implicitDefEqProofs only [go_sem,A4,h1,h2]
  refine A2.pureF hf (by simp -implicitDefEqProofs only [go_sem,hps]) ?_
  by_cases hf0:0≤fF
  ·rw [if_pos hf0]at hsr
   subst hsr
   simp -implicitDefEqProofs only [go_sem,hf0]
   rw [hws,←hW];rfl
  rw [if_neg hf0]at hsr
  simp -implicitDefEqProofs only [go_sem,hf0,h8,l8,h1,h2]
  refine Run.keep [22,21,20,2,1] ?_
  refine Run.roundsK (fun(x:Nat×Nat)=>⟨[(22,.int .i64 x.1),(21,.int .i64 p.protos.length),(20,.isl PR),(2,.ptr (11*10000+2) 0 0 0),(1,.isl W)],[((11*10000+2),0,.rows 11 [pr])],x.2⟩)
   (fun x=>x.1≤p.protos.length∧sr=Fn.srchs (p.protos.drop x.1) x.1 w) (fun x=>p.protos.length-x.1) (0,1) (B6.wk (B6.of (by simp -implicitDefEqProofs only [go_sem]) (fun e he=>he) (Nat.le_refl _))) ⟨Nat.zero_le _,hsr⟩ ?_
  rintro⟨k,m⟩ ⟨hkl,hsk⟩ ihl
  simp only at hkl hsk ihl⊢
  refine Run.unf A8v (Run.go 100 ?_)
  by_cases hlt:k<p.protos.length
  ·have q0:((k:Int)<(p.protos.length:Int))=True:=eq_true (by omega)
   have q1:((0:Int)≤(k:Int))=True:=eq_true (by omega)
   have hzk:((k+1:Nat):Int)=(k:Int)+1:=by omega
   obtain⟨q,hx⟩: ∃x,p.protos[k]? =some x:=⟨p.protos[k],by simp [hlt]⟩
   have hxr:=r8 k q hx
   have hq:=ih q (List.mem_of_getElem? hx) k
   obtain⟨g1,g2⟩:=B5 q
   have hqs:=Fn.row_sub H0 q
   have hdr:p.protos.drop k=q::p.protos.drop (k+1):=by
    obtain⟨hk',e⟩:=List.getElem_of_getElem? hx
    rw [←e,List.getElem_cons_drop]
   rw [hdr,Fn.srchs]at hsk
   rw [hwk]at hq
   have hws3:(W++ [[V.int .i64 (k:Int)]]).map (fun r=>r.map (V.sub H0))=W++ [[V.int .i64 (k:Int)]]:=by rw [List.map_append,hws2];rfl
   have hwl2:(W++ [[V.int .i64 (k:Int)]]).length=w.length+1:=by rw [List.length_append,hwl];rfl
   generalize q.row=qr at*
   simp -implicitDefEqProofs only [go_sem,q0,q1,l8,z8,g1,g2,hxr,hlt,Option.some.injEq,forall_eq']
   refine⟨?_,?_,?_⟩
   all_goals
    refine A2.at [] [0,1] (hcl _) rfl rfl ?_
    rintro r h' n2 hn2 ⟨st,rfl,rfl⟩
    simp -implicitDefEqProofs only [go_sem,hwl,hwz,hwt,g1,g2]
    refine⟨by omega,?_⟩
    refine A2.pre (xs':= [.agg qr,.isl (W++ [[V.int .i64 (k:Int)]])]) (h':= [((11*10000+9),m,.rows 11 [qr]),((11*10000+2),0,.rows 11 [pr])]) (n':=n2+1) (.freeze (b:=(18*10000+5)) (st:=n2) (sz:=1) (rs:=W++ [[V.int .i64 (k:Int)]]) List.mem_cons_self ⟨Frz.all hwl2.symm,.of (.refl _),trivial⟩ (.at 1 rfl (by decide) (.of (.refl _)) (.at 2 rfl (by decide) (.of (.refl _)) trivial))) rfl ?_
    refine A2.pureF hq (by simp -implicitDefEqProofs only [go_sem,hqs,hws3]) ?_
    cases hsq:q.srch (w++ [(k:Int)])with
    |none=>
     rw [hsq]at hsk
     simp only [srV]
     simp -implicitDefEqProofs only [go_sem]
     refine⟨by omega,ihl _ (k+1,n2+1) ⟨by simp only;omega,hsk⟩ (by simp only;omega) (B6.wk (B6.of (by simp -implicitDefEqProofs only [go_sem,hzk]) (fun e he=>List.mem_cons_of_mem _ he) (Nat.le_refl _)))⟩
    |some x=>
     rw [hsq]at hsk
     subst hsk
     have hxs:=fun d h=>(D8 (d:=d) (h:=h)).elim fun φ e=>show (x.1.map zrw).map (fun r=>r.map (frz d h))=x.1.map zrw by rw [e];exact M5 φ _
     simp only [srV]
     simp -implicitDefEqProofs only [go_sem,hxs]
  ·have e:k=p.protos.length:=by omega
   subst e
   rw [List.drop_length,Fn.srchs]at hsk
   subst hsk
   simp -implicitDefEqProofs only [go_sem,Int.lt_irrefl]
   rfl
theorem A9X(p:Fn)(hp:p.bd)(hd:p.depth≤900):Pure Tryz.prog 7 [.agg p.row]
  (if A2e p≠0 then .tup [.isl [],.int .i64 0,.int .i64 (A2e p)]else match p.srch []with|none=> .tup [.isl [],.int .i64 0,.int .i64 0]|some x=> .tup [.isl (x.1.map zrw),.int .i64 x.2,.int .i64 21]):=by
 obtain⟨h1,h2⟩:=B5 p
 have hps:=Fn.row_sub H0 p
 have hc:=B7k p hp (by omega)
 have hsr:=fun hk=>B7F p hp (by omega) hk [] (by simp only [List.length_nil];omega)
 generalize p.srch []=sr at*
 generalize A2e p=z at*
 generalize p.row=pr at*
 refine Pure.of 0 (A2.enter A4c (Nat.le_of_ble_eq_true rfl) (Run.go 100 ?_))
 simp -implicitDefEqProofs only [go_sem,A4,h1,h2]
 refine A2.pureF hc (by simp -implicitDefEqProofs only [go_sem,hps]) ?_
 by_cases hz:z=0
 case neg=>
  rw [if_pos hz]
  simp -implicitDefEqProofs only [go_sem,hz]
 rw [if_neg (fun h=>h hz)]
 have hq:=hsr hz
 simp -implicitDefEqProofs only [go_sem,hz,h1,h2]
 refine A2.pre (xs':= [.agg pr,.isl []]) (h':= [((7*10000+1),0,.rows 11 [pr])]) (n':=1) (.turn id ⟨F4.nilI,.refl _,trivial⟩ (.at 0 rfl rfl (.refl _) trivial)) rfl ?_
 refine A2.pureF hq (by simp -implicitDefEqProofs only [go_sem,hps,List.map_nil]) ?_
 cases sr with
 |none=>
  simp only [srV]
  simp -implicitDefEqProofs only [go_sem]
 |some x=>
  have hxs:=fun d h=>(D8 (d:=d) (h:=h)).elim fun φ e=>show (x.1.map zrw).map (fun r=>r.map (frz d h))=x.1.map zrw by rw [e];exact M5 φ _
  simp only [srV]
  simp -implicitDefEqProofs only [go_sem,hxs]
theorem A7V(p:Fn)(hp:p.bd)(hd:p.depth≤900):Pure Tryz.prog 6 [.agg p.row] (.int .i64 (B7S p)):=by
 obtain⟨h1,h2⟩:=B5 p
 have hps:=Fn.row_sub H0 p
 have hc:=A9X p hp hd
 unfold B7S
 generalize p.srch []=sr at*
 generalize A2e p=z at*
 generalize p.row=pr at*
 by_cases hz:z=0
 case neg=>
  rw [if_pos hz]at hc⊢
  refine Pure.of 0 (A2.enter i5 (Nat.le_of_ble_eq_true rfl) (Run.go 100 ?_))
  simp -implicitDefEqProofs only [go_sem,A4,h1,h2]
  refine A2.pureF hc (by simp -implicitDefEqProofs only [go_sem,hps]) ?_
  simp -implicitDefEqProofs only [go_sem]
 rw [if_neg (fun h=>h hz)]at hc⊢
 cases sr with
 |none=>
  rw [if_pos rfl]
  refine Pure.of 0 (A2.enter i5 (Nat.le_of_ble_eq_true rfl) (Run.go 100 ?_))
  simp -implicitDefEqProofs only [go_sem,A4,h1,h2]
  refine A2.pureF hc (by simp -implicitDefEqProofs only [go_sem,hps]) ?_
  simp -implicitDefEqProofs only [go_sem]
 |some x=>
  rw [if_neg (fun h=>by cases h)]
  simp only at hc
  refine Pure.of 0 (A2.enter i5 (Nat.le_of_ble_eq_true rfl) (Run.go 100 ?_))
  simp -implicitDefEqProofs only [go_sem,A4,h1,h2]
  refine A2.pureF hc (by simp -implicitDefEqProofs only [go_sem,hps]) ?_
  simp -implicitDefEqProofs only [go_sem]
-- EV: Ins.v, Ins.row
attribute [local go_sem] Ins.v Ins.row
def D0X:Ins:=⟨18,0,1,0,0⟩
def B3j:Ins:=⟨3,0,0,0,0⟩
def lv1:Fn:=⟨[],0,0,false,1,[D0X],[],[],[],[],[]⟩
def lv2:Fn:=⟨[],0,0,false,1,[B3j,D0X],[],[],[],[],[]⟩
theorem C4v:A2e lv1=0:=by
 rw [A9R,Fn.each_eq,Fn.depth_eq]
 refine⟨by decide,fun q hq=> ?_⟩
 rw [List.mem_singleton.1 (show q∈ [lv1] from hq)]
 decide
theorem C4y:A2e lv2=0:=by
 rw [A9R,Fn.each_eq,Fn.depth_eq]
 refine⟨by decide,fun q hq=> ?_⟩
 rw [List.mem_singleton.1 (show q∈ [lv2] from hq)]
 decide
theorem C0T:D1 lv1.code= []:=by kernel_rfl
theorem B4G:D1 lv2.code= [(0,1)]:=by kernel_rfl
theorem C7n:I1 lv1=M0 1 0:=by
 refine(B3G ⟨0,rfl,?_⟩).symm
 unfold i6
 rw [C0T];rfl
def lvM:Nat→Option Stt:=D6 (M0 1 0) 1 (B4 1 B3j 0 1 (A1G 1 0))
theorem C7p:I1 lv2=lvM:=by
 have hi:D3 lv2.code 0=B3j:=rfl
 have h0:i6 1 lv2.code (M0 1 0)=lvM:=by
  unfold i6
  rw [B4G,List.foldl_cons,List.foldl_nil]
  rfl
 refine(B3G ⟨1,h0.symm,?_⟩).symm
 unfold i6
 rw [B4G,List.foldl_cons,List.foldl_nil]
 show D6 lvM 1 (G3 (B4 1 B3j 0 1 (A1G 1 0)) (B4 1 B3j 0 1 (A1G 1 0)))=lvM
 have hj:G3 (B4 1 B3j 0 1 (A1G 1 0)) (B4 1 B3j 0 1 (A1G 1 0))=B4 1 B3j 0 1 (A1G 1 0):=by
  unfold G3
  have:(fun r=>(B4 1 B3j 0 1 (A1G 1 0)).set r&&(B4 1 B3j 0 1 (A1G 1 0)).set r)=(B4 1 B3j 0 1 (A1G 1 0)).set:=by
   funext r;exact Bool.and_self _
  rw [this]
 rw [hj]
 exact B1u rfl
theorem C4x:B7S lv1=21:=by
 unfold B7S
 rw [if_neg (fun h=>h C4v)]
 have h:G9 lv1=(0:Nat):=B0X (by decide) (by rw [C7n];decide) (fun j hj=>absurd hj (Nat.not_lt_zero _))
 rw [Fn.srch_eq,h]
 rfl
theorem C4A:B7S lv2=0:=by
 refine(C3K _).2 ⟨C4y,fun x hx=> ?_⟩
 rw [Fn.each_eq]at hx
 rw [List.mem_singleton.1 (show x∈ [lv2] from hx)]
 refine A7l.2 fun a ha=> ?_
 rw [C7p]
 have:a=0∨a=1:=by have:a<2:=ha;omega
 rcases this with e|e
 ·rw [e];exact(show A0j lv2 lvM 0=false by kernel_rfl)
 ·rw [e];exact(show A0j lv2 lvM 1=false by kernel_rfl)
def B9X:List V:= [.int .i64 18,.int .i64 0,.int .i64 1,.int .i64 0,.int .i64 0]
def C5K:List V:= [.int .i64 3,.int .i64 0,.int .i64 0,.int .i64 0,.int .i64 0]
def C7m:List V:= [.str [],.int .i64 0,.int .i64 0,.bool false,.int .i64 1,.isl [B9X],.isl [],.isl [],.isl [],.isl [],.isl []]
def C7o:List V:= [.str [],.int .i64 0,.int .i64 0,.bool false,.int .i64 1,.isl [C5K,B9X],.isl [],.isl [],.isl [],.isl [],.isl []]
theorem C4w:lv1.row=C7m:=by rw [Fn.row_eq];rfl
theorem C4z:lv2.row=C7o:=by rw [Fn.row_eq];rfl
theorem C0S:Pure Tryz.prog 6 [.agg C7m] (.int .i64 21):=by
 have hb:lv1.bd:=fun q hq=>by
  rw [Fn.each_eq]at hq
  rw [List.mem_singleton.1 (show q∈ [lv1] from hq)]
  exact⟨by decide,by decide,by decide,by decide,by decide,by decide⟩
 have:=A7V lv1 hb (by rw [Fn.depth_eq];decide)
 rwa [C4w,C4x]at this
theorem C0U:Pure Tryz.prog 6 [.agg C7o] (.int .i64 0):=by
 have hb:lv2.bd:=fun q hq=>by
  rw [Fn.each_eq]at hq
  rw [List.mem_singleton.1 (show q∈ [lv2] from hq)]
  exact⟨by decide,by decide,by decide,by decide,by decide,by decide⟩
 have:=A7V lv2 hb (by rw [Fn.depth_eq];decide)
 rwa [C4z,C4A]at this
theorem B1X:Pure Tryz.prog 5 [] (.bool true):=by
 refine Pure.of 0 (A2.enter k9 (Nat.le_of_ble_eq_true rfl) (Run.go 100 ?_))
 simp -implicitDefEqProofs only [go_sem,A4]
 refine A2.view C0S 3 (by simp -implicitDefEqProofs only [go_sem,C7m,B9X]) rfl ?_
 simp -implicitDefEqProofs only [go_sem]
 refine A2.view C0U 3 (by simp -implicitDefEqProofs only [go_sem,C7o,C5K,B9X]) rfl ?_
 simp -implicitDefEqProofs only [go_sem]
noncomputable def B6b (p:Fn):Bool:=A5N p||decide (60<p.regs)
theorem B7T(p:Fn)(hw:p.wf):Pure Tryz.prog 4 [.agg p.row] (.bool (B6b p)):=by
 obtain⟨h1,h2⟩:=B5 p
 have hps:=Fn.row_sub H0 p
 have hl:=B8G p hw
 have h4:p.row[4]? =some (.int .i64 p.regs):=by rw [Fn.row_eq];rfl
 unfold B6b
 generalize A5N p=lb at*
 generalize p.regs=rg at*
 generalize p.row=pr at*
 refine Pure.of 0 (A2.enter j9 (Nat.le_of_ble_eq_true rfl) (Run.go 100 ?_))
 simp -implicitDefEqProofs only [go_sem,A4,h1,h2]
 refine A2.pureF hl (by simp -implicitDefEqProofs only [go_sem,hps]) ?_
 cases lb with
 |true=>simp -implicitDefEqProofs only [go_sem,Bool.true_or]
 |false=>simp -implicitDefEqProofs only [go_sem,h1,h2,h4,Bool.false_or]
end Go.Proofs.YtnihmhbcjpcobaaGreatDoor
