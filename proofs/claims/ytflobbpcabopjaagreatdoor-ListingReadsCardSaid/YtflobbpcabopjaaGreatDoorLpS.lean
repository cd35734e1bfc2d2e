/-
 What opcode.Parse answers. No condition.
-/
import Derived.Test.YtflobbpcabopjaaGreatDoorLsS
import Derived.Test.YtflobbpcabopjaaGreatDoorTxo
import Derived.Test.YtflobbpcabopjaaGreatDoorArg
set_option linter.unusedVariables false set_option linter.unusedSimpArgs false set_option maxRecDepth 100000
set_option maxHeartbeats 0
namespace Go.Proofs.YtflobbpcabopjaaGreatDoor
open Go Go.Abs
attribute [local irreducible] A0 Run
-- EV: Ins.v, Ins.row, Frm.v, Frm.row
attribute [local go_sem] Ins.v Ins.row Frm.v Frm.row
def B6r(s:List UInt8):List (List UInt8)→Option Nat
 | []=>none
 |w::r=>if s=w then some 0 else(B6r s r).map (· +1)
def A8l(ws:List (List UInt8))(s:List UInt8):Int:=((B6r s ws).map fun k=>(k:Int)).getD (-1)
theorem B7b{s:List UInt8}: ∀{ws:List (List UInt8)} {k:Nat},B6r s ws=some k→ws[k]? =some s
 | [],k,h=>by cases h
 | w::r,k,h=>by
  unfold B6r at h
  split at h
  ·rename_i e;injection h with h;subst h;rw [e];rfl
  ·obtain⟨j,hj,rfl⟩:=Option.map_eq_some_iff.1 h
   simpa using B7b hj
theorem C3a{s:List UInt8}: ∀{ws:List (List UInt8)} {k:Nat},ws[k]? =some s→(∀j,j<k→ws[j]? ≠some s)→B6r s ws=some k
 | [],k,h,_=>by simp at h
 |w::r,0,h,_=>by
  simp at h
  unfold B6r
  rw [if_pos h.symm]
 |w::r,k+1,h,hn=>by
  have h0:=hn 0 zd
  unfold B6r
  rw [if_neg (fun e=>h0 (by rw [e];rfl)),C3a (k:=k) zp fun j hj=>by simpa using hn (j+1) zd]
  rfl
theorem B7a{s:List UInt8}: ∀{ws:List (List UInt8)},(∀j,j<ws.length→ws[j]? ≠some s)→B6r s ws=none
 | [],_=>rfl
 |w::r,h=>by
  have h0:=h 0 zg
  unfold B6r
  rw [if_neg (fun e=>h0 (by rw [e];rfl)),B7a fun j hj=>by simpa using h (j+1) zL]
  rfl
theorem C0F(ws:List (List UInt8))(hB:ws.length≤100000)(s:List UInt8):Abs.Pure Tryz.prog 221 [.isl (ws.map fun w=> [.str w]),.str s] (.int .i64 (A8l ws s)):=by
 refine Pure.of 0 (A0.enter R6 Jo ?_)
 have hrow: ∀(k:Nat) (x:List UInt8),ws[k]? =some x→(ws.map fun w=> [V.str w])[k]? =some [.str x]:=fun k x h=>by rw [List.getElem?_map,h];rfl
 have hlen:(ws.map fun w=> [V.str w]).length=ws.length:=List.length_map ..
 have hsz:D5 (ws.map fun w=> [V.str w]) 1=True:=eq_true fun r hr=>by obtain⟨y,_,rfl⟩:=List.mem_map.1 hr;rfl
 generalize (ws.map fun w=> [V.str w])=es at*
 refine Run.go 100 ?_
 simp -implicitDefEqProofs only [go_sem,A3,hlen]
 refine Run.rounds (fun(x:Nat)=>⟨[(8,.int .i64 x),(7,.int .i64 ws.length),(1,.str s),(0,.isl es)],[],0⟩) (fun x=>x≤ws.length∧ ∀j,j<x→ws[j]? ≠some s) (fun x=>ws.length-x) 0 ze ⟨by omega,fun j h=>by omega⟩ ?_
 rintro k ⟨hk,hn⟩ ih
 have hz:((k+1:Nat):Int)=(k:Int)+1:=by omega
 refine Run.unf A0Z (Run.go 100 ?_)
 by_cases c:(k:Int)<ws.length
 rotate_left
 ·have e:A8l ws s= -1:=by unfold A8l;rw [B7a fun j hj=>hn j zd];rfl
  rw [e]
  simp -implicitDefEqProofs only [go_sem,c]
 obtain⟨x,hx⟩: ∃x,ws[k]? =some x:=⟨ws[k]' zd,by simp⟩
 have hr:=hrow k x hx
 have k0:((0:Int)≤(k:Int))=True:=Jm
 have k1:((k:Int)<(ws.length:Int))=True:=eq_true c
 have k2:(k<ws.length)=True:=Jm
 by_cases d:s=x
 ·have e:A8l ws s=k:=by unfold A8l;rw [C3a (by rw [hx,d]) hn];rfl
  rw [e]
  have d':=eq_true d
  simp -implicitDefEqProofs only [go_sem,c,hlen,hr,hsz,k0,k1,k2,d',Option.some.injEq,forall_eq']
 ·have d':=eq_false d
  simp -implicitDefEqProofs only [go_sem,c,hlen,hr,hsz,k0,k1,k2,d',Option.some.injEq,forall_eq']
  refine⟨by omega,ih _ (k+1) ⟨by omega,fun j hj=> ?_⟩ zd (by simp only [hz];simp -implicitDefEqProofs only [go_sem])⟩
  by_cases e:j=k
  ·subst e;rw [hx];intro h;injection h with h;exact d h.symm
  ·exact hn j zd
theorem C9p(s:List UInt8):Abs.Pure Tryz.prog 194 [.str s] (.tup [.int .i64 (A8l d8 s+1),.bool (decide (0≤A8l d8 s))]):=by
 refine Pure.of 0 (A0.enter B2j Jo ?_)
 have hp:=C0F d8 zf s
 have hb: -1≤A8l d8 s∧A8l d8 s≤1000:=by
  unfold A8l
  cases h:B6r s d8 with
  |none=>simp
  |some k=>
   have:=(List.getElem?_eq_some_iff.1 (B7b h)).1
   have hl:d8.length=29:=rfl
   simp;omega
 generalize A8l d8 s=v at*
 have hf:Abs.Pure Tryz.prog 171 [.str B8T] (.isl (d8.map fun w=> [.str w])):=A8h
 have hs:(d8.map fun w=> [V.str w]).map (fun r=>r.map (V.sub I6))=d8.map fun w=> [V.str w]:=by
  rw [List.map_map];exact List.map_congr_left fun y _=>by simp [V.sub]
 generalize (d8.map fun w=> [V.str w])=W at*
 refine Run.go 100 ?_
 refine Qz ?_
 refine A0.pureF hf rfl ?_
 refine Qy ?_
 refine A0.pureF hp Qp ?_
 refine Qy ?_
 omega
theorem C3E{op:Int}(h:A1g op=true):(frm op).word≠ []∧A8l d8 (frm op).word=op-1:=by
 rcases A8H h with rfl|rfl|rfl|rfl|rfl|rfl|rfl|rfl|rfl|rfl|rfl|rfl|rfl|rfl|rfl|rfl|rfl|rfl|rfl|rfl|rfl|rfl|rfl|rfl|rfl|rfl|rfl|rfl|rfl<;>exact⟨by decide+kernel,by decide+kernel⟩
def zI:V:= .agg [.int .i64 0,.int .i64 0,.int .i64 0,.int .i64 0,.int .i64 0]
def A3x(op:Int)(s:List UInt8):Option (List Int×List (List UInt8))→V
 |some ([a,b,c,d],[])=>if D3 ⟨op,a,b,c,d⟩=s then(if chk ⟨op,a,b,c,d⟩=0 then .tup [Ins.v ⟨op,a,b,c,d⟩,.int .i64 0]else .tup [zI,.int .i64 (chk ⟨op,a,b,c,d⟩)])else .tup [zI,.int .i64 4]
 |_=> .tup [zI,.int .i64 4]
def A6D(s:List UInt8):V:=
 match Lib.split s [32]with
 | []=> .tup [zI,.int .i64 9]
 |w::r=>if 0≤A8l d8 w then A3x (A8l d8 w+1) s (N6 (frm (A8l d8 w+1)).ks r)else .tup [zI,.int .i64 9]
theorem C7T(s:List UInt8):Lib.split s [32]≠ []:=by
 unfold Lib.split
 cases Lib.count s [32]with
 |zero=>simp [Lib.splitK]
 |succ k=>rw [Lib.splitK];split<;>simp
def D5j(T:Option (List Int×List (List UInt8)))(k1 k2 k3 k4 a b c d:Int)(L:List (List UInt8)):Nat→Prop
 |0=>a=0∧b=0∧c=0∧d=0∧T=N6 [k1,k2,k3,k4] L
 |1=>b=0∧c=0∧d=0∧T=(N6 [k2,k3,k4] L).map fun p=>(a::p.1,p.2)
 |2=>c=0∧d=0∧T=(N6 [k3,k4] L).map fun p=>(a::b::p.1,p.2)
 |3=>d=0∧T=(N6 [k4] L).map fun p=>(a::b::c::p.1,p.2)
 |_=>T=some ([a,b,c,d],L)
theorem A6H{ks:List Int}{L:List (List UInt8)}:N6 (0::ks) L=(N6 ks L).map fun p=>(0::p.1,p.2):=by rw [N6.eq_def];simp
theorem A9J{k:Int}{ks:List Int}(h: ¬k=0):N6 (k::ks) []=none:=by rw [N6.eq_def];simp [h]
theorem B2y{k:Int}{ks:List Int}{w:List UInt8}{r:List (List UInt8)}{n:Int}(h: ¬k=0)(hn:Lib.atoiAll w= .ok n):N6 (k::ks) (w::r)=(N6 ks r).map fun p=>(n::p.1,p.2):=by rw [N6.eq_def];simp [h,hn]
theorem A9I{k:Int}{ks:List Int}{w:List UInt8}{r:List (List UInt8)}(h: ¬k=0)(hn: ∀n,Lib.atoiAll w≠ .ok n):N6 (k::ks) (w::r)=none:=by
 rw [N6.eq_def]
 simp only [h,if_false]
 all_goals
  cases ha:Lib.atoiAll w
  case ok n=>exact absurd ha (hn n)
  all_goals rfl
theorem B1p{w:List UInt8}(h: ∀n,Lib.atoiAll w≠ .ok n): ∃z,A2X w= .tup [.int .i64 z,.err]:=by
 unfold A2X
 cases ha:Lib.atoiAll w
 case ok n=>exact absurd ha (h n)
 all_goals exact⟨_,rfl⟩
theorem C2d(s:List UInt8)(hs:s.length≤100000):Abs.Pure Tryz.prog 156 [.str s] (A6D s):=by
 have hsp:=B5Y s hs
 rw [C5A]at hsp
 have hlen:=fun w (h:w∈Lib.split s [32])=>C5B h
 unfold A6D
 cases hl:Lib.split s [32]with
 |nil=>exact absurd hl (C7T s)
 |cons w r=>
 rw [hl]at hsp hlen
 have hop:=C9p w
 have hof:=B8v (A8l d8 w+1)
 simp only
 generalize hix:A8l d8 w=ix at*
 refine Pure.of 0 (A0.enter A7f Jo (Run.go 100 ?_))
 refine Qz ?_
 refine A0.pureF hsp ze ?_
 have hz: ∀l:List (List UInt8),D5 (l.map fun x=> [V.str x]) 1=True:=fun l=>eq_true fun r hr=>by obtain⟨y,_,rfl⟩:=List.mem_map.1 hr;rfl
 have hll: ∀l:List (List UInt8),(l.map fun x=> [V.str x]).length=l.length:=fun l=>List.length_map ..
 have hp1:((0:Int)<((r.length+1:Nat):Int))=True:=Jm
 have hp2:((1:Int)≤((r.length+1:Nat):Int))=True:=Jm
 simp -implicitDefEqProofs only [go_sem,List.map_cons,hz,hll,hp1]
 refine A0.pureF hop ze ?_
 by_cases h0:0≤ix
 case neg=>
  rw [if_neg h0]
  simp -implicitDefEqProofs only [go_sem,h0]
  rfl
 rw [if_pos h0]
 have hfl:=fun i=>A6v (frm (ix+1)) i
 simp -implicitDefEqProofs only [go_sem,h0]
 refine A0.pureF hof ze ?_
 refine Qy ?_
 refine A0.pureF (hfl ⟨ix+1,0,0,0,0⟩) ze ?_
 simp -implicitDefEqProofs only [go_sem,B7e,Frm.ks,Ins.fs,hp2]
 have htk:List.take ((((r.length+1:Nat):Int)-1).toNat) (r.map fun x=> [V.str x])=r.map fun x=> [V.str x]:=List.take_of_length_le zR
 rw [htk]
 refine⟨of_eq_true (hz r),Int.le_refl _,?_⟩
 have hT:D5j (N6 [(frm (ix+1)).a,(frm (ix+1)).b,(frm (ix+1)).c,(frm (ix+1)).d] r) (frm (ix+1)).a (frm (ix+1)).b (frm (ix+1)).c (frm (ix+1)).d 0 0 0 0 r 0:=⟨rfl,rfl,rfl,rfl,rfl⟩
 generalize (N6 [(frm (ix+1)).a,(frm (ix+1)).b,(frm (ix+1)).c,(frm (ix+1)).d] r)=T at*
 generalize (frm (ix+1)).a=k1 at*
 generalize (frm (ix+1)).b=k2 at*
 generalize (frm (ix+1)).c=k3 at*
 generalize (frm (ix+1)).d=k4 at*
 generalize hopp:ix+1=op at*
 have hbz:inB 0:=⟨by omega,by omega⟩
 refine Run.keep [50,49,48,10,7,4,2,0] ?_
 refine Run.roundsK (fun(x:Nat×(Int×Int×Int×Int)×List (List UInt8)×Nat)=>⟨[(50,.int .i64 x.1),(49,.int .i64 4),(48,.sl (156*10000+48) 5 0 4),(10,.ptr (156*10000+10) 3 0 0),(7,.ptr (156*10000+7) 1 0 0),(4,.isl (x.2.2.1.map fun x=> [V.str x])),(2,.ptr (156*10000+2) 0 0 0),(0,.str s)],
   [((156*10000+48),5,.rows 1 [[.ptr (156*10000+7) 1 0 1],[.ptr (156*10000+7) 1 0 2],[.ptr (156*10000+7) 1 0 3],[.ptr (156*10000+7) 1 0 4]]),((156*10000+10),3,.rows 4 [[.int .i64 k1,.int .i64 k2,.int .i64 k3,.int .i64 k4]]),((156*10000+7),1,.rows 5 [[.int .i64 op,.int .i64 x.2.1.1,.int .i64 x.2.1.2.1,.int .i64 x.2.1.2.2.1,.int .i64 x.2.1.2.2.2]]),((156*10000+2),0,.rows 5 [[.int .i64 0,.int .i64 0,.int .i64 0,.int .i64 0,.int .i64 0]])],x.2.2.2⟩)
  (fun x=>x.1≤4∧D5j T k1 k2 k3 k4 x.2.1.1 x.2.1.2.1 x.2.1.2.2.1 x.2.1.2.2.2 x.2.2.1 x.1∧(inB x.2.1.1∧inB x.2.1.2.1∧inB x.2.1.2.2.1∧inB x.2.1.2.2.2)∧ ∀w∈x.2.2.1,w.length≤100000) (fun x=>4-x.1) (0,(0,0,0,0),r,6) (E8.wk ⟨B0.1 ze,fun e he=>by simp only [List.mem_cons,List.not_mem_nil,or_false]at he⊢;rcases he with h|h|h|h<;>simp only [h,eq_self,true_or,or_true],Nat.le_refl _⟩) ⟨Nat.zero_le _,hT,⟨hbz,hbz,hbz,hbz⟩,fun w hw=>Nat.le_trans (hlen w (List.mem_cons_of_mem _ hw)) hs⟩ ?_
 clear hT hlen hsp hl htk
 rintro⟨k,⟨a,b,c,d⟩,L,m⟩ ⟨hk,hI,⟨hb1,hb2,hb3,hb4⟩,hw⟩ ih
 simp only at hk hI hb1 hb2 hb3 hb4 hw ih⊢
 refine Run.unf B0V (Run.go 100 ?_)
 have hkk:k=0∨k=1∨k=2∨k=3∨k=4:=by omega
 rcases hkk with rfl|rfl|rfl|rfl|rfl
 ·obtain⟨rfl,rfl,rfl,rfl,hI⟩:=hI
  by_cases hz0:k1=0
  ·subst hz0
   rw [A6H]at hI
   refine Jg ?_
   refine ih _ (1,(0,0,0,0),L,m) ⟨by simp only;omega,⟨rfl,rfl,rfl,?_⟩,⟨hbz,hbz,hbz,hbz⟩,hw⟩ zj (E8.wk ⟨B0.1 ze,fun e he=>by simp only [List.mem_cons,List.not_mem_nil,or_false]at he⊢;rcases he with h|h|h|h<;>simp only [h,eq_self,true_or,or_true],Nat.le_refl _⟩)
   first|exact hI|(rw [hI];cases N6 [k2,k3,k4] L<;>rfl)
  cases L with
  |nil=>
   exact Yq
  | cons w r=>
   have hwl:=hw w List.mem_cons_self
   have hq1:((0:Int)<((r.length+1:Nat):Int))=True:=Jm
   have hq2:((1:Int)≤((r.length+1:Nat):Int))=True:=Jm
   have hq3:(((r.length+1:Nat):Int)=0)=False:=Jn
   have htk:List.take ((((r.length+1:Nat):Int)-1).toNat) (r.map fun x=> [V.str x])=r.map fun x=> [V.str x]:=List.take_of_length_le zR
   have hat:=A1y w hwl
   by_cases hok: ∃n,Lib.atoiAll w= .ok n
   ·obtain⟨n,hn⟩:=hok
    have hnb:inB n:=Lib.atoiAll_bounds hn
    rw [show A2X w= .tup [.int .i64 n,.cst .nilIface] by unfold A2X;rw [hn]]at hat
    rw [B2y hz0 hn]at hI
    refine QJ ?_
    refine A0.pureF hat ze ?_
    refine Ji ?_
    refine⟨by omega,ih _ (1,(n,0,0,0),r,m) ⟨by simp only;omega,⟨rfl,rfl,rfl,?_⟩,⟨hnb,hbz,hbz,hbz⟩,fun w hw'=>hw w (List.mem_cons_of_mem _ hw')⟩ zj (E8.wk ⟨B0.1 ze,fun e he=>by simp only [List.mem_cons,List.not_mem_nil,or_false]at he⊢;rcases he with h|h|h|h<;>simp only [h,eq_self,true_or,or_true],Nat.le_refl _⟩)⟩
    first|exact hI|(rw [hI];cases N6 [k2,k3,k4] r<;>rfl)
   ·exact Jx
 ·obtain⟨rfl,rfl,rfl,hI⟩:=hI
  by_cases hz0:k2=0
  ·subst hz0
   rw [A6H]at hI
   refine Jg ?_
   refine ih _ (2,(a,0,0,0),L,m) ⟨by simp only;omega,⟨rfl,rfl,?_⟩,⟨hb1,hbz,hbz,hbz⟩,hw⟩ zj (E8.wk ⟨B0.1 ze,fun e he=>by simp only [List.mem_cons,List.not_mem_nil,or_false]at he⊢;rcases he with h|h|h|h<;>simp only [h,eq_self,true_or,or_true],Nat.le_refl _⟩)
   first|exact hI|(rw [hI];cases N6 [k3,k4] L<;>rfl)
  cases L with
  |nil=>
   exact Yq
  | cons w r=>
   have hwl:=hw w List.mem_cons_self
   have hq1:((0:Int)<((r.length+1:Nat):Int))=True:=Jm
   have hq2:((1:Int)≤((r.length+1:Nat):Int))=True:=Jm
   have hq3:(((r.length+1:Nat):Int)=0)=False:=Jn
   have htk:List.take ((((r.length+1:Nat):Int)-1).toNat) (r.map fun x=> [V.str x])=r.map fun x=> [V.str x]:=List.take_of_length_le zR
   have hat:=A1y w hwl
   by_cases hok: ∃n,Lib.atoiAll w= .ok n
   ·obtain⟨n,hn⟩:=hok
    have hnb:inB n:=Lib.atoiAll_bounds hn
    rw [show A2X w= .tup [.int .i64 n,.cst .nilIface] by unfold A2X;rw [hn]]at hat
    rw [B2y hz0 hn]at hI
    refine QJ ?_
    refine A0.pureF hat ze ?_
    refine Ji ?_
    refine⟨by omega,ih _ (2,(a,n,0,0),r,m) ⟨by simp only;omega,⟨rfl,rfl,?_⟩,⟨hb1,hnb,hbz,hbz⟩,fun w hw'=>hw w (List.mem_cons_of_mem _ hw')⟩ zj (E8.wk ⟨B0.1 ze,fun e he=>by simp only [List.mem_cons,List.not_mem_nil,or_false]at he⊢;rcases he with h|h|h|h<;>simp only [h,eq_self,true_or,or_true],Nat.le_refl _⟩)⟩
    first|exact hI|(rw [hI];cases N6 [k3,k4] r<;>rfl)
   ·exact Jx
 ·obtain⟨rfl,rfl,hI⟩:=hI
  by_cases hz0:k3=0
  ·subst hz0
   rw [A6H]at hI
   refine Jg ?_
   refine ih _ (3,(a,b,0,0),L,m) ⟨by simp only;omega,⟨rfl,?_⟩,⟨hb1,hb2,hbz,hbz⟩,hw⟩ zj (E8.wk ⟨B0.1 ze,fun e he=>by simp only [List.mem_cons,List.not_mem_nil,or_false]at he⊢;rcases he with h|h|h|h<;>simp only [h,eq_self,true_or,or_true],Nat.le_refl _⟩)
   first|exact hI|(rw [hI];cases N6 [k4] L<;>rfl)
  cases L with
  |nil=>
   exact Yq
  | cons w r=>
   have hwl:=hw w List.mem_cons_self
   have hq1:((0:Int)<((r.length+1:Nat):Int))=True:=Jm
   have hq2:((1:Int)≤((r.length+1:Nat):Int))=True:=Jm
   have hq3:(((r.length+1:Nat):Int)=0)=False:=Jn
   have htk:List.take ((((r.length+1:Nat):Int)-1).toNat) (r.map fun x=> [V.str x])=r.map fun x=> [V.str x]:=List.take_of_length_le zR
   have hat:=A1y w hwl
   by_cases hok: ∃n,Lib.atoiAll w= .ok n
   ·obtain⟨n,hn⟩:=hok
    have hnb:inB n:=Lib.atoiAll_bounds hn
    rw [show A2X w= .tup [.int .i64 n,.cst .nilIface] by unfold A2X;rw [hn]]at hat
    rw [B2y hz0 hn]at hI
    refine QJ ?_
    refine A0.pureF hat ze ?_
    refine Ji ?_
    refine⟨by omega,ih _ (3,(a,b,n,0),r,m) ⟨by simp only;omega,⟨rfl,?_⟩,⟨hb1,hb2,hnb,hbz⟩,fun w hw'=>hw w (List.mem_cons_of_mem _ hw')⟩ zj (E8.wk ⟨B0.1 ze,fun e he=>by simp only [List.mem_cons,List.not_mem_nil,or_false]at he⊢;rcases he with h|h|h|h<;>simp only [h,eq_self,true_or,or_true],Nat.le_refl _⟩)⟩
    first|exact hI|(rw [hI];cases N6 [k4] r<;>rfl)
   ·exact Jx
 ·obtain⟨rfl,hI⟩:=hI
  by_cases hz0:k4=0
  ·subst hz0
   rw [A6H]at hI
   refine Jg ?_
   refine ih _ (4,(a,b,c,0),L,m) ⟨by simp only;omega,?_,⟨hb1,hb2,hb3,hbz⟩,hw⟩ zj (E8.wk ⟨B0.1 ze,fun e he=>by simp only [List.mem_cons,List.not_mem_nil,or_false]at he⊢;rcases he with h|h|h|h<;>simp only [h,eq_self,true_or,or_true],Nat.le_refl _⟩)
   first|exact hI|(rw [hI];rfl)
  cases L with
  |nil=>
   exact Yq
  | cons w r=>
   have hwl:=hw w List.mem_cons_self
   have hq1:((0:Int)<((r.length+1:Nat):Int))=True:=Jm
   have hq2:((1:Int)≤((r.length+1:Nat):Int))=True:=Jm
   have hq3:(((r.length+1:Nat):Int)=0)=False:=Jn
   have htk:List.take ((((r.length+1:Nat):Int)-1).toNat) (r.map fun x=> [V.str x])=r.map fun x=> [V.str x]:=List.take_of_length_le zR
   have hat:=A1y w hwl
   by_cases hok: ∃n,Lib.atoiAll w= .ok n
   ·obtain⟨n,hn⟩:=hok
    have hnb:inB n:=Lib.atoiAll_bounds hn
    rw [show A2X w= .tup [.int .i64 n,.cst .nilIface] by unfold A2X;rw [hn]]at hat
    rw [B2y hz0 hn]at hI
    refine QJ ?_
    refine A0.pureF hat ze ?_
    refine Ji ?_
    refine⟨by omega,ih _ (4,(a,b,c,n),r,m) ⟨by simp only;omega,?_,⟨hb1,hb2,hb3,hnb⟩,fun w hw'=>hw w (List.mem_cons_of_mem _ hw')⟩ zj (E8.wk ⟨B0.1 ze,fun e he=>by simp only [List.mem_cons,List.not_mem_nil,or_false]at he⊢;rcases he with h|h|h|h<;>simp only [h,eq_self,true_or,or_true],Nat.le_refl _⟩)⟩
    rw [hI];rfl
   ·exact Jx
 ·have hI:T=some ([a,b,c,d],L):=hI
  subst hI
  clear ih
  have htx:=B3u ⟨op,a,b,c,d⟩ ⟨hb1,hb2,hb3,hb4⟩
  have hck:=A6q ⟨op,a,b,c,d⟩
  cases L with
  |cons w r=>
   have hq1:((0:Int)<((r.length+1:Nat):Int))=True:=Jm
   simp -implicitDefEqProofs only [go_sem,List.map_cons,hll,hq1]
   rfl
  | nil=>
   simp -implicitDefEqProofs only [go_sem,List.map_nil]
   refine A0.pureF htx ze ?_
   by_cases ht:D3 ⟨op,a,b,c,d⟩=s
   case neg=>
    have e:A3x op s (some ([a,b,c,d],[]))= .tup [zI,.int .i64 4]:=by simp only [A3x,if_neg ht]
    simp -implicitDefEqProofs only [go_sem,ht]
    rw [e];rfl
   simp -implicitDefEqProofs only [go_sem,ht]
   refine A0.pureF hck ze ?_
   by_cases hc:chk ⟨op,a,b,c,d⟩=0
   ·have e:A3x op s (some ([a,b,c,d],[]))= .tup [Ins.v ⟨op,a,b,c,d⟩,.int .i64 0]:=by simp only [A3x,if_pos ht,if_pos hc]
    simp -implicitDefEqProofs only [go_sem,hc]
    rw [e];rfl
   ·have e:A3x op s (some ([a,b,c,d],[]))= .tup [zI,.int .i64 (chk ⟨op,a,b,c,d⟩)]:=by simp only [A3x,if_pos ht,if_neg hc]
    simp -implicitDefEqProofs only [go_sem,hc]
    rw [e];rfl
theorem C3U{i:Ins}(h:chk i=0): ∀x∈i.fs, -1000000≤x∧x≤1000000:=by
 obtain⟨_,⟨b1,b2⟩,⟨c1,c2⟩,⟨d1,d2⟩,⟨e1,e2⟩⟩:=B2Y h
 intro x hx
 simp only [Ins.fs,List.mem_cons,List.not_mem_nil,or_false]at hx
 rcases hx with rfl|rfl|rfl|rfl<;>omega
theorem C2e{i:Ins}(h:chk i=0):A6D (D3 i)= .tup [i.v,.int .i64 0]:=by
 have ho:=(B1y h).1
 have hr:=C5G h (C3U h)
 unfold A6D
 rw [C2z ho]
 have hw:=(C3E ho).2
 simp only [hw]
 have h1:(0:Int)≤i.op-1:=by
  obtain⟨n,hn,h1,h2⟩:=A5i ho
  omega
 rw [if_pos h1,show i.op-1+1=i.op by omega,hr]
 obtain⟨op,a,b,c,d⟩:=i
 simp only [A3x,Ins.fs,if_true,if_pos h]
theorem B8w(s:List UInt8):(∃i:Ins,chk i=0∧D3 i=s∧A6D s= .tup [i.v,.int .i64 0])∨ ∃e:Int,e≠0∧A6D s= .tup [zI,.int .i64 e]:=by
 have hI: ∀op T,(∃i:Ins,chk i=0∧D3 i=s∧A3x op s T= .tup [i.v,.int .i64 0])∨ ∃e:Int,e≠0∧A3x op s T= .tup [zI,.int .i64 e]:=by
  intro op T
  unfold A3x
  split
  ·split
   ·split
    ·rename_i h1 h2;exact .inl ⟨_,h2,h1,rfl⟩
    ·rename_i h1 h2;exact .inr ⟨_,h2,rfl⟩
   ·exact .inr ⟨4,by decide,rfl⟩
  ·exact .inr ⟨4,by decide,rfl⟩
 unfold A6D
 split
 ·exact .inr ⟨9,by decide,rfl⟩
 ·split
  ·exact hI _ _
  ·exact .inr ⟨9,by decide,rfl⟩
def F3(s:List UInt8):Ins×Int:=match A6D s with
 | .tup [.agg [.int _ op,.int _ a,.int _ b,.int _ c,.int _ d],.int _ e]=>(⟨op,a,b,c,d⟩,e)
 |_=>(⟨0,0,0,0,0⟩,1)
theorem B4j(s:List UInt8):A6D s= .tup [(F3 s).1.v,.int .i64 (F3 s).2]∧((F3 s).2=0→chk (F3 s).1=0∧D3 (F3 s).1=s)∧(inB (F3 s).1.a∧inB (F3 s).1.b∧inB (F3 s).1.c∧inB (F3 s).1.d)∧n64L (F3 s).1.row:=by
 rcases B8w s with⟨i,h1,h2,h3⟩|⟨e,h1,h3⟩
 ·have e:F3 s=(i,0):=by unfold F3;rw [h3];rfl
  rw [e]
  have hb:=B7Z h1
  obtain⟨⟨o1,o2⟩,_⟩:=B2Y h1
  refine⟨h3,fun _=>⟨h1,h2⟩,hb,?_⟩
  simp only [Ins.row,n64L,n64]
  exact⟨⟨by omega,by omega⟩,hb.1,hb.2.1,hb.2.2.1,hb.2.2.2,trivial⟩
 ·have e':F3 s=(⟨0,0,0,0,0⟩,e):=by unfold F3;rw [h3];rfl
  have z0:inB 0:=⟨by omega,by omega⟩
  rw [e']
  refine⟨h3,fun h=>absurd h h1,⟨z0,z0,z0,z0⟩,?_⟩
  simp only [Ins.row,n64L,n64]
  exact⟨z0,z0,z0,z0,z0,trivial⟩
theorem C4A{i:Ins}(h:chk i=0):F3 (D3 i)=(i,0):=by
 unfold F3
 rw [C2e h]
 rfl
theorem C0m(s:List UInt8)(hs:s.length≤100000):Abs.Pure Tryz.prog 156 [.str s] (.tup [(F3 s).1.v,.int .i64 (F3 s).2]):=by
 rw [←(B4j s).1]
 exact C2d s hs
end Go.Proofs.YtflobbpcabopjaaGreatDoor
