/-
 Functions (api.Proto) as data. No condition.
-/
import Derived.Test.YtnihmhbcjpcobaaGreatDoorOpcM
import Derived.Test.YtnihmhbcjpcobaaGreatDoorTsub
import Derived.Test.YtnihmhbcjpcobaaGreatDoorChecked
import Derived.Test.YtnihmhbcjpcobaaGreatDoorFlowN
import Derived.Test.YtnihmhbcjpcobaaGreatDoorPutT
set_option linter.unusedVariables false
set_option linter.unusedSimpArgs false
set_option maxRecDepth 100000
set_option maxHeartbeats 0
namespace Go.Proofs.YtnihmhbcjpcobaaGreatDoor
open Go.Abs
attribute [local irreducible] A2 Run
structure Pro where
 name:List UInt8
 line:Int
 params:Int
 vararg:Bool
 regs:Int
 code:List Ins
 lines:List Int
 consts:List (List V)
 protos:List Pro
 ups:List (List UInt8×Bool×Int)
 vars:List (List V)
def C6f(z:Int):List V:= [.int .i64 z]
def C6d(u:List UInt8×Bool×Int):List V:= [.str u.1,.bool u.2.1,.int .i64 u.2.2]
mutual
def Pro.row:Pro→List V
 |⟨name,line,params,vararg,regs,code,lines,consts,protos,ups,vars⟩=>
  [.str name,.int .i64 line,.int .i64 params,.bool vararg,.int .i64 regs,.isl (code.map Ins.row),.isl (lines.map C6f),.isl consts,.isl (Pro.rows protos),.isl (ups.map C6d),.isl vars]
def Pro.rows:List Pro→List (List V)
 | []=> []
 |p::r=>Pro.row p::Pro.rows r
end
theorem Pro.rows_map: ∀l:List Pro,Pro.rows l=l.map Pro.row
 | []=>rfl
 |p::r=>by rw [Pro.rows,Pro.rows_map r];rfl
theorem Pro.row_eq(p:Pro):p.row= [.str p.name,.int .i64 p.line,.int .i64 p.params,.bool p.vararg,.int .i64 p.regs,.isl (p.code.map Ins.row),.isl (p.lines.map C6f),.isl p.consts,.isl (p.protos.map Pro.row),.isl (p.ups.map C6d),.isl p.vars]:=by
 obtain⟨a,b,c,d,e,f,g,h,i,j,k⟩:=p
 rw [Pro.row,Pro.rows_map]
-- EV: Ins.v, Ins.row
attribute [local go_sem] Ins.v Ins.row
-- EV: Ins.v, Ins.row
attribute [local go_sem] Ins.v Ins.row
theorem C2Z(l:List Int)(hl:Asc l)(hB:l.length≤100000)(r:Int):Pure Tryz.prog 76 [.isl (l.map zrw),.int .i64 r] (.isl ((B2T l r).map zrw)):=by
 refine Pure.of 1 (A2.enter A1C (Nat.le_of_ble_eq_true rfl) ?_)
 have hrow: ∀(k:Nat) (x:Int),l[k]? =some x→(l.map zrw)[k]? =some [.int .i64 x]:=fun k x h=>W8 h
 have hlen:(l.map zrw).length=l.length:=List.length_map ..
 have hsz:=B5N l
 generalize l.map zrw=es at*
 refine Run.go 100 ?_
 simp -implicitDefEqProofs only [go_sem,A4]
 refine Run.rounds (fun(x:Nat×Nat×Nat)=>⟨[(7,.int .i64 x.1),(6,.bool (H2 l r x.1)),(5,.sl (76*10000+8) x.2.1 0 (A6Z l r x.1).length),(1,.int .i64 r),(0,.isl es)],[((76*10000+8),x.2.1,.rows 1 ((A6Z l r x.1).map zrw))],x.2.2⟩)
  (fun x=>x.1≤l.length) (fun x=>l.length-x.1) (0,0,1) (by simp -implicitDefEqProofs only [go_sem,B4O,H2,List.take_zero,List.any_nil,List.length_nil,List.map_nil]) (by simp only;omega) ?_
 rintro⟨k,st,m⟩ hk ih
 simp only at hk⊢
 have hz:((k+1:Nat):Int)=(k:Int)+1:=by omega
 refine Run.unf A4q (Run.go 100 ?_)
 have hol:=B7i l r k
 by_cases c:(k:Int)<l.length
 ·obtain⟨x,hx⟩: ∃x,l[k]? =some x:=⟨l[k]'(by omega),by simp⟩
  have hr:=hrow k x hx
  have k0:((0:Int)≤(k:Int))=True:=eq_true (by omega)
  have k1:((k:Int)<(l.length:Int))=True:=eq_true c
  have k2:(k<l.length)=True:=eq_true (by omega)
  have e1:=B4N hl (r:=r) hx
  have e2:=A8Z (r:=r) hx
  by_cases hd:H2 l r k=false∧r≤x
  ·rw [if_pos hd]at e1
   obtain⟨hd1,hd2⟩:=hd
   have d2:decide (r≤x)=true:=by simp [hd2]
   rw [hd1,d2]at e2
   have g1:=eq_true hd2
   by_cases e:x=r
   ·rw [if_pos e,List.append_nil]at e1
    have g2:=eq_false (fun h: ¬x=r=>h e)
    subst e
    simp -implicitDefEqProofs only [go_sem,hlen,hr,hsz,k0,k1,k2,hd1,Option.some.injEq,forall_eq',Int.le_refl]
    refine⟨by omega,by omega,?_⟩
    refine ih _ (k+1,m,m+1) (by simp only;omega) (by simp only;omega) ?_
    simp only [hz,e1,e2,List.map_append,List.length_append,List.map_cons,List.map_nil,List.length_cons,List.length_nil,zrw,Bool.false_or]
    simp -implicitDefEqProofs only [go_sem]
   ·rw [if_neg e]at e1
    have g2:=eq_false e
    simp -implicitDefEqProofs only [go_sem,hlen,hr,hsz,k0,k1,k2,hd1,g1,g2,Option.some.injEq,forall_eq']
    refine⟨by omega,by omega,by omega,?_⟩
    refine ih _ (k+1,m+1,m+1+1) (by simp only;omega) (by simp only;omega) ?_
    simp only [hz,e1,e2,List.map_append,List.length_append,List.map_cons,List.map_nil,List.length_cons,List.length_nil,zrw,Bool.false_or]
    simp -implicitDefEqProofs only [go_sem]
    rw [List.take_of_length_le (by simp)]
  ·rw [if_neg hd,List.append_nil]at e1
   have hor:H2 l r k=true∨ ¬r≤x:=by
    cases h:H2 l r k with
    |true=>exact .inl rfl
    |false=>exact .inr fun h2=>hd ⟨h,h2⟩
   have fin: ∀s,H2 l r (k+1)=H2 l r k→_:=fun s h=>ih s (k+1,m,m+1) (by simp only;omega) (by simp only;omega)
   by_cases e:x=r
   ·rw [if_pos e,List.append_nil]at e1
    have e3:H2 l r (k+1)=H2 l r k:=by
     rw [e2];rcases hor with h|h
     ·rw [h];rfl
     ·omega
    rcases hor with h|h
    ·subst e
     simp -implicitDefEqProofs only [go_sem,hlen,hr,hsz,k0,k1,k2,h,Option.some.injEq,forall_eq']
     refine⟨by omega,?_⟩
     refine ih _ (k+1,st,m) (by simp only;omega) (by simp only;omega) ?_
     simp only [hz,e1,e3,h]
     simp -implicitDefEqProofs only [go_sem]
    ·omega
   ·rw [if_neg e]at e1
    have g2:=eq_false e
    cases h:H2 l r k with
    |true=>
     rw [h,Bool.true_or]at e2
     simp -implicitDefEqProofs only [go_sem,hlen,hr,hsz,k0,k1,k2,h,g2,Option.some.injEq,forall_eq']
     refine⟨by omega,by omega,?_⟩
     refine ih _ (k+1,m,m+1) (by simp only;omega) (by simp only;omega) ?_
     simp only [hz,e1,e2,List.map_append,List.length_append,List.map_cons,List.map_nil,List.length_cons,List.length_nil,zrw]
     simp -implicitDefEqProofs only [go_sem]
    |false=>
     have h1: ¬r≤x:=by rcases hor with h2|h2;rw [h]at h2;cases h2;exact h2
     have g1:=eq_false h1
     have d2:decide (r≤x)=false:=by simp;omega
     rw [h,d2,Bool.or_false]at e2
     simp -implicitDefEqProofs only [go_sem,hlen,hr,hsz,k0,k1,k2,h,g1,g2,Option.some.injEq,forall_eq']
     refine⟨by omega,by omega,?_⟩
     refine ih _ (k+1,m,m+1) (by simp only;omega) (by simp only;omega) ?_
     simp only [hz,e1,e2,List.map_append,List.length_append,List.map_cons,List.map_nil,List.length_cons,List.length_nil,zrw]
     simp -implicitDefEqProofs only [go_sem]
 ·have e:k=l.length:=by omega
  subst e
  have k1:((l.length:Int)<(l.length:Int))=False:=eq_false (by omega)
  have ha:=B7h l r
  cases h:H2 l r l.length with
  |true=>
   rw [h,if_pos rfl]at ha
   rw [ha]
   simp -implicitDefEqProofs only [go_sem,hlen,k1,h,A0i,List.drop_zero,Nat.zero_add,List.length_map,List.take_length,K4,Nat.le_refl]
  |false=>
   rw [h,if_neg (by simp)]at ha
   rw [ha]
   simp -implicitDefEqProofs only [go_sem,hlen,k1,h]
   refine⟨by omega,?_⟩
   rw [List.take_of_length_le (by simp),show List.map zrw (A6Z l r l.length)++ [[V.int .i64 r]]=(A6Z l r l.length++ [r]).map zrw from by simp [zrw]]
   exact K4 _ _ _
-- EV: Ins.v, Ins.row
attribute [local go_sem] Ins.v Ins.row
theorem B1Q(i:Ins):Pure Tryz.prog 39 [i.v] (.bool (L5 i.op)):=by
 have hj:L5 i.op=decide (i.op≠14∧i.op≠17∧i.op≠18):=rfl
 rw [hj]
 refine Pure.of 0 (A2.enter o6 (Nat.le_of_ble_eq_true rfl) ?_)
 refine Run.go 100 ?_
 simp -implicitDefEqProofs only [go_sem,A4]
 repeat' (first|refine And.intro ?_ ?_|refine fun h=> ?_)
 all_goals simp_all
theorem B8L(l:List Int)(r:Int)(h:Asc l):B2T l r=D2 (l++ [r]):=by rw [←B2U,B4K h]
theorem B6h(code:List Ins)(i:Ins):Asc (B0L code i):=by unfold B0L;split;exact B2l _;exact A5C
theorem A2.give{P:Program}{f:FuncId}{b st m n:Nat}{rs:List (List V)}{v:V}{h h':A0}{k:Res}(i:Nat)(hi:h[i]? =some (b,st,.rows 1 rs))(hm:m=rs.length)(hh:A7c b st rs h h')
  (hc:A2 P f [.isl rs,v] h' n k):A2 P f [.sl b st 0 m,v] h n k:=
 A2.pre (xs':= [.isl rs,v]) (Wk.freeze (sl':= [(1,v),(0,.isl rs)]) (List.mem_of_getElem? hi) ⟨.of (.refl _),Frz.all hm,trivial⟩ hh) rfl hc
theorem B8X(code:List Ins)(at_:Int)(hc:code.length≤100000)(c0 c1 c2 c3 c4 c6 c7 c8 c9 c10:V):
  Pure Tryz.prog 37 [.agg [c0,c1,c2,c3,c4,.isl (code.map Ins.row),c6,c7,c8,c9,c10],.int .i64 at_] (.isl ((C7 code at_).map zrw)):=by
 refine Pure.of 1 (A2.enter A0Y (Nat.le_of_ble_eq_true rfl) ?_)
 have hrow: ∀(k:Nat) (x:Ins),code[k]? =some x→(code.map Ins.row)[k]? =some x.row:=fun k x h=>by rw [List.getElem?_map,h];rfl
 have hlen:(code.map Ins.row).length=code.length:=List.length_map ..
 have hsz:C4 (code.map Ins.row) 5=True:=eq_true fun r hr=>by obtain⟨y,_,rfl⟩:=List.mem_map.1 hr;rfl
 generalize code.map Ins.row=es at*
 refine Run.go 100 ?_
 by_cases h1:at_<0
 ·have e:C7 code at_= []:=by rw [C7,if_pos (.inl h1)]
  rw [e]
  simp -implicitDefEqProofs only [go_sem,A4,h1,List.map_nil]
 by_cases h2:(code.length:Int)≤at_
 ·have e:C7 code at_= []:=by rw [C7,if_pos (.inr h2)]
  rw [e]
  simp -implicitDefEqProofs only [go_sem,A4,h1,h2,hlen,List.map_nil]
 obtain⟨i,hi⟩: ∃i,code[at_.toNat]? =some i:=⟨code[at_.toNat]'(by omega),by simp⟩
 have hr:=hrow _ _ hi
 have k0:((0:Int)≤at_)=True:=eq_true (by omega)
 have k1:(at_<(code.length:Int))=True:=eq_true (by omega)
 have k2:(at_.toNat<code.length)=True:=eq_true (by omega)
 have e:C7 code at_=D2 (B0L code i++U4 code at_ i):=by rw [C7,if_neg (by omega),hi]
 rw [e]
 clear e
 have hput:=C2Z (B0L code i) (B6h code i) (by unfold B0L;split<;>simp) (at_+1)
 rw [B8L _ _ (B6h code i)]at hput
 have tp:=B0A i
 have fp:=B1Q i
 simp -implicitDefEqProofs only [go_sem,A4,h1,h2,hlen,hr,hsz,k0,k1,k2,Option.some.injEq,forall_eq']
 refine A2.pureF tp (by simp -implicitDefEqProofs only [go_sem]) ?_
 by_cases hT:W5 i.op=true∧0≤i.b∧i.b<code.length
 ·have t1:=eq_true hT.2.1
  have t2:=eq_true hT.2.2
  rw [show B0L code i= [i.b] from if_pos hT]at hput⊢
  rw [hT.1]
  simp -implicitDefEqProofs only [go_sem,t1,t2,hlen,hr,hsz,k0,k1,k2,Option.some.injEq,forall_eq']
  refine A2.pureF fp (by simp -implicitDefEqProofs only [go_sem]) ?_
  by_cases hF:L5 i.op=true∧at_+1<code.length
  ·have f1:=eq_true hF.2
   rw [show U4 code at_ i= [at_+1] from if_pos hF,hF.1]
   simp -implicitDefEqProofs only [go_sem,f1,hlen]
   refine⟨by omega,by omega,?_⟩
   refine A2.give (h':= []) 0 rfl rfl trivial ?_
   refine A2.pureF hput (by simp -implicitDefEqProofs only [go_sem]) ?_
   simp -implicitDefEqProofs only [go_sem]
   exact K4 _ _ _
  ·rw [show U4 code at_ i= [] from if_neg hF]
   cases hf:L5 i.op with
   |false=>simp -implicitDefEqProofs only [go_sem,H9,G0,List.append_nil,List.map_cons,List.map_nil,zrw]
   |true=>
    have f1:=eq_false (fun h=>hF ⟨hf,h⟩)
    simp -implicitDefEqProofs only [go_sem,f1,hlen,H9,G0,List.append_nil,List.map_cons,List.map_nil,zrw]
    omega
 ·rw [show B0L code i= [] from if_neg hT]at hput⊢
  cases hj:W5 i.op with
  | false=>
   simp -implicitDefEqProofs only [go_sem,hlen,hr,hsz,k0,k1,k2,Option.some.injEq,forall_eq']
   refine A2.pureF fp (by simp -implicitDefEqProofs only [go_sem]) ?_
   by_cases hF:L5 i.op=true∧at_+1<code.length
   ·have f1:=eq_true hF.2
    rw [show U4 code at_ i= [at_+1] from if_pos hF,hF.1]
    simp -implicitDefEqProofs only [go_sem,f1,hlen]
    refine⟨by omega,by omega,?_⟩
    refine A2.give (h':= []) 0 rfl rfl trivial ?_
    refine A2.pureF hput (by simp -implicitDefEqProofs only [go_sem]) ?_
    simp -implicitDefEqProofs only [go_sem]
    exact K4 _ _ _
   ·rw [show U4 code at_ i= [] from if_neg hF]
    cases hf:L5 i.op with
    |false=>simp -implicitDefEqProofs only [go_sem,H9,G0,List.append_nil,List.map_cons,List.map_nil,zrw]
    |true=>
     have f1:=eq_false (fun h=>hF ⟨hf,h⟩)
     simp -implicitDefEqProofs only [go_sem,f1,hlen,H9,G0,List.append_nil,List.map_cons,List.map_nil,zrw]
     omega
  | true=>
   by_cases hb:0≤i.b
   ·have t1:=eq_true hb
    have t2:=eq_false (fun h=>hT ⟨hj,hb,h⟩)
    simp -implicitDefEqProofs only [go_sem,t1,t2,hlen,hr,hsz,k0,k1,k2,Option.some.injEq,forall_eq']
    refine A2.pureF fp (by simp -implicitDefEqProofs only [go_sem]) ?_
    by_cases hF:L5 i.op=true∧at_+1<code.length
    ·have f1:=eq_true hF.2
     rw [show U4 code at_ i= [at_+1] from if_pos hF,hF.1]
     simp -implicitDefEqProofs only [go_sem,f1,hlen]
     refine⟨by omega,by omega,?_⟩
     refine A2.give (h':= []) 0 rfl rfl trivial ?_
     refine A2.pureF hput (by simp -implicitDefEqProofs only [go_sem]) ?_
     simp -implicitDefEqProofs only [go_sem]
     exact K4 _ _ _
    ·rw [show U4 code at_ i= [] from if_neg hF]
     cases hf:L5 i.op with
     |false=>simp -implicitDefEqProofs only [go_sem,H9,G0,List.append_nil,List.map_cons,List.map_nil,zrw]
     |true=>
      have f1:=eq_false (fun h=>hF ⟨hf,h⟩)
      simp -implicitDefEqProofs only [go_sem,f1,hlen,H9,G0,List.append_nil,List.map_cons,List.map_nil,zrw]
      omega
   ·have t1:=eq_false hb
    simp -implicitDefEqProofs only [go_sem,t1,hlen,hr,hsz,k0,k1,k2,Option.some.injEq,forall_eq']
    refine A2.pureF fp (by simp -implicitDefEqProofs only [go_sem]) ?_
    by_cases hF:L5 i.op=true∧at_+1<code.length
    ·have f1:=eq_true hF.2
     rw [show U4 code at_ i= [at_+1] from if_pos hF,hF.1]
     simp -implicitDefEqProofs only [go_sem,f1,hlen]
     refine⟨by omega,by omega,?_⟩
     refine A2.give (h':= []) 0 rfl rfl trivial ?_
     refine A2.pureF hput (by simp -implicitDefEqProofs only [go_sem]) ?_
     simp -implicitDefEqProofs only [go_sem]
     exact K4 _ _ _
    ·rw [show U4 code at_ i= [] from if_neg hF]
     cases hf:L5 i.op with
     |false=>simp -implicitDefEqProofs only [go_sem,H9,G0,List.append_nil,List.map_cons,List.map_nil,zrw]
     |true=>
      have f1:=eq_false (fun h=>hF ⟨hf,h⟩)
      simp -implicitDefEqProofs only [go_sem,f1,hlen,H9,G0,List.append_nil,List.map_cons,List.map_nil,zrw]
      omega
end Go.Proofs.YtnihmhbcjpcobaaGreatDoor
