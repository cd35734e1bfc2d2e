/-
 What scriptingref41.Remove answers. No condition.
-/
import Derived.Test.YtcaaenddpjepiaaGreatDoorWh5
import Derived.Test.YtcaaenddpjepiaaGreatDoorPeTR
import Derived.Test.YtcaaenddpjepiaaGreatDoorFlowR
import Derived.Test.YtcaaenddpjepiaaGreatDoorRvA
import Derived.Test.YtcaaenddpjepiaaGreatDoorFlowS
import Derived.Test.YtcaaenddpjepiaaGreatDoorFnCk
set_option linter.unusedVariables false
set_option linter.unusedSimpArgs false
set_option maxRecDepth 100000
set_option maxHeartbeats 0
namespace Go.Proofs.YtcaaenddpjepiaaGreatDoor
section
open Go.Abs
attribute [local irreducible] A0 Run
abbrev rmN(k:Nat):Nat:=51*10000+k
-- EV: rmN, cpN, Ins.v, Ins.row, Vr.row
attribute [local go_sem] rmN cpN Ins.v Ins.row Vr.row
def U6(gone:Nat→Bool)(n:Nat):List (List V):=(List.range n).map fun k=> [V.bool (gone k)]
def B4Y(gone:Nat→Bool)(k:Nat):List (List V):=(List.range k).map fun i=> [V.int .i64 (F6 gone i)]
theorem C6P(gone:Nat→Bool)(k:Nat):B4Y gone (k+1)=B4Y gone k++ [[.int .i64 (F6 gone k)]]:=by unfold B4Y;rw [List.range_succ,List.map_append];rfl
def lnF(gone:Nat→Bool)(l:List Int)(k:Nat):List Int:=if l.length=0 then []else F0 gone l k
theorem B3d(p:Fn)(q:RemOK p)(hp:p.code.length≤1000000∧p.lines.length≤1000000∧p.consts.length≤1000000∧p.protos.length≤1000000∧p.ups.length≤1000000∧p.vars.length≤1000000)(gone:Nat→Bool)(n:Nat):
  A0 Tryz.prog 51 [.agg p.row,.isl (U6 gone p.code.length)] [] n fun r h' n'=> ∃d,r= .agg [.str p.name,.int .i64 p.line,.int .i64 p.params,.bool p.vararg,.int .i64 p.regs,.isl ((E6 gone p).code.map Ins.row),.isl ((E6 gone p).lines.map D1),.isl (p.consts.map Kst.row),.sl (cpN 28) d 0 p.protos.length,.isl (p.ups.map Upv.row),.isl ((E6 gone p).vars.map Vr.row)]
   ∧h'= [(cpN 28,d,.rows 11 (p.protos.map Fn.row))]:=by
 have cp:=fun n=>A6k p hp n
 rw [show (E6 gone p).code=(F0 gone p.code p.code.length).map (n8 gone) from rfl,show (E6 gone p).lines=lnF gone p.lines p.code.length from rfl,show (E6 gone p).vars=A0N gone p.vars p.vars.length from(B9b ..).symm]
 have hps:=Fn.row_sub C7 p
 have hc1:=q.code
 rw [Fn.row_eq p]at cp hps⊢
 have g:(p.code.map Ins.row).length=p.code.length:=List.length_map ..
 have hrC: ∀(k:Nat) x,p.code[k]? =some x→(p.code.map Ins.row)[k]? =some x.row:=fun k x h=>by rw [List.getElem?_map,h];rfl
 have hzC:C4 (p.code.map Ins.row) 5=True:=eq_true fun r D=>by obtain⟨y,_,rfl⟩:=List.mem_map.1 D;rfl
 have hlL:(p.lines.map D1).length=p.lines.length:=List.length_map ..
 have hrL: ∀(k:Nat) x,p.lines[k]? =some x→(p.lines.map D1)[k]? =some [.int .i64 x]:=fun k x h=>by rw [List.getElem?_map,h];rfl
 have hzL:C4 (p.lines.map D1) 1=True:=eq_true fun r D=>by obtain⟨y,_,rfl⟩:=List.mem_map.1 D;rfl
 have K:(p.vars.map Vr.row).length=p.vars.length:=List.length_map ..
 have hrV: ∀(k:Nat) x,p.vars[k]? =some x→(p.vars.map Vr.row)[k]? =some x.row:=fun k x h=>by rw [List.getElem?_map,h];rfl
 have hzV:C4 (p.vars.map Vr.row) 5=True:=eq_true fun r D=>by obtain⟨y,_,rfl⟩:=List.mem_map.1 D;rfl
 have G:(U6 gone p.code.length).length=p.code.length:=by simp [U6]
 have hrG: ∀k,k<p.code.length→(U6 gone p.code.length)[k]? =some [.bool (gone k)]:=fun k h=>by simp [U6,h]
 have F:C4 (U6 gone p.code.length) 1=True:=eq_true fun r D=>by obtain⟨y,_,rfl⟩:=List.mem_map.1 D;rfl
 generalize p.code.map Ins.row=CR at*
 generalize p.lines.map D1=LR at*
 generalize p.vars.map Vr.row=VR at*
 generalize p.consts.map Kst.row=V at*
 generalize p.protos.map Fn.row=P at*
 generalize p.ups.map Upv.row=UR at*
 generalize U6 gone p.code.length=GR at*
 refine A0.enterK A1o Jk fun Q hQ=>Run.go 100 ?_
 refine QM ?_
 refine Run.roundsK (fun(x:Nat×Nat×Nat)=>⟨[(7,.int .i64 x.1),(6,.int .i64 (F6 gone (min x.1 p.code.length))),(5,.sl (rmN 26) x.2.1 0 x.1),(4,.ptr (rmN 4) (n+1) 0 0),(2,.ptr (rmN 2) n 0 0),(1,.isl GR)],
   [(rmN 26,x.2.1,.rows 1 (B4Y gone x.1)),(rmN 4,n+1,.rows 11 [[.str [],.int .i64 0,.int .i64 0,.bool false,.int .i64 0,.nils,.nils,.nils,.nils,.nils,.nils]]),
   (rmN 2,n,.rows 11 [[.str p.name,.int .i64 p.line,.int .i64 p.params,.bool p.vararg,.int .i64 p.regs,.isl CR,.isl LR,.isl V,.isl P,.isl UR,.isl VR]])],x.2.2⟩)
  (fun x=>x.1≤p.code.length+1) (fun x=>p.code.length+1-x.1) (0,n+2,n+3) ?_ (Nat.zero_le _) ?_
 ·exact .turn (fun b=>if b=rmN 15 then rmN 26 else b) ⟨.refl _,.refl _,.sl,.refl _,.refl _,.refl _,trivial⟩ (.at 0 rfl rfl (.refl _) (.at 1 rfl rfl (.refl _) (.at 2 rfl rfl (.refl _) trivial)))
 rintro⟨k,st,m⟩ H z
 dsimp only at H z⊢
 refine Run.unf q8 (Run.go 100 ?_)
 have j:(B4Y gone k).length=k:=by simp [B4Y]
 have w:((0:Int)≤(k:Int))=True:=Ji
 by_cases c:(k:Int)≤p.code.length
 ·have fin:=fun X st' m'=>z X (k+1,st',m') zk zk
  dsimp only at fin
  have f:(B4Y gone k).take k=B4Y gone k:=List.take_of_length_le zd
  have c1:(k≤k)=True:=eq_true (Nat.le_refl _)
  have O:(k≤1099511627775)=True:=Ji
  rw [C6P]at fin
  rw [Nat.min_eq_left zd]
  by_cases d:(k:Int)<p.code.length
  ·have J:(k<p.code.length)=True:=Ji
   have E:=hrG k zd
   rw [Nat.min_eq_left zd]at fin
   cases hgk:gone k with
   |true=>
    rw [show F6 gone (k+1)=F6 gone k by rw [F6,hgk];rfl]at fin
    rw [hgk]at E
    simp -implicitDefEqProofs only [go_sem,c,d,w,J,g,G,F,E,j,f,c1,O,Option.some.injEq,forall_eq']
    exact Xz
   |false=>
    have hnb:=A8p gone k
    rw [show F6 gone (k+1)=F6 gone k+1 by rw [F6,hgk];rfl]at fin
    rw [hgk]at E
    simp -implicitDefEqProofs only [go_sem,c,d,w,J,g,G,F,E,j,f,c1,O,Option.some.injEq,forall_eq']
    exact⟨by omega,⟨by omega,by omega⟩,⟨by omega,by omega⟩,fin _ m (m+1) (.turn id ⟨.refl _,.refl _,.refl _,.refl _,.refl _,.refl _,trivial⟩ (.at 0 rfl rfl (.refl _) (.at 1 rfl rfl (.refl _) (.at 2 rfl rfl (.refl _) trivial))))⟩
  ·rw [Nat.min_eq_right zd,show p.code.length=k by omega]at fin
   simp -implicitDefEqProofs only [go_sem,c,d,g,j,f,c1,O]
   exact Xz
 obtain rfl:k=p.code.length+1:=by omega
 simp -implicitDefEqProofs only [go_sem,c,g]
 refine A0.at [] [0,1,2] (cp m) rfl rfl ?_
 rintro r h' s hn ⟨a,d,rfl,rfl⟩
 refine QL ?_
 clear z hn c w H
 have N: ∀i,i≤p.code.length→(B4Y gone (p.code.length+1))[i]? =some [.int .i64 (F6 gone i)]:=fun i h=>by simp [B4Y,show i<p.code.length+1 by omega]
 have C:C4 (B4Y gone (p.code.length+1)) 1=True:=eq_true fun r D=>by obtain⟨y,_,rfl⟩:=List.mem_map.1 D;rfl
 generalize B4Y gone (p.code.length+1)=NR at*
 refine Run.roundsK (fun(x:Nat×Nat×Nat×Nat)=>⟨[(9,.int .i64 x.1),(8,.ptr (rmN 8) s 0 0),(5,.sl (rmN 26) st 0 (p.code.length+1)),(4,.ptr (rmN 4) (n+1) 0 0),(2,.ptr (rmN 2) n 0 0),(1,.isl GR)],
   [(rmN 8,s,.rows 11 [[.str p.name,.int .i64 p.line,.int .i64 p.params,.bool p.vararg,.int .i64 p.regs,.sl (rmN 80) x.2.1 0 (F6 gone x.1),.sl (rmN 95) x.2.2.1 0 (lnF gone p.lines x.1).length,.isl V,.sl (cpN 28) d 0 p.protos.length,.isl UR,.sl (rmN 130) (s+3) 0 0]]),
   (rmN 80,x.2.1,.rows 5 (((F0 gone p.code x.1).map (n8 gone)).map Ins.row)),(rmN 95,x.2.2.1,.rows 1 ((lnF gone p.lines x.1).map D1)),(rmN 130,s+3,.rows 5 []),(cpN 28,d,.rows 11 P),
   (rmN 26,st,.rows 1 NR),(rmN 4,n+1,.rows 11 [[.str [],.int .i64 0,.int .i64 0,.bool false,.int .i64 0,.nils,.nils,.nils,.nils,.nils,.nils]]),
   (rmN 2,n,.rows 11 [[.str p.name,.int .i64 p.line,.int .i64 p.params,.bool p.vararg,.int .i64 p.regs,.isl CR,.isl LR,.isl V,.isl P,.isl UR,.isl VR]])],x.2.2.2⟩)
  (fun x=>x.1≤p.code.length) (fun x=>p.code.length-x.1) (0,s+1,s+2,s+4) ?_ (Nat.zero_le _) ?_
 ·have Z:lnF gone p.lines 0= []:=by unfold lnF;split<;>rfl
  exact .turn (fun b=>if b=rmN 43 then rmN 80 else if b=rmN 45 then rmN 95 else if b=rmN 47 then rmN 130 else b) ⟨.refl _,.refl _,.refl _,.refl _,.refl _,.refl _,trivial⟩ (.at 0 rfl rfl (L1.snocL (R:= []) ⟨.refl _,.refl _,.refl _,.refl _,.refl _,.sl,.sl' (by rw [Z];rfl),.refl _,.refl _,.refl _,.sl,trivial⟩) (.at 3 rfl rfl (.of_eq rfl) (.at 2 rfl rfl (.of_eq (by rw [Z];rfl)) (.at 1 rfl rfl (.refl _) (.at 4 rfl rfl (.refl _) (.at 6 rfl rfl (.refl _) (.at 7 rfl rfl (.refl _) (.at 8 rfl rfl (.refl _) trivial))))))))
 rintro⟨k,sc,M,m⟩ H z
 dsimp only at H z⊢
 refine Run.unf P6 (Run.go 100 ?_)
 have U:=A0x gone p.code k H
 have hnb:=A8p gone k
 by_cases c:(k:Int)<p.code.length
 ·obtain⟨i,hi⟩: ∃i,p.code[k]? =some i:=⟨p.code[k]' zd,by simp⟩
  have hir:=hrC k i hi
  have w:((0:Int)≤(k:Int))=True:=Ji
  have J:(k<p.code.length)=True:=Ji
  have E:=hrG k zd
  have fin:=fun X sc M m=>z X (k+1,sc,M,m) zk zk
  dsimp only at fin
  cases hgk:gone k with
  | true=>
   rw [hgk]at E
   have Y:lnF gone p.lines (k+1)=lnF gone p.lines k:=by
    unfold lnF
    split
    ·rfl
    ·have:=q.lines
     exact A8j (x:=p.lines[k]' zd) zf hgk
   rw [show F6 gone (k+1)=F6 gone k by rw [F6,hgk];rfl,A8j hi hgk,Y]at fin
   simp -implicitDefEqProofs only [go_sem,c,w,J,g,G,F,E,Option.some.injEq,forall_eq']
   exact⟨⟨by omega,by omega⟩,fin _ sc M m (.turn id ⟨.refl _,.refl _,.refl _,.refl _,.refl _,.refl _,trivial⟩ (.at 0 rfl rfl (.refl _) (.at 1 rfl rfl (.refl _) (.at 2 rfl rfl (.refl _) (.at 3 rfl rfl (.refl _) (.at 4 rfl rfl (.refl _) (.at 5 rfl rfl (.refl _) (.at 6 rfl rfl (.refl _) (.at 7 rfl rfl (.refl _) trivial)))))))))⟩
  | false=>
   rw [hgk]at E
   have tp:=A4J i
   obtain⟨t,I,ht2⟩: ∃t:Nat,(if G9 i.op=true then i.b else 0)=(t:Int)∧t≤p.code.length:=by
    cases l:G9 i.op with
    |false=>exact⟨0,rfl,Nat.zero_le _⟩
    |true=>
     obtain⟨b0,b1⟩:=q.jumps i (List.mem_of_getElem? hi) l
     exact⟨i.b.toNat,by rw [if_pos rfl];omega,by omega⟩
   have t0:((0:Int)≤(t:Int))=True:=Ji
   have t1:(t<p.code.length+1)=True:=Ji
   have t2:=N t ht2
   have hm1:n8 gone i=if G9 i.op=true then{i with b:=(F6 gone t:Int)}else i:=by
    unfold n8
    by_cases l:G9 i.op=true
    ·rw [if_pos l]at I;rw [if_pos l,if_pos l,I];rfl
    ·rw [if_neg l,if_neg l]
   rw [I]at tp
   rw [show F6 gone (k+1)=F6 gone k+1 by rw [F6,hgk];rfl,A5b hi hgk,List.map_append,List.map_append,List.map_cons,List.map_cons,List.map_nil,List.map_nil,hm1]at fin
   have B:(((F0 gone p.code k).map (n8 gone)).map Ins.row).length=F6 gone k:=by simp [U]
   generalize ((F0 gone p.code k).map (n8 gone)).map Ins.row=KC at*
   have A:(F6 gone k≤1099511627775)=True:=Ji
   have o:(F6 gone k≤F6 gone k)=True:=eq_true (Nat.le_refl _)
   have f:KC.take (F6 gone k)=KC:=List.take_of_length_le zd
   simp -implicitDefEqProofs only [go_sem,c,w,J,g,hzC,hir,G,F,E,Option.some.injEq,forall_eq']
   refine A0.pureF tp ze ?_
   by_cases hz:p.lines.length=0
   ·have O:((k:Int)<(p.lines.length:Int))=False:=Jj
    rw [show lnF gone p.lines (k+1)=lnF gone p.lines k by unfold lnF;rw [if_pos hz,if_pos hz]]at fin
    simp -implicitDefEqProofs only [go_sem,j,C,t0,t1,t2,B,A,o,f,hlL,O,Option.some.injEq,forall_eq']
    refine⟨fun l=> ?_,fun l=> ?_⟩
    ·rw [if_pos l]at fin
     exact⟨by omega,by omega,⟨by omega,by omega⟩,fin _ (m+1) M (m+1+1) (.turn id ⟨.refl _,.refl _,.refl _,.refl _,.refl _,.refl _,trivial⟩ (.at 0 rfl rfl (.refl _) (.at 1 rfl rfl (.refl _) (.at 3 rfl rfl (.refl _) (.at 4 rfl rfl (.refl _) (.at 5 rfl rfl (.refl _) (.at 6 rfl rfl (.refl _) (.at 7 rfl rfl (.refl _) (.at 8 rfl rfl (.refl _) trivial)))))))))⟩
    ·rw [if_neg (by rw [l];decide)]at fin
     exact⟨by omega,⟨by omega,by omega⟩,fin _ (m+1) M (m+1+1) (.turn id ⟨.refl _,.refl _,.refl _,.refl _,.refl _,.refl _,trivial⟩ (.at 0 rfl rfl (.refl _) (.at 1 rfl rfl (.refl _) (.at 3 rfl rfl (.refl _) (.at 4 rfl rfl (.refl _) (.at 5 rfl rfl (.refl _) (.at 6 rfl rfl (.refl _) (.at 7 rfl rfl (.refl _) (.at 8 rfl rfl (.refl _) trivial)))))))))⟩
   ·have hll:=q.lines.resolve_right hz
    obtain⟨y,hy⟩: ∃y,p.lines[k]? =some y:=⟨p.lines[k]' zd,by simp⟩
    have hyr:=hrL k y hy
    have O:((k:Int)<(p.lines.length:Int))=True:=Ji
    have c3:(k<p.lines.length)=True:=Ji
    have W:lnF gone p.lines k=F0 gone p.lines k:=if_neg hz
    have T:=A0x gone p.lines k zd
    rw [show lnF gone p.lines (k+1)=lnF gone p.lines k++ [y] by rw [W,←A5b hy hgk];exact if_neg hz,List.map_append,List.length_append]at fin
    rw [←W]at T
    have L:((lnF gone p.lines k).map D1).length=(lnF gone p.lines k).length:=List.length_map ..
    generalize (lnF gone p.lines k).map D1=LK at*
    generalize (lnF gone p.lines k).length=ln at*
    subst T
    have hle3:(F6 gone k≤1099511627775)=True:=Ji
    have htk2:LK.take (F6 gone k)=LK:=List.take_of_length_le zd
    simp -implicitDefEqProofs only [go_sem,j,C,t0,t1,t2,w,B,L,A,o,f,htk2,hlL,hzL,hyr,O,c3,Option.some.injEq,forall_eq']
    refine⟨fun l=> ?_,fun l=> ?_⟩
    ·rw [if_pos l]at fin
     exact⟨by omega,by omega,by omega,⟨by omega,by omega⟩,fin _ (m+1) (m+1+1) (m+1+1+1) (.turn id ⟨.refl _,.refl _,.refl _,.refl _,.refl _,.refl _,trivial⟩ (.at 0 rfl rfl (.refl _) (.at 2 rfl rfl (.refl _) (.at 1 rfl rfl (.refl _) (.at 4 rfl rfl (.refl _) (.at 5 rfl rfl (.refl _) (.at 6 rfl rfl (.refl _) (.at 7 rfl rfl (.refl _) (.at 8 rfl rfl (.refl _) trivial)))))))))⟩
    ·rw [if_neg (by rw [l];decide)]at fin
     exact⟨by omega,by omega,⟨by omega,by omega⟩,fin _ (m+1) (m+1+1) (m+1+1+1) (.turn id ⟨.refl _,.refl _,.refl _,.refl _,.refl _,.refl _,trivial⟩ (.at 0 rfl rfl (.refl _) (.at 2 rfl rfl (.refl _) (.at 1 rfl rfl (.refl _) (.at 4 rfl rfl (.refl _) (.at 5 rfl rfl (.refl _) (.at 6 rfl rfl (.refl _) (.at 7 rfl rfl (.refl _) (.at 8 rfl rfl (.refl _) trivial)))))))))⟩
 obtain rfl:k=p.code.length:=by omega
 simp -implicitDefEqProofs only [go_sem,c,g]
 clear z c H
 have B:(((F0 gone p.code p.code.length).map (n8 gone)).map Ins.row).length=F6 gone p.code.length:=by simp [U]
 generalize ((F0 gone p.code p.code.length).map (n8 gone)).map Ins.row=KC at*
 have L:((lnF gone p.lines p.code.length).map D1).length=(lnF gone p.lines p.code.length).length:=List.length_map ..
 generalize (lnF gone p.lines p.code.length).map D1=LK at*
 generalize (lnF gone p.lines p.code.length).length=ln at*
 generalize F6 gone p.code.length=nc at*
 refine Run.roundsK (fun(x:Nat×Nat×Nat)=>⟨[(13,.int .i64 x.1),(8,.ptr (rmN 8) s 0 0),(5,.sl (rmN 26) st 0 (p.code.length+1)),(4,.ptr (rmN 4) (n+1) 0 0),(2,.ptr (rmN 2) n 0 0)],
   [(rmN 8,s,.rows 11 [[.str p.name,.int .i64 p.line,.int .i64 p.params,.bool p.vararg,.int .i64 p.regs,.sl (rmN 80) sc 0 nc,.sl (rmN 95) M 0 ln,.isl V,.sl (cpN 28) d 0 p.protos.length,.isl UR,.sl (rmN 130) x.2.1 0 (A0N gone p.vars x.1).length]]),
   (rmN 80,sc,.rows 5 KC),(rmN 95,M,.rows 1 LK),(rmN 130,x.2.1,.rows 5 ((A0N gone p.vars x.1).map Vr.row)),(cpN 28,d,.rows 11 P),
   (rmN 26,st,.rows 1 NR),(rmN 4,n+1,.rows 11 [[.str [],.int .i64 0,.int .i64 0,.bool false,.int .i64 0,.nils,.nils,.nils,.nils,.nils,.nils]]),
   (rmN 2,n,.rows 11 [[.str p.name,.int .i64 p.line,.int .i64 p.params,.bool p.vararg,.int .i64 p.regs,.isl CR,.isl LR,.isl V,.isl P,.isl UR,.isl VR]])],x.2.2⟩)
  (fun x=>x.1≤p.vars.length) (fun x=>p.vars.length-x.1) (0,s+3,m) ?_ (Nat.zero_le _) ?_
 ·exact .turn id ⟨.refl _,.refl _,.refl _,.refl _,.refl _,trivial⟩ (.at 0 rfl rfl (.refl _) (.at 1 rfl rfl (.refl _) (.at 2 rfl rfl (.refl _) (.at 3 rfl rfl (.refl _) (.at 4 rfl rfl (.refl _) (.at 5 rfl rfl (.refl _) (.at 6 rfl rfl (.refl _) (.at 7 rfl rfl (.refl _) trivial))))))))
 rintro⟨k,sv,m⟩ H z
 dsimp only at H z⊢
 refine Run.unf J3 (Run.go 100 ?_)
 have hvn:=B9c gone p.vars k
 have hvm:=q.most
 have hL3:((A0N gone p.vars k).map Vr.row).length=(A0N gone p.vars k).length:=List.length_map ..
 by_cases c:(k:Int)<p.vars.length
 ·obtain⟨v,hv⟩: ∃v,p.vars[k]? =some v:=⟨p.vars[k]' zd,by simp⟩
  have hvr:=hrV k v hv
  have w:((0:Int)≤(k:Int))=True:=Ji
  have J:(k<p.vars.length)=True:=Ji
  obtain⟨⟨a1,a2⟩,b1,b2⟩:=q.vars v (List.mem_of_getElem? hv)
  obtain⟨t,I⟩: ∃t:Nat,v.lo=t:=⟨v.lo.toNat,by omega⟩
  obtain⟨u,hu⟩: ∃u:Nat,v.hi=u:=⟨v.hi.toNat,by omega⟩
  have hNt:=N t zd
  have S:=N u zd
  have k4:((0:Int)≤(t:Int))=True:=Ji
  have k5:(t<p.code.length+1)=True:=Ji
  have k6:((t:Int)<((p.code.length+1:Nat):Int))=True:=Ji
  have k7:((0:Int)≤(u:Int))=True:=Ji
  have k8:(u<p.code.length+1)=True:=Ji
  have k9:((u:Int)<((p.code.length+1:Nat):Int))=True:=Ji
  have e1:=B7q (gone:=gone) hv
  rw [I,hu,Int.toNat_natCast,Int.toNat_natCast]at e1
  have fin:=fun X sv m=>z X (k+1,sv,m) zk zk
  dsimp only at fin
  rw [e1]at fin
  by_cases e:F6 gone t=F6 gone u
  ·have Y:((F6 gone t:Int)=(F6 gone u:Int))=True:=Ji
   rw [if_pos e]at fin
   simp -implicitDefEqProofs only [go_sem,c,w,J,k4,k5,k6,k7,k8,k9,K,hzV,hvr,I,hu,j,C,hNt,S,Y,Option.some.injEq,forall_eq']
   exact⟨⟨by omega,by omega⟩,fin _ sv (m+1) (.turn id ⟨.refl _,.refl _,.refl _,.refl _,.refl _,trivial⟩ (.at 1 rfl rfl (.refl _) (.at 2 rfl rfl (.refl _) (.at 3 rfl rfl (.refl _) (.at 4 rfl rfl (.refl _) (.at 5 rfl rfl (.refl _) (.at 6 rfl rfl (.refl _) (.at 7 rfl rfl (.refl _) (.at 8 rfl rfl (.refl _) trivial)))))))))⟩
  ·have Y:((F6 gone t:Int)=(F6 gone u:Int))=False:=Jj
   have hm2:A7a gone v={v with lo:=(F6 gone t:Int),hi:=(F6 gone u:Int)}:=by unfold A7a;rw [I,hu];rfl
   rw [if_neg e,List.map_append,List.length_append,hm2]at fin
   generalize (A0N gone p.vars k).map Vr.row=VK at*
   generalize (A0N gone p.vars k).length=vn at*
   have A:(vn≤1099511627775)=True:=Ji
   have o:(vn≤vn)=True:=eq_true (Nat.le_refl _)
   have f:VK.take vn=VK:=List.take_of_length_le zd
   simp -implicitDefEqProofs only [go_sem,c,w,J,k4,k5,k6,k7,k8,k9,K,hzV,hvr,I,hu,j,C,hNt,S,Y,hL3,A,o,f,Option.some.injEq,forall_eq']
   exact⟨by omega,⟨by omega,by omega⟩,fin _ (m+1) (m+1+1) (.turn id ⟨.refl _,.refl _,.refl _,.refl _,.refl _,trivial⟩ (.at 0 rfl rfl (.refl _) (.at 3 rfl rfl (.refl _) (.at 4 rfl rfl (.refl _) (.at 1 rfl rfl (.refl _) (.at 5 rfl rfl (.refl _) (.at 6 rfl rfl (.refl _) (.at 7 rfl rfl (.refl _) (.at 8 rfl rfl (.refl _) trivial)))))))))⟩
 ·obtain rfl:k=p.vars.length:=by omega
  simp -implicitDefEqProofs only [go_sem,c,K]
  subst hQ
  exact Z2.mk (h2:= [(cpN 28,d,.rows 11 P)]) (Wk.trans (Wk.fr 10 4 rfl rfl hL3.symm) (Wk.trans (Wk.fr 6 3 rfl rfl L.symm) (Wk.trans (Wk.fr 5 2 rfl rfl B.symm) (.turn id ⟨.refl _,trivial⟩ (.at 2 rfl rfl (.refl _) trivial))))) ⟨_,rfl,rfl⟩
end
section
open Go.Abs
attribute [local irreducible] A0 Run
abbrev jN(k:Nat):Nat:=19*10000+k
-- EV: jN, cpN, Ins.v, Ins.row
attribute [local go_sem] jN cpN Ins.v Ins.row
theorem C3y{X Y:Prop}(m:X→Y)(x:X):Y:=m x
def tuP(f:Fn→Fn)(l:List Fn)(j:Nat):List (List V):=(l.take j).map (fun q=>(f q).row)++(l.drop j).map Fn.row
theorem C0v(f:Fn→Fn)(l:List Fn)(j:Nat):(tuP f l j).length=l.length:=by simp [tuP];omega
theorem C0u(f:Fn→Fn)(l:List Fn):tuP f l l.length=l.map fun q=>(f q).row:=by simp [tuP]
theorem B7o{f:Fn→Fn}{l:List Fn}{j:Nat}{q:Fn}(h:l[j]? =some q):tuP f l (j+1)=(tuP f l j).set j (f q).row:=by
 obtain⟨d,c⟩:=List.getElem?_eq_some_iff.1 h
 unfold tuP
 have b:l.take (j+1)=l.take j++ [q]:=by rw [List.take_add_one,h];rfl
 have e:l.drop j=q::l.drop (j+1):=by rw [List.drop_eq_getElem_cons d,c]
 have a:((l.take j).map fun q=>(f q).row).length=j:=by simp;omega
 exact Yz
theorem C4A{f:Fn→Fn}{l:List Fn}{j:Nat}{q:Fn}(h:l[j]? =some q):(tuP f l j)[j]? =some q.row:=by
 have a:=(List.getElem?_eq_some_iff.1 h).1
 unfold tuP
 rw [List.getElem?_append_right zl]
 simp only [List.length_map,List.length_take,Nat.min_eq_left (Nat.le_of_lt a),Nat.sub_self,List.getElem?_map,List.getElem?_drop,Nat.add_zero]
 rw [h];rfl
theorem C4B(f:Fn→Fn)(l:List Fn)(j:Nat):C4 (tuP f l j) 11=True:=eq_true fun r h=>by
 rcases List.mem_append.1 h with h|h
 ·obtain⟨y,_,rfl⟩:=List.mem_map.1 h;exact Fn.row_len _
 ·obtain⟨y,_,rfl⟩:=List.mem_map.1 h;exact Fn.row_len _
def D0n(p:Fn):Prop:=p.code.length≤1000000∧p.lines.length≤1000000∧p.consts.length≤1000000∧p.protos.length≤1000000∧p.ups.length≤1000000∧p.vars.length≤1000000
theorem C2g(P:Fn→Prop)(hch: ∀p,P p→ ∀q∈p.protos,P q)(hso: ∀p,P p→Pure Tryz.prog 45 [.agg p.row] (.bool (decide (L5 (G1 p)=0))))(N: ∀p,P p→D0n p)
  (hin: ∀p,P p→L5 (G1 p)=0→p.code.length≤20000∧InJ p.code) (p:Fn) (M:P p):Pure Tryz.prog 19 [.agg p.row] (.agg (C0 C8 p).row):=by
 induction p using Fn.ind with
 |h p O=>
 have ih: ∀q∈p.protos,Pure Tryz.prog 19 [.agg q.row] (.agg (C0 C8 q).row):=fun q B=>O q B (hch p M q B)
 clear O
 have cp:=fun n=>A6k p (N p M) n
 have so:=hso p M
 have b4:p.protos.length≤1000000:=(N p M).2.2.2.1
 have D:=hin p M
 have z:=Fn.row_sub C7 p
 have E:=X0 C8 p
 have rc:=fun a h1 h2 h3=>C1W p h1 h2 a h3
 have hrw:=Fn.row_eq p
 have g:(p.code.map Ins.row).length=p.code.length:=List.length_map ..
 have hrC: ∀(k:Nat) x,p.code[k]? =some x→(p.code.map Ins.row)[k]? =some x.row:=fun k x h=>by rw [List.getElem?_map,h];rfl
 have m:C4 (p.code.map Ins.row) 5=True:=eq_true fun r H=>by obtain⟨y,_,rfl⟩:=List.mem_map.1 H;rfl
 have C:(p.protos.map Fn.row).length=p.protos.length:=List.length_map ..
 have S:C4 (p.protos.map Fn.row) 11=True:=eq_true (fun r H=>by obtain⟨y,_,rfl⟩:=List.mem_map.1 H;exact Fn.row_len y)
 have hrP: ∀(k:Nat) x,p.protos[k]? =some x→(p.protos.map Fn.row)[k]? =some x.row:=fun k x h=>by rw [List.getElem?_map,h];rfl
 rw [hrw]at cp so z rc⊢
 generalize I:p.code.map Ins.row=Y at*
 generalize hLR:p.lines.map D1=L at*
 generalize hVR:p.vars.map Vr.row=V at*
 generalize hKR:p.consts.map Kst.row=K at*
 generalize hPR:p.protos.map Fn.row=G at*
 generalize Z:p.ups.map Upv.row=U at*
 refine Pure.of 0 (A0.enterK A2k Jk fun Q hQ=>Run.go 100 ?_)
 refine QM ?_
 refine A0.at [] [0,1] (cp 2) rfl rfl ?_
 rintro r h' s hn ⟨a,d,rfl,rfl⟩
 refine QL ?_
 refine A0.pureF so QJ ?_
 have hJl:((C0 C8 p).code.map Ins.row).length=p.code.length:=by
  rw [List.length_map,E];dsimp only;split
  ·exact List.length_map ..
  ·rfl
 apply C3y (X:=(fun(c:Cf) (k:List AItem)=>Run c k ⟨[(7,.int .i64 0),(3,.ptr (jN 3) s 0 0),(2,.ptr (jN 2) 1 0 0),(1,.ptr (jN 1) 0 0 0)],
   [(jN 3,s,.rows 11 [[.str p.name,.int .i64 p.line,.int .i64 p.params,.bool p.vararg,.int .i64 p.regs,.sl (cpN 3) a 0 p.code.length,.isl L,.isl K,.sl (cpN 28) d 0 p.protos.length,.isl U,.isl V]]),(cpN 28,d,.rows 11 G),(cpN 3,a,.rows 5 ((C0 C8 p).code.map Ins.row)),(jN 2,1,.rows 11 [[.str [],.int .i64 0,.int .i64 0,.bool false,.int .i64 0,.nils,.nils,.nils,.nils,.nils,.nils]]),(jN 1,0,.rows 11 [[.str p.name,.int .i64 p.line,.int .i64 p.params,.bool p.vararg,.int .i64 p.regs,.isl Y,.isl L,.isl K,.isl G,.isl U,.isl V]])],s+1⟩) _ _)
 ·intro e
  by_cases F:L5 (G1 p)=0
  ·rw [if_pos F]at E
   rw [decide_eq_true F]
   refine QL ?_
   obtain⟨hi1,hj⟩:=D F
   have hE2:(C0 C8 p).code=p.code.map (O0 p.code):=by rw [E];rfl
   rw [hE2]at e
   generalize hJ:O0 p.code=J at*
   refine Run.rounds (fun(k:Nat)=>⟨[(4,.int .i64 k),(3,.ptr (jN 3) s 0 0),(2,.ptr (jN 2) 1 0 0),(1,.ptr (jN 1) 0 0 0)],
    [(jN 3,s,.rows 11 [[.str p.name,.int .i64 p.line,.int .i64 p.params,.bool p.vararg,.int .i64 p.regs,.sl (cpN 3) a 0 p.code.length,.isl L,.isl K,.sl (cpN 28) d 0 p.protos.length,.isl U,.isl V]]),(cpN 28,d,.rows 11 G),(cpN 3,a,.rows 5 ((tuL J p.code k).map Ins.row)),(jN 2,1,.rows 11 [[.str [],.int .i64 0,.int .i64 0,.bool false,.int .i64 0,.nils,.nils,.nils,.nils,.nils,.nils]]),(jN 1,0,.rows 11 [[.str p.name,.int .i64 p.line,.int .i64 p.params,.bool p.vararg,.int .i64 p.regs,.isl Y,.isl L,.isl K,.isl G,.isl U,.isl V]])],s+1⟩)
    (fun k=>k≤p.code.length) (fun k=>p.code.length-k) 0 ?_ (Nat.zero_le _) ?_
   ·simp -implicitDefEqProofs only [go_sem,C2P,I]
   intro k hk w
   refine Run.unf A0i (Run.go 100 ?_)
   have hMl:=C5A J p.code k
   have hMz:C4 ((tuL J p.code k).map Ins.row) 5=True:=eq_true fun r H=>by obtain⟨y,_,rfl⟩:=List.mem_map.1 H;rfl
   by_cases c:(k:Int)<p.code.length
   ·obtain⟨i,D⟩: ∃i,p.code[k]? =some i:=⟨p.code[k]' zd,by simp⟩
    have l:=hrC k i D
    have hMi:=C0t (f:=J) D
    have o:((0:Int)≤(k:Int))=True:=Ji
    have v:(k<p.code.length)=True:=Ji
    have W:=A4J i
    have fin:=fun s'=>w s' (k+1) zd zd
    have j:((k+1:Nat):Int)=(k:Int)+1:=by omega
    by_cases c2:G9 i.op=true∧i.op≠26
    ·obtain⟨u,T⟩:=c2
     have A:J i={i with b:=B9y p.code i.b.toNat}:=by rw [←hJ];unfold O0;rw [if_pos ⟨u,T⟩]
     rw [B7n D,A,List.map_set]at fin
     obtain⟨b0,b1⟩:=hj i (List.mem_of_getElem? D) u
     obtain⟨t,ht⟩: ∃t:Nat,i.b=t:=⟨i.b.toNat,by omega⟩
     rw [ht,Int.toNat_natCast]at fin
     rw [if_pos u,ht]at W
     have hft:=rc t hi1 hj zd
     have c5:=eq_false T
     simp -implicitDefEqProofs only [go_sem,c,o,v,g,m,l,Option.some.injEq,forall_eq']
     refine A0.pureF W ze ?_
     simp -implicitDefEqProofs only [go_sem,c,u,c5,o,v,g,m,l,Option.some.injEq,forall_eq']
     refine⟨?_,?_⟩<;>refine A0.pureF hft QJ ?_<;>simp -implicitDefEqProofs only [go_sem,c,o,v,hMl,hMz,hMi,Option.some.injEq,forall_eq']
     all_goals exact⟨⟨by omega,by omega⟩,fin _ zy⟩
    ·have A:J i=i:=by rw [←hJ];unfold O0;rw [if_neg c2]
     rw [C2O D A]at fin
     simp -implicitDefEqProofs only [go_sem,c,o,v,g,m,l,Option.some.injEq,forall_eq']
     refine A0.pureF W ze ?_
     cases u:G9 i.op with
     |false=>
      simp -implicitDefEqProofs only [go_sem,u]
      exact⟨⟨by omega,by omega⟩,fin _ zy⟩
     | true=>
      have T:(i.op=26)=True:=eq_true (by
       by_cases h:i.op=26
       ·exact h
       ·exact(c2 ⟨u,h⟩).elim)
      simp -implicitDefEqProofs only [go_sem,c,u,T,o,v,g,m,l,Option.some.injEq,forall_eq']
      exact⟨⟨by omega,by omega⟩,fin _ zy⟩
   ·obtain rfl:k=p.code.length:=by omega
    rw [C5z]
    simp -implicitDefEqProofs only [go_sem,c,g]
    exact Run.weak ze e
  ·rw [if_neg F]at E
   rw [decide_eq_false F]
   refine QL ?_
   rw [show (C0 C8 p).code=p.code by rw [E],I]at e
   exact Run.weak ze e
 ·show Run _ _ _
  have hEr:(C0 C8 p).row= [.str p.name,.int .i64 p.line,.int .i64 p.params,.bool p.vararg,.int .i64 p.regs,.isl ((C0 C8 p).code.map Ins.row),.isl L,.isl K,.isl (p.protos.map fun q=>(C0 C8 q).row),.isl U,.isl V]:=by
   rw [Fn.row_eq,←hLR,←hKR,←Z,←hVR,E];dsimp only;split<;>simp [C8]
  have hEs:=Fn.row_sub C7 (C0 C8 p)
  generalize (C0 C8 p).code.map Ins.row=C2 at*
  refine Run.rounds (fun(k:Nat)=>⟨[(7,.int .i64 k),(3,.ptr (jN 3) s 0 0),(2,.ptr (jN 2) 1 0 0),(1,.ptr (jN 1) 0 0 0)],
   [(jN 3,s,.rows 11 [[.str p.name,.int .i64 p.line,.int .i64 p.params,.bool p.vararg,.int .i64 p.regs,.sl (cpN 3) a 0 p.code.length,.isl L,.isl K,.sl (cpN 28) d 0 p.protos.length,.isl U,.isl V]]),(cpN 28,d,.rows 11 (tuP (C0 C8) p.protos k)),(cpN 3,a,.rows 5 C2),(jN 2,1,.rows 11 [[.str [],.int .i64 0,.int .i64 0,.bool false,.int .i64 0,.nils,.nils,.nils,.nils,.nils,.nils]]),(jN 1,0,.rows 11 [[.str p.name,.int .i64 p.line,.int .i64 p.params,.bool p.vararg,.int .i64 p.regs,.isl Y,.isl L,.isl K,.isl G,.isl U,.isl V]])],s+1⟩)
   (fun k=>k≤p.protos.length) (fun k=>p.protos.length-k) 0 QK (Nat.zero_le _) ?_
  intro k hk w
  refine Run.unf S0 (Run.go 100 ?_)
  by_cases c:(k:Int)<p.protos.length
  ·obtain⟨q,B⟩: ∃q,p.protos[k]? =some q:=⟨p.protos[k]' zd,by simp⟩
   have R:=hrP k q B
   have hqp:=ih q (List.mem_of_getElem? B)
   have hqs:=Fn.row_sub C7 q
   obtain⟨q1,q2⟩:=B4 q
   obtain⟨o1,o2⟩:=B4 (C0 C8 q)
   have o:((0:Int)≤(k:Int))=True:=Ji
   have v:(k<p.protos.length)=True:=Ji
   have j:((k+1:Nat):Int)=(k:Int)+1:=by omega
   have hTl:=C0v (C0 C8) p.protos k
   have hTz:=C4B (C0 C8) p.protos k
   have fin:=fun s'=>w s' (k+1) zd zd
   have hTa:=C4A (f:=C0 C8) B
   have q3:q.row.drop 11= []:=List.drop_of_length_le zd
   rw [B7o B]at fin
   generalize q.row=qr at*
   generalize (C0 C8 q).row=out at*
   simp -implicitDefEqProofs only [go_sem,c,o,v,C,S,R,q1,q2,Nat.reduceDiv,Option.some.injEq,forall_eq']
   refine⟨?_,?_⟩<;>refine A0.pureF hqp Qv ?_<;>simp -implicitDefEqProofs only [go_sem,c,o,v,hTl,hTz,hTa,o1,o2,q1,q2,q3,List.append_nil,C,S,R,Nat.reduceDiv,Option.some.injEq,forall_eq']
   all_goals exact⟨⟨by omega,by omega⟩,fin _ zy⟩
  ·obtain rfl:k=p.protos.length:=by omega
   rw [C0u]
   simp -implicitDefEqProofs only [go_sem,c,C]
   subst hQ
   refine Z2.to (r2:= .agg (C0 C8 p).row) (h2:= []) (n2:=s+1) ?_ ?_
   ·generalize (C0 C8 p).row=ER at*
    refine QL ?_
    exact hEs
   ·rw [hEr]
    exact Wk.trans (Wk.fr 8 2 rfl rfl zf) (Wk.trans (Wk.fr 5 2 rfl rfl hJl.symm) (.turn id ⟨.refl _,trivial⟩ trivial))
end
section
open Go.Abs
attribute [local irreducible] A0 Run
theorem C4i(code:List Ins)(hc:code.length≤10000)(G H N M F I J K L o:V)(n:Nat)(Y: [G,H,N,M,F,I,J,K,L,o].map (V.sub C7)= [G,H,N,M,F,I,J,K,L,o]):
  A0 Tryz.prog 52 [.agg [G,H,N,M,F,.isl (code.map Ins.row),I,J,K,L,o]] [] n fun r h' n'=> ∃st,r= .sl (52*10000+11) st 0 code.length∧h'= [((52*10000+11),st,.rows 1 ((A0Q code).map brw))]:=by
 refine A0.enterK A2b Jk fun Q hQ=> ?_
 simp only [List.map_cons,List.map_nil,List.cons.injEq,and_true]at Y
 have X:=fun a=>B1R code a zd G H N M F I J K L o
 have hlen:(code.map Ins.row).length=code.length:=List.length_map ..
 have w:(code.map Ins.row).map (fun r=>r.map (V.sub C7))=code.map Ins.row:=D4A C7 code
 generalize code.map Ins.row=es at*
 refine Run.go 100 ?_
 by_cases h0:code.length=0
 ·have e:es= []:=List.eq_nil_of_length_eq_zero zd
  subst e
  rw [B6K h0]at hQ
  simp -implicitDefEqProofs only [go_sem,A4,List.length_nil]
  refine Run.rounds (fun(x:Nat)=>⟨[(4,.sl (52*10000+12) (n+2) 0 0),(3,.sl (52*10000+11) (n+1) 0 0)],[((52*10000+11),n+1,.rows 1 [])],x⟩) (fun _=>True) (fun _=>0) (n+3) (by simp -implicitDefEqProofs only [go_sem,List.replicate_zero]) trivial ?_
  rintro x _ ih
  refine Run.unf R7 (Run.go 100 ?_)
  refine Jg ?_
  subst hQ
  exact Z2.mk (h2:= [((52*10000+11),n+1,.rows 1 [])]) (.turn id ⟨.refl _,trivial⟩ (.at 0 rfl rfl (.refl _) trivial)) ⟨_,by rw [h0],rfl⟩
 have hp:0<code.length:=by omega
 have g0:=eq_true hp
 have g1:((0:Int)<(code.length:Int))=True:=Ji
 have y:(List.replicate code.length [V.bool false])[0]? =some [.bool false]:=by simp [hp]
 simp -implicitDefEqProofs only [go_sem,A4,hlen,g0,g1,y,Option.some.injEq,forall_eq',List.drop_one,List.tail_cons]
 refine⟨by omega,by omega,?_⟩
 refine Run.rounds (fun(x:List Int×List (List V)×List Bool×Nat×Nat)=>⟨[(4,.sl (52*10000+12) x.2.2.2.1 0 x.1.length),(3,.sl (52*10000+11) (n+1) 0 code.length),(1,.ptr (52*10000+1) n 0 0)],[((52*10000+12),x.2.2.2.1,.rows 1 x.2.1),((52*10000+11),n+1,.rows 1 (x.2.2.1.map brw)),((52*10000+1),n,.rows 11 [[G,H,N,M,F,.isl es,I,J,K,L,o]])],x.2.2.2.2⟩)
  (fun x=>RI code x.2.2.1 x.1∧x.2.1.take x.1.length=x.1.map zrw∧x.1.length≤x.2.1.length∧x.1.length+x.2.2.1.count false≤code.length) (fun x=>2*x.2.2.1.count false+x.1.length) ([0],[[.int .i64 0]],(List.replicate code.length false).set 0 true,n+3,n+4) (by simp -implicitDefEqProofs only [go_sem,List.append_nil,List.map_cons,List.map_nil,zrw,List.length_cons,List.length_nil,List.map_set,List.map_replicate,brw]) ⟨RI.start hp,rfl,Nat.le_refl _,B4O hp⟩ ?_
 rintro⟨l,R,ms,st,m⟩ ⟨U,hR,O,A⟩ ih
 simp only at U ih hR O A⊢
 have hml:=U.len
 refine Run.unf R7 (Run.go 100 ?_)
 rcases B4D l with rfl|⟨l,t,rfl⟩
 ·rw [←U.fin]at hQ
  refine Jg ?_
  subst hQ
  exact Z2.mk (h2:= [((52*10000+11),n+1,.rows 1 (ms.map brw))]) (.turn id ⟨.refl _,trivial⟩ (.at 1 rfl rfl (.refl _) trivial)) ⟨_,rfl,rfl⟩
 obtain⟨a,rfl,ha,hJ0⟩:=U.pop
 have hln:(l++ [(a:Int)]).length=l.length+1:=by simp
 rw [hln]at hR O A ih⊢
 generalize hT:l.length+1=T at*
 have q0:((0:Int)<(T:Int))=True:=Ji
 have q1:((0:Int)≤(T:Int)-1)=True:=Ji
 have q2:(((T:Int)-1)<(T:Int))=True:=Ji
 have q3:((T:Int)-1).toNat=l.length:=by omega
 have q3':((T:Int)-1-0).toNat=l.length:=by omega
 have q4:R[l.length]? =some [.int .i64 a]:=by
  have h1:(R.take T)[l.length]? =some [.int .i64 a]:=by rw [hR];exact P9 zf
  rwa [List.getElem?_take_of_lt zd]at h1
 have q5:(((T:Int)-1)≤(T:Int))=True:=Ji
 have hR':R.take l.length=l.map zrw:=by
  have:=congrArg (List.take l.length) hR
  rw [List.take_take,Nat.min_eq_left zd]at this
  rw [this];simp
 simp -implicitDefEqProofs only [go_sem,q0,q1,q2,q3,q3',q4,q5,Option.some.injEq,forall_eq']
 refine⟨by omega,by omega,by omega,?_⟩
 refine A0.pure (X a) (by simp -implicitDefEqProofs only [go_sem,w,Y]) ?_
 have hnl:=R5 code a
 have hnin:=fun x (h:x∈C5 code a)=>i2 h
 generalize p:C5 code a=f at*
 have S: ∀(k:Nat) (x:Int),f[k]? =some x→(f.map zrw)[k]? =some [.int .i64 x]:=fun k x h=>P9 h
 have i:(f.map zrw).length=f.length:=List.length_map ..
 have z:=B3Y f
 have hnlf:(f.map zrw).map (fun r=>r.map (V.sub C7))=f.map zrw:=D7Z f
 generalize f.map zrw=nls at*
 simp -implicitDefEqProofs only [go_sem,i]
 clear X w y U
 refine Run.rounds (fun(x:Nat×List Int×List (List V)×List Bool×Nat×Nat)=>⟨[(7,.int .i64 (x.1:Nat)),(6,.isl nls),(4,.sl (52*10000+12) x.2.2.2.2.1 0 x.2.1.length),(3,.sl (52*10000+11) (n+1) 0 code.length),(1,.ptr (52*10000+1) n 0 0)],[((52*10000+12),x.2.2.2.2.1,.rows 1 x.2.2.1),((52*10000+11),n+1,.rows 1 (x.2.2.2.1.map brw)),((52*10000+1),n,.rows 11 [[G,H,N,M,F,.isl es,I,J,K,L,o]])],x.2.2.2.2.2⟩)
  (fun x=>x.1≤f.length∧RJ code a x.1 x.2.2.2.1 x.2.1∧x.2.2.1.take x.2.1.length=x.2.1.map zrw∧x.2.1.length≤x.2.2.1.length∧x.2.1.length+x.2.2.2.1.count false≤code.length∧2*x.2.2.2.1.count false+x.2.1.length<2*ms.count false+T) (fun x=>f.length-x.1) (0,l,R,ms,st,m) ze ⟨by simp only;omega,hJ0,hR',by simp only;omega,by simp only;omega,by simp only;omega⟩ ?_
 rintro⟨k,s,R2,d,st2,m2⟩ ⟨hk,P,v,q,g,D⟩ E
 simp only at hk P v q g D E⊢
 have hml2:=P.len
 refine Run.unf R8 (Run.go 100 ?_)
 have hz:((k+1:Nat):Int)=(k:Int)+1:=by omega
 by_cases c:(k:Int)<f.length
 rotate_left
 ·simp -implicitDefEqProofs only [go_sem,c,i]
  exact ih _ (s,R2,d,st2,m2) ⟨P.over (by rw [p];omega),v,q,g⟩ D ze
 obtain⟨x,hx⟩: ∃x,f[k]? =some x:=⟨f[k]' zd,by simp⟩
 have W:=S k x hx
 have hxin:=hnin x (List.mem_of_getElem? hx)
 obtain⟨j,rfl⟩: ∃j:Nat,x=j:=⟨x.toNat,by omega⟩
 have k0:((0:Int)≤(k:Int))=True:=Ji
 have k1:((k:Int)<(f.length:Int))=True:=eq_true c
 have k2:(k<f.length)=True:=Ji
 have j0:((0:Int)≤(j:Int))=True:=Ji
 have j1:((j:Int)<(code.length:Int))=True:=Ji
 have j2:(j<code.length)=True:=Ji
 obtain⟨bv,u⟩: ∃b,d[j]? =some b:=⟨d[j]' zd,by simp⟩
 have hbr:=C3c u
 have Z:(d.map brw).length=code.length:=by simp [hml2]
 have hset:=C4K d j true
 generalize hBe:d.map brw=B at*
 cases bv with
 |true=>
  have C:=P.skip (by rw [p];exact hx) u
  simp -implicitDefEqProofs only [go_sem,i,z,W,k0,k1,k2,j0,j1,j2,hbr,Z,Option.some.injEq,forall_eq']
  refine⟨by omega,?_⟩
  refine E _ (k+1,s,R2,d,st2,m2) ⟨by simp only;omega,C,v,q,g,D⟩ zg ?_
  simp only [hz]
  simp -implicitDefEqProofs only [go_sem,hBe]
 | false=>
  have C:=P.mark (by rw [p];exact hx) u
  have hct:=B1t u
  have hbl:=Z
  simp -implicitDefEqProofs only [go_sem,i,z,W,k0,k1,k2,j0,j1,j2,hbr,hbl,List.length_set,hset,Option.some.injEq,forall_eq',List.drop_one,List.tail_cons]
  refine⟨by omega,by omega,by omega,?_⟩
  refine E _ (k+1,s++ [(j:Int)],R2.take s.length++ [[.int .i64 j]],d.set j true,m2,m2+1) ⟨by simp only;omega,C,?_,?_,?_,?_⟩ zg ?_
  ·simp only [List.length_append,List.length_cons,List.length_nil]
   rw [List.take_of_length_le zl,v];simp [zrw]
  ·simp;omega
  ·simp;omega
  ·simp;omega
  ·exact Kj
theorem C2p(p:Fn)(b:p.code.length≤10000)(n:Nat):A0 Tryz.prog 52 [.agg p.row] [] n fun r a c=> ∃s,r= .sl (52*10000+11) s 0 p.code.length∧a= [((52*10000+11),s,.rows 1 ((A0Q p.code).map brw))]:=by
 have h:=Fn.row_sub C7 p
 rw [Fn.row_eq]at h⊢
 refine C4i p.code b _ _ _ _ _ _ _ _ _ _ n ?_
 exact Kk
end
section
open Go.Abs
attribute [local irreducible] A0 Run
def ntR(B:Nat→Bool)(n k:Nat):List (List V):=(List.range n).map fun i=> [.bool (if i<k then !B i else B i)]
theorem D1b(B:Nat→Bool)(n k:Nat):(ntR B n k).length=n:=by simp [ntR]
theorem D3O(B:Nat→Bool)(n k:Nat):C4 (ntR B n k) 1=True:=eq_true fun r h=>by obtain⟨y,_,rfl⟩:=List.mem_map.1 h;rfl
theorem D3N{B:Nat→Bool}{n k:Nat}(h:k<n):(ntR B n k)[k]? =some [.bool (B k)]:=by simp [ntR,h]
theorem D1c{B:Nat→Bool}{n k:Nat}:(ntR B n k).set k [.bool (!B k)]=ntR B n (k+1):=by
 refine List.ext_getElem? fun i=> ?_
 rw [List.getElem?_set]
 simp only [ntR,List.length_map,List.length_range,List.getElem?_map]
 rcases Nat.lt_or_ge i n with h|h
 ·rw [List.getElem?_range h]
  by_cases e:k=i
  ·subst e;rw [if_pos rfl,if_pos h];simp
  ·rw [if_neg e]
   exact Kp
 ·rw [List.getElem?_eq_none zx]
  split
  ·rw [if_neg zd];rfl
  ·rfl
theorem D1a(B:Nat→Bool)(n:Nat):ntR B n n=U6 (fun k=> !B k) n:=by
 unfold ntR U6
 exact List.map_congr_left fun i h=>by rw [if_pos (List.mem_range.1 h)]
theorem C9i(code:List Ins):(A0Q code).map brw=ntR (A0P code) code.length 0:=by simp [ntR,A0Q,brw]
abbrev ddN(k:Nat):Nat:=18*10000+k
-- EV: ddN, cpN, Ins.v, Ins.row
attribute [local go_sem] ddN cpN Ins.v Ins.row
theorem C3V(P:Fn→Prop)(hch: ∀p,P p→ ∀q∈p.protos,P q)(U: ∀p,P p→Pure Tryz.prog 45 [.agg p.row] (.bool (decide (L5 (G1 p)=0))))(j: ∀p,P p→D0n p)
  (hin: ∀p,P p→L5 (G1 p)=0→RemOK p∧p.code.length≤10000) (p:Fn) (z:P p):Pure Tryz.prog 18 [.agg p.row] (.agg (C0 G2 p).row):=by
 induction p using Fn.ind with
 |h p F=>
 have ih: ∀q∈p.protos,Pure Tryz.prog 18 [.agg q.row] (.agg (C0 G2 q).row):=fun q o=>F q o (hch p z q o)
 clear F
 have cp:=fun n=>A6k p (j p z) n
 have so:=U p z
 have b4:p.protos.length≤1000000:=(j p z).2.2.2.1
 have hi:=hin p z
 have A:=Fn.row_sub C7 p
 have e:=X0 G2 p
 have rr:=fun h n=>C2p p h n
 have I:=fun h n=>B3d p h (j p z) (fun k=> !A0P p.code k) n
 have hrw:=Fn.row_eq p
 have N:(p.code.map Ins.row).length=p.code.length:=List.length_map ..
 have hrC: ∀(k:Nat) x,p.code[k]? =some x→(p.code.map Ins.row)[k]? =some x.row:=fun k x h=>by rw [List.getElem?_map,h];rfl
 have hzC:C4 (p.code.map Ins.row) 5=True:=eq_true fun r Z=>by obtain⟨y,_,rfl⟩:=List.mem_map.1 Z;rfl
 have v:(p.protos.map Fn.row).length=p.protos.length:=List.length_map ..
 have H:C4 (p.protos.map Fn.row) 11=True:=eq_true (fun r Z=>by obtain⟨y,_,rfl⟩:=List.mem_map.1 Z;exact Fn.row_len y)
 have hrP: ∀(k:Nat) x,p.protos[k]? =some x→(p.protos.map Fn.row)[k]? =some x.row:=fun k x h=>by rw [List.getElem?_map,h];rfl
 rw [hrw]at cp so A rr I⊢
 generalize hCR:p.code.map Ins.row=C at*
 generalize hLR:p.lines.map D1=L at*
 generalize W:p.vars.map Vr.row=E at*
 generalize hKR:p.consts.map Kst.row=K at*
 generalize hPR:p.protos.map Fn.row=w at*
 generalize T:p.ups.map Upv.row=u at*
 refine Pure.of 0 (A0.enterK A2Y Jk fun Q hQ=>Run.go 100 ?_)
 refine QM ?_
 refine A0.at [] [0,1] (cp 2) rfl rfl ?_
 rintro r h' s hn ⟨a,d,rfl,rfl⟩
 refine QL ?_
 refine A0.pureF so (by simp -implicitDefEqProofs only [go_sem,A]) ?_
 apply C3y (X:=(fun(c:Cf) (k:List AItem)=> ∀(d m:Nat),Run c k ⟨[(6,.int .i64 0),(3,.ptr (ddN 3) s 0 0),(2,.ptr (ddN 2) 1 0 0),(1,.ptr (ddN 1) 0 0 0)],
   [(ddN 3,s,.rows 11 [[.str p.name,.int .i64 p.line,.int .i64 p.params,.bool p.vararg,.int .i64 p.regs,.isl ((C0 G2 p).code.map Ins.row),.isl ((C0 G2 p).lines.map D1),.isl K,.sl (cpN 28) d 0 p.protos.length,.isl u,.isl ((C0 G2 p).vars.map Vr.row)]]),(cpN 28,d,.rows 11 w),(ddN 2,1,.rows 11 [[.str [],.int .i64 0,.int .i64 0,.bool false,.int .i64 0,.nils,.nils,.nils,.nils,.nils,.nils]]),(ddN 1,0,.rows 11 [[.str p.name,.int .i64 p.line,.int .i64 p.params,.bool p.vararg,.int .i64 p.regs,.isl C,.isl L,.isl K,.isl w,.isl u,.isl E]])],m⟩) _ _)
 ·intro t
  by_cases D:L5 (G1 p)=0
  rotate_left
  ·rw [if_neg D]at e
   rw [decide_eq_false D]
   refine QL ?_
   rw [show (C0 G2 p).code=p.code by rw [e],show (C0 G2 p).lines=p.lines by rw [e],show (C0 G2 p).vars=p.vars by rw [e],hCR,hLR,W]at t
   refine Run.wk ?_ (t d (s+1))
   exact .freeze (b:=cpN 3) (st:=a) (sz:=5) (rs:=C) (List.mem_of_getElem? (i:=2) rfl) ⟨.of (.refl _),.of (.refl _),.of (.refl _),.of (.refl _),trivial⟩ (.at 0 rfl zh (A4D.snoc (R:= []) ⟨.of (.refl _),.of (.refl _),.of (.refl _),.of (.refl _),.of (.refl _),Frz.all N.symm,.of (.refl _),.of (.refl _),.of (.refl _),.of (.refl _),.of (.refl _),trivial⟩) (.at 1 rfl zh (.of (.refl _)) (.at 3 rfl zh (.of (.refl _)) (.at 4 rfl zh (.of (.refl _)) trivial))))
  ·rw [if_pos D]at e
   rw [decide_eq_true D]
   rw [show (C0 G2 p).code=(E6 (fun k=> !A0P p.code k) p).code by rw [e];rfl,show (C0 G2 p).lines=(E6 (fun k=> !A0P p.code k) p).lines by rw [e];rfl,show (C0 G2 p).vars=(E6 (fun k=> !A0P p.code k) p).vars by rw [e];rfl]at t
   refine QL ?_
   obtain⟨h1,h2⟩:=hi D
   refine A0.at [] [0,1,2,3,4] (rr h2 _) rfl rfl ?_
   rintro r h' n1 hn1 ⟨st,rfl,rfl⟩
   refine QL ?_
   rw [C9i]
   have I:=I h1
   generalize A0P p.code=B at*
   refine Run.rounds (fun(k:Nat)=>⟨[(5,.int .i64 k),(4,.sl (52*10000+11) st 0 p.code.length),(3,.ptr (ddN 3) s 0 0),(2,.ptr (ddN 2) 1 0 0),(1,.ptr (ddN 1) 0 0 0)],
    [((52*10000+11),st,.rows 1 (ntR B p.code.length k)),(ddN 3,s,.rows 11 [[.str p.name,.int .i64 p.line,.int .i64 p.params,.bool p.vararg,.int .i64 p.regs,.sl (cpN 3) a 0 p.code.length,.isl L,.isl K,.sl (cpN 28) d 0 p.protos.length,.isl u,.isl E]]),(cpN 28,d,.rows 11 w),(cpN 3,a,.rows 5 C),(ddN 2,1,.rows 11 [[.str [],.int .i64 0,.int .i64 0,.bool false,.int .i64 0,.nils,.nils,.nils,.nils,.nils,.nils]]),(ddN 1,0,.rows 11 [[.str p.name,.int .i64 p.line,.int .i64 p.params,.bool p.vararg,.int .i64 p.regs,.isl C,.isl L,.isl K,.isl w,.isl u,.isl E]])],n1⟩)
    (fun k=>k≤p.code.length) (fun k=>p.code.length-k) 0 ze (Nat.zero_le _) ?_
   intro k hk g
   refine Run.unf A0J (Run.go 100 ?_)
   by_cases c:(k:Int)<p.code.length
   ·have J:((0:Int)≤(k:Int))=True:=Ji
    have M:(k<p.code.length)=True:=Ji
    have l:((k+1:Nat):Int)=(k:Int)+1:=by omega
    have Y:=D1b B p.code.length k
    have O:=D3O B p.code.length k
    have hNa:=D3N (B:=B) (n:=p.code.length) (k:=k) zd
    have hNs:=D1c (B:=B) (n:=p.code.length) (k:=k)
    have fin:=fun s'=>g s' (k+1) zd zd
    simp -implicitDefEqProofs only [go_sem,c,J,M,Y,O,hNa,hNs,Option.some.injEq,forall_eq',List.drop_one,List.tail_cons]
    exact⟨⟨by omega,by omega⟩,fin _ zD⟩
   ·obtain rfl:k=p.code.length:=by omega
    rw [D1a]
    have hGs:(U6 (fun k=> !B k) p.code.length).map (fun r=>r.map (V.sub C7))=U6 (fun k=> !B k) p.code.length:=by
     exact Kl
    have S:(U6 (fun k=> !B k) p.code.length).length=p.code.length:=by simp [U6]
    generalize U6 (fun k=> !B k) p.code.length=GR at*
    refine QO ?_
    refine A0.pre (xs':= [.agg [.str p.name,.int .i64 p.line,.int .i64 p.params,.bool p.vararg,.int .i64 p.regs,.isl C,.isl L,.isl K,.isl w,.isl u,.isl E],.isl GR])
     (.freeze (b:=(52*10000+11)) (st:=st) (sz:=1) (rs:=GR) (List.mem_of_getElem? (i:=0) rfl) ⟨Frz.all S.symm,.of (.refl _),trivial⟩ (.at 1 rfl zh (.of (.refl _)) (.at 4 rfl zh (.of (.refl _)) (.at 5 rfl zh (.of (.refl _)) (show A4E _ _ _ _ [] from trivial))))) rfl ?_
    refine A0.at [] [0,1,2] (I _) rfl rfl ?_
    exact YS
 ·intro d m
  show Run _ _ _
  have hEr:(C0 G2 p).row= [.str p.name,.int .i64 p.line,.int .i64 p.params,.bool p.vararg,.int .i64 p.regs,.isl ((C0 G2 p).code.map Ins.row),.isl ((C0 G2 p).lines.map D1),.isl K,.isl (p.protos.map fun q=>(C0 G2 q).row),.isl u,.isl ((C0 G2 p).vars.map Vr.row)]:=by
   rw [Fn.row_eq,←hKR,←T,e];dsimp only;split<;>simp [G2,E6]
  have hEs:=Fn.row_sub C7 (C0 G2 p)
  generalize (C0 G2 p).code.map Ins.row=C2 at*
  generalize (C0 G2 p).lines.map D1=L2 at*
  generalize (C0 G2 p).vars.map Vr.row=V2 at*
  refine Run.rounds (fun(k:Nat)=>⟨[(6,.int .i64 k),(3,.ptr (ddN 3) s 0 0),(2,.ptr (ddN 2) 1 0 0),(1,.ptr (ddN 1) 0 0 0)],
   [(ddN 3,s,.rows 11 [[.str p.name,.int .i64 p.line,.int .i64 p.params,.bool p.vararg,.int .i64 p.regs,.isl C2,.isl L2,.isl K,.sl (cpN 28) d 0 p.protos.length,.isl u,.isl V2]]),(cpN 28,d,.rows 11 (tuP (C0 G2) p.protos k)),(ddN 2,1,.rows 11 [[.str [],.int .i64 0,.int .i64 0,.bool false,.int .i64 0,.nils,.nils,.nils,.nils,.nils,.nils]]),(ddN 1,0,.rows 11 [[.str p.name,.int .i64 p.line,.int .i64 p.params,.bool p.vararg,.int .i64 p.regs,.isl C,.isl L,.isl K,.isl w,.isl u,.isl E]])],m⟩)
   (fun k=>k≤p.protos.length) (fun k=>p.protos.length-k) 0 QK (Nat.zero_le _) ?_
  intro k hk g
  refine Run.unf T8 (Run.go 100 ?_)
  by_cases c:(k:Int)<p.protos.length
  ·obtain⟨q,o⟩: ∃q,p.protos[k]? =some q:=⟨p.protos[k]' zd,by simp⟩
   have G:=hrP k q o
   have hqp:=ih q (List.mem_of_getElem? o)
   have hqs:=Fn.row_sub C7 q
   obtain⟨q1,q2⟩:=B4 q
   obtain⟨o1,o2⟩:=B4 (C0 G2 q)
   have J:((0:Int)≤(k:Int))=True:=Ji
   have M:(k<p.protos.length)=True:=Ji
   have l:((k+1:Nat):Int)=(k:Int)+1:=by omega
   have hTl:=C0v (C0 G2) p.protos k
   have hTz:=C4B (C0 G2) p.protos k
   have fin:=fun s'=>g s' (k+1) zd zd
   have hTa:=C4A (f:=C0 G2) o
   have q3:q.row.drop 11= []:=List.drop_of_length_le zd
   rw [B7o o]at fin
   generalize q.row=qr at*
   generalize (C0 G2 q).row=out at*
   simp -implicitDefEqProofs only [go_sem,c,J,M,v,H,G,q1,q2,Nat.reduceDiv,Option.some.injEq,forall_eq']
   refine⟨?_,?_⟩<;>refine A0.pureF hqp Qv ?_<;>simp -implicitDefEqProofs only [go_sem,c,J,M,hTl,hTz,hTa,o1,o2,q1,q2,q3,List.append_nil,v,H,G,Nat.reduceDiv,Option.some.injEq,forall_eq']
   all_goals exact⟨⟨by omega,by omega⟩,fin _ zD⟩
  ·obtain rfl:k=p.protos.length:=by omega
   rw [C0u]
   simp -implicitDefEqProofs only [go_sem,c,v]
   subst hQ
   refine Z2.to (r2:= .agg (C0 G2 p).row) (h2:= []) (n2:=m) ?_ ?_
   ·generalize (C0 G2 p).row=ER at*
    refine QL ?_
    exact hEs
   ·exact YL
end
end Go.Proofs.YtcaaenddpjepiaaGreatDoor
