/-
 The reference's Depth, limits, and what an instruction refers to. No condition.
-/
import Derived.Test.YtcaaenddpjepiaaGreatDoorFnMb
import Derived.Test.YtcaaenddpjepiaaGreatDoorFnMa
set_option linter.unusedVariables false
set_option linter.unusedSimpArgs false
set_option maxRecDepth 100000
set_option maxHeartbeats 0
namespace Go.Proofs.YtcaaenddpjepiaaGreatDoor
open Go.Abs
attribute [local irreducible] A0 Run V5
def M8:List Fn→List Fn
 | []=> []
 |p::r=>p.protos++M8 r
theorem A8l: ∀(l m:List Fn),M8 (l++m)=M8 l++M8 m
 | [],m=>rfl
 |p::r,m=>by rw [List.cons_append,M8,M8,A8l r m,List.append_assoc]
theorem C3I{l:List Fn}{k:Nat}{q:Fn}(h:l[k]? =some q):M8 (l.take (k+1))=M8 (l.take k)++q.protos:=by
 rw [List.take_add_one,h,A8l];simp [M8]
theorem B8u: ∀l:List Fn,(Fn.eachs (M8 l)).length+l.length=(Fn.eachs l).length
 | []=>rfl
 |p::r=>by
  have:=B8u r
  rw [M8,Fn.eachs_append,Fn.eachs,Fn.each_eq]
  simp only [List.length_append,List.length_cons]
  omega
theorem B5S: ∀(l m:List Fn),Fn.depths (l++m)=max (Fn.depths l) (Fn.depths m)
 | [],m=>by simp [Fn.depths]
 |p::r,m=>by rw [List.cons_append,Fn.depths,Fn.depths,B5S r m,Nat.max_assoc]
theorem B4o: ∀l:List Fn,Fn.depths (M8 l)=Fn.depths l-1
 | []=>rfl
 |p::r=>by
  rw [M8,B5S,B4o r,Fn.depths,Fn.depth_eq]
  omega
theorem C3j{l:List Fn}(h:l≠ []):0<Fn.depths l:=by
 cases l with
 |nil=>exact absurd rfl h
 |cons p r=>rw [Fn.depths,Fn.depth_eq];omega
theorem C6H{p:Fn}{l:List Fn}(h: ∀q∈l,q∈p.each): ∀q∈M8 l,q∈p.each:=by
 induction l with
 |nil=>intro q b;cases b
 |cons a r i=>
  intro q b
  rw [M8]at b
  rcases List.mem_append.1 b with b|b
  ·exact Fn.child_mem (h a List.mem_cons_self) b
  ·exact i (fun x c=>h x (List.mem_cons_of_mem _ c)) q b
theorem C1X(p:Fn)(hp:p.bd)(hc:p.each.length≤1000000):Pure Tryz.prog 90 [.agg p.row] (.int .i64 (min p.depth 65:Nat)):=by
 obtain⟨h1,h2⟩:=B4 p
 refine Pure.of 0 (A0.enter A1Y Jk (Run.go 100 ?_))
 have B: [p.row]= [p].map Fn.row:=rfl
 generalize T:p.row=pr at*
 refine QV ?_
 rw [B]
 refine Run.roundsK (fun(x:List Fn×Nat×Nat×Nat)=>⟨[(4,.int .i64 x.2.1),(3,.sl (90*10000+3) x.2.2.1 0 x.1.length)],
   [((90*10000+3),x.2.2.1,.rows 11 (x.1.map Fn.row))],x.2.2.2⟩)
  (fun x=>x.2.1≤65∧x.2.1+Fn.depths x.1=p.depth∧(∀q∈x.1,q∈p.each)∧(Fn.eachs x.1).length≤p.each.length) (fun x=>65-x.2.1) ([p],0,1,2) ?_ ⟨Nat.zero_le _,by simp [Fn.depths],fun q y=>by rw [List.mem_singleton.1 y];exact p.self_mem,by simp [Fn.eachs]⟩ ?_
 ·exact .turn (fun b=>if b=(90*10000+8)then(90*10000+3)else b) ⟨.refl _,.sl,trivial⟩ (.at 0 rfl rfl (.refl _) trivial)
 rintro⟨l,c,Q,n⟩ ⟨r,G,d,v⟩ P
 simp only at r G d v P⊢
 have A:(l.map Fn.row).length=l.length:=List.length_map ..
 have hll:=Fn.eachs_len l
 have hkl:=B8u l
 have Z:=Fn.eachs_len (M8 l)
 have hdk:=B4o l
 have K:=C6H d
 refine Run.unf y0 (Run.go 100 ?_)
 by_cases w:l= []
 ·have U:Fn.depths l=0:=by rw [w];rfl
  have z:((0:Int)<(l.length:Int))=False:=eq_false (by rw [w];simp)
  have e:min p.depth 65=c:=by omega
  simp -implicitDefEqProofs only [go_sem,z,e]
 have hdp:=C3j w
 have hlp:0<l.length:=List.length_pos_iff.2 w
 have z:((0:Int)<(l.length:Int))=True:=Ji
 by_cases S:c≤64
 case neg=>
  have D:((c:Int)≤64)=False:=Jj
  have e:min p.depth 65=c:=by omega
  simp -implicitDefEqProofs only [go_sem,z,D,e]
 have D:((c:Int)≤64)=True:=Ji
 have E:=eq_true (B3 Fn.row 11 Fn.row_len l)
 have j: ∀(k:Nat) q,l[k]? =some q→(l.map Fn.row)[k]? =some q.row:=fun k q H=>by rw [List.getElem?_map,H];rfl
 generalize l.map Fn.row=es at*
 simp -implicitDefEqProofs only [go_sem,z,D]
 refine Run.roundsK (fun(x:Nat×Nat×Nat)=>⟨[(6,.int .i64 x.1),(5,.sl (90*10000+28) x.2.1 0 (M8 (l.take x.1)).length),(4,.int .i64 c),(3,.sl (90*10000+3) Q 0 l.length)],[((90*10000+28),x.2.1,.rows 11 ((M8 (l.take x.1)).map Fn.row)),((90*10000+3),Q,.rows 11 es)],x.2.2⟩) (fun x=>x.1≤l.length) (fun x=>l.length-x.1) (0,n,n+1) ?_ (Nat.zero_le _) ?_
 ·refine .trans (.fresh (90*10000+28) 11 _ _ _) (.turn id ⟨.refl _,.nils,.refl _,.refl _,trivial⟩ (.at 0 rfl rfl (.refl _) (.at 1 rfl rfl (.refl _) trivial)))
 rintro⟨k,s2,m⟩ H i
 simp only at H i⊢
 refine Run.unf R6 (Run.go 100 ?_)
 by_cases u:k<l.length
 ·have z0:((k:Int)<(l.length:Int))=True:=Ji
  have W:((0:Int)≤(k:Int))=True:=Ji
  obtain⟨q,y⟩: ∃q,l[k]? =some q:=⟨l[k],by simp [u]⟩
  have J:=j k q y
  have f:=C3I y
  have R:(M8 (l.take k)).length+q.protos.length≤1000000:=by
   have Y:M8 l=M8 (l.take k)++(q.protos++M8 (l.drop (k+1))):=by
    rw [←List.append_assoc,←f,←A8l,List.take_append_drop]
   have a2:=congrArg List.length Y
   simp only [List.length_append]at a2
   omega
  obtain⟨V,g2⟩:=B4 q
  have X:q.row[8]? =some (.isl (q.protos.map Fn.row)):=by rw [q.row_eq];rfl
  have O:(q.protos.map Fn.row).length=q.protos.length:=List.length_map ..
  have F:((M8 (l.take k)).map Fn.row).length=(M8 (l.take k)).length:=List.length_map ..
  have o:((M8 (l.take k)).map Fn.row).take (M8 (l.take k)).length=(M8 (l.take k)).map Fn.row:=List.take_of_length_le zd
  have L:=eq_true (B3 Fn.row 11 Fn.row_len q.protos)
  have I:((k+1:Nat):Int)=(k:Int)+1:=by omega
  have t:(M8 (l.take (k+1))).map Fn.row=(M8 (l.take k)).map Fn.row++q.protos.map Fn.row:=by rw [f,List.map_append]
  have C:(M8 (l.take (k+1))).length=(M8 (l.take k)).length+q.protos.length:=by rw [f,List.length_append]
  have N:((M8 (l.take k)).length+q.protos.length≤137438953472)=True:=Ji
  have g:=fun s (a b:Nat) h=>i s (k+1,a,b) zg zg h
  clear i P
  simp only [t,C]at g
  generalize (M8 (l.take k)).map Fn.row=os at*
  generalize (M8 (l.take k)).length=ol at*
  generalize q.protos.map Fn.row=qs at*
  generalize q.row=qr at*
  simp -implicitDefEqProofs only [go_sem,z0,W,A,E,J,V,g2,X,O,F,o,N,Option.some.injEq,forall_eq']
  exact⟨u,of_eq_true L,by omega,g _ m (m+1) (C1.wk zR)⟩
 ·have e:k=l.length:=by omega
  subst e
  rw [List.take_length]
  refine QN ?_
  have M:((c+1:Nat):Int)=(c:Int)+1:=by omega
  refine⟨by omega,P _ (M8 l,c+1,s2,m) ⟨by simp only;omega,by simp only;omega,K,by simp only;omega⟩ zg ?_⟩
  simp only [M]
  exact .turn (fun b=>if b=(90*10000+28)then(90*10000+3)else b) ⟨.refl _,.sl,trivial⟩ (.at 0 rfl rfl (.refl _) trivial)
theorem D0S{C:Prop} [Decidable C]:((if C then(0:Int)else 3)≠0)= ¬C:=propext ⟨fun h b=>h (if_pos b),fun h a=>by rw [if_neg h]at a;exact absurd a zh⟩
theorem C0g(p:Fn)(hp:p.bd):Pure Tryz.prog 113 [.agg p.row] (.bool (decide (A3Q p≠0))):=by
 obtain⟨t,s⟩:=B4 p
 have U:=hp.self
 have hiz:=U.code
 have hlz:=U.lines
 have hcz:=U.consts
 have hpz:=U.protos
 have huz:=U.ups
 have hvz:=U.vars
 have D:p.row[0]? =some (.str p.name):=by rw [Fn.row_eq];rfl
 have G:p.row[1]? =some (.int .i64 p.line):=by rw [Fn.row_eq];rfl
 have M:p.row[2]? =some (.int .i64 p.params):=by rw [Fn.row_eq];rfl
 have E:p.row[3]? =some (.bool p.vararg):=by rw [Fn.row_eq];rfl
 have J:p.row[4]? =some (.int .i64 p.regs):=by rw [Fn.row_eq];rfl
 have F:p.row[5]? =some (.isl (p.code.map Ins.row)):=by rw [Fn.row_eq];rfl
 have K:p.row[6]? =some (.isl (p.lines.map D1)):=by rw [Fn.row_eq];rfl
 have L:p.row[7]? =some (.isl (p.consts.map Kst.row)):=by rw [Fn.row_eq];rfl
 have H:p.row[8]? =some (.isl (p.protos.map Fn.row)):=by rw [Fn.row_eq];rfl
 have r:p.row[9]? =some (.isl (p.ups.map Upv.row)):=by rw [Fn.row_eq];rfl
 have l:p.row[10]? =some (.isl (p.vars.map Vr.row)):=by rw [Fn.row_eq];rfl
 have j:(p.code.map Ins.row).length=p.code.length:=List.length_map ..
 have z_code:=eq_true (B3 Ins.row 5 (fun _=>rfl) p.code)
 have r_code: ∀(k:Nat) x,p.code[k]? =some x→(p.code.map Ins.row)[k]? =some (Ins.row x):=fun k x n=>by rw [List.getElem?_map,n];rfl
 have g:(p.lines.map D1).length=p.lines.length:=List.length_map ..
 have z_lines:=eq_true (B3 D1 1 (fun _=>rfl) p.lines)
 have Z: ∀(k:Nat) x,p.lines[k]? =some x→(p.lines.map D1)[k]? =some (D1 x):=fun k x n=>by rw [List.getElem?_map,n];rfl
 have a:(p.consts.map Kst.row).length=p.consts.length:=List.length_map ..
 have Y:=eq_true (B3 Kst.row 5 (fun _=>rfl) p.consts)
 have X: ∀(k:Nat) x,p.consts[k]? =some x→(p.consts.map Kst.row)[k]? =some (Kst.row x):=fun k x n=>by rw [List.getElem?_map,n];rfl
 have b:(p.protos.map Fn.row).length=p.protos.length:=List.length_map ..
 have T:=eq_true (B3 Fn.row 11 Fn.row_len p.protos)
 have V: ∀(k:Nat) x,p.protos[k]? =some x→(p.protos.map Fn.row)[k]? =some (Fn.row x):=fun k x n=>by rw [List.getElem?_map,n];rfl
 have i:(p.ups.map Upv.row).length=p.ups.length:=List.length_map ..
 have u:=eq_true (B3 Upv.row 3 (fun _=>rfl) p.ups)
 have N: ∀(k:Nat) x,p.ups[k]? =some x→(p.ups.map Upv.row)[k]? =some (Upv.row x):=fun k x n=>by rw [List.getElem?_map,n];rfl
 have d:(p.vars.map Vr.row).length=p.vars.length:=List.length_map ..
 have q:=eq_true (B3 Vr.row 5 (fun _=>rfl) p.vars)
 have C: ∀(k:Nat) x,p.vars[k]? =some x→(p.vars.map Vr.row)[k]? =some (Vr.row x):=fun k x n=>by rw [List.getElem?_map,n];rfl
 generalize w:decide (A3Q p≠0)=z
 simp only [A3Q,D0S]at w
 generalize p.code.map Ins.row=rcode at*
 generalize p.lines.map D1=rlines at*
 generalize p.consts.map Kst.row=rconsts at*
 generalize p.protos.map Fn.row=rprotos at*
 generalize p.ups.map Upv.row=rups at*
 generalize p.vars.map Vr.row=rvars at*
 generalize p.row=pr at*
 refine Pure.of 0 (A0.enter A1f Jk (Run.go 100 ?_))
 by_cases l0:p.code.length≤16384
 case neg=>
  obtain rfl:z=true:=w ▸ decide_eq_true (fun h=>l0 h.1)
  have A:((16384:Int)<(p.code.length:Int))=True:=Ji
  simp -implicitDefEqProofs only [go_sem,A4,t,s,D,G,M,E,J,F,K,L,H,r,l,j,g,a,b,i,d,A]
 have A:((16384:Int)<(p.code.length:Int))=False:=Jj
 by_cases l1:p.consts.length≤4096
 case neg=>
  obtain rfl:z=true:=w ▸ decide_eq_true (fun h=>l1 h.2.1)
  have I:((4096:Int)<(p.consts.length:Int))=True:=Ji
  simp -implicitDefEqProofs only [go_sem,A4,t,s,D,G,M,E,J,F,K,L,H,r,l,j,g,a,b,i,d,A,I]
 have I:((4096:Int)<(p.consts.length:Int))=False:=Jj
 by_cases l2:p.protos.length≤1024
 case neg=>
  obtain rfl:z=true:=w ▸ decide_eq_true (fun h=>l2 h.2.2.1)
  have S:((1024:Int)<(p.protos.length:Int))=True:=Ji
  simp -implicitDefEqProofs only [go_sem,A4,t,s,D,G,M,E,J,F,K,L,H,r,l,j,g,a,b,i,d,A,I,S]
 have S:((1024:Int)<(p.protos.length:Int))=False:=Jj
 by_cases l3:p.ups.length≤60
 case neg=>
  obtain rfl:z=true:=w ▸ decide_eq_true (fun h=>l3 h.2.2.2.1)
  have W:((60:Int)<(p.ups.length:Int))=True:=Ji
  simp -implicitDefEqProofs only [go_sem,A4,t,s,D,G,M,E,J,F,K,L,H,r,l,j,g,a,b,i,d,A,I,S,W]
 have W:((60:Int)<(p.ups.length:Int))=False:=Jj
 by_cases l4:p.vars.length≤16384
 case neg=>
  obtain rfl:z=true:=w ▸ decide_eq_true (fun h=>l4 h.2.2.2.2.1)
  have z4:((16384:Int)<(p.vars.length:Int))=True:=Ji
  simp -implicitDefEqProofs only [go_sem,A4,t,s,D,G,M,E,J,F,K,L,H,r,l,j,g,a,b,i,d,A,I,S,W,z4]
 have z4:((16384:Int)<(p.vars.length:Int))=False:=Jj
 by_cases l5:p.regs≤4096
 case neg=>
  obtain rfl:z=true:=w ▸ decide_eq_true (fun h=>l5 h.2.2.2.2.2.1)
  have z5:((4096:Int)<p.regs)=True:=Ji
  simp -implicitDefEqProofs only [go_sem,A4,t,s,D,G,M,E,J,F,K,L,H,r,l,j,g,a,b,i,d,A,I,S,W,z4,z5]
 have z5:((4096:Int)<p.regs)=False:=Jj
 by_cases l6:p.name.length≤4096
 case neg=>
  obtain rfl:z=true:=w ▸ decide_eq_true (fun h=>l6 h.2.2.2.2.2.2.1)
  have z6:((4096:Int)<(p.name.length:Int))=True:=Ji
  simp -implicitDefEqProofs only [go_sem,A4,t,s,D,G,M,E,J,F,K,L,H,r,l,j,g,a,b,i,d,A,I,S,W,z4,z5,z6]
 have z6:((4096:Int)<(p.name.length:Int))=False:=Jj
 simp -implicitDefEqProofs only [go_sem,A4,t,s,D,G,M,E,J,F,K,L,H,r,l,j,g,a,b,i,d,A,I,S,W,z4,z5,z6]
 refine Run.keep [3,1] ?_
 refine Run.rounds (fun(x:Nat)=>⟨[(3,.int .i64 x),(1,.ptr (113*10000+1) 0 0 0)],[((113*10000+1),0,.rows 11 [pr])],1⟩) (fun x=>x≤p.vars.length∧(p.vars.take x).any (fun v=>decide (40<v.name.length))=false) (fun x=>p.vars.length-x) 0 ze ⟨Nat.zero_le _,rfl⟩ ?_
 rintro k ⟨n,o⟩ ih
 refine Run.unf p7 (Run.go 100 ?_)
 by_cases m:k<p.vars.length
 ·have q0:((k:Int)<(p.vars.length:Int))=True:=Ji
  have q1:((0:Int)≤(k:Int))=True:=Ji
  obtain⟨x,R⟩: ∃x,p.vars[k]? =some x:=⟨p.vars[k],by simp [m]⟩
  have y:=C k x R
  have O:((k+1:Nat):Int)=(k:Int)+1:=by omega
  by_cases c:40<x.name.length
  ·obtain rfl:z=true:=w ▸ decide_eq_true (fun h=>by simp [K4 (f:=fun v=>decide (40<v.name.length)) R (decide_eq_true c)]at h)
   have P:((40:Int)<(x.name.length:Int))=True:=Ji
   simp -implicitDefEqProofs only [go_sem,q0,q1,t,s,r,l,d,q,y,Vr.row,P,m,Option.some.injEq,forall_eq']
  ·have P:((40:Int)<(x.name.length:Int))=False:=Jj
   simp -implicitDefEqProofs only [go_sem,q0,q1,t,s,r,l,d,q,y,Vr.row,P,m,Option.some.injEq,forall_eq']
   exact YM
 have e:k=p.vars.length:=by omega
 subst e
 have B:=I4 o
 clear ih o m n
 simp -implicitDefEqProofs only [go_sem,Int.lt_irrefl,t,s,r,l,d]
 refine Run.keep [4,1] ?_
 refine Run.rounds (fun(x:Nat)=>⟨[(4,.int .i64 x),(1,.ptr (113*10000+1) 0 0 0)],[((113*10000+1),0,.rows 11 [pr])],1⟩) (fun x=>x≤p.ups.length∧(p.ups.take x).any (fun v=>decide (40<v.name.length))=false) (fun x=>p.ups.length-x) 0 ze ⟨Nat.zero_le _,rfl⟩ ?_
 rintro k ⟨n,o⟩ ih
 refine Run.unf P0 (Run.go 100 ?_)
 by_cases m:k<p.ups.length
 ·have q0:((k:Int)<(p.ups.length:Int))=True:=Ji
  have q1:((0:Int)≤(k:Int))=True:=Ji
  obtain⟨x,R⟩: ∃x,p.ups[k]? =some x:=⟨p.ups[k],by simp [m]⟩
  have y:=N k x R
  have O:((k+1:Nat):Int)=(k:Int)+1:=by omega
  by_cases c:40<x.name.length
  ·obtain rfl:z=true:=w ▸ decide_eq_true (fun h=>by simp [K4 (f:=fun v=>decide (40<v.name.length)) R (decide_eq_true c)]at h)
   have P:((40:Int)<(x.name.length:Int))=True:=Ji
   simp -implicitDefEqProofs only [go_sem,q0,q1,t,s,r,l,i,u,y,Upv.row,P,m,Option.some.injEq,forall_eq']
  ·have P:((40:Int)<(x.name.length:Int))=False:=Jj
   simp -implicitDefEqProofs only [go_sem,q0,q1,t,s,r,l,i,u,y,Upv.row,P,m,Option.some.injEq,forall_eq']
   exact YM
 have e:k=p.ups.length:=by omega
 subst e
 have Q:=I4 o
 clear ih o m n
 obtain rfl:z=false:=w ▸ decide_eq_false (fun h=>h ⟨l0,l1,l2,l3,l4,l5,l6,Q,B⟩)
 simp -implicitDefEqProofs only [go_sem,Int.lt_irrefl,t,s,r,l,i]
theorem C8g{i:Ins}(h:chk i=0):(i.op=2→0≤i.b)∧(i.op=7→0≤i.b)∧(i.op=8→0≤i.a)∧(i.op=11→0≤i.c):=by
 unfold chk at h
 cases ho:u6 i.op with
 |false=>rw [ho]at h;simp at h
 |true=>
  obtain⟨o,a,b,c,d⟩:=i
  simp only at h ho⊢
  refine⟨?_,?_,?_,?_⟩<;>rintro rfl<;>simp [frm,B3E,C1h,u6,A5a,A4j,low,high,C1y,B4u,A9k,mm2]at h<;>omega
theorem B4H(l:List Int)(B:l.length≤1000000)(b a:Int):Pure Tryz.prog 158 [.isl (l.map zrw),.int .i64 b,.int .i64 a] (.bool (V0 a (l,b))):=by
 have i: ∀(k:Nat) (x:Int),l[k]? =some x→(l.map zrw)[k]? =some [.int .i64 x]:=fun k x h=>P9 h
 have d:(l.map zrw).length=l.length:=List.length_map ..
 have n:=B3Y l
 generalize p:V0 a (l,b)=z
 simp only [V0]at p
 generalize l.map zrw=v at*
 refine Pure.of 0 (A0.enter A1Z Jk (Run.go 100 ?_))
 refine QM ?_
 refine Run.keep [7,2,1,0] ?_
 refine Run.rounds (fun(x:Nat)=>⟨[(7,.int .i64 x),(2,.int .i64 a),(1,.int .i64 b),(0,.isl v)],[],0⟩) (fun x=>x≤l.length∧(l.take x).any (fun r=>decide (a≤r))=false) (fun x=>l.length-x) 0 ze ⟨Nat.zero_le _,rfl⟩ ?_
 rintro k ⟨A,o⟩ y
 refine Run.unf A0a (Run.go 100 ?_)
 by_cases g:k<l.length
 ·have t:((k:Int)<(l.length:Int))=True:=Ji
  have u:((0:Int)≤(k:Int))=True:=Ji
  obtain⟨x,s⟩: ∃x,l[k]? =some x:=⟨l[k],by simp [g]⟩
  have j:=i k x s
  have q:((k+1:Nat):Int)=(k:Int)+1:=by omega
  by_cases c:a≤x
  ·have w:l.any (fun r=>decide (a≤r))=true:=K4 (f:=fun r=>decide (a≤r)) s (decide_eq_true c)
   obtain rfl:z=false:=p ▸ (by rw [w];simp)
   simp -implicitDefEqProofs only [go_sem,t,u,d,n,j,c,g,ge_iff_le,Option.some.injEq,forall_eq']
  ·simp -implicitDefEqProofs only [go_sem,t,u,d,n,j,c,g,ge_iff_le,Option.some.injEq,forall_eq']
   refine⟨by omega,?_⟩
   exact y _ (k+1) ⟨by omega,E8 o s (decide_eq_false c)⟩ zd (by simp -implicitDefEqProofs only [go_sem,q])
 have e:k=l.length:=by omega
 subst e
 have m:=I4 o
 rw [m]at p
 simp -implicitDefEqProofs only [go_sem,Int.lt_irrefl,d]
 rw [←p];simp
theorem C4k(p:Fn)(S:p.bd)(k:Int)(N:0≤k):Pure Tryz.prog 180 [.agg p.row,.int .i64 k] (.bool (decide (k<p.consts.length)&&A8m p.consts[k.toNat]?)):=by
 obtain⟨I,H⟩:=B4 p
 have d:=S.self
 have R:=d.code
 have L:=d.lines
 have M:=d.consts
 have K:=d.protos
 have O:=d.ups
 have Q:=d.vars
 have T:p.row[0]? =some (.str p.name):=by rw [Fn.row_eq];rfl
 have W:p.row[1]? =some (.int .i64 p.line):=by rw [Fn.row_eq];rfl
 have g2:p.row[2]? =some (.int .i64 p.params):=by rw [Fn.row_eq];rfl
 have U:p.row[3]? =some (.bool p.vararg):=by rw [Fn.row_eq];rfl
 have Y:p.row[4]? =some (.int .i64 p.regs):=by rw [Fn.row_eq];rfl
 have V:p.row[5]? =some (.isl (p.code.map Ins.row)):=by rw [Fn.row_eq];rfl
 have g6:p.row[6]? =some (.isl (p.lines.map D1)):=by rw [Fn.row_eq];rfl
 have J:p.row[7]? =some (.isl (p.consts.map Kst.row)):=by rw [Fn.row_eq];rfl
 have X:p.row[8]? =some (.isl (p.protos.map Fn.row)):=by rw [Fn.row_eq];rfl
 have Z:p.row[9]? =some (.isl (p.ups.map Upv.row)):=by rw [Fn.row_eq];rfl
 have P:p.row[10]? =some (.isl (p.vars.map Vr.row)):=by rw [Fn.row_eq];rfl
 have s:(p.code.map Ins.row).length=p.code.length:=List.length_map ..
 have q:=eq_true (B3 Ins.row 5 (fun _=>rfl) p.code)
 have u: ∀(k:Nat) x,p.code[k]? =some x→(p.code.map Ins.row)[k]? =some (Ins.row x):=fun k x h=>by rw [List.getElem?_map,h];rfl
 have n:(p.lines.map D1).length=p.lines.length:=List.length_map ..
 have l:=eq_true (B3 D1 1 (fun _=>rfl) p.lines)
 have i: ∀(k:Nat) x,p.lines[k]? =some x→(p.lines.map D1)[k]? =some (D1 x):=fun k x h=>by rw [List.getElem?_map,h];rfl
 have a:(p.consts.map Kst.row).length=p.consts.length:=List.length_map ..
 have z:=eq_true (B3 Kst.row 5 (fun _=>rfl) p.consts)
 have r: ∀(k:Nat) x,p.consts[k]? =some x→(p.consts.map Kst.row)[k]? =some (Kst.row x):=fun k x h=>by rw [List.getElem?_map,h];rfl
 have g:(p.protos.map Fn.row).length=p.protos.length:=List.length_map ..
 have b:=eq_true (B3 Fn.row 11 Fn.row_len p.protos)
 have f: ∀(k:Nat) x,p.protos[k]? =some x→(p.protos.map Fn.row)[k]? =some (Fn.row x):=fun k x h=>by rw [List.getElem?_map,h];rfl
 have B:(p.ups.map Upv.row).length=p.ups.length:=List.length_map ..
 have y:=eq_true (B3 Upv.row 3 (fun _=>rfl) p.ups)
 have C: ∀(k:Nat) x,p.ups[k]? =some x→(p.ups.map Upv.row)[k]? =some (Upv.row x):=fun k x h=>by rw [List.getElem?_map,h];rfl
 have v:(p.vars.map Vr.row).length=p.vars.length:=List.length_map ..
 have o:=eq_true (B3 Vr.row 5 (fun _=>rfl) p.vars)
 have t: ∀(k:Nat) x,p.vars[k]? =some x→(p.vars.map Vr.row)[k]? =some (Vr.row x):=fun k x h=>by rw [List.getElem?_map,h];rfl
 generalize p.code.map Ins.row=D at*
 generalize p.lines.map D1=w at*
 generalize p.consts.map Kst.row=j at*
 generalize p.protos.map Fn.row=m at*
 generalize p.ups.map Upv.row=F at*
 generalize p.vars.map Vr.row=A at*
 generalize p.row=pr at*
 refine Pure.of 0 (A0.enter A2U Jk (Run.go 100 ?_))
 by_cases c:k<(p.consts.length:Int)
 ·obtain⟨x,G⟩: ∃x,p.consts[k.toNat]? =some x:=⟨p.consts[k.toNat]' zd,by simp⟩
  have E:=r _ x G
  have e:(decide (k<(p.consts.length:Int))&&A8m p.consts[k.toNat]?)=decide (x.kind=3):=by rw [G,decide_eq_true c];rfl
  rw [e]
  simp -implicitDefEqProofs only [go_sem,A4,I,H,J,a,z,E,Kst.row,c,N,Option.some.injEq,forall_eq']
  omega
 ·have e:(decide (k<(p.consts.length:Int))&&A8m p.consts[k.toNat]?)=false:=by rw [decide_eq_false c];rfl
  rw [e]
  simp -implicitDefEqProofs only [go_sem,A4,I,H,J,a,c]
theorem B7F{p:Fn}{i:Ins}(h:(G7 i).2=true)(d:0≤(G7 i).1)(a: ¬(i.op=5∨i.op=6∨i.op=22∨i.op=19)):Z8 p i=(decide ((G7 i).1<p.consts.length)&&A8m p.consts[(G7 i).1.toNat]?):=by
 unfold Z8
 have b: ¬i.op=5:=fun h=>a (.inl h)
 have e: ¬i.op=6:=fun h=>a (.inr (.inl h))
 have f: ¬i.op=22:=fun h=>a (.inr (.inr (.inl h)))
 have g: ¬i.op=19:=fun h=>a (.inr (.inr (.inr h)))
 rw [if_neg b,if_neg e,if_neg f,if_neg g,h]
 by_cases c:(p.consts.length:Int)≤(G7 i).1
 ·rw [if_pos c,decide_eq_false zd];rfl
 ·rw [if_neg c,decide_eq_true (by omega:(G7 i).1<(p.consts.length:Int))]
  cases A8m p.consts[(G7 i).1.toNat]? <;>simp [d]
theorem C0i(p:Fn)(hp:p.bd)(i:Ins)(hc:chk i=0):Pure Tryz.prog 159 [.agg p.row,i.v] (.bool (Z8 p i)):=by
 obtain⟨c2,c7,c8,E⟩:=C8g hc
 have S:=C4k p hp
 have n:=Fn.row_sub C7 p
 obtain⟨m,l⟩:=B4 p
 have v:=hp.self
 have hiz:=v.code
 have hlz:=v.lines
 have hcz:=v.consts
 have hpz:=v.protos
 have huz:=v.ups
 have hvz:=v.vars
 have g0:p.row[0]? =some (.str p.name):=by rw [Fn.row_eq];rfl
 have g1:p.row[1]? =some (.int .i64 p.line):=by rw [Fn.row_eq];rfl
 have g2:p.row[2]? =some (.int .i64 p.params):=by rw [Fn.row_eq];rfl
 have g3:p.row[3]? =some (.bool p.vararg):=by rw [Fn.row_eq];rfl
 have g4:p.row[4]? =some (.int .i64 p.regs):=by rw [Fn.row_eq];rfl
 have g5:p.row[5]? =some (.isl (p.code.map Ins.row)):=by rw [Fn.row_eq];rfl
 have g6:p.row[6]? =some (.isl (p.lines.map D1)):=by rw [Fn.row_eq];rfl
 have g7:p.row[7]? =some (.isl (p.consts.map Kst.row)):=by rw [Fn.row_eq];rfl
 have g8:p.row[8]? =some (.isl (p.protos.map Fn.row)):=by rw [Fn.row_eq];rfl
 have g9:p.row[9]? =some (.isl (p.ups.map Upv.row)):=by rw [Fn.row_eq];rfl
 have g10:p.row[10]? =some (.isl (p.vars.map Vr.row)):=by rw [Fn.row_eq];rfl
 have K:(p.code.map Ins.row).length=p.code.length:=List.length_map ..
 have J:=eq_true (B3 Ins.row 5 (fun _=>rfl) p.code)
 have N: ∀(k:Nat) x,p.code[k]? =some x→(p.code.map Ins.row)[k]? =some (Ins.row x):=fun k x e=>by rw [List.getElem?_map,e];rfl
 have H:(p.lines.map D1).length=p.lines.length:=List.length_map ..
 have F:=eq_true (B3 D1 1 (fun _=>rfl) p.lines)
 have B: ∀(k:Nat) x,p.lines[k]? =some x→(p.lines.map D1)[k]? =some (D1 x):=fun k x e=>by rw [List.getElem?_map,e];rfl
 have f:(p.consts.map Kst.row).length=p.consts.length:=List.length_map ..
 have A:=eq_true (B3 Kst.row 5 (fun _=>rfl) p.consts)
 have y: ∀(k:Nat) x,p.consts[k]? =some x→(p.consts.map Kst.row)[k]? =some (Kst.row x):=fun k x e=>by rw [List.getElem?_map,e];rfl
 have g:(p.protos.map Fn.row).length=p.protos.length:=List.length_map ..
 have u:=eq_true (B3 Fn.row 11 Fn.row_len p.protos)
 have w: ∀(k:Nat) x,p.protos[k]? =some x→(p.protos.map Fn.row)[k]? =some (Fn.row x):=fun k x e=>by rw [List.getElem?_map,e];rfl
 have j:(p.ups.map Upv.row).length=p.ups.length:=List.length_map ..
 have Q:=eq_true (B3 Upv.row 3 (fun _=>rfl) p.ups)
 have T: ∀(k:Nat) x,p.ups[k]? =some x→(p.ups.map Upv.row)[k]? =some (Upv.row x):=fun k x e=>by rw [List.getElem?_map,e];rfl
 have O:(p.vars.map Vr.row).length=p.vars.length:=List.length_map ..
 have I:=eq_true (B3 Vr.row 5 (fun _=>rfl) p.vars)
 have M: ∀(k:Nat) x,p.vars[k]? =some x→(p.vars.map Vr.row)[k]? =some (Vr.row x):=fun k x e=>by rw [List.getElem?_map,e];rfl
 obtain⟨o,a,b,c,d⟩:=i
 have e:=fun x=>B7F (p:=p) (i:=⟨o,a,b,c,d⟩) (h:=x)
 generalize s:Z8 p ⟨o,a,b,c,d⟩=z at*
 simp only [Z8]at s
 simp only [Ins.v,Ins.row]at*
 generalize p.code.map Ins.row=W at*
 generalize p.lines.map D1=L at*
 generalize p.consts.map Kst.row=D at*
 generalize p.protos.map Fn.row=G at*
 generalize p.ups.map Upv.row=Z at*
 generalize p.vars.map Vr.row=R at*
 generalize p.row=pr at*
 refine Pure.of 0 (A0.enter A1g Jk (Run.go 100 ?_))
 by_cases P:o=2
 ·subst P
  have:=c2 rfl
  simp -implicitDefEqProofs only [go_sem,A4,m,l,g7,f]
  rw [←s]
  by_cases d:b<(p.consts.length:Int)
  ·simp [G7,d,show¬(p.consts.length:Int)≤b by omega]
  ·simp [G7,d,show (p.consts.length:Int)≤b by omega]
 by_cases Y:o=5
 ·subst Y
  simp -implicitDefEqProofs only [go_sem,A4,m,l,g9,j]
  exact XK
 by_cases X:o=6
 ·subst X
  simp -implicitDefEqProofs only [go_sem,A4,m,l,g9,j]
  exact XK
 by_cases V:o=7
 ·subst V
  have C:=S b (c7 rfl)
  have:=e (by simp [G7]) (by simpa [G7]using c7 rfl) zf
  exact XB
 by_cases U:o=8
 ·subst U
  have C:=S a (c8 rfl)
  have:=e (by simp [G7]) (by simpa [G7]using c8 rfl) zf
  exact XB
 by_cases q:o=11
 ·subst q
  have C:=S c (E rfl)
  have:=e (by simp [G7]) (by simpa [G7]using E rfl) zf
  exact XB
 by_cases t:o=22
 ·subst t
  simp -implicitDefEqProofs only [go_sem,A4,m,l,g8,g]
  exact XK
 by_cases r:o=19
 ·subst r
  simp -implicitDefEqProofs only [go_sem,A4,m,l,g3]
  exact XK
 simp -implicitDefEqProofs only [go_sem,A4,m,l,P,Y,X,V,U,q,t,r]
 rw [←s]
 simp [G7,show¬(p.consts.length:Int)≤ -1 by omega,P,Y,X,V,U,q,t,r]
end Go.Proofs.YtcaaenddpjepiaaGreatDoor
