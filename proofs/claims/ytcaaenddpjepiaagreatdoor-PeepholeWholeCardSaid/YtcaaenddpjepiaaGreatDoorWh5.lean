/-
 What peephole.shells answers. No condition.
-/
import Derived.Test.YtcaaenddpjepiaaGreatDoorPeTR
import Derived.Test.YtcaaenddpjepiaaGreatDoorOpc3
import Derived.Test.YtcaaenddpjepiaaGreatDoorFnCk
import Derived.Test.YtcaaenddpjepiaaGreatDoorExe
import Derived.Test.YtcaaenddpjepiaaGreatDoorFnMb
import Derived.Test.YtcaaenddpjepiaaGreatDoorFlowR
set_option linter.unusedVariables false
set_option linter.unusedSimpArgs false
set_option maxRecDepth 1000000
set_option maxHeartbeats 0
namespace Go.Proofs.YtcaaenddpjepiaaGreatDoor
section
open Go.Abs
attribute [local irreducible] A0 Run
abbrev sN(k:Nat):Nat:=55*10000+k
-- EV: sN, Upv.row
attribute [local go_sem] sN Upv.row
def A0o(u:Upv):Upv:={u with name:= [],idx:=max u.idx 0}
def L8(q:Fn):Fn:=⟨[],0,0,false,0,[⟨18,0,0,0,0⟩],[],[],[],(q.ups.take 60).map A0o,[]⟩
theorem A4D.snoc{st:Nat}{f:List (List V)}{sz:Nat}{R:List (List V)}{r r2:List V}(h:B1m st f r r2):A4D st f (.rows sz (R++ [r])) (.rows sz (R++ [r2])):=
 .rows zf fun i x a=>by
  rcases Nat.lt_or_ge i R.length with b|b
  ·rw [List.getElem?_append_left b]at a
   exact⟨x,by rw [List.getElem?_append_left b];exact a,B1m.same x⟩
  ·exact Xj
theorem L1.snocL{sz:Nat}{R:List (List V)}{r r2:List V}(h:A3O r r2):L1 (.rows sz (R++ [r])) (.rows sz (R++ [r2])):=
 .rows zf fun i x a=>by
  rcases Nat.lt_or_ge i R.length with b|b
  ·rw [List.getElem?_append_left b]at a
   exact⟨x,by rw [List.getElem?_append_left b];exact a,A3O.refl x⟩
  ·exact Xj
theorem C7o(q:Fn):(L8 q).row= [.str [],.int .i64 0,.int .i64 0,.bool false,.int .i64 0,.isl [[.int .i64 18,.int .i64 0,.int .i64 0,.int .i64 0,.int .i64 0]],.isl [],.isl [],.isl [],.isl ((q.ups.take 60).map fun u=>(A0o u).row),.isl []]:=by
 rw [Fn.row_eq];simp [L8,Ins.row];rfl
theorem C2A(l:List Fn)(hl:l.length≤100000)(hu: ∀q∈l,q.ups.length≤4398046510976):Pure Tryz.prog 55 [.isl (l.map Fn.row)] (.isl ((l.map L8).map Fn.row)):=by
 have D:(l.map Fn.row).length=l.length:=List.length_map ..
 have V:C4 (l.map Fn.row) 11=True:=eq_true (fun r I=>by obtain⟨y,_,rfl⟩:=List.mem_map.1 I;exact Fn.row_len y)
 have O: ∀(k:Nat) x,l[k]? =some x→(l.map Fn.row)[k]? =some x.row:=fun k x h=>by rw [List.getElem?_map,h];rfl
 generalize l.map Fn.row=p at*
 refine Pure.of 0 (A0.enterK A5l Jk fun Q hQ=>Run.go 100 ?_)
 simp -implicitDefEqProofs only [go_sem,A4,D]
 refine Run.roundsK (fun(x:Nat×Nat×Nat)=>⟨[(11,.int .i64 x.1),(10,.int .i64 l.length),(9,.isl p),(3,.sl (sN 48) x.2.1 0 x.1)],[(sN 48,x.2.1,.rows 11 (((l.take x.1).map L8).map Fn.row))],x.2.2⟩)
  (fun x=>x.1≤l.length) (fun x=>l.length-x.1) (0,0,1) ?_ (Nat.zero_le _) ?_
 ·refine .trans (.fresh (sN 48) 11 _ _ _) (.turn id ⟨.refl _,.refl _,.refl _,.nils,trivial⟩ ?_)
  refine QU ?_
  exact .at 0 rfl rfl (.refl _) (.of fun e a=>by cases a)
 rintro⟨k,st,m⟩ hk X
 dsimp only at hk X⊢
 refine Run.unf A3k (Run.go 100 ?_)
 by_cases c:(k:Int)<l.length
 ·obtain⟨q,L⟩: ∃q,l[k]? =some q:=⟨l[k]' zd,by simp⟩
  have E:=O k q L
  have hqu:=hu q (List.mem_of_getElem? L)
  have k0:((0:Int)≤(k:Int))=True:=Ji
  have k1:(k<l.length)=True:=Ji
  rw [Fn.row_eq q]at E
  have B:(q.ups.map Upv.row).length=q.ups.length:=List.length_map ..
  have J:C4 (q.ups.map Upv.row) 3=True:=eq_true fun r I=>by obtain⟨y,_,rfl⟩:=List.mem_map.1 I;rfl
  have N: ∀(k:Nat) x,q.ups[k]? =some x→(q.ups.map Upv.row)[k]? =some x.row:=fun k x h=>by rw [List.getElem?_map,h];rfl
  have e1:l.take (k+1)=l.take k++ [q]:=by rw [List.take_add_one,L];rfl
  have fin:=fun P M m'=>X P (k+1,M,m') zk zk
  dsimp only at fin
  have e3:((l.take k++ [q]).map L8).map Fn.row=((l.take k).map L8).map Fn.row++ [(L8 q).row]:=by simp
  have C:(((l.take k).map L8).map Fn.row).length=k:=by simp;omega
  rw [e1,e3,C7o]at fin
  generalize hUR:q.ups.map Upv.row=UR at*
  generalize hRR:((l.take k).map L8).map Fn.row=R at*
  simp -implicitDefEqProofs only [go_sem,c,k0,k1,D,V,E,B,Nat.reduceDiv,Option.some.injEq,forall_eq']
  refine Run.roundsK (fun(y:Nat×Nat×Nat)=>⟨[(21,.int .i64 y.1),(20,.int .i64 q.ups.length),(19,.isl UR),(11,.int .i64 k),(10,.int .i64 l.length),(9,.isl p),(6,.ptr (sN 6) (m+1+1) 0 0),(3,.sl (sN 48) st 0 k)],
   [(sN 6,m+1+1,.rows 11 [[.str [],.int .i64 0,.int .i64 0,.bool false,.int .i64 0,.sl (sN 16) (m+1) 0 1,.nils,.nils,.nils,.sl (sN 34) y.2.1 0 y.1,.nils]]),(sN 34,y.2.1,.rows 3 ((q.ups.take y.1).map fun u=>(A0o u).row)),(sN 16,m+1,.rows 5 [[.int .i64 18,.int .i64 0,.int .i64 0,.int .i64 0,.int .i64 0]]),(sN 48,st,.rows 11 R)],y.2.2⟩)
   (fun y=>y.1≤q.ups.length) (fun y=>q.ups.length-y.1) (0,m+1+1+1,m+1+1+1+1) ?_ (Nat.zero_le _) ?_
  ·refine .trans (.fresh (sN 34) 3 _ _ _) (.turn id ⟨.refl _,.refl _,.refl _,.refl _,.refl _,.refl _,.refl _,.refl _,trivial⟩ ?_)
   refine QU ?_
   exact .at 1 rfl rfl (.row ⟨.refl _,.refl _,.refl _,.refl _,.refl _,.refl _,.refl _,.refl _,.refl _,.nils,.refl _,trivial⟩) (.at 0 rfl rfl (.refl _) (.at 2 rfl rfl (.refl _) (.at 4 rfl rfl (.refl _) (.of fun e a=>by cases a))))
  generalize m+1+1=m6 at*
  generalize m+1=f at*
  rintro⟨j,o,n⟩ hj F
  dsimp only at hj F⊢
  refine Run.unf j6 (Run.go 100 ?_)
  by_cases d:(j:Int)<q.ups.length
  ·obtain⟨u,A⟩: ∃u,q.ups[j]? =some u:=⟨q.ups[j]' zd,by simp⟩
   have G:=N j u A
   have j0:((0:Int)≤(j:Int))=True:=Ji
   have Z:(j<q.ups.length)=True:=Ji
   have Y:q.ups.take (j+1)=q.ups.take j++ [u]:=by rw [List.take_add_one,A];rfl
   have K:((q.ups.take j).map fun u=>(A0o u).row).length=j:=by simp;omega
   have g:=fun P H n'=>F P (j+1,H,n') zk zk
   dsimp only at g
   rw [Y,List.map_append,List.map_cons,List.map_nil]at g
   generalize ((q.ups.take j).map fun u=>(A0o u).row)=U at*
   have T:U.take j=U:=List.take_of_length_le zd
   have j2:(j≤U.length)=True:=Ji
   have j3:(j≤4398046511103)=True:=Ji
   simp -implicitDefEqProofs only [go_sem,d,j0,Z,j2,j3,B,J,G,K,T,Nat.reduceDiv,Option.some.injEq,forall_eq']
   have S:(if 0>u.idx then 0 else u.idx)=max u.idx 0:=by rw [Int.max_def];split<;>split<;>omega
   exact⟨⟨by omega,by omega⟩,g _ (n+1) (n+1+1) (.turn id ⟨.refl _,.refl _,.refl _,.refl _,.refl _,.refl _,.refl _,.refl _,trivial⟩ (.at 0 rfl rfl (.refl _) (.at 1 rfl rfl (.of_eq (by rw [S];rfl)) (.at 3 rfl rfl (.refl _) (.at 4 rfl rfl (.refl _) (.of fun e a=>by cases a))))))⟩
  ·obtain rfl:j=q.ups.length:=by omega
   by_cases h60:60<q.ups.length
   ·have s:(60<(q.ups.length:Int))=True:=Ji
    have v:(k≤k)=True:=eq_true (Nat.le_refl _)
    have z:(k≤733007751849)=True:=Ji
    have t:((60:Int)-0).toNat=60:=by decide
    have W:((60:Int)≤(q.ups.length:Int))=True:=Ji
    rw [List.map_take]at fin
    have w:R.take k=R:=List.take_of_length_le zd
    rw [List.take_length]
    simp -implicitDefEqProofs only [go_sem,d,s,C,v,z,t,W,w,Nat.reduceDiv]
    refine⟨⟨by omega,by omega⟩,fin _ n (n+1) ?_⟩
    refine Wk.trans (b:=⟨[(11,.int .i64 ((k+1:Nat):Int)),(10,.int .i64 l.length),(9,.isl p),(3,.sl (sN 48) n 0 (k+1))],[(sN 48,n,.rows 11 (R++ [[.str [],.int .i64 0,.int .i64 0,.bool false,.int .i64 0,.sl (sN 16) f 0 1,.nils,.nils,.nils,.sl (sN 34) o 0 60,.nils]])),(sN 34,o,.rows 3 (q.ups.map fun u=>(A0o u).row)),(sN 16,f,.rows 5 [[.int .i64 18,.int .i64 0,.int .i64 0,.int .i64 0,.int .i64 0]])],n+1⟩)
     (.turn id ⟨.refl _,.refl _,.refl _,.refl _,trivial⟩ (.at 0 rfl rfl (.refl _) (.at 2 rfl rfl (.refl _) (.at 3 rfl rfl (.refl _) (.of fun e a=>by cases a))))) ?_
    refine Wk.trans (b:=⟨[(11,.int .i64 ((k+1:Nat):Int)),(10,.int .i64 l.length),(9,.isl p),(3,.sl (sN 48) n 0 (k+1))],[(sN 48,n,.rows 11 (R++ [[.str [],.int .i64 0,.int .i64 0,.bool false,.int .i64 0,.isl [[.int .i64 18,.int .i64 0,.int .i64 0,.int .i64 0,.int .i64 0]],.nils,.nils,.nils,.sl (sN 34) o 0 60,.nils]])),(sN 34,o,.rows 3 (q.ups.map fun u=>(A0o u).row))],n+1⟩)
     (.freeze (b:=sN 16) (st:=f) (sz:=5) (rs:= [[.int .i64 18,.int .i64 0,.int .i64 0,.int .i64 0,.int .i64 0]]) zf ⟨.of (.refl _),.of (.refl _),.of (.refl _),.of (.refl _),trivial⟩
       (.at 0 rfl zh (A4D.snoc ⟨.of (.refl _),.of (.refl _),.of (.refl _),.of (.refl _),.of (.refl _),Frz.all rfl,.of (.refl _),.of (.refl _),.of (.refl _),.of (.refl _),.of (.refl _),trivial⟩) (.at 1 rfl zh (.of (.refl _)) trivial))) ?_
    refine Wk.trans (b:=⟨[(11,.int .i64 ((k+1:Nat):Int)),(10,.int .i64 l.length),(9,.isl p),(3,.sl (sN 48) n 0 (k+1))],[(sN 48,n,.rows 11 (R++ [[.str [],.int .i64 0,.int .i64 0,.bool false,.int .i64 0,.isl [[.int .i64 18,.int .i64 0,.int .i64 0,.int .i64 0,.int .i64 0]],.nils,.nils,.nils,.isl ((q.ups.map fun u=>(A0o u).row).take 60),.nils]]))],n+1⟩)
     (.freeze (b:=sN 34) (st:=o) (sz:=3) (rs:=q.ups.map fun u=>(A0o u).row) zf ⟨.of (.refl _),.of (.refl _),.of (.refl _),.of (.refl _),trivial⟩
       (.at 0 rfl zh (A4D.snoc ⟨.of (.refl _),.of (.refl _),.of (.refl _),.of (.refl _),.of (.refl _),.of (.refl _),.of (.refl _),.of (.refl _),.of (.refl _),(Frz.sl (i:=0) (m:=60) zl :_),.of (.refl _),trivial⟩) trivial)) ?_
    exact XD
   ·have s:(60<(q.ups.length:Int))=False:=Jj
    have v:(k≤k)=True:=eq_true (Nat.le_refl _)
    have z:(k≤733007751849)=True:=Ji
    have t:((q.ups.length:Int)-0).toNat=q.ups.length:=by omega
    rw [List.take_of_length_le (show q.ups.length≤60 by omega)]at fin
    have w:R.take k=R:=List.take_of_length_le zd
    rw [List.take_length]
    simp -implicitDefEqProofs only [go_sem,d,s,C,v,z,t,w,Nat.reduceDiv]
    refine⟨by omega,by omega,⟨by omega,by omega⟩,fin _ n (n+1) ?_⟩
    refine Wk.trans (b:=⟨[(11,.int .i64 ((k+1:Nat):Int)),(10,.int .i64 l.length),(9,.isl p),(3,.sl (sN 48) n 0 (k+1))],[(sN 48,n,.rows 11 (R++ [[.str [],.int .i64 0,.int .i64 0,.bool false,.int .i64 0,.sl (sN 16) f 0 1,.nils,.nils,.nils,.sl (sN 34) o 0 q.ups.length,.nils]])),(sN 34,o,.rows 3 (q.ups.map fun u=>(A0o u).row)),(sN 16,f,.rows 5 [[.int .i64 18,.int .i64 0,.int .i64 0,.int .i64 0,.int .i64 0]])],n+1⟩)
     (.turn id ⟨.refl _,.refl _,.refl _,.refl _,trivial⟩ (.at 0 rfl rfl (.refl _) (.at 2 rfl rfl (.refl _) (.at 3 rfl rfl (.refl _) (.of fun e a=>by cases a))))) ?_
    refine Wk.trans (b:=⟨[(11,.int .i64 ((k+1:Nat):Int)),(10,.int .i64 l.length),(9,.isl p),(3,.sl (sN 48) n 0 (k+1))],[(sN 48,n,.rows 11 (R++ [[.str [],.int .i64 0,.int .i64 0,.bool false,.int .i64 0,.isl [[.int .i64 18,.int .i64 0,.int .i64 0,.int .i64 0,.int .i64 0]],.nils,.nils,.nils,.sl (sN 34) o 0 q.ups.length,.nils]])),(sN 34,o,.rows 3 (q.ups.map fun u=>(A0o u).row))],n+1⟩)
     (.freeze (b:=sN 16) (st:=f) (sz:=5) (rs:= [[.int .i64 18,.int .i64 0,.int .i64 0,.int .i64 0,.int .i64 0]]) zf ⟨.of (.refl _),.of (.refl _),.of (.refl _),.of (.refl _),trivial⟩
       (.at 0 rfl zh (A4D.snoc ⟨.of (.refl _),.of (.refl _),.of (.refl _),.of (.refl _),.of (.refl _),Frz.all rfl,.of (.refl _),.of (.refl _),.of (.refl _),.of (.refl _),.of (.refl _),trivial⟩) (.at 1 rfl zh (.of (.refl _)) trivial))) ?_
    refine Wk.trans (b:=⟨[(11,.int .i64 ((k+1:Nat):Int)),(10,.int .i64 l.length),(9,.isl p),(3,.sl (sN 48) n 0 (k+1))],[(sN 48,n,.rows 11 (R++ [[.str [],.int .i64 0,.int .i64 0,.bool false,.int .i64 0,.isl [[.int .i64 18,.int .i64 0,.int .i64 0,.int .i64 0,.int .i64 0]],.nils,.nils,.nils,.isl (q.ups.map fun u=>(A0o u).row),.nils]]))],n+1⟩)
     (.freeze (b:=sN 34) (st:=o) (sz:=3) (rs:=q.ups.map fun u=>(A0o u).row) zf ⟨.of (.refl _),.of (.refl _),.of (.refl _),.of (.refl _),trivial⟩
       (.at 0 rfl zh (A4D.snoc ⟨.of (.refl _),.of (.refl _),.of (.refl _),.of (.refl _),.of (.refl _),.of (.refl _),.of (.refl _),.of (.refl _),.of (.refl _),Frz.all zf,.of (.refl _),trivial⟩) trivial)) ?_
    exact XD
 ·obtain rfl:k=l.length:=by omega
  refine QO ?_
  subst hQ
  refine Z2.to (r2:= .isl ((l.map L8).map Fn.row)) (h2:= []) (n2:=m) (by simp -implicitDefEqProofs only [go_sem];exact Fn.rows_sub C7 _) ?_
  exact .freeze (b:=sN 48) (st:=st) (sz:=11) (rs:=(l.map L8).map Fn.row) zf ⟨Frz.all zf,trivial⟩ trivial
end
section
open Go.Abs
attribute [local irreducible] A0 Run
abbrev bN(k:Nat):Nat:=71*10000+k
-- EV: bN, Upv.row
attribute [local go_sem] bN Upv.row
def A0U(q:Fn):Fn:=⟨[],0,0,false,1,[⟨18,0,0,0,0⟩],[],[],[],q.ups,[]⟩
theorem C7R(q:Fn):(A0U q).row= [.str [],.int .i64 0,.int .i64 0,.bool false,.int .i64 1,.isl [[.int .i64 18,.int .i64 0,.int .i64 0,.int .i64 0,.int .i64 0]],.isl [],.isl [],.isl [],.isl (q.ups.map Upv.row),.isl []]:=by
 rw [Fn.row_eq];simp [A0U,Ins.row]
theorem C2Z(l:List Fn)(J:l.length≤100000):Pure Tryz.prog 71 [.isl (l.map Fn.row)] (.isl ((l.map A0U).map Fn.row)):=by
 have a:(l.map Fn.row).length=l.length:=List.length_map ..
 have o:C4 (l.map Fn.row) 11=True:=eq_true (fun r A=>by obtain⟨y,_,rfl⟩:=List.mem_map.1 A;exact Fn.row_len y)
 have g: ∀(k:Nat) x,l[k]? =some x→(l.map Fn.row)[k]? =some x.row:=fun k x h=>by rw [List.getElem?_map,h];rfl
 generalize l.map Fn.row=P at*
 refine Pure.of 0 (A0.enterK A2Z Jk fun Q C=>Run.go 100 ?_)
 simp -implicitDefEqProofs only [go_sem,A4,a]
 refine Run.roundsK (fun(x:Nat×Nat×Nat)=>⟨[(4,.int .i64 x.1),(3,.sl (bN 22) x.2.1 0 x.1),(0,.isl P)],[(bN 22,x.2.1,.rows 11 (((l.take x.1).map A0U).map Fn.row))],x.2.2⟩)
  (fun x=>x.1≤l.length) (fun x=>l.length-x.1) (0,0,1) ?_ (Nat.zero_le _) ?_
 ·exact .turn (fun b=>if b=bN 5 then bN 22 else b) ⟨.refl _,.sl,.refl _,trivial⟩ (.at 0 rfl rfl (.refl _) trivial)
 rintro⟨k,st,m⟩ D u
 dsimp only at D u⊢
 refine Run.unf A0K (Run.go 100 ?_)
 by_cases c:(k:Int)<l.length
 ·obtain⟨q,t⟩: ∃q,l[k]? =some q:=⟨l[k]' zd,by simp⟩
  have d:=g k q t
  have v:((0:Int)≤(k:Int))=True:=Ji
  have G:(k<l.length)=True:=Ji
  rw [Fn.row_eq q]at d
  have H:l.take (k+1)=l.take k++ [q]:=by rw [List.take_add_one,t];rfl
  have fin:=fun F s I=>u F (k+1,s,I) zk zk
  dsimp only at fin
  have E:((l.take k++ [q]).map A0U).map Fn.row=((l.take k).map A0U).map Fn.row++ [(A0U q).row]:=by simp
  have f:(((l.take k).map A0U).map Fn.row).length=k:=by simp;omega
  rw [H,E,C7R]at fin
  generalize B:q.ups.map Upv.row=U at*
  generalize z:((l.take k).map A0U).map Fn.row=R at*
  have n:R.take k=R:=List.take_of_length_le zd
  have j:(k≤k)=True:=eq_true (Nat.le_refl _)
  have p:(k≤R.length)=True:=Ji
  have i:(k≤733007751849)=True:=Ji
  simp -implicitDefEqProofs only [go_sem,c,v,G,a,o,d,f,n,j,p,i,Nat.reduceDiv,Option.some.injEq,forall_eq']
  refine⟨by omega,⟨by omega,by omega⟩,fin _ (m+1) (m+1+1) ?_⟩
  refine Wk.trans (b:=⟨[(4,.int .i64 ((k+1:Nat):Int)),(3,.sl (bN 22) (m+1) 0 (k+1)),(0,.isl P)],[(bN 22,m+1,.rows 11 (R++ [[.str [],.int .i64 0,.int .i64 0,.bool false,.int .i64 1,.isl [[.int .i64 18,.int .i64 0,.int .i64 0,.int .i64 0,.int .i64 0]],.nils,.nils,.nils,.isl U,.nils]]))],m+1+1⟩)
   (.freeze (b:=bN 14) (st:=m) (sz:=5) (rs:= [[.int .i64 18,.int .i64 0,.int .i64 0,.int .i64 0,.int .i64 0]]) zf ⟨.of (.refl _),.of (.refl _),.of (.refl _),trivial⟩
     (.at 0 rfl zh (A4D.snoc ⟨.of (.refl _),.of (.refl _),.of (.refl _),.of (.refl _),.of (.refl _),Frz.all rfl,.of (.refl _),.of (.refl _),.of (.refl _),.of (.refl _),.of (.refl _),trivial⟩) trivial)) ?_
  exact .turn id ⟨.refl _,.refl _,.refl _,trivial⟩ (.at 0 rfl rfl (L1.snocL ⟨.refl _,.refl _,.refl _,.refl _,.refl _,.refl _,.nilI,.nilI,.nilI,.refl _,.nilI,trivial⟩) (.of fun e w=>by cases w))
 ·obtain rfl:k=l.length:=by omega
  simp -implicitDefEqProofs only [go_sem,c,a]
  subst C
  refine Z2.to (r2:= .isl ((l.map A0U).map Fn.row)) (h2:= []) (n2:=m) (by simp -implicitDefEqProofs only [go_sem];exact Fn.rows_sub C7 _) ?_
  exact .freeze (b:=bN 22) (st:=st) (sz:=11) (rs:=(l.map A0U).map Fn.row) zf ⟨Frz.all zf,trivial⟩ trivial
end
section
open Go.Abs
attribute [local irreducible] A0 Run
theorem Wk.fr(k i:Nat){b st sz m n:Nat}{rs:List (List V)}{l:List V}{h:A2}(d:h[i]? =some (b,st,.rows sz rs))(c:l[k]? =some (.sl b st 0 m))(g:m=rs.length):
  Wk ⟨[(0,.agg l)],h,n⟩ ⟨[(0,.agg (l.set k (.isl rs)))],A2.del h b,n⟩:=by
 refine .freeze (List.mem_of_getElem? d) ⟨Frz.agg ?_,trivial⟩ (A4E.of fun e f=>A2.mem_del.1 f)
 clear d
 induction l generalizing k with
 |nil=>simp at c
 | cons a r j=>
  cases k with
  |zero=>
   obtain rfl:a= .sl b st 0 m:=by simpa using c
   exact⟨Frz.all g,B1m.same r⟩
  |succ k=>exact⟨.of (.refl a),j k (by simpa using c)⟩
abbrev cpN(k:Nat):Nat:=44*10000+k
-- EV: cpN
attribute [local go_sem] cpN
theorem A6k(p:Fn)(v:p.code.length≤1000000∧p.lines.length≤1000000∧p.consts.length≤1000000∧p.protos.length≤1000000∧p.ups.length≤1000000∧p.vars.length≤1000000)(n:Nat):
  A0 Tryz.prog 44 [.agg p.row] [] n fun r w x=> ∃a d,r= .agg [.str p.name,.int .i64 p.line,.int .i64 p.params,.bool p.vararg,.int .i64 p.regs,.sl (cpN 3) a 0 p.code.length,.isl (p.lines.map D1),.isl (p.consts.map Kst.row),.sl (cpN 28) d 0 p.protos.length,.isl (p.ups.map Upv.row),.isl (p.vars.map Vr.row)]
   ∧w= [(cpN 28,d,.rows 11 (p.protos.map Fn.row)),(cpN 3,a,.rows 5 (p.code.map Ins.row))]:=by
 have i:(p.code.map Ins.row).length=p.code.length:=List.length_map ..
 have j:C4 (p.code.map Ins.row) 5=True:=eq_true fun r h=>by obtain⟨y,_,rfl⟩:=List.mem_map.1 h;rfl
 have g:(p.lines.map D1).length=p.lines.length:=List.length_map ..
 have s:C4 (p.lines.map D1) 1=True:=eq_true fun r h=>by obtain⟨y,_,rfl⟩:=List.mem_map.1 h;rfl
 have c:(p.consts.map Kst.row).length=p.consts.length:=List.length_map ..
 have k:C4 (p.consts.map Kst.row) 5=True:=eq_true fun r h=>by obtain⟨y,_,rfl⟩:=List.mem_map.1 h;rfl
 have m:(p.protos.map Fn.row).length=p.protos.length:=List.length_map ..
 have o:C4 (p.protos.map Fn.row) 11=True:=eq_true (fun r h=>by obtain⟨y,_,rfl⟩:=List.mem_map.1 h;exact Fn.row_len y)
 have b:(p.ups.map Upv.row).length=p.ups.length:=List.length_map ..
 have l:C4 (p.ups.map Upv.row) 3=True:=eq_true fun r h=>by obtain⟨y,_,rfl⟩:=List.mem_map.1 h;rfl
 have f:(p.vars.map Vr.row).length=p.vars.length:=List.length_map ..
 have q:C4 (p.vars.map Vr.row) 5=True:=eq_true fun r h=>by obtain⟨y,_,rfl⟩:=List.mem_map.1 h;rfl
 rw [Fn.row_eq]
 generalize p.code.map Ins.row=C at*
 generalize p.lines.map D1=L at*
 generalize p.consts.map Kst.row=K at*
 generalize p.protos.map Fn.row=P at*
 generalize p.ups.map Upv.row=U at*
 generalize p.vars.map Vr.row=V at*
 refine A0.enterK A1p Jk fun Q u=>Run.go 100 ?_
 simp -implicitDefEqProofs only [go_sem,A4,i,j,g,s,c,k,m,o,b,l,f,q]
 obtain⟨z,E,F,A,D,B⟩:=v
 refine⟨by omega,by omega,by omega,by omega,by omega,by omega,?_⟩
 subst u
 refine Z2.mk (Wk.trans (Wk.fr 10 3 rfl rfl f.symm) (Wk.trans (Wk.fr 9 3 rfl rfl b.symm) (Wk.trans (Wk.fr 7 3 rfl rfl c.symm) (Wk.trans (Wk.fr 6 3 rfl rfl g.symm) (.turn id ⟨.refl _,trivial⟩ ?_))))) ⟨_,_,rfl,rfl⟩
 exact .at 2 rfl rfl (.refl _) (.at 3 rfl rfl (.refl _) (.of fun e t=>by cases t))
end
section
open Go.Abs
attribute [local irreducible] A0 Run
-- EV: Ins.v, Ins.row
attribute [local go_sem] Ins.v Ins.row
def Y5(S:Int→Bool)(z:Int):Int→Bool:=fun k=>S k||decide (k=z)
def unZ(S:Int→Bool):Nat→Nat
 |0=>0
 |n+1=>unZ S n+(if S n=true then 0 else 1)
theorem C5B{S:Int→Bool}{z:Int}: ∀{n:Nat},(n:Int)≤z→unZ (Y5 S z) n=unZ S n
 |0,_=>rfl
 | n+1,h=>by
  rw [unZ,unZ,C5B zd]
  have:Y5 S z n=S n:=by
   unfold Y5
   rw [decide_eq_false zd,Bool.or_false]
  rw [this]
theorem B2b{S:Int→Bool}{z:Nat}(b:S z=false): ∀{n:Nat},z<n→unZ (Y5 S z) n+1=unZ S n
 |0,h=>absurd h (Nat.not_lt_zero z)
 | n+1,h=>by
  rw [unZ,unZ]
  rcases Nat.lt_or_ge z n with a|a
  ·have i:=B2b b a
   have:Y5 S z n=S n:=by
    unfold Y5
    rw [decide_eq_false zd,Bool.or_false]
   rw [this]
   omega
  ·obtain rfl:z=n:=by omega
   rw [C5B (Int.le_refl _)]
   have c:Y5 S (z:Int) z=true:=by unfold Y5;simp
   rw [c,b]
   simp
def chZ(code:List Ins):Nat→(Int→Bool)→Nat→Int
 |0,_,a=>a
 |f+1,S,a=>match code[a]? with
  |some i=>if i.op=14 then(if Y5 S a i.b=true then(a:Int)else chZ code f (Y5 S a) i.b.toNat)else a
  |none=>a
def B9y(code:List Ins)(a:Nat):Int:=chZ code (unZ (fun _=>false) code.length) (fun _=>false) a
def InJ(code:List Ins):Prop:= ∀i∈code,G9 i.op=true→0≤i.b∧i.b<code.length
theorem C3t(p:Fn)(R:p.code.length≤20000)(O:InJ p.code)(a:Nat)(N:a<p.code.length):Pure Tryz.prog 25 [.agg p.row,.int .i64 a] (.int .i64 (B9y p.code a)):=by
 obtain⟨r,q⟩:=B4 p
 have y:p.row[5]? =some (.isl (p.code.map Ins.row)):=by rw [Fn.row_eq];rfl
 have g:(p.code.map Ins.row).length=p.code.length:=List.length_map ..
 have u: ∀(k:Nat) x,p.code[k]? =some x→(p.code.map Ins.row)[k]? =some x.row:=fun k x h=>by rw [List.getElem?_map,h];rfl
 have l:C4 (p.code.map Ins.row) 5=True:=eq_true (B3 Ins.row 5 (fun _=>rfl) p.code)
 generalize p.code.map Ins.row=P at*
 generalize p.row=K at*
 refine Pure.of 0 (A0.enter A6b Jk (Run.go 100 ?_))
 simp -implicitDefEqProofs only [go_sem,A4,r,q]
 refine Run.rounds (fun(x:Nat×List (V×V)×Nat×(Int→Bool))=>⟨[(5,.mp (25*10000+7) 1),(2,.ptr (25*10000+2) 0 0 0),(1,.int .i64 x.1)],[((25*10000+7),1,.map x.2.1),((25*10000+2),0,.rows 11 [K])],x.2.2.1⟩)
  (fun x=>(MSet x.2.1 x.2.2.2∧x.1<p.code.length)∧x.2.2.2 (x.1:Int)=false∧B9y p.code a=chZ p.code (unZ x.2.2.2 p.code.length) x.2.2.2 x.1) (fun x=>unZ x.2.2.2 p.code.length) (a,[],2,fun _=>false) ze ⟨⟨.nil,N⟩,rfl,rfl⟩ ?_
 rintro⟨k,J,m,S⟩ ⟨⟨D,z⟩,F,b⟩ G
 dsimp only at D z F b G⊢
 refine Run.unf A3U (Run.go 100 ?_)
 obtain⟨i,B⟩: ∃i,p.code[k]? =some i:=⟨p.code[k]' zd,by simp⟩
 have o:=u k i B
 have n:=eq_true (D.keys.ok (k:Int))
 have w:=D.put (k:Int)
 have v:((0:Int)≤(k:Int))=True:=Ji
 have C:(k<p.code.length)=True:=eq_true z
 have A:((k:Int)<(p.code.length:Int))=True:=Ji
 have L:=B2b F z
 rw [←L,chZ,B]at b
 dsimp only at b
 have j:=eq_true (w.keys.ok i.b)
 have f:=w.find i.b
 by_cases c:i.op=14
 ·rw [if_pos c]at b
  by_cases d:Y5 S k i.b=true
  ·rw [if_pos d]at b
   rw [show (S i.b||decide (i.b=(k:Int)))=true from d]at f
   rw [b]
   simp -implicitDefEqProofs only [go_sem,r,q,y,g,l,o,v,C,A,n,j,f,c,Option.some.injEq,forall_eq']
   done
  ·rw [if_neg d]at b
   rw [show (S i.b||decide (i.b=(k:Int)))=false from by cases e:Y5 S k i.b with|true=>exact(d e).elim|false=>exact e]at f
   obtain⟨Q,M⟩:=O i (List.mem_of_getElem? B) (by simp [G9,c])
   obtain⟨t,E⟩: ∃t:Nat,i.b=t:=⟨i.b.toNat,by omega⟩
   rw [E]at d f j M b
   rw [Int.toNat_natCast]at b
   simp -implicitDefEqProofs only [go_sem,r,q,y,g,l,o,v,C,A,n,j,f,c,E,Option.some.injEq,forall_eq']
   have H:Y5 S k t=false:=by cases e:Y5 S k t with|true=>exact(d e).elim|false=>rfl
   have fin:=fun s=>G s (t,A7b (.int .i64 k) (.bool true) J,m+1,Y5 S k) ⟨⟨w,by dsimp only;omega⟩,H,b⟩ zk
   exact fin _ ze
 ·rw [if_neg c]at b
  have I:=eq_false c
  rw [b]
  simp -implicitDefEqProofs only [go_sem,r,q,y,g,l,o,v,C,A,n,I,Option.some.injEq,forall_eq']
  done
def tuL(f:Ins→Ins)(l:List Ins)(j:Nat):List Ins:=(l.take j).map f++l.drop j
theorem C5A(f:Ins→Ins)(l:List Ins)(j:Nat):(tuL f l j).length=l.length:=by simp [tuL];omega
theorem C2P(f:Ins→Ins)(l:List Ins):tuL f l 0=l:=by simp [tuL]
theorem C5z(f:Ins→Ins)(l:List Ins):tuL f l l.length=l.map f:=by simp [tuL]
theorem C0t{f:Ins→Ins}{l:List Ins}{j:Nat}{i:Ins}(h:l[j]? =some i):(tuL f l j)[j]? =some i:=by
 have a:=(List.getElem?_eq_some_iff.1 h).1
 unfold tuL
 exact XN
theorem B7n{f:Ins→Ins}{l:List Ins}{j:Nat}{i:Ins}(h:l[j]? =some i):tuL f l (j+1)=(tuL f l j).set j (f i):=by
 obtain⟨d,c⟩:=List.getElem?_eq_some_iff.1 h
 unfold tuL
 have b:l.take (j+1)=l.take j++ [i]:=by rw [List.take_add_one,h];rfl
 have e:l.drop j=i::l.drop (j+1):=by rw [List.drop_eq_getElem_cons d,c]
 have a:((l.take j).map f).length=j:=by simp;omega
 exact Yz
theorem C2O{f:Ins→Ins}{l:List Ins}{j:Nat}{i:Ins}(h:l[j]? =some i)(a:f i=i):tuL f l (j+1)=tuL f l j:=by
 rw [B7n h,a]
 refine List.ext_getElem? fun x=> ?_
 rw [List.getElem?_set]
 split
 ·rename_i e
  subst e
  rw [C0t h,if_pos (List.getElem?_eq_some_iff.1 (C0t (f:=f) h)).1]
 ·rfl
def O0(code:List Ins)(i:Ins):Ins:=if G9 i.op=true∧i.op≠26 then{i with b:=B9y code i.b.toNat}else i
def C8(p:Fn):Fn:={p with code:=p.code.map (O0 p.code)}
theorem C1p(p:Fn)(T:p.code.length≤20000)(L:InJ p.code):Pure Tryz.prog 23 [.agg p.row] (.agg (C8 p).row):=by
 have r:=fun a X=>C3t p T L a X
 have G:=Fn.row_eq p
 have d:=Fn.row_sub C7 p
 have D:C4 (p.code.map Ins.row) 5=True:=eq_true (B3 Ins.row 5 (fun _=>rfl) p.code)
 have z:(p.code.map Ins.row).length=p.code.length:=List.length_map ..
 have H:(C8 p).row= [.str p.name,.int .i64 p.line,.int .i64 p.params,.bool p.vararg,.int .i64 p.regs,.isl ((p.code.map (O0 p.code)).map Ins.row),.isl (p.lines.map D1),.isl (p.consts.map Kst.row),.isl (p.protos.map Fn.row),.isl (p.ups.map Upv.row),.isl (p.vars.map Vr.row)]:=by rw [Fn.row_eq];rfl
 have E:=Fn.row_sub C7 (C8 p)
 rw [G]at r d⊢
 refine Pure.of 0 (A0.enterK A4x Jk fun Q R=>Run.go 100 ?_)
 have W:((p.code.length:Int)).toNat=p.code.length:=Int.toNat_natCast _
 simp -implicitDefEqProofs only [go_sem,A4,z,D,W]
 have P:(p.code.map Ins.row).take (min p.code.length p.code.length)++(List.replicate p.code.length [V.int .i64 0,.int .i64 0,.int .i64 0,.int .i64 0,.int .i64 0]).drop (min p.code.length p.code.length)=p.code.map Ins.row:=by
  rw [Nat.min_self,List.take_of_length_le zd,List.drop_of_length_le zf,List.append_nil]
 rw [P]
 refine⟨by omega,by omega,?_⟩
 generalize K:O0 p.code=J at*
 generalize F:p.code.map Ins.row=O at*
 refine Run.roundsK (fun(x:Nat×Nat)=>⟨[(18,.int .i64 x.1),(17,.int .i64 p.code.length),(16,.sl (23*10000+11) 2 0 p.code.length),(3,.sl (23*10000+11) 2 0 p.code.length),(2,.ptr (23*10000+2) 1 0 0),(1,.ptr (23*10000+1) 0 0 0)],
  [((23*10000+11),2,.rows 5 ((tuL J p.code x.1).map Ins.row)),((23*10000+2),1,.rows 11 [[.str [],.int .i64 0,.int .i64 0,.bool false,.int .i64 0,.nils,.nils,.nils,.nils,.nils,.nils]]),((23*10000+1),0,.rows 11 [[.str p.name,.int .i64 p.line,.int .i64 p.params,.bool p.vararg,.int .i64 p.regs,.isl O,.isl (p.lines.map D1),.isl (p.consts.map Kst.row),.isl (p.protos.map Fn.row),.isl (p.ups.map Upv.row),.isl (p.vars.map Vr.row)]])],x.2⟩)
  (fun x=>x.1≤p.code.length) (fun x=>p.code.length-x.1) (0,3) ?_ (Nat.zero_le _) ?_
 ·exact .turn id ⟨.refl _,.refl _,.refl _,.refl _,.refl _,.refl _,trivial⟩ (.at 0 rfl rfl (.of_eq (by rw [C2P,F])) (.at 1 rfl rfl (.refl _) (.at 2 rfl rfl (.refl _) (.of fun e l=>by cases l))))
 rintro⟨j,m⟩ A M
 dsimp only at A M⊢
 refine Run.unf A2B (Run.go 100 ?_)
 have n:=C5A J p.code j
 have o:C4 ((tuL J p.code j).map Ins.row) 5=True:=eq_true (B3 Ins.row 5 (fun _=>rfl) _)
 by_cases c:(j:Int)<p.code.length
 ·obtain⟨i,v⟩: ∃i,p.code[j]? =some i:=⟨p.code[j]' zd,by simp⟩
  have q:=C0t (f:=J) v
  have B:((0:Int)≤(j:Int))=True:=Ji
  have I:(j<p.code.length)=True:=Ji
  have s:=A6l i
  have fin:=fun U S=>M U (j+1,S) zk zk
  dsimp only at fin
  by_cases C:G9 i.op=true∧i.op≠26
  ·obtain⟨g,w⟩:=C
   have k:J i={i with b:=B9y p.code i.b.toNat}:=by rw [←K];unfold O0;rw [if_pos ⟨g,w⟩]
   rw [B7n v,k]at fin
   obtain⟨Z,b1⟩:=L i (List.mem_of_getElem? v) g
   obtain⟨t,u⟩: ∃t:Nat,i.b=t:=⟨i.b.toNat,by omega⟩
   rw [u]at fin s
   rw [Int.toNat_natCast]at fin
   have y:=r t zd
   have N:=eq_false w
   simp -implicitDefEqProofs only [go_sem,c,B,I,n,o,q,u,Option.some.injEq,forall_eq']
   rw [show i.v= .agg [.int .i64 i.op,.int .i64 i.a,.int .i64 t,.int .i64 i.c,.int .i64 i.d] by unfold Ins.v Ins.row;rw [u]]at s
   refine A0.pureF s ze ?_
   simp -implicitDefEqProofs only [go_sem,g,N]
   refine A0.pureF y zS ?_
   simp -implicitDefEqProofs only [go_sem,c,B,I,n,o,q,u,Nat.reduceDiv,Option.some.injEq,forall_eq']
   refine⟨⟨by omega,by omega⟩,fin _ (m+1) (.turn id ⟨.refl _,.refl _,.refl _,.refl _,.refl _,.refl _,trivial⟩ (.at 0 rfl rfl (.of_eq ?_) (.at 2 rfl rfl (.refl _) (.at 3 rfl rfl (.refl _) (.of fun e l=>by cases l)))))⟩
   rw [List.map_set]
   rfl
  ·have k:J i=i:=by rw [←K];unfold O0;rw [if_neg C]
   rw [C2O v k]at fin
   simp -implicitDefEqProofs only [go_sem,c,B,I,n,o,q,Option.some.injEq,forall_eq']
   refine A0.pureF s ze ?_
   cases g:G9 i.op with
   |false=>
    simp -implicitDefEqProofs only [go_sem,g]
    exact Xy
   | true=>
    have w:(i.op=26)=True:=eq_true (by
     by_cases h:i.op=26
     ·exact h
     ·exact(C ⟨g,h⟩).elim)
    simp -implicitDefEqProofs only [go_sem,g,w]
    exact Xy
 ·obtain rfl:j=p.code.length:=by omega
  rw [C5z]
  refine QO ?_
  subst R
  refine Z2.to (r2:= .agg (C8 p).row) (h2:= []) (n2:=m) ?_ ?_
  ·generalize (C8 p).row=Y at*
   refine QL ?_
   exact E
  ·rw [H]
   exact .freeze (b:=(23*10000+11)) (st:=2) (sz:=5) (rs:=(p.code.map J).map Ins.row) zf ⟨Frz.agg ⟨.of (.refl _),.of (.refl _),.of (.refl _),.of (.refl _),.of (.refl _),Frz.all zf,.of (.refl _),.of (.refl _),.of (.refl _),.of (.refl _),.of (.refl _),trivial⟩,trivial⟩ trivial
end
section
open Go.Abs
attribute [local irreducible] A0 Run
abbrev eN(k:Nat):Nat:=22*10000+k
-- EV: eN
attribute [local go_sem] eN
def G1(p:Fn):Fn:={p with protos:=p.protos.map L8}
mutual
def C0(g:Fn→Fn):Fn→Fn
 |⟨a,b,c,d,e,f,l,k,ps,u,v⟩=>
  let p:Fn:=⟨a,b,c,d,e,f,l,k,ps,u,v⟩
  {(if L5 (G1 p)=0 then g p else p)with protos:=eachsF g ps}
def eachsF(g:Fn→Fn):List Fn→List Fn
 | []=> []
 |p::r=>C0 g p::eachsF g r
end
theorem B5U(g:Fn→Fn): ∀l,eachsF g l=l.map (C0 g)
 | []=>rfl
 |p::r=>by rw [eachsF,B5U g r];rfl
theorem X0(g:Fn→Fn)(p:Fn):C0 g p={(if L5 (G1 p)=0 then g p else p)with protos:=p.protos.map (C0 g)}:=by
 obtain⟨a,b,c,d,e,f,l,k,h,u,v⟩:=p
 rw [C0,B5U]
theorem B0E(f:FuncId)(hf:K8 Tryz.prog f=true)(g:Fn→Fn)(P:Fn→Prop)(D: ∀p,P p→ ∀q∈p.protos,P q)
  (hb: ∀p,P p→p.protos.length≤100000∧(∀q∈p.protos,q.ups.length≤4398046510976)∧(G1 p).bd∧(G1 p).depth≤1000000)
  (hg: ∀p,P p→L5 (G1 p)=0→Pure Tryz.prog f [.agg p.row] (.agg (g p).row)) (p:Fn) (hp:P p):
  Pure Tryz.prog 22 [.agg p.row,.fn f []] (.agg (C0 g p).row):=by
 induction p using Fn.ind with
 |h p t=>
 have ih: ∀q∈p.protos,Pure Tryz.prog 22 [.agg q.row,.fn f []] (.agg (C0 g q).row):=fun q j=>t q j (D p hp q j)
 clear t
 obtain⟨b1,b2,b3,b4⟩:=hb p hp
 have w:=fun h=>hg p hp h
 have U:=C2A p.protos b1 b2
 have A:=A5Z (G1 p) b3 b4
 have N:=Fn.rows_sub C7 p.protos
 have I:=Fn.row_sub C7 p
 have o:=Fn.row_sub C7 (G1 p)
 have H:=X0 g p
 have R:=Fn.row_eq (G1 p)
 have O:=Fn.row_eq p
 have l: ∀q:Fn,q.row.map (V.sub C7)=q.row:=Fn.row_sub C7
 have z:(p.protos.map Fn.row).length=p.protos.length:=List.length_map ..
 have hzP:C4 (p.protos.map Fn.row) 11=True:=eq_true (fun r hr=>by obtain⟨y,_,rfl⟩:=List.mem_map.1 hr;exact Fn.row_len y)
 have B: ∀(k:Nat) x,p.protos[k]? =some x→(p.protos.map Fn.row)[k]? =some x.row:=fun k x h=>by rw [List.getElem?_map,h];rfl
 refine Pure.of 0 (A0.enterK A7j Jk fun Q hQ=>Run.go 100 ?_)
 obtain⟨h1,h2⟩:=B4 p
 have h8:p.row[8]? =some (.isl (p.protos.map Fn.row)):=by rw [Fn.row_eq];rfl
 generalize Z:p.protos.map Fn.row=PR at*
 generalize s:p.row=pr at*
 simp -implicitDefEqProofs only [go_sem,A4,h1,h2,h8,z]
 refine Run.roundsK (fun(x:Nat×Nat×Nat)=>⟨[(13,.int .i64 x.1),(12,.int .i64 p.protos.length),(11,.isl PR),(5,.sl (eN 22) x.2.1 0 x.1),(4,.ptr (eN 4) 1 0 0),(2,.ptr (eN 2) 0 0 0),(1,.fn f [])],
  [(eN 22,x.2.1,.rows 11 ((p.protos.take x.1).map fun q=>(C0 g q).row)),(eN 4,1,.rows 11 [[.str [],.int .i64 0,.int .i64 0,.bool false,.int .i64 0,.nils,.nils,.nils,.nils,.nils,.nils]]),(eN 2,0,.rows 11 [pr])],x.2.2⟩)
  (fun x=>x.1≤p.protos.length) (fun x=>p.protos.length-x.1) (0,2,3) ?_ (Nat.zero_le _) ?_
 ·refine .trans (.fresh (eN 22) 11 _ _ _) (.turn id ⟨.refl _,.refl _,.refl _,.nils,.refl _,.refl _,.refl _,trivial⟩ ?_)
  refine QU ?_
  exact .at 0 rfl rfl (.refl _) (.at 1 rfl rfl (.refl _) (.at 2 rfl rfl (.refl _) (.of fun e J=>by cases J)))
 rintro⟨k,st,m⟩ hk i
 dsimp only at hk i⊢
 refine Run.unf A4z (Run.go 100 ?_)
 by_cases c:(k:Int)<p.protos.length
 ·obtain⟨q,j⟩: ∃q,p.protos[k]? =some q:=⟨p.protos[k]' zd,by simp⟩
  have S:=B k q j
  have hqp:=ih q (List.mem_of_getElem? j)
  have M:=l q
  obtain⟨q1,q2⟩:=B4 q
  obtain⟨o1,o2⟩:=B4 (C0 g q)
  have k0:((0:Int)≤(k:Int))=True:=Ji
  have k1:(k<p.protos.length)=True:=Ji
  have e1:p.protos.take (k+1)=p.protos.take k++ [q]:=by rw [List.take_add_one,j];rfl
  have fin:=fun s' L m'=>i s' (k+1,L,m') zk zk
  dsimp only at fin
  rw [e1,List.map_append,List.map_cons,List.map_nil]at fin
  have K:((p.protos.take k).map fun q=>(C0 g q).row).length=k:=by simp;omega
  generalize ((p.protos.take k).map fun q=>(C0 g q).row)=RR at*
  have Y:RR.take k=RR:=List.take_of_length_le zd
  have X:(k≤k)=True:=eq_true (Nat.le_refl _)
  have c62:(k≤137438953471)=True:=Ji
  generalize q.row=qr at*
  simp -implicitDefEqProofs only [go_sem,c,k0,k1,z,hzP,S,q1,q2,Nat.reduceDiv,Option.some.injEq,forall_eq']
  refine A0.pureF hqp (by simp -implicitDefEqProofs only [go_sem,M]) ?_
  generalize (C0 g q).row=out at*
  simp -implicitDefEqProofs only [go_sem,o1,o2,K,X,c62,Y,Nat.reduceDiv]
  exact⟨⟨by omega,by omega⟩,fin _ (m+1) (m+1+1) (.turn id ⟨.refl _,.refl _,.refl _,.refl _,.refl _,.refl _,.refl _,trivial⟩ (.at 0 rfl rfl (.refl _) (.at 2 rfl rfl (.refl _) (.at 3 rfl rfl (.refl _) (.of fun e J=>by cases J)))))⟩
 ·obtain rfl:k=p.protos.length:=by omega
  rw [List.take_length]
  clear i ih B hb D hg
  have G:pr= [.str p.name,.int .i64 p.line,.int .i64 p.params,.bool p.vararg,.int .i64 p.regs,.isl (p.code.map Ins.row),.isl (p.lines.map D1),.isl (p.consts.map Kst.row),.isl PR,.isl (p.ups.map Upv.row),.isl (p.vars.map Vr.row)]:=by rw [←s,Fn.row_eq,Z]
  have v:(G1 p).row= [.str p.name,.int .i64 p.line,.int .i64 p.params,.bool p.vararg,.int .i64 p.regs,.isl (p.code.map Ins.row),.isl (p.lines.map D1),.isl (p.consts.map Kst.row),.isl ((p.protos.map L8).map Fn.row),.isl (p.ups.map Upv.row),.isl (p.vars.map Vr.row)]:=by rw [Fn.row_eq];rfl
  have F:=Fn.row_eq (g p)
  have W:=Fn.row_sub C7 (g p)
  have E: ∀r:Fn,(C0 g p)={r with protos:=p.protos.map (C0 g)}→(C0 g p).row= [.str r.name,.int .i64 r.line,.int .i64 r.params,.bool r.vararg,.int .i64 r.regs,.isl (r.code.map Ins.row),.isl (r.lines.map D1),.isl (r.consts.map Kst.row),.isl (p.protos.map fun q=>(C0 g q).row),.isl (r.ups.map Upv.row),.isl (r.vars.map Vr.row)]:=fun r h=>by
   rw [h,Fn.row_eq];simp
  have n:(p.protos.map fun q=>(C0 g q).row).length=p.protos.length:=List.length_map ..
  have u:=Fn.row_sub C7 (C0 g p)
  rw [v]at A o
  rw [F]at w W
  generalize hce:L5 (G1 p)=T at*
  generalize (p.protos.map fun q=>(C0 g q).row)=LL at*
  generalize (p.protos.map L8).map Fn.row=SR at*
  subst G
  clear O R s h1 h2 h8 v F
  simp -implicitDefEqProofs only [go_sem,c,Nat.reduceDiv]
  refine A0.pureF U Qw ?_
  refine QU ?_
  refine A0.pureF A zU ?_
  by_cases C:T=0
  ·rw [if_pos C]at H
   have d:=E _ H
   have a:(T=0)=True:=eq_true C
   refine Je ?_
   refine⟨hf,A0.pureF (w C) zR ?_⟩
   refine QU ?_
   exact JI
  ·rw [if_neg C]at H
   have d:=E _ H
   have a:(T=0)=False:=eq_false C
   refine Je ?_
   exact JI
end
section
open Go.Abs
attribute [local irreducible] A0 Run
abbrev chN(k:Nat):Nat:=54*10000+k
-- EV: chN, Ins.row
attribute [local go_sem] chN Ins.row
def sR(S:Int→Bool)(n:Nat):List (List V):=(List.range n).map fun(i:Nat)=> [V.bool (S (i:Int))]
theorem D4c(S:Int→Bool)(n:Nat):(sR S n).length=n:=by simp [sR]
theorem D2r{S:Int→Bool}{n i:Nat}(h:i<n):(sR S n)[i]? =some [.bool (S (i:Int))]:=by simp [sR,h]
theorem D7b(S:Int→Bool)(n:Nat):C4 (sR S n) 1=True:=eq_true fun r h=>by obtain⟨y,_,rfl⟩:=List.mem_map.1 h;rfl
theorem D7a(n:Nat):sR (fun _=>false) n=List.replicate n [.bool false]:=by
 unfold sR
 rw [List.eq_replicate_iff]
 exact⟨by simp,fun r h=>by obtain⟨y,_,rfl⟩:=List.mem_map.1 h;rfl⟩
theorem D4d{S:Int→Bool}{n k:Nat}:(sR S n).set k [.bool true]=sR (Y5 S k) n:=by
 refine List.ext_getElem? fun i=> ?_
 rw [List.getElem?_set]
 simp only [sR,List.length_map,List.length_range,List.getElem?_map]
 by_cases h:i<n
 ·rw [List.getElem?_range h]
  by_cases e:k=i
  ·subst e;rw [if_pos rfl,if_pos h];simp [Y5]
  ·rw [if_neg e]
   have: ¬(i:Int)=k:=by omega
   simp [Y5,this]
 ·rw [List.getElem?_eq_none zx]
  by_cases e:k=i
  ·subst e;rw [if_pos rfl,if_neg h];rfl
  ·rw [if_neg e];rfl
theorem C1W(p:Fn)(hc:p.code.length≤20000)(Y:InJ p.code)(a:Nat)(X:a<p.code.length):Pure Tryz.prog 54 [.agg p.row,.int .i64 a] (.int .i64 (B9y p.code a)):=by
 have f:(p.code.map Ins.row).length=p.code.length:=List.length_map ..
 have F: ∀(k:Nat) x,p.code[k]? =some x→(p.code.map Ins.row)[k]? =some x.row:=fun k x h=>by rw [List.getElem?_map,h];rfl
 have j:C4 (p.code.map Ins.row) 5=True:=eq_true fun r R=>by obtain⟨y,_,rfl⟩:=List.mem_map.1 R;rfl
 rw [Fn.row_eq]
 generalize p.code.map Ins.row=L at*
 refine Pure.of 0 (A0.enter A2m Jk (Run.go 100 ?_))
 have U:(0:Int)≤(p.code.length:Int):=by omega
 simp -implicitDefEqProofs only [go_sem,A4,f]
 refine⟨by omega,by omega,?_⟩
 rw [←D7a]
 generalize q: [V.str p.name,_,_,_,_,.isl L,_,_,_,_,_]=u
 have B:u[5]? =some (.isl L):=by rw [←q];rfl
 have l:u.length=11:=by rw [←q];rfl
 clear q
 refine Run.rounds (fun(x:Nat×(Int→Bool))=>⟨[(5,.sl (chN 9) 1 0 p.code.length),(2,.ptr (chN 2) 0 0 0),(1,.int .i64 x.1)],[(chN 9,1,.rows 1 (sR x.2 p.code.length)),(chN 2,0,.rows 11 [u])],2⟩)
  (fun x=>x.1<p.code.length∧x.2 (x.1:Int)=false∧B9y p.code a=chZ p.code (unZ x.2 p.code.length) x.2 x.1) (fun x=>unZ x.2 p.code.length) (a,fun _=>false) ze ⟨X,rfl,rfl⟩ ?_
 rintro⟨k,S⟩ ⟨C,I,b⟩ Q
 dsimp only at C I b Q⊢
 refine Run.unf A0m (Run.go 100 ?_)
 obtain⟨i,H⟩: ∃i,p.code[k]? =some i:=⟨p.code[k]' zd,by simp⟩
 have m:=F k i H
 have z:((0:Int)≤(k:Int))=True:=Ji
 have E:(k<p.code.length)=True:=eq_true C
 have D:((k:Int)<(p.code.length:Int))=True:=Ji
 have v:=D4c S p.code.length
 have o:=D7b S p.code.length
 have w:=D2r (S:=S) C
 rw [I]at w
 have G:=D4d (S:=S) (n:=p.code.length) (k:=k)
 have W:=B2b I C
 rw [←W,chZ,H]at b
 dsimp only at b
 by_cases c:i.op=14
 ·rw [if_pos c]at b
  obtain⟨Z,P⟩:=Y i (List.mem_of_getElem? H) (by simp [G9,c])
  obtain⟨t,A⟩: ∃t:Nat,i.b=t:=⟨i.b.toNat,by omega⟩
  rw [A]at b P
  have O:((0:Int)≤(t:Int))=True:=Ji
  have N:(t<p.code.length)=True:=Ji
  have M:((t:Int)<(p.code.length:Int))=True:=eq_true P
  have g:=D2r (S:=S) (show t<p.code.length by omega)
  by_cases d:S t=true
  ·rw [if_pos (by unfold Y5;rw [d];rfl)]at b
   rw [b]
   rw [d]at g
   simp -implicitDefEqProofs only [go_sem,B,l,f,j,m,z,E,D,c,A,O,N,M,v,o,g,Option.some.injEq,forall_eq']
  ·have J:S t=false:=by cases e:S t with|true=>exact(d e).elim|false=>rfl
   rw [J]at g
   by_cases e:(t:Int)=k
   ·rw [if_pos (by unfold Y5;rw [J,e];simp)]at b
    rw [b]
    obtain rfl:t=k:=by omega
    simp -implicitDefEqProofs only [go_sem,B,l,f,j,m,z,E,D,c,A,v,o,g,Option.some.injEq,forall_eq']
   ·have K:Y5 S k t=false:=by unfold Y5;rw [J,decide_eq_false e];rfl
    rw [if_neg (by rw [K];exact Bool.false_ne_true),Int.toNat_natCast]at b
    simp -implicitDefEqProofs only [go_sem,B,l,f,j,m,z,E,D,c,A,e,O,N,M,v,o,g,w,List.drop_one,List.tail_cons,G,Option.some.injEq,forall_eq']
    have fin:=fun s=>Q s (t,Y5 S k) ⟨by dsimp only;omega,K,b⟩ zk
    exact fin _ ze
 ·rw [if_neg c]at b
  have T:=eq_false c
  rw [b]
  simp -implicitDefEqProofs only [go_sem,B,l,f,j,m,z,E,D,T,Option.some.injEq,forall_eq']
end
end Go.Proofs.YtcaaenddpjepiaaGreatDoor
