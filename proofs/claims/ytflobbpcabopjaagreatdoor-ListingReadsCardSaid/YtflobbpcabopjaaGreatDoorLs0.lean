/-
 listing.Text. No condition.
-/
import Derived.Test.YtflobbpcabopjaaGreatDoorLs2
import Derived.Test.YtflobbpcabopjaaGreatDoorLsA2
import Derived.Test.YtflobbpcabopjaaGreatDoorBldP
import Derived.Test.YtflobbpcabopjaaGreatDoorArg
import Derived.Test.YtflobbpcabopjaaGreatDoorRows
set_option linter.unusedSimpArgs false set_option linter.unusedVariables false set_option maxRecDepth 100000
set_option maxHeartbeats 0
namespace Go.Proofs.YtflobbpcabopjaaGreatDoor
section
open Go Go.Abs
attribute [local irreducible] A0 Run J4
abbrev nB:Nat:=(11*10000+5)
abbrev nT:Nat:=(11*10000+9015)
-- EV: nB, nT
attribute [local go_sem] nB nT
noncomputable def B6e (p:Fn):V:=if A1f p=0 then .tup [.str (N4 p),.int .i64 0]else .tup [.str [],.int .i64 (A1f p)]
theorem A7X{b st:Nat}{l:List UInt8}{h:A2}(hb:bH b st l h){x:Nat}(h1:b≠x)(h2:nWS≠x)(h3:nWB≠x):B4 h x:=by
 exact Xr
theorem B1V(p:Fn)(hp:p.bd)(hd:p.depth≤1000000)(hv:n64L p.row)(hlen:A1f p=0→(N4 p).length≤66705012500):Abs.Pure Tryz.prog 11 [.agg p.row] (B6e p):=by
 have hck:=A1W p hp hd
 obtain⟨h1,h2⟩:=C9 p
 have hps:=Fn.row_sub I6 p
 unfold B6e
 by_cases hc: ¬A1f p=0
 ·rw [if_neg hc]
  generalize p.row=pr at*
  refine Pure.of 0 (A0.enter A2f Jo (Run.go 100 ?_))
  refine QF ?_
  refine A0.pureF hck zl ?_
  simp -implicitDefEqProofs only [go_sem,hc]
 have hc:A1f p=0:=Classical.not_not.1 hc
 rw [if_pos hc]
 rw [hc]at hck
 obtain⟨hdep,hok⟩:=B3m hc hv
 have hlen:=hlen hc
 have hall:=A8q hdep hok
 have hlc:=fun n=>B5q p [109,97,105,110] 0 n
 have hl1:=fun nm st whole J hR pre post h n hw hJ=>B9R p hok [109,97,105,110] 0 zf zd nm st whole J hR pre post h n hw hJ
 have hne:N4 p≠ []:=by obtain⟨a,ha⟩:=C1R p;rw [ha];simp
 unfold N4 at hlen hne⊢
 generalize F4 [109,97,105,110] 0 p=whole at*
 generalize p.row=pr at*
 refine Pure.of 0 (A0.enter A2f Jo (Run.go 100 ?_))
 refine QF ?_
 refine A0.pureF hck zl ?_
 refine QD ?_
 refine A0.out (hlc _) ?_
 rintro r h' n' hn' ⟨rfl,rfl,rfl⟩
 refine Qy ?_
 refine⟨by kernel_rfl,?_⟩
 generalize hB:Blk.loop 24 _ _ _ _ _=B
 have hlw: ∀pre l rest,whole=pre++l::rest→(pre.flatMap T2).length+(List.replicate (2*l.1) (32:UInt8)++(l.2++ [10])).length≤66705012500:=by
  intro pre l rest hw
  rw [hw,List.flatMap_append,List.flatMap_cons,List.length_append,List.length_append]at hlen
  unfold T2 at hlen⊢
  omega
 have hR:LRd nT 2 0 whole (fun pre h n=> ∃hb,bH nB 1 (pre.flatMap T2) hb∧h=(nT,2,B)::hb):=by
  refine⟨?_,?_,?_⟩
  ·rintro pre l rest h n hw ⟨hb,hbH,rfl⟩
   have hl:=hall l (by rw [hw];simp)
   have hlw:=hlw pre l rest hw
   rw [List.length_append,List.length_append,List.length_singleton]at hlw
   have hfl:(pre++ [l]).flatMap T2=(pre.flatMap T2++List.replicate (2*l.1) 32)++l.2++ [10]:=by
    rw [List.flatMap_append,List.flatMap_singleton]
    unfold T2
    simp only [List.append_assoc]
   subst hB
   have hrep:=C0v l.1 zd
   refine J4.enterU A9U A9V (B9C _ _ _ _) rfl fun Q hQ=>Run.go 100 ?_
   have a0:=A7X hbH (x:=nT) zf zf zf
   have c0:=a0.del
   simp -implicitDefEqProofs only [go_sem,c0]
   refine A0.pureF hrep ze ?_
   refine Qy ?_
   refine A0.use (rest:= [_]) (A6o nB 1 zf zf _ _ zd hb hbH n) rfl (fun e he e' he'=> ?_) ?_
   ·exact Kq
   rintro r hb1 n1 hn1 ⟨rfl,hbH1⟩
   have a1:=A7X hbH1 (x:=nT) zf zf zf
   have c1:=a1.del
   refine QE ?_
   refine A0.use (rest:= [_]) (A6o nB 1 zf zf _ _ (by rw [List.length_append];omega) hb1 hbH1 n1) rfl (fun e he e' he'=> ?_) ?_
   ·rw [List.mem_singleton.1 he]
    exact a1 e' he'
   rintro r hb2 n2 hn2 ⟨rfl,hbH2⟩
   have a2:=A7X hbH2 (x:=nT) zf zf zf
   have c2:=a2.del
   simp -implicitDefEqProofs only [go_sem,c2]
   refine A0.use (rest:= [_]) (A9t nB 1 zf zf _ 10 (by rw [List.length_append,List.length_append];omega) hb2 hbH2 n2) rfl (fun e he e' he'=> ?_) ?_
   ·rw [List.mem_singleton.1 he]
    exact a2 e' he'
   rintro r hb3 n3 hn3 ⟨rfl,hbH3⟩
   have a3:=A7X hbH3 (x:=nT) zf zf zf
   have c3:=a3.del
   simp -implicitDefEqProofs only [go_sem,c3]
   subst hQ
   exact .is ⟨rfl,hb3,by rw [hfl];exact hbH3,rfl⟩
  ·exact fun _ _ _ _ _ h=>h
  ·rintro pre h n ⟨hb,hbH,rfl⟩
   refine⟨?_,?_,?_,?_,?_,fun k _=> ?_⟩
   ·exact YM
   ·exact YM
   ·exact YM
   ·exact YM
   ·exact YM
   ·have hk:nT<1000000000000∧nB<1000000000000∧nWS<1000000000000∧nWB<1000000000000:=by decide
    exact B4.cons (by unfold lK;omega) (A7X hbH (by unfold lK;omega) (by unfold lK;omega) (by unfold lK;omega))
 refine A0.pre (xs':= [.yld nT 2,.iptr [[.int .i64 ((0:Nat):Int)]] 0 0,.iptr [pr] 0 0,.iptr [[.str [109,97,105,110]]] 0 0]) (h':= [(nT,2,B),(nB,1,.tb tB 2 [[.nilp,.nils]])]) (n':=3) (E8.wk ⟨B0.1 (by simp -implicitDefEqProofs only [go_sem,A3]),fun e he=> ?_,Nat.le_refl _⟩) rfl ?_
 ·rcases List.mem_cons.1 he with rfl|he
  ·exact List.mem_cons_self
  ·exact List.mem_cons_of_mem _ (List.mem_cons.2 (.inl (List.mem_singleton.1 he)))
 refine A0.mono (hl1 nT 2 whole _ hR [] [] _ 3 zg ⟨_,⟨.nilp,.inl rfl,.inl ⟨rfl,rfl⟩⟩,rfl⟩) ?_
 rintro r h' n' ⟨rfl,hb,hbH,rfl⟩
 have c0:=(A7X hbH (x:=nT) zf zf zf).del
 subst hB
 simp -implicitDefEqProofs only [go_sem,c0]
 rw [List.nil_append]at hbH
 obtain⟨a,ha,⟨h0,_⟩|⟨nb,sb,hnb,rfl⟩⟩:=hbH
 ·exact absurd h0 hne
 generalize List.flatMap T2 whole=l at*
 have hq:nb≠nB:=by rcases hnb with rfl|rfl<;>decide
 refine A0.at [1,0] [] (C8G nB 1 nb sb _ a l hq hne zd) rfl rfl ?_
 rintro r h' n2 hn2 ⟨rfl,rfl,rfl⟩
 exact ze
theorem A4L(p:Fn)(hp:p.bd)(hd:p.depth≤1000000)(hv:n64L p.row)(hn:p.each.length≤100):Abs.Pure Tryz.prog 11 [.agg p.row] (B6e p):=
 B1V p hp hd hv fun hc=>by
  obtain⟨hdep,hok⟩:=B3m hc hv
  exact(C4J hdep hok hn).2
end
section
open Go Go.Abs
mutual
def bkV:V→Nat
 | .str s=>s.length+1
 | .isl es=>bkLL es+1
 | .agg cs=>bkL cs
 |_=>1
def bkL:List V→Nat
 | []=>0
 |c::r=>bkV c+bkL r
def bkLL:List (List V)→Nat
 | []=>0
 |c::r=>bkL c+bkLL r
end
theorem B4D: ∀a b:List V,bkL (a++b)=bkL a+bkL b
 | [],b=>by rw [List.nil_append,bkL];omega
 |c::r,b=>by rw [List.cons_append,bkL,bkL,B4D r b];omega
theorem B9g: ∀l:List (List V),bkL l.flatten=bkLL l
 | []=>by rw [List.flatten_nil,bkL,bkLL]
 |c::r=>by rw [List.flatten_cons,B4D,bkLL,B9g r]
section
variable {H:Type}
mutual
theorem C5V: ∀d:DataW H,bkL (toL d)≤Rows.uptoBulk d
 | .lit l=>by cases l<;>simp [toL,bkL,bkV,Rows.uptoBulk]
 | .nil=>by simp [toL,bkL,bkV,bkLL,Rows.uptoBulk]
 | .ptr d=>by simp [toL,bkL,bkV,Rows.uptoBulk]
 | .slice elems spare=>by
  have:=bk_toLs elems
  simp only [toL,bkL,bkV,Rows.uptoBulk]
  omega
 | .agg parts=>by
  have:=bk_toLs parts
  simp only [toL,B9g,Rows.uptoBulk]
  omega
 | .iface _ d=>by simp [toL,bkL,bkV,Rows.uptoBulk]
 | .map entries=>by simp [toL,bkL,bkV,Rows.uptoBulk]
 | .held _=>by simp [toL,bkL,bkV,Rows.uptoBulk]
theorem bk_toLs: ∀l:List (DataW H),bkLL (toLs l)≤Rows.uptoBulkAll l
 | []=>by simp [toLs,bkLL]
 |d::r=>by
  have:=C5V d
  have:=bk_toLs r
  simp only [toLs,bkLL,Rows.uptoBulkAll]
  omega
end
theorem C2K: ∀{ds:List (DataW H)} {xs:List V},C2F ds xs→bkL xs≤Rows.uptoBulkAll ds
 | [],[],_=>by simp [bkL]
 | d::ds,a::xs,⟨h1,h2⟩=>by
  have h3:=C2K h2
  have h4:=C5V d
  have h5:bkV a=bkL (toL d):=by
   rcases h1 with rfl|h1
   ·rw [bkV]
   ·rw [←h1,bkL,bkL];omega
  simp only [bkL,Rows.uptoBulkAll]
  omega
 | [],_::_,h=>h.elim
 |_::_,[],h=>h.elim
theorem A7Z(l r:List (DataW H)):Rows.uptoBulkAll (l++r)=Rows.uptoBulkAll l+Rows.uptoBulkAll r:=by
 induction l with
 |nil=>simp [Rows.uptoBulkAll]
 |cons x l ih=>simp only [List.cons_append,Rows.uptoBulkAll,ih];omega
end
end
section
open Go Go.Abs
attribute [local irreducible] A0 Run
theorem C0r(p:Fn)(hp:p.bd)(hc:p.each.length≤1000000):Abs.Pure Tryz.prog 18 [.agg p.row] (.int .i64 p.each.length):=by
 have he:=A6G p hp hc
 have hps:=Fn.row_sub I6 p
 obtain⟨g1,g2⟩:=C9 p
 have hlE:(p.each.map Fn.row).length=p.each.length:=List.length_map ..
 generalize p.each.map Fn.row=ER at*
 generalize p.row=pr at*
 refine Pure.of 0 (A0.enter t7 Jo (Run.go 100 ?_))
 refine QG ?_
 refine A0.pureF he zl ?_
 simp -implicitDefEqProofs only [go_sem,hlE]
theorem B5k(p:Fn)(hp:p.bd)(hc:p.each.length≤1000000):Abs.Pure Tryz.prog 9 [.agg p.row] (.bool (decide ((p.each.length:Int)>60∨A3D p.each>2000))):=by
 have h1:=C0r p hp hc
 have h2:=C2o p hp hc
 have hps:=Fn.row_sub I6 p
 obtain⟨g1,g2⟩:=C9 p
 generalize hn:(p.each.length:Int)=n at*
 generalize A3D p.each=z at*
 generalize p.row=pr at*
 refine Pure.of 0 (A0.enter t6 Jo (Run.go 100 ?_))
 refine QG ?_
 refine A0.pureF h1 zl ?_
 by_cases c1:n>60
 ·simp -implicitDefEqProofs only [go_sem,c1]
 ·simp -implicitDefEqProofs only [go_sem,c1,g1,g2]
  refine A0.pureF h2 zl ?_
  refine QE ?_
  exact decide_eq_decide.2 zd
theorem C1i(p:Fn):bkL p.row=p.name.length+11+(bkLL (p.code.map Ins.row)+bkLL (p.lines.map E9)+bkLL (p.consts.map Kst.row)+bkLL (p.protos.map Fn.row)+bkLL (p.ups.map Upv.row)+bkLL (p.vars.map Vr.row)):=by
 rw [Fn.row_eq]
 simp only [bkL,bkV]
 omega
theorem C2V(p:Fn):11*p.each.length≤bkL p.row:=by
 induction p using Fn.ind with
 |h p ih=>
 have key: ∀l:List Fn,(∀q∈l,11*q.each.length≤bkL q.row)→11*(Fn.eachs l).length≤bkLL (l.map Fn.row):=by
  intro l
  induction l with
  |nil=>intro _;simp [Fn.eachs]
  |cons q r ihr=>
   intro h
   have h1:=h q List.mem_cons_self
   have h2:=ihr fun x hx=>h x (List.mem_cons_of_mem _ hx)
   rw [Fn.eachs,List.length_append,List.map_cons,bkLL]
   omega
 have:=key p.protos ih
 rw [Fn.each_eq,C1i,List.length_cons]
 omega
end
end Go.Proofs.YtflobbpcabopjaaGreatDoor
