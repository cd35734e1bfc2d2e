/-
 The reference's Decimal, Quote, the texts of numbers and of instructions. No condition.
-/
import Derived.Test.YtflobbpcabopjaaGreatDoorLsS
import Derived.Test.YtflobbpcabopjaaGreatDoorLsQ
import Derived.Test.YtflobbpcabopjaaGreatDoorFnR3
import Derived.Test.YtflobbpcabopjaaGreatDoorOpcN
import Derived.Test.YtflobbpcabopjaaGreatDoorCodeR
import Derived.Test.YtflobbpcabopjaaGreatDoorLsA2
import Derived.Test.YtflobbpcabopjaaGreatDoorFnRc
import Derived.Test.YtflobbpcabopjaaGreatDoorLs0
import Derived.Test.YtflobbpcabopjaaGreatDoorLsV
set_option linter.unusedVariables false
set_option linter.unusedSimpArgs false
set_option maxRecDepth 100000
set_option maxHeartbeats 0
namespace Go.Proofs.YtflobbpcabopjaaGreatDoor
open Go.Abs
attribute [local irreducible] A0 Run G9
-- EV: Ins.v, Ins.row, Shp.v, Shp.row
attribute [local go_sem] Ins.v Ins.row Shp.v Shp.row
abbrev nQr:Nat:=(88*10000+6)
def C8u(n:Int):Prop:= -9223372036854775808≤n∧n≤9223372036854775807
theorem B5g: ∀(k u:Nat),u<10^(k+1)→(Lib.decDigits u).length≤k+1
 |0,u,h=>by
  rw [Lib.decDigits,dif_pos (by simpa using h)];simp
 | k+1,u,h=>by
  rw [Lib.decDigits]
  by_cases c:u<10
  ·rw [dif_pos c];simp
  ·have:=B5g k (u/10) (by rw [Nat.pow_succ]at h;omega)
   rw [dif_neg c,List.length_append,List.length_singleton];omega
def dC(u:Nat):UInt8:=UInt8.ofNat (48+u%10)
def dL(u:Nat):List UInt8:=if u=0 then []else Lib.decDigits u
theorem C2O(u:Nat):Lib.decDigits u=dL (u/10)++ [dC u]:=by
 rw [Lib.decDigits]
 by_cases h:u<10
 ·rw [dif_pos h,dL,if_pos (by omega),dC,Nat.mod_eq_of_lt h];rfl
 ·rw [dif_neg h,dL,if_neg (by omega)];rfl
def B4H:List UInt8:= [48,49,50,51,52,53,54,55,56,57,97,98,99,100,101,102,103,104,105,106,107,108,109,110,111,112,113,114,115,116,117,118,119,120,121,122]
theorem C5q(u:Nat):B4H[((u:Int).tmod 10).toNat]? =some (dC u):=by
 have e:((u:Int).tmod 10).toNat=u%10:=by
  have:(u:Int).tmod 10=((u%10:Nat):Int):=by
   rw [Int.tmod_eq_emod_of_nonneg (by omega)];omega
  rw [this,Int.toNat_natCast]
 rw [e]
 have h: ∀k:Nat,k<10→B4H[k]? =some (UInt8.ofNat (48+k)):=by decide
 exact h _ (Nat.mod_lt _ (by omega))
theorem C2q(z:Int):IntKind.wrap .u64 z=z%18446744073709551616:=rfl
theorem C6f(l:List UInt8):(A9 l).length=l.length:=by simp [A9]
theorem C7M{l:List UInt8}{i:Nat}{c:UInt8}(h:l[i]? =some c):(A9 l)[i]? =some [.int .u8 (c.toNat:Int)]:=by
 unfold A9;rw [List.getElem?_map,h];rfl
theorem C4z(s:List UInt8):B7B (some (s.map fun b=> [V.int .u8 (b.toNat:Int)]))=some (.str s):=A6c
theorem C2y(n:Int)(hn:C8u n):Abs.Pure Tryz.prog 141 [.int .i64 n,.int .i64 10] (.tup [.str (Lib.itoa n),.int .i64 0]):=by
 refine Pure.of 0 (A0.enter A6D (Nat.le_of_ble_eq_true rfl) (Run.go 100 ?_))
 obtain⟨hn1,hn2⟩:=hn
 have e0:Lib.itoa n=(if n<0 then [45]else [])++Lib.decDigits n.natAbs:=by
  unfold Lib.itoa
  split
  ·rfl
  ·rw [List.nil_append];congr 1;omega
 have hu64:n.natAbs<18446744073709551616:=by omega
 have w1:n<0→IntKind.wrap .u64 (0-IntKind.wrap .u64 n)=(n.natAbs:Int):=fun h=>by rw [C2q,C2q];omega
 have w2: ¬n<0→IntKind.wrap .u64 n=(n.natAbs:Int):=fun h=>by rw [C2q];omega
 have wten:IntKind.wrap .u64 10=10:=by decide
 have hsg:n.natAbs≤9223372036854775808:=by omega
 have hD:(Lib.decDigits n.natAbs).length≤20:=B5g 19 _ (by omega)
 simp -implicitDefEqProofs only [go_sem,A3]
 refine⟨fun h=> ?_,fun h=> ?_⟩
 all_goals
  first|rw [w1 h]|rw [w2 h]
  have hd:=h
  first|replace hd:=eq_false hd|replace hd:=eq_true hd
  generalize n.natAbs=u0 at*
  refine Run.rounds (fun(x:Nat×List UInt8×Nat)=>⟨[(8,.sl (141*10000+23) x.2.2 0 x.2.1.length),(7,.str B4H),(6,.int .u64 x.1),(1,.int .i64 10),(0,.int .i64 n)],[((141*10000+23),x.2.2,.rows 1 (A9 x.2.1))],x.2.2+1⟩)
   (fun x=>x.1≤u0∧(x.2.1= []→x.1=u0)∧Lib.decDigits u0=(if x.2.1= []then Lib.decDigits x.1 else dL x.1)++x.2.1.reverse) (fun x=>2*x.1+(if x.2.1= []then 1 else 0)) (u0,[],0) (by simp -implicitDefEqProofs only [go_sem,A9,List.map_nil,List.length_nil,B4H]) ⟨Nat.le_refl _,fun _=>rfl,by simp⟩ ?_
  rintro⟨u,acc,m⟩ ⟨hu,hacc,hdig⟩ ih
  simp only at hu hacc hdig
  have hlen:acc.length≤20:=by
   have:=congrArg List.length hdig
   rw [List.length_append,List.length_reverse]at this
   omega
  have hnm:=C5q u
  refine Run.unf A3r (Run.go 100 ?_)
  have hc2:((u:Int)>0)=(u>0):=by simp
  by_cases hfin:u=0∧acc≠ []
  ·obtain⟨rfl,hne⟩:=hfin
   have hl0:((acc.length:Int)=0)=False:=eq_false (fun h=>hne (List.eq_nil_of_length_eq_zero (by omega)))
   clear ih
   rw [if_neg hne,dL,if_pos rfl,List.nil_append]at hdig
   have ho:Lib.itoa n=(if n<0 then acc++ [45]else acc).reverse:=by
    rw [e0,hdig]
    split<;>simp
   simp -implicitDefEqProofs only [go_sem,hl0,hd]
   first
    | (refine⟨by omega,⟨by omega,by omega⟩,?_⟩
       have hes:(acc.map fun b=> [V.int .u8 (b.toNat:Int)])++ [[.int .u8 45]]=A9 (acc++ [45]):=by simp [A9]
       have hl:acc.length+1=(acc++ [45]).length:=by simp
       rw [hes,hl]
       rw [if_pos h]at ho
       have hlen:=show (acc++ [45]).length≤21 by simp;omega
       rw [ho]
       clear hdig hacc hne hl0 hes hl ho
       generalize acc++ [45]=l at*
       generalize hst:m+1=st8)
    | (refine⟨⟨by omega,by omega⟩,?_⟩
       have hes:(acc.map fun b=> [V.int .u8 (b.toNat:Int)])=A9 acc:=rfl
       rw [hes]
       rw [if_neg h]at ho
       have hlen:acc.length≤21:=by omega
       rw [ho]
       clear hdig hacc hne hl0 hes ho
       generalize acc=l at*
       generalize hst:m=st8)
   all_goals
    generalize hes:A9 l=es
    have hrow: ∀(k:Nat) (c:UInt8),l[k]? =some c→es[k]? =some [.int .u8 (c.toNat:Int)]:=fun k c hk=>hes ▸ C7M hk
    have hsz:es.length=l.length:=by rw [←hes];exact C6f l
    clear hes
    refine Run.rounds (fun(x:Nat×List UInt8×Nat)=>⟨[(10,.int .i64 ((x.1:Int)-1)),(9,.sl (141*10000+49) x.2.2 0 x.2.1.length),(8,.sl (141*10000+23) st8 0 l.length)],[((141*10000+49),x.2.2,.rows 1 (A9 x.2.1)),((141*10000+23),st8,.rows 1 es)],x.2.2+1⟩)
     (fun x=>x.1≤l.length∧x.2.1=(l.drop x.1).reverse) (fun x=>x.1) (l.length,[],st8+1) (by simp -implicitDefEqProofs only [go_sem,A9,List.map_nil,List.length_nil]) ⟨Nat.le_refl _,by simp⟩ ?_
    rintro⟨k,out,m2⟩ ⟨hk,hout⟩ ih2
    simp only at hk hout
    refine Run.unf A3s (Run.go 100 ?_)
    cases k with
    |zero=>
     clear ih2
     rw [List.drop_zero]at hout
     have hb:=C4z out
     simp -implicitDefEqProofs only [go_sem,hb]
     rw [hout]
    | succ j=>
     have hj:j<l.length:=by omega
     obtain⟨c,hc⟩: ∃c,l[j]? =some c:=⟨l[j],by simp [hj]⟩
     have hr:=hrow j c hc
     have hz:(((j+1:Nat):Int)-1)=(j:Int):=by omega
     have hz0:((0:Int)≤(j:Int))=True:=eq_true (by omega)
     have hz1:((j:Int)<(l.length:Int))=True:=eq_true (by omega)
     have hol:out.length≤21:=by rw [hout];simp;omega
     simp only [hz]
     simp -implicitDefEqProofs only [go_sem,hz0,hz1,hr,Option.some.injEq,forall_eq']
     refine⟨by omega,by omega,⟨by omega,by omega⟩,ih2 _ (j,out++ [c],m2+1) ⟨by simp only;omega,?_⟩ (by simp only;omega) ?_⟩
     ·simp only
      rw [hout]
      rw [List.drop_eq_getElem_cons (by omega:j<l.length)]
      have:l[j]=c:=by rw [List.getElem?_eq_getElem hj]at hc;injection hc
      rw [this,List.reverse_cons]
     ·simp -implicitDefEqProofs only [go_sem,List.map_append,List.map_cons,List.map_nil,List.length_append,List.length_cons,List.length_nil]
  ·have hstep:=C2O u
   have hw:IntKind.wrap .u64 ((u:Int).tdiv 10)=((u/10:Nat):Int):=by
    have:(u:Int).tdiv 10=((u/10:Nat):Int):=by rw [Int.tdiv_eq_ediv_of_nonneg (by omega)];omega
    rw [this,C2q];omega
   have hm0:((0:Int)≤(u:Int).tmod 10)=True:=eq_true (Int.tmod_nonneg _ (by omega))
   have hnext:Lib.decDigits u0=(if acc++ [dC u]= []then Lib.decDigits (u/10)else dL (u/10))++(acc++ [dC u]).reverse:=by
    rw [if_neg (by simp),List.reverse_append,hdig]
    have:(if acc= []then Lib.decDigits u else dL u)=Lib.decDigits u:=by
     split
     ·rfl
     ·rename_i hne
      rw [dL,if_neg fun h=>hfin ⟨h,hne⟩]
    rw [this,hstep];simp
   have hup:((0:Int)<(u:Int))=True∨(((0:Int)<(u:Int))=False∧acc= []):=by
    by_cases h:u=0
    ·exact .inr ⟨eq_false (by omega),Decidable.byContradiction fun hne=>hfin ⟨h,hne⟩⟩
    ·exact .inl (eq_true (by omega))
   have hmu:2*(u/10)+(if acc++ [dC u]= []then 1 else 0)<2*u+(if acc= []then 1 else 0):=by
    rw [if_neg (by simp)]
    by_cases h:u=0
    ·have:acc= []:=Decidable.byContradiction fun hne=>hfin ⟨h,hne⟩
     rw [if_pos this];omega
    ·omega
   have fin:=fun s hw=>ih s (u/10,acc++ [dC u],m+1) ⟨by simp only;omega,by simp,hnext⟩ hmu hw
   clear ih
   rcases hup with hup|⟨hup,rfl⟩
   ·simp -implicitDefEqProofs only [go_sem,hup,wten,hm0,hnm,hw]
    refine⟨by omega,fin _ ?_⟩
    simp -implicitDefEqProofs only [go_sem,List.map_append,List.map_cons,List.map_nil,List.length_append,List.length_cons,List.length_nil]
   ·simp -implicitDefEqProofs only [go_sem,hup,wten,hm0,hnm,hw]
    refine fin _ ?_
    simp -implicitDefEqProofs only [go_sem,List.map_append,List.map_cons,List.map_nil,List.length_append,List.length_cons,List.length_nil,List.nil_append]
theorem A1S(n:Int)(hn:C8u n):Abs.Pure Tryz.prog 90 [.int .i64 n] (.str (Lib.itoa n)):=by
 have h:=C2y n hn
 refine Pure.of 0 (A0.enter A3t (Nat.le_of_ble_eq_true rfl) (Run.go 100 ?_))
 simp -implicitDefEqProofs only [go_sem,A3]
 refine A0.pureF h (by simp -implicitDefEqProofs only [go_sem]) ?_
 simp -implicitDefEqProofs only [go_sem]
theorem C2n(op:Int):(shp op).word=(frm op).word∧(shp op).ha= !decide ((frm op).a=0)∧(shp op).hb= !decide ((frm op).b=0)∧(shp op).hc= !decide ((frm op).c=0)∧(shp op).hd= !decide ((frm op).d=0):=by
 unfold shp frm
 cases L3 op with
 |true=>exact⟨rfl,rfl,rfl,rfl,rfl⟩
 |false=>exact⟨rfl,rfl,rfl,rfl,rfl⟩
theorem D0y(op:Int)(k:Nat)(x:Int)(h:(frm op).ks[k]? =some x):(shp op).row[1+k]? =some (.bool (!decide (x=0))):=by
 obtain⟨_,h1,h2,h3,h4⟩:=C2n op
 unfold Shp.row
 rw [h1,h2,h3,h4]
 match k with
 |0=>simp [Frm.ks]at h⊢;rw [h]
 |1=>simp [Frm.ks]at h⊢;rw [h]
 |2=>simp [Frm.ks]at h⊢;rw [h]
 |3=>simp [Frm.ks]at h⊢;rw [h]
 |k+4=>simp [Frm.ks]at h
theorem B2n: ∀(ks xs:List Int) (k x:Int),ks.length=xs.length→E7 (ks++ [k]) (xs++ [x])=E7 ks xs++pcs k x
 | [],[],k,x,_=>by simp [E7,pcs]
 | [],_::_,_,_,h=>by cases h
 |_::_,[],_,_,h=>by cases h
 |a::ks,b::xs,k,x,h=>by
  rw [List.cons_append,List.cons_append,E7,E7,B2n ks xs k x (by simpa using h),List.append_assoc]
theorem B2o: ∀(ks xs:List Int),(∀x∈xs,inB x)→(E7 ks xs).length≤22*xs.length
 | [],xs,_=>by simp [E7]
 |_::_,[],_=>by simp [E7]
 |k::ks,x::xs,h=>by
  have ih:=B2o ks xs fun y hy=>h y (List.mem_cons_of_mem _ hy)
  have hx:=B2m k x (h x List.mem_cons_self)
  unfold pcs at hx
  rw [E7,List.length_append,List.length_cons]
  omega
theorem B8h(i:Ins)(hb:inB i.a∧inB i.b∧inB i.c∧inB i.d):Abs.Pure Tryz.prog 91 [i.v] (.str (T9 i)):=by
 have hd:=B6E i.op
 have hf:=B2w i
 have hwl:=A6i i.op
 have hkl:(frm i.op).ks.length=4:=rfl
 have hxl:i.fs.length=4:=rfl
 have hxb: ∀x∈i.fs,inB x:=fun x hx=>by
  simp only [Ins.fs,List.mem_cons,List.not_mem_nil,or_false]at hx
  rcases hx with rfl|rfl|rfl|rfl
  ·exact hb.1
  ·exact hb.2.1
  ·exact hb.2.2.1
  ·exact hb.2.2.2
 have htl:T9 i=(frm i.op).word++E7 (frm i.op).ks i.fs:=by
  unfold T9
  cases h:L3 i.op with
  |true=>rfl
  |false=>
   have:frm i.op=⟨[],0,0,0,0,0⟩:=by unfold frm;rw [h];rfl
   rw [this]
   simp [Frm.ks,Ins.fs,E7]
 have hrow: ∀(k:Nat) (x:Int),i.fs[k]? =some x→(A8G i.fs)[k]? =some (.int .i64 x):=fun k x h=>by unfold A8G;rw [List.getElem?_map,h];rfl
 have hhas:=D0y i.op
 have hw1:=(C2n i.op).1
 have hr0:(shp i.op).row[0]? =some (.str (shp i.op).word):=rfl
 have hrl:(shp i.op).row.length=13:=rfl
 have hil:(A8G i.fs).length=4:=rfl
 have hpl: ∀k,k≤4→(E7 ((frm i.op).ks.take k) (i.fs.take k)).length≤22*k:=fun k hk=>by
  have:=B2o ((frm i.op).ks.take k) (i.fs.take k) fun x hx=>hxb x (List.mem_of_mem_take hx)
  rw [List.length_take]at this
  omega
 rw [htl]
 refine Pure.of 0 (A0.enter A6I (Nat.le_of_ble_eq_true rfl) (Run.go 100 ?_))
 simp -implicitDefEqProofs only [go_sem,A3]
 refine A0.pureF hd (by simp -implicitDefEqProofs only [go_sem]) ?_
 unfold Shp.v
 generalize (shp i.op).row=sr at*
 simp -implicitDefEqProofs only [go_sem,hrl,hr0]
 refine A0.pureF hf (by simp -implicitDefEqProofs only [go_sem]) ?_
 generalize A8G i.fs=lr at*
 simp -implicitDefEqProofs only [go_sem,hil,hrl,hr0,Option.some.injEq,forall_eq']
 generalize (frm i.op).word=wd at*
 generalize (frm i.op).ks=ks at*
 generalize i.fs=xs at*
 rw [hw1]
 refine Run.rounds (fun(k:Nat)=>⟨[(6,.int .i64 k),(5,.str (wd++E7 (ks.take k) (xs.take k))),(4,.ptr (91*10000+4) 2 0 0),(3,.ptr (91*10000+3) 1 0 0)],
   [((91*10000+4),2,.rows 4 [lr]),((91*10000+3),1,.rows 13 [sr])],3⟩) (fun k=>k≤4) (fun k=>4-k) 0 (by simp -implicitDefEqProofs only [go_sem,List.take_zero,E7,List.append_nil]) (Nat.zero_le _) ?_
 intro k hk ih
 refine Run.unf A3u (Run.go 100 ?_)
 by_cases hend:k=4
 ·subst hend
  rw [List.take_of_length_le (by omega),List.take_of_length_le (by omega)]
  simp -implicitDefEqProofs only [go_sem]
 ·have hc:((k:Int)<4)=True:=eq_true (by omega)
  have h0:((0:Int)≤(k:Int))=True:=eq_true (by omega)
  have hz:((k+1:Nat):Int)=(k:Int)+1:=by omega
  obtain⟨κ,hκ⟩: ∃κ,ks[k]? =some κ:=⟨ks[k]'(by omega),by simp [hkl]⟩
  obtain⟨x,hx⟩: ∃x,xs[k]? =some x:=⟨xs[k]'(by omega),by simp [hxl]⟩
  have hh:=hhas k κ hκ
  have hr:=hrow k x hx
  rw [←Nat.mul_one k]at hh hr
  have hsn:E7 (ks.take (k+1)) (xs.take (k+1))=E7 (ks.take k) (xs.take k)++pcs κ x:=by
   rw [List.take_add_one,List.take_add_one,hκ,hx]
   exact B2n _ _ _ _ (by simp [hkl,hxl])
  have hpk:=hpl k hk
  by_cases hz0:κ=0
  ·have hp:pcs κ x= []:=by unfold pcs;rw [if_pos hz0]
   rw [hp,List.append_nil]at hsn
   simp -implicitDefEqProofs only [go_sem,hc,h0,hh,hz0,Option.some.injEq,forall_eq']
   refine⟨by omega,ih _ (k+1) (by omega) (by omega) ?_⟩
   simp only [hz,hsn]
   simp -implicitDefEqProofs only [go_sem]
  ·have hp:pcs κ x=32::Lib.itoa x:=by unfold pcs;rw [if_neg hz0]
   rw [hp]at hsn
   have hxi:=hxb x (List.mem_of_getElem? hx)
   have hdec:=A1S x ⟨hxi.1,hxi.2⟩
   have hil':=A1a hxi.1 hxi.2
   simp -implicitDefEqProofs only [go_sem,hc,h0,hh,hz0,hr,Option.some.injEq,forall_eq']
   refine⟨by omega,A0.pureF hdec (by simp -implicitDefEqProofs only [go_sem]) ?_⟩
   simp -implicitDefEqProofs only [go_sem]
   refine⟨by omega,by omega,ih _ (k+1) (by omega) (by omega) ?_⟩
   simp only [hz,hsn]
   simp -implicitDefEqProofs only [go_sem,List.append_assoc,List.cons_append,List.nil_append]
theorem A4i(s:List UInt8)(hs:s.length≤1000000000):Abs.Pure Tryz.prog 88 [.str s] (.str (F9 s)):=by
 refine Pure.of 0 (A0.enter A5B (Nat.le_of_ble_eq_true rfl) (Run.go 100 ?_))
 simp -implicitDefEqProofs only [go_sem,nQr,A3]
 refine Run.rounds (fun(k:Nat)=>⟨[(4,.int .i64 k),(3,.sl nQr k 0 (qS s k).length),(0,.str s)],[(nQr,k,.rows 1 (A9 (qS s k)))],k+1⟩) (fun k=>k≤s.length) (fun k=>s.length-k) 0 (by simp -implicitDefEqProofs only [go_sem,nQr,qS,A9,List.take_zero,List.flatMap_nil,List.map_cons,List.map_nil];try simp) (Nat.zero_le _) ?_
 intro k hk ih
 refine Run.unf A2O (Run.go 100 ?_)
 have hB:=C5I s k
 have hR:=T7 (qS s k)
 have hS:=B1r (qS s k)
 have hT:=B2G (qS s k)
 by_cases hlt:k<s.length
 ·obtain⟨c,hc⟩: ∃c,s[k]? =some c:=⟨s[k],by simp [hlt]⟩
  have q0:((k:Int)<(s.length:Int))=True:=eq_true (by omega)
  have q1:((0:Int)≤(k:Int))=True:=eq_true (by omega)
  have hzk:((k:Int)+1)=((k+1:Nat):Int):=by omega
  have nx:=C2f hc
  have nl:(qS s (k+1)).length=(qS s k).length+(C9 c).length:=by rw [nx,List.length_append]
  have nr:A9 (qS s (k+1))=A9 (qS s k)++A9 (C9 c):=by rw [nx,m0]
  have fin:=fun s'=>ih s' (k+1) (by omega) (by omega)
  rw [nl,nr]at fin
  have hcl:=c.toNat_lt
  generalize A9 (qS s k)=BR at*
  generalize (qS s k).length=L at*
  have f1:(L≤L)=True:=eq_true (Nat.le_refl _)
  by_cases c10:c.toNat=10
  ·have e:(c.toNat:Int)=10:=by omega
   have hq:C9 c= [92,110]:=by unfold C9;rw [if_pos c10]
   rw [hq]at fin
   simp only [A9,List.map_cons,List.map_nil,List.length_cons,List.length_nil,show ((92:UInt8).toNat:Int)=92 from rfl,show ((110:UInt8).toNat:Int)=110 from rfl]at fin
   simp -implicitDefEqProofs only [go_sem,nQr,q0,q1,hc,hR,hS,hT,f1,e]
   exact⟨by omega,⟨by omega,by omega⟩,fin _ (by simp -implicitDefEqProofs only [go_sem,nQr,hzk])⟩
  have n10: ¬(c.toNat:Int)=10:=by omega
  by_cases c9:c.toNat=9
  ·have e:(c.toNat:Int)=9:=by omega
   have hq:C9 c= [92,116]:=by unfold C9;rw [if_neg c10,if_pos c9]
   rw [hq]at fin
   simp only [A9,List.map_cons,List.map_nil,List.length_cons,List.length_nil,show ((92:UInt8).toNat:Int)=92 from rfl,show ((116:UInt8).toNat:Int)=116 from rfl]at fin
   simp -implicitDefEqProofs only [go_sem,nQr,q0,q1,hc,hR,hS,hT,f1,e]
   exact⟨by omega,⟨by omega,by omega⟩,fin _ (by simp -implicitDefEqProofs only [go_sem,nQr,hzk])⟩
  have n9: ¬(c.toNat:Int)=9:=by omega
  by_cases c92:c.toNat=92∨c.toNat=34
  ·have hq:C9 c= [92,c]:=by unfold C9;rw [if_neg c10,if_neg c9,if_pos c92]
   rw [hq]at fin
   simp only [A9,List.map_cons,List.map_nil,List.length_cons,List.length_nil,show ((92:UInt8).toNat:Int)=92 from rfl]at fin
   rcases c92 with c92|c34
   ·have e:(c.toNat:Int)=92:=by omega
    simp only [e]at fin
    simp -implicitDefEqProofs only [go_sem,nQr,q0,q1,hc,hR,hS,hT,f1,e]
    exact⟨by omega,⟨by omega,by omega⟩,fin _ (by simp -implicitDefEqProofs only [go_sem,nQr,hzk])⟩
   ·have e:(c.toNat:Int)=34:=by omega
    simp only [e]at fin
    simp -implicitDefEqProofs only [go_sem,nQr,q0,q1,hc,hR,hS,hT,f1,e]
    exact⟨by omega,⟨by omega,by omega⟩,fin _ (by simp -implicitDefEqProofs only [go_sem,nQr,hzk])⟩
  have n92: ¬(c.toNat:Int)=92:=by omega
  have n34: ¬(c.toNat:Int)=34:=by omega
  by_cases cx:c.toNat<32∨126<c.toNat
  ·have hq:C9 c= [92,UInt8.ofNat (48+c.toNat/100),UInt8.ofNat (48+c.toNat/10%10),UInt8.ofNat (48+c.toNat%10)]:=by unfold C9;rw [if_neg c10,if_neg c9,if_neg c92,if_pos cx]
   rw [hq]at fin
   have w1:=C2g c.toNat (by omega)
   have w2:=C2h c.toNat (by omega)
   have w3:=C2i c.toNat (by omega)
   simp only [A9,List.map_cons,List.map_nil,List.length_cons,List.length_nil,show ((92:UInt8).toNat:Int)=92 from rfl]at fin
   by_cases cl:c.toNat<32
   ·have e:((c.toNat:Int)<32)=True:=eq_true (by omega)
    simp -implicitDefEqProofs only [go_sem,nQr,q0,q1,hc,hR,hS,hT,f1,n10,n9,n92,n34,e,w1,w2,w3]
    exact⟨by omega,⟨by omega,by omega⟩,fin _ (by simp -implicitDefEqProofs only [go_sem,nQr,hzk])⟩
   ·have e:((c.toNat:Int)<32)=False:=eq_false (by omega)
    have e2:((126:Int)<(c.toNat:Int))=True:=eq_true (by omega)
    simp -implicitDefEqProofs only [go_sem,nQr,q0,q1,hc,hR,hS,hT,f1,n10,n9,n92,n34,e,e2,w1,w2,w3]
    exact⟨by omega,⟨by omega,by omega⟩,fin _ (by simp -implicitDefEqProofs only [go_sem,nQr,hzk])⟩
  ·have hq:C9 c= [c]:=by unfold C9;rw [if_neg c10,if_neg c9,if_neg c92,if_neg cx]
   rw [hq]at fin
   simp only [A9,List.map_cons,List.map_nil,List.length_cons,List.length_nil]at fin
   have e:((c.toNat:Int)<32)=False:=eq_false (by omega)
   have e2:((126:Int)<(c.toNat:Int))=False:=eq_false (by omega)
   simp -implicitDefEqProofs only [go_sem,nQr,q0,q1,hc,hR,hS,hT,f1,n10,n9,n92,n34,e,e2]
   exact⟨by omega,⟨by omega,by omega⟩,fin _ (by simp -implicitDefEqProofs only [go_sem,nQr,hzk])⟩
 ·have e:k=s.length:=by omega
  subst e
  have ft:(A9 (qS s s.length)++ [[V.int .u8 34]]).take ((qS s s.length).length+1)=A9 (F9 s):=by
   rw [List.take_of_length_le (by rw [List.length_append,hR];exact Nat.le_refl _),←C5H,m0];rfl
  have hbst:B7B (some (A9 (F9 s)))=some (.str (F9 s)):=A6c
  generalize A9 (F9 s)=Y at ft hbst
  generalize A9 (qS s s.length)=BR at*
  generalize (qS s s.length).length=L at*
  have f1:(L≤L)=True:=eq_true (Nat.le_refl _)
  simp -implicitDefEqProofs only [go_sem,nQr,Int.lt_irrefl,hR,hS,hT,f1,ft,hbst]
  omega
theorem C3J(p q:Int)(h:K0 p q=true):Abs.Pure Tryz.prog 140 [.agg [.int .i64 p,.int .i64 q]] (.str (B2c p q)):=by
 have hv:=B5S p q
 rw [h]at hv
 obtain⟨hp,hq⟩:=A9Y h
 have ip:=A1S p hp
 have iq:=A1S q hq
 have lp:=D3 hp
 have lq:=D3 hq
 unfold B2c
 refine Pure.of 0 (A0.enter A6E (Nat.le_of_ble_eq_true rfl) (Run.go 100 ?_))
 simp -implicitDefEqProofs only [go_sem,A3]
 refine A0.pureF hv (by simp -implicitDefEqProofs only [go_sem]) ?_
 by_cases h1:q=1
 ·subst h1
  simp -implicitDefEqProofs only [go_sem]
  refine A0.pureF ip (by simp -implicitDefEqProofs only [go_sem]) ?_
  simp -implicitDefEqProofs only [go_sem]
 ·simp -implicitDefEqProofs only [go_sem,h1]
  refine A0.pureF ip (by simp -implicitDefEqProofs only [go_sem]) ?_
  simp -implicitDefEqProofs only [go_sem]
  refine⟨by omega,?_⟩
  refine A0.pureF iq (by simp -implicitDefEqProofs only [go_sem]) ?_
  simp -implicitDefEqProofs only [go_sem,List.length_append,List.length_cons,List.length_nil,List.append_assoc,List.cons_append,List.nil_append]
  omega
theorem C3N(v:Kst)(h:D1 v=true)(hk:v.kind≤3):Abs.Pure Tryz.prog 89 [.agg v.row] (.str (A0R v)):=by
 obtain⟨kind,p,q,str,ref⟩:=v
 simp only at hk
 refine Pure.of 0 (A0.enter A5S (Nat.le_of_ble_eq_true rfl) (Run.go 100 ?_))
 by_cases k1:kind=1
 ·subst k1
  have hr:ref=0∨ref=1:=by simp [D1]at h;exact h.1
  rcases hr with rfl|rfl
  ·simp -implicitDefEqProofs only [go_sem,A3,Kst.row,A0R]
  ·simp -implicitDefEqProofs only [go_sem,A3,Kst.row,A0R]
 by_cases k2:kind=2
 ·subst k2
  have hn:K0 p q=true:=by simp [D1]at h;exact h.1
  simp -implicitDefEqProofs only [go_sem,A3,Kst.row,A0R]
  refine A0.pureF (C3J p q hn) (by simp -implicitDefEqProofs only [go_sem]) ?_
  simp -implicitDefEqProofs only [go_sem]
 by_cases k3:kind=3
 ·subst k3
  have hl:str.length≤4096:=by simp [D1]at h;exact h.1
  simp -implicitDefEqProofs only [go_sem,A3,Kst.row,A0R]
  refine A0.pureF (A4i str (by omega)) (by simp -implicitDefEqProofs only [go_sem]) ?_
  simp -implicitDefEqProofs only [go_sem]
 simp -implicitDefEqProofs only [go_sem,A3,Kst.row,A0R,k1,k2,k3]
theorem J8(n:Int)(hn:inB n):Abs.Pure Tryz.prog 62 [.int .i64 n] (.str (Lib.itoa n)):=by
 have h:=A1S n hn
 refine Pure.of 0 (A0.enter A8r (Nat.le_of_ble_eq_true rfl) (Run.go 100 ?_))
 simp -implicitDefEqProofs only [go_sem,A3]
 refine A0.pureF h (by simp -implicitDefEqProofs only [go_sem]) ?_
 simp -implicitDefEqProofs only [go_sem]
-- EV: Ins.v, Ins.row
attribute [local go_sem] Ins.v Ins.row
theorem B2z(m:Nat)(hm:m≤1000):Abs.Pure Tryz.prog 57 [.int .i64 m] (.str (List.replicate (2*m) 32)):=by
 refine Pure.of 0 (A0.enter A4y (Nat.le_of_ble_eq_true rfl) (Run.go 100 ?_))
 simp -implicitDefEqProofs only [go_sem,A3]
 refine Run.rounds (fun(k:Nat)=>⟨[(4,.int .i64 k),(3,.str (List.replicate (2*k) 32)),(0,.int .i64 m)],[],0⟩) (fun k=>k≤m) (fun k=>m-k) 0 (by simp -implicitDefEqProofs only [go_sem,Nat.mul_zero,List.replicate_zero]) (Nat.zero_le _) ?_
 intro k hk ih
 refine Run.unf A1Z (Run.go 100 ?_)
 by_cases hlt:k<m
 ·have q0:((k:Int)<(m:Int))=True:=eq_true (by omega)
  have hzk:((k:Int)+1)=((k+1:Nat):Int):=by omega
  have e:List.replicate (2*k) (32:UInt8)++ [32,32]=List.replicate (2*(k+1)) 32:=by
   rw [show 2*(k+1)=2*k+2 by omega,←List.replicate_append_replicate];rfl
  simp -implicitDefEqProofs only [go_sem,q0,List.length_replicate]
  refine⟨by omega,by omega,ih _ (k+1) (by omega) (by omega) ?_⟩
  rw [e]
  simp -implicitDefEqProofs only [go_sem,hzk]
 ·obtain rfl:k=m:=by omega
  simp -implicitDefEqProofs only [go_sem,Int.lt_irrefl]
theorem C1c(p:Fn)(h:p.Okl)(path:List UInt8)(hpl:path.length≤1000000):Abs.Pure Tryz.prog 58 [.str path,.agg p.row] (.str (D4 p path)):=by
 have hq:=A4i p.name (by have:=h.name;omega)
 have i1:=J8 p.line h.nums.1
 have i2:=J8 p.params h.nums.2.1
 have i3:=J8 p.regs h.nums.2.2
 have lq:=Y4 p.name
 have ln:=h.name
 have l1:=D3 h.nums.1
 have l2:=D3 h.nums.2.1
 have l3:=D3 h.nums.2.2
 rw [Fn.row_eq]
 unfold D4
 obtain⟨name,line,params,vararg,regs,code,lines,consts,protos,ups,vars⟩:=p
 simp only at*
 generalize code.map Ins.row=r1 at*
 generalize lines.map C7=r2 at*
 generalize consts.map Kst.row=r3 at*
 generalize protos.map Fn.row=r4 at*
 generalize ups.map Upv.row=r5 at*
 generalize vars.map Vr.row=r6 at*
 generalize F9 name=Q at*
 generalize Lib.itoa line=I1 at*
 generalize Lib.itoa params=I2 at*
 generalize Lib.itoa regs=I3 at*
 refine Pure.of 0 (A0.enter A2X (Nat.le_of_ble_eq_true rfl) (Run.go 100 ?_))
 simp -implicitDefEqProofs only [go_sem,A3]
 repeat(refine⟨by first|omega|(simp only [List.length_append,List.length_cons,List.length_nil];omega),?_⟩)
 refine A0.pureF hq (by simp -implicitDefEqProofs only [go_sem]) ?_
 simp -implicitDefEqProofs only [go_sem]
 repeat(refine⟨by first|omega|(simp only [List.length_append,List.length_cons,List.length_nil];omega),?_⟩)
 refine A0.pureF i1 (by simp -implicitDefEqProofs only [go_sem]) ?_
 simp -implicitDefEqProofs only [go_sem]
 repeat(refine⟨by first|omega|(simp only [List.length_append,List.length_cons,List.length_nil];omega),?_⟩)
 refine A0.pureF i2 (by simp -implicitDefEqProofs only [go_sem]) ?_
 simp -implicitDefEqProofs only [go_sem]
 repeat(refine⟨by first|omega|(simp only [List.length_append,List.length_cons,List.length_nil];omega),?_⟩)
 refine A0.pureF i3 (by simp -implicitDefEqProofs only [go_sem]) ?_
 cases vararg with
 |false=>
  simp -implicitDefEqProofs only [go_sem]
  repeat(refine⟨by first|omega|(simp only [List.length_append,List.length_cons,List.length_nil];omega),?_⟩)
  simp [F2]
 |true=>
  simp -implicitDefEqProofs only [go_sem]
  repeat(refine⟨by first|omega|(simp only [List.length_append,List.length_cons,List.length_nil];omega),?_⟩)
  simp [F2]
theorem B9D(i:Nat)(v:Kst)(hi:i≤1000000)(h:D1 v=true)(hk:v.kind≤3):Abs.Pure Tryz.prog 59 [.int .i64 i,.agg v.row] (.str (B9 i v)):=by
 have i1:=J8 i (by unfold inB;omega)
 have hv:=C3N v h hk
 have hvs:=Kst.row_sub E8 v
 have hvl:v.row.length=5:=rfl
 have hvt:v.row.take 5=v.row:=rfl
 have l1:=p6 hi
 have l2:=C0c h hk
 unfold B9
 generalize v.row=vr at*
 generalize A0R v=X at*
 generalize Lib.itoa (i:Int)=I1 at*
 refine Pure.of 0 (A0.enter A1Y (Nat.le_of_ble_eq_true rfl) (Run.go 100 ?_))
 simp -implicitDefEqProofs only [go_sem,A3,hvl,hvt]
 refine A0.pureF i1 (by simp -implicitDefEqProofs only [go_sem,hvs]) ?_
 simp -implicitDefEqProofs only [go_sem,hvt]
 repeat(refine⟨by first|omega|(simp only [List.length_append,List.length_cons,List.length_nil];omega),?_⟩)
 refine A0.pureF hv (by simp -implicitDefEqProofs only [go_sem,hvs]) ?_
 simp -implicitDefEqProofs only [go_sem]
 repeat(refine⟨by first|omega|(simp only [List.length_append,List.length_cons,List.length_nil];omega),?_⟩)
 simp [F2]
theorem C5P(u:Upv)(i:Nat)(hi:i≤1000000)(h:u.name.length≤40)(hu:inB u.idx):Abs.Pure Tryz.prog 60 [.int .i64 i,.agg u.row] (.str (upT i u)):=by
 have hq:=A4i u.name (by omega)
 have i1:=J8 i (by unfold inB;omega)
 have i2:=J8 u.idx hu
 have lq:=Y4 u.name
 have l1:=p6 hi
 have l2:=D3 hu
 unfold upT
 obtain⟨name,loc,idx⟩:=u
 simp only at*
 generalize F9 name=Q at*
 generalize Lib.itoa (i:Int)=I1 at*
 generalize Lib.itoa idx=I2 at*
 refine Pure.of 0 (A0.enter A4z (Nat.le_of_ble_eq_true rfl) (Run.go 100 ?_))
 cases loc<;>
 ·simp -implicitDefEqProofs only [go_sem,A3,Upv.row]
  refine A0.pureF i1 (by simp -implicitDefEqProofs only [go_sem]) ?_
  simp -implicitDefEqProofs only [go_sem]
  repeat(refine⟨by first|omega|(simp only [List.length_append,List.length_cons,List.length_nil];omega),?_⟩)
  refine A0.pureF hq (by simp -implicitDefEqProofs only [go_sem]) ?_
  simp -implicitDefEqProofs only [go_sem]
  repeat(refine⟨by first|omega|(simp only [List.length_append,List.length_cons,List.length_nil];omega),?_⟩)
  refine A0.pureF i2 (by simp -implicitDefEqProofs only [go_sem]) ?_
  simp -implicitDefEqProofs only [go_sem]
  repeat(refine⟨by first|omega|(simp only [List.length_append,List.length_cons,List.length_nil];omega),?_⟩)
  simp [F2]
theorem C3P(u:Vr)(i:Nat)(hi:i≤1000000)(h:u.name.length≤40)(h1:inB u.reg)(h2:inB u.lo)(h3:inB u.hi)(h4:0≤u.attr∧u.attr≤2):Abs.Pure Tryz.prog 61 [.int .i64 i,.agg u.row] (.str (I4 i u)):=by
 have hq:=A4i u.name (by omega)
 have i0:=J8 i (by unfold inB;omega)
 have i1:=J8 u.reg h1
 have i2:=J8 u.lo h2
 have i3:=J8 u.hi h3
 have lq:=Y4 u.name
 have l0:=p6 hi
 have l1:=D3 h1
 have l2:=D3 h2
 have l3:=D3 h3
 unfold I4
 obtain⟨name,reg,lo,hi,attr⟩:=u
 simp only at*
 generalize F9 name=Q at*
 generalize Lib.itoa (i:Int)=I0 at*
 generalize Lib.itoa reg=I1 at*
 generalize Lib.itoa lo=I2 at*
 generalize Lib.itoa hi=I3 at*
 have ha:attr=0∨attr=1∨attr=2:=by omega
 refine Pure.of 0 (A0.enter A3F (Nat.le_of_ble_eq_true rfl) (Run.go 100 ?_))
 simp -implicitDefEqProofs only [go_sem,A3,Vr.row]
 refine A0.pureF i0 (by simp -implicitDefEqProofs only [go_sem]) ?_
 simp -implicitDefEqProofs only [go_sem]
 repeat(refine⟨by first|omega|(simp only [List.length_append,List.length_cons,List.length_nil];omega),?_⟩)
 refine A0.pureF hq (by simp -implicitDefEqProofs only [go_sem]) ?_
 simp -implicitDefEqProofs only [go_sem]
 repeat(refine⟨by first|omega|(simp only [List.length_append,List.length_cons,List.length_nil];omega),?_⟩)
 refine A0.pureF i1 (by simp -implicitDefEqProofs only [go_sem]) ?_
 simp -implicitDefEqProofs only [go_sem]
 repeat(refine⟨by first|omega|(simp only [List.length_append,List.length_cons,List.length_nil];omega),?_⟩)
 refine A0.pureF i2 (by simp -implicitDefEqProofs only [go_sem]) ?_
 simp -implicitDefEqProofs only [go_sem]
 repeat(refine⟨by first|omega|(simp only [List.length_append,List.length_cons,List.length_nil];omega),?_⟩)
 refine A0.pureF i3 (by simp -implicitDefEqProofs only [go_sem]) ?_
 rcases ha with rfl|rfl|rfl<;>
 ·simp -implicitDefEqProofs only [go_sem]
  repeat(refine⟨by first|omega|(simp only [List.length_append,List.length_cons,List.length_nil];omega),?_⟩)
  simp [F2]
theorem C0Y(x:Ins)(i:Nat)(l:List UInt8)(hi:i≤1000000)(hx:chk x=0)(hl:l.length≤21):Abs.Pure Tryz.prog 63 [.int .i64 i,.str l,.agg x.row] (.str (F2 [Lib.itoa i,l,T9 x])):=by
 have i1:=J8 i (by unfold inB;omega)
 have ht:=B8h x (B7D hx)
 have hvs:=Ins.row_sub E8 x
 have hvl:x.row.length=5:=rfl
 have hvt:x.row.take 5=x.row:=rfl
 have l1:=p6 hi
 have l2:=B7p hx
 unfold Ins.v at ht
 generalize x.row=xr at*
 generalize T9 x=X at*
 generalize Lib.itoa (i:Int)=I1 at*
 refine Pure.of 0 (A0.enter A2U (Nat.le_of_ble_eq_true rfl) (Run.go 100 ?_))
 simp -implicitDefEqProofs only [go_sem,A3,hvl,hvt]
 refine A0.pureF i1 (by simp -implicitDefEqProofs only [go_sem,hvs]) ?_
 simp -implicitDefEqProofs only [go_sem,hvt]
 repeat(refine⟨by first|omega|(simp only [List.length_append,List.length_cons,List.length_nil];omega),?_⟩)
 refine A0.pureF ht (by simp -implicitDefEqProofs only [go_sem,hvs]) ?_
 simp -implicitDefEqProofs only [go_sem]
 repeat(refine⟨by first|omega|(simp only [List.length_append,List.length_cons,List.length_nil];omega),?_⟩)
 simp [F2]
theorem B2d{α:Type}(f:Nat→α→List UInt8)(d:Nat)(l:List α)(k:Nat): ∃r,B0 f d 0 l=B0 f d 0 (l.take k)++r:=
 ⟨_,by conv=>lhs;rw [←List.take_append_drop k l,B1d]⟩
theorem B9l(path:List UInt8)(d:Nat)(l:List Fn)(k:Nat): ∃r,linesFs path d 0 l=linesFs path d 0 (l.take k)++r:=
 ⟨_,by conv=>lhs;rw [←List.take_append_drop k l,A0V]⟩
abbrev flT(l:List (Nat×List UInt8)):List UInt8:=l.flatMap S5
theorem B8T(l:List (Nat×List UInt8))(d:Nat)(t:List UInt8):flT (l++ [(d,t)])=flT l++List.replicate (2*d) 32++t++ [10]:=by
 unfold flT
 rw [List.flatMap_append,List.flatMap_cons,List.flatMap_nil,List.append_nil]
 unfold S5
 simp only [List.append_assoc]
theorem C1Q(l m:List (Nat×List UInt8)):flT (l++m)=flT l++flT m:=List.flatMap_append
theorem B1M{l m r:List (Nat×List UInt8)}{n:Nat}(h:l=m++r)(hl:(flT l).length≤n):(flT m).length≤n:=by
 rw [h,C1Q,List.length_append]at hl
 omega
theorem C1R{p:Fn}(hok: ∀q∈p.each,q.Okl)(hn:p.each.length≤100)(path:List UInt8)(d:Nat)(hpath:path.length≤4+22*d)(hd:d+p.depth≤65):(flT (G4 path d p)).length≤66705012500:=by
 have h1:=B3l (B0Z p hok path d hpath hd)
 have h2:=B3x p hok
 rw [A2s]at h1
 unfold flT
 omega
theorem depths_mem: ∀{l:List Fn} {q:Fn},q∈l→q.depth≤Fn.depths l
 | [],_,h=>by cases h
 |x::r,q,h=>by
  rw [Fn.depths]
  rcases List.mem_cons.1 h with rfl|h
  ·exact Nat.le_max_left _ _
  ·exact Nat.le_trans (depths_mem h) (Nat.le_max_right _ _)
theorem C2R{p q:Fn}(h:q∈p.protos):q.each.length≤p.each.length:=by
 have key: ∀{l:List Fn},q∈l→q.each.length≤(Fn.eachs l).length:=by
  intro l
  induction l with
  |nil=>intro h;cases h
  |cons x r ih=>
   intro h
   rw [Fn.eachs,List.length_append]
   rcases List.mem_cons.1 h with rfl|h
   ·omega
   ·have:=ih h;omega
 rw [Fn.each_eq p,List.length_cons]
 have:=key h
 omega
theorem C3F(p:Fn):(∀q∈p.each,q.Okl)→p.each.length≤100→ ∀(path:List UInt8) (d:Nat),path.length≤4+22*d→d+p.depth≤65→
  Abs.Pure Tryz.prog 27 [.agg p.row,.str path,.int .i64 d] (.str (flT (G4 path d p))):=by
 induction p using Fn.ind with
 | h p ih'=>
  intro hok hn path d hpath hdep
  have ho:=hok p p.self_mem
  have hps:=Fn.row_sub E8 p
  obtain⟨h1,h2⟩:=B5 p
  have hhead:=C1c p ho path (by omega)
  have hhl:=B3g ho path
  have htot:=C1R hok hn path d hpath hdep
  have hsp:=B2z d (by omega)
  have hsp1:=B2z (d+1) (by omega)
  have heq:=p.row_eq
  have h5:p.row[5]? =some (.isl (p.code.map Ins.row)):=by rw [heq];rfl
  have h6:p.row[6]? =some (.isl (p.lines.map C7)):=by rw [heq];rfl
  have h7:p.row[7]? =some (.isl (p.consts.map Kst.row)):=by rw [heq];rfl
  have h8:p.row[8]? =some (.isl (p.protos.map Fn.row)):=by rw [heq];rfl
  have h9:p.row[9]? =some (.isl (p.ups.map Upv.row)):=by rw [heq];rfl
  have h10:p.row[10]? =some (.isl (p.vars.map Vr.row)):=by rw [heq];rfl
  clear heq
  rw [U1]at htot⊢
  unfold A7Y at htot⊢
  have k5:(p.code.map Ins.row).length=p.code.length:=List.length_map ..
  have k6:(p.lines.map C7).length=p.lines.length:=List.length_map ..
  have k7:(p.consts.map Kst.row).length=p.consts.length:=List.length_map ..
  have k8:(p.protos.map Fn.row).length=p.protos.length:=List.length_map ..
  have k9:(p.ups.map Upv.row).length=p.ups.length:=List.length_map ..
  have k10:(p.vars.map Vr.row).length=p.vars.length:=List.length_map ..
  have z5:=eq_true (A7 Ins.row 5 (fun _=>rfl) p.code)
  have z6:=eq_true (A7 C7 1 (fun _=>rfl) p.lines)
  have z7:=eq_true (A7 Kst.row 5 (fun _=>rfl) p.consts)
  have z8:=eq_true (A7 Fn.row 11 Fn.row_len p.protos)
  have z9:=eq_true (A7 Upv.row 3 (fun _=>rfl) p.ups)
  have z10:=eq_true (A7 Vr.row 5 (fun _=>rfl) p.vars)
  have r5: ∀(k:Nat) v,p.code[k]? =some v→(p.code.map Ins.row)[k]? =some v.row:=fun k v hk=>by rw [List.getElem?_map,hk];rfl
  have r6: ∀(k:Nat) v,p.lines[k]? =some v→(p.lines.map C7)[k]? =some [.int .i64 v]:=fun k v hk=>by rw [List.getElem?_map,hk];rfl
  have r7: ∀(k:Nat) v,p.consts[k]? =some v→(p.consts.map Kst.row)[k]? =some v.row:=fun k v hk=>by rw [List.getElem?_map,hk];rfl
  have r8: ∀(k:Nat) v,p.protos[k]? =some v→(p.protos.map Fn.row)[k]? =some v.row:=fun k v hk=>by rw [List.getElem?_map,hk];rfl
  have r9: ∀(k:Nat) v,p.ups[k]? =some v→(p.ups.map Upv.row)[k]? =some v.row:=fun k v hk=>by rw [List.getElem?_map,hk];rfl
  have r10: ∀(k:Nat) v,p.vars[k]? =some v→(p.vars.map Vr.row)[k]? =some v.row:=fun k v hk=>by rw [List.getElem?_map,hk];rfl
  have b5:=ho.code.1
  have b7:=ho.consts.1
  have b8:=ho.protos
  have b9:=ho.ups.1
  have b10:=ho.vars.1
  generalize p.code.map Ins.row=e5 at*
  generalize p.lines.map C7=e6 at*
  generalize p.consts.map Kst.row=e7 at*
  generalize p.protos.map Fn.row=e8 at*
  generalize p.ups.map Upv.row=e9 at*
  generalize p.vars.map Vr.row=e10 at*
  generalize p.row=pr at*
  have hzd:((d:Int)+1)=((d+1:Nat):Int):=by omega
  have hS0:List.replicate (2*d) 32++D4 p path++ [10]=flT [(d,D4 p path)]:=by
   have:=B8T [] d (D4 p path)
   rw [List.nil_append]at this
   rw [this]
   rfl
  refine Pure.of 0 (A0.enter A2W (Nat.le_of_ble_eq_true rfl) (Run.go 100 ?_))
  simp -implicitDefEqProofs only [go_sem,A3,h1,h2]
  refine A0.pureF hsp (by simp -implicitDefEqProofs only [go_sem,hps]) ?_
  simp -implicitDefEqProofs only [go_sem,h1]
  refine A0.pureF hhead (by simp -implicitDefEqProofs only [go_sem,hps]) ?_
  simp -implicitDefEqProofs only [go_sem,hzd,List.length_append,List.length_cons,List.length_nil,List.length_replicate]
  repeat(refine⟨by omega,?_⟩)
  refine A0.pureF hsp1 (by simp -implicitDefEqProofs only [go_sem,hps]) ?_
  simp -implicitDefEqProofs only [go_sem]
  rw [hS0]
  generalize hIN:List.replicate (2*(d+1)) (32:UInt8)=IN
  have hinl:IN.length≤200:=by rw [←hIN,List.length_replicate];omega
  have next: ∀(M:List (Nat×List UInt8)) (t:List UInt8),flT M++IN++t++ [10]=flT (M++ [(d+1,t)]):=fun M t=>by rw [B8T,hIN]
  refine Run.roundsK (fun(x:Nat×Nat)=>⟨[(9,.int .i64 x.1),(8,.str IN),(7,.str (flT ([(d,D4 p path)]++B0 B9 (d+1) 0 (p.consts.take x.1)))),(3,.iptr [pr] 0 0),(2,.int .i64 d),(1,.str path)],[],x.2⟩) (fun x=>x.1≤p.consts.length) (fun x=>p.consts.length-x.1) (0,0) ?_ (Nat.zero_le _) ?_
  ·exact F7.wk ⟨B3.1 (by simp -implicitDefEqProofs only [go_sem,List.take_zero,B0,List.append_nil]),fun e he=>he,Nat.le_refl _⟩
  rintro⟨k,m⟩ hk ih
  simp only at hk ih⊢
  refine Run.unf A1i (Run.go 100 ?_)
  by_cases hlt:k<p.consts.length
  ·have q0:((k:Int)<(p.consts.length:Int))=True:=eq_true (by omega)
   have q1:((0:Int)≤(k:Int))=True:=eq_true (by omega)
   have hzk:((k:Int)+1)=((k+1:Nat):Int):=by omega
   obtain⟨v,hv⟩: ∃v,p.consts[k]? =some v:=⟨p.consts[k],by simp [hlt]⟩
   have hvm:=List.mem_of_getElem? hv
   have hvr:=r7 k v hv
   have hvv:=(ho.consts.2 v hvm)
   have hcon:=B9D k v (by omega) hvv.1 hvv.2
   have hvs:=Kst.row_sub E8 v
   have hvl:v.row.length=5:=rfl
   have hvt:v.row.take 5=v.row:=rfl
   have hl:=B0W hvv.1 hvv.2 (i:=k) (by omega)
   have hnx:=Y8 B9 (d+1) hv
   obtain⟨rr,hrr⟩:=B2d B9 (d+1) p.consts k
   have hb:(flT ([(d,D4 p path)]++B0 B9 (d+1) 0 (p.consts.take k))).length≤66705012500:=B1M (r:=rr++(B0 upT (d+1) 0 p.ups++B0 I4 (d+1) 0 p.vars++B0 (F8 p.lines) (d+1) 0 p.code++linesFs path (d+1) 0 p.protos)) (by rw [hrr];simp only [List.append_assoc,List.cons_append,List.nil_append,List.append_nil]) htot
   have hnext:=next ([(d,D4 p path)]++B0 B9 (d+1) 0 (p.consts.take k)) (B9 k v)
   rw [List.append_assoc _ _ [(d+1,B9 k v)],←hnx]at hnext
   generalize flT ([(d,D4 p path)]++B0 B9 (d+1) 0 (p.consts.take k))=S at*
   generalize v.row=vr at*
   simp -implicitDefEqProofs only [go_sem,h7,h9,h10,k7,z7,q0,q1,hvr,hvl,hvt,Option.some.injEq,forall_eq']
   repeat(refine⟨by omega,?_⟩)
   refine A0.pureF hcon (by simp -implicitDefEqProofs only [go_sem,hvs]) ?_
   simp -implicitDefEqProofs only [go_sem,List.length_append,List.length_cons,List.length_nil]
   repeat(refine⟨by omega,?_⟩)
   rw [hnext]
   exact ih _ (k+1,m) (by simp only;omega) (by simp only;omega) (F7.wk ⟨B3.1 (by simp -implicitDefEqProofs only [go_sem,hzk]),fun e he=>he,Nat.le_refl _⟩)
  obtain rfl:k=p.consts.length:=by omega
  rw [List.take_length]
  simp -implicitDefEqProofs only [go_sem,h7,h9,h10,k7,Int.lt_irrefl]
  clear ih
  refine Run.roundsK (fun(x:Nat×Nat)=>⟨[(10,.int .i64 x.1),(8,.str IN),(7,.str (flT ([(d,D4 p path)]++B0 B9 (d+1) 0 p.consts++B0 upT (d+1) 0 (p.ups.take x.1)))),(3,.iptr [pr] 0 0),(2,.int .i64 d),(1,.str path)],[],x.2⟩) (fun x=>x.1≤p.ups.length) (fun x=>p.ups.length-x.1) (0,m) ?_ (Nat.zero_le _) ?_
  ·exact F7.wk ⟨B3.1 (by simp -implicitDefEqProofs only [go_sem,List.take_zero,B0,List.append_nil]),fun e he=>he,Nat.le_refl _⟩
  rintro⟨k,m⟩ hk ih
  simp only at hk ih⊢
  refine Run.unf A1j (Run.go 100 ?_)
  by_cases hlt:k<p.ups.length
  ·have q0:((k:Int)<(p.ups.length:Int))=True:=eq_true (by omega)
   have q1:((0:Int)≤(k:Int))=True:=eq_true (by omega)
   have hzk:((k:Int)+1)=((k+1:Nat):Int):=by omega
   obtain⟨v,hv⟩: ∃v,p.ups[k]? =some v:=⟨p.ups[k],by simp [hlt]⟩
   have hvm:=List.mem_of_getElem? hv
   have hvr:=r9 k v hv
   have hvv:=(ho.ups.2 v hvm)
   have hcon:=C5P v k (by omega) hvv.1 hvv.2
   have hvs:=Upv.row_sub E8 v
   have hvl:v.row.length=3:=rfl
   have hvt:v.row.take 3=v.row:=rfl
   have hl:=B8q hvv.1 hvv.2 (i:=k) (by omega)
   have hnx:=Y8 upT (d+1) hv
   obtain⟨rr,hrr⟩:=B2d upT (d+1) p.ups k
   have hb:(flT ([(d,D4 p path)]++B0 B9 (d+1) 0 p.consts++B0 upT (d+1) 0 (p.ups.take k))).length≤66705012500:=B1M (r:=rr++(B0 I4 (d+1) 0 p.vars++B0 (F8 p.lines) (d+1) 0 p.code++linesFs path (d+1) 0 p.protos)) (by rw [hrr];simp only [List.append_assoc,List.cons_append,List.nil_append,List.append_nil]) htot
   have hnext:=next ([(d,D4 p path)]++B0 B9 (d+1) 0 p.consts++B0 upT (d+1) 0 (p.ups.take k)) (upT k v)
   rw [List.append_assoc _ _ [(d+1,upT k v)],←hnx]at hnext
   generalize flT ([(d,D4 p path)]++B0 B9 (d+1) 0 p.consts++B0 upT (d+1) 0 (p.ups.take k))=S at*
   generalize v.row=vr at*
   simp -implicitDefEqProofs only [go_sem,h7,h9,h10,k9,z9,q0,q1,hvr,hvl,hvt,Option.some.injEq,forall_eq']
   repeat(refine⟨by omega,?_⟩)
   refine A0.pureF hcon (by simp -implicitDefEqProofs only [go_sem,hvs]) ?_
   simp -implicitDefEqProofs only [go_sem,List.length_append,List.length_cons,List.length_nil]
   repeat(refine⟨by omega,?_⟩)
   rw [hnext]
   exact ih _ (k+1,m) (by simp only;omega) (by simp only;omega) (F7.wk ⟨B3.1 (by simp -implicitDefEqProofs only [go_sem,hzk]),fun e he=>he,Nat.le_refl _⟩)
  obtain rfl:k=p.ups.length:=by omega
  rw [List.take_length]
  simp -implicitDefEqProofs only [go_sem,h7,h9,h10,k9,Int.lt_irrefl]
  clear ih
  refine Run.roundsK (fun(x:Nat×Nat)=>⟨[(11,.int .i64 x.1),(8,.str IN),(7,.str (flT ([(d,D4 p path)]++B0 B9 (d+1) 0 p.consts++B0 upT (d+1) 0 p.ups++B0 I4 (d+1) 0 (p.vars.take x.1)))),(3,.iptr [pr] 0 0),(2,.int .i64 d),(1,.str path)],[],x.2⟩) (fun x=>x.1≤p.vars.length) (fun x=>p.vars.length-x.1) (0,m) ?_ (Nat.zero_le _) ?_
  ·exact F7.wk ⟨B3.1 (by simp -implicitDefEqProofs only [go_sem,List.take_zero,B0,List.append_nil]),fun e he=>he,Nat.le_refl _⟩
  rintro⟨k,m⟩ hk ih
  simp only at hk ih⊢
  refine Run.unf A1k (Run.go 100 ?_)
  by_cases hlt:k<p.vars.length
  ·have q0:((k:Int)<(p.vars.length:Int))=True:=eq_true (by omega)
   have q1:((0:Int)≤(k:Int))=True:=eq_true (by omega)
   have hzk:((k:Int)+1)=((k+1:Nat):Int):=by omega
   obtain⟨v,hv⟩: ∃v,p.vars[k]? =some v:=⟨p.vars[k],by simp [hlt]⟩
   have hvm:=List.mem_of_getElem? hv
   have hvr:=r10 k v hv
   have hvv:=(ho.vars.2 v hvm)
   have hcon:=C3P v k (by omega) hvv.1 hvv.2.1 hvv.2.2.1 hvv.2.2.2.1 hvv.2.2.2.2
   have hvs:=Vr.row_sub E8 v
   have hvl:v.row.length=5:=rfl
   have hvt:v.row.take 5=v.row:=rfl
   have hl:=B6f hvv.1 hvv.2.1 hvv.2.2.1 hvv.2.2.2.1 (i:=k) (by omega)
   have hnx:=Y8 I4 (d+1) hv
   obtain⟨rr,hrr⟩:=B2d I4 (d+1) p.vars k
   have hb:(flT ([(d,D4 p path)]++B0 B9 (d+1) 0 p.consts++B0 upT (d+1) 0 p.ups++B0 I4 (d+1) 0 (p.vars.take k))).length≤66705012500:=B1M (r:=rr++(B0 (F8 p.lines) (d+1) 0 p.code++linesFs path (d+1) 0 p.protos)) (by rw [hrr];simp only [List.append_assoc,List.cons_append,List.nil_append,List.append_nil]) htot
   have hnext:=next ([(d,D4 p path)]++B0 B9 (d+1) 0 p.consts++B0 upT (d+1) 0 p.ups++B0 I4 (d+1) 0 (p.vars.take k)) (I4 k v)
   rw [List.append_assoc _ _ [(d+1,I4 k v)],←hnx]at hnext
   generalize flT ([(d,D4 p path)]++B0 B9 (d+1) 0 p.consts++B0 upT (d+1) 0 p.ups++B0 I4 (d+1) 0 (p.vars.take k))=S at*
   generalize v.row=vr at*
   simp -implicitDefEqProofs only [go_sem,h7,h9,h10,k10,z10,q0,q1,hvr,hvl,hvt,Option.some.injEq,forall_eq']
   repeat(refine⟨by omega,?_⟩)
   refine A0.pureF hcon (by simp -implicitDefEqProofs only [go_sem,hvs]) ?_
   simp -implicitDefEqProofs only [go_sem,List.length_append,List.length_cons,List.length_nil]
   repeat(refine⟨by omega,?_⟩)
   rw [hnext]
   exact ih _ (k+1,m) (by simp only;omega) (by simp only;omega) (F7.wk ⟨B3.1 (by simp -implicitDefEqProofs only [go_sem,hzk]),fun e he=>he,Nat.le_refl _⟩)
  obtain rfl:k=p.vars.length:=by omega
  rw [List.take_length]
  simp -implicitDefEqProofs only [go_sem,h7,h9,h10,k10,Int.lt_irrefl]
  clear ih
  refine Run.roundsK (fun(x:Nat×Nat)=>⟨[(12,.int .i64 x.1),(8,.str IN),(7,.str (flT ([(d,D4 p path)]++B0 B9 (d+1) 0 p.consts++B0 upT (d+1) 0 p.ups++B0 I4 (d+1) 0 p.vars++B0 (F8 p.lines) (d+1) 0 (p.code.take x.1)))),(3,.iptr [pr] 0 0),(2,.int .i64 d),(1,.str path)],[],x.2⟩) (fun x=>x.1≤p.code.length) (fun x=>p.code.length-x.1) (0,m) ?_ (Nat.zero_le _) ?_
  ·exact F7.wk ⟨B3.1 (by simp -implicitDefEqProofs only [go_sem,List.take_zero,B0,List.append_nil]),fun e he=>he,Nat.le_refl _⟩
  rintro⟨k,m⟩ hk ih
  simp only at hk ih⊢
  refine Run.unf A1l (Run.go 100 ?_)
  by_cases hlt:k<p.code.length
  ·have q0:((k:Int)<(p.code.length:Int))=True:=eq_true (by omega)
   have q1:((0:Int)≤(k:Int))=True:=eq_true (by omega)
   have hzk:((k:Int)+1)=((k+1:Nat):Int):=by omega
   obtain⟨v,hv⟩: ∃v,p.code[k]? =some v:=⟨p.code[k],by simp [hlt]⟩
   have hvm:=List.mem_of_getElem? hv
   have hvr:=r5 k v hv
   have hvv:=ho.code.2 v hvm
   have hlinl:=B9j ho.lines.2 (i:=k) (by rcases ho.lines.1 with h0|h0<;>omega)
   have hcon:=C0Y v k (A1u p.lines k) (by omega) hvv hlinl
   have hvs:=Ins.row_sub E8 v
   have hvl:v.row.length=5:=rfl
   have hvt:v.row.take 5=v.row:=rfl
   have hl:=B2Z ho.lines.2 hvv (i:=k) (by omega) (by rcases ho.lines.1 with h0|h0<;>omega)
   rw [show F2 [Lib.itoa k,A1u p.lines k,T9 v]=F8 p.lines k v from rfl]at hcon
   have hnx:=Y8 (F8 p.lines) (d+1) hv
   obtain⟨rr,hrr⟩:=B2d (F8 p.lines) (d+1) p.code k
   have hb:(flT ([(d,D4 p path)]++B0 B9 (d+1) 0 p.consts++B0 upT (d+1) 0 p.ups++B0 I4 (d+1) 0 p.vars++B0 (F8 p.lines) (d+1) 0 (p.code.take k))).length≤66705012500:=B1M (r:=rr++linesFs path (d+1) 0 p.protos) (by rw [hrr];simp only [List.append_assoc,List.cons_append,List.nil_append,List.append_nil]) htot
   have hnext:=next ([(d,D4 p path)]++B0 B9 (d+1) 0 p.consts++B0 upT (d+1) 0 p.ups++B0 I4 (d+1) 0 p.vars++B0 (F8 p.lines) (d+1) 0 (p.code.take k)) (F8 p.lines k v)
   rw [List.append_assoc _ _ [(d+1,F8 p.lines k v)],←hnx]at hnext
   generalize flT ([(d,D4 p path)]++B0 B9 (d+1) 0 p.consts++B0 upT (d+1) 0 p.ups++B0 I4 (d+1) 0 p.vars++B0 (F8 p.lines) (d+1) 0 (p.code.take k))=S at*
   generalize v.row=vr at*
   have hlt5:=ho.lines.1
   by_cases hnl:p.lines.length=0
   ·have hlT:A1u p.lines k= [45]:=by unfold A1u;rw [if_pos hnl]
    have q2:((k:Int)<(p.lines.length:Int))=False:=eq_false (by omega)
    rw [hlT]at hcon
    simp -implicitDefEqProofs only [go_sem,h5,h6,k5,k6,z5,q0,q1,q2,hvr,hvl,hvt,Option.some.injEq,forall_eq']
    repeat(refine⟨by omega,?_⟩)
    refine A0.pureF hcon (by simp -implicitDefEqProofs only [go_sem,hvs]) ?_
    simp -implicitDefEqProofs only [go_sem,List.length_append,List.length_cons,List.length_nil]
    repeat(refine⟨by omega,?_⟩)
    rw [hnext]
    exact ih _ (k+1,m) (by simp only;omega) (by simp only;omega) (F7.wk ⟨B3.1 (by simp -implicitDefEqProofs only [go_sem,hzk]),fun e he=>he,Nat.le_refl _⟩)
   ·have hlc:p.lines.length=p.code.length:=by omega
    obtain⟨z,hz⟩: ∃z,p.lines[k]? =some z:=⟨p.lines[k],by simp [hlc,hlt]⟩
    have hzr:=r6 k z hz
    have hlT:A1u p.lines k=Lib.itoa z:=by unfold A1u;rw [if_neg hnl,hz];rfl
    have q2:((k:Int)<(p.lines.length:Int))=True:=eq_true (by omega)
    have hdz:=J8 z (ho.lines.2 z (List.mem_of_getElem? hz))
    rw [hlT]at hcon
    simp -implicitDefEqProofs only [go_sem,h5,h6,k5,k6,z5,z6,q0,q1,q2,hvr,hzr,hvl,hvt,Option.some.injEq,forall_eq']
    repeat(refine⟨by omega,?_⟩)
    refine A0.pureF hdz (by simp -implicitDefEqProofs only [go_sem]) ?_
    simp -implicitDefEqProofs only [go_sem,h5,k5,z5,q0,q1,hvr,hvl,hvt,Option.some.injEq,forall_eq']
    repeat(refine⟨by omega,?_⟩)
    refine A0.pureF hcon (by simp -implicitDefEqProofs only [go_sem,hvs]) ?_
    simp -implicitDefEqProofs only [go_sem,List.length_append,List.length_cons,List.length_nil]
    repeat(refine⟨by omega,?_⟩)
    rw [hnext]
    exact ih _ (k+1,m) (by simp only;omega) (by simp only;omega) (F7.wk ⟨B3.1 (by simp -implicitDefEqProofs only [go_sem,hzk]),fun e he=>he,Nat.le_refl _⟩)
  obtain rfl:k=p.code.length:=by omega
  rw [List.take_length]
  simp -implicitDefEqProofs only [go_sem,h5,k5,Int.lt_irrefl]
  clear ih
  refine Run.roundsK (fun(x:Nat×Nat)=>⟨[(14,.int .i64 x.1),(7,.str (flT ([(d,D4 p path)]++B0 B9 (d+1) 0 p.consts++B0 upT (d+1) 0 p.ups++B0 I4 (d+1) 0 p.vars++B0 (F8 p.lines) (d+1) 0 p.code++linesFs path (d+1) 0 (p.protos.take x.1)))),(3,.iptr [pr] 0 0),(2,.int .i64 d),(1,.str path)],[],x.2⟩) (fun x=>x.1≤p.protos.length) (fun x=>p.protos.length-x.1) (0,m) ?_ (Nat.zero_le _) ?_
  ·exact F7.wk ⟨B3.1 (by simp -implicitDefEqProofs only [go_sem,List.take_zero,linesFs,List.append_nil]),fun e he=>he,Nat.le_refl _⟩
  rintro⟨k,m⟩ hk ih
  simp only at hk ih⊢
  refine Run.unf A1m (Run.go 100 ?_)
  by_cases hlt:k<p.protos.length
  ·have q0:((k:Int)<(p.protos.length:Int))=True:=eq_true (by omega)
   have q1:((0:Int)≤(k:Int))=True:=eq_true (by omega)
   have hzk:((k:Int)+1)=((k+1:Nat):Int):=by omega
   obtain⟨v,hv⟩: ∃v,p.protos[k]? =some v:=⟨p.protos[k],by simp [hlt]⟩
   have hvm:=List.mem_of_getElem? hv
   have hvr:=r8 k v hv
   have ik:=J8 k (by unfold inB;omega)
   have il:=p6 (n:=k) (by omega)
   have hdp:p.depth=Fn.depths p.protos+1:=p.depth_eq
   have hdv:=depths_mem hvm
   have hvok: ∀q∈v.each,q.Okl:=fun q hq=>hok q (Fn.each_trans p v (Fn.child_mem p.self_mem hvm) q hq)
   have hvn:=C2R hvm
   have hcon:=ih' v hvm hvok (by omega) (path++46::Lib.itoa k) (d+1) (by rw [List.length_append,List.length_cons];omega) (by omega)
   have hvt:=C1R hvok (by omega) (path++46::Lib.itoa k) (d+1) (by rw [List.length_append,List.length_cons];omega) (by omega)
   have hvs:=Fn.row_sub E8 v
   have hvl:=Fn.row_len v
   have hvt:v.row.take 11=v.row:=List.take_of_length_le (by rw [hvl];exact Nat.le_refl _)
   have hnx:=B1R path (d+1) hv
   obtain⟨rr,hrr⟩:=B9l path (d+1) p.protos k
   have hb:(flT ([(d,D4 p path)]++B0 B9 (d+1) 0 p.consts++B0 upT (d+1) 0 p.ups++B0 I4 (d+1) 0 p.vars++B0 (F8 p.lines) (d+1) 0 p.code++linesFs path (d+1) 0 (p.protos.take k))).length≤66705012500:=B1M (r:=rr) (by rw [hrr];simp only [List.append_assoc,List.cons_append,List.nil_append,List.append_nil]) htot
   have hnext:=C1Q ([(d,D4 p path)]++B0 B9 (d+1) 0 p.consts++B0 upT (d+1) 0 p.ups++B0 I4 (d+1) 0 p.vars++B0 (F8 p.lines) (d+1) 0 p.code++linesFs path (d+1) 0 (p.protos.take k)) (G4 (path++46::Lib.itoa k) (d+1) v)
   rw [List.append_assoc _ _ (G4 (path++46::Lib.itoa k) (d+1) v),←hnx]at hnext
   have hpth:path++ [46]++Lib.itoa k=path++46::Lib.itoa k:=by simp
   generalize flT ([(d,D4 p path)]++B0 B9 (d+1) 0 p.consts++B0 upT (d+1) 0 p.ups++B0 I4 (d+1) 0 p.vars++B0 (F8 p.lines) (d+1) 0 p.code++linesFs path (d+1) 0 (p.protos.take k))=S at*
   generalize flT (G4 (path++46::Lib.itoa k) (d+1) v)=VT at*
   generalize v.row=vr at*
   simp -implicitDefEqProofs only [go_sem,h8,k8,z8,q0,q1,hvr,hvl,hvt,hzd,Option.some.injEq,forall_eq',List.length_append,List.length_cons,List.length_nil]
   repeat' refine And.intro ?_ ?_
   all_goals first
    |omega
    | (refine A0.pureF ik (by simp -implicitDefEqProofs only [go_sem]) ?_
       simp -implicitDefEqProofs only [go_sem,hpth,k8,z8,q0,q1,hvr,hvl,hvt,Option.some.injEq,forall_eq',List.length_append,List.length_cons,List.length_nil]
       repeat(refine⟨by omega,?_⟩)
       refine A0.pureF hcon (by simp -implicitDefEqProofs only [go_sem,hvs]) ?_
       simp -implicitDefEqProofs only [go_sem,List.length_append,List.length_cons,List.length_nil]
       repeat(refine⟨by omega,?_⟩)
       rw [←hnext]
       exact ih _ (k+1,m) (by simp only;omega) (by simp only;omega) (F7.wk ⟨B3.1 (by simp -implicitDefEqProofs only [go_sem,hzk]),fun e he=>he,Nat.le_refl _⟩))
  obtain rfl:k=p.protos.length:=by omega
  rw [List.take_length]
  simp -implicitDefEqProofs only [go_sem,h8,k8,Int.lt_irrefl]
  simp only [List.append_assoc]
theorem B5P(p:Fn)(hp:p.bd)(hv:n64L p.row)(hn:p.each.length≤100):Abs.Pure Tryz.prog 12 [.agg p.row] (B4h p):=by
 have hchk:=B6p p hp (by omega)
 have hps:=Fn.row_sub E8 p
 obtain⟨g1,g2⟩:=B5 p
 unfold B4h
 by_cases hk:A6d p=0
 ·obtain⟨hdep,hok⟩:=B5I hk hv
  have hf:=C3F p hok hn [109,97,105,110] 0 (by decide) (by omega)
  rw [if_pos hk]
  rw [hk]at hchk
  have hfl:flT (G4 [109,97,105,110] 0 p)=Q8 p:=rfl
  rw [hfl]at hf
  generalize Q8 p=s at*
  generalize p.row=pr at*
  refine Pure.of 0 (A0.enter A0i (Nat.le_of_ble_eq_true rfl) (Run.go 100 ?_))
  simp -implicitDefEqProofs only [go_sem,A3,g1,g2]
  refine A0.pureF hchk (by simp -implicitDefEqProofs only [go_sem,hps]) ?_
  simp -implicitDefEqProofs only [go_sem,g1,g2]
  refine A0.pureF hf (by simp -implicitDefEqProofs only [go_sem,hps]) ?_
  simp -implicitDefEqProofs only [go_sem]
 ·rw [if_neg hk]
  generalize p.row=pr at*
  refine Pure.of 0 (A0.enter A0i (Nat.le_of_ble_eq_true rfl) (Run.go 100 ?_))
  simp -implicitDefEqProofs only [go_sem,A3,g1,g2]
  refine A0.pureF hchk (by simp -implicitDefEqProofs only [go_sem,hps]) ?_
  simp -implicitDefEqProofs only [go_sem,hk]
theorem C6k(p:Fn)(hp:p.bd)(vp:n64L p.row)(hcp:p.each.length≤1000000):Abs.Pure Tryz.prog 3 [.agg p.row] (.bool true):=by
 have aw:=B0Q
 have hlp:=A6m p hp hcp
 obtain⟨g1,g2⟩:=B5 p
 have hps:=Fn.row_sub E8 p
 have hdp:p.depth≤1000000:=Nat.le_trans (Fn.depth_each p) (by omega)
 by_cases c1:(p.each.length:Int)>60∨A1n p.each>2000
 ·rw [decide_eq_true c1]at hlp
  generalize p.row=pr at*
  refine Pure.of 0 (A0.enter E2 (Nat.le_of_ble_eq_true rfl) (Run.go 100 ?_))
  simp -implicitDefEqProofs only [go_sem,A3,g1,g2]
  refine A0.pureF hlp (by simp -implicitDefEqProofs only [go_sem,hps]) ?_
  simp -implicitDefEqProofs only [go_sem]
  refine A0.pureF aw rfl ?_
  simp -implicitDefEqProofs only [go_sem]
 rw [decide_eq_false c1]at hlp
 have htp:=V6 p hp hdp vp (by omega)
 have hrp:=B5P p hp vp (by omega)
 unfold B4h at htp hrp
 by_cases d1:A6d p=0
 ·rw [if_pos d1]at htp hrp
  generalize Q8 p=t at*
  generalize p.row=pr at*
  refine Pure.of 0 (A0.enter E2 (Nat.le_of_ble_eq_true rfl) (Run.go 100 ?_))
  simp -implicitDefEqProofs only [go_sem,A3,g1,g2]
  refine A0.pureF hlp (by simp -implicitDefEqProofs only [go_sem,hps]) ?_
  simp -implicitDefEqProofs only [go_sem,g1,g2]
  refine A0.pureF htp (by simp -implicitDefEqProofs only [go_sem,hps]) ?_
  simp -implicitDefEqProofs only [go_sem,g1,g2]
  refine A0.pureF hrp (by simp -implicitDefEqProofs only [go_sem,hps]) ?_
  simp -implicitDefEqProofs only [go_sem]
  refine A0.pureF aw rfl ?_
  simp -implicitDefEqProofs only [go_sem]
 ·rw [if_neg d1]at htp hrp
  generalize p.row=pr at*
  refine Pure.of 0 (A0.enter E2 (Nat.le_of_ble_eq_true rfl) (Run.go 100 ?_))
  simp -implicitDefEqProofs only [go_sem,A3,g1,g2]
  refine A0.pureF hlp (by simp -implicitDefEqProofs only [go_sem,hps]) ?_
  simp -implicitDefEqProofs only [go_sem,g1,g2]
  refine A0.pureF htp (by simp -implicitDefEqProofs only [go_sem,hps]) ?_
  simp -implicitDefEqProofs only [go_sem,g1,g2]
  refine A0.pureF hrp (by simp -implicitDefEqProofs only [go_sem,hps]) ?_
  simp -implicitDefEqProofs only [go_sem]
  refine A0.pureF aw rfl ?_
  simp -implicitDefEqProofs only [go_sem]
theorem B1T(n0:List V)(w0:A4J Tryz.prog 29 n0)(hsm:bkL [.agg n0]≤1048576):Abs.Pure Tryz.prog 3 [.agg n0] (.bool true):=by
 have v0:=B0g w0
 obtain⟨p,rfl,hp,hb⟩:=B1N w0
 simp only [bkL,bkV]at hsm
 exact C6k p hb v0 (by have:=B4E p;omega)
end Go.Proofs.YtflobbpcabopjaaGreatDoor
