/-
 The states of the verifier, as lists and functions: rows of truth values, maps with numbers as keys, the effect of an instruction. No condition.
-/
import Derived.Test.YtnihmhbcjpcobaaGreatDoorRwM
import Derived.Test.YtnihmhbcjpcobaaGreatDoorRchM
import Derived.Test.YtnihmhbcjpcobaaGreatDoorUtl
set_option linter.unusedVariables false
set_option linter.unusedSimpArgs false
set_option maxRecDepth 100000
namespace Go.Proofs.YtnihmhbcjpcobaaGreatDoor
open Go.Abs
theorem A5U{α:Type}(f:α→List V)(sz:Nat)(h: ∀x,(f x).length=sz)(l:List α):C4 (l.map f) sz=True:=eq_true fun r hr=>by obtain⟨y,_,rfl⟩:=List.mem_map.1 hr;exact h y
def A6(N:Nat)(f:Nat→Bool):List (List V):=(List.range N).map fun r=> [.bool (f r)]
theorem C2(N:Nat)(f:Nat→Bool):(A6 N f).length=N:=by simp [A6]
theorem E5{N r:Nat}{f:Nat→Bool}(h:r<N):(A6 N f)[r]? =some [.bool (f r)]:=by simp [A6,h]
theorem A8W(N:Nat):A6 N (fun _=>false)=List.replicate N [.bool false]:=by
 unfold A6;rw [List.map_const'];simp
theorem C6{N:Nat}{f g:Nat→Bool}(h: ∀r,r<N→f r=g r):A6 N f=A6 N g:=
 List.map_congr_left fun r hr=>by rw [h r (List.mem_range.1 hr)]
theorem K6{N r:Nat}{f:Nat→Bool}{b:Bool}(g:Nat→Bool)(hg: ∀x,x<N→g x=if x=r then b else f x):(A6 N f).set r [.bool b]=A6 N g:=by
 refine List.ext_getElem? fun j=> ?_
 rw [List.getElem?_set,C2]
 by_cases hj:j<N
 ·rw [E5 hj,E5 hj,hg j hj]
  by_cases d:r=j
  ·subst d;simp [hj]
  ·rw [if_neg d,if_neg (Ne.symm d)]
 ·rw [List.getElem?_eq_none (by rw [C2];omega),List.getElem?_eq_none (by rw [C2];omega)]
  split
  ·rw [if_neg (by omega)]
  ·rfl
theorem E6(N:Nat)(f:Nat→Bool):C4 (A6 N f) 1=True:=eq_true fun r hr=>by obtain⟨i,_,rfl⟩:=List.mem_map.1 hr;rfl
theorem K7(φ:Nat→Nat→Nat→Nat→V)(N:Nat)(f:Nat→Bool):(A6 N f).map (fun r=>r.map (V.sub φ))=A6 N f:=by
 unfold A6;rw [List.map_map];exact List.map_congr_left fun y _=>by simp [V.sub]
theorem B2C(N:Nat)(f:Nat→Bool): ∀r∈A6 N f,flatL r=true:=fun r hr=>by obtain⟨i,_,rfl⟩:=List.mem_map.1 hr;rfl
theorem B7V(l:List Int): ∀r∈l.map zrw,flatL r=true:=fun r hr=>by obtain⟨i,_,rfl⟩:=List.mem_map.1 hr;rfl
theorem M5(φ:Nat→Nat→Nat→Nat→V)(l:List Int):(l.map zrw).map (fun r=>r.map (V.sub φ))=l.map zrw:=by
 rw [List.map_map];exact List.map_congr_left fun y _=>by simp [zrw,V.sub]
def J1(l:List Nat)(F:Nat→V):List (V×V):=l.map fun k=>(.int .i64 (k:Nat),F k)
theorem B1e(l:List Nat)(F:Nat→V):O3 (J1 l F):=fun e he=>by obtain⟨k,_,rfl⟩:=List.mem_map.1 he;exact⟨k,rfl⟩
theorem B1d(F:Nat→V)(k:Nat): ∀l:List Nat,S7 (.int .i64 (k:Nat)) (J1 l F)=if k∈l then some (F k)else none
 | []=>rfl
 | a::l=>by
  have ih:=B1d F k l
  simp only [J1,List.map_cons,S7,A2P,Option.getD_some]at ih⊢
  by_cases c:k=a
  ·subst c;simp
  ·have: ¬((k:Int)=(a:Int)):=by omega
   simp only [this,decide_false,cond_false,ih,List.mem_cons,c,false_or]
theorem B0d{F:Nat→V}{k:Nat}{l:List Nat}(h:k∈l):S7 (.int .i64 (k:Nat)) (J1 l F)=some (F k):=by rw [B1d,if_pos h]
theorem B5u{F:Nat→V}{k:Nat}{l:List Nat}(h:k∉l):S7 (.int .i64 (k:Nat)) (J1 l F)=none:=by rw [B1d,if_neg h]
theorem B6X{F G:Nat→V}{k:Nat}{v:V}: ∀{l:List Nat},k∉l→(∀x∈l,G x=F x)→G k=v→A5P (.int .i64 (k:Nat)) v (J1 l F)=J1 (l++ [k]) G
 | [],_,_,hv=>by simp [J1,A5P,hv]
 |a::l,hk,hg,hv=>by
  have ih:=B6X (F:=F) (G:=G) (v:=v) (l:=l) (fun h=>hk (List.mem_cons_of_mem _ h)) (fun x hx=>hg x (List.mem_cons_of_mem _ hx)) hv
  have: ¬((k:Int)=(a:Int)):=fun e=>hk (by rw [show k=a by omega];exact List.mem_cons_self)
  simp only [J1,List.map_cons,A5P,A2P,Option.getD_some,this,decide_false,cond_false,List.cons_append,List.map_append]at ih⊢
  rw [ih,hg a List.mem_cons_self]
theorem A9h{F G:Nat→V}{l:List Nat}(h: ∀x∈l,F x=G x):J1 l F=J1 l G:=List.map_congr_left fun x hx=>by rw [h x hx]
def I4(F:Nat→List (List V))(S:Nat→Nat)(l:List Nat):A0:=l.map (A7k F S)
theorem S5{F:Nat→List (List V)}{S:Nat→Nat}{l:List Nat}{e:Nat×Nat×Blk}:e∈I4 F S l↔ ∃i,i∈l∧A7k F S i=e:=by simp only [I4,List.mem_map]
theorem B2O{F:Nat→List (List V)}{S:Nat→Nat}{i:Nat}: ∀{l:List Nat},i∈l→A0.get (I4 F S l) (1000000000000+i) (S i)=some (.rows 1 (F i))
 | a::l,h=>by
  simp only [I4,List.map_cons,A7k,A0.get]
  by_cases c:a=i
  ·subst c;simp
  ·have:Nat.beq (1000000000000+a) (1000000000000+i)=false:=by
    cases hb:Nat.beq (1000000000000+a) (1000000000000+i)with
    |false=>rfl
    |true=>have:=Nat.eq_of_beq_eq_true hb;omega
   rw [this,cond_false]
   exact B2O (List.mem_of_ne_of_mem (Ne.symm c) h)
theorem B2N{F:Nat→List (List V)}{S:Nat→Nat}{l:List Nat}{b:Nat}(h:b<1000000000000):A0.del (I4 F S l) b=I4 F S l:=by
 refine List.filter_eq_self.2 fun e he=> ?_
 obtain⟨j,hj,rfl⟩:=S5.1 he
 simp only [A7k,B6l h,Bool.not_false]
theorem C0E{F:Nat→List (List V)}{S:Nat→Nat}{l:List Nat}{b st:Nat}(h:b<1000000000000):A0.get (I4 F S l) b st=none:=by
 induction l with
 |nil=>rfl
 |cons a l ih=>simp only [I4,List.map_cons,A7k,A0.get,B6l h,cond_false];exact ih
structure Stt where
 set:Nat→Bool
 opn:Int
 marks:List Int
def A8s(i:Ins)(f:Nat→Bool):Nat→Bool:=if i.op=16 then fun r=>f r&&decide ((r:Int)<i.a)else if i.op=25 then fun r=>f r&&decide ((r:Int)<i.a+3)else f
def F1(i:Ins)(m:List Int):List Int:=if i.op=28 then m++ [i.a]else if i.op=27 then m.filter (fun r=>decide (r<i.a))else m
def A9a(N:Nat)(w:List Int×Int)(f:Nat→Bool):Nat→Bool:=fun r=>decide (r<N)&&((f r||w.1.contains (r:Int))&&(decide (w.2<0)||decide ((r:Int)<w.2)))
def A5H(N:Nat)(i:Ins)(s:Stt):Stt:=⟨A9a N (B7 i) (A8s i s.set),(B7 i).2,F1 i s.marks⟩
def P8(i:Ins)(a b:Int):Bool:=decide (i.op=23∧b=i.b)||decide (i.op=24∧(b≠i.b∨i.b=a+1))
def B4(N:Nat)(i:Ins)(a b:Int)(s:Stt):Stt:=
 if P8 i a b=true∧s.set (i.a+3).toNat=false then⟨fun r=>(A5H N i s).set r&&decide ((r:Int)≠i.a+3),(A5H N i s).opn,(A5H N i s).marks⟩else A5H N i s
theorem A4M(N:Nat)(i:Ins)(a b:Int)(s:Stt):(B4 N i a b s).opn=(B7 i).2:=by unfold B4;split<;>rfl
theorem j6(N:Nat)(i:Ins)(a b:Int)(s:Stt):(B4 N i a b s).marks=F1 i s.marks:=by unfold B4;split<;>rfl
theorem A8i{N:Nat}{i:Ins}{a b:Int}{s:Stt}{r:Nat}(h:N≤r):(B4 N i a b s).set r=false:=by
 have: ¬r<N:=by omega
 unfold B4;split<;>simp [A5H,A9a,this]
def G3(t o:Stt):Stt:=⟨fun r=>t.set r&&o.set r,t.opn,t.marks⟩
def D3(code:List Ins)(a:Nat):Ins:=code.getD a default
def A1G(N:Nat)(params:Int):Stt:=⟨fun r=>decide (r<N)&&decide ((r:Int)<params), -1,[]⟩
def M0(N:Nat)(params:Int):Nat→Option Stt:=fun a=>if a=0 then some (A1G N params)else none
def D6(M:Nat→Option Stt)(b:Nat)(s:Stt):Nat→Option Stt:=fun x=>if x=b then some s else M x
def D7(N:Nat)(code:List Ins)(M:Nat→Option Stt)(e:Nat×Int):Nat→Option Stt:=
 match M e.1 with
 |none=>M
 |some s=>match M e.2.toNat with
  |none=>D6 M e.2.toNat (B4 N (D3 code e.1) e.1 e.2 s)
  |some t=>D6 M e.2.toNat (G3 t (B4 N (D3 code e.1) e.1 e.2 s))
def D1(code:List Ins):List (Nat×Int):=(List.range code.length).flatMap fun(a:Nat)=>(C7 code a).map fun(b:Int)=>(a,b)
def A2h(e:Nat×Int):List V:= [.int .i64 (e.1:Nat),.int .i64 e.2]
theorem A7h{code:List Ins}{e:Nat×Int}(h:e∈D1 code):e.1<code.length∧e.2∈C7 code e.1∧0≤e.2∧e.2<code.length:=by
 simp only [D1,List.mem_flatMap,List.mem_range,List.mem_map]at h
 obtain⟨a,ha,b,hb,rfl⟩:=h
 exact⟨ha,hb,A4C hb⟩
def i6(N:Nat)(code:List Ins)(M:Nat→Option Stt):Nat→Option Stt:=(D1 code).foldl (D7 N code) M
def A1k(N:Nat)(code:List Ins)(params:Int):Nat→(Nat→Option Stt)
 |0=>M0 N params
 |k+1=>i6 N code (A1k N code params k)
def W9(N:Nat)(code:List Ins)(params:Int)(M:Nat→Option Stt):Prop:= ∃k,M=A1k N code params k∧i6 N code M=M
theorem B2X{N:Nat}{code:List Ins}{params:Int}{k:Nat}(h:i6 N code (A1k N code params k)=A1k N code params k): ∀j,A1k N code params (k+j)=A1k N code params k
 |0=>rfl
 |j+1=>by rw [←Nat.add_assoc,A1k,B2X h j,h]
theorem W9.unique{N:Nat}{code:List Ins}{params:Int}{M M':Nat→Option Stt}(h:W9 N code params M)(h':W9 N code params M'):M=M':=by
 obtain⟨k,rfl,h1⟩:=h
 obtain⟨j,rfl,h2⟩:=h'
 rcases Nat.le_total k j with c|c
 ·obtain⟨d,rfl⟩:=Nat.le.dest c
  exact(B2X h1 d).symm
 ·obtain⟨d,rfl⟩:=Nat.le.dest c
  exact B2X h2 d
open Classical in
noncomputable def stM (N:Nat) (code:List Ins) (params:Int):Nat→Option Stt:=if h: ∃M,W9 N code params M then h.choose else M0 N params
theorem B3G{N:Nat}{code:List Ins}{params:Int}{M:Nat→Option Stt}(h:W9 N code params M):M=stM N code params:=by
 unfold stM
 rw [dif_pos ⟨M,h⟩]
 exact h.unique (Exists.choose_spec ⟨M,h⟩)
def C6D(N:Nat)(f:Nat→Bool):Nat:=((List.range N).filter f).length
theorem C4d(N:Nat)(f:Nat→Bool):C6D N f≤N:=by unfold C6D;exact Nat.le_trans (List.length_filter_le _ _) (by simp)
theorem B4s{f g:Nat→Bool}(h: ∀r,g r=true→f r=true): ∀l:List Nat,(l.filter g).length≤(l.filter f).length
 | []=>Nat.le_refl _
 | x::l=>by
  have ih:=B4s h l
  simp only [List.filter_cons]
  cases hg:g x with
  |true=>simp only [h x hg,if_true,List.length_cons];omega
  |false=>
   cases f x<;>simp<;>omega
theorem B4t{f g:Nat→Bool}(h: ∀r,g r=true→f r=true){x:Nat}(h1:f x=true)(h2:g x=false): ∀{l:List Nat},x∈l→(l.filter g).length<(l.filter f).length
 | a::l,hx=>by
  have ih:=B4s h l
  simp only [List.filter_cons]
  by_cases c:x=a
  ·subst c;simp only [h1,h2,if_true,List.length_cons];simp;omega
  ·have ih2:=B4t h h1 h2 (List.mem_of_ne_of_mem c hx)
   cases hg:g a with
   |true=>simp only [h a hg,if_true,List.length_cons];omega
   |false=>cases f a<;>simp<;>omega
def wgt(N:Nat):Option Stt→Nat
 |none=>N+1
 |some s=>C6D N s.set
def mu(N n:Nat)(M:Nat→Option Stt):Nat:=((List.range n).map fun a=>wgt N (M a)).sum
theorem C3F{f g:Nat→Nat}(h: ∀x,g x≤f x): ∀l:List Nat,(l.map g).sum≤(l.map f).sum
 | []=>Nat.le_refl _
 |x::l=>by have:=C3F h l;have:=h x;simp only [List.map_cons,List.sum_cons];omega
theorem C3G{f g:Nat→Nat}(h: ∀x,g x≤f x){x:Nat}(hx:g x<f x): ∀{l:List Nat},x∈l→(l.map g).sum<(l.map f).sum
 | a::l,hm=>by
  have ih:=C3F h l
  have ha:=h a
  simp only [List.map_cons,List.sum_cons]
  by_cases c:x=a
  ·subst c;omega
  ·have:=C3G h hx (List.mem_of_ne_of_mem c hm)
   omega
theorem C5I{N n:Nat}{M:Nat→Option Stt}{b:Nat}{s:Stt}(hb:b<n)(h:wgt N (some s)<wgt N (M b)):mu N n (D6 M b s)<mu N n M:=by
 refine C3G (x:=b) (fun x=> ?_) (by simpa [D6]using h) (List.mem_range.2 hb)
 unfold D6
 by_cases c:x=b
 ·subst c;rw [if_pos rfl];exact Nat.le_of_lt h
 ·rw [if_neg c];exact Nat.le_refl _
theorem B8K{N n:Nat}{M:Nat→Option Stt}{b:Nat}{s:Stt}(hb:b<n)(h:M b=none):mu N n (D6 M b s)<mu N n M:=
 C5I hb (by rw [h];exact Nat.lt_succ_of_le (C4d _ _))
theorem B9R{N n:Nat}{M:Nat→Option Stt}{b r:Nat}{t o:Stt}(hb:b<n)(h:M b=some t)(hr:r<N)(h1:t.set r=true)(h2:o.set r=false):mu N n (D6 M b (G3 t o))<mu N n M:=
 C5I hb (by
  rw [h]
  exact B4t (fun r hr=>by simp only [G3,Bool.and_eq_true]at hr;exact hr.1) h1 (by simp [G3,h2]) (List.mem_range.2 hr))
theorem B1u{M:Nat→Option Stt}{b:Nat}{t:Stt}(h:M b=some t):D6 M b t=M:=by
 funext x;unfold D6
 by_cases c:x=b
 ·subst c;rw [if_pos rfl,h]
 ·rw [if_neg c]
theorem B2Y{N:Nat}{t o:Stt}(h: ∀r,r<N→t.set r=true→o.set r=true)(hN: ∀r,N≤r→t.set r=false):G3 t o=t:=by
 have:(fun r=>t.set r&&o.set r)=t.set:=by
  funext r
  cases ht:t.set r with
  |false=>rfl
  |true=>
   by_cases c:r<N
   ·rw [h r c ht];rfl
   ·rw [hN r (by omega)]at ht;cases ht
 unfold G3
 rw [this]
end Go.Proofs.YtnihmhbcjpcobaaGreatDoor
