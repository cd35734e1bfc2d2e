/-
 Parts of proto.Check. No condition.
-/
import Derived.Test.YtcjgeliglgcflaaGreatDoorFnCk
set_option linter.unusedVariables false
set_option linter.unusedSimpArgs false
set_option maxRecDepth 100000
set_option maxHeartbeats 0
namespace Go.Proofs.YtcjgeliglgcflaaGreatDoor
open Go.Abs
attribute [local irreducible] A3 Run J0
theorem U3{α:Type}{l:List α}{k:Nat}{x:α}{f:α→Bool}(h:(l.take k).any f=false)(hx:l[k]? =some x)(hf:f x=false):(l.take (k+1)).any f=false:=by
 rw [List.take_add_one,hx];simp [h,hf]
theorem A4v{α:Type}{l:List α}{k:Nat}{x:α}{f:α→Bool}(hx:l[k]? =some x)(hf:f x=true):l.any f=true:=List.any_eq_true.2 ⟨x,List.mem_of_getElem? hx,hf⟩
theorem A1t{α:Type}{l:List α}{f:α→Bool}(h:(l.take l.length).any f=false):l.any f=false:=by rwa [List.take_length]at h
theorem B0j(l:List Upv)(hl:l.length≤17592186043904)(f:Upv→Bool)(g:FuncId)(cs:List V)(h:A2)(hg:H9 Tryz.prog g=true)(hf: ∀x∈l,∀n,A3 Tryz.prog g (.agg (Upv.row x)::cs) h n fun r h' n'=>r= .bool (f x)∧h'=h)(n:Nat):
  A3 Tryz.prog 66 [.isl (l.map Upv.row),.fn g cs] h n fun r h' n'=>r= .bool (l.any f)∧h'=h:=by
 have key: ∀n,A3 Tryz.prog 96 [.isl (l.map Upv.row),.fn g cs] h n fun r h' n'=>(∃z:Int,r= .int .i64 z∧decide (0≤z)=l.any f)∧h'=h:=by
  intro n
  have la:(l.map Upv.row).length=l.length:=List.length_map ..
  have za:=eq_true (B8 Upv.row 3 (fun _=>rfl) l)
  have ra: ∀(k:Nat) x,l[k]? =some x→(l.map Upv.row)[k]? =some (Upv.row x):=fun k x hk=>by rw [List.getElem?_map,hk];rfl
  generalize l.map Upv.row=A at*
  refine A3.enterK K0 (Nat.le_of_ble_eq_true rfl) fun Q hQ=>Run.go 100 ?_
  simp -implicitDefEqProofs only [go_sem,A8,la]
  refine Run.roundsK (fun(x:Nat×Nat)=>⟨[(8,.int .i64 x.1),(7,.int .i64 l.length),(1,.fn g cs),(0,.isl A)],h,x.2⟩) (fun x=>x.1≤l.length∧(l.take x.1).any f=false) (fun x=>l.length-x.1) (0,n) (O8.wk ⟨D3.1 (by simp -implicitDefEqProofs only [go_sem]),fun _ h=>h,Nat.le_refl _⟩) ⟨Nat.zero_le _,rfl⟩ ?_
  rintro⟨k,m⟩ ⟨hk,hno⟩ ih
  simp only at hk hno ih⊢
  refine Run.unf U2 (Run.go 100 ?_)
  by_cases hlt:k<l.length
  ·have q0:((k:Int)<(l.length:Int))=True:=eq_true (by omega)
   have q1:((0:Int)≤(k:Int))=True:=eq_true (by omega)
   obtain⟨x,hx⟩: ∃x,l[k]? =some x:=⟨l[k],by simp [hlt]⟩
   have hxr:=ra k x hx
   have hc:=hf x (List.mem_of_getElem? hx)
   have hzk:((k+1:Nat):Int)=(k:Int)+1:=by omega
   simp -implicitDefEqProofs only [go_sem,q0,q1,la,za,hxr,Upv.row,hg,Option.some.injEq,forall_eq']
   repeat refine And.intro (by omega) ?_
   refine⟨hg,?_⟩
   refine(hc m).mono ?_
   rintro r h' n' ⟨rfl,rfl⟩
   by_cases hfx:f x=true
   ·simp -implicitDefEqProofs only [go_sem,hfx]
    subst hQ
    have:decide ((0:Int)≤k)=true:=decide_eq_true (by omega)
    exact .is ⟨⟨k,rfl,by rw [this,A4v hx hfx]⟩,rfl⟩
   ·have hfx:f x=false:=by simpa using hfx
    simp -implicitDefEqProofs only [go_sem,hfx]
    refine⟨by omega,?_⟩
    exact ih _ (k+1,n') ⟨by simp only;omega,U3 hno hx hfx⟩ (by simp only;omega) (O8.wk ⟨D3.1 (by simp -implicitDefEqProofs only [go_sem,hzk]),fun _ h=>h,Nat.le_refl _⟩)
  ·have e:k=l.length:=by omega
   subst e
   simp -implicitDefEqProofs only [go_sem,Int.lt_irrefl]
   subst hQ
   exact .is ⟨⟨-1,rfl,by rw [A1t hno];rfl⟩,rfl⟩
 generalize l.map Upv.row=A at*
 refine A3.enterK H5 (Nat.le_of_ble_eq_true rfl) fun Q hQ=>Run.go 100 ?_
 simp -implicitDefEqProofs only [go_sem,A8]
 refine(key n).mono ?_
 rintro r h' n' ⟨⟨z,rfl,hz⟩,rfl⟩
 simp -implicitDefEqProofs only [go_sem,hz]
 subst hQ
 exact .is ⟨rfl,rfl⟩
theorem B5q(l:List Vr)(hl:l.length≤17592186043904)(f:Vr→Bool)(g:FuncId)(cs:List V)(h:A2)(hg:H9 Tryz.prog g=true)(hf: ∀x∈l,∀n,A3 Tryz.prog g (.agg (Vr.row x)::cs) h n fun r h' n'=>r= .bool (f x)∧h'=h)(n:Nat):
  A3 Tryz.prog 68 [.isl (l.map Vr.row),.fn g cs] h n fun r h' n'=>r= .bool (l.any f)∧h'=h:=by
 have key: ∀n,A3 Tryz.prog 97 [.isl (l.map Vr.row),.fn g cs] h n fun r h' n'=>(∃z:Int,r= .int .i64 z∧decide (0≤z)=l.any f)∧h'=h:=by
  intro n
  have la:(l.map Vr.row).length=l.length:=List.length_map ..
  have za:=eq_true (B8 Vr.row 5 (fun _=>rfl) l)
  have ra: ∀(k:Nat) x,l[k]? =some x→(l.map Vr.row)[k]? =some (Vr.row x):=fun k x hk=>by rw [List.getElem?_map,hk];rfl
  generalize l.map Vr.row=A at*
  refine A3.enterK I8 (Nat.le_of_ble_eq_true rfl) fun Q hQ=>Run.go 100 ?_
  simp -implicitDefEqProofs only [go_sem,A8,la]
  refine Run.roundsK (fun(x:Nat×Nat)=>⟨[(8,.int .i64 x.1),(7,.int .i64 l.length),(1,.fn g cs),(0,.isl A)],h,x.2⟩) (fun x=>x.1≤l.length∧(l.take x.1).any f=false) (fun x=>l.length-x.1) (0,n) (O8.wk ⟨D3.1 (by simp -implicitDefEqProofs only [go_sem]),fun _ h=>h,Nat.le_refl _⟩) ⟨Nat.zero_le _,rfl⟩ ?_
  rintro⟨k,m⟩ ⟨hk,hno⟩ ih
  simp only at hk hno ih⊢
  refine Run.unf T4 (Run.go 100 ?_)
  by_cases hlt:k<l.length
  ·have q0:((k:Int)<(l.length:Int))=True:=eq_true (by omega)
   have q1:((0:Int)≤(k:Int))=True:=eq_true (by omega)
   obtain⟨x,hx⟩: ∃x,l[k]? =some x:=⟨l[k],by simp [hlt]⟩
   have hxr:=ra k x hx
   have hc:=hf x (List.mem_of_getElem? hx)
   have hzk:((k+1:Nat):Int)=(k:Int)+1:=by omega
   simp -implicitDefEqProofs only [go_sem,q0,q1,la,za,hxr,Vr.row,hg,Option.some.injEq,forall_eq']
   repeat refine And.intro (by omega) ?_
   refine⟨hg,?_⟩
   refine(hc m).mono ?_
   rintro r h' n' ⟨rfl,rfl⟩
   by_cases hfx:f x=true
   ·simp -implicitDefEqProofs only [go_sem,hfx]
    subst hQ
    have:decide ((0:Int)≤k)=true:=decide_eq_true (by omega)
    exact .is ⟨⟨k,rfl,by rw [this,A4v hx hfx]⟩,rfl⟩
   ·have hfx:f x=false:=by simpa using hfx
    simp -implicitDefEqProofs only [go_sem,hfx]
    refine⟨by omega,?_⟩
    exact ih _ (k+1,n') ⟨by simp only;omega,U3 hno hx hfx⟩ (by simp only;omega) (O8.wk ⟨D3.1 (by simp -implicitDefEqProofs only [go_sem,hzk]),fun _ h=>h,Nat.le_refl _⟩)
  ·have e:k=l.length:=by omega
   subst e
   simp -implicitDefEqProofs only [go_sem,Int.lt_irrefl]
   subst hQ
   exact .is ⟨⟨-1,rfl,by rw [A1t hno];rfl⟩,rfl⟩
 generalize l.map Vr.row=A at*
 refine A3.enterK G5 (Nat.le_of_ble_eq_true rfl) fun Q hQ=>Run.go 100 ?_
 simp -implicitDefEqProofs only [go_sem,A8]
 refine(key n).mono ?_
 rintro r h' n' ⟨⟨z,rfl,hz⟩,rfl⟩
 simp -implicitDefEqProofs only [go_sem,hz]
 subst hQ
 exact .is ⟨rfl,rfl⟩
theorem A8D(l:List Int)(hl:l.length≤17592186043904)(f:Int→Bool)(g:FuncId)(cs:List V)(h:A2)(hg:H9 Tryz.prog g=true)(hf: ∀x∈l,∀n,A3 Tryz.prog g (.int .i64 x::cs) h n fun r h' n'=>r= .bool (f x)∧h'=h)(n:Nat):
  A3 Tryz.prog 70 [.isl (l.map D1),.fn g cs] h n fun r h' n'=>r= .bool (l.any f)∧h'=h:=by
 have key: ∀n,A3 Tryz.prog 98 [.isl (l.map D1),.fn g cs] h n fun r h' n'=>(∃z:Int,r= .int .i64 z∧decide (0≤z)=l.any f)∧h'=h:=by
  intro n
  have la:(l.map D1).length=l.length:=List.length_map ..
  have za:=eq_true (B8 D1 1 (fun _=>rfl) l)
  have ra: ∀(k:Nat) x,l[k]? =some x→(l.map D1)[k]? =some (D1 x):=fun k x hk=>by rw [List.getElem?_map,hk];rfl
  generalize l.map D1=A at*
  refine A3.enterK R6 (Nat.le_of_ble_eq_true rfl) fun Q hQ=>Run.go 100 ?_
  simp -implicitDefEqProofs only [go_sem,A8,la]
  refine Run.roundsK (fun(x:Nat×Nat)=>⟨[(8,.int .i64 x.1),(7,.int .i64 l.length),(1,.fn g cs),(0,.isl A)],h,x.2⟩) (fun x=>x.1≤l.length∧(l.take x.1).any f=false) (fun x=>l.length-x.1) (0,n) (O8.wk ⟨D3.1 (by simp -implicitDefEqProofs only [go_sem]),fun _ h=>h,Nat.le_refl _⟩) ⟨Nat.zero_le _,rfl⟩ ?_
  rintro⟨k,m⟩ ⟨hk,hno⟩ ih
  simp only at hk hno ih⊢
  refine Run.unf A0t (Run.go 100 ?_)
  by_cases hlt:k<l.length
  ·have q0:((k:Int)<(l.length:Int))=True:=eq_true (by omega)
   have q1:((0:Int)≤(k:Int))=True:=eq_true (by omega)
   obtain⟨x,hx⟩: ∃x,l[k]? =some x:=⟨l[k],by simp [hlt]⟩
   have hxr:=ra k x hx
   have hc:=hf x (List.mem_of_getElem? hx)
   have hzk:((k+1:Nat):Int)=(k:Int)+1:=by omega
   simp -implicitDefEqProofs only [go_sem,q0,q1,la,za,hxr,D1,hg,Option.some.injEq,forall_eq']
   repeat refine And.intro (by omega) ?_
   refine⟨hg,?_⟩
   refine(hc m).mono ?_
   rintro r h' n' ⟨rfl,rfl⟩
   by_cases hfx:f x=true
   ·simp -implicitDefEqProofs only [go_sem,hfx]
    subst hQ
    have:decide ((0:Int)≤k)=true:=decide_eq_true (by omega)
    exact .is ⟨⟨k,rfl,by rw [this,A4v hx hfx]⟩,rfl⟩
   ·have hfx:f x=false:=by simpa using hfx
    simp -implicitDefEqProofs only [go_sem,hfx]
    refine⟨by omega,?_⟩
    exact ih _ (k+1,n') ⟨by simp only;omega,U3 hno hx hfx⟩ (by simp only;omega) (O8.wk ⟨D3.1 (by simp -implicitDefEqProofs only [go_sem,hzk]),fun _ h=>h,Nat.le_refl _⟩)
  ·have e:k=l.length:=by omega
   subst e
   simp -implicitDefEqProofs only [go_sem,Int.lt_irrefl]
   subst hQ
   exact .is ⟨⟨-1,rfl,by rw [A1t hno];rfl⟩,rfl⟩
 generalize l.map D1=A at*
 refine A3.enterK O3 (Nat.le_of_ble_eq_true rfl) fun Q hQ=>Run.go 100 ?_
 simp -implicitDefEqProofs only [go_sem,A8]
 refine(key n).mono ?_
 rintro r h' n' ⟨⟨z,rfl,hz⟩,rfl⟩
 simp -implicitDefEqProofs only [go_sem,hz]
 subst hQ
 exact .is ⟨rfl,rfl⟩
theorem C1o(a b:Nat):Pure Tryz.prog 112 [.int .i64 a,.int .i64 b] (.int .i64 (Nat.gcd a b)):=by
 refine Pure.of 0 (A3.enter A5x (Nat.le_of_ble_eq_true rfl) (Run.go 100 ?_))
 simp -implicitDefEqProofs only [go_sem,A8]
 refine Run.rounds (fun(x:Nat×Nat)=>⟨[(1,.int .i64 x.2),(0,.int .i64 x.1)],[],0⟩) (fun x=>Nat.gcd x.1 x.2=Nat.gcd a b) (fun x=>x.2) (a,b) (by simp -implicitDefEqProofs only [go_sem]) rfl ?_
 rintro⟨x,y⟩ hg ih
 simp only at hg ih⊢
 refine Run.unf A8h (Run.go 100 ?_)
 by_cases h0:y=0
 ·subst h0
  rw [Nat.gcd_zero_right]at hg
  simp -implicitDefEqProofs only [go_sem,hg]
 ·have q0:((y:Int)=0)=False:=eq_false (by omega)
  have q1:(x:Int).tmod (y:Int)=((x%y:Nat):Int):=(Int.ofNat_tmod x y).symm
  simp -implicitDefEqProofs only [go_sem,q0,q1]
  refine ih _ (y,x%y) ?_ (Nat.mod_lt _ (by omega)) (by simp -implicitDefEqProofs only [go_sem])
  simp only
  rw [←hg,Nat.gcd_comm x y,Nat.gcd_rec y x,Nat.gcd_comm]
def A0c(p q:Int):Bool:=decide (1≤q)&&(decide (q≤2147483647)&&(decide (-2147483647≤p)&&(decide (p≤2147483647)&&decide (Int.gcd p q=1))))
theorem B3X(p q:Int):Pure Tryz.prog 99 [.agg [.int .i64 p,.int .i64 q]] (.bool (A0c p q)):=by
 refine Pure.of 0 (A3.enter A3n (Nat.le_of_ble_eq_true rfl) (Run.go 100 ?_))
 by_cases h1:1≤q
 case neg=>
  have:A0c p q=false:=by simp [A0c,h1]
  simp -implicitDefEqProofs only [go_sem,A8,h1,this]
 by_cases h2:q≤2147483647
 case neg=>
  have:A0c p q=false:=by simp [A0c,h2]
  simp -implicitDefEqProofs only [go_sem,A8,h1,h2,this]
 by_cases h3: -2147483647≤p
 case neg=>
  have:A0c p q=false:=by simp [A0c,h3]
  simp -implicitDefEqProofs only [go_sem,A8,h1,h2,h3,this]
 by_cases h4:p≤2147483647
 case neg=>
  have:A0c p q=false:=by simp [A0c,h4]
  simp -implicitDefEqProofs only [go_sem,A8,h1,h2,h3,h4,this]
 have hnum:A0c p q=decide (Int.gcd p q=1):=by simp [A0c,h1,h2,h3,h4]
 have hg:=C1o p.natAbs q.natAbs
 have e1:((q.natAbs:Nat):Int)=q:=by omega
 have e3:Nat.gcd p.natAbs q.natAbs=Int.gcd p q:=rfl
 rw [e1,e3]at hg
 have e4:(((p.gcd q:Nat):Int)=1)=(p.gcd q=1):=propext (by omega)
 by_cases h5:p<0-p
 ·have e2:((p.natAbs:Nat):Int)=0-p:=by omega
  rw [e2]at hg
  simp -implicitDefEqProofs only [go_sem,A8,h1,h2,h3,h4,h5,gt_iff_lt]
  refine⟨by omega,?_⟩
  refine A3.pureF hg (by simp -implicitDefEqProofs only [go_sem]) ?_
  simp -implicitDefEqProofs only [go_sem,hnum,e3,e4]
 ·have e2:((p.natAbs:Nat):Int)=p:=by omega
  rw [e2]at hg
  simp -implicitDefEqProofs only [go_sem,A8,h1,h2,h3,h4,h5,gt_iff_lt]
  refine⟨by omega,?_⟩
  refine A3.pureF hg (by simp -implicitDefEqProofs only [go_sem]) ?_
  simp -implicitDefEqProofs only [go_sem,hnum,e3,e4]
def O7(v:Kst):Bool:=
 if v.kind=0 then decide (v.p=0)&&(decide (v.q=0)&&(decide (v.str= [])&&decide (v.ref=0)))
 else if v.kind=1 then(decide (v.ref=0)||decide (v.ref=1))&&(decide (v.p=0)&&(decide (v.q=0)&&decide (v.str= [])))
 else if v.kind=2 then A0c v.p v.q&&(decide (v.str= [])&&decide (v.ref=0))
 else decide (v.kind=3)&&(decide (v.str.length≤4096)&&(decide (v.p=0)&&(decide (v.q=0)&&decide (v.ref=0))))
theorem B2K(v:Kst)(hk:v.kind≤3):Pure Tryz.prog 73 [.agg v.row] (.bool (O7 v)):=by
 obtain⟨kind,p,q,str,ref⟩:=v
 simp only at hk
 have hn:=B3X p q
 refine Pure.of 0 (A3.enter A6P (Nat.le_of_ble_eq_true rfl) (Run.go 100 ?_))
 by_cases k0:kind=0
 ·subst k0
  simp -implicitDefEqProofs only [go_sem,A8,Kst.row,O7]
  simp only [Bool.and_assoc]
 by_cases k1:kind=1
 ·subst k1
  simp -implicitDefEqProofs only [go_sem,A8,Kst.row,O7]
  by_cases r0:ref=0<;>by_cases r1:ref=1<;>simp [r0,r1,Bool.and_assoc]
 by_cases k2:kind=2
 ·subst k2
  simp -implicitDefEqProofs only [go_sem,A8,Kst.row,O7]
  refine A3.pureF hn (by simp -implicitDefEqProofs only [go_sem]) ?_
  simp -implicitDefEqProofs only [go_sem]
  cases A0c p q<;>simp [Bool.and_assoc]
 by_cases k3:kind=3
 ·subst k3
  simp -implicitDefEqProofs only [go_sem,A8,Kst.row,O7]
  by_cases r0:(str.length:Int)≤4096
  ·have r1:str.length≤4096:=by omega
   simp [r0,r1,Bool.and_assoc]
  ·have r1: ¬str.length≤4096:=by omega
   simp [r0,r1]
 have e4:(kind=4)=False:=eq_false (by omega)
 have e5:(kind=5)=False:=eq_false (by omega)
 have e6:(kind=6)=False:=eq_false (by omega)
 have e7:(kind=7)=False:=eq_false (by omega)
 have e8:(kind=8)=False:=eq_false (by omega)
 simp -implicitDefEqProofs only [go_sem,A8,Kst.row,O7,k0,k1,k2,k3,e4,e5,e6,e7,e8]
theorem B3G(s:List UInt8)(h:A2)(n:Nat):A3 Tryz.prog 65 [.str s] h n fun r h' n'=>r= .bool (decide (40<s.length))∧h'=h:=by
 refine A3.enterK A3j (Nat.le_of_ble_eq_true rfl) fun Q hQ=>Run.go 100 ?_
 have e:((40:Int)<(s.length:Int))=(40<s.length):=propext (by omega)
 simp -implicitDefEqProofs only [go_sem,A8,e]
 subst hQ
 exact .is ⟨rfl,rfl⟩
theorem C3z(u:Upv)(B:Blk)(n:Nat):A3 Tryz.prog 67 [.agg (Upv.row u),.ptr (41*10000+3) 1 0 0] [((41*10000+3),1,.rows 1 [[.fn 65 []]]),((41*10000+1),0,B)] n fun r h' n'=>r= .bool (decide (40<u.name.length))∧h'= [((41*10000+3),1,.rows 1 [[.fn 65 []]]),((41*10000+1),0,B)]:=by
 refine A3.enterK A3k (Nat.le_of_ble_eq_true rfl) fun Q hQ=>Run.go 100 ?_
 simp -implicitDefEqProofs only [go_sem,A8,Upv.row]
 refine⟨by kernel_rfl,?_⟩
 refine(B3G _ _ _).mono ?_
 rintro r h' n' ⟨rfl,rfl⟩
 simp -implicitDefEqProofs only [go_sem]
 subst hQ
 exact .to (r2:= .bool _) (n2:=n') ⟨rfl,rfl⟩ (.turn id ⟨.refl _,trivial⟩ (.at 1 rfl rfl (.refl _) (.at 2 rfl rfl (.refl _) trivial)))
theorem C3A(v:Vr)(B:Blk)(n:Nat):A3 Tryz.prog 69 [.agg (Vr.row v),.ptr (41*10000+3) 1 0 0] [((41*10000+3),1,.rows 1 [[.fn 65 []]]),((41*10000+1),0,B)] n fun r h' n'=>r= .bool (decide (40<v.name.length))∧h'= [((41*10000+3),1,.rows 1 [[.fn 65 []]]),((41*10000+1),0,B)]:=by
 refine A3.enterK A3l (Nat.le_of_ble_eq_true rfl) fun Q hQ=>Run.go 100 ?_
 simp -implicitDefEqProofs only [go_sem,A8,Vr.row]
 refine⟨by kernel_rfl,?_⟩
 refine(B3G _ _ _).mono ?_
 rintro r h' n' ⟨rfl,rfl⟩
 simp -implicitDefEqProofs only [go_sem]
 subst hQ
 exact .to (r2:= .bool _) (n2:=n') ⟨rfl,rfl⟩ (.turn id ⟨.refl _,trivial⟩ (.at 1 rfl rfl (.refl _) (.at 2 rfl rfl (.refl _) trivial)))
def B7v(p:Fn):Int:=
 if p.code.length≤16384∧p.consts.length≤4096∧p.protos.length≤1024∧p.ups.length≤60∧p.vars.length≤16384∧p.regs≤4096∧p.name.length≤4096∧p.ups.any (fun u=>decide (40<u.name.length))=false∧p.vars.any (fun v=>decide (40<v.name.length))=false then 0 else 3
theorem B5Q(p:Fn)(hp:p.bd):Pure Tryz.prog 41 [.agg p.row] (.int .i64 (B7v p)):=by
 obtain⟨h1,h2⟩:=C7 p
 have hb:=hp.self
 rw [Fn.row_eq]at h1 h2⊢
 obtain⟨name,line,params,vararg,regs,code,lines,consts,protos,ups,vars⟩:=p
 have k1:(code.map Ins.row).length=code.length:=List.length_map ..
 have k2:(consts.map Kst.row).length=consts.length:=List.length_map ..
 have k3:(protos.map Fn.row).length=protos.length:=List.length_map ..
 have k4:(ups.map Upv.row).length=ups.length:=List.length_map ..
 have k5:(vars.map Vr.row).length=vars.length:=List.length_map ..
 have hu:ups.length≤17592186043904:=by have:=hb.ups;simp only at this;omega
 have hv:vars.length≤17592186043904:=by have:=hb.vars;simp only at this;omega
 have cu:=B0j ups hu (fun u=>decide (40<u.name.length)) 67 [.ptr (41*10000+3) 1 0 0]
 have cv:=B5q vars hv (fun u=>decide (40<u.name.length)) 69 [.ptr (41*10000+3) 1 0 0]
 generalize hl:B7v _=z
 simp only [B7v]at hl
 simp only at*
 generalize code.map Ins.row=rcode at*
 generalize consts.map Kst.row=rconsts at*
 generalize protos.map Fn.row=rprotos at*
 generalize ups.map Upv.row=rups at*
 generalize vars.map Vr.row=rvars at*
 refine Pure.of 0 (A3.enter A5p (Nat.le_of_ble_eq_true rfl) (Run.go 100 ?_))
 by_cases l1:code.length≤16384
 case neg=>
  obtain rfl:z=3:=hl ▸ if_neg (fun h=>l1 h.1)
  have z1:((16384:Int)<(code.length:Int))=True:=eq_true (by omega)
  simp -implicitDefEqProofs only [go_sem,A8,h1,h2,k1,k2,k3,k4,k5,z1]
 have z1:((16384:Int)<(code.length:Int))=False:=eq_false (by omega)
 by_cases l2:consts.length≤4096
 case neg=>
  obtain rfl:z=3:=hl ▸ if_neg (fun h=>l2 h.2.1)
  have z2:((4096:Int)<(consts.length:Int))=True:=eq_true (by omega)
  simp -implicitDefEqProofs only [go_sem,A8,h1,h2,k1,k2,k3,k4,k5,z1,z2]
 have z2:((4096:Int)<(consts.length:Int))=False:=eq_false (by omega)
 by_cases l3:protos.length≤1024
 case neg=>
  obtain rfl:z=3:=hl ▸ if_neg (fun h=>l3 h.2.2.1)
  have z3:((1024:Int)<(protos.length:Int))=True:=eq_true (by omega)
  simp -implicitDefEqProofs only [go_sem,A8,h1,h2,k1,k2,k3,k4,k5,z1,z2,z3]
 have z3:((1024:Int)<(protos.length:Int))=False:=eq_false (by omega)
 by_cases l4:ups.length≤60
 case neg=>
  obtain rfl:z=3:=hl ▸ if_neg (fun h=>l4 h.2.2.2.1)
  have z4:((60:Int)<(ups.length:Int))=True:=eq_true (by omega)
  simp -implicitDefEqProofs only [go_sem,A8,h1,h2,k1,k2,k3,k4,k5,z1,z2,z3,z4]
 have z4:((60:Int)<(ups.length:Int))=False:=eq_false (by omega)
 by_cases l5:vars.length≤16384
 case neg=>
  obtain rfl:z=3:=hl ▸ if_neg (fun h=>l5 h.2.2.2.2.1)
  have z5:((16384:Int)<(vars.length:Int))=True:=eq_true (by omega)
  simp -implicitDefEqProofs only [go_sem,A8,h1,h2,k1,k2,k3,k4,k5,z1,z2,z3,z4,z5]
 have z5:((16384:Int)<(vars.length:Int))=False:=eq_false (by omega)
 by_cases l6:regs≤4096
 case neg=>
  obtain rfl:z=3:=hl ▸ if_neg (fun h=>l6 h.2.2.2.2.2.1)
  have z6:((4096:Int)<regs)=True:=eq_true (by omega)
  simp -implicitDefEqProofs only [go_sem,A8,h1,h2,k1,k2,k3,k4,k5,z1,z2,z3,z4,z5,z6]
 have z6:((4096:Int)<regs)=False:=eq_false (by omega)
 by_cases l7:name.length≤4096
 case neg=>
  obtain rfl:z=3:=hl ▸ if_neg (fun h=>l7 h.2.2.2.2.2.2.1)
  have z7:((4096:Int)<(name.length:Int))=True:=eq_true (by omega)
  simp -implicitDefEqProofs only [go_sem,A8,h1,h2,k1,k2,k3,k4,k5,z1,z2,z3,z4,z5,z6,z7]
 have z7:((4096:Int)<(name.length:Int))=False:=eq_false (by omega)
 simp -implicitDefEqProofs only [go_sem,A8,h1,h2,z1,z2,z3,z4,z5,z6,z7,k1,k2,k3,k4,k5]
 refine(cu _ (by kernel_rfl) (fun u _ m=>C3z u _ m) _).mono ?_
 rintro r h' n' ⟨rfl,rfl⟩
 by_cases l8:ups.any (fun u=>decide (40<u.name.length))=true
 ·obtain rfl:z=3:=hl ▸ if_neg (fun h=>by simp [l8]at h)
  simp -implicitDefEqProofs only [go_sem,l8]
 have l8:ups.any (fun u=>decide (40<u.name.length))=false:=by simpa only [Bool.not_eq_true]using l8
 simp -implicitDefEqProofs only [go_sem,l8]
 refine(cv _ (by kernel_rfl) (fun u _ m=>C3A u _ m) _).mono ?_
 rintro r h' n' ⟨rfl,rfl⟩
 by_cases l9:vars.any (fun u=>decide (40<u.name.length))=true
 ·obtain rfl:z=3:=hl ▸ if_neg (fun h=>by simp [l9]at h)
  simp -implicitDefEqProofs only [go_sem,l9]
 have l9:vars.any (fun u=>decide (40<u.name.length))=false:=by simpa only [Bool.not_eq_true]using l9
 obtain rfl:z=0:=hl ▸ if_pos ⟨l1,l2,l3,l4,l5,l6,l7,l8,l9⟩
 simp -implicitDefEqProofs only [go_sem,l9]
end Go.Proofs.YtcjgeliglgcflaaGreatDoor
