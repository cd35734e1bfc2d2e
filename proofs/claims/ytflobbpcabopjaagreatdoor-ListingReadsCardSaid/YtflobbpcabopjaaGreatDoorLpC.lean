/-
 The scanner of listing.Parse: take, word, expect, num, number, end. No condition.
-/
import Derived.Test.YtflobbpcabopjaaGreatDoorLpV
import Derived.Test.YtflobbpcabopjaaGreatDoorLsW
import Derived.Test.YtflobbpcabopjaaGreatDoorTxo
import Derived.Test.YtflobbpcabopjaaGreatDoorCode
import Derived.Test.YtflobbpcabopjaaGreatDoorBldP
set_option linter.unusedSimpArgs false set_option linter.unusedVariables false section
set_option maxRecDepth 100000
set_option maxHeartbeats 0
namespace Go.Proofs.YtflobbpcabopjaaGreatDoor
open Go Go.Abs
attribute [local irreducible] A0 Run
def scH(b st:Nat)(x:Sc):A2:= [(b,st,.rows 2 [[.str x.s,.bool x.ok]])]
theorem C0S(s:List UInt8)(k:Nat):s.take ((k:Int)-0).toNat=s.take k:=by simp
theorem c32:((((32:UInt8).toNat:Nat):Int)=32)=True:=eq_true rfl
theorem B4T(s:List UInt8)(k:Nat):(s.drop ((k:Int)+1).toNat).take ((s.length:Int)-((k:Int)+1)).toNat=s.drop (k+1):=by
 have h:((k:Int)+1).toNat=k+1:=by omega
 rw [h]
 exact List.take_of_length_le zr
theorem B7H(b st n:Nat)(x:Sc)(k:Nat)(hk:k≤x.s.length)(hB:x.s.length≤100000):
  A0 Tryz.prog 153 [.ptr b st 0 0,.int .i64 k] (scH b st x) n (fun r h' _=>r= .str (x.s.take k)∧h'=scH b st (x.take k)):=by
 obtain⟨s,ok⟩:=x
 simp only at hk hB
 unfold Sc.take scH
 simp only
 have k0:((0:Int)≤(k:Int))=True:=Jm
 have k1:((k:Int)≤(s.length:Int))=True:=Jm
 have hen: ∀K:Res,(∀Q:Res,Q=K→go ⟨Tryz.prog,55,[.t 4],P2 Q,none,none⟩ 100 [.code S1] ⟨A3 0 [.ptr b st 0 0,.int .i64 k],[(b,st,.rows 2 [[.str s,.bool ok]])],n⟩)→A0 Tryz.prog 153 [.ptr b st 0 0,.int .i64 k] [(b,st,.rows 2 [[.str s,.bool ok]])] n K:=fun K h=>A0.enterK p7 Jo fun Q hQ=>Run.go 100 (h Q hQ)
 by_cases h1:k=s.length
 ·rw [if_pos h1]
  have q1:((k:Int)=(s.length:Int))=True:=Jm
  refine hen _ fun Q hQ=> ?_
  simp -implicitDefEqProofs only [go_sem,A3,k0,k1,q1,C0S,c32]
  exact KD
 ·rw [if_neg h1]
  have q1:((k:Int)=(s.length:Int))=False:=Jn
  have hlt:k<s.length:=by omega
  have hc:s[k]? =some s[k]:=List.getElem?_eq_getElem hlt
  generalize s[k]=c at hc
  rw [hc]
  have q2:s[((k:Nat):Int).toNat]? =some c:=hc
  by_cases h2:c=32
  ·subst h2
   by_cases h3:k+1=s.length
   ·rw [if_pos (.inr h3)]
    have q3:((k:Int)+1=(s.length:Int))=True:=Jm
    refine hen _ fun Q hQ=> ?_
    simp -implicitDefEqProofs only [go_sem,A3,k0,k1,q1,q2,q3,hc,C0S,c32]
    refine⟨by omega,?_⟩
    exact KD
   ·rw [if_neg (by rintro(h|h);exact h rfl;exact h3 h)]
    have q3:((k:Int)+1=(s.length:Int))=False:=Jn
    refine hen _ fun Q hQ=> ?_
    simp -implicitDefEqProofs only [go_sem,A3,k0,k1,q1,q2,q3,hc,C0S,c32,B4T]
    refine⟨by omega,by omega,by omega,by omega,by omega,?_⟩
    exact KD
  ·rw [if_pos (.inl (by simpa using h2))]
   have q3:((c.toNat:Int)=32)=False:=eq_false (fun h=>h2 (UInt8.toNat_inj.1 (by show c.toNat=32;omega)))
   refine hen _ fun Q hQ=> ?_
   simp -implicitDefEqProofs only [go_sem,A3,k0,k1,q1,q2,q3,hc,C0S,c32]
   exact KD
theorem D6c: ∀s:List UInt8,Lib.indexByte s 32=if d7 s=s.length then -1 else(d7 s:Int)
 | []=>rfl
 | c::r=>by
  have ih:=D6c r
  have hl:=B4u r
  rw [Lib.indexByte,d7,List.length_cons]
  by_cases hc:c=32
  ·subst hc
   rw [if_pos zg,if_pos rfl,if_neg zd];rfl
  ·rw [if_neg zA,if_neg hc,ih]
   by_cases h:d7 r=r.length
   ·rw [if_pos h,if_pos zf,if_pos zd]
   ·rw [if_neg h,if_neg zg,if_neg zd];omega
theorem A0h(b st n:Nat)(x:Sc)(hB:x.s.length≤100000):
  A0 Tryz.prog 101 [.ptr b st 0 0] (scH b st x) n (fun r h' _=>r= .str x.w∧h'=scH b st x.word):=by
 have hib:Abs.Pure Tryz.prog 154 [.str x.s,.int .u8 32] (.int .i64 (if d7 x.s=x.s.length then -1 else(d7 x.s:Int))):=by rw [←D6c];exact A8m x.s 32
 have hl:=B4u x.s
 have ht: ∀(n:Nat) (k:Int),k=d7 x.s→A0 Tryz.prog 153 [.ptr b st 0 0,.int .i64 k] (scH b st x) n (fun r h' _=>r= .str (x.s.take (d7 x.s))∧h'=scH b st (x.take (d7 x.s))):=by
  rintro n k rfl;exact B7H b st n x (d7 x.s) hl hB
 unfold Sc.word Sc.w
 generalize x.s.take (d7 x.s)=w at ht⊢
 generalize x.take (d7 x.s)=y at ht⊢
 obtain⟨s,ok⟩:=x
 obtain⟨ys,yo⟩:=y
 unfold scH at*
 simp only at*
 refine A0.enterK p9 Jo fun Q hQ=>Run.go 100 ?_
 refine Qz ?_
 refine A0.pureF hib ze ?_
 have hlen:((s.length:Int)<0)=False:=Jn
 have hwl:((d7 s:Int)<0)=False:=Jn
 by_cases hk:d7 s=s.length
 ·rw [if_pos hk]
  refine Qy ?_
  exact XG
 ·rw [if_neg hk]
  simp -implicitDefEqProofs only [go_sem,hwl]
  exact XG
theorem K1(b st n:Nat)(x:Sc)(w:List UInt8)(hB:x.s.length≤100000):
  A0 Tryz.prog 97 [.ptr b st 0 0,.str w] (scH b st x) n (fun r h' _=>r= .tup []∧h'=scH b st (x.expect w)):=by
 have ht:=fun n=>A0h b st n x hB
 unfold Sc.expect
 generalize x.w=v at ht⊢
 generalize x.word=y at ht⊢
 obtain⟨s,ok⟩:=x
 obtain⟨ys,yo⟩:=y
 unfold scH at*
 simp only at*
 refine A0.enterK X2 Jo fun Q hQ=>Run.go 100 ?_
 refine Qz ?_
 refine A0.at [0] [] (ht _) rfl rfl ?_
 rintro r h' n' hn ⟨rfl,rfl⟩
 by_cases hw:v=w<;>cases yo<;>simp -implicitDefEqProofs only [go_sem,hw]
 all_goals (subst hQ;exact .is ⟨rfl,by simp [hw]⟩)
theorem A8e(b st n:Nat)(x:Sc):A0 Tryz.prog 100 [.ptr b st 0 0] (scH b st x) n (fun r h' _=>r= .bool (x.ok&&decide (x.s= []))∧h'=scH b st x):=by
 obtain⟨s,ok⟩:=x
 unfold scH
 simp only
 refine A0.enterK A0s Jo fun Q hQ=>Run.go 100 ?_
 cases ok<;>by_cases hw:s= []<;>simp -implicitDefEqProofs only [go_sem,A3,hw]
 all_goals (subst hQ;exact .is ⟨by simp [hw],by simp [hw]⟩)
theorem D1n(x:Sc):x.w.length≤x.s.length:=by
 unfold Sc.w;simp;omega
theorem A0x(b st n:Nat)(x:Sc)(hB:x.s.length≤100000):
  A0 Tryz.prog 99 [.ptr b st 0 0] (scH b st x) n (fun r h' _=>r= .int .i64 (atN x.w)∧h'=scH b st x.num):=by
 have ht:=fun n=>A0h b st n x hB
 have ha:=A1y x.w (Nat.le_trans (D1n x) hB)
 unfold Sc.num
 generalize x.w=v at ht ha⊢
 generalize x.word=y at ht⊢
 obtain⟨s,ok⟩:=x
 obtain⟨ys,yo⟩:=y
 unfold scH at*
 unfold A2X at ha
 unfold atN isN
 simp only at*
 refine A0.enterK A0t Jo fun Q hQ=>Run.go 100 ?_
 refine Qz ?_
 refine A0.at [0] [] (ht _) rfl rfl ?_
 rintro r h' n' hn ⟨rfl,rfl⟩
 refine Qy ?_
 cases hv:Lib.atoiAll v with
 | ok m=>
  rw [hv]at ha hQ
  simp only at ha hQ
  obtain⟨hm0,hm1⟩:=Lib.atoiAll_bounds hv
  have hi:=D7 m hm0 hm1
  refine A0.pureF ha rfl ?_
  cases yo
  ·refine Qy ?_
   subst hQ;exact .is ⟨rfl,by simp⟩
  ·refine Qy ?_
   refine A0.pureF hi rfl ?_
   by_cases hw:Lib.itoa m=v<;>simp -implicitDefEqProofs only [go_sem,hw]
   all_goals (subst hQ;exact .is ⟨rfl,by simp [hw]⟩)
 |range=>
  exact XX
 |_=>
  exact XX
theorem A4q(b st n:Nat)(x:Sc)(m:Int)(hB:x.s.length≤100000):
  A0 Tryz.prog 102 [.ptr b st 0 0,.int .i64 m] (scH b st x) n (fun r h' _=>r= .tup []∧h'=scH b st (x.number m)):=by
 have ht:=fun n=>A0x b st n x hB
 unfold Sc.number
 generalize atN x.w=v at ht⊢
 generalize x.num=y at ht⊢
 obtain⟨s,ok⟩:=x
 obtain⟨ys,yo⟩:=y
 unfold scH at*
 simp only at*
 refine A0.enterK X3 Jo fun Q hQ=>Run.go 100 ?_
 refine Qz ?_
 refine A0.at [0] [] (ht _) rfl rfl ?_
 rintro r h' n' hn ⟨rfl,rfl⟩
 by_cases hw:v=m<;>cases yo<;>simp -implicitDefEqProofs only [go_sem,hw]
 all_goals (subst hQ;exact .is ⟨rfl,by simp [hw]⟩)
theorem B9O(c:UInt8):Abs.Pure Tryz.prog 151 [.int .u8 c.toNat] (.int .u8 (A1N c).toNat):=by
 unfold A1N
 refine Pure.of 0 (A0.enter A4j Jo (Run.go 100 ?_))
 by_cases h1:c=110
 ·subst h1
  rw [if_pos rfl]
  refine Qz ?_
  decide
 ·rw [if_neg h1]
  have q1:((c.toNat:Int)=110)=False:=eq_false (fun h=>h1 (UInt8.toNat_inj.1 (by show c.toNat=110;omega)))
  by_cases h2:c=116
  ·subst h2
   rw [if_pos rfl]
   refine Qz ?_
   decide
  ·rw [if_neg h2]
   have q2:((c.toNat:Int)=116)=False:=eq_false (fun h=>h2 (UInt8.toNat_inj.1 (by show c.toNat=116;omega)))
   simp -implicitDefEqProofs only [go_sem,A3,q1,q2]
end Go.Proofs.YtflobbpcabopjaaGreatDoor
end
section
set_option maxRecDepth 100000
set_option maxHeartbeats 0
namespace Go.Abs
variable {P:Program}
theorem C2y{T:Nat}{f:FuncId}(hstr: ∀(b:Nat) (w:World),w.cell? ⟨b,1,none⟩=some (.slice none 0 0)→Calls P f #[.pointer (some ⟨b,0,none⟩)] w fun e w'=>e= .returned (.string ⟨#[]⟩)∧w'=w.drew)
  (b st n:Nat) (a:V):A0 P f [.ptr b st 0 0] [(b,st,.tb T 2 [[a,.nils]])] n fun r h' n'=>r= .str []∧h'= [(b,st,.tb T 2 [[a,.nils]])]∧n'=n:=by
 intro w O ρ cargs hr hR
 obtain⟨hl,hR⟩:=hR
 obtain⟨cs⟩:=cargs
 match cs,hl with
 | [v],_=>
  obtain⟨hst,hv⟩:=(hR 0 _ v rfl rfl).ptr_inv
  have hm:(b,st,Blk.tb T 2 [[a,.nils]])∈ [(b,st,Blk.tb T 2 [[a,.nils]])]:=List.mem_singleton.2 rfl
  obtain⟨⟨hsz,hlen,hcell,hrows⟩,hoff,hsh⟩:=hr.blk _ hm
  simp only at hsz hlen hcell hrows hoff hsh
  have hvv:v= .pointer (some ⟨(ρ st).blk,0,none⟩):=by rw [hv];simp [hoff]
  subst hvv
  obtain⟨x1,q1,_,q3⟩:=(hrows 0 [a,.nils] rfl).2 1 _ rfl
  simp only [hoff,Nat.zero_mul,Nat.zero_add]at q1
  have hx1:x1= .slice none 0 0:=by cases q3;rfl
  subst hx1
  refine(hstr (ρ st).blk w q1).mono ?_
  rintro e' w' ⟨rfl,rfl⟩
  obtain⟨k1,k2⟩:=hr.drew
  exact⟨_,_,_,n,ρ,rfl,⟨rfl,rfl,rfl⟩,k1,.str [],k2⟩
end Go.Abs
namespace Go.Proofs
open Go Go.Shelf Go.RowKit
variable {P:Program} {ρ:Ren}
set_option maxHeartbeats 2000000 in
theorem A7Y(L:Lays.n169 P ρ)(X:Builder.Extra P ρ)(b:Nat)(w:World)(h1:w.cell? ⟨b,1,none⟩=some (.slice none 0 0)):
  Calls P (ρ.f 169) #[.pointer (some ⟨b,0,none⟩)] w fun e w'=>e= .returned (.string ⟨#[]⟩)∧w'=w.drew:=by
 have hUS:=Any.unsafeString_none L X
 have c1:w.drew.cell? ⟨b,1,none⟩=some (.slice none 0 0):=h1
 have hSD:(Builtin.unsafeSliceData_ #[(ρ.t 37)] (ρ.t 127) #[.slice none 0 0]).run P w.drew= .ok (.pointer none) w.drew:=rfl
 have mixed:=L.mixed
 have t72:=L.t72;have a72:=L.a72;have z72:=L.z72;have v72:=L.v72;have u72:=run_underlying L.t72
 have t70:=L.t70;have a70:=L.a70;have z70:=L.z70;have v70:=L.v70;have u70:=run_underlying L.t70
 have t37:=L.t37;have a37:=L.a37;have z37:=L.z37;have v37:=L.v37;have u37:=run_underlying L.t37
 have t127:=L.t127;have a127:=L.a127;have z127:=L.z127;have v127:=L.v127;have u127:=run_underlying L.t127
 have t3:=L.t3;have a3:=L.a3;have z3:=L.z3;have v3:=L.v3;have u3:=run_underlying L.t3
 have t9:=L.t9;have a9:=L.a9;have z9:=L.z9;have v9:=L.v9;have u9:=run_underlying L.t9
 have t5:=X.t5;have a5:=X.a5;have z5:=X.z5;have v5:=X.v5;have u5:=run_underlying X.t5
 go_enter L.f169,Body.n169_ntmps ρ
 go_wp2
 go_region_o
 all_goals (go_wp2;go_ret;exact⟨rfl,rfl⟩)
end Go.Proofs
namespace Go.Proofs.YtflobbpcabopjaaGreatDoor
open Go Go.Abs
attribute [local irreducible] A0 Run
def bHf(b st:Nat)(l:List UInt8)(h:A2):Prop:= ∃a,(l= []∧h= [(b,st,.tb tB 2 [[a,.nils]])])∨(l≠ []∧ ∃nb sb,(nb=nWS∨nb=nWB)∧h= [(nb,sb,.fz tU (l.map fun x=> .int .u8 x.toNat)),(b,st,.tb tB 2 [[a,.sl nb sb 0 l.length]])])
theorem D5C(b st n:Nat)(a:V):A0 Tryz.prog 25 [.ptr b st 0 0] [(b,st,.tb tB 2 [[a,.nils]])] n fun r h' n'=>r= .str []∧h'= [(b,st,.tb tB 2 [[a,.nils]])]∧n'=n:=
 C2y (fun b w h=>A7Y (P:=Tryz.prog) (ρ:=Tryz.lays169_ren) Tryz.lays169 Tryz.Builder_Extra_169 b w h) b st n a
theorem D7v(b st n:Nat)(hb1:b≠nWS)(hb2:b≠nWB)(l:List UInt8)(h:A2)(hl:l.length≤100000)(hh:bH b st l h)(h0:l= []→h= [(b,st,.tb tB 2 [[.nilp,.nils]])]):
  A0 Tryz.prog 25 [.ptr b st 0 0] h n fun r h' n'=>r= .str l∧bHf b st l h':=by
 by_cases hn:l= []
 ·subst hn
  rw [h0 rfl]
  refine A0.mono (D5C b st n .nilp) ?_
  rintro r h' n' ⟨rfl,rfl,rfl⟩
  exact⟨rfl,.nilp,.inl ⟨rfl,rfl⟩⟩
 obtain⟨a,ha,⟨hc,_⟩|⟨nb,sb,hnb,rfl⟩⟩:=hh
 ·exact absurd hc hn
 have hne:nb≠b:=by
  rcases hnb with rfl|rfl
  ·exact Ne.symm hb1
  ·exact Ne.symm hb2
 have hx:B0B [] []=true:=rfl
 have key:=B7G (P:=Tryz.prog) (T:=tB) (e:=tU) (fun b g c cap l w h1 h2 h3 h4 h5 h6 h7=>P3 (P:=Tryz.prog) (ρ:=Tryz.lays169_ren) Tryz.lays169 Tryz.Builder_Extra_169 b g c cap l w h1 h2 h3 h4 h5 h6 h7) b st nb sb n a l hne hn zd
 refine A0.at [1,0] [] key rfl rfl ?_
 rintro r h' n' hn' ⟨rfl,rfl,rfl⟩
 exact⟨rfl,a,.inr ⟨hn,nb,sb,hnb,rfl⟩⟩
theorem D7w(b st n:Nat)(l:List UInt8)(h:A2)(hl:l.length≤100000)(hh:bHf b st l h):
  A0 Tryz.prog 25 [.ptr b st 0 0] h n fun r h' n'=>r= .str l:=by
 obtain⟨a,⟨rfl,rfl⟩|⟨hn,nb,sb,hnb,rfl⟩⟩:=hh
 ·refine A0.mono (D5C b st n a) ?_
  rintro r h' n' ⟨rfl,rfl,rfl⟩
  rfl
 ·have key:=B6d (P:=Tryz.prog) (T:=tB) (e:=tU) (fun b g c cap l w h1 h2 h3 h4 h5 h6 h7=>P3 (P:=Tryz.prog) (ρ:=Tryz.lays169_ren) Tryz.lays169 Tryz.Builder_Extra_169 b g c cap l w h1 h2 h3 h4 h5 h6 h7) b st nb sb n a l hn zd
  refine A0.mono key ?_
  rintro r h' n' ⟨rfl,rfl,rfl⟩
  rfl
theorem C5R{b st:Nat}{l:List UInt8}{h:A2}(hb:bHf b st l h){x:Nat}(h1:b≠x)(h2:nWS≠x)(h3:nWB≠x):B4 h x:=by
 obtain⟨a,⟨_,rfl⟩|⟨_,nb,sb,hnb,rfl⟩⟩:=hb
 ·intro e he;rw [List.mem_singleton.1 he];exact h1
 ·intro e he
  rcases List.mem_cons.1 he with rfl|he
  ·rcases hnb with rfl|rfl
   ·exact h2
   ·exact h3
  ·rw [List.mem_singleton.1 he];exact h1
end Go.Proofs.YtflobbpcabopjaaGreatDoor
end
