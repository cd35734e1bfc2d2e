/-
 numeral.Parse at any text: numbers, fractions, Parse. No condition.
-/
import Derived.Test.YtflobbpcabopjaaGreatDoorLpM
set_option linter.unusedVariables false set_option linter.unusedSimpArgs false set_option maxRecDepth 100000
set_option maxHeartbeats 0
namespace Go.Proofs.YtflobbpcabopjaaGreatDoor
open Go Go.Abs
attribute [local irreducible] A0 Run
abbrev nFr:Nat:=(191*10000+4)
-- EV: nFr
attribute [local go_sem] nFr
theorem C7X(s:List UInt8)(fr en:Nat):(s.drop fr).take ((en:Int)-(fr:Int)).toNat=(s.take en).drop fr:=by
 rw [show ((en:Int)-(fr:Int)).toNat=en-fr by omega,List.drop_take]
theorem C9V(s:List UInt8)(fr en:Nat):((s.take en).drop fr).length≤s.length:=by
 rw [List.length_drop,List.length_take];omega
theorem C0d(s:List UInt8)(hB:s.length≤100000)(m:Nm)(h:NmOK s m):Abs.Pure Tryz.prog 191 [.agg [.bool m.hex,.int .i64 m.pt,.int .i64 m.en,.int .i64 m.fr],.str s] (nV (B5z s m)):=by
 refine Pure.of 0 (A0.enter X7 Jo (Run.go 100 ?_))
 cases h with
 | whole hex en fr hfr he hd=>
  have e1:=C7X s fr en
  have e1b:(s.drop (fr:Int).toNat).take ((en:Int)-(fr:Int)).toNat=(s.take en).drop fr:=e1
  have hlen:=Nat.le_trans (C9V s fr en) hB
  have hi16:=A0n ((s.take en).drop fr) hlen 16 zd zd hd
  have hi10:=A0n ((s.take en).drop fr) hlen 10 zd zd hd
  have hin:=fun b (hb:2≤b) m=>B1R (b:=b) hb (n:=0) (m:=m) hd zd zd
  unfold B5z
  simp only
  rw [if_pos zf]
  generalize (s.take en).drop fr=T at*
  cases hex with
  | false=>
   simp only [if_false,Bool.false_eq_true]
   generalize hI:A3c 10 T 0=I at*
   have hin:=hin 10 zd
   rw [hI]at hin
   cases I with
   |none=>
    simp only [Option.getD_none,Option.isSome_none]at hi10
    unfold A3P nV
    refine QR ?_
    refine⟨by omega,by omega,by omega,?_⟩
    refine A0.pureF hi10 ze ?_
    exact Yc
   | some v=>
    simp only [Option.getD_some,Option.isSome_some]at hi10
    have hv:=hin v rfl
    have hk:=B2c hv.1 hv.2 (b:=1) zd zd
    unfold A3P
    simp only
    generalize mkV v.toNat (1:Int).toNat=M at*
    obtain⟨p,q,e⟩:=M
    unfold nV at*
    simp only at hk⊢
    by_cases h0:e=0
    ·rw [if_pos h0]
     subst h0
     refine QR ?_
     refine⟨by omega,by omega,by omega,?_⟩
     refine A0.pureF hi10 ze ?_
     exact Yd
    ·have f0:(e=0)=False:=eq_false h0
     rw [if_neg h0]
     refine QR ?_
     refine⟨by omega,by omega,by omega,?_⟩
     refine A0.pureF hi10 ze ?_
     exact Xq
  | true=>
   simp only [if_true]
   generalize hI:A3c 16 T 0=I at*
   have hin:=hin 16 zd
   rw [hI]at hin
   cases I with
   |none=>
    simp only [Option.getD_none,Option.isSome_none]at hi16
    unfold A3P nV
    refine QR ?_
    refine⟨by omega,by omega,by omega,?_⟩
    refine A0.pureF hi16 ze ?_
    exact Yc
   | some v=>
    simp only [Option.getD_some,Option.isSome_some]at hi16
    have hv:=hin v rfl
    have hk:=B2c hv.1 hv.2 (b:=1) zd zd
    unfold A3P
    simp only
    generalize mkV v.toNat (1:Int).toNat=M at*
    obtain⟨p,q,e⟩:=M
    unfold nV at*
    simp only at hk⊢
    by_cases h0:e=0
    ·rw [if_pos h0]
     subst h0
     refine QR ?_
     refine⟨by omega,by omega,by omega,?_⟩
     refine A0.pureF hi16 ze ?_
     exact Yd
    ·have f0:(e=0)=False:=eq_false h0
     rw [if_neg h0]
     refine QR ?_
     refine⟨by omega,by omega,by omega,?_⟩
     refine A0.pureF hi16 ze ?_
     exact Xq
 | part pt en hpt he hd1 hd2=>
  have e0:(s.drop 0).take ((en:Int)-0).toNat=s.take en:=by rw [List.drop_zero];congr 1
  have e0':s.take ((en:Int)-0).toNat=s.take en:=by congr 1
  have e0'':s.take ((pt:Int)-0).toNat=s.take pt:=by congr 1
  have e1:(s.drop ((pt:Int)+1).toNat).take ((en:Int)-((pt:Int)+1)).toNat=(s.take en).drop (pt+1):=by
   rw [show ((pt:Int)+1).toNat=pt+1 by omega,show ((en:Int)-((pt:Int)+1)).toNat=en-(pt+1) by omega,List.drop_take]
  have hla:((s.take en).drop (pt+1)).length=en-(pt+1):=by rw [List.length_drop,List.length_take];omega
  have hlt:(s.take pt++(s.take en).drop (pt+1)).length≤100000:=by
   rw [List.length_append,hla,List.length_take];omega
  have hdd: ∀c∈s.take pt++(s.take en).drop (pt+1),0≤A0m c:=fun c hc=>(List.mem_append.1 hc).elim (hd1 c) (hd2 c)
  have hi:=A0n _ hlt 10 zd zd hdd
  have hin:=fun m=>B1R (b:=10) zd (n:=0) (m:=m) hdd zd zd
  have p0:((0:Int)≤(pt:Int))=True:=Jm
  unfold B5z
  simp only
  rw [if_neg zd,Int.toNat_natCast]
  generalize hL:en-(pt+1)=L at*
  generalize (s.take en).drop (pt+1)=A at*
  have hAL:(A.length:Int)=(L:Int):=by rw [hla]
  by_cases h9:9<L
  ·have f9:((9:Int)<(L:Int))=True:=Jm
   rw [if_pos h9]
   unfold nV
   simp -implicitDefEqProofs only [go_sem,A3,e0,e0',p0]
   refine⟨by omega,by omega,by omega,?_⟩
   simp -implicitDefEqProofs only [go_sem,e1,hAL,f9]
   exact⟨by omega,by omega,by omega⟩
  ·rw [if_neg h9]
   have f9:((9:Int)<(L:Int))=False:=Jn
   have hpow: ∀k:Nat,k≤9→(10^k:Nat)≤1000000000∧1≤(10^k:Nat):=fun k hk=>⟨Nat.le_trans (Nat.pow_le_pow_right zd hk) zf,Nat.pos_of_ne_zero zg⟩
   have hL9:=hpow L zd
   generalize hT:s.take pt++A=T at*
   have hmk:=fun v (hv:0≤v∧v≤4611686018427387904)=>B2c hv.1 hv.2 (b:=((10^L:Nat):Int)) zd zd
   generalize hI:A3c 10 T 0=I at*
   simp -implicitDefEqProofs only [go_sem,A3,e0,e0',p0]
   refine⟨by omega,by omega,by omega,?_⟩
   simp -implicitDefEqProofs only [go_sem,e1,hAL,f9,e0'',hT]
   have htp:(s.take pt).length≤s.length:=by rw [List.length_take];omega
   refine⟨by omega,by omega,by omega,by omega,by omega,?_⟩
   refine Run.rounds (fun(k:Nat)=>⟨[(46,.int .i64 k),(45,.int .i64 L),(8,.int .i64 ((10^k:Nat):Int)),(7,.str T),(6,.int .i64 10),(4,.ptr nFr 1 0 0)],[(nFr,1,.rows 2 [[.int .i64 0,.int .i64 0]])],2⟩) (fun k=>k≤L) (fun k=>L-k) 0 zJ (Nat.zero_le _) ?_
   intro k hk ih
   refine Run.unf A2h (Run.go 100 ?_)
   by_cases c:(k:Int)<(L:Int)
   ·have hp:=hpow (k+1) zd
    have hs:((10^(k+1):Nat):Int)=((10^k:Nat):Int)*10:=by rw [Nat.pow_succ];omega
    have ih2:=fun s=>ih s (k+1)
    simp only [hs]at ih2
    have hz:((10^k:Nat):Int)*10≤1000000000∧0≤((10^k:Nat):Int)*10:=by omega
    generalize ((10^k:Nat):Int)=u at*
    refine QN ?_
    exact⟨⟨by omega,by omega⟩,by omega,ih2 _ zd zd zJ⟩
   ·obtain rfl:k=L:=by omega
    clear ih
    cases I with
    |none=>
     simp only [Option.getD_none,Option.isSome_none]at hi
     unfold A3P nV
     refine QN ?_
     refine A0.pureF hi ze ?_
     exact Yc
    | some v=>
     simp only [Option.getD_some,Option.isSome_some]at hi
     have hv:=hin v rfl
     have hk:=hmk v hv
     unfold A3P
     simp only
     generalize mkV v.toNat _=M at*
     obtain⟨p,q,e⟩:=M
     unfold nV at*
     simp only at hk⊢
     by_cases h0:e=0
     ·rw [if_pos h0]
      subst h0
      refine QN ?_
      refine A0.pureF hi ze ?_
      exact Yd
     ·have f0:(e=0)=False:=eq_false h0
      rw [if_neg h0]
      refine QN ?_
      refine A0.pureF hi ze ?_
      exact Xq
theorem B6p(s:List UInt8)(hB:s.length≤100000):Abs.Pure Tryz.prog 192 [.str s] (nV (A3a s)):=by
 refine Pure.of 0 (A0.enter A2A Jo (Run.go 100 ?_))
 have hc:=B4O s [47] zd
 rw [C3g]at hc
 unfold A3a
 cases hcc:B0K 47 s with
 |none=>
  rw [hcc]at hc
  unfold nV
  refine Qz ?_
  refine A0.pureF hc ze ?_
  exact Yc
 | some x=>
  obtain⟨p,q⟩:=x
  rw [hcc]at hc
  have hs:=B3b 47 hcc
  have hlp:p.length+q.length+1=s.length:=by rw [hs];simp;omega
  simp only at hc⊢
  have hrp:=B5Q p zd 0 (Nat.zero_le _) 10 0 rfl
  have hrq:=B5Q q zd 0 (Nat.zero_le _) 10 0 rfl
  rw [List.drop_zero,Nat.zero_add]at hrp hrq
  by_cases h1:p= []
  ·rw [if_pos (.inl h1)]
   unfold nV
   refine Qz ?_
   refine A0.pureF hc ze ?_
   simp -implicitDefEqProofs only [go_sem,h1]
  by_cases h2:q= []
  ·rw [if_pos (.inr (.inl h2))]
   unfold nV
   refine Qz ?_
   refine A0.pureF hc ze ?_
   simp -implicitDefEqProofs only [go_sem,h1,h2]
  by_cases h3: ¬F8 10 p=p.length
  ·rw [if_pos (.inr (.inr (.inl h3)))]
   have f3:((F8 10 p:Nat):Int)=(p.length:Int)↔False:=⟨fun h=>h3 zd,fun h=>h.elim⟩
   have f3:(((F8 10 p:Nat):Int)=(p.length:Int))=False:=propext f3
   unfold nV
   refine Qz ?_
   refine A0.pureF hc ze ?_
   refine QD ?_
   refine A0.pureF hrp ze ?_
   simp -implicitDefEqProofs only [go_sem,f3]
  have h3:=Classical.not_not.1 h3
  by_cases h4: ¬F8 10 q=q.length
  ·rw [if_pos (.inr (.inr (.inr h4)))]
   have f4:(((F8 10 q:Nat):Int)=(q.length:Int))=False:=eq_false fun h=>h4 zd
   unfold nV
   refine Qz ?_
   refine A0.pureF hc ze ?_
   refine QD ?_
   refine A0.pureF hrp ze ?_
   refine Ja ?_
   refine A0.pureF hrq ze ?_
   simp -implicitDefEqProofs only [go_sem,f4]
  have h4:=Classical.not_not.1 h4
  rw [if_neg (by rintro(h|h|h|h);exact h1 h;exact h2 h;exact h h3;exact h h4)]
  have dp: ∀c∈p,0≤A0m c:=fun c hc=>A9L 10 p c (by rw [h3,List.take_length];exact hc)
  have dq: ∀c∈q,0≤A0m c:=fun c hc=>A9L 10 q c (by rw [h4,List.take_length];exact hc)
  have hip:=A0n p zd 10 zd zd dp
  have hiq:=A0n q zd 10 zd zd dq
  have bp:=fun m=>B1R (b:=10) zd (n:=0) (m:=m) dp zd zd
  have bq:=fun m=>B1R (b:=10) zd (n:=0) (m:=m) dq zd zd
  generalize A3c 10 p 0=X at*
  generalize A3c 10 q 0=Y at*
  cases X with
  |none=>
   simp only [Option.getD_none,Option.isSome_none]at hip
   exact JY
  | some a=>
   cases Y with
   |none=>
    simp only [Option.getD_some,Option.isSome_some]at hip
    simp only [Option.getD_none,Option.isSome_none]at hiq
    exact JY
   | some b=>
    simp only [Option.getD_some,Option.isSome_some]at hip hiq
    have ha:=bp a rfl
    have hb:=bq b rfl
    have hk:=B2c ha.1 ha.2 hb.1 hb.2
    unfold A3P
    simp only
    generalize mkV a.toNat b.toNat=M at*
    obtain⟨x,y,e⟩:=M
    unfold nV at*
    simp only at hk⊢
    by_cases h0:e=0
    ·rw [if_pos h0]
     subst h0
     refine Qz ?_
     refine A0.pureF hc ze ?_
     refine QD ?_
     refine A0.pureF hrp ze ?_
     refine Ja ?_
     refine A0.pureF hrq ze ?_
     simp -implicitDefEqProofs only [go_sem,h4]
     refine A0.pureF hip ze ?_
     refine Qy ?_
     refine A0.pureF hiq ze ?_
     exact Yd
    ·have f0:(e=0)=False:=eq_false h0
     rw [if_neg h0]
     refine Qz ?_
     refine A0.pureF hc ze ?_
     refine QD ?_
     refine A0.pureF hrp ze ?_
     refine Ja ?_
     refine A0.pureF hrq ze ?_
     simp -implicitDefEqProofs only [go_sem,h4]
     refine A0.pureF hip ze ?_
     refine Qy ?_
     refine A0.pureF hiq ze ?_
     exact Xq
theorem C9I(t:List UInt8):A6e t=if (M7 (Lib.trimPrefix t [45])).2.2=0 then((if Lib.hasPrefix t [45]=true then -(M7 (Lib.trimPrefix t [45])).1 else(M7 (Lib.trimPrefix t [45])).1),(M7 (Lib.trimPrefix t [45])).2.1,0)else M7 (Lib.trimPrefix t [45]):=by
 unfold Lib.trimPrefix Lib.hasPrefix
 cases t with
 |nil=>
  have e:M7 []=(0,0,4):=rfl
  have e1:([45]:List UInt8).isPrefixOf []=false:=rfl
  simp only [e1,Bool.false_eq_true,if_false]
  rw [B2H zg,e]
  rfl
 | cons c r=>
  by_cases h:c=45
  ·subst h
   have e:([45]:List UInt8).isPrefixOf (45::r)=true:=by simp
   simp only [e,if_true]
   rfl
  ·have e:([45]:List UInt8).isPrefixOf (c::r)=false:=by simp [List.isPrefixOf];exact fun e=>h e.symm
   simp only [e,Bool.false_eq_true,if_false]
   rw [B2H zp]
   split
   ·rename_i h0
    rw [←h0]
   ·rfl
theorem B8t(s:List UInt8)(hB:s.length≤100000):Abs.Pure Tryz.prog 155 [.str s] (nV (D8 s)):=by
 have ht:=C1X s hB
 have hlt:(trL (trR s)).length≤100000:=Nat.le_trans (B8O _) (Nat.le_trans (C3x s) hB)
 unfold D8
 generalize trL (trR s)=t at*
 have hcp:=A8c t [45]
 rw [C9I]
 have hlu:(Lib.trimPrefix t [45]).length≤100000:=by
  unfold Lib.trimPrefix
  split
  ·rw [List.length_drop];omega
  ·exact hlt
 generalize Lib.trimPrefix t [45]=u at*
 generalize Lib.hasPrefix t [45]=mi at*
 have hf:=C4t u hlu
 have hfr:=B6p u hlu
 have hnum:=fun m=>C0d u hlu m
 have hok:=A5b u
 refine Pure.of 0 (A0.enter A5v Jo (Run.go 100 ?_))
 have hfo:=fun m (h:A8i u=some m)=>C6t h
 have end1: ∀{p q e:Int},M7 u=(p,q,e)→e=0→0≤p∧p≤2147483647:=by
  intro p q e hb h0
  rw [hb]at hok
  have:=hok.1 h0
  simp only [H1,Bool.and_eq_true,decide_eq_true_eq]at this
  omega
 have end2: ∀{p q e:Int},M7 u=(p,q,e)→ ¬e=0→0=p∧0=q:=by
  intro p q e hb h0
  rw [hb]at hok
  have:=hok.2 h0
  exact⟨this.1.symm,this.2.symm⟩
 unfold M7 at end1 end2⊢
 generalize A8i u=X at*
 cases X with
 | none=>
  simp only at end1 end2⊢
  unfold fV at hf
  generalize A3a u=M at*
  obtain⟨p,q,e⟩:=M
  have end1:=end1 rfl
  have end2:=end2 rfl
  unfold nV at*
  simp only at hfr hf⊢
  by_cases h0:e=0
  ·subst h0
   have:=end1 rfl
   rw [if_pos rfl]
   cases mi
   all_goals
    refine Qz ?_
    refine A0.pureF ht ze ?_
    refine Qy ?_
    refine A0.pureF hcp ze ?_
    refine Qy ?_
    refine A0.pureF hf ze ?_
    refine Qy ?_
    refine A0.pureF hfr ze ?_
    simp -implicitDefEqProofs only [go_sem]
    try (refine⟨⟨by omega,by omega⟩,by omega⟩)
    try exact⟨by omega,by omega⟩
  ·have f0:(e=0)=False:=eq_false h0
   rw [if_neg h0]
   cases mi
   all_goals
    refine Qz ?_
    refine A0.pureF ht ze ?_
    refine Qy ?_
    refine A0.pureF hcp ze ?_
    refine Qy ?_
    refine A0.pureF hf ze ?_
    refine Qy ?_
    refine A0.pureF hfr ze ?_
    exact YJ
 | some m=>
  simp only at end1 end2⊢
  have hm:=hfo m rfl
  have hnum:=hnum m hm
  unfold fV at hf
  simp only at hf
  by_cases hen:m.en=u.length
  ·rw [if_pos hen]at end1 end2⊢
   have g1:((m.en:Int)=(u.length:Int))=True:=Jm
   obtain⟨mh,mp,me,mf⟩:=m
   simp only at g1 hnum hf
   generalize B5z u _=M at*
   obtain⟨p,q,e⟩:=M
   have end1:=end1 rfl
   have end2:=end2 rfl
   unfold nV at*
   simp only at hnum⊢
   by_cases h0:e=0
   ·subst h0
    have:=end1 rfl
    rw [if_pos rfl]
    cases mi
    all_goals
     refine Qz ?_
     refine A0.pureF ht ze ?_
     refine Qy ?_
     refine A0.pureF hcp ze ?_
     refine Qy ?_
     refine A0.pureF hf ze ?_
     simp -implicitDefEqProofs only [go_sem,g1]
     refine A0.pureF hnum ze ?_
     simp -implicitDefEqProofs only [go_sem]
     try (refine⟨⟨by omega,by omega⟩,by omega⟩)
     try exact⟨by omega,by omega⟩
   ·have f0:(e=0)=False:=eq_false h0
    rw [if_neg h0]
    cases mi
    all_goals
     refine Qz ?_
     refine A0.pureF ht ze ?_
     refine Qy ?_
     refine A0.pureF hcp ze ?_
     refine Qy ?_
     refine A0.pureF hf ze ?_
     simp -implicitDefEqProofs only [go_sem,g1]
     refine A0.pureF hnum ze ?_
     exact YJ
  ·rw [if_neg hen]at end1 end2⊢
   have g1:((m.en:Int)=(u.length:Int))=False:=Jn
   obtain⟨mh,mp,me,mf⟩:=m
   simp only at g1 hf
   generalize A3a u=M at*
   obtain⟨p,q,e⟩:=M
   have end1:=end1 rfl
   have end2:=end2 rfl
   unfold nV at*
   simp only at hfr⊢
   by_cases h0:e=0
   ·subst h0
    have:=end1 rfl
    rw [if_pos rfl]
    cases mi
    all_goals
     refine Qz ?_
     refine A0.pureF ht ze ?_
     refine Qy ?_
     refine A0.pureF hcp ze ?_
     refine Qy ?_
     refine A0.pureF hf ze ?_
     simp -implicitDefEqProofs only [go_sem,g1]
     refine A0.pureF hfr ze ?_
     simp -implicitDefEqProofs only [go_sem]
     try (refine⟨⟨by omega,by omega⟩,by omega⟩)
     try exact⟨by omega,by omega⟩
   ·have f0:(e=0)=False:=eq_false h0
    rw [if_neg h0]
    cases mi
    all_goals
     refine Qz ?_
     refine A0.pureF ht ze ?_
     refine Qy ?_
     refine A0.pureF hcp ze ?_
     refine Qy ?_
     refine A0.pureF hf ze ?_
     simp -implicitDefEqProofs only [go_sem,g1]
     refine A0.pureF hfr ze ?_
     exact YJ
end Go.Proofs.YtflobbpcabopjaaGreatDoor
