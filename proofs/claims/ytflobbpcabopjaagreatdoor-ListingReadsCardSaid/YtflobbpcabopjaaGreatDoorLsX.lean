/-
 Known answers for runs: strings, numbers, builders. No condition.
-/
import Derived.Test.YtflobbpcabopjaaGreatDoorLsW
import Derived.Test.YtflobbpcabopjaaGreatDoorBldP
import Derived.Test.YtflobbpcabopjaaGreatDoorFnMa
set_option linter.unusedVariables false set_option maxRecDepth 100000
namespace Go.Abs
variable {P:Program}
def C9b(T:List (FuncId×(List V→Option V)))(lib:G9):G9:=fun f xs h n=>go f xs h n T
where
 go (f:FuncId) (xs:List V) (h:A2) (n:Nat):List (FuncId×(List V→Option V))→P1
  | []=>lib f xs h n
  |e::r=>bif Nat.beq e.1 f then A4M (e.2 xs) h n else go f xs h n r
theorem C9c{T:List (FuncId×(List V→Option V))}{lib:G9}(hT: ∀e∈T,∀xs r,e.2 xs=some r→Pure P e.1 xs r∧xs.map (V.sub I6)=xs)(hl:G2 P lib):G2 P (C9b T lib):=by
 intro f xs h n k hg
 have key: ∀T':List (FuncId×(List V→Option V)),(∀e∈T',e∈T)→F5 (C9b.go lib f xs h n T') k→A0 P f xs h n k:=by
  intro T'
  induction T' with
  |nil=>exact fun _ hg=>hl f xs h n k hg
  | cons e r ih=>
   intro hm hg
   simp only [C9b.go]at hg
   cases hb:Nat.beq e.1 f with
   |false=>rw [hb]at hg;exact ih (fun x hx=>hm x (List.mem_cons_of_mem _ hx)) hg
   | true=>
    rw [hb,cond_true]at hg
    cases ho:e.2 xs with
    |none=>rw [ho]at hg;exact hg.no.elim
    |some v=>
     rw [ho]at hg
     obtain⟨h1,h2⟩:=hT e (hm e List.mem_cons_self) xs v ho
     rw [←Nat.eq_of_beq_eq_true hb]
     exact A0.pure h1 h2 hg.one
 exact key T (fun _ h=>h) hg
def C9f(f0:FuncId)(xs0:List V)(r0:V)(lib:G9):G9:=fun f xs h n=>
 bif Nat.beq f0 f&&V.beqL (xs.map (frz 3 h)) xs0 then G3 r0 h n else lib f xs h n
theorem C3f{f0:FuncId}{xs0:List V}{r0:V}{lib:G9}(hp:Pure P f0 xs0 r0)(hf:A9Z r0=true)(hl:G2 P lib):G2 P (C9f f0 xs0 r0 lib):=by
 intro f xs h n k hg
 unfold C9f at hg
 cases hb:Nat.beq f0 f&&V.beqL (xs.map (frz 3 h)) xs0 with
 |false=>rw [hb]at hg;exact hl _ _ _ _ _ hg
 |true=>
  rw [hb,cond_true]at hg
  rw [Bool.and_eq_true]at hb
  rw [←Nat.eq_of_beq_eq_true hb.1]
  exact A0.view hp 3 (V.beqL_eq hb.2) hf hg.one
def B6s:V→Option UInt8
 | .int .u8 z=>bif decide (0≤z∧z<256)then some z.toNat.toUInt8 else none
 |_=>none
theorem B7u{v:V}{c:UInt8}(h:B6s v=some c):v= .int .u8 c.toNat:=by
 unfold B6s at h
 exact JZ
def B0E:List (List V)→Option (List UInt8)
 | []=>some []
 | [v]::r=>match B6s v,B0E r with
  |some c,some l=>some (c::l)
  |_,_=>none
 |_=>none
theorem B3A: ∀{rs:List (List V)} {l:List UInt8},B0E rs=some l→rs=C2 l
 | [],l,h=>by rw [B0E]at h;injection h with h;rw [←h];rfl
 | []::r,l,h=>by simp [B0E]at h
 |(v::w::t)::r,l,h=>by simp [B0E]at h
 | [v]::r,l,h=>by
  rw [B0E]at h
  split at h
  ·rename_i c m h1 h2
   injection h with h
   rw [←h,B3A h2,B7u h1];rfl
  ·cases h
def C6b:Value→Option UInt8
 | .int .u8 z=>bif decide (0≤z∧z<256)then some z.toNat.toUInt8 else none
 |_=>none
theorem C1l{v:Value}{c:UInt8}(h:C6b v=some c):v= .int .u8 c.toNat:=by
 unfold C6b at h
 exact JZ
def B4F:List Value→Option (List UInt8)
 | []=>some []
 |v::r=>match C6b v,B4F r with
  |some c,some l=>some (c::l)
  |_,_=>none
theorem B3B: ∀{rs:List Value} {l:List UInt8},B4F rs=some l→rs=l.map fun x=> .int .u8 x.toNat
 | [],l,h=>by rw [B4F]at h;injection h with h;rw [←h];rfl
 | v::r,l,h=>by
  rw [B4F]at h
  split at h
  ·rename_i c m h1 h2
   injection h with h
   rw [←h,B3B h2,C1l h1];rfl
  ·cases h
theorem C1W{h:A2}{b:Nat}{e:Nat×Nat×Blk}(he:e∈A2.del h b):e∈h∧e.1≠b:=A2.mem_del.1 he
end Go.Abs
namespace Go.Proofs.YtflobbpcabopjaaGreatDoor
open Go Go.Abs
attribute [local irreducible] A0
def C6Q(lib:G9):G9:=fun f xs h n=>bif Nat.beq 50 f then ckE xs h n else bif Nat.beq 25 f then stE xs h n else lib f xs h n
where
 ckE:List V→A2→Nat→P1
  | [.ptr b st 0 0],h,n=>match A2.get h b st with
   |some (.tb T 2 [[a,x]])=>bif Nat.beq T tB&&(V.beq a .nilp||V.beq a (.ptr b st 0 0))then G3 (.tup []) ((b,st,.tb tB 2 [[.ptr b st 0 0,x]])::A2.del h b) n else none
   |_=>none
  |_,_,_=>none
 stE : List V→A2→Nat→P1
  | [.ptr b st 0 0],h,n=>match A2.get h b st with
   | some (.tb T 2 [[a,.sl nb sb 0 m]])=>bif Nat.beq T tB&& !(Nat.beq nb b)then(match A2.get h nb sb with
    |some (.tb U 1 rs)=>match B0E rs with
     | some l=>bif Nat.beq U tU&&Nat.beq l.length m&&Nat.ble 1 l.length&&Nat.ble l.length 1000000000 then
       G3 (.str l) ((nb,sb,.fz tU (l.map fun x=> .int .u8 x.toNat))::(b,st,.tb tB 2 [[a,.sl nb sb 0 l.length]])::A2.del (A2.del h b) nb) n else none
     |none=>none
    |some (.fz U vs)=>match B4F vs with
     |some l=>bif Nat.beq U tU&&Nat.beq l.length m&&Nat.ble 1 l.length&&Nat.ble l.length 1000000000 then G3 (.str l) (A2.del (A2.del h b) nb) n else none
     |none=>none
    |_=>none)else none
   |_=>none
  |_,_,_=>none
theorem C5Z(b st nb sb n:Nat)(a:V)(l:List UInt8)(hne:nb≠b)(h0:l≠ [])(h63:l.length≤9223372036854775807):
  A0 Tryz.prog 25 [.ptr b st 0 0] [(nb,sb,.tb tU 1 (C2 l)),(b,st,.tb tB 2 [[a,.sl nb sb 0 l.length]])] n fun r h' n'=>r= .str l∧h'= [(nb,sb,.fz tU (l.map fun x=> .int .u8 x.toNat)),(b,st,.tb tB 2 [[a,.sl nb sb 0 l.length]])]∧n'=n:=
 B7G (fun b g c cap l w h1 h2 h3 h4 h5 h6 h7=>P3 (P:=Tryz.prog) (ρ:=Tryz.lays169_ren) Tryz.lays169 Tryz.Builder_Extra_169 b g c cap l w h1 h2 h3 h4 h5 h6 h7) b st nb sb n a l hne h0 h63
theorem C6a(b st nb sb n:Nat)(a:V)(l:List UInt8)(h0:l≠ [])(h63:l.length≤9223372036854775807):
  A0 Tryz.prog 25 [.ptr b st 0 0] [(nb,sb,.fz tU (l.map fun x=> .int .u8 x.toNat)),(b,st,.tb tB 2 [[a,.sl nb sb 0 l.length]])] n fun r h' n'=>r= .str l∧h'= []∧n'=n:=
 B6d (fun b g c cap l w h1 h2 h3 h4 h5 h6 h7=>P3 (P:=Tryz.prog) (ρ:=Tryz.lays169_ren) Tryz.lays169 Tryz.Builder_Extra_169 b g c cap l w h1 h2 h3 h4 h5 h6 h7) b st nb sb n a l h0 h63
theorem C9a{lib:G9}(hl:G2 Tryz.prog lib):G2 Tryz.prog (C6Q lib):=by
 intro f xs h n k hg
 unfold C6Q at hg
 cases hb:Nat.beq 50 f with
 | true=>
  rw [hb,cond_true]at hg
  rw [←Nat.eq_of_beq_eq_true hb]
  unfold C6Q.ckE at hg
  split at hg
  ·rename_i b st
   split at hg
   ·rename_i T a x hx
    cases hc:Nat.beq T tB&&(V.beq a .nilp||V.beq a (.ptr b st 0 0))with
    |false=>rw [hc]at hg;exact hg.no.elim
    | true=>
     rw [hc,cond_true]at hg
     rw [Bool.and_eq_true,Bool.or_eq_true]at hc
     obtain⟨h1,h2⟩:=hc
     obtain rfl:=Nat.eq_of_beq_eq_true h1
     refine A0.frame (rest:=A2.del h b) (B0I b st n a x (h2.imp V.beq_eq V.beq_eq)) (fun e he=> ?_) (fun e he=> ?_) ?_
     ·rw [List.mem_singleton.1 he];exact A2.mem_of_get hx
     ·obtain⟨q1,q2⟩:=C1W he
      exact⟨q1,fun e' he'=>by rw [List.mem_singleton.1 he'];exact fun h=>q2 h.symm⟩
     ·exact YS
   ·exact JJ
  ·exact JJ
 | false =>
  rw [hb,cond_false]at hg
  cases hb2:Nat.beq 25 f with
  |false=>rw [hb2,cond_false]at hg;exact hl _ _ _ _ _ hg
  | true =>
   rw [hb2,cond_true]at hg
   rw [←Nat.eq_of_beq_eq_true hb2]
   unfold C6Q.stE at hg
   split at hg
   ·rename_i b st
    split at hg
    ·rename_i T a nb sb m hx
     cases hc:Nat.beq T tB&& !(Nat.beq nb b)with
     |false=>rw [hc]at hg;exact hg.no.elim
     | true=>
      rw [hc,cond_true]at hg
      rw [Bool.and_eq_true]at hc
      obtain⟨h1,h2⟩:=hc
      obtain rfl:=Nat.eq_of_beq_eq_true h1
      have hne:nb≠b:=fun e=>by rw [e,Nat.beq_refl]at h2;cases h2
      have hrest: ∀(B1 B2:Blk),∀e∈A2.del (A2.del h b) nb,e∈h∧ ∀e'∈ [(nb,sb,B1),(b,st,B2)],e'.1≠e.1:=fun B1 B2 e he=>by
       obtain⟨q1,q2⟩:=C1W he
       obtain⟨q3,q4⟩:=C1W q1
       refine⟨q3,fun e' he'=> ?_⟩
       rcases List.mem_cons.1 he' with rfl|he'
       ·exact fun h=>q2 h.symm
       ·rw [List.mem_singleton.1 he'];exact fun h=>q4 h.symm
      split at hg
      ·rename_i U rs hy
       split at hg
       ·rename_i l hbv
        cases hd:Nat.beq U tU&&Nat.beq l.length m&&Nat.ble 1 l.length&&Nat.ble l.length 1000000000 with
        |false=>rw [hd]at hg;exact hg.no.elim
        | true=>
         rw [hd,cond_true]at hg
         simp only [Bool.and_eq_true]at hd
         obtain⟨⟨⟨k1,k2⟩,k3⟩,k4⟩:=hd
         obtain rfl:=Nat.eq_of_beq_eq_true k1
         obtain rfl:=Nat.eq_of_beq_eq_true k2
         have k3:=Nat.le_of_ble_eq_true k3
         have k4:=Nat.le_of_ble_eq_true k4
         rw [B3A hbv]at hy
         refine A0.frame (rest:=A2.del (A2.del h b) nb) (C5Z b st nb sb n a l hne (by rintro rfl;simp at k3) zd) (fun e he=> ?_) (hrest _ _) ?_
         ·exact Yg
         ·exact YS
       ·exact JJ
      ·rename_i U vs hy
       split at hg
       ·rename_i l hbv
        cases hd:Nat.beq U tU&&Nat.beq l.length m&&Nat.ble 1 l.length&&Nat.ble l.length 1000000000 with
        |false=>rw [hd]at hg;exact hg.no.elim
        | true=>
         rw [hd,cond_true]at hg
         simp only [Bool.and_eq_true]at hd
         obtain⟨⟨⟨k1,k2⟩,k3⟩,k4⟩:=hd
         obtain rfl:=Nat.eq_of_beq_eq_true k1
         obtain rfl:=Nat.eq_of_beq_eq_true k2
         have k3:=Nat.le_of_ble_eq_true k3
         have k4:=Nat.le_of_ble_eq_true k4
         rw [B3B hbv]at hy
         refine A0.frame (rest:=A2.del (A2.del h b) nb) (C6a b st nb sb n a l (by rintro rfl;simp at k3) zd) (fun e he=> ?_) (hrest _ _) ?_
         ·exact Yg
         ·exact YS
       ·exact JJ
      ·exact JJ
    ·exact JJ
   ·exact JJ
def D5V:List V→Option V
 | [.str s,.str p]=>some (.bool (Lib.hasPrefix s p))
 |_=>none
def D5W:List V→Option V
 | [.str s,v]=>(B6s v).map fun c=> .int .i64 (Lib.indexByte s c)
 |_=>none
def D0C:List V→Option V
 | [.str s,.str p]=>bif M3 p [32]then some (.str (Lib.trimLeftB s 32))else none
 |_=>none
def D5U:List V→Option V
 | [.str s,.str p]=>bif Nat.ble s.length 100000 then some (.tup [.str (Lib.cut s p).1,.str (Lib.cut s p).2.1,.bool (Lib.cut s p).2.2])else none
 |_=>none
def D0B:List V→Option V
 | [.int .i64 z]=>bif decide (-9223372036854775808≤z∧z≤9223372036854775807)then some (.str (Lib.itoa z))else none
 |_=>none
def D0z:List V→Option V
 | [.str s]=>bif Nat.ble s.length 100000 then(match Lib.atoiAll s with
  | .ok v=>some (.tup [.int .i64 v,.cst .nilIface])
  |_=>none)else none
 |_=>none
def C6D:List V→Option V
 | [.str s,.str p]=>bif M3 p [32]&&Nat.ble s.length 100000 then some (.isl ((A9o s).map fun x=> [.str x]))else none
 |_=>none
def C6C:List V→Option V
 | [.str s]=>bif Nat.ble s.length 100000 then some (.str (D2 s))else none
 |_=>none
def D0A:List V→Option V
 | [.str s,.str p]=>some (.tup [.str (Lib.trimPrefix s p),.bool (Lib.hasPrefix s p)])
 |_=>none
def D6g:G9:=C9b [(189,D0A),(52,D5V),(154,D5W),(65,D0C),(28,D5U),(45,D0B),(152,D0z),(193,C6D),(74,C6C)] (C6Q C6R)
theorem C9e:G2 Tryz.prog D6g:=by
 refine C9c (fun e he xs r hr=> ?_) (C9a C3e)
 simp only [List.mem_cons,List.not_mem_nil,or_false]at he
 rcases he with rfl|rfl|rfl|rfl|rfl|rfl|rfl|rfl|rfl
 ·simp only [D0A]at hr
  split at hr
  ·injection hr with hr
   subst hr
   exact⟨A8c _ _,rfl⟩
  ·cases hr
 ·simp only [D5V]at hr
  split at hr
  ·injection hr with hr
   subst hr
   exact⟨C7 _ _,rfl⟩
  ·cases hr
 ·simp only [D5W]at hr
  split at hr
  ·obtain⟨c,h1,rfl⟩:=Option.map_eq_some_iff.1 hr
   rw [B7u h1]
   exact⟨A8m _ _,rfl⟩
  ·cases hr
 ·simp only [D0C]at hr
  split at hr
  ·rename_i s p
   cases hb:M3 p [32]with
   |false=>rw [hb]at hr;cases hr
   |true=>
    rw [hb,cond_true]at hr
    injection hr with hr
    subst hr
    rw [o8.1 hb]
    exact⟨B0r _,rfl⟩
  ·cases hr
 ·simp only [D5U]at hr
  split at hr
  ·rename_i s p
   cases hb:Nat.ble s.length 100000 with
   |false=>rw [hb]at hr;cases hr
   |true=>
    rw [hb,cond_true]at hr
    injection hr with hr
    subst hr
    have:=Nat.le_of_ble_eq_true hb
    exact⟨B4O _ _ zd,rfl⟩
  ·cases hr
 ·simp only [D0B]at hr
  split at hr
  ·rename_i z
   cases hb:decide (-9223372036854775808≤z∧z≤9223372036854775807)with
   |false=>rw [hb]at hr;cases hr
   |true=>
    rw [hb,cond_true]at hr
    injection hr with hr
    subst hr
    obtain⟨h1,h2⟩:=of_decide_eq_true hb
    exact⟨D7 _ h1 h2,rfl⟩
  ·cases hr
 ·simp only [D0z]at hr
  split at hr
  ·rename_i s
   cases hb:Nat.ble s.length 100000 with
   |false=>rw [hb]at hr;cases hr
   | true=>
    rw [hb,cond_true]at hr
    split at hr
    ·rename_i v hv
     injection hr with hr
     subst hr
     exact⟨B6D _ (Nat.le_of_ble_eq_true hb) _ hv,rfl⟩
    ·cases hr
  ·cases hr
 ·simp only [C6D]at hr
  split at hr
  ·rename_i s p
   cases hb:M3 p [32]&&Nat.ble s.length 100000 with
   |false=>rw [hb]at hr;cases hr
   |true=>
    rw [hb,cond_true]at hr
    injection hr with hr
    subst hr
    rw [Bool.and_eq_true]at hb
    rw [o8.1 hb.1]
    exact⟨B5Y _ (Nat.le_of_ble_eq_true hb.2),rfl⟩
  ·cases hr
 ·simp only [C6C]at hr
  split at hr
  ·rename_i s
   cases hb:Nat.ble s.length 100000 with
   |false=>rw [hb]at hr;cases hr
   |true=>
    rw [hb,cond_true]at hr
    injection hr with hr
    subst hr
    have:=Nat.le_of_ble_eq_true hb
    exact⟨A1C _ zd,rfl⟩
  ·cases hr
end Go.Proofs.YtflobbpcabopjaaGreatDoor
