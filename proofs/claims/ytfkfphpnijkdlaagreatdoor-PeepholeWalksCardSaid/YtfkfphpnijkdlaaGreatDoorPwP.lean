/-
 Walks, plain. No condition.
-/
import Derived.Test.YtfkfphpnijkdlaaGreatDoorOpT
import Derived.Test.YtfkfphpnijkdlaaGreatDoorPeJ
set_option linter.unusedVariables false
set_option linter.unusedSimpArgs false
set_option maxRecDepth 100000
set_option maxHeartbeats 0
namespace Go.Proofs.YtfkfphpnijkdlaaGreatDoor
open Go.Abs
def wkN (code : List Ins) (ch : List Int) : Nat → Int → Nat → List Ins → List Ins
 | 0, _, _, out => out
 | f + 1, a, n, out =>
  if a < 0 ∨ a ≥ code.length then out else
  match code[a.toNat]? with
  | none => out
  | some x =>
   if x.op = 14 then wkN code ch f x.b n out else
   if isJump x.op = true then
    (if ch.length ≤ n then out ++ [{ x with b := 0 }]
     else if falls x.op = false ∨ (out ++ [{ x with b := 0 }]).length ≥ 60 then out ++ [{ x with b := 0 }]
     else wkN code ch f (if (ch[n]?.getD 0) % 2 = 1 then x.b else a + 1) (n + 1) (out ++ [{ x with b := 0 }]))
   else if falls x.op = false ∨ (out ++ [x]).length ≥ 60 then out ++ [x] else wkN code ch f (a + 1) n (out ++ [x])
inductive ChN (code : List Ins) : Nat → Nat → Nat → Prop
 | zero {a : Nat} {x : Ins} : code[a]? = some x → x.op ≠ 14 → ChN code 0 a a
 | step {k a z : Nat} {x : Ins} : code[a]? = some x → x.op = 14 → 0 ≤ x.b → ChN code k x.b.toNat z → ChN code (k + 1) a z
theorem wk_chain {code : List Ins} {ch : List Int} {k a z : Nat} (h : ChN code k a z) (f n : Nat) (out : List Ins) : wkN code ch (f + k) a n out = wkN code ch f z n out := by
 induction h with
 | zero => rfl
 | @step k a z x hx ho hb hc ih =>
  have ha := (List.getElem?_eq_some_iff.1 hx).1
  rw [show f + (k + 1) = (f + k) + 1 from rfl, wkN, if_neg (by omega), Int.toNat_natCast, hx]
  dsimp only
  rw [if_pos ho, ← ih, Int.toNat_of_nonneg hb]
def Alike (c1 c2 : List Ins) (L : Nat) (R : Nat → Nat → Prop) : Prop := ∀ z1 z2, R z1 z2 → ∃ x1 x2, c1[z1]? = some x1 ∧ c2[z2]? = some x2 ∧ x1.op ≠ 14 ∧ (x2.op = x1.op ∧ x2.a = x1.a ∧ x2.c = x1.c ∧ x2.d = x1.d) ∧ (isJump x1.op = false → x2 = x1) ∧
 (isJump x1.op = true → ∃ k1 k2 w1 w2, (k1 ≤ L ∧ k2 ≤ L) ∧ (0 ≤ x1.b ∧ 0 ≤ x2.b) ∧ ChN c1 k1 x1.b.toNat w1 ∧ ChN c2 k2 x2.b.toNat w2 ∧ R w1 w2) ∧
 (falls x1.op = true → ∃ k1 k2 w1 w2, (k1 ≤ L ∧ k2 ≤ L) ∧ ChN c1 k1 (z1 + 1) w1 ∧ ChN c2 k2 (z2 + 1) w2 ∧ R w1 w2)
theorem wk_alike {c1 c2 : List Ins} {L : Nat} {R : Nat → Nat → Prop} (hA : Alike c1 c2 L R) (ch : List Int) : ∀ (r f1 f2 z1 z2 n : Nat) (out : List Ins), R z1 z2 → out.length + r = 60 → 0 < r → r * (L + 1) ≤ f1 → r * (L + 1) ≤ f2 →
  wkN c1 ch f1 z1 n out = wkN c2 ch f2 z2 n out
 | 0, _, _, _, _, _, _, _, _, h, _, _ => absurd h (Nat.lt_irrefl 0)
 | r + 1, f1, f2, z1, z2, n, out, hR, ho, _, h1, h2 => by
  have ih := wk_alike hA ch r
  rw [Nat.succ_mul] at h1 h2
  obtain ⟨g1, rfl⟩ : ∃ g, f1 = g + 1 := ⟨f1 - 1, by omega⟩
  obtain ⟨g2, rfl⟩ : ∃ g, f2 = g + 1 := ⟨f2 - 1, by omega⟩
  obtain ⟨x1, x2, e1, e2, hn, ⟨o1, o2, o3, o4⟩, hs, hj, hf⟩ := hA z1 z2 hR
  have l1 := (List.getElem?_eq_some_iff.1 e1).1
  have l2 := (List.getElem?_eq_some_iff.1 e2).1
  rw [wkN, wkN, if_neg (by omega), if_neg (by omega), Int.toNat_natCast, Int.toNat_natCast, e1, e2]
  dsimp only
  rw [o1, if_neg hn, if_neg hn]
  have go : ∀ (k1 k2 a1 a2 w1 w2 n : Nat) (o : List Ins), k1 ≤ L ∧ k2 ≤ L → ChN c1 k1 a1 w1 → ChN c2 k2 a2 w2 → R w1 w2 → o.length + r = 60 → 0 < r → wkN c1 ch g1 a1 n o = wkN c2 ch g2 a2 n o := by
   intro k1 k2 a1 a2 w1 w2 n o hk c1' c2' hw ho' hr
   obtain ⟨m1, rfl⟩ : ∃ m, g1 = m + k1 := ⟨g1 - k1, by omega⟩
   obtain ⟨m2, rfl⟩ : ∃ m, g2 = m + k2 := ⟨g2 - k2, by omega⟩
   rw [wk_chain c1', wk_chain c2']
   exact ih m1 m2 w1 w2 n o hw ho' hr (by omega) (by omega)
  by_cases c : isJump x1.op = true
  ·rw [if_pos c, if_pos c]
   rw [o2, o3, o4]
   by_cases d : ch.length ≤ n
   ·rw [if_pos d, if_pos d]
   ·rw [if_neg d, if_neg d]
    by_cases e : falls x1.op = false ∨ (out ++ [({ x1 with b := 0 } : Ins)]).length ≥ 60
    ·rw [if_pos e, if_pos e]
    ·rw [if_neg e, if_neg e]
     have e3 : falls x1.op = true := by
      cases h : falls x1.op with
      | true => rfl
      | false => exact (e (.inl h)).elim
     have e4 : (out ++ [({ x1 with b := 0 } : Ins)]).length < 60 := by
      rcases Nat.lt_or_ge (out ++ [({ x1 with b := 0 } : Ins)]).length 60 with h | h
      ·exact h
      ·exact (e (.inr h)).elim
     have e5 : (out ++ [({ x1 with b := 0 } : Ins)]).length = out.length + 1 := by simp
     by_cases g : (ch[n]?.getD 0) % 2 = 1
     ·rw [if_pos g, if_pos g]
      obtain ⟨k1, k2, w1, w2, hk, hb, q1, q2, hw⟩ := hj c
      rw [← Int.toNat_of_nonneg hb.1, ← Int.toNat_of_nonneg hb.2]
      exact go k1 k2 _ _ w1 w2 _ _ hk q1 q2 hw (by omega) (by omega)
     ·rw [if_neg g, if_neg g]
      obtain ⟨k1, k2, w1, w2, hk, q1, q2, hw⟩ := hf e3
      exact go k1 k2 _ _ w1 w2 _ _ hk q1 q2 hw (by omega) (by omega)
  ·rw [if_neg c, if_neg c]
   have hx := hs (by simpa using c)
   rw [hx]
   by_cases e : falls x1.op = false ∨ (out ++ [x1]).length ≥ 60
   ·rw [if_pos e, if_pos e]
   ·rw [if_neg e, if_neg e]
    have e3 : falls x1.op = true := by
     cases h : falls x1.op with
     | true => rfl
     | false => exact (e (.inl h)).elim
    have e4 : (out ++ [x1]).length < 60 := by
     rcases Nat.lt_or_ge (out ++ [x1]).length 60 with h | h
     ·exact h
     ·exact (e (.inr h)).elim
    have e5 : (out ++ [x1]).length = out.length + 1 := by simp
    obtain ⟨k1, k2, w1, w2, hk, q1, q2, hw⟩ := hf e3
    exact go k1 k2 _ _ w1 w2 _ _ hk q1 q2 hw (by omega) (by omega)
theorem wk_start {c1 c2 : List Ins} {L : Nat} {R : Nat → Nat → Prop} (hA : Alike c1 c2 L R) (ch : List Int) {k1 k2 w1 w2 : Nat} (hk : k1 ≤ L ∧ k2 ≤ L) (h1 : ChN c1 k1 0 w1) (h2 : ChN c2 k2 0 w2) (hw : R w1 w2) {f : Nat} (hf : 61 * (L + 1) ≤ f) :
  wkN c1 ch f 0 0 [] = wkN c2 ch f 0 0 [] := by
 obtain ⟨m1, e1⟩ : ∃ m, f = m + k1 := ⟨f - k1, by omega⟩
 obtain ⟨m2, e2⟩ : ∃ m, f = m + k2 := ⟨f - k2, by omega⟩
 have a1 : wkN c1 ch f 0 0 [] = wkN c1 ch m1 w1 0 [] := by rw [e1]; exact wk_chain h1 m1 0 []
 have a2 : wkN c2 ch f 0 0 [] = wkN c2 ch m2 w2 0 [] := by rw [e2]; exact wk_chain h2 m2 0 []
 rw [a1, a2]
 exact wk_alike hA ch 60 m1 m2 w1 w2 0 [] hw rfl (by omega) (by omega) (by omega)
structure Fwd (code : List Ins) (P : Nat → Prop) : Prop where
 zero : P 0
 lt : ∀ a, P a → a < code.length
 jmp : ∀ a x, P a → code[a]? = some x → isJump x.op = true → 0 ≤ x.b ∧ P x.b.toNat
 back : ∀ a x, P a → code[a]? = some x → isJump x.op = true → x.b ≤ a → ∃ y, code[x.b.toNat]? = some y ∧ y.op = 29
 fall : ∀ a x, P a → code[a]? = some x → falls x.op = true → P (a + 1)
theorem jump14 {x : Ins} (h : x.op = 14) : isJump x.op = true := by rw [h]; decide
theorem Fwd.chain {code : List Ins} {P : Nat → Prop} (h : Fwd code P) : ∀ (d a : Nat), P a → code.length - a = d → ∃ k z, k ≤ d ∧ ChN code k a z ∧ P z := by
 intro d
 induction d using Nat.strongRecOn with
 | ind d ih =>
  intro a ha hd
  have hl := h.lt a ha
  obtain ⟨x, hx⟩ : ∃ x, code[a]? = some x := ⟨code[a]'hl, by simp⟩
  by_cases c : x.op = 14
  ·obtain ⟨b0, hb⟩ := h.jmp a x ha hx (jump14 c)
   by_cases e : x.b ≤ a
   ·obtain ⟨y, hy, ho⟩ := h.back a x ha hx (jump14 c) e
    exact ⟨1, x.b.toNat, by omega, .step hx c b0 (.zero hy (by rw [ho]; decide)), hb⟩
   ·have hbl := h.lt _ hb
    obtain ⟨k, z, hk, hc, hz⟩ := ih (code.length - x.b.toNat) (by omega) x.b.toNat hb rfl
    exact ⟨k + 1, z, by omega, .step hx c b0 hc, hz⟩
  ·exact ⟨0, a, Nat.zero_le _, .zero hx c, ha⟩
theorem ChN.last {code : List Ins} {k a z : Nat} (h : ChN code k a z) : ∃ y, code[z]? = some y ∧ y.op ≠ 14 := by
 induction h with
 | zero h1 h2 => exact ⟨_, h1, h2⟩
 | step _ _ _ _ ih => exact ih
theorem ch_zero {code : List Ins} {a : Nat} {x : Ins} (hx : code[a]? = some x) (ho : x.op ≠ 14) (S : Int → Bool) : ∀ f, chZ code f S a = a
 | 0 => rfl
 | f + 1 => by rw [chZ, hx]; dsimp only; rw [if_neg ho]
theorem Fwd.fin {code : List Ins} {P : Nat → Prop} (h : Fwd code P) {k a z : Nat} (hc : ChN code k a z) : P a → ∀ (f : Nat) (S : Int → Bool), k ≤ f → (∀ s, S s = true → s < a ∧ 0 ≤ s ∧ ∃ y, code[s.toNat]? = some y ∧ y.op = 14) → chZ code f S a = z := by
 induction hc with
 | zero h1 h2 => exact fun _ f S _ _ => ch_zero h1 h2 S f
 | @step k a z x hx ho hb hc ih =>
  intro ha f S hk hS
  obtain ⟨g, rfl⟩ : ∃ g, f = g + 1 := ⟨f - 1, by omega⟩
  obtain ⟨_, hP⟩ := h.jmp a x ha hx (jump14 ho)
  by_cases e : x.b ≤ a
  ·obtain ⟨y, hy, hyo⟩ := h.back a x ha hx (jump14 ho) e
   have hn : addZ S a x.b = false := by
    unfold addZ
    cases hs : S x.b with
    | true =>
     obtain ⟨_, _, y2, h2, h3⟩ := hS _ hs
     rw [hy] at h2
     injection h2 with h2
     rw [← h2, hyo] at h3
     exact absurd h3 (by decide)
    | false =>
     rw [Bool.false_or]
     refine decide_eq_false fun e2 => ?_
     rw [e2, Int.toNat_natCast, hx] at hy
     injection hy with hy
     rw [← hy, ho] at hyo
     exact absurd hyo (by decide)
   rw [chZ, hx]
   dsimp only
   rw [if_pos ho, hn, if_neg (by decide)]
   cases hc with
   | zero q1 q2 => exact ch_zero q1 q2 _ g
   | step q1 q2 _ _ =>
    rw [hy] at q1
    injection q1 with q1
    rw [← q1, hyo] at q2
    exact absurd q2 (by decide)
  ·have hn : addZ S a x.b = false := by
    unfold addZ
    cases hs : S x.b with
    | true => have := (hS _ hs).1; omega
    | false => rw [Bool.false_or]; exact decide_eq_false (by omega)
   rw [chZ, hx]
   dsimp only
   rw [if_pos ho, hn, if_neg (by decide)]
   refine ih hP g _ (by omega) fun s hs => ?_
   unfold addZ at hs
   rw [Bool.or_eq_true, decide_eq_true_eq] at hs
   rcases hs with hs | rfl
   ·have := hS s hs
    exact ⟨by omega, this.2⟩
   ·exact ⟨by omega, by omega, x, by rw [Int.toNat_natCast]; exact hx, ho⟩
theorem unZ_none : ∀ n, unZ (fun _ => false) n = n
 | 0 => rfl
 | n + 1 => by rw [unZ, unZ_none n]; rfl
theorem Fwd.finZ {code : List Ins} {P : Nat → Prop} (h : Fwd code P) {k a z : Nat} (hc : ChN code k a z) (ha : P a) (hk : k ≤ code.length) : finZ code a = z := by
 unfold Go.Proofs.YtfkfphpnijkdlaaGreatDoor.finZ
 rw [unZ_none]
 exact h.fin hc ha _ _ hk fun s hs => by cases hs
theorem jumpI_op (code : List Ins) (x : Ins) : (jumpI code x).op = x.op ∧ (jumpI code x).a = x.a ∧ (jumpI code x).c = x.c ∧ (jumpI code x).d = x.d := by unfold jumpI; split <;> exact ⟨rfl, rfl, rfl, rfl⟩
theorem Fwd.chain2 {code : List Ins} {P : Nat → Prop} (h : Fwd code P) {a : Nat} (ha : P a) : ∃ k k2 z, (k ≤ code.length ∧ k2 ≤ 1) ∧ ChN code k a z ∧ ChN (code.map (jumpI code)) k2 a z ∧ P z := by
 have hl := h.lt a ha
 obtain ⟨k, z, hk, hc, hz⟩ := h.chain _ a ha rfl
 obtain ⟨y, hy, hyo⟩ := hc.last
 have hyz : (code.map (jumpI code))[z]? = some (jumpI code y) := by rw [List.getElem?_map, hy]; rfl
 have hzz : ChN (code.map (jumpI code)) 0 z z := .zero hyz (by rw [(jumpI_op code y).1]; exact hyo)
 have hkl : k ≤ code.length := by omega
 cases hc with
 | zero q1 q2 => exact ⟨0, 0, a, ⟨Nat.zero_le _, Nat.zero_le _⟩, .zero q1 q2, hzz, hz⟩
 | @step k a z x q1 q2 q3 q4 =>
  have hf := h.finZ q4 (h.jmp a x ha q1 (jump14 q2)).2 (by omega)
  have hJ : jumpI code x = { x with b := (z : Int) } := by unfold jumpI; rw [if_pos ⟨jump14 q2, by rw [q2]; decide⟩, hf]
  refine ⟨k + 1, 1, z, ⟨hkl, Nat.le_refl _⟩, .step q1 q2 q3 q4, ?_, hz⟩
  refine ChN.step (x := jumpI code x) (by rw [List.getElem?_map, q1]; rfl) (by rw [(jumpI_op code x).1]; exact q2) (by rw [hJ]; exact Int.natCast_nonneg z) ?_
  rw [hJ]
  simpa using hzz
theorem Fwd.jumps {code : List Ins} {P : Nat → Prop} (h : Fwd code P) (hl : code.length ≤ 200) : Alike code (code.map (jumpI code)) 200 (fun z1 z2 => z1 = z2 ∧ P z1 ∧ ∃ x, code[z1]? = some x ∧ x.op ≠ 14) := by
 rintro z _ ⟨rfl, hz, x, hx, ho⟩
 have hx2 : (code.map (jumpI code))[z]? = some (jumpI code x) := by rw [List.getElem?_map, hx]; rfl
 refine ⟨x, jumpI code x, hx, hx2, ho, jumpI_op code x, fun hn => ?_, fun hj => ?_, fun hf => ?_⟩
 ·unfold jumpI; rw [if_neg (by rw [hn]; simp)]
 ·obtain ⟨b0, hb⟩ := h.jmp z x hz hx hj
  obtain ⟨k, k2, w, ⟨hk, hk2⟩, c1, c2, hw⟩ := h.chain2 hb
  obtain ⟨y, hy⟩ := c1.last
  by_cases e : x.op = 26
  ·have hJ : jumpI code x = x := by unfold jumpI; rw [if_neg (fun h => h.2 e)]
   rw [hJ]
   exact ⟨k, k2, w, w, ⟨by omega, by omega⟩, ⟨b0, b0⟩, c1, c2, rfl, hw, y, hy⟩
  ·have hJ : jumpI code x = { x with b := (w : Int) } := by unfold jumpI; rw [if_pos ⟨hj, e⟩, h.finZ c1 hb hk]
   rw [hJ]
   refine ⟨k, 0, w, w, ⟨by omega, Nat.zero_le _⟩, ⟨b0, Int.natCast_nonneg w⟩, c1, ?_, rfl, hw, y, hy⟩
   refine .zero (x := jumpI code y) (by simp [hy.1]) (by rw [(jumpI_op code y).1]; exact hy.2)
 ·obtain ⟨k, k2, w, ⟨hk, hk2⟩, c1, c2, hw⟩ := h.chain2 (h.fall z x hz hx hf)
  obtain ⟨y, hy⟩ := c1.last
  exact ⟨k, k2, w, w, ⟨by omega, by omega⟩, c1, c2, rfl, hw, y, hy⟩
theorem Fwd.walkJ {code : List Ins} {P : Nat → Prop} (h : Fwd code P) (hl : code.length ≤ 200) (ch : List Int) : wkN code ch 13000 0 0 [] = wkN (code.map (jumpI code)) ch 13000 0 0 [] := by
 obtain ⟨k, k2, w, ⟨hk, hk2⟩, c1, c2, hw⟩ := h.chain2 h.zero
 obtain ⟨y, hy⟩ := c1.last
 exact wk_start (h.jumps hl) ch ⟨by omega, by omega⟩ c1 c2 ⟨rfl, hw, y, hy⟩ (by decide)
theorem keepN_at {gone : Nat → Bool} {l : List Ins} {a : Nat} {x : Ins} (hx : l[a]? = some x) (hg : gone a = false) : ∀ k, a < k → k ≤ l.length → (keepN gone l k)[numB gone a]? = some x
 | 0, h, _ => absurd h (Nat.not_lt_zero a)
 | k + 1, h, hl => by
  obtain ⟨y, hy⟩ : ∃ y, l[k]? = some y := ⟨l[k]'(by omega), by simp⟩
  have hlen := keepN_len gone l k (by omega)
  rcases Nat.lt_or_ge a k with h1 | h1
  ·have ih := keepN_at hx hg k h1 (by omega)
   have hlt := (List.getElem?_eq_some_iff.1 ih).1
   cases c : gone k with
   | true => rw [keepN_gone hy c]; exact ih
   | false => rw [keepN_kept hy c, List.getElem?_append_left hlt]; exact ih
  ·obtain rfl : a = k := by omega
   rw [hx] at hy
   injection hy with hy
   subst hy
   rw [keepN_kept hx hg, ← hlen, List.getElem?_append_right (Nat.le_refl _)]
   simp
def leftC (gone : Nat → Bool) (code : List Ins) : List Ins := (keepN gone code code.length).map (moveI gone)
theorem left_at {gone : Nat → Bool} {code : List Ins} {a : Nat} {x : Ins} (hx : code[a]? = some x) (hg : gone a = false) : (leftC gone code)[numB gone a]? = some (moveI gone x) := by
 unfold leftC
 rw [List.getElem?_map, keepN_at hx hg _ (List.getElem?_eq_some_iff.1 hx).1 (Nat.le_refl _)]
 rfl
theorem moveI_op (gone : Nat → Bool) (x : Ins) : (moveI gone x).op = x.op ∧ (moveI gone x).a = x.a ∧ (moveI gone x).c = x.c ∧ (moveI gone x).d = x.d := by unfold moveI; split <;> exact ⟨rfl, rfl, rfl, rfl⟩
theorem moveI_b {gone : Nat → Bool} {x : Ins} (h : isJump x.op = true) : (moveI gone x).b = numB gone x.b.toNat := by unfold moveI; rw [if_pos h]
theorem Fwd.chainD {code : List Ins} {P : Nat → Prop} (h : Fwd code P) {gone : Nat → Bool} (hg : ∀ a, P a → gone a = false) {k a z : Nat} (hc : ChN code k a z) : P a → ChN (leftC gone code) k (numB gone a) (numB gone z) := by
 induction hc with
 | zero h1 h2 => exact fun ha => .zero (left_at h1 (hg _ ha)) (by rw [(moveI_op gone _).1]; exact h2)
 | @step k a z x hx ho hb hc ih =>
  intro ha
  have hP := (h.jmp a x ha hx (jump14 ho)).2
  have e := moveI_b (gone := gone) (jump14 ho)
  refine .step (x := moveI gone x) (left_at hx (hg _ ha)) (by rw [(moveI_op gone x).1]; exact ho) (by rw [e]; exact Int.natCast_nonneg _) ?_
  rw [e, Int.toNat_natCast]
  exact ih hP
theorem Fwd.dead {code : List Ins} {P : Nat → Prop} (h : Fwd code P) {gone : Nat → Bool} (hg : ∀ a, P a → gone a = false) (hl : code.length ≤ 200) : Alike code (leftC gone code) 200 (fun z1 z2 => z2 = numB gone z1 ∧ P z1 ∧ ∃ x, code[z1]? = some x ∧ x.op ≠ 14) := by
 rintro z _ ⟨rfl, hz, x, hx, ho⟩
 refine ⟨x, moveI gone x, hx, left_at hx (hg z hz), ho, moveI_op gone x, fun hn => ?_, fun hj => ?_, fun hf => ?_⟩
 ·unfold moveI; rw [if_neg (by rw [hn]; simp)]
 ·obtain ⟨b0, hb⟩ := h.jmp z x hz hx hj
  obtain ⟨k, w, hk, c1, hw⟩ := h.chain _ _ hb rfl
  have c2 := h.chainD hg c1 hb
  obtain ⟨y, hy⟩ := c1.last
  have e := moveI_b (gone := gone) hj
  refine ⟨k, k, w, _, ⟨by omega, by omega⟩, ⟨b0, by rw [e]; exact Int.natCast_nonneg _⟩, c1, ?_, rfl, hw, y, hy⟩
  rw [e, Int.toNat_natCast]
  exact c2
 ·have hb := h.fall z x hz hx hf
  obtain ⟨k, w, hk, c1, hw⟩ := h.chain _ _ hb rfl
  have c2 := h.chainD hg c1 hb
  obtain ⟨y, hy⟩ := c1.last
  have e : numB gone (z + 1) = numB gone z + 1 := by rw [numB, hg z hz]; simp
  rw [e] at c2
  exact ⟨k, k, w, _, ⟨by omega, by omega⟩, c1, c2, rfl, hw, y, hy⟩
theorem Fwd.walkD {code : List Ins} {P : Nat → Prop} (h : Fwd code P) {gone : Nat → Bool} (hg : ∀ a, P a → gone a = false) (hl : code.length ≤ 200) (ch : List Int) : wkN code ch 13000 0 0 [] = wkN (leftC gone code) ch 13000 0 0 [] := by
 obtain ⟨k, w, hk, c1, hw⟩ := h.chain _ _ h.zero rfl
 have c2 := h.chainD hg c1 h.zero
 obtain ⟨y, hy⟩ := c1.last
 exact wk_start (h.dead hg hl) ch (k1 := k) (k2 := k) ⟨by omega, by omega⟩ c1 c2 ⟨rfl, hw, y, hy⟩ (by decide)
end Go.Proofs.YtfkfphpnijkdlaaGreatDoor
