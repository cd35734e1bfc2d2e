/-
 The checksum: what it is, and that one changed byte changes it. No condition.
-/
import Derived.Test.YtilggmmkmegefaaGreatDoorDmF
set_option linter.unusedVariables false
set_option linter.unusedSimpArgs false
set_option maxRecDepth 100000
set_option maxHeartbeats 0
namespace Go.Proofs.YtilggmmkmegefaaGreatDoor
open Go Go.Abs
attribute [local irreducible] A4 Run
def n9 (s c : Int) : Int := IntKind.u32.wrap (R1 .xor .u32 s (IntKind.u32.wrap c) * 16777619)
def R8 (zs : List Int) : Int := zs.foldl n9 2166136261
theorem B2P {zs : List Int} {k : Nat} {z : Int} (h : zs[k]? = some z) : R8 (zs.take (k + 1)) = n9 (R8 (zs.take k)) z := by
 unfold R8
 rw [List.take_add_one, h, List.foldl_append]
 rfl
theorem B5c (zs : List Int) (hl : zs.length ≤ reachBytes) : Pure Tryz.prog 12 [.isl (zs.map fun z => [.int .u8 z])] (.int .u32 (R8 zs)) := by
 have hlZ : (zs.map fun z => [V.int .u8 z]).length = zs.length := List.length_map ..
 have hrZ : ∀ (k : Nat) z, zs[k]? = some z → (zs.map fun z => [V.int .u8 z])[k]? = some [.int .u8 z] := fun k x h => by rw [List.getElem?_map, h]; rfl
 have hzZ : C6 (zs.map fun z => [V.int .u8 z]) 1 = True := eq_true (fun r hr => by obtain ⟨y, _, rfl⟩ := List.mem_map.1 hr; rfl)
 generalize (zs.map fun z => [V.int .u8 z]) = ZR at *
 have hrb : reachBytes ≤ 200000000000000 := by decide
 refine Pure.of 0 (A4.enter B0c (Nat.le_of_ble_eq_true rfl) (Run.go 100 ?_))
 simp -implicitDefEqProofs only [go_sem, B3, hlZ]
 refine Run.rounds (fun (k : Nat) => ⟨[(8, .int .i64 k), (7, .int .i64 zs.length), (6, .isl ZR), (3, .int .u32 (R8 (zs.take k)))], [], 0⟩) (fun k => k ≤ zs.length) (fun k => zs.length - k) 0 (by first | (simp -implicitDefEqProofs only [go_sem]; done) | (simp -implicitDefEqProofs only [go_sem]; simp [R8])) (Nat.zero_le _) ?_
 intro k hk ih
 refine Run.unf B1G (Run.go 100 ?_)
 by_cases c : (k : Int) < zs.length
 ·obtain ⟨z, hz⟩ : ∃ z, zs[k]? = some z := ⟨zs[k]'(by omega), by simp⟩
  have hzr := hrZ k z hz
  have k0 : ((0 : Int) ≤ (k : Int)) = True := eq_true (by omega)
  have k2 : (k < zs.length) = True := eq_true (by omega)
  have hn := B2P hz
  unfold n9 at hn
  simp -implicitDefEqProofs only [go_sem, c, k0, k2, hlZ, hzZ, hzr, Option.some.injEq, forall_eq']
  exact ⟨by omega, ih _ (k + 1) (by omega) (by omega) (by first | (simp -implicitDefEqProofs only [go_sem, hn]; done) | (simp -implicitDefEqProofs only [go_sem, hn]; simp))⟩
 ·obtain rfl : k = zs.length := by omega
  rw [List.take_length]
  simp -implicitDefEqProofs only [go_sem, c]
def V4 (a b c d : Int) : Int := R1 .or .u32 (R1 .or .u32 (R1 .or .u32 (IntKind.u32.wrap a) (shZ true .u32 (IntKind.u32.wrap b) 8)) (shZ true .u32 (IntKind.u32.wrap c) 16)) (shZ true .u32 (IntKind.u32.wrap d) 24)
def le4 (s : Int) : List Int := [IntKind.u8.wrap s, IntKind.u8.wrap (shZ false .u32 s 8), IntKind.u8.wrap (shZ false .u32 s 16), IntKind.u8.wrap (shZ false .u32 s 24)]
theorem B7C {k m : Nat} {x y : Nat} (hx : x < 2 ^ k) (hk : 2 ^ k * m = y) (hy : y < 4294967296) (hx2 : x < 4294967296) (hxy : x + y < 4294967296) : R1 .or .u32 (x : Int) (y : Int) = (x : Int) + y := by
 unfold R1
 show IntKind.u32.wrap ((BitVec.ofInt 32 (x : Int) ||| BitVec.ofInt 32 (y : Int)).toNat : Int) = _
 rw [BitVec.toNat_or, BitVec.toNat_ofInt, BitVec.toNat_ofInt]
 have e1 : ((x : Int) % ((2 ^ 32 : Nat) : Int)).toNat = x := by omega
 have e2 : ((y : Int) % ((2 ^ 32 : Nat) : Int)).toNat = y := by omega
 rw [e1, e2, Nat.or_comm, ← hk, ← Nat.two_pow_add_eq_or_of_lt hx]
 show ((2 ^ k * m + x : Nat) : Int) % (2 ^ 32 : Int) = _
 rw [hk]
 omega
theorem C0C {a b c d : Int} (ha : 0 ≤ a ∧ a < 256) (hb : 0 ≤ b ∧ b < 256) (hc : 0 ≤ c ∧ c < 256) (hd : 0 ≤ d ∧ d < 256) : V4 a b c d = a + 256 * b + 65536 * c + 16777216 * d := by
 obtain ⟨a, rfl⟩ := Int.eq_ofNat_of_zero_le ha.1
 obtain ⟨b, rfl⟩ := Int.eq_ofNat_of_zero_le hb.1
 obtain ⟨c, rfl⟩ := Int.eq_ofNat_of_zero_le hc.1
 obtain ⟨d, rfl⟩ := Int.eq_ofNat_of_zero_le hd.1
 have w : ∀ z : Nat, z < 4294967296 → IntKind.u32.wrap (z : Int) = (z : Int) := fun z hz => by show (z : Int) % (2 ^ 32 : Int) = z; omega
 have s8 : ∀ z : Nat, z < 256 → shZ true .u32 (z : Int) 8 = ((2 ^ 8 * z : Nat) : Int) := fun z hz => by show (((z : Int) * 2 ^ 8) % (2 ^ 32 : Int)) = _; omega
 have s16 : ∀ z : Nat, z < 256 → shZ true .u32 (z : Int) 16 = ((2 ^ 16 * z : Nat) : Int) := fun z hz => by show (((z : Int) * 2 ^ 16) % (2 ^ 32 : Int)) = _; omega
 have s24 : ∀ z : Nat, z < 256 → shZ true .u32 (z : Int) 24 = ((2 ^ 24 * z : Nat) : Int) := fun z hz => by show (((z : Int) * 2 ^ 24) % (2 ^ 32 : Int)) = _; omega
 have ha := ha.2; have hb := hb.2; have hc := hc.2; have hd := hd.2
 unfold V4
 rw [w a (by omega), w b (by omega), w c (by omega), w d (by omega), s8 b (by omega), s16 c (by omega), s24 d (by omega)]
 rw [B7C (k := 8) (m := b) (by omega) rfl (by omega) (by omega) (by omega), ← Int.natCast_add]
 rw [B7C (k := 16) (m := c) (by omega) rfl (by omega) (by omega) (by omega), ← Int.natCast_add]
 rw [B7C (k := 24) (m := d) (by omega) rfl (by omega) (by omega) (by omega), ← Int.natCast_add]
 omega
theorem C2j {s : Int} (hs : 0 ≤ s ∧ s < 4294967296) : ∃ a b c d, le4 s = [a, b, c, d] ∧ (0 ≤ a ∧ a < 256) ∧ (0 ≤ b ∧ b < 256) ∧ (0 ≤ c ∧ c < 256) ∧ (0 ≤ d ∧ d < 256) ∧ a + 256 * b + 65536 * c + 16777216 * d = s := by
 refine ⟨s % 256, s / 256 % 256, s / 65536 % 256, s / 16777216 % 256, ?_, by omega, by omega, by omega, by omega, by omega⟩
 have f : ∀ k : Nat, s.fdiv ((2 : Int) ^ k) = s / 2 ^ k := fun k => Int.fdiv_eq_ediv_of_nonneg _ (by exact_mod_cast Nat.zero_le (2 ^ k))
 unfold le4
 rw [show shZ false .u32 s 8 = s / 256 from f 8, show shZ false .u32 s 16 = s / 65536 from f 16, show shZ false .u32 s 24 = s / 16777216 from f 24]
 rfl
def B1x (s c : BitVec 32) : BitVec 32 := (s ^^^ c) * 16777619#32
theorem C5O (a : Int) : IntKind.u32.wrap a = ((BitVec.ofInt 32 a).toNat : Int) := by
 rw [BitVec.toNat_ofInt]
 show a % (2 ^ 32 : Int) = _
 have h : 0 ≤ a % ((2 ^ 32 : Nat) : Int) := Int.emod_nonneg _ (by decide)
 rw [Int.toNat_of_nonneg h]
 rfl
theorem A9V (x : BitVec 32) : BitVec.ofInt 32 (x.toNat : Int) = x := by
 apply BitVec.eq_of_toNat_eq
 rw [BitVec.toNat_ofInt]
 have := x.isLt
 omega
theorem D1s (x : BitVec 32) : BitVec.ofInt 32 ((x.toNat : Int) * 16777619) = x * 16777619#32 := by
 apply BitVec.eq_of_toNat_eq
 rw [BitVec.toNat_ofInt, BitVec.toNat_mul, BitVec.toNat_ofNat]
 generalize x.toNat = n
 have h : ((n : Int) * 16777619) % ((2 ^ 32 : Nat) : Int) = ((n * 16777619 % 2 ^ 32 : Nat) : Int) := by rw [Int.natCast_emod, Int.natCast_mul]; rfl
 rw [h, Int.toNat_natCast, Nat.mod_eq_of_lt (show 16777619 < 2 ^ 32 by decide)]
theorem A5c (s c : Int) : n9 s c = ((B1x (BitVec.ofInt 32 s) (BitVec.ofInt 32 c)).toNat : Int) := by
 unfold n9 B1x R1
 simp only [C5O]
 rw [show IntKind.u32.bits = 32 from rfl, A9V, A9V, D1s]
theorem B7S {s s' c : BitVec 32} (h : B1x s c = B1x s' c) : s = s' := by
 have h2 : ((s ^^^ c) * 16777619#32) * 899433627#32 = ((s' ^^^ c) * 16777619#32) * 899433627#32 := by rw [show (s ^^^ c) * 16777619#32 = (s' ^^^ c) * 16777619#32 from h]
 rw [BitVec.mul_assoc, BitVec.mul_assoc, show (16777619#32 * 899433627#32) = 1#32 by decide, BitVec.mul_one, BitVec.mul_one] at h2
 have h3 : (s ^^^ c) ^^^ c = (s' ^^^ c) ^^^ c := by rw [h2]
 simpa [BitVec.xor_assoc] using h3
theorem B6g {s c c' : BitVec 32} (h : B1x s c = B1x s c') : c = c' := by
 have h2 : ((s ^^^ c) * 16777619#32) * 899433627#32 = ((s ^^^ c') * 16777619#32) * 899433627#32 := by rw [show (s ^^^ c) * 16777619#32 = (s ^^^ c') * 16777619#32 from h]
 rw [BitVec.mul_assoc, BitVec.mul_assoc, show (16777619#32 * 899433627#32) = 1#32 by decide, BitVec.mul_one, BitVec.mul_one] at h2
 have h3 : s ^^^ (s ^^^ c) = s ^^^ (s ^^^ c') := by rw [h2]
 simpa [← BitVec.xor_assoc] using h3
theorem B3k {a b : Int} (ha : 0 ≤ a ∧ a < 4294967296) (hb : 0 ≤ b ∧ b < 4294967296) (h : BitVec.ofInt 32 a = BitVec.ofInt 32 b) : a = b := by
 have h2 := congrArg BitVec.toNat h
 rw [BitVec.toNat_ofInt, BitVec.toNat_ofInt] at h2
 omega
theorem o6 (s c : Int) : 0 ≤ n9 s c ∧ n9 s c < 4294967296 := by
 rw [A5c]
 have := (B1x (BitVec.ofInt 32 s) (BitVec.ofInt 32 c)).isLt
 omega
theorem B7H {s s' c : Int} (hs : 0 ≤ s ∧ s < 4294967296) (hs' : 0 ≤ s' ∧ s' < 4294967296) (h : n9 s c = n9 s' c) : s = s' := by
 rw [A5c, A5c] at h
 exact B3k hs hs' (B7S (BitVec.eq_of_toNat_eq (Int.ofNat.inj h)))
theorem B6o {s c c' : Int} (hc : 0 ≤ c ∧ c < 4294967296) (hc' : 0 ≤ c' ∧ c' < 4294967296) (h : n9 s c = n9 s c') : c = c' := by
 rw [A5c, A5c] at h
 exact B3k hc hc' (B6g (BitVec.eq_of_toNat_eq (Int.ofNat.inj h)))
theorem B0J : ∀ (l : List Int) (s : Int), 0 ≤ s ∧ s < 4294967296 → 0 ≤ l.foldl n9 s ∧ l.foldl n9 s < 4294967296
 | [], s, h => h
 | c :: r, s, _ => B0J r (n9 s c) (o6 s c)
theorem B3x : ∀ (l : List Int) {s s' : Int}, 0 ≤ s ∧ s < 4294967296 → 0 ≤ s' ∧ s' < 4294967296 → l.foldl n9 s = l.foldl n9 s' → s = s'
 | [], s, s', _, _, h => h
 | c :: r, s, s', h1, h2, h => B7H h1 h2 (B3x r (o6 s c) (o6 s' c) h)
theorem B7P (l : List Int) : 0 ≤ R8 l ∧ R8 l < 4294967296 := B0J l _ (by decide)
theorem C1Z {l : List Int} {k : Nat} {x y : Int} (hx : l[k]? = some x) (hxr : 0 ≤ x ∧ x < 256) (hyr : 0 ≤ y ∧ y < 256) (hne : y ≠ x) : R8 (l.set k y) ≠ R8 l := by
 intro h
 obtain ⟨hk, rfl⟩ := List.getElem?_eq_some_iff.1 hx
 have e1 : l = l.take k ++ l[k] :: l.drop (k + 1) := by rw [List.getElem_cons_drop, List.take_append_drop]
 have e2 : l.set k y = l.take k ++ y :: l.drop (k + 1) := by
  rw [List.set_eq_take_append_cons_drop, if_pos hk]
 unfold R8 at h
 rw [e2] at h
 conv at h => rhs; rw [e1]
 rw [List.foldl_append, List.foldl_append, List.foldl_cons, List.foldl_cons] at h
 have := B3x _ (o6 _ _) (o6 _ _) h
 exact hne (B6o ⟨hyr.1, by omega⟩ ⟨hxr.1, by omega⟩ this)
def isB (z : Int) : Prop := 0 ≤ z ∧ z < 256
theorem C9v (z : Int) : isB (IntKind.u8.wrap z) := by
 show 0 ≤ z % (2 ^ 8 : Int) ∧ z % (2 ^ 8 : Int) < 256
 omega
def M6 (l : List Int) : Prop := ∀ z ∈ l, isB z
theorem M6.app {a b : List Int} (h1 : M6 a) (h2 : M6 b) : M6 (a ++ b) := fun z hz => (List.mem_append.1 hz).elim (h1 z) (h2 z)
theorem M6.flat {α : Type} {f : α → List Int} {l : List α} (h : ∀ x ∈ l, M6 (f x)) : M6 (l.flatMap f) := fun z hz => by
 obtain ⟨x, hx, hz⟩ := List.mem_flatMap.1 hz
 exact h x hx z hz
def B5v (p : Fn) : List Int := [83, 67, 82, 66, 1] ++ A6z p
def B4V (p : Fn) : List Int := B5v p ++ le4 (R8 (B5v p))
theorem C9R {s : Int} : M6 (le4 s) := by
 intro z hz
 simp only [le4, List.mem_cons, List.not_mem_nil, or_false] at hz
 rcases hz with rfl | rfl | rfl | rfl <;> exact C9v _
theorem D0L {M : List Int} (hM : M6 M) {k : Nat} (hk : k < (M ++ le4 (R8 M)).length) {y : Int} (hy : isB y) (hne : y ≠ (M ++ le4 (R8 M))[k]) :
  ∃ M' a b c d, (M ++ le4 (R8 M)).set k y = M' ++ [a, b, c, d] ∧ M'.length = M.length ∧ V4 a b c d ≠ R8 M' := by
 obtain ⟨a, b, c, d, e, ha, hb, hc, hd, hs⟩ := C2j (B7P M)
 simp only [e] at hk hne ⊢
 by_cases c0 : k < M.length
 ·refine ⟨M.set k y, a, b, c, d, List.set_append_left _ _ c0, by simp, ?_⟩
  rw [C0C ha hb hc hd, hs]
  rw [List.getElem_append_left c0] at hne
  exact fun h => C1Z (l := M) (k := k) (List.getElem?_eq_getElem c0) (hM _ (List.getElem_mem c0)) hy hne h.symm
 ·rw [List.getElem_append_right (by omega)] at hne
  rw [List.set_append_right _ _ (by omega)]
  rw [List.length_append] at hk
  simp only [List.length_cons, List.length_nil] at hk
  obtain h | h | h | h : k - M.length = 0 ∨ k - M.length = 1 ∨ k - M.length = 2 ∨ k - M.length = 3 := by omega
  all_goals
   simp only [h] at hne ⊢
   simp at hne
   refine ⟨M, _, _, _, _, rfl, rfl, ?_⟩
   rw [C0C (by first | assumption | exact hy) (by first | assumption | exact hy) (by first | assumption | exact hy) (by first | assumption | exact hy), ← hs]
   omega
end Go.Proofs.YtilggmmkmegefaaGreatDoor
