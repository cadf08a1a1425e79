/- The plain law of bits: what And, Or, Xor and the shifts are, bit by bit, of ints and of longs. -/
import Derived.Test.YtdelikjodacedaaDivides
namespace Go.Proofs.Ytdelikjodacedaa
open Go.RowKit

/-- The i-th bit of a number. -/
def bit (x : Int) (i : Nat) : Int := x / 2 ^ i % 2
theorem bit_01 (x : Int) (i : Nat) : bit x i = 0 ∨ bit x i = 1 := by unfold bit; omega
theorem pow_split {i n : Nat} (h : i ≤ n) : (2 : Int) ^ n = 2 ^ i * 2 ^ (n - i) := by rw [← Int.pow_add, show i + (n - i) = n by omega]
theorem pow_pos' (i : Nat) : (0 : Int) < 2 ^ i := Int.pow_pos (by decide)
theorem bit_add (x q : Int) {i n : Nat} (h : i < n) : bit (x + 2 ^ n * q) i = bit x i := by
  unfold bit
  rw [pow_split (show i ≤ n by omega), Int.mul_assoc, Int.add_mul_ediv_left _ _ (by have := pow_pos' i; omega), show n - i = (n - i - 1) + 1 by omega, Int.pow_succ, Int.mul_comm (2 ^ (n - i - 1)) 2, Int.mul_assoc, Int.add_mul_emod_self_left]
theorem wrap32_q (x : Int) : ∃ q, wrap32 x = x + 2 ^ 32 * q := ⟨-((x + 2147483648) / 4294967296), by unfold wrap32; omega⟩
theorem wrap64_q (x : Int) : ∃ q, wrap64 x = x + 2 ^ 64 * q := ⟨-((x + 9223372036854775808) / 18446744073709551616), by unfold wrap64; omega⟩
theorem bit_wrap32 (x : Int) {i : Nat} (h : i < 32) : bit (wrap32 x) i = bit x i := by obtain ⟨q, hq⟩ := wrap32_q x; rw [hq, bit_add _ _ h]
theorem bit_wrap64 (x : Int) {i : Nat} (h : i < 64) : bit (wrap64 x) i = bit x i := by obtain ⟨q, hq⟩ := wrap64_q x; rw [hq, bit_add _ _ h]
theorem bit_mod (x : Int) {i n : Nat} (h : i < n) : bit (x % 2 ^ n) i = bit x i := by
  have : x % 2 ^ n = x + 2 ^ n * (-(x / 2 ^ n)) := by have := Int.emod_add_mul_ediv x (2 ^ n); rw [Int.mul_neg]; omega
  rw [this, bit_add _ _ h]
theorem bit_div (x : Int) (s i : Nat) : bit (x / 2 ^ s) i = bit x (i + s) := by
  unfold bit
  rw [Int.ediv_ediv_of_nonneg (Int.le_of_lt (pow_pos' s)), ← Int.pow_add, Nat.add_comm]
theorem bit_mul (x : Int) (s i : Nat) : bit (x * 2 ^ s) i = if s ≤ i then bit x (i - s) else 0 := by
  unfold bit
  split
  · rename_i h
    rw [pow_split h, Int.mul_comm x, Int.mul_ediv_mul_of_pos _ _ (pow_pos' s)]
  · rename_i h
    rw [pow_split (show i ≤ s by omega), show s - i = (s - i - 1) + 1 by omega, Int.pow_succ, ← Int.mul_assoc, ← Int.mul_assoc, Int.mul_comm x, Int.mul_assoc, Int.mul_assoc, Int.mul_ediv_cancel_left _ (by have := pow_pos' i; omega), ← Int.mul_assoc]
    exact Int.mul_emod_left _ _
theorem bit_big {x : Int} {i n : Nat} (h0 : 0 ≤ x) (h : x < 2 ^ n) (hi : n ≤ i) : bit x i = 0 := by
  unfold bit
  have : (2 : Int) ^ n ≤ 2 ^ i := by exact_mod_cast Nat.pow_le_pow_right (show 0 < 2 by decide) hi
  rw [Int.ediv_eq_zero_of_lt h0 (by omega)]; rfl
theorem bit_neg {x : Int} {i n : Nat} (h0 : x < 0) (h : -(2 ^ n) ≤ x) (hi : n ≤ i) : bit x i = 1 := by
  unfold bit
  have hp : (2 : Int) ^ n ≤ 2 ^ i := by exact_mod_cast Nat.pow_le_pow_right (show 0 < 2 by decide) hi
  have : x / 2 ^ i = -1 := by
    have h4 : -1 ≤ x / 2 ^ i := by rw [Int.le_ediv_iff_mul_le (pow_pos' i)]; omega
    have h5 : x / 2 ^ i < 0 := Int.ediv_neg_of_neg_of_pos h0 (pow_pos' i)
    omega
  rw [this]; rfl
/-- From the sign's place on all bits of a number are its sign's. -/
theorem bit_sign {x : Int} {i n : Nat} (h : -(2 ^ n) ≤ x ∧ x < 2 ^ n) (hi : n ≤ i) : bit x i = bit x n := by
  by_cases h0 : 0 ≤ x
  · rw [bit_big h0 h.2 hi, bit_big h0 h.2 (Nat.le_refl _)]
  · rw [bit_neg (by omega) h.1 hi, bit_neg (by omega) h.1 (Nat.le_refl _)]

theorem bit_bv {n : Nat} (x : BitVec n) {i : Nat} (h : i < n) : bit x.toInt i = if x.getLsbD i = true then 1 else 0 := by
  have e : ∃ q, x.toInt = (x.toNat : Int) + 2 ^ n * q := by
    rw [BitVec.toInt_eq_toNat_cond]
    split
    · exact ⟨0, by simp⟩
    · exact ⟨-1, by simp; omega⟩
  obtain ⟨q, hq⟩ := e
  rw [hq, bit_add _ _ h]
  unfold bit
  have : x.getLsbD i = decide (x.toNat / 2 ^ i % 2 = 1) := by rw [BitVec.getLsbD, Nat.testBit_eq_decide_div_mod_eq]
  rw [this]
  have hm : x.toNat / 2 ^ i % 2 = 0 ∨ x.toNat / 2 ^ i % 2 = 1 := by omega
  have hc : (x.toNat : Int) / 2 ^ i % 2 = ((x.toNat / 2 ^ i % 2 : Nat) : Int) := by simp
  rw [hc]
  rcases hm with hm | hm <;> rw [hm] <;> simp
theorem bit_ofInt32 (a : Int) (h : -2147483648 ≤ a ∧ a ≤ 2147483647) : (BitVec.ofInt 32 a).toInt = a := by rw [BitVec.toInt_ofInt]; show a.bmod 4294967296 = a; rw [← wrap32_bmod, wrap32_id h]
theorem bit_ofInt64 (a : Int) (h : -9223372036854775808 ≤ a ∧ a ≤ 9223372036854775807) : (BitVec.ofInt 64 a).toInt = a := by rw [BitVec.toInt_ofInt]; show a.bmod 18446744073709551616 = a; rw [← wrap64_bmod, wrap64_id h]

theorem or_bits (p q : Bool) : bits .or .i64 (if p = true then 1 else 0) (if q = true then 1 else 0) = if (p || q) = true then 1 else 0 := by cases p <;> cases q <;> decide +kernel
theorem xor_bits (p q : Bool) : bits .xor .i64 (if p = true then 1 else 0) (if q = true then 1 else 0) = if (p ^^ q) = true then 1 else 0 := by cases p <;> cases q <;> decide +kernel
theorem mul_bits (p q : Bool) : ((if p = true then 1 else 0) * (if q = true then 1 else 0) : Int) = if (p && q) = true then 1 else 0 := by cases p <;> cases q <;> rfl

/-- Two numbers of n bits, what And, Or, Xor and the shifts by s make of them. -/
structure BitFacts (k : Int) (n : Nat) (a b : Int) (s : Nat) (x5 x6 x7 l r p : Int) : Prop where
  f5 : binV k 5 a b = x5
  f6 : binV k 6 a b = x6
  f7 : binV k 7 a b = x7
  f8 : binV k 8 a s = l
  f9 : binV k 9 a s = r
  f10 : binV k 10 a s = p
  g8 : binV k 8 a (s + n) = l
  g9 : binV k 9 a (s - n) = r
  g10 : binV k 10 a (s + 2 * n) = p
  wl : wrapOf k l = l
  wp : wrapOf k p = p
  band : ∀ i, i < n → bit a i * bit b i = bit x5 i
  bor : ∀ i, i < n → bits .or .i64 (bit a i) (bit b i) = bit x6 i
  bxor : ∀ i, i < n → bits .xor .i64 (bit a i) (bit b i) = bit x7 i
  bl : ∀ i, i < n → bit l i = if s ≤ i then bit a (i - s) else 0
  br : ∀ i, i < n → bit r i = if i + s < n then bit a (i + s) else bit a (n - 1)
  bp : ∀ i, i < n → bit p i = if i + s < n then bit a (i + s) else 0

theorem binB_high (k op y : Int) (hk : k = 1 ∨ k = 2) (h0 : 5 ≤ op) (h1 : op ≤ 10) : binB k op y = true := decide_eq_true ⟨hk, by omega, h1, fun h => by omega⟩
theorem shift32 (s : Nat) (hs : s < 32) (t : Int) (ht : t = s ∨ t = s + 32 ∨ t = s - 32 ∨ t = s + 64) : (wrap32 t % 32).toNat = s := by rw [wrap32_id (by omega)]; omega
theorem shift64 (s : Nat) (hs : s < 64) (t : Int) (ht : t = s ∨ t = s + 64 ∨ t = s - 64 ∨ t = s + 128) : (t % 64).toNat = s := by omega

theorem bits32 (a b : Int) (s : Nat) (ha : -2147483648 ≤ a ∧ a ≤ 2147483647) (hb : -2147483648 ≤ b ∧ b ≤ 2147483647) (hs : s < 32) :
    BitFacts 1 32 a b s (bits .and .i32 a b) (bits .or .i32 a b) (bits .xor .i32 a b) (wrap32 (a * 2 ^ s)) (a / 2 ^ s) (wrap32 (a % 4294967296 / 2 ^ s)) := by
  have ea := wrap32_id ha
  have eb := wrap32_id hb
  have hB : ∀ op y, 5 ≤ op → op ≤ 10 → binB 1 op y = true := fun op y h0 h1 => binB_high 1 op y (.inl rfl) h0 h1
  have va := bit_ofInt32 a ha
  have vb := bit_ofInt32 b hb
  have V : ∀ op y, 5 ≤ op → op ≤ 10 → binV 1 op a y = raw32 op a (wrap32 y) := fun op y h0 h1 => by unfold binV; rw [hB op y h0 h1, ea]; rfl
  have S : ∀ t : Int, t = s ∨ t = s + 32 ∨ t = s - 32 ∨ t = s + 64 → (wrap32 t % 32).toNat = s := shift32 s hs
  have L : ∀ t : Int, t = s ∨ t = s + 32 ∨ t = s - 32 ∨ t = s + 64 → binV 1 8 a t = wrap32 (a * 2 ^ s) ∧ binV 1 9 a t = a / 2 ^ s ∧ binV 1 10 a t = wrap32 (a % 4294967296 / 2 ^ s) := fun t ht => by
    rw [V 8 t (by omega) (by omega), V 9 t (by omega) (by omega), V 10 t (by omega) (by omega)]
    refine ⟨?_, ?_, ?_⟩
    · show shl32 a (wrap32 t) = _; unfold shl32; rw [S t ht]
    · show shr32 a (wrap32 t) = _; unfold shr32; rw [S t ht]
    · show ushr32 a (wrap32 t) = _; unfold ushr32; rw [S t ht]
  have A : ∀ i, i < 32 → bit a i = if (BitVec.ofInt 32 a).getLsbD i = true then 1 else 0 := fun i hi => by have := bit_bv (BitVec.ofInt 32 a) hi; rwa [va] at this
  have B : ∀ i, i < 32 → bit b i = if (BitVec.ofInt 32 b).getLsbD i = true then 1 else 0 := fun i hi => by have := bit_bv (BitVec.ofInt 32 b) hi; rwa [vb] at this
  exact {
    f5 := by rw [V 5 b (by omega) (by omega), eb]; rfl
    f6 := by rw [V 6 b (by omega) (by omega), eb]; rfl
    f7 := by rw [V 7 b (by omega) (by omega), eb]; rfl
    f8 := (L s (.inl rfl)).1
    f9 := (L s (.inl rfl)).2.1
    f10 := (L s (.inl rfl)).2.2
    g8 := (L _ (.inr (.inl rfl))).1
    g9 := (L _ (.inr (.inr (.inl rfl)))).2.1
    g10 := (L _ (.inr (.inr (.inr (by omega))))).2.2
    wl := wrap32_id (wrap32_bd _)
    wp := wrap32_id (wrap32_bd _)
    band := fun i hi => by rw [A i hi, B i hi, mul_bits, and_i32, bit_bv _ hi, BitVec.getLsbD_and]
    bor := fun i hi => by rw [A i hi, B i hi, or_bits, or_i32, bit_bv _ hi, BitVec.getLsbD_or]
    bxor := fun i hi => by rw [A i hi, B i hi, xor_bits, xor_i32, bit_bv _ hi, BitVec.getLsbD_xor]
    bl := fun i hi => by rw [bit_wrap32 _ hi, bit_mul]
    br := fun i hi => by
      rw [bit_div]
      split
      · rfl
      · exact bit_sign (n := 31) (by omega) (by omega)
    bp := fun i hi => by
      rw [bit_wrap32 _ hi, bit_div]
      split
      · exact bit_mod (n := 32) a (by omega)
      · exact bit_big (n := 32) (by omega) (by omega) (by omega) }
theorem bits64 (a b : Int) (s : Nat) (ha : -9223372036854775808 ≤ a ∧ a ≤ 9223372036854775807) (hb : -9223372036854775808 ≤ b ∧ b ≤ 9223372036854775807) (hs : s < 64) :
    BitFacts 2 64 a b s (bits .and .i64 a b) (bits .or .i64 a b) (bits .xor .i64 a b) (wrap64 (a * 2 ^ s)) (a / 2 ^ s) (wrap64 (a % 18446744073709551616 / 2 ^ s)) := by
  have hB : ∀ op y, 5 ≤ op → op ≤ 10 → binB 2 op y = true := fun op y h0 h1 => binB_high 2 op y (.inr rfl) h0 h1
  have va := bit_ofInt64 a ha
  have vb := bit_ofInt64 b hb
  have V : ∀ op y, 5 ≤ op → op ≤ 10 → binV 2 op a y = raw64 op a y := fun op y h0 h1 => by unfold binV; rw [hB op y h0 h1]; rfl
  have S : ∀ t : Int, t = s ∨ t = s + 64 ∨ t = s - 64 ∨ t = s + 128 → (t % 64).toNat = s := shift64 s hs
  have L : ∀ t : Int, t = s ∨ t = s + 64 ∨ t = s - 64 ∨ t = s + 128 → binV 2 8 a t = wrap64 (a * 2 ^ s) ∧ binV 2 9 a t = a / 2 ^ s ∧ binV 2 10 a t = wrap64 (a % 18446744073709551616 / 2 ^ s) := fun t ht => by
    rw [V 8 t (by omega) (by omega), V 9 t (by omega) (by omega), V 10 t (by omega) (by omega)]
    refine ⟨?_, ?_, ?_⟩
    · show shl64 a t = _; unfold shl64; rw [S t ht]
    · show shr64 a t = _; unfold shr64; rw [S t ht]
    · show ushr64 a t = _; unfold ushr64; rw [S t ht]
  have A : ∀ i, i < 64 → bit a i = if (BitVec.ofInt 64 a).getLsbD i = true then 1 else 0 := fun i hi => by have := bit_bv (BitVec.ofInt 64 a) hi; rwa [va] at this
  have B : ∀ i, i < 64 → bit b i = if (BitVec.ofInt 64 b).getLsbD i = true then 1 else 0 := fun i hi => by have := bit_bv (BitVec.ofInt 64 b) hi; rwa [vb] at this
  exact {
    f5 := V 5 b (by omega) (by omega)
    f6 := V 6 b (by omega) (by omega)
    f7 := V 7 b (by omega) (by omega)
    f8 := (L s (.inl rfl)).1
    f9 := (L s (.inl rfl)).2.1
    f10 := (L s (.inl rfl)).2.2
    g8 := (L _ (.inr (.inl rfl))).1
    g9 := (L _ (.inr (.inr (.inl rfl)))).2.1
    g10 := (L _ (.inr (.inr (.inr (by omega))))).2.2
    wl := rfl
    wp := rfl
    band := fun i hi => by rw [A i hi, B i hi, mul_bits, and_i64, bit_bv _ hi, BitVec.getLsbD_and]
    bor := fun i hi => by rw [A i hi, B i hi, or_bits, or_i64, bit_bv _ hi, BitVec.getLsbD_or]
    bxor := fun i hi => by rw [A i hi, B i hi, xor_bits, xor_i64, bit_bv _ hi, BitVec.getLsbD_xor]
    bl := fun i hi => by rw [bit_wrap64 _ hi, bit_mul]
    br := fun i hi => by
      rw [bit_div]
      split
      · rfl
      · exact bit_sign (n := 63) (by omega) (by omega)
    bp := fun i hi => by
      rw [bit_wrap64 _ hi, bit_div]
      split
      · exact bit_mod (n := 64) a (by omega)
      · exact bit_big (n := 64) (by omega) (by omega) (by omega) }
end Go.Proofs.Ytdelikjodacedaa
