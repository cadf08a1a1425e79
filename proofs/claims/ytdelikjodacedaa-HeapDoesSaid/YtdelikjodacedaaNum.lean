/- Plain numbers: Go's wraps, shifts and bits of ints and longs, as the walks of this seat write them; no program in sight. -/
import Derived.RowKit
import Derived.IntWalk
import Derived.Laws.Bits64
namespace Go.Proofs.Ytdelikjodacedaa
open Go.RowKit

theorem wrap32_bd (n : Int) : -2147483648 ≤ wrap32 n ∧ wrap32 n ≤ 2147483647 := by unfold wrap32; omega
theorem wrap64_bd (n : Int) : -9223372036854775808 ≤ wrap64 n ∧ wrap64 n ≤ 9223372036854775807 := by unfold wrap64; omega
theorem wrap32_bmod (n : Int) : wrap32 n = n.bmod 4294967296 := by
  unfold wrap32 Int.bmod; simp only; split <;> omega
theorem wrap64_bmod (n : Int) : wrap64 n = n.bmod 18446744073709551616 := by
  unfold wrap64 Int.bmod; simp only; split <;> omega
theorem wrap32_eq (n : Int) : IntKind.i32.wrap n = wrap32 n := IntWalk.i32_left n
theorem wrap64_eq (n : Int) : IntKind.i64.wrap n = wrap64 n := IntWalk.i64_left n

/-- Bits are those of rows of bits. -/
theorem and_i64 (x y : Int) : bits .and .i64 x y = (BitVec.ofInt 64 x &&& BitVec.ofInt 64 y).toInt := by
  show IntKind.i64.wrap _ = _
  rw [wrap64_eq, wrap64_bmod, BitVec.toInt_eq_toNat_bmod]; rfl
theorem or_i64 (x y : Int) : bits .or .i64 x y = (BitVec.ofInt 64 x ||| BitVec.ofInt 64 y).toInt := by
  show IntKind.i64.wrap _ = _
  rw [wrap64_eq, wrap64_bmod, BitVec.toInt_eq_toNat_bmod]; rfl
theorem xor_i64 (x y : Int) : bits .xor .i64 x y = (BitVec.ofInt 64 x ^^^ BitVec.ofInt 64 y).toInt := by
  show IntKind.i64.wrap _ = _
  rw [wrap64_eq, wrap64_bmod, BitVec.toInt_eq_toNat_bmod]; rfl
theorem and_i32 (x y : Int) : bits .and .i32 x y = (BitVec.ofInt 32 x &&& BitVec.ofInt 32 y).toInt := by
  show IntKind.i32.wrap _ = _
  rw [wrap32_eq, wrap32_bmod, BitVec.toInt_eq_toNat_bmod]; rfl
theorem or_i32 (x y : Int) : bits .or .i32 x y = (BitVec.ofInt 32 x ||| BitVec.ofInt 32 y).toInt := by
  show IntKind.i32.wrap _ = _
  rw [wrap32_eq, wrap32_bmod, BitVec.toInt_eq_toNat_bmod]; rfl
theorem xor_i32 (x y : Int) : bits .xor .i32 x y = (BitVec.ofInt 32 x ^^^ BitVec.ofInt 32 y).toInt := by
  show IntKind.i32.wrap _ = _
  rw [wrap32_eq, wrap32_bmod, BitVec.toInt_eq_toNat_bmod]; rfl
theorem and32_bd (x y : Int) : -2147483648 ≤ bits .and .i32 x y ∧ bits .and .i32 x y ≤ 2147483647 := by
  show _ ≤ IntKind.i32.wrap _ ∧ IntKind.i32.wrap _ ≤ _
  rw [wrap32_eq]; exact wrap32_bd _
theorem or32_bd (x y : Int) : -2147483648 ≤ bits .or .i32 x y ∧ bits .or .i32 x y ≤ 2147483647 := by
  show _ ≤ IntKind.i32.wrap _ ∧ IntKind.i32.wrap _ ≤ _
  rw [wrap32_eq]; exact wrap32_bd _
theorem xor32_bd (x y : Int) : -2147483648 ≤ bits .xor .i32 x y ∧ bits .xor .i32 x y ≤ 2147483647 := by
  show _ ≤ IntKind.i32.wrap _ ∧ IntKind.i32.wrap _ ≤ _
  rw [wrap32_eq]; exact wrap32_bd _
theorem tmod_bd {B : Int} (x y : Int) (h : -B - 1 ≤ x ∧ x ≤ B) (hB : 0 ≤ B) : -B - 1 ≤ x.tmod y ∧ x.tmod y ≤ B := by
  have h1 : (x.tmod y).natAbs ≤ x.natAbs := by rw [Int.natAbs_tmod]; exact Nat.mod_le _ _
  rcases Int.le_total 0 x with hx | hx
  · have := Int.tmod_nonneg y hx; omega
  · have h2 := Int.tmod_nonneg y (show 0 ≤ -x by omega)
    rw [Int.neg_tmod] at h2; omega
theorem tmod32_bd (x y : Int) (h : -2147483648 ≤ x ∧ x ≤ 2147483647) : -2147483648 ≤ x.tmod y ∧ x.tmod y ≤ 2147483647 := by
  have := tmod_bd (B := 2147483647) x y (by omega) (by omega); omega

/-- A mask is a remainder. -/
theorem mask_i64 (y : Int) (j : Nat) (hj : j < 63) : bits .and .i64 y (2 ^ j - 1) = y % 2 ^ j := by
  rw [and_i64]
  have hp : (2 : Int) ^ j - 1 = ((2 ^ j - 1 : Nat) : Int) := by
    rw [Int.natCast_sub (Nat.two_pow_pos j)]; simp
  have hlt : 2 ^ j ≤ 2 ^ 62 := Nat.pow_le_pow_right (by decide) (by omega)
  have hm : (2 ^ j - 1) % 2 ^ 64 = 2 ^ j - 1 := Nat.mod_eq_of_lt (by omega)
  have hn : (BitVec.ofInt 64 y &&& BitVec.ofInt 64 (2 ^ j - 1)).toNat = (y % 18446744073709551616).toNat % 2 ^ j := by
    rw [hp, BitVec.toNat_and, BitVec.ofInt_natCast, BitVec.toNat_ofNat, hm, Nat.and_two_pow_sub_one_eq_mod, BitVec.toNat_ofInt]
    rfl
  have hl : (BitVec.ofInt 64 y &&& BitVec.ofInt 64 (2 ^ j - 1)).toNat < 2 ^ j := by rw [hn]; exact Nat.mod_lt _ (Nat.two_pow_pos j)
  rw [BitVec.toInt_eq_toNat_of_lt (by omega), hn]
  have hdvd : ((2 : Int) ^ j) ∣ 18446744073709551616 := by
    refine ⟨2 ^ (64 - j), ?_⟩
    rw [← Int.pow_add, show j + (64 - j) = 64 by omega]; rfl
  have h0 : 0 ≤ y % 18446744073709551616 := Int.emod_nonneg _ (by decide)
  rw [Int.natCast_emod, Int.toNat_of_nonneg h0]
  rw [show ((2 ^ j : Nat) : Int) = 2 ^ j by simp]
  exact Int.emod_emod_of_dvd y hdvd
theorem mask31 (y : Int) : bits .and .i64 y 31 = y % 32 := mask_i64 y 5 (by decide)
theorem mask63 (y : Int) : bits .and .i64 y 63 = y % 64 := mask_i64 y 6 (by decide)

/-! Shifts, as the operators reckon them. -/
def shl32 (x y : Int) : Int := wrap32 (x * 2 ^ (y % 32).toNat)
def shr32 (x y : Int) : Int := x / 2 ^ (y % 32).toNat
def ushr32 (x y : Int) : Int := wrap32 (x % 4294967296 / 2 ^ (y % 32).toNat)
def shl64 (x y : Int) : Int := wrap64 (x * 2 ^ (y % 64).toNat)
def shr64 (x y : Int) : Int := x / 2 ^ (y % 64).toNat
def ushr64 (x y : Int) : Int := wrap64 (x % 18446744073709551616 / 2 ^ (y % 64).toNat)
theorem div_pow_bd {B : Int} (x : Int) (n : Nat) (h : -B - 1 ≤ x ∧ x ≤ B) (hB : 0 ≤ B) : -B - 1 ≤ x / 2 ^ n ∧ x / 2 ^ n ≤ B := by
  have hp : (1 : Int) ≤ 2 ^ n := by have := Int.pow_pos (n := 2) (m := n) (by decide); omega
  constructor
  · rw [Int.le_ediv_iff_mul_le (by omega)]
    have : (-B - 1) * 2 ^ n ≤ (-B - 1) * 1 := Int.mul_le_mul_of_nonpos_left (by omega) hp
    omega
  · refine Int.le_of_lt_add_one ?_
    rw [Int.ediv_lt_iff_lt_mul (by omega)]
    have : (B + 1) * 1 ≤ (B + 1) * 2 ^ n := Int.mul_le_mul_of_nonneg_left hp (by omega)
    omega
theorem shl32_bd (x y : Int) : -2147483648 ≤ shl32 x y ∧ shl32 x y ≤ 2147483647 := wrap32_bd _
theorem ushr32_bd (x y : Int) : -2147483648 ≤ ushr32 x y ∧ ushr32 x y ≤ 2147483647 := wrap32_bd _
theorem shr32_bd (x y : Int) (h : -2147483648 ≤ x ∧ x ≤ 2147483647) : -2147483648 ≤ shr32 x y ∧ shr32 x y ≤ 2147483647 := by
  have := div_pow_bd (B := 2147483647) x (y % 32).toNat (by omega) (by omega)
  unfold shr32; omega
theorem shl64_bd (x y : Int) : -9223372036854775808 ≤ shl64 x y ∧ shl64 x y ≤ 9223372036854775807 := wrap64_bd _
theorem ushr64_bd (x y : Int) : -9223372036854775808 ≤ ushr64 x y ∧ ushr64 x y ≤ 9223372036854775807 := wrap64_bd _
theorem shr64_bd (x y : Int) (h : -9223372036854775808 ≤ x ∧ x ≤ 9223372036854775807) : -9223372036854775808 ≤ shr64 x y ∧ shr64 x y ≤ 9223372036854775807 := by
  have := div_pow_bd (B := 9223372036854775807) x (y % 64).toNat (by omega) (by omega)
  unfold shr64; omega

theorem run_shl32 (P : Program) (x y : Int) (w : World) : (Op.shift .shl .i32 x .i64 (bits .and .i64 y 31)).run P w = .ok (.int .i32 (shl32 x y)) w := by
  rw [mask31, shift_shl .i32 .i64 x _ (by omega) (by show y % 32 ≤ 32; omega), wrap32_eq]; rfl
theorem run_shr32 (P : Program) (x y : Int) (w : World) : (Op.shift .shr .i32 x .i64 (bits .and .i64 y 31)).run P w = .ok (.int .i32 (shr32 x y)) w := by
  rw [mask31, shift_shr .i32 .i64 x _ (by omega) (by show y % 32 ≤ 32; omega)]; rfl
theorem run_ushr32 (P : Program) (x y : Int) (w : World) : (Op.shift .shr .u32 (x % 4294967296) .i64 (bits .and .i64 y 31)).run P w = .ok (.int .u32 (x % 4294967296 / 2 ^ (y % 32).toNat)) w := by
  rw [mask31, shift_shr .u32 .i64 _ _ (by omega) (by show y % 32 ≤ 32; omega)]; rfl
theorem run_shl64 (P : Program) (x y : Int) (w : World) : (Op.shift .shl .i64 x .i64 (bits .and .i64 y 63)).run P w = .ok (.int .i64 (shl64 x y)) w := by
  rw [mask63, shift_shl .i64 .i64 x _ (by omega) (by show y % 64 ≤ 64; omega), wrap64_eq]; rfl
theorem run_shr64 (P : Program) (x y : Int) (w : World) : (Op.shift .shr .i64 x .i64 (bits .and .i64 y 63)).run P w = .ok (.int .i64 (shr64 x y)) w := by
  rw [mask63, shift_shr .i64 .i64 x _ (by omega) (by show y % 64 ≤ 64; omega)]; rfl
theorem run_ushr64 (P : Program) (x y : Int) (w : World) : (Op.shift .shr .u64 (IntKind.u64.wrap x) .i64 (bits .and .i64 y 63)).run P w = .ok (.int .u64 (x % 18446744073709551616 / 2 ^ (y % 64).toNat)) w := by
  rw [mask63, shift_shr .u64 .i64 _ _ (by omega) (by show y % 64 ≤ 64; omega)]
  rw [show IntKind.u64.wrap x = x % 18446744073709551616 by simp [IntKind.wrap, IntKind.bits, IntKind.signed]]; rfl
end Go.Proofs.Ytdelikjodacedaa
