/- The document's answer for conversions and comparisons, by contract: low, signed, Wrap, Conv, Cmp, Test. -/
import Derived.Test.YtdelikjodacedaaSmall
import Derived.Lib.Hide
namespace Go.Proofs.Ytdelikjodacedaa
open Go.RowKit

theorem wrap_u64 (n : Int) : IntKind.u64.wrap n = n % 18446744073709551616 := by simp [IntKind.wrap, IntKind.bits, IntKind.signed]
theorem mask_u64 (y : Int) (j : Nat) (hj : j < 63) : bits .and .u64 y (2 ^ j - 1) = y % 2 ^ j := by
  show IntKind.u64.wrap ((BitVec.ofInt 64 y &&& BitVec.ofInt 64 (2 ^ j - 1)).toNat : Int) = _
  have hp : (2 : Int) ^ j - 1 = ((2 ^ j - 1 : Nat) : Int) := by
    rw [Int.natCast_sub (Nat.two_pow_pos j)]; simp
  have hlt : 2 ^ j ≤ 2 ^ 62 := Nat.pow_le_pow_right (by decide) (by omega)
  have hm : (2 ^ j - 1) % 2 ^ 64 = 2 ^ j - 1 := Nat.mod_eq_of_lt (by omega)
  have hn : (BitVec.ofInt 64 y &&& BitVec.ofInt 64 (2 ^ j - 1)).toNat = (y % 18446744073709551616).toNat % 2 ^ j := by
    rw [hp, BitVec.toNat_and, BitVec.ofInt_natCast, BitVec.toNat_ofNat, hm, Nat.and_two_pow_sub_one_eq_mod, BitVec.toNat_ofInt]
    rfl
  have hdvd : ((2 : Int) ^ j) ∣ 18446744073709551616 := by
    refine ⟨2 ^ (64 - j), ?_⟩
    rw [← Int.pow_add, show j + (64 - j) = 64 by omega]; rfl
  have h0 : 0 ≤ y % 18446744073709551616 := Int.emod_nonneg _ (by decide)
  have hl : (BitVec.ofInt 64 y &&& BitVec.ofInt 64 (2 ^ j - 1)).toNat < 2 ^ j := by rw [hn]; exact Nat.mod_lt _ (Nat.two_pow_pos j)
  rw [wrap_u64, Int.emod_eq_of_lt (by omega) (by omega), hn, Int.natCast_emod, Int.toNat_of_nonneg h0]
  rw [show ((2 ^ j : Nat) : Int) = 2 ^ j by simp]
  exact Int.emod_emod_of_dvd y hdvd
theorem m8 (y : Int) : bits .and .u64 y 255 = y % 256 := mask_u64 y 8 (by decide)
theorem m16 (y : Int) : bits .and .u64 y 65535 = y % 65536 := mask_u64 y 16 (by decide)
theorem m32 (y : Int) : bits .and .u64 y 4294967295 = y % 4294967296 := mask_u64 y 32 (by decide)
theorem ret_u64 {a b : Int} (h : a = b) : Ending.returned (.int .u64 a) = .returned (.int .u64 b) := by rw [h]

set_option maxHeartbeats 400000 in
theorem low_8 (a : Int) (w : World) : Calls Try.prog 55 #[.int .i64 a, .int .i64 8] w fun e w' => e = .returned (.int .u64 (a % 256)) ∧ w = w' := by
  go_enter Try.func55, Try.ntmps55
  go_wp2
  go_ret
  exact ⟨ret_u64 (by rw [m8, wrap_u64]; omega), rfl⟩
set_option maxHeartbeats 400000 in
theorem low_16 (a : Int) (w : World) : Calls Try.prog 55 #[.int .i64 a, .int .i64 16] w fun e w' => e = .returned (.int .u64 (a % 65536)) ∧ w = w' := by
  go_enter Try.func55, Try.ntmps55
  go_wp2
  go_ret
  exact ⟨ret_u64 (by rw [m16, wrap_u64]; omega), rfl⟩
set_option maxHeartbeats 400000 in
theorem low_32 (a : Int) (w : World) : Calls Try.prog 55 #[.int .i64 a, .int .i64 32] w fun e w' => e = .returned (.int .u64 (a % 4294967296)) ∧ w = w' := by
  go_enter Try.func55, Try.ntmps55
  go_wp2
  go_ret
  exact ⟨ret_u64 (by rw [m32, wrap_u64]; omega), rfl⟩
set_option maxHeartbeats 400000 in
theorem low_64 (a : Int) (w : World) : Calls Try.prog 55 #[.int .i64 a, .int .i64 64] w fun e w' => e = .returned (.int .u64 (a % 18446744073709551616)) ∧ w = w' := by
  go_enter Try.func55, Try.ntmps55
  go_wp2
  go_ret
  exact ⟨ret_u64 (wrap_u64 a), rfl⟩

set_option maxHeartbeats 400000 in
theorem signed_8 (a : Int) (w : World) : Calls Try.prog 54 #[.int .i64 a, .int .i64 8] w fun e w' => e = .returned (.int .i64 ((a + 128) % 256 - 128)) ∧ w = w' := by
  by_cases h : 128 ≤ a % 256
  · have e : (a + 128) % 256 - 128 = a % 256 - 256 := by omega
    rw [e]; clear e
    go_enter Try.func54, Try.ntmps54
    go_wp2_with (go_at_call 55; refine (low_8 _ _).mono ?_; rintro e w' ⟨rfl, rfl⟩)
    go_ret
    exact ⟨rfl, rfl⟩
  · have e : (a + 128) % 256 - 128 = a % 256 := by omega
    rw [e]; clear e
    go_enter Try.func54, Try.ntmps54
    go_wp2_with (go_at_call 55; refine (low_8 _ _).mono ?_; rintro e w' ⟨rfl, rfl⟩)
    go_ret
    exact ⟨rfl, rfl⟩

set_option maxHeartbeats 400000 in
theorem signed_16 (a : Int) (w : World) : Calls Try.prog 54 #[.int .i64 a, .int .i64 16] w fun e w' => e = .returned (.int .i64 ((a + 32768) % 65536 - 32768)) ∧ w = w' := by
  by_cases h : 32768 ≤ a % 65536
  · have e : (a + 32768) % 65536 - 32768 = a % 65536 - 65536 := by omega
    rw [e]; clear e
    go_enter Try.func54, Try.ntmps54
    go_wp2_with (go_at_call 55; refine (low_16 _ _).mono ?_; rintro e w' ⟨rfl, rfl⟩)
    go_ret
    exact ⟨rfl, rfl⟩
  · have e : (a + 32768) % 65536 - 32768 = a % 65536 := by omega
    rw [e]; clear e
    go_enter Try.func54, Try.ntmps54
    go_wp2_with (go_at_call 55; refine (low_16 _ _).mono ?_; rintro e w' ⟨rfl, rfl⟩)
    go_ret
    exact ⟨rfl, rfl⟩

set_option maxHeartbeats 400000 in
theorem signed_32 (a : Int) (w : World) : Calls Try.prog 54 #[.int .i64 a, .int .i64 32] w fun e w' => e = .returned (.int .i64 ((a + 2147483648) % 4294967296 - 2147483648)) ∧ w = w' := by
  by_cases h : 2147483648 ≤ a % 4294967296
  · have e : (a + 2147483648) % 4294967296 - 2147483648 = a % 4294967296 - 4294967296 := by omega
    rw [e]; clear e
    go_enter Try.func54, Try.ntmps54
    go_wp2_with (go_at_call 55; refine (low_32 _ _).mono ?_; rintro e w' ⟨rfl, rfl⟩)
    go_ret
    exact ⟨rfl, rfl⟩
  · have e : (a + 2147483648) % 4294967296 - 2147483648 = a % 4294967296 := by omega
    rw [e]; clear e
    go_enter Try.func54, Try.ntmps54
    go_wp2_with (go_at_call 55; refine (low_32 _ _).mono ?_; rintro e w' ⟨rfl, rfl⟩)
    go_ret
    exact ⟨rfl, rfl⟩

def sizeF (kind : Int) : Int := if kind = 1 then 32 else if kind = 2 then 64 else 0
set_option maxHeartbeats 400000 in
theorem size_any (kind : Int) (w : World) : Calls Try.prog 51 #[.int .i64 kind] w fun e w' => e = .returned (.int .i64 (sizeF kind)) ∧ w = w' := by
  by_cases h1 : kind = 1
  · subst h1
    go_enter Try.func51, Try.ntmps51
    go_wp2
    go_ret
    exact ⟨rfl, rfl⟩
  · by_cases h2 : kind = 2
    · subst h2
      go_enter Try.func51, Try.ntmps51
      go_wp2
      go_ret
      exact ⟨rfl, rfl⟩
    · have e : sizeF kind = 0 := by unfold sizeF; rw [if_neg h1, if_neg h2]
      have g1 : (kind == 1) = false := by simpa using h1
      have g2 : (kind == 2) = false := by simpa using h2
      rw [e]; clear e
      go_enter Try.func51, Try.ntmps51
      go_wp2
      go_ret
      exact ⟨rfl, rfl⟩
set_option maxHeartbeats 400000 in
theorem rWrap_any (kind a : Int) (w : World) : Calls Try.prog 22 #[.int .i64 kind, .int .i64 a] w fun e w' => e = .returned (.int .i64 (wrapOf kind a)) ∧ w = w' := by
  have S := size_any kind w
  by_cases h1 : kind = 1
  · subst h1
    have e : sizeF 1 = 32 := rfl
    rw [e] at S; clear e
    obtain ⟨b1, b2⟩ := wrap32_bd a
    go_enter Try.func22, Try.ntmps22
    go_wp2_with (go_at_call 51; refine S.mono ?_; rintro e w' ⟨rfl, rfl⟩)
    go_ret
    exact ⟨rfl, rfl⟩
  · by_cases h2 : kind = 2
    · subst h2
      have e : sizeF 2 = 64 := rfl
      rw [e] at S; clear e
      go_enter Try.func22, Try.ntmps22
      go_wp2_with (go_at_call 51; refine S.mono ?_; rintro e w' ⟨rfl, rfl⟩)
      go_ret
      exact ⟨rfl, rfl⟩
    · have e : sizeF kind = 0 := by unfold sizeF; rw [if_neg h1, if_neg h2]
      rw [e] at S; clear e
      have e : wrapOf kind a = 0 := by unfold wrapOf; rw [if_neg h1, if_neg h2]
      rw [e]; clear e
      go_enter Try.func22, Try.ntmps22
      go_wp2_with (go_at_call 51; refine S.mono ?_; rintro e w' ⟨rfl, rfl⟩)
      go_ret
      exact ⟨rfl, rfl⟩

set_option maxHeartbeats 400000 in
theorem rConv_any (how a : Int) (w : World) : Calls Try.prog 23 #[.int .i64 how, .int .i64 a] w fun e w' => e = .returned (.int .i64 (convF how a)) ∧ w = w' := by
  have S8 := Lib.hid (signed_8 a w)
  have S16 := Lib.hid (signed_16 a w)
  have S32 := Lib.hid (signed_32 a w)
  have L16 := Lib.hid (low_16 a w)
  by_cases h0 : how = 0
  · subst h0
    go_enter Try.func23, Try.ntmps23
    go_wp2_with (first
      | (go_at_call 54; (with_reducible refine S8.out.mono ?_); rintro e w' ⟨rfl, rfl⟩)
      | (go_at_call 54; (with_reducible refine S16.out.mono ?_); rintro e w' ⟨rfl, rfl⟩)
      | (go_at_call 54; (with_reducible refine S32.out.mono ?_); rintro e w' ⟨rfl, rfl⟩)
      | (go_at_call 55; (with_reducible refine L16.out.mono ?_); rintro e w' ⟨rfl, rfl⟩))
    go_ret
    exact ⟨ret_int (by unfold convF wrap32; simp), rfl⟩
  by_cases h1 : how = 1
  · subst h1
    go_enter Try.func23, Try.ntmps23
    go_wp2_with (first
      | (go_at_call 54; (with_reducible refine S8.out.mono ?_); rintro e w' ⟨rfl, rfl⟩)
      | (go_at_call 54; (with_reducible refine S16.out.mono ?_); rintro e w' ⟨rfl, rfl⟩)
      | (go_at_call 54; (with_reducible refine S32.out.mono ?_); rintro e w' ⟨rfl, rfl⟩)
      | (go_at_call 55; (with_reducible refine L16.out.mono ?_); rintro e w' ⟨rfl, rfl⟩))
    go_ret
    exact ⟨ret_int (by unfold convF wrap32; simp), rfl⟩
  by_cases h2 : how = 2
  · subst h2
    go_enter Try.func23, Try.ntmps23
    go_wp2_with (first
      | (go_at_call 54; (with_reducible refine S8.out.mono ?_); rintro e w' ⟨rfl, rfl⟩)
      | (go_at_call 54; (with_reducible refine S16.out.mono ?_); rintro e w' ⟨rfl, rfl⟩)
      | (go_at_call 54; (with_reducible refine S32.out.mono ?_); rintro e w' ⟨rfl, rfl⟩)
      | (go_at_call 55; (with_reducible refine L16.out.mono ?_); rintro e w' ⟨rfl, rfl⟩))
    go_ret
    exact ⟨rfl, rfl⟩
  by_cases h3 : how = 3
  · subst h3
    go_enter Try.func23, Try.ntmps23
    go_wp2_with (first
      | (go_at_call 54; (with_reducible refine S8.out.mono ?_); rintro e w' ⟨rfl, rfl⟩)
      | (go_at_call 54; (with_reducible refine S16.out.mono ?_); rintro e w' ⟨rfl, rfl⟩)
      | (go_at_call 54; (with_reducible refine S32.out.mono ?_); rintro e w' ⟨rfl, rfl⟩)
      | (go_at_call 55; (with_reducible refine L16.out.mono ?_); rintro e w' ⟨rfl, rfl⟩))
    go_ret
    exact ⟨rfl, rfl⟩
  by_cases h4 : how = 4
  · subst h4
    go_enter Try.func23, Try.ntmps23
    go_wp2_with (first
      | (go_at_call 54; (with_reducible refine S8.out.mono ?_); rintro e w' ⟨rfl, rfl⟩)
      | (go_at_call 54; (with_reducible refine S16.out.mono ?_); rintro e w' ⟨rfl, rfl⟩)
      | (go_at_call 54; (with_reducible refine S32.out.mono ?_); rintro e w' ⟨rfl, rfl⟩)
      | (go_at_call 55; (with_reducible refine L16.out.mono ?_); rintro e w' ⟨rfl, rfl⟩))
    go_ret
    exact ⟨rfl, rfl⟩
  have e : convF how a = 0 := by unfold convF; rw [if_neg (by omega), if_neg h2, if_neg h3, if_neg h4]
  have g0 : (how == 0) = false := by simpa using h0
  have g1 : (how == 1) = false := by simpa using h1
  have g2 : (how == 2) = false := by simpa using h2
  have g3 : (how == 3) = false := by simpa using h3
  have g4 : (how == 4) = false := by simpa using h4
  rw [e]
  clear e
  go_enter Try.func23, Try.ntmps23
  go_wp2
  go_ret
  exact ⟨rfl, rfl⟩

set_option maxHeartbeats 400000 in
theorem rCmp_any (a b : Int) (w : World) : Calls Try.prog 25 #[.int .i64 a, .int .i64 b] w fun e w' => e = .returned (.int .i64 (cmpF a b)) ∧ w = w' := by
  by_cases h1 : a < b
  · have e : cmpF a b = -1 := by unfold cmpF; rw [if_pos h1]
    rw [e]; clear e
    go_enter Try.func25, Try.ntmps25
    go_wp2
    go_ret
    exact ⟨rfl, rfl⟩
  · by_cases h2 : b < a
    · have e : cmpF a b = 1 := by unfold cmpF; rw [if_neg h1, if_pos h2]
      rw [e]; clear e
      go_enter Try.func25, Try.ntmps25
      go_wp2
      go_ret
      exact ⟨rfl, rfl⟩
    · have e : cmpF a b = 0 := by unfold cmpF; rw [if_neg h1, if_neg h2]
      rw [e]; clear e
      go_enter Try.func25, Try.ntmps25
      go_wp2
      go_ret
      exact ⟨rfl, rfl⟩

theorem test0 (a b : Int) : (a == b) = testF 0 a b := by
  show (a == b) = decide (a = b)
  rw [Bool.eq_iff_iff]; simp
theorem test1 (a b : Int) : (a != b) = testF 1 a b := by
  show (a != b) = !decide (a = b)
  rw [Bool.eq_iff_iff]; simp
theorem ret_bool {a b : Bool} (h : a = b) : Ending.returned (.bool a) = .returned (.bool b) := by rw [h]
set_option maxHeartbeats 400000 in
theorem rTest_any (how a b : Int) (w : World) : Calls Try.prog 27 #[.int .i64 how, .int .i64 a, .int .i64 b] w fun e w' => e = .returned (.bool (testF how a b)) ∧ w = w' := by
  by_cases h0 : how = 0
  · subst h0
    go_enter Try.func27, Try.ntmps27
    go_wp2
    go_ret
    exact ⟨ret_bool (test0 a b), rfl⟩
  by_cases h1 : how = 1
  · subst h1
    go_enter Try.func27, Try.ntmps27
    go_wp2
    go_ret
    exact ⟨ret_bool (test1 a b), rfl⟩
  by_cases h2 : how = 2
  · subst h2
    go_enter Try.func27, Try.ntmps27
    go_wp2
    go_ret
    exact ⟨rfl, rfl⟩
  by_cases h3 : how = 3
  · subst h3
    go_enter Try.func27, Try.ntmps27
    go_wp2
    go_ret
    exact ⟨rfl, rfl⟩
  by_cases h4 : how = 4
  · subst h4
    go_enter Try.func27, Try.ntmps27
    go_wp2
    go_ret
    exact ⟨rfl, rfl⟩
  by_cases h5 : how = 5
  · subst h5
    go_enter Try.func27, Try.ntmps27
    go_wp2
    go_ret
    exact ⟨rfl, rfl⟩
  have e : testF how a b = false := by unfold testF; rw [if_neg h0, if_neg h1, if_neg h2, if_neg h3, if_neg h4, if_neg h5]
  have g0 : (how == 0) = false := by simpa using h0
  have g1 : (how == 1) = false := by simpa using h1
  have g2 : (how == 2) = false := by simpa using h2
  have g3 : (how == 3) = false := by simpa using h3
  have g4 : (how == 4) = false := by simpa using h4
  have g5 : (how == 5) = false := by simpa using h5
  rw [e]
  clear e
  go_enter Try.func27, Try.ntmps27
  go_wp2
  go_ret
  exact ⟨rfl, rfl⟩
end Go.Proofs.Ytdelikjodacedaa
