/- The document's answer for shifts, one bit after the other, by contract: shift, of ints and of longs. -/
import Derived.Test.YtdelikjodacedaaRefB
import Derived.Test.YtdelikjodacedaaBitsLaw
namespace Go.Proofs.Ytdelikjodacedaa
open Go.RowKit

/-- Behind k rounds: to the left; to the right, the sign coming after; noughts coming after (of n bits). -/
def x8 (M a : Int) (k : Nat) : Int := a * 2 ^ k % M
def x9 (M a : Int) (k : Nat) : Int := a / 2 ^ k % M
def x10 (M a : Int) (k : Nat) : Int := a % M / 2 ^ k
theorem x8_0 (M a : Int) : x8 M a 0 = a % M := by simp [x8]
theorem x9_0 (M a : Int) : x9 M a 0 = a % M := by simp [x9]
theorem x10_0 (M a : Int) : x10 M a 0 = a % M := by simp [x10]
theorem x8_s (M a : Int) (k : Nat) : x8 M a k * 2 % M = x8 M a (k + 1) := by
  unfold x8
  rw [Int.pow_succ, ← Int.mul_assoc]
  generalize a * 2 ^ k = t
  rw [Int.mul_emod (t % M), Int.emod_emod, ← Int.mul_emod]
theorem x10_s (M a : Int) (k : Nat) : x10 M a k / 2 = x10 M a (k + 1) := by
  unfold x10
  rw [Int.pow_succ, Int.ediv_ediv_of_nonneg (Int.le_of_lt (pow_pos' k))]
theorem x9_s (n : Nat) (a : Int) (k : Nat) (h : -(2 ^ n) ≤ a ∧ a < 2 ^ n) : x9 (2 ^ (n + 1)) a k / 2 + x9 (2 ^ (n + 1)) a k / 2 ^ n * 2 ^ n = x9 (2 ^ (n + 1)) a (k + 1) := by
  have hb := div_pow_bd (B := 2 ^ n - 1) a k (by omega) (by have := pow_pos' n; omega)
  unfold x9
  rw [Int.pow_succ 2 k, ← Int.ediv_ediv_of_nonneg (Int.le_of_lt (pow_pos' k))]
  generalize a / 2 ^ k = q at *
  have hp := pow_pos' n
  rw [Int.pow_succ]
  generalize (2 : Int) ^ n = P at *
  by_cases hq : 0 ≤ q
  · rw [Int.emod_eq_of_lt hq (by omega), show q / P = 0 from Int.ediv_eq_zero_of_lt hq (by omega), Int.emod_eq_of_lt (by omega) (by omega)]; omega
  · have e1 : q % (P * 2) = q + P * 2 := by rw [← Int.add_emod_right, Int.emod_eq_of_lt (by omega) (by omega)]
    have e2 : q / 2 % (P * 2) = q / 2 + P * 2 := by rw [← Int.add_emod_right, Int.emod_eq_of_lt (by omega) (by omega)]
    have e3 : (q + P * 2) / P = 1 := by
      rw [show q + P * 2 = (q + P) + P * 1 by omega, Int.add_mul_ediv_left _ _ (by omega), Int.ediv_eq_zero_of_lt (by omega) (by omega)]; rfl
    rw [e1, e2, e3]; omega
theorem or_u64 (j : Nat) (x y : Int) (hx : 0 ≤ x ∧ x < 2 ^ j) (hy0 : 0 ≤ y) (hy : y % 2 ^ j = 0) (hx1 : x < 18446744073709551616) (hy1 : y < 18446744073709551616) : bits .or .u64 x y = x + y := by
  have hw : ∀ n : Int, 0 ≤ n → n < 2 ^ 64 → IntKind.u64.wrap n = n := fun n h0 h1 => by rw [wrap_u64]; exact Int.emod_eq_of_lt h0 h1
  have h1 := bits_join .u64 64 (by decide) hw j y x hy0 hy hy1 hx.1 hx.2 hx1
  have h2 : bits .or .u64 x y = bits .or .u64 y x := by
    show IntKind.u64.wrap ((BitVec.ofInt 64 x ||| BitVec.ofInt 64 y).toNat : Int) = IntKind.u64.wrap ((BitVec.ofInt 64 y ||| BitVec.ofInt 64 x).toNat : Int)
    rw [BitVec.or_comm]
  rw [h2, h1, Int.add_comm]
theorem x8_bd (M a : Int) (k : Nat) (h : 0 < M) : 0 ≤ x8 M a k ∧ x8 M a k < M := ⟨Int.emod_nonneg _ (by omega), Int.emod_lt_of_pos _ h⟩
theorem x9_bd (M a : Int) (k : Nat) (h : 0 < M) : 0 ≤ x9 M a k ∧ x9 M a k < M := ⟨Int.emod_nonneg _ (by omega), Int.emod_lt_of_pos _ h⟩
theorem x10_bd (M a : Int) (k : Nat) (h : 0 < M) : 0 ≤ x10 M a k ∧ x10 M a k < M := by
  have h1 := Int.emod_nonneg a (show M ≠ 0 by omega)
  have h2 := Int.emod_lt_of_pos a h
  exact ⟨Int.ediv_nonneg h1 (Int.le_of_lt (pow_pos' k)), by have := Int.ediv_le_self (2 ^ k) h1; unfold x10; omega⟩
theorem low_arg (X : Int) : wrap64 (IntKind.u64.wrap (X * 2)) % 18446744073709551616 = X * 2 % 18446744073709551616 := by rw [wrap_u64]; unfold wrap64; omega
theorem fin32 (X : Int) (_ : 0 ≤ X ∧ X < 4294967296) : wrapOf 1 X = wrap32 X := rfl
theorem fin8_32 (a : Int) (c : Nat) : wrap32 (x8 4294967296 a c) = wrap32 (a * 2 ^ c) := by unfold x8 wrap32; omega
theorem fin9_32 (a : Int) (c : Nat) (h : -2147483648 ≤ a ∧ a ≤ 2147483647) : wrap32 (x9 4294967296 a c) = a / 2 ^ c := by
  have := div_pow_bd (B := 2147483647) a c (by omega) (by omega)
  unfold x9 wrap32; omega
theorem fin8_64 (a : Int) (c : Nat) : wrap64 (x8 18446744073709551616 a c) = wrap64 (a * 2 ^ c) := by unfold x8 wrap64; omega
theorem fin9_64 (a : Int) (c : Nat) (h : -9223372036854775808 ≤ a ∧ a ≤ 9223372036854775807) : wrap64 (x9 18446744073709551616 a c) = a / 2 ^ c := by
  have := div_pow_bd (B := 9223372036854775807) a c (by omega) (by omega)
  unfold x9 wrap64; omega

set_option maxHeartbeats 1000000 in
theorem shift32_8 (a by0 : Int) (ha : -2147483648 ≤ a ∧ a ≤ 2147483647) (w : World) :
    Calls Try.prog 52 #[.int .i64 1, .int .i64 8, .int .i64 a, .int .i64 by0] w fun e w' => e = .returned (.int .i64 (shl32 a by0)) ∧ w = w' := by
  obtain ⟨c, hc⟩ : ∃ c : Nat, c = (by0 % 32).toNat := ⟨_, rfl⟩
  have hm : bits .and .i64 by0 31 = (c : Int) := by rw [mask31]; omega
  have hcb : c < 32 := by omega
  have S := size_any 1 w
  have L := low_32 a w
  rw [show sizeF 1 = 32 from rfl] at S
  have HS := Lib.hid S
  have HL := Lib.hid L
  have z0 := Lib.hid (x8_0 4294967296 a)
  have HA := Lib.hid ha
  have FIN : Hid (wrapOf 1 (x8 4294967296 a c) = shl32 a by0) := Lib.hid (by
    unfold shl32
    rw [← hc]
    exact fin8_32 a c)
  clear hc S L ha
  go_enter Try.func52, Try.ntmps52
  go_wp2_with (first
    | (go_at_call 51; refine HS.out.mono ?_; rintro e w' ⟨rfl, rfl⟩)
    | (go_at_call 55; refine HL.out.mono ?_; rintro e w' ⟨rfl, rfl⟩))
  go_loop [10, 11] (fun x i => ∃ k : Nat, k ≤ c ∧ i = .int .i64 k ∧ x = .int .u64 (x8 4294967296 a k)) (fun _ i => c - (intOf i).toNat)
  case atStart => exact ⟨0, Nat.zero_le _, rfl, by rw [z0.out]⟩
  case round =>
    obtain ⟨k, hk, rfl, rfl⟩ := hrel
    obtain ⟨b1, b2⟩ := x8_bd 4294967296 a k (by omega)
    have ST := Lib.hid (x8_s 4294967296 a k)
    by_cases hkc : k < c
    · clear FIN
      generalize x8 _ a k = x at *
      go_wp2_with (go_at_call 55; refine (low_32 _ _).mono ?_; rintro e w' ⟨rfl, rfl⟩)
      go_round
      case rel => exact ⟨k + 1, by omega, by go_num, congrArg (Value.int .u64) ST.out⟩
      case measure => simp [intOf]; omega
    · obtain rfl : k = c := by omega
      clear ST
      generalize x8 _ a k = x at *
      go_wp2_with (go_at_call 22; refine (rWrap_any _ _ _).mono ?_; rintro e w' ⟨rfl, rfl⟩)
      go_ret
      exact ⟨ret_int FIN.out, rfl⟩

set_option maxHeartbeats 1000000 in
theorem shift32_9 (a by0 : Int) (ha : -2147483648 ≤ a ∧ a ≤ 2147483647) (w : World) :
    Calls Try.prog 52 #[.int .i64 1, .int .i64 9, .int .i64 a, .int .i64 by0] w fun e w' => e = .returned (.int .i64 (shr32 a by0)) ∧ w = w' := by
  obtain ⟨c, hc⟩ : ∃ c : Nat, c = (by0 % 32).toNat := ⟨_, rfl⟩
  have hm : bits .and .i64 by0 31 = (c : Int) := by rw [mask31]; omega
  have hcb : c < 32 := by omega
  have S := size_any 1 w
  have L := low_32 a w
  rw [show sizeF 1 = 32 from rfl] at S
  have HS := Lib.hid S
  have HL := Lib.hid L
  have z0 := Lib.hid (x9_0 4294967296 a)
  have HA := Lib.hid ha
  have FIN : Hid (wrapOf 1 (x9 4294967296 a c) = shr32 a by0) := Lib.hid (by
    unfold shr32
    rw [← hc]
    exact fin9_32 a c HA.out)
  clear hc S L ha
  go_enter Try.func52, Try.ntmps52
  go_wp2_with (first
    | (go_at_call 51; refine HS.out.mono ?_; rintro e w' ⟨rfl, rfl⟩)
    | (go_at_call 55; refine HL.out.mono ?_; rintro e w' ⟨rfl, rfl⟩))
  go_loop [10, 11] (fun x i => ∃ k : Nat, k ≤ c ∧ i = .int .i64 k ∧ x = .int .u64 (x9 4294967296 a k)) (fun _ i => c - (intOf i).toNat)
  case atStart => exact ⟨0, Nat.zero_le _, rfl, by rw [z0.out]⟩
  case round =>
    obtain ⟨k, hk, rfl, rfl⟩ := hrel
    obtain ⟨b1, b2⟩ := x9_bd 4294967296 a k (by omega)
    have ST : Hid (x9 4294967296 a k / 2 + x9 4294967296 a k / 2147483648 * 2147483648 = x9 4294967296 a (k + 1)) := Lib.hid (by have t := x9_s 31 a k (by have := HA.out; omega); simpa using t)
    have OR : Hid (bits .or .u64 (x9 4294967296 a k / 2) (x9 4294967296 a k / 2147483648 * 2147483648) = x9 4294967296 a k / 2 + x9 4294967296 a k / 2147483648 * 2147483648) := Lib.hid (or_u64 31 _ _ (by omega) (by omega) (Int.mul_emod_left _ _) (by omega) (by omega))
    by_cases hkc : k < c
    · clear FIN
      generalize x9 _ a k = x at *
      go_wp2
      go_round
      case rel => exact ⟨k + 1, by omega, by go_num, congrArg (Value.int .u64) (OR.out.trans ST.out)⟩
      case measure => simp [intOf]; omega
    · obtain rfl : k = c := by omega
      clear ST
      generalize x9 _ a k = x at *
      go_wp2_with (go_at_call 22; refine (rWrap_any _ _ _).mono ?_; rintro e w' ⟨rfl, rfl⟩)
      go_ret
      exact ⟨ret_int FIN.out, rfl⟩

set_option maxHeartbeats 1000000 in
theorem shift32_10 (a by0 : Int) (ha : -2147483648 ≤ a ∧ a ≤ 2147483647) (w : World) :
    Calls Try.prog 52 #[.int .i64 1, .int .i64 10, .int .i64 a, .int .i64 by0] w fun e w' => e = .returned (.int .i64 (ushr32 a by0)) ∧ w = w' := by
  obtain ⟨c, hc⟩ : ∃ c : Nat, c = (by0 % 32).toNat := ⟨_, rfl⟩
  have hm : bits .and .i64 by0 31 = (c : Int) := by rw [mask31]; omega
  have hcb : c < 32 := by omega
  have S := size_any 1 w
  have L := low_32 a w
  rw [show sizeF 1 = 32 from rfl] at S
  have HS := Lib.hid S
  have HL := Lib.hid L
  have z0 := Lib.hid (x10_0 4294967296 a)
  have HA := Lib.hid ha
  have FIN : Hid (wrapOf 1 (x10 4294967296 a c) = ushr32 a by0) := Lib.hid (by
    unfold ushr32
    rw [← hc]
    exact rfl)
  clear hc S L ha
  go_enter Try.func52, Try.ntmps52
  go_wp2_with (first
    | (go_at_call 51; refine HS.out.mono ?_; rintro e w' ⟨rfl, rfl⟩)
    | (go_at_call 55; refine HL.out.mono ?_; rintro e w' ⟨rfl, rfl⟩))
  go_loop [10, 11] (fun x i => ∃ k : Nat, k ≤ c ∧ i = .int .i64 k ∧ x = .int .u64 (x10 4294967296 a k)) (fun _ i => c - (intOf i).toNat)
  case atStart => exact ⟨0, Nat.zero_le _, rfl, by rw [z0.out]⟩
  case round =>
    obtain ⟨k, hk, rfl, rfl⟩ := hrel
    obtain ⟨b1, b2⟩ := x10_bd 4294967296 a k (by omega)
    have ST := Lib.hid (x10_s 4294967296 a k)
    by_cases hkc : k < c
    · clear FIN
      generalize x10 _ a k = x at *
      go_wp2
      go_round
      case rel => exact ⟨k + 1, by omega, by go_num, congrArg (Value.int .u64) ST.out⟩
      case measure => simp [intOf]; omega
    · obtain rfl : k = c := by omega
      clear ST
      generalize x10 _ a k = x at *
      go_wp2_with (go_at_call 22; refine (rWrap_any _ _ _).mono ?_; rintro e w' ⟨rfl, rfl⟩)
      go_ret
      exact ⟨ret_int FIN.out, rfl⟩

set_option maxHeartbeats 1000000 in
theorem shift64_8 (a by0 : Int) (ha : -9223372036854775808 ≤ a ∧ a ≤ 9223372036854775807) (w : World) :
    Calls Try.prog 52 #[.int .i64 2, .int .i64 8, .int .i64 a, .int .i64 by0] w fun e w' => e = .returned (.int .i64 (shl64 a by0)) ∧ w = w' := by
  obtain ⟨c, hc⟩ : ∃ c : Nat, c = (by0 % 64).toNat := ⟨_, rfl⟩
  have hm : bits .and .i64 by0 63 = (c : Int) := by rw [mask63]; omega
  have hcb : c < 64 := by omega
  have S := size_any 2 w
  have L := low_64 a w
  rw [show sizeF 2 = 64 from rfl] at S
  have HS := Lib.hid S
  have HL := Lib.hid L
  have z0 := Lib.hid (x8_0 18446744073709551616 a)
  have HA := Lib.hid ha
  have FIN : Hid (wrapOf 2 (wrap64 (x8 18446744073709551616 a c)) = shl64 a by0) := Lib.hid (by
    unfold shl64
    rw [← hc]
    exact fin8_64 a c)
  clear hc S L ha
  go_enter Try.func52, Try.ntmps52
  go_wp2_with (first
    | (go_at_call 51; refine HS.out.mono ?_; rintro e w' ⟨rfl, rfl⟩)
    | (go_at_call 55; refine HL.out.mono ?_; rintro e w' ⟨rfl, rfl⟩))
  go_loop [10, 11] (fun x i => ∃ k : Nat, k ≤ c ∧ i = .int .i64 k ∧ x = .int .u64 (x8 18446744073709551616 a k)) (fun _ i => c - (intOf i).toNat)
  case atStart => exact ⟨0, Nat.zero_le _, rfl, by rw [z0.out]⟩
  case round =>
    obtain ⟨k, hk, rfl, rfl⟩ := hrel
    obtain ⟨b1, b2⟩ := x8_bd 18446744073709551616 a k (by omega)
    have ST := Lib.hid (x8_s 18446744073709551616 a k)
    by_cases hkc : k < c
    · clear FIN
      generalize x8 _ a k = x at *
      go_wp2_with (go_at_call 55; refine (low_64 _ _).mono ?_; rintro e w' ⟨rfl, rfl⟩)
      go_round
      case rel => exact ⟨k + 1, by omega, by go_num, congrArg (Value.int .u64) ((low_arg _).trans ST.out)⟩
      case measure => simp [intOf]; omega
    · obtain rfl : k = c := by omega
      clear ST
      generalize x8 _ a k = x at *
      go_wp2_with (go_at_call 22; refine (rWrap_any _ _ _).mono ?_; rintro e w' ⟨rfl, rfl⟩)
      go_ret
      exact ⟨ret_int FIN.out, rfl⟩

set_option maxHeartbeats 1000000 in
theorem shift64_9 (a by0 : Int) (ha : -9223372036854775808 ≤ a ∧ a ≤ 9223372036854775807) (w : World) :
    Calls Try.prog 52 #[.int .i64 2, .int .i64 9, .int .i64 a, .int .i64 by0] w fun e w' => e = .returned (.int .i64 (shr64 a by0)) ∧ w = w' := by
  obtain ⟨c, hc⟩ : ∃ c : Nat, c = (by0 % 64).toNat := ⟨_, rfl⟩
  have hm : bits .and .i64 by0 63 = (c : Int) := by rw [mask63]; omega
  have hcb : c < 64 := by omega
  have S := size_any 2 w
  have L := low_64 a w
  rw [show sizeF 2 = 64 from rfl] at S
  have HS := Lib.hid S
  have HL := Lib.hid L
  have z0 := Lib.hid (x9_0 18446744073709551616 a)
  have HA := Lib.hid ha
  have FIN : Hid (wrapOf 2 (wrap64 (x9 18446744073709551616 a c)) = shr64 a by0) := Lib.hid (by
    unfold shr64
    rw [← hc]
    exact fin9_64 a c HA.out)
  clear hc S L ha
  go_enter Try.func52, Try.ntmps52
  go_wp2_with (first
    | (go_at_call 51; refine HS.out.mono ?_; rintro e w' ⟨rfl, rfl⟩)
    | (go_at_call 55; refine HL.out.mono ?_; rintro e w' ⟨rfl, rfl⟩))
  go_loop [10, 11] (fun x i => ∃ k : Nat, k ≤ c ∧ i = .int .i64 k ∧ x = .int .u64 (x9 18446744073709551616 a k)) (fun _ i => c - (intOf i).toNat)
  case atStart => exact ⟨0, Nat.zero_le _, rfl, by rw [z0.out]⟩
  case round =>
    obtain ⟨k, hk, rfl, rfl⟩ := hrel
    obtain ⟨b1, b2⟩ := x9_bd 18446744073709551616 a k (by omega)
    have ST : Hid (x9 18446744073709551616 a k / 2 + x9 18446744073709551616 a k / 9223372036854775808 * 9223372036854775808 = x9 18446744073709551616 a (k + 1)) := Lib.hid (by have t := x9_s 63 a k (by have := HA.out; omega); simpa using t)
    have OR : Hid (bits .or .u64 (x9 18446744073709551616 a k / 2) (x9 18446744073709551616 a k / 9223372036854775808 * 9223372036854775808) = x9 18446744073709551616 a k / 2 + x9 18446744073709551616 a k / 9223372036854775808 * 9223372036854775808) := Lib.hid (or_u64 63 _ _ (by omega) (by omega) (Int.mul_emod_left _ _) (by omega) (by omega))
    by_cases hkc : k < c
    · clear FIN
      generalize x9 _ a k = x at *
      go_wp2
      go_round
      case rel => exact ⟨k + 1, by omega, by go_num, congrArg (Value.int .u64) (OR.out.trans ST.out)⟩
      case measure => simp [intOf]; omega
    · obtain rfl : k = c := by omega
      clear ST
      generalize x9 _ a k = x at *
      go_wp2_with (go_at_call 22; refine (rWrap_any _ _ _).mono ?_; rintro e w' ⟨rfl, rfl⟩)
      go_ret
      exact ⟨ret_int FIN.out, rfl⟩

set_option maxHeartbeats 1000000 in
theorem shift64_10 (a by0 : Int) (ha : -9223372036854775808 ≤ a ∧ a ≤ 9223372036854775807) (w : World) :
    Calls Try.prog 52 #[.int .i64 2, .int .i64 10, .int .i64 a, .int .i64 by0] w fun e w' => e = .returned (.int .i64 (ushr64 a by0)) ∧ w = w' := by
  obtain ⟨c, hc⟩ : ∃ c : Nat, c = (by0 % 64).toNat := ⟨_, rfl⟩
  have hm : bits .and .i64 by0 63 = (c : Int) := by rw [mask63]; omega
  have hcb : c < 64 := by omega
  have S := size_any 2 w
  have L := low_64 a w
  rw [show sizeF 2 = 64 from rfl] at S
  have HS := Lib.hid S
  have HL := Lib.hid L
  have z0 := Lib.hid (x10_0 18446744073709551616 a)
  have HA := Lib.hid ha
  have FIN : Hid (wrapOf 2 (wrap64 (x10 18446744073709551616 a c)) = ushr64 a by0) := Lib.hid (by
    unfold ushr64
    rw [← hc]
    exact rfl)
  clear hc S L ha
  go_enter Try.func52, Try.ntmps52
  go_wp2_with (first
    | (go_at_call 51; refine HS.out.mono ?_; rintro e w' ⟨rfl, rfl⟩)
    | (go_at_call 55; refine HL.out.mono ?_; rintro e w' ⟨rfl, rfl⟩))
  go_loop [10, 11] (fun x i => ∃ k : Nat, k ≤ c ∧ i = .int .i64 k ∧ x = .int .u64 (x10 18446744073709551616 a k)) (fun _ i => c - (intOf i).toNat)
  case atStart => exact ⟨0, Nat.zero_le _, rfl, by rw [z0.out]⟩
  case round =>
    obtain ⟨k, hk, rfl, rfl⟩ := hrel
    obtain ⟨b1, b2⟩ := x10_bd 18446744073709551616 a k (by omega)
    have ST := Lib.hid (x10_s 18446744073709551616 a k)
    by_cases hkc : k < c
    · clear FIN
      generalize x10 _ a k = x at *
      go_wp2
      go_round
      case rel => exact ⟨k + 1, by omega, by go_num, congrArg (Value.int .u64) ST.out⟩
      case measure => simp [intOf]; omega
    · obtain rfl : k = c := by omega
      clear ST
      generalize x10 _ a k = x at *
      go_wp2_with (go_at_call 22; refine (rWrap_any _ _ _).mono ?_; rintro e w' ⟨rfl, rfl⟩)
      go_ret
      exact ⟨ret_int FIN.out, rfl⟩
end Go.Proofs.Ytdelikjodacedaa
