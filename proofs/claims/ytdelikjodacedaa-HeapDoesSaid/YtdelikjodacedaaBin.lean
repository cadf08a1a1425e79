/- heap.Bin, by contract: of all kinds and operators, and of any two numbers of 64 bits it answers binV and binB, and leaves what was there. -/
import Derived.Test.YtdelikjodacedaaOps
import Derived.Test.YtdelikjodacedaaNum
namespace Go.Proofs.Ytdelikjodacedaa
open Go.RowKit

set_option maxHeartbeats 400000 in
theorem bin32_0 (a b : Int) (w : World) :
    Calls Try.prog 15 #[.int .i64 1, .int .i64 0, .int .i64 a, .int .i64 b] w fun e w' => e = .returned (.tuple #[.int .i64 (wrap32 (wrap32 a + wrap32 b)), .bool true]) ∧ Below w.heap.size w w' := by
  obtain ⟨ha1, ha2⟩ := wrap32_bd a
  obtain ⟨hb1, hb2⟩ := wrap32_bd b
  obtain ⟨hr1, hr2⟩ := wrap32_bd (wrap32 a + wrap32 b)
  have ix : ∀ (p : Nat) (w : World), (Instr.index 73 (.agg (arr32 p)) (.int .i64 0)).run Try.prog w = .ok (.func (.func 64) #[] #[]) w := fun _ _ => by kernel_rfl
  go_enter Try.func15, Try.ntmps15
  go_wp2_with (first | (go_at_call 49; refine (operators32 _).mono ?_; rintro e w1 ⟨rfl, hbe, hfar, hbits⟩) | go_in)
  go_ret2
  exact ⟨rfl, by assumption⟩

set_option maxHeartbeats 400000 in
theorem bin32_1 (a b : Int) (w : World) :
    Calls Try.prog 15 #[.int .i64 1, .int .i64 1, .int .i64 a, .int .i64 b] w fun e w' => e = .returned (.tuple #[.int .i64 (wrap32 (wrap32 a - wrap32 b)), .bool true]) ∧ Below w.heap.size w w' := by
  obtain ⟨ha1, ha2⟩ := wrap32_bd a
  obtain ⟨hb1, hb2⟩ := wrap32_bd b
  obtain ⟨hr1, hr2⟩ := wrap32_bd (wrap32 a - wrap32 b)
  have ix : ∀ (p : Nat) (w : World), (Instr.index 73 (.agg (arr32 p)) (.int .i64 1)).run Try.prog w = .ok (.func (.func 65) #[] #[]) w := fun _ _ => by kernel_rfl
  go_enter Try.func15, Try.ntmps15
  go_wp2_with (first | (go_at_call 49; refine (operators32 _).mono ?_; rintro e w1 ⟨rfl, hbe, hfar, hbits⟩) | go_in)
  go_ret2
  exact ⟨rfl, by assumption⟩

set_option maxHeartbeats 400000 in
theorem bin32_2 (a b : Int) (w : World) :
    Calls Try.prog 15 #[.int .i64 1, .int .i64 2, .int .i64 a, .int .i64 b] w fun e w' => e = .returned (.tuple #[.int .i64 (wrap32 (wrap32 a * wrap32 b)), .bool true]) ∧ Below w.heap.size w w' := by
  obtain ⟨ha1, ha2⟩ := wrap32_bd a
  obtain ⟨hb1, hb2⟩ := wrap32_bd b
  obtain ⟨hr1, hr2⟩ := wrap32_bd (wrap32 a * wrap32 b)
  have ix : ∀ (p : Nat) (w : World), (Instr.index 73 (.agg (arr32 p)) (.int .i64 2)).run Try.prog w = .ok (.func (.func 66) #[] #[]) w := fun _ _ => by kernel_rfl
  go_enter Try.func15, Try.ntmps15
  go_wp2_with (first | (go_at_call 49; refine (operators32 _).mono ?_; rintro e w1 ⟨rfl, hbe, hfar, hbits⟩) | go_in)
  go_ret2
  exact ⟨rfl, by assumption⟩

set_option maxHeartbeats 400000 in
theorem bin32_3 (a b : Int) (h0 : ¬ wrap32 b = 0) (w : World) :
    Calls Try.prog 15 #[.int .i64 1, .int .i64 3, .int .i64 a, .int .i64 b] w fun e w' => e = .returned (.tuple #[.int .i64 (wrap32 ((wrap32 a).tdiv (wrap32 b))), .bool true]) ∧ Below w.heap.size w w' := by
  obtain ⟨ha1, ha2⟩ := wrap32_bd a
  obtain ⟨hb1, hb2⟩ := wrap32_bd b
  have h0b : (wrap32 b == 0) = false := by simpa using h0
  obtain ⟨hr1, hr2⟩ := wrap32_bd ((wrap32 a).tdiv (wrap32 b))
  have ix : ∀ (p : Nat) (w : World), (Instr.index 73 (.agg (arr32 p)) (.int .i64 3)).run Try.prog w = .ok (.func (.func 67) #[] #[]) w := fun _ _ => by kernel_rfl
  go_enter Try.func15, Try.ntmps15
  go_wp2_with (first | (go_at_call 49; refine (operators32 _).mono ?_; rintro e w1 ⟨rfl, hbe, hfar, hbits⟩) | go_in)
  go_ret2
  exact ⟨rfl, by assumption⟩

set_option maxHeartbeats 400000 in
theorem bin32_4 (a b : Int) (h0 : ¬ wrap32 b = 0) (w : World) :
    Calls Try.prog 15 #[.int .i64 1, .int .i64 4, .int .i64 a, .int .i64 b] w fun e w' => e = .returned (.tuple #[.int .i64 ((wrap32 a).tmod (wrap32 b)), .bool true]) ∧ Below w.heap.size w w' := by
  obtain ⟨ha1, ha2⟩ := wrap32_bd a
  obtain ⟨hb1, hb2⟩ := wrap32_bd b
  have h0b : (wrap32 b == 0) = false := by simpa using h0
  obtain ⟨hr1, hr2⟩ := tmod32_bd (wrap32 a) (wrap32 b) ⟨ha1, ha2⟩
  have ix : ∀ (p : Nat) (w : World), (Instr.index 73 (.agg (arr32 p)) (.int .i64 4)).run Try.prog w = .ok (.func (.func 68) #[] #[]) w := fun _ _ => by kernel_rfl
  go_enter Try.func15, Try.ntmps15
  go_wp2_with (first | (go_at_call 49; refine (operators32 _).mono ?_; rintro e w1 ⟨rfl, hbe, hfar, hbits⟩) | go_in)
  go_ret2
  exact ⟨rfl, by assumption⟩

set_option maxHeartbeats 400000 in
theorem bin32_5 (a b : Int) (w : World) :
    Calls Try.prog 15 #[.int .i64 1, .int .i64 5, .int .i64 a, .int .i64 b] w fun e w' => e = .returned (.tuple #[.int .i64 (bits .and .i32 (wrap32 a) (wrap32 b)), .bool true]) ∧ Below w.heap.size w w' := by
  obtain ⟨ha1, ha2⟩ := wrap32_bd a
  obtain ⟨hb1, hb2⟩ := wrap32_bd b
  obtain ⟨hr1, hr2⟩ := and32_bd (wrap32 a) (wrap32 b)
  have ix : ∀ (p : Nat) (w : World), (Instr.index 73 (.agg (arr32 p)) (.int .i64 5)).run Try.prog w = .ok (.func (.func 69) #[] #[]) w := fun _ _ => by kernel_rfl
  go_enter Try.func15, Try.ntmps15
  go_wp2_with (first | (go_at_call 49; refine (operators32 _).mono ?_; rintro e w1 ⟨rfl, hbe, hfar, hbits⟩) | go_in)
  go_ret2
  exact ⟨rfl, by assumption⟩

set_option maxHeartbeats 400000 in
theorem bin32_6 (a b : Int) (w : World) :
    Calls Try.prog 15 #[.int .i64 1, .int .i64 6, .int .i64 a, .int .i64 b] w fun e w' => e = .returned (.tuple #[.int .i64 (bits .or .i32 (wrap32 a) (wrap32 b)), .bool true]) ∧ Below w.heap.size w w' := by
  obtain ⟨ha1, ha2⟩ := wrap32_bd a
  obtain ⟨hb1, hb2⟩ := wrap32_bd b
  obtain ⟨hr1, hr2⟩ := or32_bd (wrap32 a) (wrap32 b)
  have ix : ∀ (p : Nat) (w : World), (Instr.index 73 (.agg (arr32 p)) (.int .i64 6)).run Try.prog w = .ok (.func (.func 70) #[] #[]) w := fun _ _ => by kernel_rfl
  go_enter Try.func15, Try.ntmps15
  go_wp2_with (first | (go_at_call 49; refine (operators32 _).mono ?_; rintro e w1 ⟨rfl, hbe, hfar, hbits⟩) | go_in)
  go_ret2
  exact ⟨rfl, by assumption⟩

set_option maxHeartbeats 400000 in
theorem bin32_7 (a b : Int) (w : World) :
    Calls Try.prog 15 #[.int .i64 1, .int .i64 7, .int .i64 a, .int .i64 b] w fun e w' => e = .returned (.tuple #[.int .i64 (bits .xor .i32 (wrap32 a) (wrap32 b)), .bool true]) ∧ Below w.heap.size w w' := by
  obtain ⟨ha1, ha2⟩ := wrap32_bd a
  obtain ⟨hb1, hb2⟩ := wrap32_bd b
  obtain ⟨hr1, hr2⟩ := xor32_bd (wrap32 a) (wrap32 b)
  have ix : ∀ (p : Nat) (w : World), (Instr.index 73 (.agg (arr32 p)) (.int .i64 7)).run Try.prog w = .ok (.func (.func 71) #[] #[]) w := fun _ _ => by kernel_rfl
  go_enter Try.func15, Try.ntmps15
  go_wp2_with (first | (go_at_call 49; refine (operators32 _).mono ?_; rintro e w1 ⟨rfl, hbe, hfar, hbits⟩) | go_in)
  go_ret2
  exact ⟨rfl, by assumption⟩

set_option maxHeartbeats 400000 in
theorem bin32_8 (a b : Int) (w : World) :
    Calls Try.prog 15 #[.int .i64 1, .int .i64 8, .int .i64 a, .int .i64 b] w fun e w' => e = .returned (.tuple #[.int .i64 (shl32 (wrap32 a) (wrap32 b)), .bool true]) ∧ Below w.heap.size w w' := by
  obtain ⟨ha1, ha2⟩ := wrap32_bd a
  obtain ⟨hb1, hb2⟩ := wrap32_bd b
  obtain ⟨hr1, hr2⟩ := shl32_bd (wrap32 a) (wrap32 b)
  have hs := fun w => run_shl32 Try.prog (wrap32 a) (wrap32 b) w
  have ix : ∀ (p : Nat) (w : World), (Instr.index 73 (.agg (arr32 p)) (.int .i64 8)).run Try.prog w = .ok (.func (.func 72) #[] #[.pointer (some ⟨p, 0, none⟩)]) w := fun _ _ => by kernel_rfl
  go_enter Try.func15, Try.ntmps15
  go_wp2_with (first | (go_at_call 49; refine (operators32 _).mono ?_; rintro e w1 ⟨rfl, hbe, hfar, hbits⟩) | go_in)
  go_ret2
  exact ⟨rfl, by assumption⟩

set_option maxHeartbeats 400000 in
theorem bin32_9 (a b : Int) (w : World) :
    Calls Try.prog 15 #[.int .i64 1, .int .i64 9, .int .i64 a, .int .i64 b] w fun e w' => e = .returned (.tuple #[.int .i64 (shr32 (wrap32 a) (wrap32 b)), .bool true]) ∧ Below w.heap.size w w' := by
  obtain ⟨ha1, ha2⟩ := wrap32_bd a
  obtain ⟨hb1, hb2⟩ := wrap32_bd b
  obtain ⟨hr1, hr2⟩ := shr32_bd (wrap32 a) (wrap32 b) ⟨ha1, ha2⟩
  have hs := fun w => run_shr32 Try.prog (wrap32 a) (wrap32 b) w
  have ix : ∀ (p : Nat) (w : World), (Instr.index 73 (.agg (arr32 p)) (.int .i64 9)).run Try.prog w = .ok (.func (.func 73) #[] #[.pointer (some ⟨p, 0, none⟩)]) w := fun _ _ => by kernel_rfl
  go_enter Try.func15, Try.ntmps15
  go_wp2_with (first | (go_at_call 49; refine (operators32 _).mono ?_; rintro e w1 ⟨rfl, hbe, hfar, hbits⟩) | go_in)
  go_ret2
  exact ⟨rfl, by assumption⟩

set_option maxHeartbeats 400000 in
theorem bin32_10 (a b : Int) (w : World) :
    Calls Try.prog 15 #[.int .i64 1, .int .i64 10, .int .i64 a, .int .i64 b] w fun e w' => e = .returned (.tuple #[.int .i64 (ushr32 (wrap32 a) (wrap32 b)), .bool true]) ∧ Below w.heap.size w w' := by
  obtain ⟨ha1, ha2⟩ := wrap32_bd a
  obtain ⟨hb1, hb2⟩ := wrap32_bd b
  obtain ⟨hr1, hr2⟩ := wrap32_bd (wrap32 a % 4294967296 / 2 ^ (wrap32 b % 32).toNat)
  have hs := fun w => run_ushr32 Try.prog (wrap32 a) (wrap32 b) w
  have ix : ∀ (p : Nat) (w : World), (Instr.index 73 (.agg (arr32 p)) (.int .i64 10)).run Try.prog w = .ok (.func (.func 74) #[] #[.pointer (some ⟨p, 0, none⟩)]) w := fun _ _ => by kernel_rfl
  go_enter Try.func15, Try.ntmps15
  go_wp2_with (first | (go_at_call 49; refine (operators32 _).mono ?_; rintro e w1 ⟨rfl, hbe, hfar, hbits⟩) | go_in)
  go_ret2
  exact ⟨rfl, by assumption⟩

set_option maxHeartbeats 400000 in
theorem bin64_0 (a b : Int) (ha : -9223372036854775808 ≤ a ∧ a ≤ 9223372036854775807) (hb : -9223372036854775808 ≤ b ∧ b ≤ 9223372036854775807) (w : World) :
    Calls Try.prog 15 #[.int .i64 2, .int .i64 0, .int .i64 a, .int .i64 b] w fun e w' => e = .returned (.tuple #[.int .i64 (wrap64 (a + b)), .bool true]) ∧ Below w.heap.size w w' := by
  obtain ⟨ha1, ha2⟩ := ha
  obtain ⟨hb1, hb2⟩ := hb
  have ix : ∀ (p : Nat) (w : World), (Instr.index 76 (.agg (arr64 p)) (.int .i64 0)).run Try.prog w = .ok (.func (.func 76) #[] #[]) w := fun _ _ => by kernel_rfl
  go_enter Try.func15, Try.ntmps15
  go_wp2_with (first | (go_at_call 50; refine (operators64 _).mono ?_; rintro e w1 ⟨rfl, hbe, hfar, hbits⟩) | go_in)
  go_ret2
  exact ⟨rfl, by assumption⟩

set_option maxHeartbeats 400000 in
theorem bin64_1 (a b : Int) (ha : -9223372036854775808 ≤ a ∧ a ≤ 9223372036854775807) (hb : -9223372036854775808 ≤ b ∧ b ≤ 9223372036854775807) (w : World) :
    Calls Try.prog 15 #[.int .i64 2, .int .i64 1, .int .i64 a, .int .i64 b] w fun e w' => e = .returned (.tuple #[.int .i64 (wrap64 (a - b)), .bool true]) ∧ Below w.heap.size w w' := by
  obtain ⟨ha1, ha2⟩ := ha
  obtain ⟨hb1, hb2⟩ := hb
  have ix : ∀ (p : Nat) (w : World), (Instr.index 76 (.agg (arr64 p)) (.int .i64 1)).run Try.prog w = .ok (.func (.func 77) #[] #[]) w := fun _ _ => by kernel_rfl
  go_enter Try.func15, Try.ntmps15
  go_wp2_with (first | (go_at_call 50; refine (operators64 _).mono ?_; rintro e w1 ⟨rfl, hbe, hfar, hbits⟩) | go_in)
  go_ret2
  exact ⟨rfl, by assumption⟩

set_option maxHeartbeats 400000 in
theorem bin64_2 (a b : Int) (ha : -9223372036854775808 ≤ a ∧ a ≤ 9223372036854775807) (hb : -9223372036854775808 ≤ b ∧ b ≤ 9223372036854775807) (w : World) :
    Calls Try.prog 15 #[.int .i64 2, .int .i64 2, .int .i64 a, .int .i64 b] w fun e w' => e = .returned (.tuple #[.int .i64 (wrap64 (a * b)), .bool true]) ∧ Below w.heap.size w w' := by
  obtain ⟨ha1, ha2⟩ := ha
  obtain ⟨hb1, hb2⟩ := hb
  have ix : ∀ (p : Nat) (w : World), (Instr.index 76 (.agg (arr64 p)) (.int .i64 2)).run Try.prog w = .ok (.func (.func 78) #[] #[]) w := fun _ _ => by kernel_rfl
  go_enter Try.func15, Try.ntmps15
  go_wp2_with (first | (go_at_call 50; refine (operators64 _).mono ?_; rintro e w1 ⟨rfl, hbe, hfar, hbits⟩) | go_in)
  go_ret2
  exact ⟨rfl, by assumption⟩

set_option maxHeartbeats 400000 in
theorem bin64_3 (a b : Int) (ha : -9223372036854775808 ≤ a ∧ a ≤ 9223372036854775807) (hb : -9223372036854775808 ≤ b ∧ b ≤ 9223372036854775807) (h0 : ¬ b = 0) (w : World) :
    Calls Try.prog 15 #[.int .i64 2, .int .i64 3, .int .i64 a, .int .i64 b] w fun e w' => e = .returned (.tuple #[.int .i64 (wrap64 (a.tdiv b)), .bool true]) ∧ Below w.heap.size w w' := by
  obtain ⟨ha1, ha2⟩ := ha
  obtain ⟨hb1, hb2⟩ := hb
  have h0b : (b == 0) = false := by simpa using h0
  have ix : ∀ (p : Nat) (w : World), (Instr.index 76 (.agg (arr64 p)) (.int .i64 3)).run Try.prog w = .ok (.func (.func 79) #[] #[]) w := fun _ _ => by kernel_rfl
  go_enter Try.func15, Try.ntmps15
  go_wp2_with (first | (go_at_call 50; refine (operators64 _).mono ?_; rintro e w1 ⟨rfl, hbe, hfar, hbits⟩) | go_in)
  go_ret2
  exact ⟨rfl, by assumption⟩

set_option maxHeartbeats 400000 in
theorem bin64_4 (a b : Int) (ha : -9223372036854775808 ≤ a ∧ a ≤ 9223372036854775807) (hb : -9223372036854775808 ≤ b ∧ b ≤ 9223372036854775807) (h0 : ¬ b = 0) (w : World) :
    Calls Try.prog 15 #[.int .i64 2, .int .i64 4, .int .i64 a, .int .i64 b] w fun e w' => e = .returned (.tuple #[.int .i64 (a.tmod b), .bool true]) ∧ Below w.heap.size w w' := by
  obtain ⟨ha1, ha2⟩ := ha
  obtain ⟨hb1, hb2⟩ := hb
  have h0b : (b == 0) = false := by simpa using h0
  have ix : ∀ (p : Nat) (w : World), (Instr.index 76 (.agg (arr64 p)) (.int .i64 4)).run Try.prog w = .ok (.func (.func 80) #[] #[]) w := fun _ _ => by kernel_rfl
  go_enter Try.func15, Try.ntmps15
  go_wp2_with (first | (go_at_call 50; refine (operators64 _).mono ?_; rintro e w1 ⟨rfl, hbe, hfar, hbits⟩) | go_in)
  go_ret2
  exact ⟨rfl, by assumption⟩

set_option maxHeartbeats 400000 in
theorem bin64_5 (a b : Int) (ha : -9223372036854775808 ≤ a ∧ a ≤ 9223372036854775807) (hb : -9223372036854775808 ≤ b ∧ b ≤ 9223372036854775807) (w : World) :
    Calls Try.prog 15 #[.int .i64 2, .int .i64 5, .int .i64 a, .int .i64 b] w fun e w' => e = .returned (.tuple #[.int .i64 (bits .and .i64 a b), .bool true]) ∧ Below w.heap.size w w' := by
  obtain ⟨ha1, ha2⟩ := ha
  obtain ⟨hb1, hb2⟩ := hb
  have ix : ∀ (p : Nat) (w : World), (Instr.index 76 (.agg (arr64 p)) (.int .i64 5)).run Try.prog w = .ok (.func (.func 81) #[] #[]) w := fun _ _ => by kernel_rfl
  go_enter Try.func15, Try.ntmps15
  go_wp2_with (first | (go_at_call 50; refine (operators64 _).mono ?_; rintro e w1 ⟨rfl, hbe, hfar, hbits⟩) | go_in)
  go_ret2
  exact ⟨rfl, by assumption⟩

set_option maxHeartbeats 400000 in
theorem bin64_6 (a b : Int) (ha : -9223372036854775808 ≤ a ∧ a ≤ 9223372036854775807) (hb : -9223372036854775808 ≤ b ∧ b ≤ 9223372036854775807) (w : World) :
    Calls Try.prog 15 #[.int .i64 2, .int .i64 6, .int .i64 a, .int .i64 b] w fun e w' => e = .returned (.tuple #[.int .i64 (bits .or .i64 a b), .bool true]) ∧ Below w.heap.size w w' := by
  obtain ⟨ha1, ha2⟩ := ha
  obtain ⟨hb1, hb2⟩ := hb
  have ix : ∀ (p : Nat) (w : World), (Instr.index 76 (.agg (arr64 p)) (.int .i64 6)).run Try.prog w = .ok (.func (.func 82) #[] #[]) w := fun _ _ => by kernel_rfl
  go_enter Try.func15, Try.ntmps15
  go_wp2_with (first | (go_at_call 50; refine (operators64 _).mono ?_; rintro e w1 ⟨rfl, hbe, hfar, hbits⟩) | go_in)
  go_ret2
  exact ⟨rfl, by assumption⟩

set_option maxHeartbeats 400000 in
theorem bin64_7 (a b : Int) (ha : -9223372036854775808 ≤ a ∧ a ≤ 9223372036854775807) (hb : -9223372036854775808 ≤ b ∧ b ≤ 9223372036854775807) (w : World) :
    Calls Try.prog 15 #[.int .i64 2, .int .i64 7, .int .i64 a, .int .i64 b] w fun e w' => e = .returned (.tuple #[.int .i64 (bits .xor .i64 a b), .bool true]) ∧ Below w.heap.size w w' := by
  obtain ⟨ha1, ha2⟩ := ha
  obtain ⟨hb1, hb2⟩ := hb
  have ix : ∀ (p : Nat) (w : World), (Instr.index 76 (.agg (arr64 p)) (.int .i64 7)).run Try.prog w = .ok (.func (.func 83) #[] #[]) w := fun _ _ => by kernel_rfl
  go_enter Try.func15, Try.ntmps15
  go_wp2_with (first | (go_at_call 50; refine (operators64 _).mono ?_; rintro e w1 ⟨rfl, hbe, hfar, hbits⟩) | go_in)
  go_ret2
  exact ⟨rfl, by assumption⟩

set_option maxHeartbeats 400000 in
theorem bin64_8 (a b : Int) (ha : -9223372036854775808 ≤ a ∧ a ≤ 9223372036854775807) (hb : -9223372036854775808 ≤ b ∧ b ≤ 9223372036854775807) (w : World) :
    Calls Try.prog 15 #[.int .i64 2, .int .i64 8, .int .i64 a, .int .i64 b] w fun e w' => e = .returned (.tuple #[.int .i64 (shl64 a b), .bool true]) ∧ Below w.heap.size w w' := by
  obtain ⟨ha1, ha2⟩ := ha
  obtain ⟨hb1, hb2⟩ := hb
  have hs := fun w => run_shl64 Try.prog (a) (b) w
  have ix : ∀ (p : Nat) (w : World), (Instr.index 76 (.agg (arr64 p)) (.int .i64 8)).run Try.prog w = .ok (.func (.func 84) #[] #[.pointer (some ⟨p, 0, none⟩)]) w := fun _ _ => by kernel_rfl
  go_enter Try.func15, Try.ntmps15
  go_wp2_with (first | (go_at_call 50; refine (operators64 _).mono ?_; rintro e w1 ⟨rfl, hbe, hfar, hbits⟩) | go_in)
  go_ret2
  exact ⟨rfl, by assumption⟩

set_option maxHeartbeats 400000 in
theorem bin64_9 (a b : Int) (ha : -9223372036854775808 ≤ a ∧ a ≤ 9223372036854775807) (hb : -9223372036854775808 ≤ b ∧ b ≤ 9223372036854775807) (w : World) :
    Calls Try.prog 15 #[.int .i64 2, .int .i64 9, .int .i64 a, .int .i64 b] w fun e w' => e = .returned (.tuple #[.int .i64 (shr64 a b), .bool true]) ∧ Below w.heap.size w w' := by
  obtain ⟨ha1, ha2⟩ := ha
  obtain ⟨hb1, hb2⟩ := hb
  have hs := fun w => run_shr64 Try.prog (a) (b) w
  have ix : ∀ (p : Nat) (w : World), (Instr.index 76 (.agg (arr64 p)) (.int .i64 9)).run Try.prog w = .ok (.func (.func 85) #[] #[.pointer (some ⟨p, 0, none⟩)]) w := fun _ _ => by kernel_rfl
  go_enter Try.func15, Try.ntmps15
  go_wp2_with (first | (go_at_call 50; refine (operators64 _).mono ?_; rintro e w1 ⟨rfl, hbe, hfar, hbits⟩) | go_in)
  go_ret2
  exact ⟨rfl, by assumption⟩

set_option maxHeartbeats 400000 in
theorem bin64_10 (a b : Int) (ha : -9223372036854775808 ≤ a ∧ a ≤ 9223372036854775807) (hb : -9223372036854775808 ≤ b ∧ b ≤ 9223372036854775807) (w : World) :
    Calls Try.prog 15 #[.int .i64 2, .int .i64 10, .int .i64 a, .int .i64 b] w fun e w' => e = .returned (.tuple #[.int .i64 (ushr64 a b), .bool true]) ∧ Below w.heap.size w w' := by
  obtain ⟨ha1, ha2⟩ := ha
  obtain ⟨hb1, hb2⟩ := hb
  have hs := fun w => run_ushr64 Try.prog (a) (b) w
  have ix : ∀ (p : Nat) (w : World), (Instr.index 76 (.agg (arr64 p)) (.int .i64 10)).run Try.prog w = .ok (.func (.func 86) #[] #[.pointer (some ⟨p, 0, none⟩)]) w := fun _ _ => by kernel_rfl
  go_enter Try.func15, Try.ntmps15
  go_wp2_with (first | (go_at_call 50; refine (operators64 _).mono ?_; rintro e w1 ⟨rfl, hbe, hfar, hbits⟩) | go_in)
  go_ret2
  exact ⟨rfl, by assumption⟩

/-- What an operator makes of two ints, of two longs. -/
def raw32 (op x y : Int) : Int :=
  if op = 0 then wrap32 (x + y) else if op = 1 then wrap32 (x - y) else if op = 2 then wrap32 (x * y) else if op = 3 then wrap32 (x.tdiv y) else if op = 4 then x.tmod y
  else if op = 5 then bits .and .i32 x y else if op = 6 then bits .or .i32 x y else if op = 7 then bits .xor .i32 x y else if op = 8 then shl32 x y else if op = 9 then shr32 x y else ushr32 x y
def raw64 (op x y : Int) : Int :=
  if op = 0 then wrap64 (x + y) else if op = 1 then wrap64 (x - y) else if op = 2 then wrap64 (x * y) else if op = 3 then wrap64 (x.tdiv y) else if op = 4 then x.tmod y
  else if op = 5 then bits .and .i64 x y else if op = 6 then bits .or .i64 x y else if op = 7 then bits .xor .i64 x y else if op = 8 then shl64 x y else if op = 9 then shr64 x y else ushr64 x y
def wrapOf (kind a : Int) : Int := if kind = 1 then wrap32 a else if kind = 2 then a else 0
def binB (kind op b : Int) : Bool := decide ((kind = 1 ∨ kind = 2) ∧ 0 ≤ op ∧ op ≤ 10 ∧ ¬ ((op = 3 ∨ op = 4) ∧ wrapOf kind b = 0))
def binV (kind op a b : Int) : Int := if binB kind op b = true then (if kind = 1 then raw32 op (wrap32 a) (wrap32 b) else raw64 op a b) else 0

set_option maxHeartbeats 400000 in
theorem bin_nokind (kind op a b : Int) (h1 : ¬ kind = 1) (h2 : ¬ kind = 2) (w : World) :
    Calls Try.prog 15 #[.int .i64 kind, .int .i64 op, .int .i64 a, .int .i64 b] w fun e w' => e = .returned (.tuple #[.int .i64 0, .bool false]) ∧ Below w.heap.size w w' := by
  have g1 : (kind != 1) = true := by simpa using h1
  have g2 : (kind != 2) = true := by simpa using h2
  go_enter Try.func15, Try.ntmps15
  go_wp2
  go_ret2
  exact ⟨rfl, Below.refl _ _⟩
set_option maxHeartbeats 400000 in
theorem bin_noop (kind op a b : Int) (hk : kind = 1 ∨ kind = 2) (h : op < 0 ∨ 10 < op) (w : World) :
    Calls Try.prog 15 #[.int .i64 kind, .int .i64 op, .int .i64 a, .int .i64 b] w fun e w' => e = .returned (.tuple #[.int .i64 0, .bool false]) ∧ Below w.heap.size w w' := by
  rcases hk with rfl | rfl <;> rcases h with h | h
  all_goals
    go_enter Try.func15, Try.ntmps15
    go_wp2
    go_ret2
    exact ⟨rfl, Below.refl _ _⟩
set_option maxHeartbeats 400000 in
theorem bin_zero32 (op a b : Int) (ho : op = 3 ∨ op = 4) (h : wrap32 b = 0) (w : World) :
    Calls Try.prog 15 #[.int .i64 1, .int .i64 op, .int .i64 a, .int .i64 b] w fun e w' => e = .returned (.tuple #[.int .i64 0, .bool false]) ∧ Below w.heap.size w w' := by
  rcases ho with rfl | rfl
  all_goals
    go_enter Try.func15, Try.ntmps15
    go_wp2
    go_ret2
    exact ⟨rfl, Below.refl _ _⟩
set_option maxHeartbeats 400000 in
theorem bin_zero64 (op a : Int) (ho : op = 3 ∨ op = 4) (w : World) :
    Calls Try.prog 15 #[.int .i64 2, .int .i64 op, .int .i64 a, .int .i64 0] w fun e w' => e = .returned (.tuple #[.int .i64 0, .bool false]) ∧ Below w.heap.size w w' := by
  rcases ho with rfl | rfl
  all_goals
    go_enter Try.func15, Try.ntmps15
    go_wp2
    go_ret2
    exact ⟨rfl, Below.refl _ _⟩

/-- heap.Bin, of all kinds, operators and numbers. -/
theorem Bin_any (kind op a b : Int) (ha : -9223372036854775808 ≤ a ∧ a ≤ 9223372036854775807) (hb : -9223372036854775808 ≤ b ∧ b ≤ 9223372036854775807) (w : World) :
    Calls Try.prog 15 #[.int .i64 kind, .int .i64 op, .int .i64 a, .int .i64 b] w fun e w' => e = .returned (.tuple #[.int .i64 (binV kind op a b), .bool (binB kind op b)]) ∧ Below w.heap.size w w' := by
  have no : ∀ {R}, Calls Try.prog 15 #[.int .i64 kind, .int .i64 op, .int .i64 a, .int .i64 b] w R → binB kind op b = false → (∀ e w', R e w' → e = .returned (.tuple #[.int .i64 0, .bool false]) ∧ Below w.heap.size w w') →
      Calls Try.prog 15 #[.int .i64 kind, .int .i64 op, .int .i64 a, .int .i64 b] w fun e w' => e = .returned (.tuple #[.int .i64 (binV kind op a b), .bool (binB kind op b)]) ∧ Below w.heap.size w w' := by
    intro R h hB hR
    have hV : binV kind op a b = 0 := by unfold binV; rw [hB]; rfl
    rw [hV, hB]
    exact h.mono hR
  by_cases hk : kind = 1 ∨ kind = 2
  · by_cases ho : op < 0 ∨ 10 < op
    · refine no (bin_noop kind op a b hk ho w) ?_ (fun _ _ h => h)
      unfold binB; exact decide_eq_false (by omega)
    · by_cases hz : (op = 3 ∨ op = 4) ∧ wrapOf kind b = 0
      · have hB : binB kind op b = false := by unfold binB; exact decide_eq_false (by omega)
        rcases hk with rfl | rfl
        · exact no (bin_zero32 op a b hz.1 (by have := hz.2; unfold wrapOf at this; simpa using this) w) hB (fun _ _ h => h)
        · obtain rfl : b = 0 := by have := hz.2; unfold wrapOf at this; simpa using this
          exact no (bin_zero64 op a hz.1 w) hB (fun _ _ h => h)
      · have hB : binB kind op b = true := by unfold binB; exact decide_eq_true (by omega)
        have hop : op = 0 ∨ op = 1 ∨ op = 2 ∨ op = 3 ∨ op = 4 ∨ op = 5 ∨ op = 6 ∨ op = 7 ∨ op = 8 ∨ op = 9 ∨ op = 10 := by omega
        have hV : binV kind op a b = if kind = 1 then raw32 op (wrap32 a) (wrap32 b) else raw64 op a b := by unfold binV; rw [hB]; rfl
        rw [hV, hB]
        clear no hV hB ho
        rcases hk with rfl | rfl
        · have z : (op = 3 ∨ op = 4) → ¬ wrap32 b = 0 := fun h e => hz ⟨h, by unfold wrapOf; simpa using e⟩
          rcases hop with rfl | rfl | rfl | rfl | rfl | rfl | rfl | rfl | rfl | rfl | rfl
          · exact bin32_0 a b w
          · exact bin32_1 a b w
          · exact bin32_2 a b w
          · exact bin32_3 a b (z (by simp)) w
          · exact bin32_4 a b (z (by simp)) w
          · exact bin32_5 a b w
          · exact bin32_6 a b w
          · exact bin32_7 a b w
          · exact bin32_8 a b w
          · exact bin32_9 a b w
          · exact bin32_10 a b w
        · have z : (op = 3 ∨ op = 4) → ¬ b = 0 := fun h e => hz ⟨h, by unfold wrapOf; simpa using e⟩
          rcases hop with rfl | rfl | rfl | rfl | rfl | rfl | rfl | rfl | rfl | rfl | rfl
          · exact bin64_0 a b ha hb w
          · exact bin64_1 a b ha hb w
          · exact bin64_2 a b ha hb w
          · exact bin64_3 a b ha hb (z (by simp)) w
          · exact bin64_4 a b ha hb (z (by simp)) w
          · exact bin64_5 a b ha hb w
          · exact bin64_6 a b ha hb w
          · exact bin64_7 a b ha hb w
          · exact bin64_8 a b ha hb w
          · exact bin64_9 a b ha hb w
          · exact bin64_10 a b ha hb w
  · refine no (bin_nokind kind op a b (fun h => hk (.inl h)) (fun h => hk (.inr h)) w) ?_ (fun _ _ h => h)
    unfold binB; exact decide_eq_false (by omega)
end Go.Proofs.Ytdelikjodacedaa
