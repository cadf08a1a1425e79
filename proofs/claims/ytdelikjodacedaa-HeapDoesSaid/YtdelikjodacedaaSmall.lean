/- The small functions, by contract: Wrap, Neg, Conv, Cmp, Test, Bring, of, bin, long. -/
import Derived.Test.YtdelikjodacedaaBin
namespace Go.Proofs.Ytdelikjodacedaa
open Go.RowKit

set_option maxHeartbeats 400000 in
theorem Wrap_any (kind a : Int) (w : World) : Calls Try.prog 14 #[.int .i64 kind, .int .i64 a] w fun e w' => e = .returned (.int .i64 (wrapOf kind a)) ∧ w = w' := by
  by_cases h1 : kind = 1
  · subst h1
    obtain ⟨b1, b2⟩ := wrap32_bd a
    go_enter Try.func14, Try.ntmps14
    go_wp2
    go_ret
    exact ⟨rfl, rfl⟩
  · by_cases h2 : kind = 2
    · subst h2
      go_enter Try.func14, Try.ntmps14
      go_wp2
      go_ret
      exact ⟨rfl, rfl⟩
    · have e : wrapOf kind a = 0 := by unfold wrapOf; rw [if_neg h1, if_neg h2]
      have g1 : (kind == 1) = false := by simpa using h1
      have g2 : (kind == 2) = false := by simpa using h2
      rw [e]
      clear e
      go_enter Try.func14, Try.ntmps14
      go_wp2
      go_ret
      exact ⟨rfl, rfl⟩

set_option maxHeartbeats 400000 in
theorem Neg_any (kind a : Int) (w : World) : Calls Try.prog 20 #[.int .i64 kind, .int .i64 a] w fun e w' => e = .returned (.int .i64 (wrapOf kind (wrap64 (-a)))) ∧ w = w' := by
  have K := fun x => Wrap_any kind x w
  go_enter Try.func20, Try.ntmps20
  go_wp2_with (go_at_call 14; refine (K _).mono ?_; rintro e w' ⟨rfl, rfl⟩)
  go_ret
  exact ⟨rfl, rfl⟩

theorem ret_int {k : IntKind} {a b : Int} (h : a = b) : Ending.returned (.int k a) = .returned (.int k b) := by rw [h]
theorem wrap_i8 (n : Int) : IntKind.i8.wrap n = (n + 128) % 256 - 128 := by
  simp [IntKind.wrap, IntKind.bits, IntKind.signed]
  split <;> omega
theorem wrap_i16 (n : Int) : IntKind.i16.wrap n = (n + 32768) % 65536 - 32768 := by
  simp [IntKind.wrap, IntKind.bits, IntKind.signed]
  split <;> omega
theorem conv8 (a : Int) : wrap64 (IntKind.i8.wrap a) = (a + 128) % 256 - 128 := by rw [wrap_i8]; unfold wrap64; omega
theorem conv16 (a : Int) : wrap64 (IntKind.i16.wrap a) = (a + 32768) % 65536 - 32768 := by rw [wrap_i16]; unfold wrap64; omega
theorem convc (a : Int) : wrap64 (IntKind.u16.wrap a) = a % 65536 := by rw [IntKind.wrap_u16]; unfold wrap64; omega
def convF (how a : Int) : Int :=
  if how = 0 ∨ how = 1 then wrap32 a else if how = 2 then (a + 128) % 256 - 128 else if how = 3 then a % 65536 else if how = 4 then (a + 32768) % 65536 - 32768 else 0
set_option maxHeartbeats 400000 in
theorem Conv_any (how a : Int) (w : World) : Calls Try.prog 18 #[.int .i64 how, .int .i64 a] w fun e w' => e = .returned (.int .i64 (convF how a)) ∧ w = w' := by
  by_cases h0 : how = 0
  · subst h0
    obtain ⟨b1, b2⟩ := wrap32_bd a
    go_enter Try.func18, Try.ntmps18
    go_wp2
    go_ret
    exact ⟨rfl, rfl⟩
  by_cases h1 : how = 1
  · subst h1
    obtain ⟨b1, b2⟩ := wrap32_bd a
    go_enter Try.func18, Try.ntmps18
    go_wp2
    go_ret
    exact ⟨rfl, rfl⟩
  by_cases h2 : how = 2
  · subst h2
    go_enter Try.func18, Try.ntmps18
    go_wp2
    go_ret
    exact ⟨ret_int (conv8 a), rfl⟩
  by_cases h3 : how = 3
  · subst h3
    go_enter Try.func18, Try.ntmps18
    go_wp2
    go_ret
    exact ⟨ret_int (convc a), rfl⟩
  by_cases h4 : how = 4
  · subst h4
    go_enter Try.func18, Try.ntmps18
    go_wp2
    go_ret
    exact ⟨ret_int (conv16 a), rfl⟩
  have e : convF how a = 0 := by unfold convF; rw [if_neg (by omega), if_neg h2, if_neg h3, if_neg h4]
  have g0 : (how == 0) = false := by simpa using h0
  have g1 : (how == 1) = false := by simpa using h1
  have g2 : (how == 2) = false := by simpa using h2
  have g3 : (how == 3) = false := by simpa using h3
  have g4 : (how == 4) = false := by simpa using h4
  rw [e]
  clear e
  go_enter Try.func18, Try.ntmps18
  go_wp2
  go_ret
  exact ⟨rfl, rfl⟩

def cmpF (a b : Int) : Int := if a < b then -1 else if b < a then 1 else 0
set_option maxHeartbeats 400000 in
theorem Cmp_any (a b : Int) (w : World) : Calls Try.prog 24 #[.int .i64 a, .int .i64 b] w fun e w' => e = .returned (.int .i64 (cmpF a b)) ∧ w = w' := by
  by_cases h1 : a < b
  · have e : cmpF a b = -1 := by unfold cmpF; rw [if_pos h1]
    rw [e]; clear e
    go_enter Try.func24, Try.ntmps24
    go_wp2
    go_ret
    exact ⟨rfl, rfl⟩
  · by_cases h2 : b < a
    · have e : cmpF a b = 1 := by unfold cmpF; rw [if_neg h1, if_pos h2]
      rw [e]; clear e
      go_enter Try.func24, Try.ntmps24
      go_wp2
      go_ret
      exact ⟨rfl, rfl⟩
    · have e : cmpF a b = 0 := by unfold cmpF; rw [if_neg h1, if_neg h2]
      rw [e]; clear e
      go_enter Try.func24, Try.ntmps24
      go_wp2
      go_ret
      exact ⟨rfl, rfl⟩

def testF (how a b : Int) : Bool :=
  if how = 0 then decide (a = b) else if how = 1 then !decide (a = b) else if how = 2 then decide (a < b) else if how = 3 then decide (b ≤ a) else if how = 4 then decide (b < a) else if how = 5 then decide (a ≤ b) else false
def testC (how c : Int) : Bool :=
  if how = 0 then c == 0 else if how = 1 then c != 0 else if how = 2 then decide (c < 0) else if how = 3 then decide (0 ≤ c) else if how = 4 then decide (0 < c) else if how = 5 then decide (c ≤ 0) else false
theorem testC_eq (how a b : Int) : testC how (cmpF a b) = testF how a b := by
  unfold testC testF cmpF
  rcases Int.lt_trichotomy a b with h | h | h
  · rw [if_pos h]
    have h1 : ¬ a = b := by omega
    have h2 : ¬ b ≤ a := by omega
    have h3 : ¬ b < a := by omega
    have h4 : a ≤ b := by omega
    simp [h, h1, h2, h3, h4]
  · subst h; simp
  · have h0 : ¬ a < b := by omega
    have h1 : ¬ a = b := by omega
    have h2 : b ≤ a := by omega
    have h4 : ¬ a ≤ b := by omega
    simp [h, h0, h1, h2, h4]
set_option maxHeartbeats 400000 in
theorem Test_any (how a b : Int) (w : World) : Calls Try.prog 26 #[.int .i64 how, .int .i64 a, .int .i64 b] w fun e w' => e = .returned (.bool (testF how a b)) ∧ w = w' := by
  have K := Cmp_any a b w
  rw [← testC_eq]
  generalize cmpF a b = c at *
  by_cases h0 : how = 0
  · subst h0
    go_enter Try.func26, Try.ntmps26
    go_wp2_with (go_at_call 24; refine K.mono ?_; rintro e w' ⟨rfl, rfl⟩)
    go_ret
    exact ⟨rfl, rfl⟩
  by_cases h1 : how = 1
  · subst h1
    go_enter Try.func26, Try.ntmps26
    go_wp2_with (go_at_call 24; refine K.mono ?_; rintro e w' ⟨rfl, rfl⟩)
    go_ret
    exact ⟨rfl, rfl⟩
  by_cases h2 : how = 2
  · subst h2
    go_enter Try.func26, Try.ntmps26
    go_wp2_with (go_at_call 24; refine K.mono ?_; rintro e w' ⟨rfl, rfl⟩)
    go_ret
    exact ⟨rfl, rfl⟩
  by_cases h3 : how = 3
  · subst h3
    go_enter Try.func26, Try.ntmps26
    go_wp2_with (go_at_call 24; refine K.mono ?_; rintro e w' ⟨rfl, rfl⟩)
    go_ret
    exact ⟨rfl, rfl⟩
  by_cases h4 : how = 4
  · subst h4
    go_enter Try.func26, Try.ntmps26
    go_wp2_with (go_at_call 24; refine K.mono ?_; rintro e w' ⟨rfl, rfl⟩)
    go_ret
    exact ⟨rfl, rfl⟩
  by_cases h5 : how = 5
  · subst h5
    go_enter Try.func26, Try.ntmps26
    go_wp2_with (go_at_call 24; refine K.mono ?_; rintro e w' ⟨rfl, rfl⟩)
    go_ret
    exact ⟨rfl, rfl⟩
  have e : testC how c = false := by unfold testC; rw [if_neg h0, if_neg h1, if_neg h2, if_neg h3, if_neg h4, if_neg h5]
  have g0 : (how == 0) = false := by simpa using h0
  have g1 : (how == 1) = false := by simpa using h1
  have g2 : (how == 2) = false := by simpa using h2
  have g3 : (how == 3) = false := by simpa using h3
  have g4 : (how == 4) = false := by simpa using h4
  have g5 : (how == 5) = false := by simpa using h5
  rw [e]
  clear e
  go_enter Try.func26, Try.ntmps26
  go_wp2_with (go_at_call 24; refine K.mono ?_; rintro e w' ⟨rfl, rfl⟩)
  go_ret
  exact ⟨rfl, rfl⟩
end Go.Proofs.Ytdelikjodacedaa
