/- HeapOrder: the walk: of any two numbers the function returns true and leaves what was there. -/
import Derived.Test.YtdelikjodacedaaWorks
namespace Go.Proofs.Ytdelikjodacedaa
open Go.RowKit
theorem cmp_is (a b c : Int) (h : cmpF a b = c) (w : World) : Calls Try.prog 24 #[.int .i64 a, .int .i64 b] w fun e w' => e = .returned (.int .i64 c) ∧ w = w' := by
  have := Cmp_any a b w; rw [h] at this; exact this
theorem test_is (how a b : Int) (t : Bool) (h : testF how a b = t) (w : World) : Calls Try.prog 26 #[.int .i64 how, .int .i64 a, .int .i64 b] w fun e w' => e = .returned (.bool t) ∧ w = w' := by
  have := Test_any how a b w; rw [h] at this; exact this
theorem cmp_lt {a b : Int} (h : a < b) : cmpF a b = -1 := by unfold cmpF; rw [if_pos h]
theorem cmp_gt {a b : Int} (h : b < a) : cmpF a b = 1 := by unfold cmpF; rw [if_neg (by omega), if_pos h]
theorem cmp_eq (a : Int) : cmpF a a = 0 := by unfold cmpF; rw [if_neg (by omega), if_neg (by omega)]

set_option maxHeartbeats 1000000 in
theorem order_lt (a b : Int) (h : a < b) (w : World) : Calls Try.prog 9 #[.int .i64 a, .int .i64 b] w fun e w' => e = .returned (.bool true) ∧ Below w.heap.size w w' := by
  have C1 := Lib.hid (cmp_is a b (-1) (cmp_lt h))
  have C2 := Lib.hid (cmp_is b a 1 (cmp_gt h))
  have C3 := Lib.hid (cmp_is a a 0 (cmp_eq a))
  have T : ∀ how t, testC how (-1) = t → ∀ w, Calls Try.prog 26 #[.int .i64 how, .int .i64 a, .int .i64 b] w fun e w' => e = .returned (.bool t) ∧ w = w' := fun how t ht => test_is how a b t (by rw [← testC_eq, cmp_lt h]; exact ht)
  have T0 := Lib.hid (T 0 false rfl)
  have T1 := Lib.hid (T 1 true rfl)
  have T2 := Lib.hid (T 2 true rfl)
  have T3 := Lib.hid (T 3 false rfl)
  have T4 := Lib.hid (T 4 false rfl)
  have T5 := Lib.hid (T 5 true rfl)
  clear T
  go_enter Try.func9, Try.ntmps9
  go_wp2_with (first
    | (go_at_call 13; refine (works_any _).mono ?_; rintro e w' ⟨rfl, hw'⟩)
    | (go_at_call 24; (with_reducible refine (C1.out _).mono ?_); rintro e w' ⟨rfl, rfl⟩)
    | (go_at_call 24; (with_reducible refine (C2.out _).mono ?_); rintro e w' ⟨rfl, rfl⟩)
    | (go_at_call 24; (with_reducible refine (C3.out _).mono ?_); rintro e w' ⟨rfl, rfl⟩)
    | (go_at_call 26; (with_reducible refine (T0.out _).mono ?_); rintro e w' ⟨rfl, rfl⟩)
    | (go_at_call 26; (with_reducible refine (T1.out _).mono ?_); rintro e w' ⟨rfl, rfl⟩)
    | (go_at_call 26; (with_reducible refine (T2.out _).mono ?_); rintro e w' ⟨rfl, rfl⟩)
    | (go_at_call 26; (with_reducible refine (T3.out _).mono ?_); rintro e w' ⟨rfl, rfl⟩)
    | (go_at_call 26; (with_reducible refine (T4.out _).mono ?_); rintro e w' ⟨rfl, rfl⟩)
    | (go_at_call 26; (with_reducible refine (T5.out _).mono ?_); rintro e w' ⟨rfl, rfl⟩))
  go_ret
  exact ⟨rfl, by assumption⟩
set_option maxHeartbeats 1000000 in
theorem order_gt (a b : Int) (h : b < a) (w : World) : Calls Try.prog 9 #[.int .i64 a, .int .i64 b] w fun e w' => e = .returned (.bool true) ∧ Below w.heap.size w w' := by
  have C1 := Lib.hid (cmp_is a b (1) (cmp_gt h))
  have C2 := Lib.hid (cmp_is b a (-1) (cmp_lt h))
  have C3 := Lib.hid (cmp_is a a 0 (cmp_eq a))
  have T : ∀ how t, testC how (1) = t → ∀ w, Calls Try.prog 26 #[.int .i64 how, .int .i64 a, .int .i64 b] w fun e w' => e = .returned (.bool t) ∧ w = w' := fun how t ht => test_is how a b t (by rw [← testC_eq, cmp_gt h]; exact ht)
  have T0 := Lib.hid (T 0 false rfl)
  have T1 := Lib.hid (T 1 true rfl)
  have T2 := Lib.hid (T 2 false rfl)
  have T3 := Lib.hid (T 3 true rfl)
  have T4 := Lib.hid (T 4 true rfl)
  have T5 := Lib.hid (T 5 false rfl)
  clear T
  have d : decide (a < b) = false := decide_eq_false (by omega)
  go_enter Try.func9, Try.ntmps9
  go_wp2_with (first
    | (go_at_call 13; refine (works_any _).mono ?_; rintro e w' ⟨rfl, hw'⟩)
    | (go_at_call 24; (with_reducible refine (C1.out _).mono ?_); rintro e w' ⟨rfl, rfl⟩)
    | (go_at_call 24; (with_reducible refine (C2.out _).mono ?_); rintro e w' ⟨rfl, rfl⟩)
    | (go_at_call 24; (with_reducible refine (C3.out _).mono ?_); rintro e w' ⟨rfl, rfl⟩)
    | (go_at_call 26; (with_reducible refine (T0.out _).mono ?_); rintro e w' ⟨rfl, rfl⟩)
    | (go_at_call 26; (with_reducible refine (T1.out _).mono ?_); rintro e w' ⟨rfl, rfl⟩)
    | (go_at_call 26; (with_reducible refine (T2.out _).mono ?_); rintro e w' ⟨rfl, rfl⟩)
    | (go_at_call 26; (with_reducible refine (T3.out _).mono ?_); rintro e w' ⟨rfl, rfl⟩)
    | (go_at_call 26; (with_reducible refine (T4.out _).mono ?_); rintro e w' ⟨rfl, rfl⟩)
    | (go_at_call 26; (with_reducible refine (T5.out _).mono ?_); rintro e w' ⟨rfl, rfl⟩))
  go_ret
  exact ⟨rfl, by assumption⟩
set_option maxHeartbeats 1000000 in
theorem order_eq (a : Int) (w : World) : Calls Try.prog 9 #[.int .i64 a, .int .i64 a] w fun e w' => e = .returned (.bool true) ∧ Below w.heap.size w w' := by
  have C1 := Lib.hid (cmp_is a a (0) (cmp_eq a))
  have T : ∀ how t, testC how (0) = t → ∀ w, Calls Try.prog 26 #[.int .i64 how, .int .i64 a, .int .i64 a] w fun e w' => e = .returned (.bool t) ∧ w = w' := fun how t ht => test_is how a a t (by rw [← testC_eq, cmp_eq a]; exact ht)
  have T0 := Lib.hid (T 0 true rfl)
  have T1 := Lib.hid (T 1 false rfl)
  have T2 := Lib.hid (T 2 false rfl)
  have T3 := Lib.hid (T 3 true rfl)
  have T4 := Lib.hid (T 4 false rfl)
  have T5 := Lib.hid (T 5 true rfl)
  clear T
  go_enter Try.func9, Try.ntmps9
  go_wp2_with (first
    | (go_at_call 13; refine (works_any _).mono ?_; rintro e w' ⟨rfl, hw'⟩)
    | (go_at_call 24; (with_reducible refine (C1.out _).mono ?_); rintro e w' ⟨rfl, rfl⟩)
    | (go_at_call 26; (with_reducible refine (T0.out _).mono ?_); rintro e w' ⟨rfl, rfl⟩)
    | (go_at_call 26; (with_reducible refine (T1.out _).mono ?_); rintro e w' ⟨rfl, rfl⟩)
    | (go_at_call 26; (with_reducible refine (T2.out _).mono ?_); rintro e w' ⟨rfl, rfl⟩)
    | (go_at_call 26; (with_reducible refine (T3.out _).mono ?_); rintro e w' ⟨rfl, rfl⟩)
    | (go_at_call 26; (with_reducible refine (T4.out _).mono ?_); rintro e w' ⟨rfl, rfl⟩)
    | (go_at_call 26; (with_reducible refine (T5.out _).mono ?_); rintro e w' ⟨rfl, rfl⟩))
  go_ret
  exact ⟨rfl, by assumption⟩
/-- HeapOrder returns true, whatever it is handed. -/
theorem HeapOrder_walk (a b : Int) (w : World) : Calls Try.prog 9 #[.int .i64 a, .int .i64 b] w fun e w' => e = .returned (.bool true) ∧ Below w.heap.size w w' := by
  rcases Int.lt_trichotomy a b with h | rfl | h
  · exact order_lt a b h w
  · exact order_eq a w
  · exact order_gt a b h w
end Go.Proofs.Ytdelikjodacedaa
