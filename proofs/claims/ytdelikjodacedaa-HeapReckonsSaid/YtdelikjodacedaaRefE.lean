/- The document's answer for operators, whole: Bin and Neg of warpbeamref15, of all kinds, operators and numbers. -/
import Derived.Test.YtdelikjodacedaaRefD
namespace Go.Proofs.Ytdelikjodacedaa
open Go.RowKit

set_option maxHeartbeats 1000000 in
theorem rbin32_8 (a b x y : Int) (hx : wrapOf 1 a = x) (hy : wrapOf 1 b = y) (bx : -2147483648 ≤ x ∧ x ≤ 2147483647) (w : World) :
    Calls Try.prog 19 #[.int .i64 1, .int .i64 8, .int .i64 a, .int .i64 b] w (RetQ (.tuple #[.int .i64 (shl32 x y), .bool true]) w) := by
  have S := size_any 1 w
  rw [show sizeF 1 = 32 from rfl] at S
  have W1 := rWrap_any 1 a w
  rw [hx] at W1
  have W2 := rWrap_any 1 b w
  rw [hy] at W2
  have HS := Lib.hid S
  have HW1 := Lib.hid W1
  have HW2 := Lib.hid W2
  have SH := Lib.hid (shift32_8 x y bx w)
  clear S W1 W2 hx hy bx
  go_enter Try.func19, Try.ntmps19
  go_wp2_with (first
    | (go_at_call 51; refine HS.out.mono ?_; rintro e w' ⟨rfl, rfl⟩)
    | (go_at_call 22; (with_reducible refine HW1.out.mono ?_); rintro e w' ⟨rfl, rfl⟩)
    | (go_at_call 22; (with_reducible refine HW2.out.mono ?_); rintro e w' ⟨rfl, rfl⟩)
    | (go_at_call 52; refine SH.out.mono ?_; rintro e w' ⟨rfl, rfl⟩))
  go_ret2
  exact ⟨rfl, 0, rfl⟩

set_option maxHeartbeats 1000000 in
theorem rbin32_9 (a b x y : Int) (hx : wrapOf 1 a = x) (hy : wrapOf 1 b = y) (bx : -2147483648 ≤ x ∧ x ≤ 2147483647) (w : World) :
    Calls Try.prog 19 #[.int .i64 1, .int .i64 9, .int .i64 a, .int .i64 b] w (RetQ (.tuple #[.int .i64 (shr32 x y), .bool true]) w) := by
  have S := size_any 1 w
  rw [show sizeF 1 = 32 from rfl] at S
  have W1 := rWrap_any 1 a w
  rw [hx] at W1
  have W2 := rWrap_any 1 b w
  rw [hy] at W2
  have HS := Lib.hid S
  have HW1 := Lib.hid W1
  have HW2 := Lib.hid W2
  have SH := Lib.hid (shift32_9 x y bx w)
  clear S W1 W2 hx hy bx
  go_enter Try.func19, Try.ntmps19
  go_wp2_with (first
    | (go_at_call 51; refine HS.out.mono ?_; rintro e w' ⟨rfl, rfl⟩)
    | (go_at_call 22; (with_reducible refine HW1.out.mono ?_); rintro e w' ⟨rfl, rfl⟩)
    | (go_at_call 22; (with_reducible refine HW2.out.mono ?_); rintro e w' ⟨rfl, rfl⟩)
    | (go_at_call 52; refine SH.out.mono ?_; rintro e w' ⟨rfl, rfl⟩))
  go_ret2
  exact ⟨rfl, 0, rfl⟩

set_option maxHeartbeats 1000000 in
theorem rbin32_10 (a b x y : Int) (hx : wrapOf 1 a = x) (hy : wrapOf 1 b = y) (bx : -2147483648 ≤ x ∧ x ≤ 2147483647) (w : World) :
    Calls Try.prog 19 #[.int .i64 1, .int .i64 10, .int .i64 a, .int .i64 b] w (RetQ (.tuple #[.int .i64 (ushr32 x y), .bool true]) w) := by
  have S := size_any 1 w
  rw [show sizeF 1 = 32 from rfl] at S
  have W1 := rWrap_any 1 a w
  rw [hx] at W1
  have W2 := rWrap_any 1 b w
  rw [hy] at W2
  have HS := Lib.hid S
  have HW1 := Lib.hid W1
  have HW2 := Lib.hid W2
  have SH := Lib.hid (shift32_10 x y bx w)
  clear S W1 W2 hx hy bx
  go_enter Try.func19, Try.ntmps19
  go_wp2_with (first
    | (go_at_call 51; refine HS.out.mono ?_; rintro e w' ⟨rfl, rfl⟩)
    | (go_at_call 22; (with_reducible refine HW1.out.mono ?_); rintro e w' ⟨rfl, rfl⟩)
    | (go_at_call 22; (with_reducible refine HW2.out.mono ?_); rintro e w' ⟨rfl, rfl⟩)
    | (go_at_call 52; refine SH.out.mono ?_; rintro e w' ⟨rfl, rfl⟩))
  go_ret2
  exact ⟨rfl, 0, rfl⟩

set_option maxHeartbeats 1000000 in
theorem rbin64_8 (a b x y : Int) (hx : wrapOf 2 a = x) (hy : wrapOf 1 b = y) (bx : -9223372036854775808 ≤ x ∧ x ≤ 9223372036854775807) (w : World) :
    Calls Try.prog 19 #[.int .i64 2, .int .i64 8, .int .i64 a, .int .i64 b] w (RetQ (.tuple #[.int .i64 (shl64 x y), .bool true]) w) := by
  have S := size_any 2 w
  rw [show sizeF 2 = 64 from rfl] at S
  have W1 := rWrap_any 2 a w
  rw [hx] at W1
  have W2 := rWrap_any 1 b w
  rw [hy] at W2
  have HS := Lib.hid S
  have HW1 := Lib.hid W1
  have HW2 := Lib.hid W2
  have SH := Lib.hid (shift64_8 x y bx w)
  clear S W1 W2 hx hy bx
  go_enter Try.func19, Try.ntmps19
  go_wp2_with (first
    | (go_at_call 51; refine HS.out.mono ?_; rintro e w' ⟨rfl, rfl⟩)
    | (go_at_call 22; (with_reducible refine HW1.out.mono ?_); rintro e w' ⟨rfl, rfl⟩)
    | (go_at_call 22; (with_reducible refine HW2.out.mono ?_); rintro e w' ⟨rfl, rfl⟩)
    | (go_at_call 52; refine SH.out.mono ?_; rintro e w' ⟨rfl, rfl⟩))
  go_ret2
  exact ⟨rfl, 0, rfl⟩

set_option maxHeartbeats 1000000 in
theorem rbin64_9 (a b x y : Int) (hx : wrapOf 2 a = x) (hy : wrapOf 1 b = y) (bx : -9223372036854775808 ≤ x ∧ x ≤ 9223372036854775807) (w : World) :
    Calls Try.prog 19 #[.int .i64 2, .int .i64 9, .int .i64 a, .int .i64 b] w (RetQ (.tuple #[.int .i64 (shr64 x y), .bool true]) w) := by
  have S := size_any 2 w
  rw [show sizeF 2 = 64 from rfl] at S
  have W1 := rWrap_any 2 a w
  rw [hx] at W1
  have W2 := rWrap_any 1 b w
  rw [hy] at W2
  have HS := Lib.hid S
  have HW1 := Lib.hid W1
  have HW2 := Lib.hid W2
  have SH := Lib.hid (shift64_9 x y bx w)
  clear S W1 W2 hx hy bx
  go_enter Try.func19, Try.ntmps19
  go_wp2_with (first
    | (go_at_call 51; refine HS.out.mono ?_; rintro e w' ⟨rfl, rfl⟩)
    | (go_at_call 22; (with_reducible refine HW1.out.mono ?_); rintro e w' ⟨rfl, rfl⟩)
    | (go_at_call 22; (with_reducible refine HW2.out.mono ?_); rintro e w' ⟨rfl, rfl⟩)
    | (go_at_call 52; refine SH.out.mono ?_; rintro e w' ⟨rfl, rfl⟩))
  go_ret2
  exact ⟨rfl, 0, rfl⟩

set_option maxHeartbeats 1000000 in
theorem rbin64_10 (a b x y : Int) (hx : wrapOf 2 a = x) (hy : wrapOf 1 b = y) (bx : -9223372036854775808 ≤ x ∧ x ≤ 9223372036854775807) (w : World) :
    Calls Try.prog 19 #[.int .i64 2, .int .i64 10, .int .i64 a, .int .i64 b] w (RetQ (.tuple #[.int .i64 (ushr64 x y), .bool true]) w) := by
  have S := size_any 2 w
  rw [show sizeF 2 = 64 from rfl] at S
  have W1 := rWrap_any 2 a w
  rw [hx] at W1
  have W2 := rWrap_any 1 b w
  rw [hy] at W2
  have HS := Lib.hid S
  have HW1 := Lib.hid W1
  have HW2 := Lib.hid W2
  have SH := Lib.hid (shift64_10 x y bx w)
  clear S W1 W2 hx hy bx
  go_enter Try.func19, Try.ntmps19
  go_wp2_with (first
    | (go_at_call 51; refine HS.out.mono ?_; rintro e w' ⟨rfl, rfl⟩)
    | (go_at_call 22; (with_reducible refine HW1.out.mono ?_); rintro e w' ⟨rfl, rfl⟩)
    | (go_at_call 22; (with_reducible refine HW2.out.mono ?_); rintro e w' ⟨rfl, rfl⟩)
    | (go_at_call 52; refine SH.out.mono ?_; rintro e w' ⟨rfl, rfl⟩))
  go_ret2
  exact ⟨rfl, 0, rfl⟩

set_option maxHeartbeats 400000 in
theorem rbin_nokind (kind op a b : Int) (h1 : ¬ kind = 1) (h2 : ¬ kind = 2) (w : World) :
    Calls Try.prog 19 #[.int .i64 kind, .int .i64 op, .int .i64 a, .int .i64 b] w (RetQ (.tuple #[.int .i64 0, .bool false]) w) := by
  have S := size_any kind w
  rw [show sizeF kind = 0 by unfold sizeF; rw [if_neg h1, if_neg h2]] at S
  go_enter Try.func19, Try.ntmps19
  go_wp2_with (go_at_call 51; refine S.mono ?_; rintro e w' ⟨rfl, rfl⟩)
  go_ret2
  exact ⟨rfl, 0, rfl⟩
set_option maxHeartbeats 400000 in
theorem rbin_noop (kind op a b : Int) (hk : kind = 1 ∨ kind = 2) (h : op < 0 ∨ 10 < op) (w : World) :
    Calls Try.prog 19 #[.int .i64 kind, .int .i64 op, .int .i64 a, .int .i64 b] w (RetQ (.tuple #[.int .i64 0, .bool false]) w) := by
  have S := size_any kind w
  obtain ⟨n, hn, hs⟩ : ∃ n, (n = 32 ∨ n = 64) ∧ sizeF kind = n := by rcases hk with rfl | rfl; · exact ⟨32, .inl rfl, rfl⟩
                                                                     · exact ⟨64, .inr rfl, rfl⟩
  rw [hs] at S
  clear hs hk
  rcases hn with rfl | rfl <;> rcases h with h | h
  all_goals
    go_enter Try.func19, Try.ntmps19
    go_wp2_with (go_at_call 51; refine S.mono ?_; rintro e w' ⟨rfl, rfl⟩)
    go_ret2
    exact ⟨rfl, 0, rfl⟩
set_option maxHeartbeats 400000 in
theorem rbin_zero (kind op a b x : Int) (hk : kind = 1 ∨ kind = 2) (ho : op = 3 ∨ op = 4) (hx : wrapOf kind a = x) (h : wrapOf kind b = 0) (w : World) :
    Calls Try.prog 19 #[.int .i64 kind, .int .i64 op, .int .i64 a, .int .i64 b] w (RetQ (.tuple #[.int .i64 0, .bool false]) w) := by
  have S := size_any kind w
  obtain ⟨n, hn, hs⟩ : ∃ n, (n = 32 ∨ n = 64) ∧ sizeF kind = n := by rcases hk with rfl | rfl; · exact ⟨32, .inl rfl, rfl⟩
                                                                     · exact ⟨64, .inr rfl, rfl⟩
  rw [hs] at S
  have W1 := rWrap_any kind a w
  rw [hx] at W1
  have W2 := rWrap_any kind b w
  rw [h] at W2
  have HW1 := Lib.hid W1
  have HW2 := Lib.hid W2
  clear hs hk W1 W2 hx h
  rcases hn with rfl | rfl <;> rcases ho with rfl | rfl
  all_goals
    go_enter Try.func19, Try.ntmps19
    go_wp2_with (first
      | (go_at_call 51; refine S.mono ?_; rintro e w' ⟨rfl, rfl⟩)
      | (go_at_call 22; (with_reducible refine HW1.out.mono ?_); rintro e w' ⟨rfl, rfl⟩)
      | (go_at_call 22; (with_reducible refine HW2.out.mono ?_); rintro e w' ⟨rfl, rfl⟩))
    go_ret2
    exact ⟨rfl, 0, rfl⟩
theorem far64 (b : Int) : wrap32 b % 64 = b % 64 := by unfold wrap32; omega

/-- Bin of the reference, of all kinds, operators and numbers. -/
theorem rBin_any (kind op a b : Int) (ha : -9223372036854775808 ≤ a ∧ a ≤ 9223372036854775807) (hb : -9223372036854775808 ≤ b ∧ b ≤ 9223372036854775807) (w : World) :
    Calls Try.prog 19 #[.int .i64 kind, .int .i64 op, .int .i64 a, .int .i64 b] w (RetQ (.tuple #[.int .i64 (binV kind op a b), .bool (binB kind op b)]) w) := by
  have no : Calls Try.prog 19 #[.int .i64 kind, .int .i64 op, .int .i64 a, .int .i64 b] w (RetQ (.tuple #[.int .i64 0, .bool false]) w) → binB kind op b = false →
      Calls Try.prog 19 #[.int .i64 kind, .int .i64 op, .int .i64 a, .int .i64 b] w (RetQ (.tuple #[.int .i64 (binV kind op a b), .bool (binB kind op b)]) w) := by
    intro h hB
    have hV : binV kind op a b = 0 := by unfold binV; rw [hB]; rfl
    rw [hV, hB]
    exact h
  by_cases hk : kind = 1 ∨ kind = 2
  · by_cases ho : op < 0 ∨ 10 < op
    · refine no (rbin_noop kind op a b hk ho w) ?_
      unfold binB; exact decide_eq_false (by omega)
    · by_cases hz : (op = 3 ∨ op = 4) ∧ wrapOf kind b = 0
      · exact no (rbin_zero kind op a b _ hk hz.1 rfl hz.2 w) (by unfold binB; exact decide_eq_false (by omega))
      · have hB : binB kind op b = true := by unfold binB; exact decide_eq_true (by omega)
        have hop : op = 0 ∨ op = 1 ∨ op = 2 ∨ op = 3 ∨ op = 4 ∨ op = 5 ∨ op = 6 ∨ op = 7 ∨ op = 8 ∨ op = 9 ∨ op = 10 := by omega
        have hV : binV kind op a b = if kind = 1 then raw32 op (wrap32 a) (wrap32 b) else raw64 op a b := by unfold binV; rw [hB]; rfl
        rw [hV, hB]
        clear no hV hB ho
        rcases hk with rfl | rfl
        · have z : (op = 3 ∨ op = 4) → ¬ wrap32 b = 0 := fun h e => hz ⟨h, e⟩
          have ba := wrap32_bd a
          have bb := wrap32_bd b
          rcases hop with rfl | rfl | rfl | rfl | rfl | rfl | rfl | rfl | rfl | rfl | rfl
          · exact rbin32_0 a b _ _ rfl rfl ba bb w
          · exact rbin32_1 a b _ _ rfl rfl ba bb w
          · exact rbin32_2 a b _ _ rfl rfl ba bb w
          · exact rbin32_3 a b _ _ rfl rfl ba bb (z (by simp)) w
          · exact rbin32_4 a b _ _ rfl rfl ba bb (z (by simp)) w
          · exact rbin32_5 a b _ _ rfl rfl ba bb w
          · exact rbin32_6 a b _ _ rfl rfl ba bb w
          · exact rbin32_7 a b _ _ rfl rfl ba bb w
          · exact rbin32_8 a b _ _ rfl rfl ba w
          · exact rbin32_9 a b _ _ rfl rfl ba w
          · exact rbin32_10 a b _ _ rfl rfl ba w
        · have z : (op = 3 ∨ op = 4) → ¬ b = 0 := fun h e => hz ⟨h, e⟩
          rcases hop with rfl | rfl | rfl | rfl | rfl | rfl | rfl | rfl | rfl | rfl | rfl
          · exact rbin64_0 a b _ _ rfl rfl ha hb w
          · exact rbin64_1 a b _ _ rfl rfl ha hb w
          · exact rbin64_2 a b _ _ rfl rfl ha hb w
          · exact rbin64_3 a b _ _ rfl rfl ha hb (z (by simp)) w
          · exact rbin64_4 a b _ _ rfl rfl ha hb (z (by simp)) w
          · exact rbin64_5 a b _ _ rfl rfl ha hb w
          · exact rbin64_6 a b _ _ rfl rfl ha hb w
          · exact rbin64_7 a b _ _ rfl rfl ha hb w
          · have e : shl64 a (wrap32 b) = shl64 a b := by unfold shl64; rw [far64]
            have := rbin64_8 a b _ _ rfl rfl ha w
            rw [show wrapOf 1 b = wrap32 b from rfl, show wrapOf 2 a = a from rfl, e] at this
            exact this
          · have e : shr64 a (wrap32 b) = shr64 a b := by unfold shr64; rw [far64]
            have := rbin64_9 a b _ _ rfl rfl ha w
            rw [show wrapOf 1 b = wrap32 b from rfl, show wrapOf 2 a = a from rfl, e] at this
            exact this
          · have e : ushr64 a (wrap32 b) = ushr64 a b := by unfold ushr64; rw [far64]
            have := rbin64_10 a b _ _ rfl rfl ha w
            rw [show wrapOf 1 b = wrap32 b from rfl, show wrapOf 2 a = a from rfl, e] at this
            exact this
  · refine no (rbin_nokind kind op a b (fun h => hk (.inl h)) (fun h => hk (.inr h)) w) ?_
    unfold binB; exact decide_eq_false (by omega)

theorem neg_is (kind a : Int) : binV kind 1 0 a = wrapOf kind (wrap64 (-a)) := by
  by_cases h1 : kind = 1
  · subst h1
    unfold binV
    rw [show binB 1 1 a = true from decide_eq_true ⟨.inl rfl, by omega, by omega, fun h => by omega⟩, if_pos rfl, if_pos rfl, wrapOf_1]
    show wrap32 (wrap32 0 - wrap32 a) = _
    unfold wrap32 wrap64; omega
  · by_cases h2 : kind = 2
    · subst h2
      unfold binV
      rw [show binB 2 1 a = true from decide_eq_true ⟨.inr rfl, by omega, by omega, fun h => by omega⟩, if_pos rfl, if_neg (by decide), wrapOf_2]
      show wrap64 (0 - a) = _
      rw [Int.zero_sub]
    · have hB : binB kind 1 a = false := decide_eq_false (by omega)
      unfold binV
      rw [hB, if_neg (by simp)]
      unfold wrapOf
      rw [if_neg h1, if_neg h2]

set_option maxHeartbeats 1000000 in
theorem sub32_at (a b x y : Int) (hx : wrapOf 1 a = x) (hy : wrapOf 1 b = y) (bx : -2147483648 ≤ x ∧ x ≤ 2147483647) (by_ : -2147483648 ≤ y ∧ y ≤ 2147483647) (w : World) :
    Calls Try.prog 19 #[.int .i64 1, .int .i64 1, .int .i64 a, .int .i64 b] w fun e w' => e = .returned (.tuple #[.int .i64 (wrap32 (x - y)), .bool true]) ∧ w' = w := by
  have R : Hid (wrapOf 1 (wrap64 (IntKind.u64.wrap (IntKind.u64.wrap x - IntKind.u64.wrap y))) = wrap32 (x - y)) := Lib.hid (by rw [wrapOf_1, u_sub, wrap32_of64])
  have S := size_any 1 w
  rw [show sizeF 1 = 32 from rfl] at S
  have W1 := rWrap_any 1 a w
  rw [hx] at W1
  have W2 := rWrap_any 1 b w
  rw [hy] at W2
  have HS := Lib.hid S
  have HW1 := Lib.hid W1
  have HW2 := Lib.hid W2
  clear S W1 W2 hx hy bx by_
  go_enter Try.func19, Try.ntmps19
  go_wp2_with (first
    | (go_at_call 51; refine HS.out.mono ?_; rintro e w' ⟨rfl, rfl⟩)
    | (go_at_call 22; (with_reducible refine HW1.out.mono ?_); rintro e w' ⟨rfl, rfl⟩)
    | (go_at_call 22; (with_reducible refine HW2.out.mono ?_); rintro e w' ⟨rfl, rfl⟩)
    | (go_at_call 22; refine (rWrap_any _ _ _).mono ?_; rintro e w' ⟨rfl, rfl⟩))
  go_ret2
  exact ⟨ret_ok R.out, rfl⟩

theorem sub32_still (a : Int) (ha : -9223372036854775808 ≤ a ∧ a ≤ 9223372036854775807) (w : World) :
    Calls Try.prog 19 #[.int .i64 1, .int .i64 1, .int .i64 0, .int .i64 a] w fun e w' => e = .returned (.tuple #[.int .i64 (wrapOf 1 (wrap64 (-a))), .bool true]) ∧ w' = w := by
  have e : wrap32 (wrap32 0 - wrap32 a) = wrapOf 1 (wrap64 (-a)) := by rw [wrapOf_1]; unfold wrap32 wrap64; omega
  rw [← e]
  exact sub32_at 0 a (wrap32 0) (wrap32 a) rfl rfl (wrap32_bd 0) (wrap32_bd a) w

set_option maxHeartbeats 1000000 in
theorem sub64_at (a b x y : Int) (hx : wrapOf 2 a = x) (hy : wrapOf 2 b = y) (bx : -9223372036854775808 ≤ x ∧ x ≤ 9223372036854775807) (by_ : -9223372036854775808 ≤ y ∧ y ≤ 9223372036854775807) (w : World) :
    Calls Try.prog 19 #[.int .i64 2, .int .i64 1, .int .i64 a, .int .i64 b] w fun e w' => e = .returned (.tuple #[.int .i64 (wrap64 (x - y)), .bool true]) ∧ w' = w := by
  have R : Hid (wrapOf 2 (wrap64 (IntKind.u64.wrap (IntKind.u64.wrap x - IntKind.u64.wrap y))) = wrap64 (x - y)) := Lib.hid (by rw [wrapOf_2, u_sub])
  have S := size_any 2 w
  rw [show sizeF 2 = 64 from rfl] at S
  have W1 := rWrap_any 2 a w
  rw [hx] at W1
  have W2 := rWrap_any 2 b w
  rw [hy] at W2
  have HS := Lib.hid S
  have HW1 := Lib.hid W1
  have HW2 := Lib.hid W2
  clear S W1 W2 hx hy bx by_
  go_enter Try.func19, Try.ntmps19
  go_wp2_with (first
    | (go_at_call 51; refine HS.out.mono ?_; rintro e w' ⟨rfl, rfl⟩)
    | (go_at_call 22; (with_reducible refine HW1.out.mono ?_); rintro e w' ⟨rfl, rfl⟩)
    | (go_at_call 22; (with_reducible refine HW2.out.mono ?_); rintro e w' ⟨rfl, rfl⟩)
    | (go_at_call 22; refine (rWrap_any _ _ _).mono ?_; rintro e w' ⟨rfl, rfl⟩))
  go_ret2
  exact ⟨ret_ok R.out, rfl⟩

theorem sub64_still (a : Int) (ha : -9223372036854775808 ≤ a ∧ a ≤ 9223372036854775807) (w : World) :
    Calls Try.prog 19 #[.int .i64 2, .int .i64 1, .int .i64 0, .int .i64 a] w fun e w' => e = .returned (.tuple #[.int .i64 (wrapOf 2 (wrap64 (-a))), .bool true]) ∧ w' = w := by
  have e : wrap64 (0 - a) = wrapOf 2 (wrap64 (-a)) := by rw [wrapOf_2]; unfold wrap64; omega
  rw [← e]
  exact sub64_at 0 a 0 a rfl rfl (by omega) ha w

set_option maxHeartbeats 400000 in
theorem subno_still (kind a : Int) (h1 : ¬ kind = 1) (h2 : ¬ kind = 2) (w : World) :
    Calls Try.prog 19 #[.int .i64 kind, .int .i64 1, .int .i64 0, .int .i64 a] w fun e w' => e = .returned (.tuple #[.int .i64 0, .bool false]) ∧ w' = w := by
  have S := size_any kind w
  rw [show sizeF kind = 0 by unfold sizeF; rw [if_neg h1, if_neg h2]] at S
  go_enter Try.func19, Try.ntmps19
  go_wp2_with (go_at_call 51; refine S.mono ?_; rintro e w' ⟨rfl, rfl⟩)
  go_ret2
  exact ⟨rfl, rfl⟩
/-- 0 less a number changes nothing at all. -/
theorem rsub_still (kind a : Int) (ha : -9223372036854775808 ≤ a ∧ a ≤ 9223372036854775807) (w : World) :
    Calls Try.prog 19 #[.int .i64 kind, .int .i64 1, .int .i64 0, .int .i64 a] w fun e w' => e = .returned (.tuple #[.int .i64 (wrapOf kind (wrap64 (-a))), .bool (decide (kind = 1 ∨ kind = 2))]) ∧ w' = w := by
  by_cases h1 : kind = 1
  · subst h1
    exact sub32_still a ha w
  · by_cases h2 : kind = 2
    · subst h2
      exact sub64_still a ha w
    · have e2 : wrapOf kind (wrap64 (-a)) = 0 := by unfold wrapOf; rw [if_neg h1, if_neg h2]
      rw [e2, decide_eq_false (by omega)]
      exact subno_still kind a h1 h2 w
set_option maxHeartbeats 400000 in
theorem rNeg_still (kind a : Int) (ha : -9223372036854775808 ≤ a ∧ a ≤ 9223372036854775807) (w : World) : Calls Try.prog 21 #[.int .i64 kind, .int .i64 a] w fun e w' => e = .returned (.int .i64 (wrapOf kind (wrap64 (-a)))) ∧ w' = w := by
  have B := rsub_still kind a ha w
  generalize wrapOf kind (wrap64 (-a)) = v at *
  generalize decide (kind = 1 ∨ kind = 2) = t at *
  have HB := Lib.hid B
  clear B
  go_enter Try.func21, Try.ntmps21
  go_wp2_with (go_at_call 19; refine HB.out.mono ?_; rintro e w1 ⟨rfl, hw1⟩; subst hw1)
  go_ret
  exact ⟨rfl, rfl⟩
end Go.Proofs.Ytdelikjodacedaa
