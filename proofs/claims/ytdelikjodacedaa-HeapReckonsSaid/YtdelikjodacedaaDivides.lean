/- HeapDivides: the walk, and the plain law of quotients and rests. -/
import Derived.Test.YtdelikjodacedaaWorks
namespace Go.Proofs.Ytdelikjodacedaa
open Go.RowKit

/-! ### Plain -/
theorem wrap32_id {n : Int} (h : -2147483648 ≤ n ∧ n ≤ 2147483647) : wrap32 n = n := IntWalk.wrap32_in n h
theorem wrap64_id {n : Int} (h : -9223372036854775808 ≤ n ∧ n ≤ 9223372036854775807) : wrap64 n = n := IntWalk.wrap64_in n h
theorem wrap32_mul_l (a b : Int) : wrap32 (wrap32 a * b) = wrap32 (a * b) := by simp only [wrap32_bmod, Int.bmod_mul_bmod]
theorem wrap32_add_l (a b : Int) : wrap32 (wrap32 a + b) = wrap32 (a + b) := by unfold wrap32; omega
theorem wrap64_mul_l (a b : Int) : wrap64 (wrap64 a * b) = wrap64 (a * b) := by simp only [wrap64_bmod, Int.bmod_mul_bmod]
theorem wrap64_add_l (a b : Int) : wrap64 (wrap64 a + b) = wrap64 (a + b) := by unfold wrap64; omega
theorem quo_rem32 (x y : Int) (hx : -2147483648 ≤ x ∧ x ≤ 2147483647) : wrap32 (wrap32 (wrap32 (x.tdiv y) * y) + x.tmod y) = x := by
  rw [wrap32_mul_l, wrap32_add_l, Int.mul_comm, Int.add_comm, Int.tmod_add_mul_tdiv, wrap32_id hx]
theorem quo_rem64 (x y : Int) (hx : -9223372036854775808 ≤ x ∧ x ≤ 9223372036854775807) : wrap64 (wrap64 (wrap64 (x.tdiv y) * y) + x.tmod y) = x := by
  rw [wrap64_mul_l, wrap64_add_l, Int.mul_comm, Int.add_comm, Int.tmod_add_mul_tdiv, wrap64_id hx]
theorem rem_sign (x y : Int) : (0 ≤ x → 0 ≤ x.tmod y) ∧ (x ≤ 0 → x.tmod y ≤ 0) := by
  refine ⟨fun h => Int.tmod_nonneg y h, fun h => ?_⟩
  have := Int.tmod_nonneg y (show 0 ≤ -x by omega)
  rw [Int.neg_tmod] at this; omega
theorem rem_less (x y : Int) : (0 < y → -y < x.tmod y ∧ x.tmod y < y) ∧ (y < 0 → y < x.tmod y ∧ x.tmod y < -y) := by
  refine ⟨fun h => ⟨Int.lt_tmod_of_pos x h, Int.tmod_lt_of_pos x h⟩, fun h => ?_⟩
  have h' : 0 < -y := by omega
  have e := Int.tmod_neg x y
  rw [← e]
  have h1 := Int.lt_tmod_of_pos x h'
  have h2 := Int.tmod_lt_of_pos x h'
  omega

/-- What the walk wants to know of a number, a divisor, how often it goes in, the rest. -/
structure DivFacts (k x y q r m : Int) : Prop where
  fq : binB k 3 y = true ∧ binV k 3 x y = q
  fr : binB k 4 y = true ∧ binV k 4 x y = r
  fm : binV k 2 q y = m
  fa : binV k 0 m r = x
  s1 : 0 ≤ x → 0 ≤ r
  s2 : x ≤ 0 → r ≤ 0
  l1 : 0 < y → -y < r ∧ r < y
  l2 : y < 0 → y < r ∧ r < -y
  bx : -9223372036854775808 ≤ x ∧ x ≤ 9223372036854775807
  bq : -9223372036854775808 ≤ q ∧ q ≤ 9223372036854775807
  br : -9223372036854775808 ≤ r ∧ r ≤ 9223372036854775807
  bm : -9223372036854775808 ≤ m ∧ m ≤ 9223372036854775807

theorem div32 (x y : Int) (hx : -2147483648 ≤ x ∧ x ≤ 2147483647) (hy : -2147483648 ≤ y ∧ y ≤ 2147483647) (h0 : ¬ y = 0) : DivFacts 1 x y (wrap32 (x.tdiv y)) (x.tmod y) (wrap32 (wrap32 (x.tdiv y) * y)) := by
  have ex := wrap32_id hx
  have ey := wrap32_id hy
  have eq := wrap32_id (wrap32_bd (x.tdiv y))
  have em := wrap32_id (wrap32_bd (wrap32 (x.tdiv y) * y))
  have hr := tmod32_bd x y hx
  have er := wrap32_id hr
  have hb : ∀ op, 0 ≤ op → op ≤ 10 → binB 1 op y = true := fun op h1 h2 => decide_eq_true ⟨.inl rfl, h1, h2, fun h => h0 (by have := h.2; unfold wrapOf at this; simpa [ey] using this)⟩
  have hb' : ∀ z, binB 1 0 z = true := fun z => decide_eq_true ⟨.inl rfl, by omega, by omega, fun h => by omega⟩
  have b1 := wrap32_bd (x.tdiv y)
  have b2 := wrap32_bd (wrap32 (x.tdiv y) * y)
  refine ⟨⟨hb 3 (by omega) (by omega), ?_⟩, ⟨hb 4 (by omega) (by omega), ?_⟩, ?_, ?_, (rem_sign x y).1, (rem_sign x y).2, (rem_less x y).1, (rem_less x y).2, by omega, by omega, by omega, by omega⟩
  · unfold binV; rw [hb 3 (by omega) (by omega), ex, ey]; rfl
  · unfold binV; rw [hb 4 (by omega) (by omega), ex, ey]; rfl
  · unfold binV; rw [hb 2 (by omega) (by omega), eq, ey]; rfl
  · unfold binV; rw [hb' _, em, er]; exact quo_rem32 x y hx
theorem div64 (x y : Int) (hx : -9223372036854775808 ≤ x ∧ x ≤ 9223372036854775807) (h0 : ¬ y = 0) : DivFacts 2 x y (wrap64 (x.tdiv y)) (x.tmod y) (wrap64 (wrap64 (x.tdiv y) * y)) := by
  have hr := tmod_bd (B := 9223372036854775807) x y (by omega) (by omega)
  have hb : ∀ op, 0 ≤ op → op ≤ 10 → binB 2 op y = true := fun op h1 h2 => decide_eq_true ⟨.inr rfl, h1, h2, fun h => h0 (by have := h.2; unfold wrapOf at this; simpa using this)⟩
  have hb' : ∀ z, binB 2 0 z = true := fun z => decide_eq_true ⟨.inr rfl, by omega, by omega, fun h => by omega⟩
  refine ⟨⟨hb 3 (by omega) (by omega), ?_⟩, ⟨hb 4 (by omega) (by omega), ?_⟩, ?_, ?_, (rem_sign x y).1, (rem_sign x y).2, (rem_less x y).1, (rem_less x y).2, hx, wrap64_bd _, by omega, wrap64_bd _⟩
  · unfold binV; rw [hb 3 (by omega) (by omega)]; rfl
  · unfold binV; rw [hb 4 (by omega) (by omega)]; rfl
  · unfold binV; rw [hb 2 (by omega) (by omega)]; rfl
  · unfold binV; rw [hb' _]; exact quo_rem64 x y hx

theorem ret_true {p : Prop} [Decidable p] (h : p) : Ending.returned (.bool (decide p)) = .returned (.bool true) := by rw [decide_eq_true h]

/-! ### The walk -/
set_option maxHeartbeats 1000000 in
theorem walk_nonzero (longs : Bool) (k : Int) (hk : k = if longs then 2 else 1) (a b x y q r m : Int) (hx : wrapOf k a = x) (hy : wrapOf k b = y) (h0 : ¬ y = 0) (F : DivFacts k x y q r m) (by_ : -9223372036854775808 ≤ y ∧ y ≤ 9223372036854775807) (w : World) :
    Calls Try.prog 3 #[.int .i64 a, .int .i64 b, .bool longs] w fun e w' => e = .returned (.bool true) ∧ Below w.heap.size w w' := by
  have hB : w.heap.size ≤ w.heap.size := Nat.le_refl _
  obtain ⟨fq, fr, fm, fa, s1, s2, l1, l2, bx, bq, br, bm⟩ := F
  have W1 : ∀ v, Calls Try.prog 14 #[.int .i64 k, .int .i64 a] v fun e w' => e = .returned (.int .i64 x) ∧ v = w' := fun v => by have := Wrap_any k a v; rw [hx] at this; exact this
  have W2 : ∀ v, Calls Try.prog 14 #[.int .i64 k, .int .i64 b] v fun e w' => e = .returned (.int .i64 y) ∧ v = w' := fun v => by have := Wrap_any k b v; rw [hy] at this; exact this
  have Q : ∀ v, Below w.heap.size w v → Calls Try.prog 15 #[.int .i64 k, .int .i64 3, .int .i64 x, .int .i64 y] v fun e w' => e = .returned (.tuple #[.int .i64 q, .bool true]) ∧ Below w.heap.size w w' := fun v hv => bin_is _ _ k 3 x y q true ⟨bx, by_, fq.1, fq.2⟩ hv hB
  have R : ∀ v, Below w.heap.size w v → Calls Try.prog 15 #[.int .i64 k, .int .i64 4, .int .i64 x, .int .i64 y] v fun e w' => e = .returned (.tuple #[.int .i64 r, .bool true]) ∧ Below w.heap.size w w' := fun v hv => bin_is _ _ k 4 x y r true ⟨bx, by_, fr.1, fr.2⟩ hv hB
  have M : ∀ v, Below w.heap.size w v → Calls Try.prog 16 #[.int .i64 k, .int .i64 2, .int .i64 q, .int .i64 y] v fun e w' => e = .returned (.int .i64 m) ∧ Below w.heap.size w w' := fun v hv => by have := of_op _ _ k 2 q y bq by_ hv hB; rw [fm] at this; exact this
  have A : ∀ v, Below w.heap.size w v → Calls Try.prog 16 #[.int .i64 k, .int .i64 0, .int .i64 m, .int .i64 r] v fun e w' => e = .returned (.int .i64 x) ∧ Below w.heap.size w w' := fun v hv => by have := of_op _ _ k 0 m r bm br hv hB; rw [fa] at this; exact this
  have HW1 := Lib.hid W1
  have HW2 := Lib.hid W2
  have HQ := Lib.hid Q
  have HR := Lib.hid R
  have HM := Lib.hid M
  have HA := Lib.hid A
  have hz : (y == 0) = false := by simpa using h0
  clear W1 W2 Q R M A hx hy fq fr fm fa
  have hsig : (r = 0) ∨ (0 < r ∧ 0 < x) ∨ (r < 0 ∧ x < 0) := by
    rcases Int.lt_trichotomy r 0 with h | h | h
    · exact .inr (.inr ⟨h, by rcases Int.lt_or_le x 0 with h' | h'; · exact h'
                              · exact absurd (s1 h') (by omega)⟩)
    · exact .inl h
    · exact .inr (.inl ⟨h, by rcases Int.lt_or_le 0 x with h' | h'; · exact h'
                              · exact absurd (s2 h') (by omega)⟩)
  have hys : (0 < y ∧ -y < r ∧ r < y) ∨ (y < 0 ∧ y < r ∧ r < -y) := by
    rcases Int.lt_trichotomy y 0 with h | h | h
    · exact .inr ⟨h, l2 h⟩
    · exact absurd h h0
    · exact .inl ⟨h, l1 h⟩
  obtain ⟨bx1, bx2⟩ := bx
  obtain ⟨by1, by2⟩ := by_
  obtain ⟨br1, br2⟩ := br
  clear s1 s2 l1 l2 bq bm h0
  cases longs
  all_goals
    simp only [if_true, if_false, Bool.false_eq_true] at hk
    subst hk
    rcases hys with ⟨y1, y2, y3⟩ | ⟨y1, y2, y3⟩ <;> rcases hsig with rfl | ⟨r1, x1⟩ | ⟨r1, x1⟩
  all_goals
    try (have r0 : (r != 0) = true := by rw [bne_iff_ne]; omega)
    try (have d1 : decide (r < 0) = false := decide_eq_false (by omega))
    try (have d2 : decide (x < 0) = false := decide_eq_false (by omega))
    go_enter Try.func3, Try.ntmps3
    go_wp2_with (first
      | (go_at_call 13; refine (works_any _).mono ?_; rintro e w' ⟨rfl, hw'⟩)
      | (go_at_call 14; (with_reducible refine (HW1.out _).mono ?_); rintro e w' ⟨rfl, rfl⟩)
      | (go_at_call 14; (with_reducible refine (HW2.out _).mono ?_); rintro e w' ⟨rfl, rfl⟩)
      | (go_at_call 15; (with_reducible refine (HQ.out _ (by assumption)).mono ?_); rintro e w' ⟨rfl, hw'⟩)
      | (go_at_call 15; (with_reducible refine (HR.out _ (by assumption)).mono ?_); rintro e w' ⟨rfl, hw'⟩)
      | (go_at_call 16; (with_reducible refine (HM.out _ (by assumption)).mono ?_); rintro e w' ⟨rfl, hw'⟩)
      | (go_at_call 16; (with_reducible refine (HA.out _ (by assumption)).mono ?_); rintro e w' ⟨rfl, hw'⟩))
    go_ret
    first | exact ⟨rfl, by assumption⟩ | exact ⟨ret_true (by omega), by assumption⟩
set_option maxHeartbeats 1000000 in
theorem walk_zero (longs : Bool) (k : Int) (hk : k = if longs then 2 else 1) (a b x : Int) (hx : wrapOf k a = x) (hy : wrapOf k b = 0) (bx : -9223372036854775808 ≤ x ∧ x ≤ 9223372036854775807) (w : World) :
    Calls Try.prog 3 #[.int .i64 a, .int .i64 b, .bool longs] w fun e w' => e = .returned (.bool true) ∧ Below w.heap.size w w' := by
  have hB : w.heap.size ≤ w.heap.size := Nat.le_refl _
  have z : ∀ op, op = 3 ∨ op = 4 → binB k op 0 = false ∧ binV k op x 0 = 0 := fun op ho => by
    have e0 : wrapOf k 0 = 0 := by unfold wrapOf; split; · decide +kernel
                                   · split <;> rfl
    have : binB k op 0 = false := decide_eq_false fun h => h.2.2.2 ⟨ho, e0⟩
    exact ⟨this, by unfold binV; rw [this]; rfl⟩
  have W1 : ∀ v, Calls Try.prog 14 #[.int .i64 k, .int .i64 a] v fun e w' => e = .returned (.int .i64 x) ∧ v = w' := fun v => by have := Wrap_any k a v; rw [hx] at this; exact this
  have W2 : ∀ v, Calls Try.prog 14 #[.int .i64 k, .int .i64 b] v fun e w' => e = .returned (.int .i64 0) ∧ v = w' := fun v => by have := Wrap_any k b v; rw [hy] at this; exact this
  have Q : ∀ v, Below w.heap.size w v → Calls Try.prog 15 #[.int .i64 k, .int .i64 3, .int .i64 x, .int .i64 0] v fun e w' => e = .returned (.tuple #[.int .i64 0, .bool false]) ∧ Below w.heap.size w w' := fun v hv => bin_is _ _ k 3 x 0 0 false ⟨bx, by omega, (z 3 (.inl rfl)).1, (z 3 (.inl rfl)).2⟩ hv hB
  have R : ∀ v, Below w.heap.size w v → Calls Try.prog 15 #[.int .i64 k, .int .i64 4, .int .i64 x, .int .i64 0] v fun e w' => e = .returned (.tuple #[.int .i64 0, .bool false]) ∧ Below w.heap.size w w' := fun v hv => bin_is _ _ k 4 x 0 0 false ⟨bx, by omega, (z 4 (.inr rfl)).1, (z 4 (.inr rfl)).2⟩ hv hB
  have HW1 := Lib.hid W1
  have HW2 := Lib.hid W2
  have HQ := Lib.hid Q
  have HR := Lib.hid R
  clear W1 W2 Q R hx hy z bx
  cases longs
  all_goals
    simp only [if_true, if_false, Bool.false_eq_true] at hk
    subst hk
    go_enter Try.func3, Try.ntmps3
    go_wp2_with (first
      | (go_at_call 13; refine (works_any _).mono ?_; rintro e w' ⟨rfl, hw'⟩)
      | (go_at_call 14; (with_reducible refine (HW1.out _).mono ?_); rintro e w' ⟨rfl, rfl⟩)
      | (go_at_call 14; (with_reducible refine (HW2.out _).mono ?_); rintro e w' ⟨rfl, rfl⟩)
      | (go_at_call 15; (with_reducible refine (HQ.out _ (by assumption)).mono ?_); rintro e w' ⟨rfl, hw'⟩)
      | (go_at_call 15; (with_reducible refine (HR.out _ (by assumption)).mono ?_); rintro e w' ⟨rfl, hw'⟩))
    go_ret
    exact ⟨rfl, by assumption⟩

theorem wrapOf_bd (k a : Int) (ha : -9223372036854775808 ≤ a ∧ a ≤ 9223372036854775807) : -9223372036854775808 ≤ wrapOf k a ∧ wrapOf k a ≤ 9223372036854775807 := by
  have := wrap32_bd a
  unfold wrapOf
  split
  · omega
  · split <;> omega
/-- HeapDivides returns true, whatever it is handed. -/
theorem HeapDivides_walk (a b : Int) (longs : Bool) (ha : -9223372036854775808 ≤ a ∧ a ≤ 9223372036854775807) (hb : -9223372036854775808 ≤ b ∧ b ≤ 9223372036854775807) (w : World) :
    Calls Try.prog 3 #[.int .i64 a, .int .i64 b, .bool longs] w fun e w' => e = .returned (.bool true) ∧ Below w.heap.size w w' := by
  by_cases h0 : wrapOf (if longs then 2 else 1) b = 0
  · exact walk_zero longs _ rfl a b _ rfl h0 (wrapOf_bd _ a ha) w
  · cases longs
    · have e : ∀ z, wrapOf 1 z = wrap32 z := fun z => rfl
      simp only [if_false, Bool.false_eq_true, e] at h0
      exact walk_nonzero false 1 rfl a b _ _ _ _ _ (e a) (e b) h0 (div32 _ _ (wrap32_bd a) (wrap32_bd b) h0) (by have := wrap32_bd b; omega) w
    · have e : ∀ z, wrapOf 2 z = z := fun z => rfl
      simp only [if_true, e] at h0
      exact walk_nonzero true 2 rfl a b _ _ _ _ _ (e a) (e b) h0 (div64 _ _ ha h0) hb w
theorem i64_bd {n : Int} (h : (Lit.int .i64 n).wf = true) : -9223372036854775808 ≤ n ∧ n ≤ 9223372036854775807 := by
  have hmin : IntKind.i64.min = -9223372036854775808 := rfl
  have hmax : IntKind.i64.max = 9223372036854775807 := rfl
  simp only [Lit.wf, Bool.and_eq_true, decide_eq_true_eq] at h
  omega
end Go.Proofs.Ytdelikjodacedaa
