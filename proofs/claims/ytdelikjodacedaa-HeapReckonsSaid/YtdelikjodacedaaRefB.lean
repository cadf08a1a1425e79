/- The document's answer for quotients, by contract: abs and divide. -/
import Derived.Test.YtdelikjodacedaaRefA
import Derived.Test.YtdelikjodacedaaDivides
import Derived.Deep.QuietTactic
import Derived.BigQuiet
namespace Go.Proofs.Ytdelikjodacedaa
open Go.RowKit
def absF (a : Int) : Int := if a < 0 then -a else a
theorem neg_u64 (a : Int) (h : -9223372036854775808 ≤ a ∧ a < 0) : IntKind.u64.wrap (-IntKind.u64.wrap a) = -a := by rw [wrap_u64, wrap_u64]; omega
set_option maxHeartbeats 400000 in
theorem abs_any (a : Int) (ha : -9223372036854775808 ≤ a ∧ a ≤ 9223372036854775807) (w : World) : Calls Try.prog 87 #[.int .i64 a] w fun e w' => e = .returned (.int .u64 (absF a)) ∧ w' = w := by
  by_cases h : a < 0
  · have e : absF a = -a := by unfold absF; rw [if_pos h]
    rw [e]; clear e
    have N := neg_u64 a ⟨ha.1, h⟩
    clear ha
    go_enter Try.func87, Try.ntmps87
    go_wp2
    go_ret
    exact ⟨rfl, rfl⟩
  · have e : absF a = a := by unfold absF; rw [if_neg h]
    rw [e]; clear e
    obtain ⟨h1, h2⟩ := ha
    go_enter Try.func87, Try.ntmps87
    go_wp2
    go_ret
    exact ⟨rfl, rfl⟩

/-- The call returns v; the world is as it was, but for draws. -/
def RetQ (v : Value) (w : World) (e : Ending) (w' : World) : Prop := e = .returned v ∧ ∃ m, w' = w.drewN m

theorem absF_bd (a : Int) (ha : -9223372036854775808 ≤ a ∧ a ≤ 9223372036854775807) : 0 ≤ absF a ∧ absF a ≤ 9223372036854775808 := by unfold absF; split <;> omega
theorem absF_pos (a : Int) (h : ¬ a = 0) : 1 ≤ absF a := by unfold absF; split <;> omega
/-- Quotients and rests by those of what has no sign. -/
theorem div_abs (a b : Int) : (a.tdiv b = if (decide (a < 0) != decide (b < 0)) = true then -(absF a / absF b) else absF a / absF b) ∧ (a.tmod b = if a < 0 then -(absF a % absF b) else absF a % absF b) := by
  unfold absF
  by_cases ha : a < 0 <;> by_cases hb : b < 0
  · simp only [ha, hb, if_true, decide_true, bne_self_eq_false, Bool.false_eq_true, if_false]
    rw [← Int.neg_tdiv_neg, Int.tdiv_eq_ediv_of_nonneg (by omega)]
    refine ⟨rfl, ?_⟩
    have h := Int.neg_tmod a b
    have h2 := Int.tmod_neg (-a) b
    rw [h] at h2
    rw [← Int.tmod_eq_emod_of_nonneg (by omega), h2, Int.neg_neg]
  · simp only [ha, hb, if_true, decide_true, decide_false, if_false, Bool.true_bne, Bool.not_false]
    have h1 := Int.neg_tdiv a b
    have h2 := Int.neg_tmod a b
    rw [← Int.tdiv_eq_ediv_of_nonneg (show 0 ≤ -a by omega), ← Int.tmod_eq_emod_of_nonneg (show 0 ≤ -a by omega), h1, h2]
    omega
  · simp only [ha, hb, if_true, decide_true, decide_false, if_false, Bool.false_bne]
    have h1 := Int.tdiv_neg a b
    have h2 := Int.tmod_neg a b
    rw [← Int.tdiv_eq_ediv_of_nonneg (show 0 ≤ a by omega), ← Int.tmod_eq_emod_of_nonneg (show 0 ≤ a by omega), h1, h2]
    omega
  · simp only [ha, hb, decide_false, bne_self_eq_false, Bool.false_eq_true, if_false]
    exact ⟨Int.tdiv_eq_ediv_of_nonneg (by omega), Int.tmod_eq_emod_of_nonneg (by omega)⟩
theorem ret_ints {a b c d : Int} (h1 : a = c) (h2 : b = d) : Ending.returned (.tuple #[.int .i64 a, .int .i64 b]) = .returned (.tuple #[.int .i64 c, .int .i64 d]) := by rw [h1, h2]
theorem back_neg (q : Int) : wrap64 (IntKind.u64.wrap (-q)) = wrap64 (-q) := by rw [wrap_u64]; unfold wrap64; omega

set_option maxHeartbeats 1000000 in
theorem divide_any (a b : Int) (ha : -9223372036854775808 ≤ a ∧ a ≤ 9223372036854775807) (hb : -9223372036854775808 ≤ b ∧ b ≤ 9223372036854775807) (h0 : ¬ b = 0) (w : World) :
    Calls Try.prog 53 #[.int .i64 a, .int .i64 b] w (RetQ (.tuple #[.int .i64 (wrap64 (a.tdiv b)), .int .i64 (a.tmod b)]) w) := by
  have A1 := Lib.hid (fun n => Calls.quiet_of_same (abs_any a ha (w.drewN n)))
  have B1 := Lib.hid (fun n => Calls.quiet_of_same (abs_any b hb (w.drewN n)))
  have D := div_abs a b
  have hr := tmod_bd (B := 9223372036854775807) a b (by omega) (by omega)
  obtain ⟨bA1, bA2⟩ := absF_bd a ha
  have bB2 := (absF_bd b hb).2
  have bB1 := absF_pos b h0
  have eqr := wrap64_id (n := a.tmod b) (by omega)
  clear ha hb h0 hr
  generalize absF a = x at *
  generalize absF b = y at *
  by_cases h1 : a < 0 <;> by_cases h2 : b < 0
  · have d1 : decide (a < 0) = true := decide_eq_true h1
    have d2 : decide (b < 0) = true := decide_eq_true h2
    rw [d1, d2] at D
    rw [if_neg (by simp), if_pos h1] at D
    rw [D.2] at eqr
    rw [D.1, D.2]
    have E := Lib.hid eqr
    clear D eqr
    go_enter Try.func53, Try.ntmps53
    go_wp2
    go_quiet ((first | (go_at_call 87; with_reducible exact A1.out _) | (go_at_call 87; with_reducible exact B1.out _)))
    go_wp2
    go_ret2
    exact ⟨ret_ints rfl ((back_neg _).trans E.out), _, rfl⟩
  · have d1 : decide (a < 0) = true := decide_eq_true h1
    have d2 : decide (b < 0) = false := decide_eq_false h2
    rw [d1, d2] at D
    rw [if_pos (by simp), if_pos h1] at D
    rw [D.2] at eqr
    rw [D.1, D.2]
    have E := Lib.hid eqr
    clear D eqr
    go_enter Try.func53, Try.ntmps53
    go_wp2
    go_quiet ((first | (go_at_call 87; with_reducible exact A1.out _) | (go_at_call 87; with_reducible exact B1.out _)))
    go_wp2
    go_ret2
    exact ⟨ret_ints (back_neg _) ((back_neg _).trans E.out), _, rfl⟩
  · have d1 : decide (a < 0) = false := decide_eq_false h1
    have d2 : decide (b < 0) = true := decide_eq_true h2
    rw [d1, d2] at D
    rw [if_pos (by simp), if_neg h1] at D
    rw [D.2] at eqr
    rw [D.1, D.2]
    have E := Lib.hid eqr
    clear D eqr
    go_enter Try.func53, Try.ntmps53
    go_wp2
    go_quiet ((first | (go_at_call 87; with_reducible exact A1.out _) | (go_at_call 87; with_reducible exact B1.out _)))
    go_wp2
    go_ret2
    exact ⟨ret_ints (back_neg _) E.out, _, rfl⟩
  · have d1 : decide (a < 0) = false := decide_eq_false h1
    have d2 : decide (b < 0) = false := decide_eq_false h2
    rw [d1, d2] at D
    rw [if_neg (by simp), if_neg h1] at D
    rw [D.2] at eqr
    rw [D.1, D.2]
    have E := Lib.hid eqr
    clear D eqr
    go_enter Try.func53, Try.ntmps53
    go_wp2
    go_quiet ((first | (go_at_call 87; with_reducible exact A1.out _) | (go_at_call 87; with_reducible exact B1.out _)))
    go_wp2
    go_ret2
    exact ⟨ret_ints rfl E.out, _, rfl⟩
end Go.Proofs.Ytdelikjodacedaa
