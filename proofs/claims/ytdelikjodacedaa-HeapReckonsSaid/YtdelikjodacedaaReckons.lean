/- HeapReckons: the walk: of any kind, operator and numbers the function returns true and leaves what was there. -/
import Derived.Test.YtdelikjodacedaaRefE
import Derived.StillTailTactics
namespace Go.Proofs.Ytdelikjodacedaa
open Go.RowKit
set_option maxRecDepth 100000 in
set_option maxHeartbeats 2000000 in
/-- HeapReckons returns true, whatever it is handed. -/
theorem HeapReckons_walk (kind op a b : Int) (ha : -9223372036854775808 ≤ a ∧ a ≤ 9223372036854775807) (hb : -9223372036854775808 ≤ b ∧ b ≤ 9223372036854775807) (w : World) :
    Calls Try.prog 6 #[.agg #[.int .i64 kind, .int .i64 op], .int .i64 a, .int .i64 b] w fun e w' => e = .returned (.bool true) ∧ Below w.heap.size w w' := by
  have B1 := fun v => Bin_any kind op a b ha hb v
  have B2 := fun v => rBin_any kind op a b ha hb v
  have N1 := fun v => Neg_any kind a v
  have N2 := fun v => rNeg_still kind a ha v
  have W1 := fun v => Wrap_any kind a v
  have W2 := fun v => rWrap_any kind a v
  generalize binV kind op a b = x at *
  generalize binB kind op b = t at *
  generalize wrapOf kind (wrap64 (-a)) = g at *
  generalize wrapOf kind a = y at *
  have WK : ∀ w1, Below (w.alloc (.cells #[.int .i64 kind, .int .i64 op] 28)).heap.size (w.alloc (.cells #[.int .i64 kind, .int .i64 op] 28)) w1 →
      Below w.heap.size w w1 ∧ w1.cell? ⟨w.heap.size, 0, none⟩ = some (.int .i64 kind) ∧ w1.cell? ⟨w.heap.size, 1, none⟩ = some (.int .i64 op) := fun w1 hw1 => by
    have hb := (hw1.block w.heap.size (by simp)).trans (heap_alloc_new w _)
    exact ⟨((Below.refl w.heap.size w).alloc (Nat.le_refl _) _).trans (hw1.mono (by simp)), cell_in hb 0 rfl, cell_in hb 1 rfl⟩
  have HWK := Lib.hid WK
  have HB1 := Lib.hid B1
  have HB2 := Lib.hid B2
  have HN1 := Lib.hid (fun v => (N1 v).mono fun _ _ h => ⟨h.1, h.2.symm⟩ : ∀ v, Calls Try.prog 20 #[.int .i64 kind, .int .i64 a] v fun e w'' => e = .returned (.int .i64 g) ∧ w'' = v)
  have HN2 := Lib.hid N2
  have HW1 := Lib.hid (fun v => (W1 v).mono fun _ _ h => ⟨h.1, h.2.symm⟩ : ∀ v, Calls Try.prog 14 #[.int .i64 kind, .int .i64 a] v fun e w'' => e = .returned (.int .i64 y) ∧ w'' = v)
  have HW2 := Lib.hid (fun v => (W2 v).mono fun _ _ h => ⟨h.1, h.2.symm⟩ : ∀ v, Calls Try.prog 22 #[.int .i64 kind, .int .i64 a] v fun e w'' => e = .returned (.int .i64 y) ∧ w'' = v)
  clear B1 B2 N1 N2 W1 W2 WK ha hb
  go_enter Try.func6, Try.ntmps6
  go_wp2_with (first
    | (go_at_call 15; refine (HB1.out _).mono ?_; rintro e w1 ⟨rfl, hw1⟩; obtain ⟨hw', k0, k1⟩ := HWK.out _ hw1)
    | (go_at_call 19; refine (HB2.out _).mono ?_; rintro e w2 ⟨rfl, nq, rfl⟩))
  have q0 : (w1.drewN nq).drew.cell? ⟨w.heap.size, 0, none⟩ = some (.int .i64 kind) := k0
  have q1 : Below w.heap.size w (w1.drewN nq).drew := ⟨hw'.os, hw'.tape, hw'.output, hw'.size, hw'.block⟩
  clear k0 k1 hw1 hw' HWK HB1 HB2
  refine wp_region_still_tail 31 (by kernel_rfl) (by kernel_rfl) ?_
  simp only [List.take_succ_cons, List.take_zero, List.drop_succ_cons, List.drop_zero]
  change wpStill _ _ ((w1.drewN nq).drew) (fun a' => wpList _ _ _ _ a' ((w1.drewN nq).drew)) _ _
  generalize (w1.drewN nq).drew = W at *
  repeat still_step
  still_call (HN1.out _)
  repeat still_step
  still_call (HN2.out _)
  repeat still_step
  still_call (HW1.out _)
  repeat still_step
  still_call (HW2.out _)
  repeat still_step
  refine wpStill_nil ?_
  have F := Lib.hid (fun w' (h : Below W.heap.size W w') => q1.trans (h.mono (by have := q1.size; omega)))
  clear q0 q1 HN1 HN2 HW1 HW2
  go_wp2_with (go_at_call 13; refine (works_any _).mono ?_; rintro e w3 ⟨rfl, hw3⟩)
  go_ret
  exact ⟨rfl, F.out _ hw3⟩
end Go.Proofs.Ytdelikjodacedaa
