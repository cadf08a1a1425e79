/- Package heap's Put, by contract: where it refuses. -/
import Derived.Test.YtdelikjodacedaaSmall
import Derived.Test.YtdelikjodacedaaHeapE
namespace Go.Proofs.Ytdelikjodacedaa
open Go.RowKit

theorem Known_a {w : World} {hv : Value} {ts : List Thg} (h : AHeap w hv ts) (ref : Int) : Calls Try.prog 48 #[hv, .int .i64 ref] w fun e w' => e = .returned (.bool (knows ts.length ref)) ∧ w = w' := by
  rcases h with ⟨rfl, rfl⟩ | ⟨base, fp, hb, most, used, sv, tp, rfl, h⟩
  · have e : knows (List.length ([] : List Thg)) ref = false := decide_eq_false (by simp; omega)
    rw [e]; exact Known_nil ref w
  · exact Known_any h ref

/-- The block of the value that is put. -/
abbrev valBlk (k n : Int) : Obj := .cells #[.int .i64 k, .int .i64 n] 45
theorem put_kept {w w' : World} {k n : Int} (ho : Out [] (w.alloc (valBlk k n)) w') (x y : Int) : (w'.alloc (.cells #[.int .i64 x, .int .i64 y] 45)).cell? ⟨w.heap.size, 0, none⟩ = some (.int .i64 k) ∧ (w'.alloc (.cells #[.int .i64 x, .int .i64 y] 45)).cell? ⟨w.heap.size, 1, none⟩ = some (.int .i64 n) ∧ Out [] w (w'.alloc (.cells #[.int .i64 x, .int .i64 y] 45)) := by
  have hb : (w'.alloc (.cells #[.int .i64 x, .int .i64 y] 45)).heap[w.heap.size]? = some (valBlk k n) := (Below.heap_alloc _ _ _ (by have := ho.size; simp at this; omega)).trans (kept_var ho)
  exact ⟨cell_in hb 0 rfl, cell_in hb 1 rfl, (((Out.refl _ _).alloc _).trans ho (by simp)).alloc _⟩

section
variable {w : World} {hv : Value} {ts : List Thg}
set_option maxHeartbeats 1000000 in
theorem Put_no1 (h : AHeap w hv ts) (ref i k n : Int) (hg : getB (look ts ref) i = false) :
    Calls Try.prog 30 #[hv, .int .i64 ref, .int .i64 i, .agg #[.int .i64 k, .int .i64 n]] w fun e w' => e = .returned (.bool false) ∧ Out [] w w' := by
  have h1 := h.out ((Out.refl [] w).alloc (valBlk k n))
  have K := Get_any h1 ref i
  unfold GetPost at K
  rw [hg] at K
  generalize (getV (look ts ref) i).1 = x at *
  generalize (getV (look ts ref) i).2 = y at *
  have HK := Lib.hid K
  clear h h1 K hg
  go_enter Try.func30, Try.ntmps30
  go_wp2_with (go_at_call 34; refine HK.out.mono ?_; rintro e w' ⟨rfl, ho⟩; obtain ⟨c0, c1, ho2⟩ := put_kept ho x y)
  go_ret
  exact ⟨rfl, by assumption⟩
set_option maxHeartbeats 1000000 in
theorem Put_no2 (h : AHeap w hv ts) (ref i k n : Int) (hg : getB (look ts ref) i = true) (hk : ((getV (look ts ref) i).1 == k) = false) :
    Calls Try.prog 30 #[hv, .int .i64 ref, .int .i64 i, .agg #[.int .i64 k, .int .i64 n]] w fun e w' => e = .returned (.bool false) ∧ Out [] w w' := by
  have h1 := h.out ((Out.refl [] w).alloc (valBlk k n))
  have K := Get_any h1 ref i
  unfold GetPost at K
  rw [hg] at K
  generalize (getV (look ts ref) i).1 = x at *
  generalize (getV (look ts ref) i).2 = y at *
  have HK := Lib.hid K
  clear h h1 K hg
  go_enter Try.func30, Try.ntmps30
  go_wp2_with (go_at_call 34; refine HK.out.mono ?_; rintro e w' ⟨rfl, ho⟩; obtain ⟨c0, c1, ho2⟩ := put_kept ho x y)
  go_ret
  exact ⟨rfl, by assumption⟩
set_option maxHeartbeats 1000000 in
theorem Put_no3 (h : AHeap w hv ts) (ref i n : Int) (hg : getB (look ts ref) i = true) (hk : (getV (look ts ref) i).1 = 3) (hn : (n != 0) = true) (hn2 : knows ts.length n = false) :
    Calls Try.prog 30 #[hv, .int .i64 ref, .int .i64 i, .agg #[.int .i64 3, .int .i64 n]] w fun e w' => e = .returned (.bool false) ∧ Out [] w w' := by
  have h1 := h.out ((Out.refl [] w).alloc (valBlk 3 n))
  have K := Get_any h1 ref i
  unfold GetPost at K
  rw [hg, hk] at K
  generalize (getV (look ts ref) i).2 = y at *
  have K2 := fun w' (ho : Out [] (w.alloc (valBlk 3 n)) w') => Known_a (h1.out (ho.alloc (.cells #[.int .i64 3, .int .i64 y] 45))) n
  rw [hn2] at K2
  have HK := Lib.hid K
  have HK2 := Lib.hid K2
  clear h h1 K hg K2 hn2
  go_enter Try.func30, Try.ntmps30
  go_wp2_with (first
    | (go_at_call 34; refine HK.out.mono ?_; rintro e w' ⟨rfl, ho⟩; obtain ⟨c0, c1, ho2⟩ := put_kept ho 3 y)
    | (go_at_call 48; refine (HK2.out _ (by assumption)).mono ?_; rintro e w' ⟨rfl, rfl⟩))
  go_ret
  exact ⟨rfl, by assumption⟩
set_option maxHeartbeats 1000000 in
theorem Put_no4 (h : AHeap w hv ts) (ref i k n : Int) (hg : getB (look ts ref) i = true) (hk : (getV (look ts ref) i).1 = k) (h3 : (k == 3) = false) (hn : (wrapOf k n == n) = false) :
    Calls Try.prog 30 #[hv, .int .i64 ref, .int .i64 i, .agg #[.int .i64 k, .int .i64 n]] w fun e w' => e = .returned (.bool false) ∧ Out [] w w' := by
  have h1 := h.out ((Out.refl [] w).alloc (valBlk k n))
  have K := Get_any h1 ref i
  unfold GetPost at K
  rw [hg, hk] at K
  generalize (getV (look ts ref) i).2 = y at *
  have K2 : ∀ (v : World) (j : Nat), Calls Try.prog 14 #[.int .i64 k, .int .i64 n] (v.drewN j) fun e w'' => e = .returned (.int .i64 (wrapOf k n)) ∧ ∃ m, w'' = v.drewN m := fun v j => Calls.quiet_of_same ((Wrap_any k n (v.drewN j)).mono fun _ _ h => ⟨h.1, h.2.symm⟩)
  generalize wrapOf k n = x at *
  have HK := Lib.hid K
  have HK2 := Lib.hid K2
  clear h h1 K hg hk K2
  go_enter Try.func30, Try.ntmps30
  go_wp2_with (go_at_call 34; refine HK.out.mono ?_; rintro e w' ⟨rfl, ho⟩; obtain ⟨c0, c1, ho2⟩ := put_kept ho k y)
  go_quiet ((go_at_call 14; with_reducible exact HK2.out _ _))
  have ho3 := ho2.drewN nq
  go_wp2
  go_ret
  exact ⟨rfl, by assumption⟩
end
end Go.Proofs.Ytdelikjodacedaa
