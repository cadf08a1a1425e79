/- Package heap's makers, by contract: room, put, Array, Object. -/
import Derived.Test.YtdelikjodacedaaHeapA
import Derived.Deep.QuietTactic
namespace Go.Proofs.Ytdelikjodacedaa
open Go.RowKit
set_option maxHeartbeats 400000 in
theorem room_nil (n : Int) (w : World) : Calls Try.prog 57 #[.pointer none, .int .i64 n] w fun e w' => e = .returned (.bool false) ∧ Out [] w w' := by
  go_enter Try.func57, Try.ntmps57
  go_wp2
  go_quiet (fail)
  go_wp2
  go_ret
  exact ⟨rfl, (Out.refl _ _).drewN _⟩
section
variable {w : World} {base : Nat} {fp : List Nat} {hb : Nat} {most used : Int} {sv : Value} {tp : List (Nat × Value)} {ts : List Thg}
set_option maxHeartbeats 400000 in
theorem room_no (h : HRep w base fp hb most used sv tp ts) (n : Int) (hn : n < 0 ∨ most - used ≤ n) : Calls Try.prog 57 #[.pointer (some ⟨hb, 0, none⟩), .int .i64 n] w fun e w' => e = .returned (.bool false) ∧ Out [] w w' := by
  have c0 := h.c0
  have c1 := h.c1
  have u0 := h.used0
  have u1 := h.usedM
  have u2 := h.most0
  clear h
  by_cases h0 : n < 0
  · go_enter Try.func57, Try.ntmps57
    go_wp2
    go_quiet (fail)
    go_wp2
    go_ret
    exact ⟨rfl, (Out.refl _ _).drewN _⟩
  · have hd : decide (n < 0) = false := decide_eq_false h0
    have h3 : most - used ≤ n := by omega
    clear hn
    go_enter Try.func57, Try.ntmps57
    go_wp2
    go_quiet (fail)
    go_wp2
    go_ret
    exact ⟨rfl, (Out.refl _ _).drewN _⟩
set_option maxHeartbeats 400000 in
theorem room_yes (h : HRep w base fp hb most used sv tp ts) (n : Int) (h0 : 0 ≤ n) (hn : n < most - used) : Calls Try.prog 57 #[.pointer (some ⟨hb, 0, none⟩), .int .i64 n] w fun e w' => e = .returned (.bool true) ∧ HRep w' base fp hb most (used + n + 1) sv tp ts ∧ Out [hb] w w' := by
  have c0 := h.c0
  have c1 := h.c1
  have f1 := h.free 1
  have u0 := h.used0
  have u1 := h.usedM
  have u2 := h.most0
  have H := fun q => (h.drewN q).setUsed (u := used + n + 1) (by omega) (by omega)
  clear h
  have hd : decide (n < 0) = false := decide_eq_false (by omega)
  have H' := Lib.hid H
  clear H
  go_enter Try.func57, Try.ntmps57
  go_wp2
  go_quiet (fail)
  go_wp2
  go_ret
  have H2 := H'.out nq
  have e : used + n + 1 = used + (n + 1) := by omega
  rw [e] at H2 ⊢
  exact ⟨rfl, H2, ((Out.refl _ _).drewN _).setCell (.inl (by simp)) _⟩
end
end Go.Proofs.Ytdelikjodacedaa
