/- The functions that make the operators of ints and of longs, by contract: an array of function values, and the variable that three of them share; no conditions. -/
import Derived.Test.YtdelikjodacedaaRows
import Derived.WalkKit
import Derived.WalkSpells
import Derived.WalkLawsBesides
import Derived.Laws.EntriesVeiled
namespace Go.Proofs.Ytdelikjodacedaa
open Go.RowKit

def arr32 (p : Nat) : Array Value := #[.func (.func 64) #[] #[], .func (.func 65) #[] #[], .func (.func 66) #[] #[], .func (.func 67) #[] #[], .func (.func 68) #[] #[], .func (.func 69) #[] #[], .func (.func 70) #[] #[], .func (.func 71) #[] #[], .func (.func 72) #[] #[.pointer (some ⟨p, 0, none⟩)], .func (.func 73) #[] #[.pointer (some ⟨p, 0, none⟩)], .func (.func 74) #[] #[.pointer (some ⟨p, 0, none⟩)]]
set_option maxHeartbeats 400000 in
theorem operators32 (w : World) :
    Calls Try.prog 49 #[.int .i64 32] w fun e w' => e = .returned (.agg (arr32 (w.heap.size + 2)))
      ∧ Below w.heap.size w w' ∧ w'.cell? ⟨w.heap.size + 2, 0, none⟩ = some (.func (.func 63) #[] #[.pointer (some ⟨w.heap.size, 0, none⟩)]) ∧ w'.cell? ⟨w.heap.size, 0, none⟩ = some (.int .i64 32) := by
  have hmf : ∀ (fn : Fn) (first cap : Array Value) (w : World), (Instr.makeFunc fn first cap).run Try.prog w = .ok (.func fn first cap) w := fun _ _ _ _ => rfl
  unfold arr32
  go_enter Try.func49, Try.ntmps49
  go_wp2
  refine bodyPost_ret (v := .agg #[.func (.func 64) #[] #[], .func (.func 65) #[] #[], .func (.func 66) #[] #[], .func (.func 67) #[] #[], .func (.func 68) #[] #[], .func (.func 69) #[] #[], .func (.func 70) #[] #[], .func (.func 71) #[] #[], .func (.func 72) #[] #[.pointer (some ⟨w.heap.size + 2, 0, none⟩)], .func (.func 73) #[] #[.pointer (some ⟨w.heap.size + 2, 0, none⟩)], .func (.func 74) #[] #[.pointer (some ⟨w.heap.size + 2, 0, none⟩)]]) (by simp [results, Try.results49, go_sem]) rfl ⟨rfl, ?_, ?_, ?_⟩
  · exact (((Below.refl _ _).alloc (Nat.le_refl _) _).alloc (by simp) _).alloc (by simp; omega) _
  · simp [go_sem]
  · simp [go_sem]

def arr64 (p : Nat) : Array Value := #[.func (.func 76) #[] #[], .func (.func 77) #[] #[], .func (.func 78) #[] #[], .func (.func 79) #[] #[], .func (.func 80) #[] #[], .func (.func 81) #[] #[], .func (.func 82) #[] #[], .func (.func 83) #[] #[], .func (.func 84) #[] #[.pointer (some ⟨p, 0, none⟩)], .func (.func 85) #[] #[.pointer (some ⟨p, 0, none⟩)], .func (.func 86) #[] #[.pointer (some ⟨p, 0, none⟩)]]
set_option maxHeartbeats 400000 in
theorem operators64 (w : World) :
    Calls Try.prog 50 #[.int .i64 64] w fun e w' => e = .returned (.agg (arr64 (w.heap.size + 2)))
      ∧ Below w.heap.size w w' ∧ w'.cell? ⟨w.heap.size + 2, 0, none⟩ = some (.func (.func 75) #[] #[.pointer (some ⟨w.heap.size, 0, none⟩)]) ∧ w'.cell? ⟨w.heap.size, 0, none⟩ = some (.int .i64 64) := by
  have hmf : ∀ (fn : Fn) (first cap : Array Value) (w : World), (Instr.makeFunc fn first cap).run Try.prog w = .ok (.func fn first cap) w := fun _ _ _ _ => rfl
  unfold arr64
  go_enter Try.func50, Try.ntmps50
  go_wp2
  refine bodyPost_ret (v := .agg #[.func (.func 76) #[] #[], .func (.func 77) #[] #[], .func (.func 78) #[] #[], .func (.func 79) #[] #[], .func (.func 80) #[] #[], .func (.func 81) #[] #[], .func (.func 82) #[] #[], .func (.func 83) #[] #[], .func (.func 84) #[] #[.pointer (some ⟨w.heap.size + 2, 0, none⟩)], .func (.func 85) #[] #[.pointer (some ⟨w.heap.size + 2, 0, none⟩)], .func (.func 86) #[] #[.pointer (some ⟨w.heap.size + 2, 0, none⟩)]]) (by simp [results, Try.results50, go_sem]) rfl ⟨rfl, ?_, ?_, ?_⟩
  · exact (((Below.refl _ _).alloc (Nat.le_refl _) _).alloc (by simp) _).alloc (by simp; omega) _
  · simp [go_sem]
  · simp [go_sem]
end Go.Proofs.Ytdelikjodacedaa
