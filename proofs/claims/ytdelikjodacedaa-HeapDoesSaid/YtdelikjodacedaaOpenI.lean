/- Arguments that are slices of ints, and of rows of three ints: opened to 'Ints'. -/
import Derived.Test.YtdelikjodacedaaArr
import Derived.Deep.Slices
namespace Go.Proofs.Ytdelikjodacedaa
open Go.ChangeShapes Go.WideShapes Go.ChangeAt Go.RowKit

/-- A slice of n ints, or of n rows of c ints. -/
def Ints (c : Nat) (w : World) (v : Value) (n : Nat) : Prop :=
  ∃ oa cap, v = .slice oa n cap ∧ n ≤ cap ∧ cap ≤ maxLen ∧ ∀ i, i < n → ∃ b o, oa = some ⟨b, o, none⟩ ∧ b < w.heap.size ∧ ∀ k, k < c → ∃ x : Int, w.cell? ⟨b, o + i * c + k, none⟩ = some (.int .i64 x)

theorem spot_none {w : World} {a : Addr} {v : Value} (h : w.cell? a = some v) : ∃ b o, a = ⟨b, o, none⟩ := by
  unfold World.cell? at h
  split at h
  · split at h
    · cases h
    · rename_i hs
      obtain ⟨b, o, s⟩ := a
      cases s with
      | none => exact ⟨b, o, rfl⟩
      | some x => simp at hs
  · cases h
theorem add_at (b o n : Nat) : (⟨b, o, none⟩ : Addr).add n = ⟨b, o + n, none⟩ := by
  unfold Addr.add; split <;> simp_all
section
variable {H : Type} {enc : TypeId × Value → H} {w : World} {base : Nat} {spare : Nat → Bool} {held : Bool}
theorem open_ints {v : Value} {d : DataW H} {p : List MemPlace} (h : DataW.Trod enc Try.prog w base spare held 37 v d p) (hv : ∃ a l c, v = .slice a l c) : ∃ n, Ints 1 w v n := by
  obtain ⟨a, l, c, rfl⟩ := hv
  obtain ⟨fuel, hf⟩ := h
  rcases Deep.open_slice1 Try.underlying37 Try.cells3 hf with ⟨h1, _⟩ | ⟨a, len, cap, m, n, V, D, Pl, h1, hb, hl, hm, hmm, _, hx⟩
  · simp [Value.cells] at h1
    obtain ⟨rfl, rfl, rfl⟩ := h1
    exact ⟨0, none, 0, rfl, Nat.le_refl _, Nat.zero_le _, fun i hi => absurd hi (by omega)⟩
  · simp [Value.cells] at h1
    obtain ⟨rfl, rfl, rfl⟩ := h1
    refine ⟨l, _, _, rfl, hl, hm, fun i hi => ?_⟩
    have him : ∀ {j}, j < l → j < m := fun hj => by rw [hmm]; split <;> omega
    obtain ⟨b, o, hab⟩ := spot_none (hx 0 (him (by omega))).1
    obtain rfl : a = ⟨b, o, none⟩ := by simpa [Addr.add] using hab
    obtain ⟨hc, ht⟩ := hx i (him hi)
    rw [add_at] at hc
    refine ⟨b, o, rfl, World.block_lt_of_cell? w ⟨b, o + i, none⟩ hc, fun k hk => ?_⟩
    obtain ⟨x, hx2, _, _⟩ := DataW.trod_int Try.underlying3 ht
    obtain rfl : k = 0 := by omega
    simp at hx2
    exact ⟨x, by rw [Nat.mul_one, Nat.add_zero, hc, hx2]⟩
theorem open_rows3 {v : Value} {d : DataW H} {p : List MemPlace} (h : DataW.Trod enc Try.prog w base spare held 38 v d p) (hv : ∃ a l c, v = .slice a l c) : ∃ n, Ints 3 w v n := by
  obtain ⟨a, l, c, rfl⟩ := hv
  obtain ⟨fuel, hf⟩ := h
  rcases Deep.open_slice Try.underlying38 hf with ⟨h1, _⟩ | ⟨a, len, cap, m, n, D, Pl, h1, hb, hl, hm, hmm, _, hx⟩
  · simp [Value.cells] at h1
    obtain ⟨rfl, rfl, rfl⟩ := h1
    exact ⟨0, none, 0, rfl, Nat.le_refl _, Nat.zero_le _, fun i hi => absurd hi (by omega)⟩
  · simp [Value.cells] at h1
    obtain ⟨rfl, rfl, rfl⟩ := h1
    rw [Try.cells34] at hx
    refine ⟨l, _, _, rfl, hl, hm, fun i hi => ?_⟩
    have him : ∀ {j}, j < l → j < m := fun hj => by rw [hmm]; split <;> omega
    have cells : ∀ j, j < l → ∃ cs : List Value, cs.length = 3 ∧ (∀ k, k < 3 → w.cell? ((a.add (j * 3)).add k) = cs[k]?) ∧ ∀ k, k < 3 → ∃ x : Int, cs[k]? = some (.int .i64 x) := fun j hj => by
      obtain ⟨cs, hc, ht⟩ := hx j (him hj)
      obtain ⟨_, hlen, hat⟩ := World.cells?_some hc
      refine ⟨cs, hlen, hat, fun k hk => ?_⟩
      obtain ⟨xs, m', _, _, _, hl', hx'⟩ := DataW.trod_array Try.underlying34 ht
      have e := hx' k hk
      rw [Try.cells3, Nat.mul_one] at e
      rw [List.getElem?_eq_getElem (by omega)] at e
      obtain ⟨x, hx2, _, _⟩ := DataW.trod_int Try.underlying3 e
      refine ⟨x, ?_⟩
      have := congrArg (fun l => l[0]?) hx2
      simpa [List.getElem?_take] using this
    obtain ⟨cs0, _, hat0, hi0⟩ := cells 0 (by omega)
    obtain ⟨x0, hx0⟩ := hi0 0 (by omega)
    have h00 := hat0 0 (by omega)
    rw [hx0] at h00
    obtain ⟨b, o, hab⟩ := spot_none h00
    obtain rfl : a = ⟨b, o, none⟩ := by simpa [Addr.add] using hab
    obtain ⟨cs, _, hat, hi'⟩ := cells i hi
    have hb0 : b < w.heap.size := World.block_lt_of_cell? w ⟨b, o, none⟩ (by simpa [Addr.add] using h00)
    refine ⟨b, o, rfl, hb0, fun k hk => ?_⟩
    obtain ⟨x, hx⟩ := hi' k hk
    have := hat k hk
    rw [add_at, add_at, hx] at this
    exact ⟨x, this⟩
end
end Go.Proofs.Ytdelikjodacedaa
