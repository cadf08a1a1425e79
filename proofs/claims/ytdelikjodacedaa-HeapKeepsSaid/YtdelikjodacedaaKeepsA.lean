/- HeapKeeps' own list of rows, as it lies in memory beside the heap; what each step makes of both. -/
import Derived.Test.YtdelikjodacedaaKnownA
namespace Go.Proofs.Ytdelikjodacedaa
open Go.RowKit

/-- The things that stand for rows of longs. -/
def tsOf (wl : List (List Int)) : List Thg := wl.mapIdx fun i l => ⟨true, 2, i, l.map fun x => (2, x)⟩
theorem tsOf_length (wl : List (List Int)) : (tsOf wl).length = wl.length := by simp [tsOf]
theorem tsOf_get (wl : List (List Int)) (i : Nat) : (tsOf wl)[i]? = (wl[i]?).map fun l => ⟨true, 2, i, l.map fun x => (2, x)⟩ := by simp [tsOf]
theorem tsOf_snoc (wl : List (List Int)) (n : Nat) : tsOf (wl ++ [List.replicate n 0]) = tsOf wl ++ [arrT 2 wl.length n] := by
  simp [tsOf, arrT, List.mapIdx_append]
theorem tsOf_set (wl : List (List Int)) (r : Nat) (l : List Int) (h : wl[r]? = some l) (j : Nat) (n : Int) : (tsOf wl).set r (setT ⟨true, 2, r, l.map fun x => (2, x)⟩ j 2 n) = tsOf (wl.set r (l.set j n)) := by
  apply List.ext_getElem?
  intro i
  rw [tsOf_get, List.getElem?_set, List.getElem?_set, tsOf_length]
  by_cases hi : r = i
  · subst hi
    simp only [if_true]
    have := lt_of_get h
    rw [if_pos this, if_pos this]
    simp [setT, List.map_set]
  · rw [if_neg hi, if_neg hi, tsOf_get]

/-- How many cells they take. -/
def cellsOf (wl : List (List Int)) : Int := (wl.map fun l => (l.length : Int) + 1).sum
theorem cellsOf_snoc (wl : List (List Int)) (l : List Int) : cellsOf (wl ++ [l]) = cellsOf wl + (l.length + 1) := by simp [cellsOf]

/-- The rows: the slice of them, each one's slice, what they hold. -/
structure WRep (w : World) (base : Nat) (gp : List Nat) (wv : Value) (rv : List Value) (wl : List (List Int)) : Prop where
  ge : ∀ k ∈ gp, base ≤ k
  lt : ∀ k ∈ gp, k < w.heap.size
  mem : InFp gp wv
  row : w.ownsRow base 37 1 wv wl.length rv
  len : rv.length = wl.length
  rows : ∀ (i : Nat) (v : Value) (l : List Int), rv[i]? = some v → wl[i]? = some l → InFp gp v ∧ w.ownsRow base 3 1 v l.length (l.map (Value.int .i64))
  inj : ∀ (i j : Nat) (u v : Value) (g : Nat), rv[i]? = some u → rv[j]? = some v → u.ownBlock = some g → v.ownBlock = some g → i = j

theorem WRep.nil (w : World) (base : Nat) : WRep w base [] (.slice none 0 0) [] [] :=
  { ge := by simp
    lt := by simp
    mem := fun g hg => by simp [Value.ownBlock] at hg
    row := World.ownsRow_nil _ _ _ _
    len := rfl
    rows := fun i v l h => by simp at h
    inj := fun i j u v g h => by simp at h }
section
variable {w : World} {base : Nat} {gp : List Nat} {wv : Value} {rv : List Value} {wl : List (List Int)}
theorem WRep.same (h : WRep w base gp wv rv wl) {w' : World} (hk : ∀ k ∈ gp, w'.heap[k]? = w.heap[k]?) : WRep w' base gp wv rv wl :=
  { h with
    lt := fun k hm => by
      have := hk k hm
      rw [Array.getElem?_eq_getElem (h.lt k hm)] at this
      exact lt_of_block this
    row := ownsRow_same h.row fun g hg => hk g (h.mem g hg)
    rows := fun i v l hv hl =>
      have R := h.rows i v l hv hl
      ⟨R.1, ownsRow_same R.2 fun g hg => hk g (R.1 g hg)⟩ }
theorem WRep.out (h : WRep w base gp wv rv wl) {w' : World} {fp : List Nat} (ho : Out fp w w') (hd : ∀ k ∈ gp, k ∉ fp) : WRep w' base gp wv rv wl :=
  h.same fun k hk => ho.block k (h.lt k hk) (hd k hk)

/-- One row more. -/
theorem WRep.next (h : WRep w base gp wv rv wl) {v : Value} {l : List Int} (hv : w.ownsRow base 3 1 v l.length (l.map (Value.int .i64))) (hn : ∀ g, v.ownBlock = some g → g ∉ gp) {o : Obj} {w1 : World} {wv' : Value}
    (hown : w1.ownsRow base 37 1 wv' (wl.length + 1) (rv ++ [v])) (hgrow : (w.alloc o).grownBy w1 wv.ownBlock) :
    WRep w1 base (gp ++ (v.ownBlock.toList ++ wv'.ownBlock.toList)) wv' (rv ++ [v]) (wl ++ [l]) := by
  have old : ∀ k, k < w.heap.size → wv.ownBlock ≠ some k → w1.heap[k]? = w.heap[k]? := fun k hk hne =>
    (hgrow.block k (by simp; omega) (fun e => hne e.symm)).trans (Below.heap_alloc w o k hk)
  have hsz : w.heap.size + 1 ≤ w1.heap.size := by have := hgrow.size; simpa using this
  have memI : ∀ k, k ∈ gp ++ (v.ownBlock.toList ++ wv'.ownBlock.toList) ↔ k ∈ gp ∨ v.ownBlock = some k ∨ wv'.ownBlock = some k := fun k => by simp
  have ne3 : ∀ {u : Value} {n : Nat} {xs : List Value} {g : Nat}, w.ownsRow base 3 1 u n xs → u.ownBlock = some g → wv.ownBlock ≠ some g := fun hu hg e => by
    obtain ⟨cur, hc⟩ := owns_block hu hg
    exact owns_ne h.row e hc (by decide) rfl
  exact {
    ge := fun k hk => by
      rcases (memI k).1 hk with hk | hk | hk
      · exact h.ge k hk
      · exact (hv.lt k hk).1
      · exact (hown.lt k hk).1
    lt := fun k hk => by
      rcases (memI k).1 hk with hk | hk | hk
      · have := h.lt k hk; omega
      · have := (hv.lt k hk).2; omega
      · exact (hown.lt k hk).2
    mem := fun g hg => (memI g).2 (.inr (.inr hg))
    row := by rw [List.length_append]; exact hown
    len := by simp [h.len]
    rows := fun i u m hu hm => by
      rcases getElem?_snoc hu with hu1 | ⟨rfl, rfl⟩
      · have hi := lt_of_get hu1
        rw [List.getElem?_append_left (by rw [← h.len]; exact hi)] at hm
        have R := h.rows i u m hu1 hm
        exact ⟨fun g hg => (memI g).2 (.inl (R.1 g hg)), ownsRow_same R.2 fun g hg => old g (h.lt g (R.1 g hg)) (ne3 R.2 hg)⟩
      · rw [h.len, List.getElem?_append_right (Nat.le_refl _), Nat.sub_self] at hm
        simp at hm
        subst hm
        exact ⟨fun g hg => (memI g).2 (.inr (.inl hg)), ownsRow_same hv fun g hg => old g (hv.lt g hg).2 (ne3 hv hg)⟩
    inj := fun i j u x g hu hx hgu hgx => by
      have there : ∀ {i : Nat} {u : Value}, rv[i]? = some u → ∃ m, wl[i]? = some m := fun {i u} hu => by
        have := lt_of_get hu
        exact ⟨wl[i]'(by rw [← h.len]; exact this), by simp⟩
      rcases getElem?_snoc hu with hu1 | ⟨rfl, rfl⟩ <;> rcases getElem?_snoc hx with hx1 | ⟨rfl, rfl⟩
      · exact h.inj i j u x g hu1 hx1 hgu hgx
      · obtain ⟨m, hm⟩ := there hu1
        exact absurd ((h.rows i u m hu1 hm).1 g hgu) (hn g hgx)
      · obtain ⟨m, hm⟩ := there hx1
        exact absurd ((h.rows j x m hx1 hm).1 g hgx) (hn g hgu)
      · rfl }

/-- Another number in a row. -/
theorem WRep.put (h : WRep w base gp wv rv wl) {r : Nat} {g cap : Nat} {l : List Int} (hl : wl[r]? = some l) (hv : rv[r]? = some (.slice (some ⟨g, 0, none⟩) l.length cap)) (j : Nat) (n : Int) :
    WRep (w.setCell ⟨g, j, none⟩ (.int .i64 n)) base gp wv rv (wl.set r (l.set j n)) ∧ g ∈ gp := by
  have R := h.rows r _ l hv hl
  obtain ⟨cur, hcur⟩ := owns_block R.2 (g := g) rfl
  have old : ∀ x, x ≠ g → (w.setCell ⟨g, j, none⟩ (.int .i64 n)).heap[x]? = w.heap[x]? := fun x hx => Below.heap_setCell _ _ _ _ hx
  have hrow2 := (R.2.stored j (.int .i64 n)).1
  rw [← List.map_set] at hrow2
  refine ⟨{ h with
    lt := fun x hx => by have := h.lt x hx; simpa [World.setCell] using this
    row := by rw [List.length_set]; exact ownsRow_same h.row fun x hx => old x (owns_ne h.row hx hcur (by decide))
    len := by simp [h.len]
    rows := fun i v m hv' hm => ?_ }, R.1 g rfl⟩
  by_cases hi : i = r
  · subst hi
    rw [hv] at hv'
    cases hv'
    rw [List.getElem?_set_self (lt_of_get hl)] at hm
    cases hm
    exact ⟨R.1, by simpa using hrow2⟩
  · rw [List.getElem?_set_ne (by omega)] at hm
    have U := h.rows i v m hv' hm
    refine ⟨U.1, ownsRow_same U.2 fun x hx => old x ?_⟩
    rintro rfl
    exact hi (h.inj i r v _ x hv' hv hx rfl)
end
end Go.Proofs.Ytdelikjodacedaa
