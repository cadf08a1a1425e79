/- The document's heap: New, Known, Of, Get, by contract. -/
import Derived.Test.YtdelikjodacedaaXRep
namespace Go.Proofs.Ytdelikjodacedaa
open Go.RowKit
section
variable {w : World} {base : Nat} {fp : List Nat} {xb : Nat} {most used : Int} {sv : Value} {tp : List (Thg × Value)} {ts : List Thg}
set_option maxHeartbeats 400000 in
theorem XKnown_any (h : XRep w base fp xb most used sv tp ts) (ref : Int) : Calls Try.prog 62 #[.pointer (some ⟨xb, 0, none⟩), .int .i64 ref] w fun e w' => e = .returned (.bool (knows ts.length ref)) ∧ w' = w := by
  have h2 := h.c2
  obtain ⟨a, cap, rfl, _, _, _⟩ := owns_shape h.row
  clear h
  by_cases k1 : 1 ≤ ref
  · by_cases k2 : ref ≤ ts.length
    · have e : knows ts.length ref = true := decide_eq_true ⟨k1, k2⟩
      rw [e]; clear e
      generalize ts.length = n at *
      go_enter Try.func62, Try.ntmps62
      go_wp2
      go_ret
      exact ⟨rfl, rfl⟩
    · have e : knows ts.length ref = false := decide_eq_false (by omega)
      rw [e]; clear e
      generalize ts.length = n at *
      go_enter Try.func62, Try.ntmps62
      go_wp2
      go_ret
      exact ⟨rfl, rfl⟩
  · have e : knows ts.length ref = false := decide_eq_false (by omega)
    rw [e]; clear e
    generalize ts.length = n at *
    go_enter Try.func62, Try.ntmps62
    go_wp2
    go_ret
    exact ⟨rfl, rfl⟩
/-- A thing as a value. -/
abbrev aggT (t : Thg) (lv : Value) : Value := .agg #[.bool t.arr, .int .i64 t.kind, .int .i64 t.cls, lv]
abbrev blkT (t : Thg) (lv : Value) : Obj := .cells #[.bool t.arr, .int .i64 t.kind, .int .i64 t.cls, lv] 65
/-- What 'Of' hands back. -/
def XOfPost (t : Thg) (w : World) (e : Ending) (w' : World) : Prop :=
  ∃ lv, e = .returned (aggT t lv) ∧ w'.ownsRow 0 45 2 lv t.l.length (flatV t.l) ∧ Out [] w w'
abbrev zeroT : Obj := .cells #[.bool false, .int .i64 0, .int .i64 0, .slice none 0 0] 65
theorem four_stored {w : World} {s : Nat} {c0 c1 c2 c3 : Value} {e : TypeId} (h : w.heap[s]? = some (.cells #[c0, c1, c2, c3] e (0, 0))) (x y z u : Value) :
    ((((w.setCell ⟨s, 0, none⟩ x).setCell ⟨s, 1, none⟩ y).setCell ⟨s, 2, none⟩ z).setCell ⟨s, 3, none⟩ u).heap[s]? = some (.cells #[x, y, z, u] e (0, 0)) := by
  rw [block_setCell (block_setCell (block_setCell (block_setCell h x) y) z) u]; rfl
theorem Out.four {fp : List Nat} {a w : World} (h : Out fp a w) {s : Nat} (hs : a.heap.size ≤ s) (x y z u : Value) :
    Out fp a ((((w.setCell ⟨s, 0, none⟩ x).setCell ⟨s, 1, none⟩ y).setCell ⟨s, 2, none⟩ z).setCell ⟨s, 3, none⟩ u) :=
  (((h.setCell (.inr hs) x).setCell (.inr hs) y).setCell (.inr hs) z).setCell (.inr hs) u
set_option maxHeartbeats 800000 in
theorem XOf_none (h : XRep w base fp xb most used sv tp ts) (ref : Int) (hr : ref < 1 ∨ ts.length < ref) : Calls Try.prog 44 #[.pointer (some ⟨xb, 0, none⟩), .int .i64 ref] w (XOfPost noThg w) := by
  have h' := h.out ((Out.refl [] w).alloc zeroT) (by simp)
  have K := XKnown_any h' ref
  rw [show knows ts.length ref = false from decide_eq_false (by omega)] at K
  have hb := heap_alloc_new w zeroT
  have d0 := cell_in hb 0 rfl
  have d1 := cell_in hb 1 rfl
  have d2 := cell_in hb 2 rfl
  have d3 := cell_in hb 3 rfl
  have f0 := free_in hb 0
  have f1 := free_in hb 1
  have f2 := free_in hb 2
  have f3 := free_in hb 3
  have ho := (Out.refl [] w).alloc zeroT
  clear h h' hr
  go_enter Try.func44, Try.ntmps44
  go_wp2_with (go_at_call 62; refine K.mono ?_; rintro e w' ⟨rfl, rfl⟩; generalize w.alloc zeroT = V at *)
  have hs := four_stored hb (.bool false) (.int .i64 0) (.int .i64 0) (.slice none 0 0)
  have r0 := cell_in hs 0 rfl
  have r1 := cell_in hs 1 rfl
  have r2 := cell_in hs 2 rfl
  have r3 := cell_in hs 3 rfl
  refine bodyPost_ret (v := .agg #[.bool false, .int .i64 0, .int .i64 0, .slice none 0 0]) (by simp [results, Try.results44, go_sem, r0, r1, r2, r3]) rfl ?_
  exact ⟨_, rfl, World.ownsRow_nil _ _ _ _, ho.four (Nat.le_refl _) _ _ _ _⟩
set_option maxHeartbeats 800000 in
theorem XOf_some (h : XRep w base fp xb most used sv tp ts) (i : Nat) (t : Thg) (ht : ts[i]? = some t) : Calls Try.prog 44 #[.pointer (some ⟨xb, 0, none⟩), .int .i64 (i + 1)] w (XOfPost t w) := by
  have h' := h.out ((Out.refl [] w).alloc zeroT) (by simp)
  have hi := lt_of_get ht
  have K := XKnown_any h' (i + 1)
  rw [show knows ts.length (i + 1) = true from decide_eq_true (by omega)] at K
  have hb := heap_alloc_new w zeroT
  have d0 := cell_in hb 0 rfl
  have d1 := cell_in hb 1 rfl
  have d2 := cell_in hb 2 rfl
  have d3 := cell_in hb 3 rfl
  have f0 := free_in hb 0
  have f1 := free_in hb 1
  have f2 := free_in hb 2
  have f3 := free_in hb 3
  have ho := (Out.refl [] w).alloc zeroT
  obtain ⟨v, hv⟩ := h'.tsAt ht
  have hrow : (w.alloc zeroT).ownsRow base 45 2 v t.l.length (flatV t.l) := (h'.things i _ hv).2
  have hrl : ∀ g, v.ownBlock = some g → g < w.heap.size := fun g hg => h.lt g ((h'.things i _ hv).1 g hg)
  have c2 := h'.c2
  obtain ⟨a, cap, rfl, hc1, hc2, hat⟩ := owns_shape h'.row
  obtain ⟨g, rfl, hg1, hg2, hcell, _⟩ := hat (by omega)
  have hgl := h.lt g (h.smem g rfl)
  have e0 := hcell (i * 4 + 0) _ (flatT_get tp i 0 (by omega) hv)
  have e1 := hcell (i * 4 + 1) _ (flatT_get tp i 1 (by omega) hv)
  have e2 := hcell (i * 4 + 2) _ (flatT_get tp i 2 (by omega) hv)
  have e3 := hcell (i * 4 + 3) _ (flatT_get tp i 3 (by omega) hv)
  rw [Nat.add_zero] at e0
  simp only at e0 e1 e2 e3
  unfold maxLen at hc2
  have ROW := Lib.hid hrow
  have hgne : g ≠ w.heap.size := by omega
  obtain ⟨la, lc, rfl, _, _, _⟩ := owns_shape hrow
  clear h h' hcell hat ht hv hrow
  generalize ts.length = n at *
  go_enter Try.func44, Try.ntmps44
  go_wp2_with (go_at_call 62; refine K.mono ?_; rintro e w' ⟨rfl, rfl⟩; generalize w.alloc zeroT = V at *)
  have hs := four_stored hb (.bool t.arr) (.int .i64 t.kind) (.int .i64 t.cls) (.slice la t.l.length lc)
  have r0 := cell_in hs 0 rfl
  have r1 := cell_in hs 1 rfl
  have r2 := cell_in hs 2 rfl
  have r3 := cell_in hs 3 rfl
  refine bodyPost_ret (v := .agg #[.bool t.arr, .int .i64 t.kind, .int .i64 t.cls, .slice la t.l.length lc]) (by simp [results, Try.results44, go_sem, r0, r1, r2, r3]) rfl ?_
  refine ⟨_, rfl, ownsRow_base (ownsRow_same ROW.out fun x hx => ?_) (Nat.zero_le _), ho.four (Nat.le_refl _) _ _ _ _⟩
  have hne : x ≠ w.heap.size := by have := hrl x hx; omega
  exact (Below.heap_setCell _ _ _ _ hne).trans ((Below.heap_setCell _ _ _ _ hne).trans ((Below.heap_setCell _ _ _ _ hne).trans (Below.heap_setCell _ _ _ _ hne)))
theorem XOf_any (h : XRep w base fp xb most used sv tp ts) (ref : Int) : Calls Try.prog 44 #[.pointer (some ⟨xb, 0, none⟩), .int .i64 ref] w (XOfPost (look ts ref) w) := by
  by_cases hr : ref < 1 ∨ ts.length < ref
  · rw [look_none hr]; exact XOf_none h ref hr
  · obtain ⟨i, rfl⟩ : ∃ i : Nat, ref = i + 1 := ⟨(ref - 1).toNat, by omega⟩
    have ht : ts[i]? = some (ts[i]'(by omega)) := by simp
    rw [look_some ht]
    exact XOf_some h i _ ht

/-- Behind 'Of': its result in a variable's block; the row that it speaks of is as it was. -/
theorem of_var {w0 w w' : World} {t : Thg} {lv : Value} (hrow : w'.ownsRow 0 45 2 lv t.l.length (flatV t.l)) (ho : Out [] w w') (h0 : Out [] w0 w) :
    (w'.alloc (.cells #[.bool t.arr, .int .i64 t.kind, .int .i64 t.cls, lv] 65)).heap[w'.heap.size]? = some (.cells #[.bool t.arr, .int .i64 t.kind, .int .i64 t.cls, lv] 65) ∧ (w'.alloc (.cells #[.bool t.arr, .int .i64 t.kind, .int .i64 t.cls, lv] 65)).ownsRow 0 45 2 lv t.l.length (flatV t.l) ∧ Out [] w0 (w'.alloc (.cells #[.bool t.arr, .int .i64 t.kind, .int .i64 t.cls, lv] 65)) :=
  ⟨heap_alloc_new w' _, hrow.alloc _, (h0.trans ho (by simp)).alloc _⟩
set_option maxHeartbeats 800000 in
theorem XGet_any (h : XRep w base fp xb most used sv tp ts) (ref i : Int) : Calls Try.prog 42 #[.pointer (some ⟨xb, 0, none⟩), .int .i64 ref, .int .i64 i] w (GetPost (look ts ref) i w) := by
  have h' := h.out ((Out.refl [] w).alloc (.cells #[.int .i64 0, .int .i64 0] 45)) (by simp)
  have K := XOf_any h' ref
  have hb := heap_alloc_new w (.cells #[.int .i64 0, .int .i64 0] 45)
  have hlt : w.heap.size < (w.alloc (.cells #[.int .i64 0, .int .i64 0] 45)).heap.size := by simp
  clear h h'
  generalize look ts ref = t at *
  have HB := Lib.hid hb
  by_cases hi : i < 0 ∨ t.l.length ≤ i
  · have e1 := getV_none hi
    have e2 : getB t i = false := decide_eq_false (by omega)
    unfold GetPost
    rw [e1, e2]
    clear e1 e2
    rcases hi with hi | hi
    all_goals
      go_enter Try.func42, Try.ntmps42
      go_wp2_with (go_at_call 44; refine K.mono ?_; rintro e w' ⟨lv, rfl, hrow, hout⟩; have hk := (hout.block _ hlt (by simp)).trans HB.out; obtain ⟨b1, b2, b3⟩ := of_var hrow hout ((Out.refl [] w).alloc _); have hk2 := (Below.heap_alloc w' (.cells #[.bool t.arr, .int .i64 t.kind, .int .i64 t.cls, lv] 65) w.heap.size (lt_of_block hk)).trans hk; clear hk hrow hout; obtain ⟨la, lc, rfl, _, _, _⟩ := owns_shape b2; have d0 := cell_in hk2 0 rfl; have d1 := cell_in hk2 1 rfl; have f0 := free_in hk2 0; have f1 := free_in hk2 1; have c3 := cell_in b1 3 rfl)
      have hs := two_stored hk2 (.int .i64 0) (.int .i64 0)
      have r0 := cell_in hs 0 rfl
      have r1 := cell_in hs 1 rfl
      refine bodyPost_ret (v := .tuple #[.agg #[.int .i64 0, .int .i64 0], .bool false]) (by simp [results, Try.results42, go_sem, r0, r1]) rfl ⟨rfl, ?_⟩
      exact (b3.setCell (.inr (Nat.le_refl _)) _).setCell (.inr (Nat.le_refl _)) _
  · obtain ⟨j, rfl⟩ : ∃ j : Nat, i = j := ⟨i.toNat, by omega⟩
    have hj : j < t.l.length := by omega
    have hp : t.l[j]? = some (t.l[j]) := by simp [hj]
    have e1 := getV_some hp
    have e2 : getB t j = true := decide_eq_true (by omega)
    have v0 := flatV_even t.l j
    have v1 := flatV_odd t.l j
    rw [hp] at v0 v1
    unfold GetPost
    rw [e1, e2]
    generalize t.l[j] = p at *
    have V0 := Lib.hid v0
    have V1 := Lib.hid v1
    clear v0 v1 e1 e2 hp hi
    go_enter Try.func42, Try.ntmps42
    go_wp2_with (go_at_call 44; refine K.mono ?_; rintro e w' ⟨lv, rfl, hrow, hout⟩; have hk := (hout.block _ hlt (by simp)).trans HB.out; obtain ⟨b1, b2, b3⟩ := of_var hrow hout ((Out.refl [] w).alloc _); have hk2 := (Below.heap_alloc w' (.cells #[.bool t.arr, .int .i64 t.kind, .int .i64 t.cls, lv] 65) w.heap.size (lt_of_block hk)).trans hk; clear hk hrow hout; obtain ⟨la, lc, rfl, hc1, hc2, hat⟩ := owns_shape b2; obtain ⟨g, rfl, _, _, hcell, _⟩ := hat (by omega); have d0 := cell_in hk2 0 rfl; have d1 := cell_in hk2 1 rfl; have f0 := free_in hk2 0; have f1 := free_in hk2 1; have c3 := cell_in b1 3 rfl; have g0 := hcell _ _ V0.out; have g1 := hcell _ _ V1.out; clear hcell hat; unfold maxLen at hc2)
    have hs := two_stored hk2 (.int .i64 p.1) (.int .i64 p.2)
    have r0 := cell_in hs 0 rfl
    have r1 := cell_in hs 1 rfl
    refine bodyPost_ret (v := .tuple #[.agg #[.int .i64 p.1, .int .i64 p.2], .bool true]) (by simp [results, Try.results42, go_sem, r0, r1]) rfl ⟨rfl, ?_⟩
    exact (b3.setCell (.inr (Nat.le_refl _)) _).setCell (.inr (Nat.le_refl _)) _
end
end Go.Proofs.Ytdelikjodacedaa
