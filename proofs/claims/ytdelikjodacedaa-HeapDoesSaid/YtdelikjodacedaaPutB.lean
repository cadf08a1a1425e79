/- Package heap's Put, by contract: where it writes. -/
import Derived.Test.YtdelikjodacedaaPutA
import Derived.StillTailTactics
namespace Go.Proofs.Ytdelikjodacedaa
open Go.RowKit

/-- A thing with another value at a place. -/
def setT (t : Thg) (j : Nat) (k n : Int) : Thg := { t with l := t.l.set j (k, n) }
section
variable {w : World} {base : Nat} {fp : List Nat} {hb : Nat} {most used : Int} {sv : Value} {tp : List (Nat × Value)} {ts : List Thg}

theorem set_step (h : HRep w base fp hb most used sv tp ts) {r : Nat} {p : Nat × Value} {t : Thg} (hp : tp[r]? = some p) (ht : ts[r]? = some t) {g cap : Nat} (hg : p.2 = .slice (some ⟨g, 0, none⟩) t.l.length cap) (j : Nat) (k n : Int) :
    HRep ((w.setCell ⟨g, j * 2, none⟩ (.int .i64 k)).setCell ⟨g, j * 2 + 1, none⟩ (.int .i64 n)) base fp hb most used sv tp (ts.set r (setT t j k n)) ∧ Out fp w ((w.setCell ⟨g, j * 2, none⟩ (.int .i64 k)).setCell ⟨g, j * 2 + 1, none⟩ (.int .i64 n)) := by
  have T := h.things r p t hp ht
  have hgo : p.2.ownBlock = some g := by rw [hg]; rfl
  have hgm := T.lmem g hgo
  obtain ⟨cur, hcur⟩ := owns_block T.row hgo
  have old : ∀ x, x ≠ g → ((w.setCell ⟨g, j * 2, none⟩ (.int .i64 k)).setCell ⟨g, j * 2 + 1, none⟩ (.int .i64 n)).heap[x]? = w.heap[x]? := fun x hx =>
    (Below.heap_setCell _ _ _ _ hx).trans (Below.heap_setCell _ _ _ _ hx)
  have hrow := T.row
  rw [hg] at hrow
  have hrow2 := ((hrow.stored (j * 2) (.int .i64 k)).1.stored (j * 2 + 1) (.int .i64 n)).1
  rw [← flatV_set t.l j (k, n), ← hg] at hrow2
  refine ⟨{ h with
    lt := fun x hx => by have := h.lt x hx; simpa [World.setCell] using this
    blk := by rw [old _ (blk_ne h.blk hcur (by decide))]; exact h.blk
    row := by
      rw [List.length_set]
      exact ownsRow_same h.row fun x hx => old x (owns_ne h.row hx hcur (by decide))
    len := by simp [h.len]
    things := fun i q u hq hu => ?_
    count := by simpa using h.count }, ((Out.refl fp w).setCell (.inl hgm) _).setCell (.inl hgm) _⟩
  by_cases hi : i = r
  · subst hi
    rw [hp] at hq
    cases hq
    rw [List.getElem?_set_self (lt_of_get ht)] at hu
    cases hu
    refine ⟨T.mem, by rw [old _ (blk_ne T.blk hcur (by decide))]; exact T.blk, T.lmem, ?_⟩
    unfold setT
    simpa using hrow2
  · rw [List.getElem?_set_ne (by omega)] at hu
    have U := h.things i q u hq hu
    refine U.same (fun _ hx => hx) (old _ (blk_ne U.blk hcur (by decide))) fun x hx => old x ?_
    rintro rfl
    exact hi (h.injL i r q p x hq hp hx hgo)

set_option maxHeartbeats 1000000 in
theorem Put_ref (h : HRep w base fp hb most used sv tp ts) {r : Nat} {t : Thg} (ht : ts[r]? = some t) (j : Nat) (y n : Int) (hj : t.l[j]? = some (3, y)) (hn : (n != 0) = true) (hn2 : knows ts.length n = true) :
    Calls Try.prog 30 #[.pointer (some ⟨hb, 0, none⟩), .int .i64 (r + 1), .int .i64 j, .agg #[.int .i64 3, .int .i64 n]] w fun e w' => e = .returned (.bool true) ∧ HRep w' base fp hb most used sv tp (ts.set r (setT t j 3 n)) ∧ Out fp w w' := by
  have h1 := h.out ((Out.refl [] w).alloc (valBlk 3 n)) (by simp)
  have K := Get_any h1.a (r + 1) j
  unfold GetPost at K
  rw [look_some ht, getV_some hj, show getB t j = true from decide_eq_true ⟨by omega, by have := lt_of_get hj; omega⟩] at K
  have hjl := lt_of_get hj
  have v0 := flatV_even t.l j
  have v1 := flatV_odd t.l j
  rw [hj] at v0 v1
  have V0 := Lib.hid v0
  have V1 := Lib.hid v1
  clear v0 v1
  have h2 : ∀ w' (_ : Out [] (w.alloc (valBlk 3 n)) w'), HRep (w'.alloc (.cells #[.int .i64 3, .int .i64 y] 45)) base fp hb most used sv tp ts := fun w' ho => (h1.out ho (by simp)).out ((Out.refl [] w').alloc _) (by simp)
  obtain ⟨p, hp⟩ := h.tpAt (lt_of_get ht)
  have hr := lt_of_get ht
  have hr2 : ts.length ≤ 1000000 := by have := h.usedM; have := h.most0; have := h.count; omega
  have K2 := fun w' ho => Known_any (h2 w' ho) n
  rw [hn2] at K2
  have HK2 := Lib.hid K2
  obtain ⟨a, cap, hlv, hc1, hc2, hat⟩ := owns_shape (h.things r p t hp ht).row
  obtain ⟨g, rfl, _, hgo, hcell, hfree⟩ := hat (by omega)
  have FIN := Lib.hid fun w' ho => h2 w' ho
  have HK := Lib.hid K
  clear K h h1 h2 hj hcell hfree hat K2 hn2
  go_enter Try.func30, Try.ntmps30
  go_wp2_with (first
    | (go_at_call 34; refine HK.out.mono ?_; rintro e w' ⟨rfl, ho⟩; obtain ⟨c0, c1, ho2⟩ := put_kept ho 3 y)
    | (go_at_call 48; refine (HK2.out _ (by assumption)).mono ?_; rintro e w' ⟨rfl, rfl⟩))
  have R := FIN.out w' ho
  generalize w'.alloc (.cells #[.int .i64 3, .int .i64 y] 45) = W at *
  clear FIN HK ho HK2
  have R2 : HRep W.drew base fp hb most used sv tp ts := R.drewN 1
  have d0 : W.drew.cell? ⟨w.heap.size, 0, none⟩ = some (.int .i64 3) := c0
  have d1 : W.drew.cell? ⟨w.heap.size, 1, none⟩ = some (.int .i64 n) := c1
  have ho3 : Out fp w W.drew := (ho2.drew).mono (by simp)
  refine wp_region_still_tail 8 (by kernel_rfl) (by kernel_rfl) ?_
  simp only [List.take_succ_cons, List.take_zero, List.drop_succ_cons, List.drop_zero]
  change wpStill _ _ W.drew (fun a' => wpList _ _ _ _ a' W.drew) _ _
  generalize W.drew = V at *
  clear R c0 c1 ho2 W
  have HO := Lib.hid ((of_known R2 r p hp _ rfl).mono fun _ _ h => ⟨h.1, h.2.symm⟩ : Calls Try.prog 59 #[.pointer (some ⟨hb, 0, none⟩), .int .i64 (r + 1)] V fun e w'' => e = .returned (.pointer (some ⟨p.1, 0, none⟩)) ∧ w'' = V)
  have T := R2.things r p t hp ht
  have cl : V.cell? ⟨p.1, 3, none⟩ = some p.2 := cell_in T.blk 3 rfl
  rw [hlv] at cl
  have hTr := T.row
  rw [hlv] at hTr
  have fr0 := hTr.frozenAt (j * 2)
  have q0 := hTr.cellAt (j * 2) (by omega)
  rw [V0.out] at q0
  have q1 := ((hTr.stored (j * 2) (.int .i64 3)).1).cellAt (j * 2 + 1) (by omega)
  rw [List.getElem?_set_ne (by omega), V1.out] at q1
  have fr1 := ((hTr.stored (j * 2) (.int .i64 3)).1).frozenAt (j * 2 + 1)
  simp only [Option.map] at q0 q1
  clear hTr V0 V1
  have FIN := Lib.hid (set_step R2 hp ht hlv j 3 n)
  have HO3 := Lib.hid ho3
  clear R2 T ho3
  repeat still_step
  still_call HO.out
  repeat still_step
  refine wpStill_nil ?_
  unfold maxLen at hc2
  clear HO hlv hgo
  go_wp2
  go_ret
  obtain ⟨q1, q2⟩ := FIN.out
  exact ⟨rfl, q1, HO3.out.trans q2 (fun _ h => .inl h)⟩
set_option maxHeartbeats 1000000 in
theorem Put_zero (h : HRep w base fp hb most used sv tp ts) {r : Nat} {t : Thg} (ht : ts[r]? = some t) (j : Nat) (y : Int) (hj : t.l[j]? = some (3, y)) :
    Calls Try.prog 30 #[.pointer (some ⟨hb, 0, none⟩), .int .i64 (r + 1), .int .i64 j, .agg #[.int .i64 3, .int .i64 0]] w fun e w' => e = .returned (.bool true) ∧ HRep w' base fp hb most used sv tp (ts.set r (setT t j 3 0)) ∧ Out fp w w' := by
  have h1 := h.out ((Out.refl [] w).alloc (valBlk 3 0)) (by simp)
  have K := Get_any h1.a (r + 1) j
  unfold GetPost at K
  rw [look_some ht, getV_some hj, show getB t j = true from decide_eq_true ⟨by omega, by have := lt_of_get hj; omega⟩] at K
  have hjl := lt_of_get hj
  have v0 := flatV_even t.l j
  have v1 := flatV_odd t.l j
  rw [hj] at v0 v1
  have V0 := Lib.hid v0
  have V1 := Lib.hid v1
  clear v0 v1
  have h2 : ∀ w' (_ : Out [] (w.alloc (valBlk 3 0)) w'), HRep (w'.alloc (.cells #[.int .i64 3, .int .i64 y] 45)) base fp hb most used sv tp ts := fun w' ho => (h1.out ho (by simp)).out ((Out.refl [] w').alloc _) (by simp)
  obtain ⟨p, hp⟩ := h.tpAt (lt_of_get ht)
  have hr := lt_of_get ht
  have hr2 : ts.length ≤ 1000000 := by have := h.usedM; have := h.most0; have := h.count; omega
  obtain ⟨a, cap, hlv, hc1, hc2, hat⟩ := owns_shape (h.things r p t hp ht).row
  obtain ⟨g, rfl, _, hgo, hcell, hfree⟩ := hat (by omega)
  have FIN := Lib.hid fun w' ho => h2 w' ho
  have HK := Lib.hid K
  clear K h h1 h2 hj hcell hfree hat
  go_enter Try.func30, Try.ntmps30
  go_wp2_with (go_at_call 34; refine HK.out.mono ?_; rintro e w' ⟨rfl, ho⟩; obtain ⟨c0, c1, ho2⟩ := put_kept ho 3 y)
  have R := FIN.out w' ho
  generalize w'.alloc (.cells #[.int .i64 3, .int .i64 y] 45) = W at *
  clear FIN HK ho
  have R2 : HRep W.drew base fp hb most used sv tp ts := R.drewN 1
  have d0 : W.drew.cell? ⟨w.heap.size, 0, none⟩ = some (.int .i64 3) := c0
  have d1 : W.drew.cell? ⟨w.heap.size, 1, none⟩ = some (.int .i64 0) := c1
  have ho3 : Out fp w W.drew := (ho2.drew).mono (by simp)
  refine wp_region_still_tail 8 (by kernel_rfl) (by kernel_rfl) ?_
  simp only [List.take_succ_cons, List.take_zero, List.drop_succ_cons, List.drop_zero]
  change wpStill _ _ W.drew (fun a' => wpList _ _ _ _ a' W.drew) _ _
  generalize W.drew = V at *
  clear R c0 c1 ho2 W
  have HO := Lib.hid ((of_known R2 r p hp _ rfl).mono fun _ _ h => ⟨h.1, h.2.symm⟩ : Calls Try.prog 59 #[.pointer (some ⟨hb, 0, none⟩), .int .i64 (r + 1)] V fun e w'' => e = .returned (.pointer (some ⟨p.1, 0, none⟩)) ∧ w'' = V)
  have T := R2.things r p t hp ht
  have cl : V.cell? ⟨p.1, 3, none⟩ = some p.2 := cell_in T.blk 3 rfl
  rw [hlv] at cl
  have hTr := T.row
  rw [hlv] at hTr
  have fr0 := hTr.frozenAt (j * 2)
  have q0 := hTr.cellAt (j * 2) (by omega)
  rw [V0.out] at q0
  have q1 := ((hTr.stored (j * 2) (.int .i64 3)).1).cellAt (j * 2 + 1) (by omega)
  rw [List.getElem?_set_ne (by omega), V1.out] at q1
  have fr1 := ((hTr.stored (j * 2) (.int .i64 3)).1).frozenAt (j * 2 + 1)
  simp only [Option.map] at q0 q1
  clear hTr V0 V1
  have FIN := Lib.hid (set_step R2 hp ht hlv j 3 0)
  have HO3 := Lib.hid ho3
  clear R2 T ho3
  repeat still_step
  still_call HO.out
  repeat still_step
  refine wpStill_nil ?_
  unfold maxLen at hc2
  clear HO hlv hgo
  go_wp2
  go_ret
  obtain ⟨q1, q2⟩ := FIN.out
  exact ⟨rfl, q1, HO3.out.trans q2 (fun _ h => .inl h)⟩
set_option maxHeartbeats 1000000 in
theorem Put_num (h : HRep w base fp hb most used sv tp ts) {r : Nat} {t : Thg} (ht : ts[r]? = some t) (j : Nat) (k y n : Int) (hj : t.l[j]? = some (k, y)) (h3 : (k == 3) = false) (hn : (wrapOf k n != n) = false) :
    Calls Try.prog 30 #[.pointer (some ⟨hb, 0, none⟩), .int .i64 (r + 1), .int .i64 j, .agg #[.int .i64 k, .int .i64 n]] w fun e w' => e = .returned (.bool true) ∧ HRep w' base fp hb most used sv tp (ts.set r (setT t j k n)) ∧ Out fp w w' := by
  have h1 := h.out ((Out.refl [] w).alloc (valBlk k n)) (by simp)
  have K := Get_any h1.a (r + 1) j
  unfold GetPost at K
  rw [look_some ht, getV_some hj, show getB t j = true from decide_eq_true ⟨by omega, by have := lt_of_get hj; omega⟩] at K
  have hjl := lt_of_get hj
  have v0 := flatV_even t.l j
  have v1 := flatV_odd t.l j
  rw [hj] at v0 v1
  have V0 := Lib.hid v0
  have V1 := Lib.hid v1
  clear v0 v1
  have h2 : ∀ w' (_ : Out [] (w.alloc (valBlk k n)) w'), HRep (w'.alloc (.cells #[.int .i64 k, .int .i64 y] 45)) base fp hb most used sv tp ts := fun w' ho => (h1.out ho (by simp)).out ((Out.refl [] w').alloc _) (by simp)
  obtain ⟨p, hp⟩ := h.tpAt (lt_of_get ht)
  have hr := lt_of_get ht
  have hr2 : ts.length ≤ 1000000 := by have := h.usedM; have := h.most0; have := h.count; omega
  have K2 : ∀ (v : World) (m : Nat), Calls Try.prog 14 #[.int .i64 k, .int .i64 n] (v.drewN m) fun e w'' => e = .returned (.int .i64 (wrapOf k n)) ∧ ∃ m, w'' = v.drewN m := fun v m => Calls.quiet_of_same ((Wrap_any k n (v.drewN m)).mono fun _ _ h => ⟨h.1, h.2.symm⟩)
  generalize wrapOf k n = x at *
  have HK2 := Lib.hid K2
  obtain ⟨a, cap, hlv, hc1, hc2, hat⟩ := owns_shape (h.things r p t hp ht).row
  obtain ⟨g, rfl, _, hgo, hcell, hfree⟩ := hat (by omega)
  have FIN := Lib.hid fun w' ho => h2 w' ho
  have HK := Lib.hid K
  clear K h h1 h2 hj hcell hfree hat K2
  go_enter Try.func30, Try.ntmps30
  go_wp2_with (go_at_call 34; refine HK.out.mono ?_; rintro e w' ⟨rfl, ho⟩; obtain ⟨c0, c1, ho2⟩ := put_kept ho k y)
  go_quiet ((go_at_call 14; with_reducible exact HK2.out _ _))
  go_wp2
  have R := (FIN.out w' ho).drewN nq
  replace ho2 := ho2.drewN nq
  have b0 : ((w'.alloc (.cells #[.int .i64 k, .int .i64 y] 45)).drewN nq).cell? ⟨w.heap.size, 0, none⟩ = some (.int .i64 k) := c0
  have b1 : ((w'.alloc (.cells #[.int .i64 k, .int .i64 y] 45)).drewN nq).cell? ⟨w.heap.size, 1, none⟩ = some (.int .i64 n) := c1
  clear c0 c1
  generalize (w'.alloc (.cells #[.int .i64 k, .int .i64 y] 45)).drewN nq = W at *
  clear FIN HK ho HK2
  have R2 : HRep W.drew base fp hb most used sv tp ts := R.drewN 1
  have d0 : W.drew.cell? ⟨w.heap.size, 0, none⟩ = some (.int .i64 k) := b0
  have d1 : W.drew.cell? ⟨w.heap.size, 1, none⟩ = some (.int .i64 n) := b1
  have ho3 : Out fp w W.drew := (ho2.drew).mono (by simp)
  refine wp_region_still_tail 8 (by kernel_rfl) (by kernel_rfl) ?_
  simp only [List.take_succ_cons, List.take_zero, List.drop_succ_cons, List.drop_zero]
  change wpStill _ _ W.drew (fun a' => wpList _ _ _ _ a' W.drew) _ _
  generalize W.drew = V at *
  clear R b0 b1 ho2 W
  have HO := Lib.hid ((of_known R2 r p hp _ rfl).mono fun _ _ h => ⟨h.1, h.2.symm⟩ : Calls Try.prog 59 #[.pointer (some ⟨hb, 0, none⟩), .int .i64 (r + 1)] V fun e w'' => e = .returned (.pointer (some ⟨p.1, 0, none⟩)) ∧ w'' = V)
  have T := R2.things r p t hp ht
  have cl : V.cell? ⟨p.1, 3, none⟩ = some p.2 := cell_in T.blk 3 rfl
  rw [hlv] at cl
  have hTr := T.row
  rw [hlv] at hTr
  have fr0 := hTr.frozenAt (j * 2)
  have q0 := hTr.cellAt (j * 2) (by omega)
  rw [V0.out] at q0
  have q1 := ((hTr.stored (j * 2) (.int .i64 k)).1).cellAt (j * 2 + 1) (by omega)
  rw [List.getElem?_set_ne (by omega), V1.out] at q1
  have fr1 := ((hTr.stored (j * 2) (.int .i64 k)).1).frozenAt (j * 2 + 1)
  simp only [Option.map] at q0 q1
  clear hTr V0 V1
  have FIN := Lib.hid (set_step R2 hp ht hlv j k n)
  have HO3 := Lib.hid ho3
  clear R2 T ho3
  repeat still_step
  still_call HO.out
  repeat still_step
  refine wpStill_nil ?_
  unfold maxLen at hc2
  clear HO hlv hgo
  go_wp2
  go_ret
  obtain ⟨q1, q2⟩ := FIN.out
  exact ⟨rfl, q1, HO3.out.trans q2 (fun _ h => .inl h)⟩
end
end Go.Proofs.Ytdelikjodacedaa
