/- The document's heap: Put, by contract. -/
import Derived.Test.YtdelikjodacedaaXArr
import Derived.Test.YtdelikjodacedaaRefA
namespace Go.Proofs.Ytdelikjodacedaa
open Go.RowKit

theorem rWrap_q (k a : Int) (w : World) (n : Nat) : Calls Try.prog 22 #[.int .i64 k, .int .i64 a] (w.drewN n) fun e w'' => e = .returned (.int .i64 (wrapOf k a)) ∧ ∃ m, w'' = w.drewN m :=
  Calls.quiet_of_same ((rWrap_any k a _).mono fun _ _ h => ⟨h.1, h.2.symm⟩)
section
variable {w : World} {base : Nat} {fp : List Nat} {xb : Nat} {most used : Int} {sv : Value} {tp : List (Thg × Value)} {ts : List Thg}
set_option maxHeartbeats 1000000 in
theorem XPut_no1 (h : XRep w base fp xb most used sv tp ts) (ref i k n : Int) (hg : getB (look ts ref) i = false) :
    Calls Try.prog 41 #[.pointer (some ⟨xb, 0, none⟩), .int .i64 ref, .int .i64 i, .agg #[.int .i64 k, .int .i64 n]] w fun e w' => e = .returned (.bool false) ∧ Out [] w w' := by
  have h1 := h.out ((Out.refl [] w).alloc (valBlk k n)) (by simp)
  have K := XGet_any h1 ref i
  unfold GetPost at K
  rw [hg] at K
  generalize (getV (look ts ref) i).1 = x at *
  generalize (getV (look ts ref) i).2 = y at *
  have HK := Lib.hid K
  clear h h1 K hg
  go_enter Try.func41, Try.ntmps41
  go_wp2_with (go_at_call 42; refine HK.out.mono ?_; rintro e w' ⟨rfl, ho⟩; obtain ⟨c0, c1, ho2⟩ := put_kept ho x y)
  go_ret
  exact ⟨rfl, by assumption⟩
set_option maxHeartbeats 1000000 in
theorem XPut_no2 (h : XRep w base fp xb most used sv tp ts) (ref i k n : Int) (hg : getB (look ts ref) i = true) (hk : ((getV (look ts ref) i).1 == k) = false) :
    Calls Try.prog 41 #[.pointer (some ⟨xb, 0, none⟩), .int .i64 ref, .int .i64 i, .agg #[.int .i64 k, .int .i64 n]] w fun e w' => e = .returned (.bool false) ∧ Out [] w w' := by
  have h1 := h.out ((Out.refl [] w).alloc (valBlk k n)) (by simp)
  have K := XGet_any h1 ref i
  unfold GetPost at K
  rw [hg] at K
  generalize (getV (look ts ref) i).1 = x at *
  generalize (getV (look ts ref) i).2 = y at *
  have HK := Lib.hid K
  clear h h1 K hg
  go_enter Try.func41, Try.ntmps41
  go_wp2_with (go_at_call 42; refine HK.out.mono ?_; rintro e w' ⟨rfl, ho⟩; obtain ⟨c0, c1, ho2⟩ := put_kept ho x y)
  go_ret
  exact ⟨rfl, by assumption⟩

/-- Which values are refused where the kind fits. -/
def badV (m : Nat) (k n : Int) : Prop := (k = 3 ∧ (n < 0 ∨ m < n)) ∨ (k = 1 ∧ wrapOf 1 n ≠ n)
set_option maxHeartbeats 2000000 in
theorem XPut_no3 (h : XRep w base fp xb most used sv tp ts) (ref i k n : Int) (hg : getB (look ts ref) i = true) (hk : (getV (look ts ref) i).1 = k) (hbad : badV ts.length k n) :
    Calls Try.prog 41 #[.pointer (some ⟨xb, 0, none⟩), .int .i64 ref, .int .i64 i, .agg #[.int .i64 k, .int .i64 n]] w fun e w' => e = .returned (.bool false) ∧ Out [] w w' := by
  have h1 := h.out ((Out.refl [] w).alloc (valBlk k n)) (by simp)
  have K := XGet_any h1 ref i
  unfold GetPost at K
  rw [hg, hk] at K
  generalize (getV (look ts ref) i).2 = y at *
  have HK := Lib.hid K
  obtain ⟨a, cap, rfl, hs1, hs2, _⟩ := owns_shape h.row
  have C2 := Lib.hid (fun w' (ho : Out [] w w') => (h.out ho (by simp)).c2)
  clear h h1 K hg hk
  generalize ts.length = m at *
  rcases hbad with ⟨rfl, hn | hn⟩ | ⟨rfl, hn⟩
  · have hd : decide (n < 0) = true := decide_eq_true hn
    go_enter Try.func41, Try.ntmps41
    go_wp2_with (go_at_call 42; refine HK.out.mono ?_; rintro e w' ⟨rfl, ho⟩; obtain ⟨c0, c1, ho2⟩ := put_kept ho 3 y)
    have c2 := C2.out _ ho2
    generalize w'.alloc (.cells #[.int .i64 3, .int .i64 y] 45) = W at *
    go_quiet ((go_at_call 22; exact rWrap_q _ _ _ _))
    go_wp2
    go_ret
    exact ⟨rfl, ho2.drewN _⟩
  · have hd : decide (n < 0) = false := decide_eq_false (by omega)
    have hd2 : decide ((m : Int) < n) = true := decide_eq_true hn
    go_enter Try.func41, Try.ntmps41
    go_wp2_with (go_at_call 42; refine HK.out.mono ?_; rintro e w' ⟨rfl, ho⟩; obtain ⟨c0, c1, ho2⟩ := put_kept ho 3 y)
    have c2 := C2.out _ ho2
    generalize w'.alloc (.cells #[.int .i64 3, .int .i64 y] 45) = W at *
    go_quiet ((go_at_call 22; exact rWrap_q _ _ _ _))
    go_wp2
    go_ret
    exact ⟨rfl, ho2.drewN _⟩
  · have hd : (wrapOf 1 n != n) = true := by simpa using hn
    have Q := fun W q => rWrap_q 1 n W q
    generalize wrapOf 1 n = z at *
    go_enter Try.func41, Try.ntmps41
    go_wp2_with (go_at_call 42; refine HK.out.mono ?_; rintro e w' ⟨rfl, ho⟩; obtain ⟨c0, c1, ho2⟩ := put_kept ho 1 y)
    have c2 := C2.out _ ho2
    generalize w'.alloc (.cells #[.int .i64 1, .int .i64 y] 45) = W at *
    go_quiet ((go_at_call 22; exact Q _ _))
    go_wp2
    go_ret
    exact ⟨rfl, ho2.drewN _⟩

def XSetPost (w : World) (base : Nat) (fp : List Nat) (xb : Nat) (most used : Int) (ts' : List Thg) (e : Ending) (w' : World) : Prop :=
  e = .returned (.bool true) ∧ (∃ sv' tp', XRep w' base fp xb most used sv' tp' ts') ∧ Out fp w w'

set_option maxHeartbeats 4000000 in
theorem XPut_yes (h : XRep w base fp xb most used sv tp ts) {r : Nat} {t : Thg} (ht : ts[r]? = some t) (j : Nat) (k y n : Int) (hj : t.l[j]? = some (k, y)) (hgood : (k = 3 ∧ decide (n < 0) = false ∧ decide ((ts.length : Int) < n) = false) ∨ (k = 1 ∧ wrapOf 1 n = n) ∨ k = 2) :
    Calls Try.prog 41 #[.pointer (some ⟨xb, 0, none⟩), .int .i64 (r + 1), .int .i64 j, .agg #[.int .i64 k, .int .i64 n]] w (XSetPost w base fp xb most used (ts.set r (setT t j k n))) := by
  have h1 := h.out ((Out.refl [] w).alloc (valBlk k n)) (by simp)
  have K := XGet_any h1 (r + 1) j
  unfold GetPost at K
  rw [look_some ht, getV_some hj, show getB t j = true from decide_eq_true ⟨by omega, by have := lt_of_get hj; omega⟩] at K
  have hjl := lt_of_get hj
  have hr := lt_of_get ht
  have hsmall := h.small
  have v0 := flatV_even t.l j
  have v1 := flatV_odd t.l j
  rw [hj] at v0 v1
  have V0 := Lib.hid v0
  have V1 := Lib.hid v1
  have HK := Lib.hid K
  obtain ⟨v, hv⟩ := h.tsAt ht
  obtain ⟨a, cap, rfl, hs1, hs2, hat0⟩ := owns_shape h.row
  obtain ⟨g0, rfl, _, _, _, _⟩ := hat0 (by omega)
  have T : w.ownsRow base 45 2 v t.l.length (flatV t.l) := (h.things r _ hv).2
  obtain ⟨la, lc, rfl, hc1, hc2, hat⟩ := owns_shape T
  obtain ⟨g, rfl, _, _, _, _⟩ := hat (by omega)
  have C2 := Lib.hid (fun w' (ho : Out [] w w') => (h.out ho (by simp)).c2)
  have H := Lib.hid (fun w' (ho : Out [] w w') => h.out ho (by simp))
  clear h h1 K hat0 hat v0 v1 ht
  have hs3 := hs2
  unfold maxLen at hs3 hc2
  generalize hm : ts.length = m at *
  have hwr : IntKind.i64.wrap (r : Int) = r := by rw [wrap64_eq]; unfold wrap64; omega
  have hrm : (r : Int) < m := by omega
  rcases hgood with ⟨rfl, hn1, hn2⟩ | ⟨rfl, hn⟩ | rfl
  · have Q := fun W q => rWrap_q 1 n W q
    go_enter Try.func41, Try.ntmps41
    go_wp2_with (go_at_call 42; refine HK.out.mono ?_; rintro e w' ⟨rfl, ho⟩; obtain ⟨c0, c1, ho2⟩ := put_kept ho 3 y)
    have c2 := C2.out _ ho2
    have R := H.out _ ho2
    clear C2 H HK ho
    generalize w'.alloc (.cells #[.int .i64 3, .int .i64 y] 45) = W at *
    go_quiet ((go_at_call 22; exact Q _ _))
    go_wp2
    have R2 : XRep (W.drewN nq).drew base fp xb most used (.slice (some ⟨g0, 0, none⟩) m cap) tp ts := (R.drewN nq).drewN 1
    have d0 : (W.drewN nq).drew.cell? ⟨w.heap.size, 0, none⟩ = some (.int .i64 3) := c0
    have d1 : (W.drewN nq).drew.cell? ⟨w.heap.size, 1, none⟩ = some (.int .i64 n) := c1
    have ho3 : Out fp w (W.drewN nq).drew := ((ho2.drewN nq).drew).mono (by simp)
    refine wp_region_still_tail 11 (by kernel_rfl) (by kernel_rfl) ?_
    simp only [List.take_succ_cons, List.take_zero, List.drop_succ_cons, List.drop_zero]
    change wpStill _ _ (W.drewN nq).drew (fun a' => wpList _ _ _ _ a' (W.drewN nq).drew) _ _
    generalize (W.drewN nq).drew = V at *
    clear R c0 c1 c2 ho2 W Q
    have c2 := R2.c2
    have hrowX := R2.row
    rw [hm] at hrowX
    have e3 := hrowX.cellAt (r * 4 + 3) (by omega)
    rw [flatT_get tp r 3 (by omega) hv] at e3
    replace e3 : V.cell? ⟨g0, r * 4 + 3, none⟩ = some (.slice (some ⟨g, 0, none⟩) t.l.length lc) := e3
    have hTr : V.ownsRow base 45 2 (.slice (some ⟨g, 0, none⟩) t.l.length lc) t.l.length (flatV t.l) := (R2.things r _ hv).2
    have fr0 := hTr.frozenAt (j * 2)
    have q0 := hTr.cellAt (j * 2) (by omega)
    rw [V0.out] at q0
    have q1 := ((hTr.stored (j * 2) (.int .i64 3)).1).cellAt (j * 2 + 1) (by omega)
    rw [List.getElem?_set_ne (by omega), V1.out] at q1
    have fr1 := ((hTr.stored (j * 2) (.int .i64 3)).1).frozenAt (j * 2 + 1)
    simp only [Option.map] at q0 q1
    have FIN := Lib.hid (R2.put hv j 3 n)
    have HO3 := Lib.hid ho3
    clear R2 hTr hrowX ho3 V0 V1
    repeat still_step
    refine wpStill_nil ?_
    go_wp2
    go_ret
    obtain ⟨r1, r2⟩ := FIN.out
    exact ⟨rfl, ⟨_, _, r1⟩, HO3.out.trans r2 (fun _ h => .inl h)⟩
  · have Q := fun W q => rWrap_q 1 n W q
    rw [hn] at Q
    go_enter Try.func41, Try.ntmps41
    go_wp2_with (go_at_call 42; refine HK.out.mono ?_; rintro e w' ⟨rfl, ho⟩; obtain ⟨c0, c1, ho2⟩ := put_kept ho 1 y)
    have c2 := C2.out _ ho2
    have R := H.out _ ho2
    clear C2 H HK ho
    generalize w'.alloc (.cells #[.int .i64 1, .int .i64 y] 45) = W at *
    go_quiet ((go_at_call 22; exact Q _ _))
    go_wp2
    have R2 : XRep (W.drewN nq).drew base fp xb most used (.slice (some ⟨g0, 0, none⟩) m cap) tp ts := (R.drewN nq).drewN 1
    have d0 : (W.drewN nq).drew.cell? ⟨w.heap.size, 0, none⟩ = some (.int .i64 1) := c0
    have d1 : (W.drewN nq).drew.cell? ⟨w.heap.size, 1, none⟩ = some (.int .i64 n) := c1
    have ho3 : Out fp w (W.drewN nq).drew := ((ho2.drewN nq).drew).mono (by simp)
    refine wp_region_still_tail 11 (by kernel_rfl) (by kernel_rfl) ?_
    simp only [List.take_succ_cons, List.take_zero, List.drop_succ_cons, List.drop_zero]
    change wpStill _ _ (W.drewN nq).drew (fun a' => wpList _ _ _ _ a' (W.drewN nq).drew) _ _
    generalize (W.drewN nq).drew = V at *
    clear R c0 c1 c2 ho2 W Q
    have c2 := R2.c2
    have hrowX := R2.row
    rw [hm] at hrowX
    have e3 := hrowX.cellAt (r * 4 + 3) (by omega)
    rw [flatT_get tp r 3 (by omega) hv] at e3
    replace e3 : V.cell? ⟨g0, r * 4 + 3, none⟩ = some (.slice (some ⟨g, 0, none⟩) t.l.length lc) := e3
    have hTr : V.ownsRow base 45 2 (.slice (some ⟨g, 0, none⟩) t.l.length lc) t.l.length (flatV t.l) := (R2.things r _ hv).2
    have fr0 := hTr.frozenAt (j * 2)
    have q0 := hTr.cellAt (j * 2) (by omega)
    rw [V0.out] at q0
    have q1 := ((hTr.stored (j * 2) (.int .i64 1)).1).cellAt (j * 2 + 1) (by omega)
    rw [List.getElem?_set_ne (by omega), V1.out] at q1
    have fr1 := ((hTr.stored (j * 2) (.int .i64 1)).1).frozenAt (j * 2 + 1)
    simp only [Option.map] at q0 q1
    have FIN := Lib.hid (R2.put hv j 1 n)
    have HO3 := Lib.hid ho3
    clear R2 hTr hrowX ho3 V0 V1
    repeat still_step
    refine wpStill_nil ?_
    go_wp2
    go_ret
    obtain ⟨r1, r2⟩ := FIN.out
    exact ⟨rfl, ⟨_, _, r1⟩, HO3.out.trans r2 (fun _ h => .inl h)⟩
  · have Q := fun W q => rWrap_q 1 n W q
    go_enter Try.func41, Try.ntmps41
    go_wp2_with (go_at_call 42; refine HK.out.mono ?_; rintro e w' ⟨rfl, ho⟩; obtain ⟨c0, c1, ho2⟩ := put_kept ho 2 y)
    have c2 := C2.out _ ho2
    have R := H.out _ ho2
    clear C2 H HK ho
    generalize w'.alloc (.cells #[.int .i64 2, .int .i64 y] 45) = W at *
    go_quiet ((go_at_call 22; exact Q _ _))
    go_wp2
    have R2 : XRep (W.drewN nq).drew base fp xb most used (.slice (some ⟨g0, 0, none⟩) m cap) tp ts := (R.drewN nq).drewN 1
    have d0 : (W.drewN nq).drew.cell? ⟨w.heap.size, 0, none⟩ = some (.int .i64 2) := c0
    have d1 : (W.drewN nq).drew.cell? ⟨w.heap.size, 1, none⟩ = some (.int .i64 n) := c1
    have ho3 : Out fp w (W.drewN nq).drew := ((ho2.drewN nq).drew).mono (by simp)
    refine wp_region_still_tail 11 (by kernel_rfl) (by kernel_rfl) ?_
    simp only [List.take_succ_cons, List.take_zero, List.drop_succ_cons, List.drop_zero]
    change wpStill _ _ (W.drewN nq).drew (fun a' => wpList _ _ _ _ a' (W.drewN nq).drew) _ _
    generalize (W.drewN nq).drew = V at *
    clear R c0 c1 c2 ho2 W Q
    have c2 := R2.c2
    have hrowX := R2.row
    rw [hm] at hrowX
    have e3 := hrowX.cellAt (r * 4 + 3) (by omega)
    rw [flatT_get tp r 3 (by omega) hv] at e3
    replace e3 : V.cell? ⟨g0, r * 4 + 3, none⟩ = some (.slice (some ⟨g, 0, none⟩) t.l.length lc) := e3
    have hTr : V.ownsRow base 45 2 (.slice (some ⟨g, 0, none⟩) t.l.length lc) t.l.length (flatV t.l) := (R2.things r _ hv).2
    have fr0 := hTr.frozenAt (j * 2)
    have q0 := hTr.cellAt (j * 2) (by omega)
    rw [V0.out] at q0
    have q1 := ((hTr.stored (j * 2) (.int .i64 2)).1).cellAt (j * 2 + 1) (by omega)
    rw [List.getElem?_set_ne (by omega), V1.out] at q1
    have fr1 := ((hTr.stored (j * 2) (.int .i64 2)).1).frozenAt (j * 2 + 1)
    simp only [Option.map] at q0 q1
    have FIN := Lib.hid (R2.put hv j 2 n)
    have HO3 := Lib.hid ho3
    clear R2 hTr hrowX ho3 V0 V1
    repeat still_step
    refine wpStill_nil ?_
    go_wp2
    go_ret
    obtain ⟨r1, r2⟩ := FIN.out
    exact ⟨rfl, ⟨_, _, r1⟩, HO3.out.trans r2 (fun _ h => .inl h)⟩
end
end Go.Proofs.Ytdelikjodacedaa
