/- HeapDoes: both heaps in one memory, a row of kinds beside them, and variables that are kept; what each deed makes of them. -/
import Derived.Test.YtdelikjodacedaaXPut
namespace Go.Proofs.Ytdelikjodacedaa
open Go.RowKit

/-- All kinds of what is in a heap are kinds. -/
def Kinds (ts : List Thg) : Prop := ∀ t ∈ ts, ∀ p ∈ t.l, isK p.1 = true
theorem Kinds.obj {ts : List Thg} (h : Kinds ts) (cls : Int) {ks : List Int} (hk : ks.all isK = true) : Kinds (ts ++ [objT cls ks]) := fun t ht p hp => by
  rcases List.mem_append.1 ht with ht | ht
  · exact h t ht p hp
  · simp at ht
    subst ht
    simp only [objT, List.mem_map] at hp
    obtain ⟨k, hk1, rfl⟩ := hp
    exact List.all_eq_true.1 hk k hk1
theorem Kinds.arr {ts : List Thg} (h : Kinds ts) {kind : Int} (cls n : Int) (hk : isK kind = true) : Kinds (ts ++ [arrT kind cls n]) := fun t ht p hp => by
  rcases List.mem_append.1 ht with ht | ht
  · exact h t ht p hp
  · simp at ht
    subst ht
    simp only [arrT] at hp
    have := List.eq_of_mem_replicate hp
    subst this
    exact hk
theorem Kinds.get {ts : List Thg} (h : Kinds ts) {ref i : Int} (hg : getB (look ts ref) i = true) : isK (getV (look ts ref) i).1 = true := by
  obtain ⟨r, t, j, rfl, ht, hl, rfl, hj⟩ := look_there hg
  rw [hl, getV_some (p := t.l[j]) (by simp [hj])]
  exact h t (List.mem_of_getElem? ht) _ (List.getElem_mem _)
theorem Kinds.set {ts : List Thg} (h : Kinds ts) (ref i k n : Int) : Kinds (putT ts ref i k n) := by
  unfold putT
  split
  · rename_i hb
    have hg : getB (look ts ref) i = true := by
      unfold putB at hb
      cases hx : getB (look ts ref) i with
      | true => rfl
      | false => rw [hx] at hb; simp at hb
    have hk : (getV (look ts ref) i).1 = k := by
      unfold putB at hb
      rw [hg] at hb
      simp only [Bool.true_and, Bool.and_eq_true, beq_iff_eq] at hb
      exact hb.1
    have hik := h.get hg
    rw [hk] at hik
    obtain ⟨r, t, j, rfl, ht, hl, rfl, hj⟩ := look_there hg
    rw [hl]
    intro u hu p hp
    rcases List.mem_or_eq_of_mem_set hu with hu | rfl
    · exact h u hu p hp
    · simp only [setT] at hp
      rcases List.mem_or_eq_of_mem_set hp with hp | rfl
      · exact h t (List.mem_of_getElem? ht) p hp
      · exact hik
  · exact h

section
variable {w : World} {base : Nat} {fp : List Nat} {xb : Nat} {most used : Int} {sv : Value} {tp : List (Thg × Value)} {ts : List Thg}
/-- The document's Put, of all references, places and values. -/
theorem XPut_any (h : XRep w base fp xb most used sv tp ts) (hK : Kinds ts) (ref i k n : Int) :
    Calls Try.prog 41 #[.pointer (some ⟨xb, 0, none⟩), .int .i64 ref, .int .i64 i, .agg #[.int .i64 k, .int .i64 n]] w fun e w' => e = .returned (.bool (putB ts ref i k n)) ∧ (∃ sv' tp', XRep w' base fp xb most used sv' tp' (putT ts ref i k n)) ∧ Out fp w w' := by
  have no : putB ts ref i k n = false → (Calls Try.prog 41 #[.pointer (some ⟨xb, 0, none⟩), .int .i64 ref, .int .i64 i, .agg #[.int .i64 k, .int .i64 n]] w fun e w' => e = .returned (.bool false) ∧ Out [] w w') →
      Calls Try.prog 41 #[.pointer (some ⟨xb, 0, none⟩), .int .i64 ref, .int .i64 i, .agg #[.int .i64 k, .int .i64 n]] w fun e w' => e = .returned (.bool (putB ts ref i k n)) ∧ (∃ sv' tp', XRep w' base fp xb most used sv' tp' (putT ts ref i k n)) ∧ Out fp w w' := fun h1 K => by
    unfold putT
    rw [h1]
    exact K.mono fun e w' ⟨he, ho⟩ => ⟨he, ⟨_, _, h.out ho (by simp)⟩, ho.mono (by simp)⟩
  cases hg : getB (look ts ref) i with
  | false => exact no (by unfold putB; rw [hg]; rfl) (XPut_no1 h ref i k n hg)
  | true =>
    cases hk : ((getV (look ts ref) i).1 == k) with
    | false => exact no (by unfold putB; rw [hg, hk]; rfl) (XPut_no2 h ref i k n hg hk)
    | true =>
      have hk' := eq_of_beq hk
      have hik := hK.get hg
      rw [hk'] at hik
      have hik2 : k = 1 ∨ k = 2 ∨ k = 3 := of_decide_eq_true hik
      by_cases hbad : badV ts.length k n
      · refine no ?_ (XPut_no3 h ref i k n hg hk' hbad)
        unfold putB
        rw [hg, hk]
        rcases hbad with ⟨rfl, hn⟩ | ⟨rfl, hn⟩
        · have h0 : (n == 0) = false := by simp; omega
          have h1 : knows ts.length n = false := decide_eq_false (by omega)
          simp [h0, h1]
        · have h0 : (wrapOf 1 n == n) = false := by simpa using hn
          rw [h0]; rfl
      · have hB : putB ts ref i k n = true := by
          unfold putB
          rw [hg, hk]
          rcases hik2 with rfl | rfl | rfl
          · have : (wrapOf 1 n == n) = true := by
              rw [beq_iff_eq]
              exact Classical.byContradiction fun hc => hbad (.inr ⟨rfl, hc⟩)
            rw [this]; rfl
          · have : (wrapOf 2 n == n) = true := by rw [beq_iff_eq]; rfl
            rw [this]; rfl
          · have h2 : 0 ≤ n ∧ n ≤ ts.length := by
              refine Classical.byContradiction fun hc => hbad (.inl ⟨rfl, by omega⟩)
            simp only [Bool.true_and, if_true]
            by_cases h0 : n = 0
            · subst h0; rfl
            · have : knows ts.length n = true := decide_eq_true (by omega)
              rw [this, Bool.or_true]
        obtain ⟨r, t, j, rfl, ht, hl, rfl, hj⟩ := look_there hg
        have hv : t.l[j]? = some (k, (getV t j).2) := by
          rw [hl, getV_some (p := t.l[j]) (by simp [hj])] at hk'
          rw [getV_some (p := t.l[j]) (by simp [hj])]
          rw [List.getElem?_eq_getElem hj, ← hk']
        unfold putT
        rw [hB, hl, show (((r : Int) + 1) - 1).toNat = r by omega, Int.toNat_natCast]
        refine XPut_yes h ht j k _ n hv ?_
        rcases hik2 with rfl | rfl | rfl
        · exact .inr (.inl ⟨rfl, Classical.byContradiction fun hc => hbad (.inr ⟨rfl, hc⟩)⟩)
        · exact .inr (.inr rfl)
        · have h2 : 0 ≤ n ∧ n ≤ ts.length := Classical.byContradiction fun hc => hbad (.inl ⟨rfl, by omega⟩)
          exact .inl ⟨rfl, decide_eq_false (by omega), decide_eq_false (by omega)⟩
end

/-- Both heaps, a row of kinds, kept variables. -/
def DRel (B : Nat) (w0 : World) (hb xb : Nat) (most : Int) (u1 : Int) (t1 : List Thg) (u2 : Int) (t2 : List Thg) (kv : Value) (ks : List Int) (keep : List (Nat × Obj)) (w : World) : Prop :=
  Below B w0 w ∧ B ≤ w0.heap.size ∧ ∃ fp gp sv tp sv2 tp2, HRep w B fp hb most u1 sv tp t1 ∧ XRep w B gp xb most u2 sv2 tp2 t2 ∧ (∀ k ∈ fp, k ∉ gp) ∧ w.ownsRow B 3 1 kv ks.length (ks.map (Value.int .i64)) ∧
    (∀ g, kv.ownBlock = some g → g ∉ fp ∧ g ∉ gp) ∧ ∀ p ∈ keep, B ≤ p.1 ∧ w.heap[p.1]? = some p.2 ∧ p.1 ∉ fp ∧ p.1 ∉ gp ∧ kv.ownBlock ≠ some p.1
section
variable {B : Nat} {w0 : World} {hb xb : Nat} {most u1 u2 : Int} {t1 t2 : List Thg} {kv : Value} {ks : List Int} {keep : List (Nat × Obj)} {w : World}
theorem DRel.below (h : DRel B w0 hb xb most u1 t1 u2 t2 kv ks keep w) : Below B w0 w := h.1
theorem DRel.kept (h : DRel B w0 hb xb most u1 t1 u2 t2 kv ks keep w) {p : Nat × Obj} (hp : p ∈ keep) : w.heap[p.1]? = some p.2 := by
  obtain ⟨_, _, fp, gp, sv, tp, sv2, tp2, hR, hX, hd, hrow, hk, hkeep⟩ := h
  exact (hkeep p hp).2.1
/-- What the first heap's deeds may write. -/
theorem DRel.h (h : DRel B w0 hb xb most u1 t1 u2 t2 kv ks keep w) : ∃ fp sv tp, HRep w B fp hb most u1 sv tp t1 ∧ (w.ownsRow B 3 1 kv ks.length (ks.map (Value.int .i64))) ∧ ∀ u' t' w', Made w B fp hb most u' t' w' → DRel B w0 hb xb most u' t' u2 t2 kv ks keep w' := by
  obtain ⟨hw, hB, fp, gp, sv, tp, sv2, tp2, hR, hX, hd, hrow, hk, hkeep⟩ := h
  refine ⟨fp, sv, tp, hR, hrow, fun u' t' w' ⟨fp', sv', tp', hR', hn, ho⟩ => ?_⟩
  have hsz := hw.size
  refine ⟨hw.trans (ho.below (by omega) hR.ge), hB, fp', gp, sv', tp', sv2, tp2, hR', hX.out ho (fun k hk hm => hd k hm hk), fun k hk hm => ?_, ownsRow_same hrow fun g hg => ho.block g (hrow.lt g hg).2 (hk g hg).1, fun g hg => ⟨fun hm => ?_, (hk g hg).2⟩, fun p hp => ?_⟩
  · rcases hn k hk with hx | hx
    · exact hd k hx hm
    · have := hX.lt k hm; omega
  · rcases hn g hm with hx | hx
    · exact (hk g hg).1 hx
    · have := (hrow.lt g hg).2; omega
  · obtain ⟨p0, p1, p2, p3, p4⟩ := hkeep p hp
    have hlt := lt_of_block p1
    refine ⟨p0, (ho.block _ hlt p2).trans p1, fun hm => ?_, p3, p4⟩
    rcases hn _ hm with hx | hx
    · exact p2 hx
    · omega
/-- .. and the second's. -/
theorem DRel.x (h : DRel B w0 hb xb most u1 t1 u2 t2 kv ks keep w) : ∃ gp sv tp, XRep w B gp xb most u2 sv tp t2 ∧ (w.ownsRow B 3 1 kv ks.length (ks.map (Value.int .i64))) ∧ ∀ u' t' w', XMade w B gp xb most u' t' w' → DRel B w0 hb xb most u1 t1 u' t' kv ks keep w' := by
  obtain ⟨hw, hB, fp, gp, sv, tp, sv2, tp2, hR, hX, hd, hrow, hk, hkeep⟩ := h
  refine ⟨gp, sv2, tp2, hX, hrow, fun u' t' w' ⟨gp', sv', tp', hX', hn, ho⟩ => ?_⟩
  have hsz := hw.size
  refine ⟨hw.trans (ho.below (by omega) hX.ge), hB, fp, gp', sv, tp, sv', tp', hR.out ho hd, hX', fun k hk hm => ?_, ownsRow_same hrow fun g hg => ho.block g (hrow.lt g hg).2 (hk g hg).2, fun g hg => ⟨(hk g hg).1, fun hm => ?_⟩, fun p hp => ?_⟩
  · rcases hn k hm with hx | hx
    · exact hd k hk hx
    · have := hR.lt k hk; omega
  · rcases hn g hm with hx | hx
    · exact (hk g hg).2 hx
    · have := (hrow.lt g hg).2; omega
  · obtain ⟨p0, p1, p2, p3, p4⟩ := hkeep p hp
    have hlt := lt_of_block p1
    refine ⟨p0, (ho.block _ hlt p3).trans p1, p2, fun hm => ?_, p4⟩
    rcases hn _ hm with hx | hx
    · exact p3 hx
    · omega
theorem DRel.out (h : DRel B w0 hb xb most u1 t1 u2 t2 kv ks keep w) {w' : World} (ho : Out [] w w') : DRel B w0 hb xb most u1 t1 u2 t2 kv ks keep w' := by
  obtain ⟨fp, sv, tp, hR, _, K⟩ := h.h
  exact K _ _ _ (Made.same hR ho)
/-- A variable is made, and kept. -/
theorem DRel.new (h : DRel B w0 hb xb most u1 t1 u2 t2 kv ks keep w) (o : Obj) : DRel B w0 hb xb most u1 t1 u2 t2 kv ks ((w.heap.size, o) :: keep) (w.alloc o) := by
  have h' := h.out ((Out.refl [] w).alloc o)
  obtain ⟨hw, hB, fp, gp, sv, tp, sv2, tp2, hR, hX, hd, hrow, hk, hkeep⟩ := h
  have hsz := hw.size
  refine ⟨h'.1, hB, fp, gp, sv, tp, sv2, tp2, hR.out ((Out.refl [] w).alloc o) (by simp), hX.out ((Out.refl [] w).alloc o) (by simp), hd, hrow.alloc _, hk, fun p hp => ?_⟩
  rcases List.mem_cons.1 hp with rfl | hp
  · refine ⟨by simp only; omega, heap_alloc_new w o, fun hm => ?_, fun hm => ?_, fun hm => ?_⟩
    · have := hR.lt _ hm; simp at this
    · have := hX.lt _ hm; simp at this
    · have := (hrow.lt _ hm).2; simp at this
  · obtain ⟨p0, p1, p2, p3, p4⟩ := hkeep p hp
    exact ⟨p0, (Below.heap_alloc w o _ (lt_of_block p1)).trans p1, p2, p3, p4⟩
theorem DRel.less (h : DRel B w0 hb xb most u1 t1 u2 t2 kv ks keep w) {keep' : List (Nat × Obj)} (hs : ∀ p ∈ keep', p ∈ keep) : DRel B w0 hb xb most u1 t1 u2 t2 kv ks keep' w := by
  obtain ⟨hw, hB, fp, gp, sv, tp, sv2, tp2, hR, hX, hd, hrow, hk, hkeep⟩ := h
  exact ⟨hw, hB, fp, gp, sv, tp, sv2, tp2, hR, hX, hd, hrow, hk, fun p hp => hkeep p (hs p hp)⟩
/-- A row of kinds in new memory. -/
theorem DRel.row (h : DRel B w0 hb xb most u1 t1 u2 t2 kv ks keep w) {w' : World} (ho : Out [] w w') {kv' : Value} {ks' : List Int} (hown : w'.ownsRow w.heap.size 3 1 kv' ks'.length (ks'.map (Value.int .i64))) : DRel B w0 hb xb most u1 t1 u2 t2 kv' ks' keep w' := by
  obtain ⟨hw, hB, fp, gp, sv, tp, sv2, tp2, hR, hX, hd, hrow, hk, hkeep⟩ := h
  have hsz := hw.size
  refine ⟨hw.trans (ho.below (by omega) (by simp)), hB, fp, gp, sv, tp, sv2, tp2, hR.out ho (by simp), hX.out ho (by simp), hd, ownsRow_base hown (by omega), fun g hg => ?_, fun p hp => ?_⟩
  · have := (hown.lt g hg).1
    exact ⟨fun hm => by have := hR.lt g hm; omega, fun hm => by have := hX.lt g hm; omega⟩
  · obtain ⟨p0, p1, p2, p3, p4⟩ := hkeep p hp
    have hlt := lt_of_block p1
    refine ⟨p0, (ho.block _ hlt (by simp)).trans p1, p2, p3, fun e => ?_⟩
    have := (hown.lt _ e).1
    omega
/-- Another number in the row. -/
theorem DRel.set {g cap : Nat} {kn : Nat} (h : DRel B w0 hb xb most u1 t1 u2 t2 (.slice (some ⟨g, 0, none⟩) kn cap) ks keep w) (hkn : ks.length = kn) (j : Nat) (x : Int) : DRel B w0 hb xb most u1 t1 u2 t2 (.slice (some ⟨g, 0, none⟩) kn cap) (ks.set j x) keep (w.setCell ⟨g, j, none⟩ (.int .i64 x)) := by
  obtain ⟨hw, hB, fp, gp, sv, tp, sv2, tp2, hR, hX, hd, hrow, hk, hkeep⟩ := h
  subst hkn
  have hsz := hw.size
  have hg := hk g rfl
  have hgB := (hrow.lt g rfl).1
  have ho : Out [g] w (w.setCell ⟨g, j, none⟩ (.int .i64 x)) := (Out.refl _ _).setCell (.inl (by simp)) _
  refine ⟨hw.trans (ho.below (by omega) (by simpa using hgB)), hB, fp, gp, sv, tp, sv2, tp2, hR.out ho (fun k hx hm => by simp at hm; subst hm; exact hg.1 hx), hX.out ho (fun k hx hm => by simp at hm; subst hm; exact hg.2 hx), hd, ?_, hk, fun p hp => ?_⟩
  · rw [List.map_set]
    simpa using (hrow.stored j (.int .i64 x)).1
  · obtain ⟨p0, p1, p2, p3, p4⟩ := hkeep p hp
    refine ⟨p0, (Below.heap_setCell _ _ _ _ (fun e => p4 ?_)).trans p1, p2, p3, p4⟩
    rw [e]; rfl
theorem DRel.rowIs (h : DRel B w0 hb xb most u1 t1 u2 t2 kv ks keep w) : w.ownsRow B 3 1 kv ks.length (ks.map (Value.int .i64)) := by
  obtain ⟨_, _, fp, gp, sv, tp, sv2, tp2, hR, hX, hd, hrow, hk, hkeep⟩ := h
  exact hrow
theorem DRel.start {hb xb : Nat} {w w' : World} {most : Int} (hw : Below B w0 w') (hB : B ≤ w0.heap.size) (h1 : HRep w B [hb] hb most 0 (.slice none 0 0) [] []) (ho : Out [] w w') (h2 : XRep w' B [xb] xb most 0 (.slice none 0 0) [] []) (hne : hb ≠ xb) : DRel B w0 hb xb most 0 [] 0 [] (.slice none 0 0) [] [] w' :=
  ⟨hw, hB, [hb], [xb], _, _, _, _, h1.out ho (by simp), h2, fun k hk hm => by simp at hk hm; omega, World.ownsRow_nil _ _ _ _, fun g hg => by simp [Value.ownBlock] at hg, by simp⟩
end
end Go.Proofs.Ytdelikjodacedaa
