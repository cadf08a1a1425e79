/- Package heap's put, by contract: what a new thing makes of a heap, and the walk. -/
import Derived.Test.YtdelikjodacedaaHeapB
import Derived.Test.YtdelikjodacedaaApp
namespace Go.Proofs.Ytdelikjodacedaa
open Go.RowKit
theorem Try.info84 : (Try.prog.info? 84).map (fun i => (i.zero, i.size, i.bytes)) = some (some (.pointer none), 1, 8) := by kernel_rfl
theorem Try.info45 : (Try.prog.info? 45).map (fun i => (i.zero, i.size, i.bytes)) = some (some (.agg #[.int .i64 0, .int .i64 0]), 2, 16) := by kernel_rfl

/-- The blocks of a heap behind a new thing. -/
def fpPut (fp : List Nat) (tb : Nat) (lv sv' : Value) : List Nat := fp ++ tb :: (lv.ownBlock.toList ++ sv'.ownBlock.toList)
theorem mem_fpPut {fp : List Nat} {tb : Nat} {lv sv' : Value} {k : Nat} : k ∈ fpPut fp tb lv sv' ↔ k ∈ fp ∨ k = tb ∨ lv.ownBlock = some k ∨ sv'.ownBlock = some k := by
  simp [fpPut]

theorem getElem?_snoc {α : Type} {l : List α} {x y : α} {i : Nat} (h : (l ++ [x])[i]? = some y) : l[i]? = some y ∨ (i = l.length ∧ y = x) := by
  rcases Nat.lt_trichotomy i l.length with hi | hi | hi
  · left; rwa [List.getElem?_append_left hi] at h
  · right; subst hi; simp at h; exact ⟨rfl, h.symm⟩
  · rw [List.getElem?_eq_none (by simp; omega)] at h; cases h
theorem lt_of_get {α : Type} {l : List α} {y : α} {i : Nat} (h : l[i]? = some y) : i < l.length := by
  rcases Nat.lt_or_ge i l.length with hi | hi
  · exact hi
  · rw [List.getElem?_eq_none hi] at h; cases h

section
variable {w : World} {base : Nat} {fp : List Nat} {hb : Nat} {most used : Int} {sv : Value} {tp : List (Nat × Value)} {ts : List Thg}

theorem put_step (h : HRep w base fp hb most used sv tp ts) {tb : Nat} {lv : Value} {t : Thg} (hb1 : base ≤ tb) (hb2 : tb ∉ fp)
    (blk : w.heap[tb]? = some (.cells #[.bool t.arr, .int .i64 t.kind, .int .i64 t.cls, lv] 86 (0, 0))) (row : w.ownsRow base 45 2 lv t.l.length (flatV t.l))
    (hl2 : ∀ g, lv.ownBlock = some g → g ∉ fp) (hu : (ts.length : Int) + 1 ≤ used) {o : Obj} {w1 : World} {sv' : Value}
    (hown : w1.ownsRow base 84 1 sv' (ts.length + 1) ((tp.map fun p => Value.pointer (some ⟨p.1, 0, none⟩)) ++ [.pointer (some ⟨tb, 0, none⟩)])) (hgrow : (w.alloc o).grownBy w1 sv.ownBlock)
    (hat : ∀ k, sv'.ownBlock = some k → sv.ownBlock = some k ∨ w.heap.size + 1 ≤ k) :
    HRep (w1.setCell ⟨hb, 2, none⟩ sv') base (fpPut fp tb lv sv') hb most used sv' (tp ++ [(tb, lv)]) (ts ++ [t]) ∧ (∀ k, sv'.ownBlock = some k → k ∈ fp ∨ w.heap.size ≤ k) ∧ Out fp w (w1.setCell ⟨hb, 2, none⟩ sv') := by
  have svne : ∀ g, sv.ownBlock = some g → g ≠ hb := fun g hg => owns_ne h.row hg h.blk (by decide)
  have old : ∀ k, k < w.heap.size → sv.ownBlock ≠ some k → w1.heap[k]? = w.heap[k]? := fun k hk hne =>
    (hgrow.block k (by simp; omega) (fun e => hne e.symm)).trans (Below.heap_alloc w o k hk)
  have old2 : ∀ k, k < w.heap.size → sv.ownBlock ≠ some k → k ≠ hb → (w1.setCell ⟨hb, 2, none⟩ sv').heap[k]? = w.heap[k]? := fun k hk hne hkb =>
    (Below.heap_setCell _ _ _ _ hkb).trans (old k hk hne)
  have hbblk : w1.heap[hb]? = _ := (old hb h.hbLt (fun e => svne hb e rfl)).trans h.blk
  have hsz : w.heap.size + 1 ≤ w1.heap.size := by have := hgrow.size; simpa using this
  have sne' : ∀ k, sv'.ownBlock = some k → k ≠ hb := fun k hk => by
    rcases hat k hk with e | e
    · exact svne k e
    · have := h.hbLt; omega
  have tbne : tb ≠ hb := fun e => hb2 (e ▸ h.mem)
  have tbsv : sv.ownBlock ≠ some tb := fun e => hb2 (h.smem _ e)
  have tblt := lt_of_block blk
  have nonew : ∀ k, sv'.ownBlock = some k → k ∈ fp ∨ w.heap.size ≤ k := fun k hk => by
    rcases hat k hk with e | e
    · exact .inl (h.smem k e)
    · right; omega
  refine ⟨?_, nonew, ?_⟩
  · exact {
      ge := fun k hk => by
        rcases mem_fpPut.1 hk with hk | rfl | hk | hk
        · exact h.ge k hk
        · exact hb1
        · exact (row.lt k hk).1
        · exact (hown.lt k hk).1
      lt := fun k hk => by
        have hs : (w1.setCell ⟨hb, 2, none⟩ sv').heap.size = w1.heap.size := by simp [World.setCell]
        rw [hs]
        rcases mem_fpPut.1 hk with hk | rfl | hk | hk
        · have := h.lt k hk; omega
        · omega
        · have := (row.lt k hk).2; omega
        · exact (hown.lt k hk).2
      mem := mem_fpPut.2 (.inl h.mem)
      blk := by rw [block_setCell hbblk]; rfl
      smem := fun g hg => mem_fpPut.2 (.inr (.inr (.inr hg)))
      row := by
        rw [List.length_append, List.map_append]
        exact ownsRow_same hown fun g hg => Below.heap_setCell _ _ _ _ (sne' g hg)
      len := by simp [h.len]
      things := fun i p u hp hu' => by
        rcases getElem?_snoc hp with hp1 | ⟨rfl, rfl⟩
        · have hi := lt_of_get hp1
          rw [List.getElem?_append_left (by rw [← h.len]; exact hi)] at hu'
          have T := h.things i p u hp1 hu'
          refine T.same (fun _ hx => mem_fpPut.2 (.inl hx)) (old2 _ (h.lt _ T.mem) (fun e => owns_ne h.row e T.blk (by decide) rfl) (blk_ne T.blk h.blk (by decide))) fun g hg => ?_
          obtain ⟨cur, hc⟩ := owns_block T.row hg
          exact old2 _ (h.lt _ (T.lmem g hg)) (fun e => owns_ne h.row e hc (by decide) rfl) (blk_ne hc h.blk (by decide))
        · rw [h.len, List.getElem?_append_right (Nat.le_refl _), Nat.sub_self] at hu'
          simp at hu'
          subst hu'
          refine ⟨mem_fpPut.2 (.inr (.inl rfl)), by rw [old2 tb tblt tbsv tbne]; exact blk, fun g hg => mem_fpPut.2 (.inr (.inr (.inl hg))), ownsRow_same row fun g hg => ?_⟩
          exact old2 _ (row.lt g hg).2 (fun e => hl2 g hg (h.smem g e)) (fun e => hl2 g hg (e ▸ h.mem))
      injB := fun i j p q hp hq hpq => by
        rcases getElem?_snoc hp with hp1 | ⟨rfl, rfl⟩ <;> rcases getElem?_snoc hq with hq1 | ⟨rfl, rfl⟩
        · exact h.injB i j p q hp1 hq1 hpq
        · obtain ⟨u, hu'⟩ := h.tsAt hp1
          exact absurd (h.things i p u hp1 hu').mem (by rw [hpq]; exact hb2)
        · obtain ⟨u, hu'⟩ := h.tsAt hq1
          exact absurd (h.things j q u hq1 hu').mem (by rw [← hpq]; exact hb2)
        · rfl
      injL := fun i j p q g hp hq hpg hqg => by
        rcases getElem?_snoc hp with hp1 | ⟨rfl, rfl⟩ <;> rcases getElem?_snoc hq with hq1 | ⟨rfl, rfl⟩
        · exact h.injL i j p q g hp1 hq1 hpg hqg
        · obtain ⟨u, hu'⟩ := h.tsAt hp1
          exact absurd ((h.things i p u hp1 hu').lmem g hpg) (hl2 g hqg)
        · obtain ⟨u, hu'⟩ := h.tsAt hq1
          exact absurd ((h.things j q u hq1 hu').lmem g hqg) (hl2 g hpg)
        · rfl
      used0 := h.used0
      usedM := h.usedM
      most0 := h.most0
      count := by simp; omega }
  · exact (((Out.refl fp w).alloc o).grown hgrow (fun k hk => .inl (h.smem k hk))).setCell (.inl h.mem) _

def PutPost (w : World) (base : Nat) (fp : List Nat) (hb : Nat) (most used : Int) (tp : List (Nat × Value)) (ts : List Thg) (tb : Nat) (lv : Value) (t : Thg) (e : Ending) (w' : World) : Prop :=
  e = .returned (.int .i64 ((ts.length : Int) + 1)) ∧ ∃ sv', HRep w' base (fpPut fp tb lv sv') hb most used sv' (tp ++ [(tb, lv)]) (ts ++ [t]) ∧ (∀ k, sv'.ownBlock = some k → k ∈ fp ∨ w.heap.size ≤ k) ∧ Out fp w w'

set_option maxHeartbeats 400000 in
theorem put_any (h : HRep w base fp hb most used sv tp ts) (tb : Nat) (lv : Value) (t : Thg) (hb1 : base ≤ tb) (hb2 : tb ∉ fp)
    (blk : w.heap[tb]? = some (.cells #[.bool t.arr, .int .i64 t.kind, .int .i64 t.cls, lv] 86 (0, 0))) (row : w.ownsRow base 45 2 lv t.l.length (flatV t.l))
    (hl2 : ∀ g, lv.ownBlock = some g → g ∉ fp) (hu : (ts.length : Int) + 1 ≤ used) :
    Calls Try.prog 58 #[.pointer (some ⟨hb, 0, none⟩), .pointer (some ⟨tb, 0, none⟩)] w (PutPost w base fp hb most used tp ts tb lv t) := by
  obtain ⟨i0, hi, hz0, hz1, hz2⟩ := info_parts Try.info84
  have c2 := h.c2
  have hrow := h.row
  have hlt := h.hbLt
  obtain ⟨a, cap, rfl, hs1, hs2, _⟩ := owns_shape hrow
  have hn : ts.length ≤ 1000000 := by have := h.usedM; have := h.most0; omega
  have hbase : base ≤ w.heap.size := by have := h.ge _ h.mem; omega
  have svne : ∀ g, (Value.slice a ts.length cap).ownBlock = some g → g ≠ hb := fun g hg => owns_ne h.row hg h.blk (by decide)
  have keep : ∀ (o : Obj) (w1 : World), (w.alloc o).grownBy w1 (Value.slice a ts.length cap).ownBlock → w1.cell? ⟨hb, 2, none⟩ = some (.slice a ts.length cap) ∧ w1.frozen? ⟨hb, 2, none⟩ = false := fun o w1 hg => by
    have hbblk := ((hg.block hb (by simp; omega) (fun e => svne hb e.symm rfl)).trans (Below.heap_alloc w o hb hlt)).trans h.blk
    exact ⟨cell_in hbblk 2 rfl, free_in hbblk 2⟩
  have fin : ∀ (o : Obj) (w1 : World) (sv' : Value), w1.ownsRow base 84 1 sv' (ts.length + 1) ((tp.map fun p => Value.pointer (some ⟨p.1, 0, none⟩)) ++ [.pointer (some ⟨tb, 0, none⟩)]) → (w.alloc o).grownBy w1 (Value.slice a ts.length cap).ownBlock →
      (∀ k, sv'.ownBlock = some k → (Value.slice a ts.length cap).ownBlock = some k ∨ w.heap.size + 1 ≤ k) → PutPost w base fp hb most used tp ts tb lv t (.returned (.int .i64 ((ts.length : Int) + 1))) (w1.setCell ⟨hb, 2, none⟩ sv') := fun o w1 sv' h1 h2 h3 =>
    ⟨rfl, sv', put_step h hb1 hb2 blk row hl2 hu h1 h2 h3⟩
  have FIN := Lib.hid fin
  have KEEP := Lib.hid keep
  clear fin keep h svne hb1 hb2 blk row hl2 hu hlt
  unfold maxLen at hs2
  generalize ts.length = n at *
  go_enter Try.func58, Try.ntmps58
  go_wp2_with (at_builtin; refine wpList_append_at _ rfl _ _ 69 rfl base 84 i0 (.pointer none) 1 8 Try.underlying69 hi hz0 hz1 hz2 rfl (by decide) _ _ _ rfl (hrow.alloc _) ⟨w.heap.size, 0, none⟩ 1 1 [.pointer (some ⟨tb, 0, none⟩)] rfl rfl ?c1 ?c2 ?c3 ?c4 ?c5 ?_)
  case c1 => exact cell_one_new _ _ _
  case c2 => intro u hu; simp at hu; subst hu; rfl
  case c3 => unfold maxLen; omega
  case c4 => omega
  case c5 => simp; omega
  intro sv' w1 hown' hgrow hat
  obtain ⟨k1, k2⟩ := KEEP.out _ _ hgrow
  have hfin := Lib.hid (FIN.out _ _ _ hown' hgrow hat)
  obtain ⟨a', cap', rfl, _, hs2', _⟩ := owns_shape hown'
  clear hown' hgrow hat FIN KEEP hrow
  unfold maxLen at hs2'
  go_wp2
  go_ret
  exact hfin.out
end
end Go.Proofs.Ytdelikjodacedaa
