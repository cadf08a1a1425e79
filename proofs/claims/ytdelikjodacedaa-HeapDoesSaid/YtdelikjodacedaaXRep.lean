/- What a heap of the document's package is in memory: its own block, the row of its things (four cells each), each thing's row of values; and how that stands while other blocks are written. -/
import Derived.Test.YtdelikjodacedaaWorks
import Derived.Test.YtdelikjodacedaaPutC
namespace Go.Proofs.Ytdelikjodacedaa
open Go.RowKit

/-- A thing's cells in the row, with the slice of its values. -/
def cellsT (p : Thg × Value) : List Value := [.bool p.1.arr, .int .i64 p.1.kind, .int .i64 p.1.cls, p.2]
def flatT (l : List (Thg × Value)) : List Value := l.flatMap cellsT
theorem flatT_cons (p : Thg × Value) (l : List (Thg × Value)) : flatT (p :: l) = cellsT p ++ flatT l := rfl
theorem flatT_append (a b : List (Thg × Value)) : flatT (a ++ b) = flatT a ++ flatT b := by simp [flatT]
theorem flatT_get (l : List (Thg × Value)) (i c : Nat) (hc : c < 4) {p : Thg × Value} (hp : l[i]? = some p) : (flatT l)[i * 4 + c]? = (cellsT p)[c]? := by
  induction l generalizing i with
  | nil => simp at hp
  | cons q l ih =>
    rw [flatT_cons]
    cases i with
    | zero =>
      simp at hp
      subst hp
      rw [List.getElem?_append_left (by simp [cellsT]; omega)]
      simp
    | succ i =>
      rw [List.getElem?_append_right (by simp [cellsT]; omega)]
      simp only [List.getElem?_cons_succ] at hp
      rw [show (i + 1) * 4 + c - (cellsT q).length = i * 4 + c by simp [cellsT]; omega]
      exact ih i hp
theorem flatT_set (l : List (Thg × Value)) (r : Nat) {p : Thg × Value} (hp : l[r]? = some p) (t : Thg) (h1 : t.arr = p.1.arr) (h2 : t.kind = p.1.kind) (h3 : t.cls = p.1.cls) : flatT (l.set r (t, p.2)) = flatT l := by
  induction l generalizing r with
  | nil => simp at hp
  | cons q l ih =>
    cases r with
    | zero =>
      simp at hp
      subst hp
      simp [flatT_cons, cellsT, h1, h2, h3]
    | succ r =>
      simp only [List.getElem?_cons_succ] at hp
      rw [List.set_cons_succ, flatT_cons, flatT_cons, ih r hp]

structure XRep (w : World) (base : Nat) (fp : List Nat) (xb : Nat) (most used : Int) (sv : Value) (tp : List (Thg × Value)) (ts : List Thg) : Prop where
  ge : ∀ k ∈ fp, base ≤ k
  lt : ∀ k ∈ fp, k < w.heap.size
  mem : xb ∈ fp
  blk : w.heap[xb]? = some (.cells #[.int .i64 most, .int .i64 used, sv] 62 (0, 0))
  smem : InFp fp sv
  row : w.ownsRow base 65 4 sv ts.length (flatT tp)
  fst : tp.map Prod.fst = ts
  things : ∀ (i : Nat) (p : Thg × Value), tp[i]? = some p → InFp fp p.2 ∧ w.ownsRow base 45 2 p.2 p.1.l.length (flatV p.1.l)
  injL : ∀ (i j : Nat) (p q : Thg × Value) (g : Nat), tp[i]? = some p → tp[j]? = some q → p.2.ownBlock = some g → q.2.ownBlock = some g → i = j
  used0 : 0 ≤ used
  usedM : used ≤ most
  most0 : most ≤ 1000000
  count : (ts.length : Int) ≤ used

section
variable {w : World} {base : Nat} {fp : List Nat} {xb : Nat} {most used : Int} {sv : Value} {tp : List (Thg × Value)} {ts : List Thg}

theorem XRep.same (h : XRep w base fp xb most used sv tp ts) {w' : World} (hk : ∀ k ∈ fp, w'.heap[k]? = w.heap[k]?) : XRep w' base fp xb most used sv tp ts :=
  { h with
    lt := fun k hm => by
      have := hk k hm
      rw [Array.getElem?_eq_getElem (h.lt k hm)] at this
      exact lt_of_block this
    blk := by rw [hk _ h.mem]; exact h.blk
    row := ownsRow_same h.row fun g hg => hk g (h.smem g hg)
    things := fun i p hp => ⟨(h.things i p hp).1, ownsRow_same (h.things i p hp).2 fun g hg => hk g ((h.things i p hp).1 g hg)⟩ }

theorem XRep.out (h : XRep w base fp xb most used sv tp ts) {w' : World} {gp : List Nat} (ho : Out gp w w') (hd : ∀ k ∈ fp, k ∉ gp) : XRep w' base fp xb most used sv tp ts :=
  h.same fun k hk => ho.block k (h.lt k hk) (hd k hk)
theorem XRep.drewN (h : XRep w base fp xb most used sv tp ts) (n : Nat) : XRep (w.drewN n) base fp xb most used sv tp ts := h.same fun _ _ => rfl
theorem XRep.len (h : XRep w base fp xb most used sv tp ts) : tp.length = ts.length := by rw [← h.fst, List.length_map]

theorem XRep.tsAt (h : XRep w base fp xb most used sv tp ts) {i : Nat} {t : Thg} (ht : ts[i]? = some t) : ∃ v, tp[i]? = some (t, v) := by
  rw [← h.fst, List.getElem?_map] at ht
  obtain ⟨p, hp, rfl⟩ := Option.map_eq_some_iff.1 ht
  exact ⟨p.2, hp⟩

theorem XRep.xbLt (h : XRep w base fp xb most used sv tp ts) : xb < w.heap.size := lt_of_block h.blk
theorem XRep.c0 (h : XRep w base fp xb most used sv tp ts) : w.cell? ⟨xb, 0, none⟩ = some (.int .i64 most) := cell_in h.blk 0 rfl
theorem XRep.c1 (h : XRep w base fp xb most used sv tp ts) : w.cell? ⟨xb, 1, none⟩ = some (.int .i64 used) := cell_in h.blk 1 rfl
theorem XRep.c2 (h : XRep w base fp xb most used sv tp ts) : w.cell? ⟨xb, 2, none⟩ = some sv := cell_in h.blk 2 rfl
theorem XRep.free (h : XRep w base fp xb most used sv tp ts) (o : Nat) : w.frozen? ⟨xb, o, none⟩ = false := free_in h.blk o
theorem XRep.small (h : XRep w base fp xb most used sv tp ts) : ts.length ≤ 1000000 := by
  have := h.count; have := h.usedM; have := h.most0; omega

/-- More cells are taken. -/
theorem XRep.setUsed (h : XRep w base fp xb most used sv tp ts) {u : Int} (h1 : used ≤ u) (h2 : u ≤ most) : XRep (w.setCell ⟨xb, 1, none⟩ (.int .i64 u)) base fp xb most u sv tp ts :=
  have old : ∀ k, k ≠ xb → (w.setCell ⟨xb, 1, none⟩ (.int .i64 u)).heap[k]? = w.heap[k]? := fun k hk => Below.heap_setCell _ _ _ _ hk
  { h with
    lt := fun k hm => by have := h.lt k hm; simpa [World.setCell] using this
    blk := by rw [block_setCell h.blk]; rfl
    row := ownsRow_same h.row fun g hg => old g (owns_ne h.row hg h.blk (by decide))
    things := fun i p hp =>
      have T := h.things i p hp
      ⟨T.1, ownsRow_same T.2 fun g hg => old g (owns_ne T.2 hg h.blk (by decide))⟩
    used0 := by have := h.used0; omega
    usedM := h2
    count := by have := h.count; omega }

/-- A new thing: its row lies in new blocks; it is put behind the others. -/
theorem XRep.snoc (h : XRep w base fp xb most used sv tp ts) {lv : Value} {t : Thg} (row : w.ownsRow base 45 2 lv t.l.length (flatV t.l))
    (hl2 : ∀ g, lv.ownBlock = some g → g ∉ fp) (hu : (ts.length : Int) + 1 ≤ used) {o : Obj} {w1 : World} {sv' : Value}
    (hown : w1.ownsRow base 65 4 sv' (ts.length + 1) (flatT tp ++ cellsT (t, lv))) (hgrow : (w.alloc o).grownBy w1 sv.ownBlock)
    (hat : ∀ k, sv'.ownBlock = some k → sv.ownBlock = some k ∨ w.heap.size + 1 ≤ k) :
    XRep (w1.setCell ⟨xb, 2, none⟩ sv') base (fp ++ (lv.ownBlock.toList ++ sv'.ownBlock.toList)) xb most used sv' (tp ++ [(t, lv)]) (ts ++ [t]) ∧
      (∀ k, sv'.ownBlock = some k → k ∈ fp ∨ w.heap.size ≤ k) ∧ Out fp w (w1.setCell ⟨xb, 2, none⟩ sv') := by
  have svne : ∀ g, sv.ownBlock = some g → g ≠ xb := fun g hg => owns_ne h.row hg h.blk (by decide)
  have old : ∀ k, k < w.heap.size → sv.ownBlock ≠ some k → w1.heap[k]? = w.heap[k]? := fun k hk hne =>
    (hgrow.block k (by simp; omega) (fun e => hne e.symm)).trans (Below.heap_alloc w o k hk)
  have old2 : ∀ k, k < w.heap.size → sv.ownBlock ≠ some k → k ≠ xb → (w1.setCell ⟨xb, 2, none⟩ sv').heap[k]? = w.heap[k]? := fun k hk hne hkb =>
    (Below.heap_setCell _ _ _ _ hkb).trans (old k hk hne)
  have xblk : w1.heap[xb]? = _ := (old xb h.xbLt (fun e => svne xb e rfl)).trans h.blk
  have hsz : w.heap.size + 1 ≤ w1.heap.size := by have := hgrow.size; simpa using this
  have sne' : ∀ k, sv'.ownBlock = some k → k ≠ xb := fun k hk => by
    rcases hat k hk with e | e
    · exact svne k e
    · have := h.xbLt; omega
  have nonew : ∀ k, sv'.ownBlock = some k → k ∈ fp ∨ w.heap.size ≤ k := fun k hk => by
    rcases hat k hk with e | e
    · exact .inl (h.smem k e)
    · right; omega
  have memI : ∀ k, k ∈ fp ++ (lv.ownBlock.toList ++ sv'.ownBlock.toList) ↔ k ∈ fp ∨ lv.ownBlock = some k ∨ sv'.ownBlock = some k := fun k => by simp
  have keepV : ∀ {v : Value} {n : Nat} {xs : List Value}, w.ownsRow base 45 2 v n xs → (∀ g, v.ownBlock = some g → g ∈ fp ∨ lv.ownBlock = some g) → (w1.setCell ⟨xb, 2, none⟩ sv').ownsRow base 45 2 v n xs := fun {v n xs} hv _ =>
    ownsRow_same hv fun g hg => by
      obtain ⟨cur, hc⟩ := owns_block hv hg
      exact old2 g (hv.lt g hg).2 (fun e => owns_ne h.row e hc (by decide) rfl) (blk_ne hc h.blk (by decide))
  refine ⟨?_, nonew, ?_⟩
  · exact {
      ge := fun k hk => by
        rcases (memI k).1 hk with hk | hk | hk
        · exact h.ge k hk
        · exact (row.lt k hk).1
        · exact (hown.lt k hk).1
      lt := fun k hk => by
        have hs : (w1.setCell ⟨xb, 2, none⟩ sv').heap.size = w1.heap.size := by simp [World.setCell]
        rw [hs]
        rcases (memI k).1 hk with hk | hk | hk
        · have := h.lt k hk; omega
        · have := (row.lt k hk).2; omega
        · exact (hown.lt k hk).2
      mem := (memI xb).2 (.inl h.mem)
      blk := by rw [block_setCell xblk]; rfl
      smem := fun g hg => (memI g).2 (.inr (.inr hg))
      row := by
        rw [List.length_append, flatT_append, show flatT [(t, lv)] = cellsT (t, lv) by simp [flatT]]
        exact ownsRow_same hown fun g hg => Below.heap_setCell _ _ _ _ (sne' g hg)
      fst := by rw [List.map_append, h.fst]; rfl
      things := fun i p hp => by
        rcases getElem?_snoc hp with hp1 | ⟨_, rfl⟩
        · have T := h.things i p hp1
          exact ⟨fun g hg => (memI g).2 (.inl (T.1 g hg)), keepV T.2 fun g hg => .inl (T.1 g hg)⟩
        · exact ⟨fun g hg => (memI g).2 (.inr (.inl hg)), keepV row fun g hg => .inr hg⟩
      injL := fun i j p q g hp hq hpg hqg => by
        rcases getElem?_snoc hp with hp1 | ⟨rfl, rfl⟩ <;> rcases getElem?_snoc hq with hq1 | ⟨rfl, rfl⟩
        · exact h.injL i j p q g hp1 hq1 hpg hqg
        · exact absurd ((h.things i p hp1).1 g hpg) (hl2 g hqg)
        · exact absurd ((h.things j q hq1).1 g hqg) (hl2 g hpg)
        · rfl
      used0 := h.used0
      usedM := h.usedM
      most0 := h.most0
      count := by simp; omega }
  · exact (((Out.refl fp w).alloc o).grown hgrow (fun k hk => .inl (h.smem k hk))).setCell (.inl h.mem) _

/-- Another value at a thing's place. -/
theorem XRep.put (h : XRep w base fp xb most used sv tp ts) {r : Nat} {t : Thg} {g cap : Nat} (hp : tp[r]? = some (t, .slice (some ⟨g, 0, none⟩) t.l.length cap)) (j : Nat) (k n : Int) :
    XRep ((w.setCell ⟨g, j * 2, none⟩ (.int .i64 k)).setCell ⟨g, j * 2 + 1, none⟩ (.int .i64 n)) base fp xb most used sv (tp.set r (setT t j k n, .slice (some ⟨g, 0, none⟩) t.l.length cap)) (ts.set r (setT t j k n)) ∧
      Out fp w ((w.setCell ⟨g, j * 2, none⟩ (.int .i64 k)).setCell ⟨g, j * 2 + 1, none⟩ (.int .i64 n)) := by
  have T := h.things r _ hp
  have hgm := T.1 g rfl
  obtain ⟨cur, hcur⟩ := owns_block T.2 (g := g) rfl
  have old : ∀ x, x ≠ g → ((w.setCell ⟨g, j * 2, none⟩ (.int .i64 k)).setCell ⟨g, j * 2 + 1, none⟩ (.int .i64 n)).heap[x]? = w.heap[x]? := fun x hx =>
    (Below.heap_setCell _ _ _ _ hx).trans (Below.heap_setCell _ _ _ _ hx)
  have hrow2 := ((T.2.stored (j * 2) (.int .i64 k)).1.stored (j * 2 + 1) (.int .i64 n)).1
  rw [← flatV_set t.l j (k, n)] at hrow2
  refine ⟨{ h with
    lt := fun x hx => by have := h.lt x hx; simpa [World.setCell] using this
    blk := by rw [old _ (blk_ne h.blk hcur (by decide))]; exact h.blk
    row := by
      rw [List.length_set, flatT_set tp r hp (setT t j k n) rfl rfl rfl]
      exact ownsRow_same h.row fun x hx => old x (owns_ne h.row hx hcur (by decide))
    fst := by rw [List.map_set, h.fst]
    things := fun i q hq => ?_
    injL := fun i i' p q x hp' hq' => ?_
    count := by simpa using h.count }, ((Out.refl fp w).setCell (.inl hgm) _).setCell (.inl hgm) _⟩
  · by_cases hi : i = r
    · subst hi
      rw [List.getElem?_set_self (lt_of_get hp)] at hq
      cases hq
      refine ⟨T.1, ?_⟩
      unfold setT
      simpa using hrow2
    · rw [List.getElem?_set_ne (by omega)] at hq
      have U := h.things i q hq
      refine ⟨U.1, ownsRow_same U.2 fun x hx => old x ?_⟩
      rintro rfl
      exact hi (h.injL i r q _ x hq hp hx rfl)
  · have there : ∀ {i : Nat} {p : Thg × Value}, (tp.set r (setT t j k n, .slice (some ⟨g, 0, none⟩) t.l.length cap))[i]? = some p → ∃ q, tp[i]? = some q ∧ q.2 = p.2 := fun {i p} h1 => by
      by_cases hi : i = r
      · subst hi
        rw [List.getElem?_set_self (lt_of_get hp)] at h1
        cases h1
        exact ⟨_, hp, rfl⟩
      · rw [List.getElem?_set_ne (by omega)] at h1
        exact ⟨p, h1, rfl⟩
    obtain ⟨p', hp1, e1⟩ := there hp'
    obtain ⟨q', hq1, e2⟩ := there hq'
    rw [← e1, ← e2]
    exact h.injL i i' p' q' x hp1 hq1
end
theorem XRep_new (w : World) (base : Nat) (m : Int) (hb : base ≤ w.heap.size) (h0 : 0 ≤ m) (hm : m ≤ 1000000) : XRep (w.alloc (.cells #[.int .i64 m, .int .i64 0, .slice none 0 0] 62)) base [w.heap.size] w.heap.size m 0 (.slice none 0 0) [] [] :=
  { ge := fun k hk => by simp at hk; omega
    lt := fun k hk => by simp at hk; simp; omega
    mem := by simp
    blk := heap_alloc_new w _
    smem := fun g hg => by simp [Value.ownBlock] at hg
    row := World.ownsRow_nil _ _ _ _
    fst := rfl
    things := fun i p hp => by simp at hp
    injL := fun i j p q g hp => by simp at hp
    used0 := Int.le_refl _
    usedM := h0
    most0 := hm
    count := by simp }
end Go.Proofs.Ytdelikjodacedaa
