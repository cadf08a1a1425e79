/- What a heap of package heap is in memory: its own block, the row of its things, each thing's block, each thing's row of values; and how that stands while other blocks are written. -/
import Derived.Test.YtdelikjodacedaaRows
import Derived.WalkKit
import Derived.WalkSpells
import Derived.WalkLawsBesides
namespace Go.Proofs.Ytdelikjodacedaa
open Go.RowKit

/-- A thing, as numbers. -/
structure Thg where
  arr : Bool
  kind : Int
  cls : Int
  l : List (Int × Int)

def noThg : Thg := ⟨false, 0, 0, []⟩

/-- A row of values, cell by cell. -/
def flatV (l : List (Int × Int)) : List Value := l.flatMap fun p => [.int .i64 p.1, .int .i64 p.2]
theorem flatV_nil : flatV [] = [] := rfl
theorem flatV_append (a b : List (Int × Int)) : flatV (a ++ b) = flatV a ++ flatV b := by simp [flatV]
theorem flatV_one (p : Int × Int) : flatV [p] = [.int .i64 p.1, .int .i64 p.2] := rfl
theorem flatV_length (l : List (Int × Int)) : (flatV l).length = l.length * 2 := by
  induction l with
  | nil => rfl
  | cons p l ih => rw [← List.singleton_append, flatV_append, List.length_append, ih, flatV_one]; simp; omega
theorem flatV_even (l : List (Int × Int)) (i : Nat) : (flatV l)[i * 2]? = (l[i]?).map fun p => Value.int .i64 p.1 := by
  induction l generalizing i with
  | nil => simp [flatV]
  | cons p l ih =>
    cases i with
    | zero => rfl
    | succ i =>
      rw [show (i + 1) * 2 = i * 2 + 2 by omega]
      show (flatV l)[i * 2]? = _
      rw [ih]; simp
theorem flatV_odd (l : List (Int × Int)) (i : Nat) : (flatV l)[i * 2 + 1]? = (l[i]?).map fun p => Value.int .i64 p.2 := by
  induction l generalizing i with
  | nil => simp [flatV]
  | cons p l ih =>
    cases i with
    | zero => rfl
    | succ i =>
      rw [show (i + 1) * 2 + 1 = i * 2 + 1 + 2 by omega]
      show (flatV l)[i * 2 + 1]? = _
      rw [ih]; simp
theorem flatV_set (l : List (Int × Int)) (i : Nat) (p : Int × Int) : flatV (l.set i p) = ((flatV l).set (i * 2) (.int .i64 p.1)).set (i * 2 + 1) (.int .i64 p.2) := by
  induction l generalizing i with
  | nil => simp [flatV]
  | cons q l ih =>
    cases i with
    | zero => rfl
    | succ i =>
      rw [show (i + 1) * 2 = i * 2 + 2 by omega]
      show _ :: _ :: flatV (l.set i p) = _
      rw [ih]; rfl

/-- The blocks that a value owns are among these. -/
def InFp (fp : List Nat) (v : Value) : Prop := ∀ g, v.ownBlock = some g → g ∈ fp

theorem ownsRow_same {w w' : World} {base : Nat} {e : TypeId} {size : Nat} {v : Value} {n : Nat} {xs : List Value} (h : w.ownsRow base e size v n xs)
    (hk : ∀ g, v.ownBlock = some g → w'.heap[g]? = w.heap[g]?) : w'.ownsRow base e size v n xs := by
  refine ⟨h.1, ?_⟩
  rcases h.2 with h2 | ⟨g, cap, cur, hv, hg, hh, r⟩
  · exact .inl h2
  · subst hv
    exact .inr ⟨g, cap, cur, rfl, hg, by rw [hk g rfl]; exact hh, r⟩

/-- Of what was there, all but these blocks is as it was. -/
structure Out (fp : List Nat) (w w' : World) : Prop where
  os : w'.os = w.os
  tape : w'.tape = w.tape
  output : w'.output = w.output
  size : w.heap.size ≤ w'.heap.size
  block : ∀ k, k < w.heap.size → k ∉ fp → w'.heap[k]? = w.heap[k]?

theorem Out.refl (fp : List Nat) (w : World) : Out fp w w := ⟨rfl, rfl, rfl, Nat.le_refl _, fun _ _ _ => rfl⟩
/-- Two steps: what is written in the second are the same blocks, or new ones. -/
theorem Out.trans {fp fp' : List Nat} {a b c : World} (h : Out fp a b) (k : Out fp' b c) (hs : ∀ x ∈ fp', x ∈ fp ∨ a.heap.size ≤ x) : Out fp a c :=
  ⟨k.os.trans h.os, k.tape.trans h.tape, k.output.trans h.output, Nat.le_trans h.size k.size, fun i hi hn =>
    (k.block i (Nat.lt_of_lt_of_le hi h.size) (fun hm => (hs i hm).elim hn (fun hle => by omega))).trans (h.block i hi hn)⟩
theorem Out.mono {fp fp' : List Nat} {w w' : World} (h : Out fp w w') (hs : ∀ x ∈ fp, x ∈ fp') : Out fp' w w' :=
  ⟨h.os, h.tape, h.output, h.size, fun i hi hn => h.block i hi (fun hm => hn (hs i hm))⟩
theorem Out.alloc {fp : List Nat} {a w : World} (h : Out fp a w) (o : Obj) : Out fp a (w.alloc o) :=
  ⟨h.os, h.tape, h.output, by have := h.size; simp; omega, fun i hi hn => (Below.heap_alloc w o i (Nat.lt_of_lt_of_le hi h.size)).trans (h.block i hi hn)⟩
theorem Out.drew {fp : List Nat} {a w : World} (h : Out fp a w) : Out fp a w.drew := ⟨h.os, h.tape, h.output, h.size, h.block⟩
theorem Out.drewN {fp : List Nat} {a w : World} (h : Out fp a w) (n : Nat) : Out fp a (w.drewN n) := ⟨h.os, h.tape, h.output, h.size, h.block⟩
theorem Out.setCell {fp : List Nat} {a w : World} (h : Out fp a w) {p : Addr} (hp : p.block ∈ fp ∨ a.heap.size ≤ p.block) (u : Value) : Out fp a (w.setCell p u) :=
  ⟨h.os, h.tape, h.output, by have := h.size; simp [World.setCell]; omega, fun i hi hn => by
    rw [Below.heap_setCell _ _ _ _ (fun e => hp.elim (fun hm => hn (by rw [e]; exact hm)) (fun hle => by omega))]; exact h.block i hi hn⟩
theorem Out.grown {fp : List Nat} {a w w' : World} {row : Option Nat} (h : Out fp a w) (hg : w.grownBy w' row) (hr : ∀ k, row = some k → k ∈ fp ∨ a.heap.size ≤ k) : Out fp a w' :=
  ⟨hg.os.trans h.os, hg.tape.trans h.tape, hg.output.trans h.output, Nat.le_trans h.size hg.size, fun i hi hn =>
    (hg.block i (Nat.lt_of_lt_of_le hi h.size) (fun e => (hr i e.symm).elim hn (fun hle => by omega))).trans (h.block i hi hn)⟩
theorem Out.below {fp : List Nat} {B : Nat} {w w' : World} (h : Out fp w w') (hB : B ≤ w.heap.size) (hf : ∀ k ∈ fp, B ≤ k) : Below B w w' :=
  ⟨h.os, h.tape, h.output, h.size, fun k hk => h.block k (by omega) (fun hm => by have := hf k hm; omega)⟩
theorem Out.of_below {w w' : World} (h : Below w.heap.size w w') : Out [] w w' := ⟨h.os, h.tape, h.output, h.size, fun k hk _ => h.block k hk⟩
theorem Out.cell {fp : List Nat} {w w' : World} (h : Out fp w w') {p : Addr} (hp : p.block < w.heap.size) (hn : p.block ∉ fp) : w'.cell? p = w.cell? p := World.cell?_of_block (w := w) (h.block _ hp hn)
theorem Out.frozen {fp : List Nat} {w w' : World} (h : Out fp w w') {p : Addr} (hp : p.block < w.heap.size) (hn : p.block ∉ fp) : w'.frozen? p = w.frozen? p := World.frozen?_of_block (w := w) (h.block _ hp hn)

theorem cell_in {w : World} {b : Nat} {cs : Array Value} {e : TypeId} (h : w.heap[b]? = some (.cells cs e (0, 0))) (o : Nat) {v : Value} (hv : cs[o]? = some v) : w.cell? ⟨b, o, none⟩ = some v := by
  simp [World.cell?, h, hv]
theorem free_in {w : World} {b : Nat} {cs : Array Value} {e : TypeId} (h : w.heap[b]? = some (.cells cs e (0, 0))) (o : Nat) : w.frozen? ⟨b, o, none⟩ = false := by
  simp [World.frozen?, h]
theorem block_setCell {w : World} {b o : Nat} {cs : Array Value} {e : TypeId} {fz : Nat × Nat} (h : w.heap[b]? = some (.cells cs e fz)) (v : Value) :
    (w.setCell ⟨b, o, none⟩ v).heap[b]? = some (.cells (cs.setIfInBounds o v) e fz) := by
  have hlt := lt_of_block h
  have h' : w.heap[b] = .cells cs e fz := by simpa [Array.getElem?_eq_getElem hlt] using h
  show (w.heap.modify b _)[b]? = _
  rw [Array.getElem?_eq_getElem (by simpa using hlt), Array.getElem_modify_self, h']
  rfl

structure TRep (w : World) (base : Nat) (fp : List Nat) (b : Nat) (lv : Value) (t : Thg) : Prop where
  mem : b ∈ fp
  blk : w.heap[b]? = some (.cells #[.bool t.arr, .int .i64 t.kind, .int .i64 t.cls, lv] 86 (0, 0))
  lmem : InFp fp lv
  row : w.ownsRow base 45 2 lv t.l.length (flatV t.l)

theorem TRep.same {w w' : World} {base : Nat} {fp fp' : List Nat} {b : Nat} {lv : Value} {t : Thg} (h : TRep w base fp b lv t) (hs : ∀ k ∈ fp, k ∈ fp')
    (hb : w'.heap[b]? = w.heap[b]?) (hl : ∀ g, lv.ownBlock = some g → w'.heap[g]? = w.heap[g]?) : TRep w' base fp' b lv t :=
  ⟨hs _ h.mem, by rw [hb]; exact h.blk, fun g hg => hs _ (h.lmem g hg), ownsRow_same h.row hl⟩

/-- A heap: its block hb, how many cells it may take and has taken, the slice of its things and where they lie, what they are. -/
structure HRep (w : World) (base : Nat) (fp : List Nat) (hb : Nat) (most used : Int) (sv : Value) (tp : List (Nat × Value)) (ts : List Thg) : Prop where
  ge : ∀ k ∈ fp, base ≤ k
  lt : ∀ k ∈ fp, k < w.heap.size
  mem : hb ∈ fp
  blk : w.heap[hb]? = some (.cells #[.int .i64 most, .int .i64 used, sv] 71 (0, 0))
  smem : InFp fp sv
  row : w.ownsRow base 84 1 sv ts.length (tp.map fun p => .pointer (some ⟨p.1, 0, none⟩))
  len : tp.length = ts.length
  things : ∀ (i : Nat) (p : Nat × Value) (t : Thg), tp[i]? = some p → ts[i]? = some t → TRep w base fp p.1 p.2 t
  injB : ∀ (i j : Nat) (p q : Nat × Value), tp[i]? = some p → tp[j]? = some q → p.1 = q.1 → i = j
  injL : ∀ (i j : Nat) (p q : Nat × Value) (g : Nat), tp[i]? = some p → tp[j]? = some q → p.2.ownBlock = some g → q.2.ownBlock = some g → i = j
  used0 : 0 ≤ used
  usedM : used ≤ most
  most0 : most ≤ 1000000
  count : (ts.length : Int) ≤ used

section
variable {w : World} {base : Nat} {fp : List Nat} {hb : Nat} {most used : Int} {sv : Value} {tp : List (Nat × Value)} {ts : List Thg}

theorem HRep.same (h : HRep w base fp hb most used sv tp ts) {w' : World} (hk : ∀ k ∈ fp, w'.heap[k]? = w.heap[k]?) : HRep w' base fp hb most used sv tp ts :=
  { h with
    lt := fun k hm => by
      have := hk k hm
      rw [Array.getElem?_eq_getElem (h.lt k hm)] at this
      exact lt_of_block this
    blk := by rw [hk _ h.mem]; exact h.blk
    row := ownsRow_same h.row fun g hg => hk g (h.smem g hg)
    things := fun i p t hp ht => (h.things i p t hp ht).same (fun _ hx => hx) (hk _ (h.things i p t hp ht).mem) fun g hg => hk g ((h.things i p t hp ht).lmem g hg) }

theorem HRep.out (h : HRep w base fp hb most used sv tp ts) {w' : World} {gp : List Nat} (ho : Out gp w w') (hd : ∀ k ∈ fp, k ∉ gp) : HRep w' base fp hb most used sv tp ts :=
  h.same fun k hk => ho.block k (h.lt k hk) (hd k hk)

theorem HRep.tpAt (h : HRep w base fp hb most used sv tp ts) {i : Nat} (hi : i < ts.length) : ∃ p, tp[i]? = some p := ⟨tp[i]'(by rw [h.len]; exact hi), by simp⟩
theorem HRep.tsAt (h : HRep w base fp hb most used sv tp ts) {i : Nat} {p : Nat × Value} (hp : tp[i]? = some p) : ∃ t, ts[i]? = some t := by
  have hi : i < tp.length := by
    rcases Nat.lt_or_ge i tp.length with hi | hi
    · exact hi
    · rw [List.getElem?_eq_none hi] at hp; cases hp
  exact ⟨ts[i]'(by rw [← h.len]; exact hi), by simp⟩

theorem ownsRow_lt {w : World} {base : Nat} {e : TypeId} {size : Nat} {v : Value} {n : Nat} {xs : List Value} (h : w.ownsRow base e size v n xs) {g : Nat} (hg : v.ownBlock = some g) : g < w.heap.size := (h.lt g hg).2

/-- All its blocks that it speaks of are there. -/
theorem HRep.hbLt (h : HRep w base fp hb most used sv tp ts) : hb < w.heap.size := lt_of_block h.blk

theorem HRep.c0 (h : HRep w base fp hb most used sv tp ts) : w.cell? ⟨hb, 0, none⟩ = some (.int .i64 most) := cell_in h.blk 0 rfl
theorem HRep.c1 (h : HRep w base fp hb most used sv tp ts) : w.cell? ⟨hb, 1, none⟩ = some (.int .i64 used) := cell_in h.blk 1 rfl
theorem HRep.c2 (h : HRep w base fp hb most used sv tp ts) : w.cell? ⟨hb, 2, none⟩ = some sv := cell_in h.blk 2 rfl
theorem HRep.free (h : HRep w base fp hb most used sv tp ts) (o : Nat) : w.frozen? ⟨hb, o, none⟩ = false := free_in h.blk o

/-- The row's shape. -/
theorem owns_shape {w : World} {base : Nat} {e : TypeId} {size : Nat} {v : Value} {n : Nat} {xs : List Value} (h : w.ownsRow base e size v n xs) :
    ∃ (a : Option Addr) (cap : Nat), v = .slice a n cap ∧ n ≤ cap ∧ cap ≤ maxLen ∧ (0 < n → ∃ g, a = some ⟨g, 0, none⟩ ∧ base ≤ g ∧ v.ownBlock = some g ∧ (∀ j u, xs[j]? = some u → w.cell? ⟨g, j, none⟩ = some u) ∧ ∀ o, w.frozen? ⟨g, o, none⟩ = false) := by
  rcases h.2 with ⟨rfl, rfl⟩ | ⟨g, cap, cur, rfl, hbg, hg, hnc, hcm, _, _⟩
  · exact ⟨none, 0, rfl, Nat.le_refl _, Nat.zero_le _, fun h0 => absurd h0 (Nat.lt_irrefl _)⟩
  · refine ⟨some ⟨g, 0, none⟩, cap, rfl, hnc, hcm, fun _ => ⟨g, rfl, hbg, rfl, fun j u hu => ?_, fun o => free_in hg o⟩⟩
    have := h.cells (g := g) rfl j u hu
    have hadd : (⟨g, 0, none⟩ : Addr).add j = ⟨g, j, none⟩ := by unfold Addr.add; split <;> simp_all
    rwa [hadd] at this

theorem heap_drewN (w : World) (n : Nat) : (w.drewN n).heap = w.heap := rfl
theorem owns_block {w : World} {base : Nat} {e : TypeId} {size : Nat} {v : Value} {n : Nat} {xs : List Value} (h : w.ownsRow base e size v n xs) {g : Nat} (hg : v.ownBlock = some g) :
    ∃ cur, w.heap[g]? = some (.cells cur e (0, 0)) := by
  rcases h.2 with ⟨rfl, _⟩ | ⟨g', cap, cur, rfl, _, hh, _⟩
  · simp [Value.ownBlock] at hg
  · simp [Value.ownBlock] at hg; subst hg; exact ⟨cur, hh⟩
/-- Blocks of other element types are other blocks. -/
theorem owns_ne {w : World} {base : Nat} {e e' : TypeId} {size : Nat} {v : Value} {n : Nat} {xs : List Value} (h : w.ownsRow base e size v n xs) {g b : Nat} (hg : v.ownBlock = some g)
    {cs : Array Value} {fz : Nat × Nat} (hb : w.heap[b]? = some (.cells cs e' fz)) (hne : e ≠ e') : g ≠ b := by
  rintro rfl
  obtain ⟨cur, hc⟩ := owns_block h hg
  rw [hc] at hb
  injection hb with hb
  injection hb with _ he _
  exact hne he
theorem blk_ne {w : World} {e e' : TypeId} {a b : Nat} {cs cs' : Array Value} {fz fz' : Nat × Nat} (ha : w.heap[a]? = some (.cells cs e fz)) (hb : w.heap[b]? = some (.cells cs' e' fz')) (hne : e ≠ e') : a ≠ b := by
  rintro rfl
  rw [ha] at hb
  injection hb with hb
  injection hb with _ he _
  exact hne he

section
variable {w : World} {base : Nat} {fp : List Nat} {hb : Nat} {most used : Int} {sv : Value} {tp : List (Nat × Value)} {ts : List Thg}
theorem HRep.drewN (h : HRep w base fp hb most used sv tp ts) (n : Nat) : HRep (w.drewN n) base fp hb most used sv tp ts := h.same fun _ _ => rfl

/-- More cells are taken. -/
theorem HRep.setUsed (h : HRep w base fp hb most used sv tp ts) {u : Int} (h1 : used ≤ u) (h2 : u ≤ most) : HRep (w.setCell ⟨hb, 1, none⟩ (.int .i64 u)) base fp hb most u sv tp ts :=
  have old : ∀ k, k ≠ hb → (w.setCell ⟨hb, 1, none⟩ (.int .i64 u)).heap[k]? = w.heap[k]? := fun k hk => Below.heap_setCell _ _ _ _ hk
  { h with
    lt := fun k hm => by have := h.lt k hm; simpa [World.setCell] using this
    blk := by rw [block_setCell h.blk]; rfl
    row := ownsRow_same h.row fun g hg => old g (owns_ne h.row hg h.blk (by decide))
    things := fun i p t hp ht =>
      have T := h.things i p t hp ht
      T.same (fun _ hx => hx) (old _ (blk_ne T.blk h.blk (by decide))) fun g hg => old g (owns_ne T.row hg h.blk (by decide))
    used0 := by have := h.used0; omega
    usedM := h2
    count := by have := h.count; omega }
end
end
end Go.Proofs.Ytdelikjodacedaa
