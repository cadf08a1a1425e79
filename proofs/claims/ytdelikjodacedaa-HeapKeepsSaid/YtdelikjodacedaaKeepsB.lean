/- HeapKeeps: the heap and the rows beside it, step by step: a new array; a Put and the same in the rows. -/
import Derived.Test.YtdelikjodacedaaKeepsA
namespace Go.Proofs.Ytdelikjodacedaa
open Go.RowKit

/-- The heap and the rows, which hold the same; behind a begun world. -/
def KRel (B : Nat) (w0 : World) (hb : Nat) (wv : Value) (rv : List Value) (wl : List (List Int)) (used : Int) (ts : List Thg) (w : World) : Prop :=
  Below B w0 w ∧ B ≤ w0.heap.size ∧ ∃ fp sv tp gp, HRep w B fp hb 1000 used sv tp ts ∧ WRep w B gp wv rv wl ∧ ∀ k ∈ gp, k ∉ fp

section
variable {B : Nat} {w0 : World} {hb : Nat} {wv : Value} {rv : List Value} {wl : List (List Int)} {used : Int} {ts : List Thg} {w : World}
theorem KRel.start {B : Nat} {w0 : World} {hb : Nat} {w : World} (h : HIn B w0 hb 1000 0 [] w) : KRel B w0 hb (.slice none 0 0) [] [] (cellsOf []) (tsOf []) w := by
  obtain ⟨h1, h2, fp, sv, tp, hR⟩ := h
  exact ⟨h1, h2, fp, sv, tp, [], hR, WRep.nil w B, by simp⟩
theorem KRel.a (h : KRel B w0 hb wv rv wl used ts w) : AHeap w (.pointer (some ⟨hb, 0, none⟩)) ts := by
  obtain ⟨_, _, fp, sv, tp, gp, hR, _⟩ := h
  exact hR.a
theorem KRel.out (h : KRel B w0 hb wv rv wl used ts w) {w' : World} (ho : Out [] w w') : KRel B w0 hb wv rv wl used ts w' := by
  obtain ⟨h1, h2, fp, sv, tp, gp, hR, hW, hd⟩ := h
  exact ⟨h1.trans (ho.below (by have := h1.size; omega) (by simp)), h2, fp, sv, tp, gp, hR.out ho (by simp), hW.out ho (by simp), hd⟩

/-- A new array in the heap. -/
theorem KRel.array (h : KRel B w0 hb wv rv wl used ts w) (cls n : Int) (h0 : 0 ≤ n) (h1 : used + n < 1000) :
    Calls Try.prog 29 #[.pointer (some ⟨hb, 0, none⟩), .int .i64 2, .int .i64 cls, .int .i64 n] w fun e w' =>
      e = .returned (.tuple #[.int .i64 ((ts.length : Int) + 1), .bool true]) ∧ KRel B w0 hb wv rv wl (used + n + 1) (ts ++ [arrT 2 cls n]) w' := by
  obtain ⟨hb1, hb2, fp, sv, tp, gp, hR, hW, hd⟩ := h
  have K := Array_any hR 2 cls n
  have hB : arrB 1000 used 2 n = true := by unfold arrB; simp [isK]; omega
  unfold ArrPost at K
  rw [hB] at K
  refine K.mono ?_
  rintro e w' ⟨rfl, fp', sv', tp', hR', hn, ho⟩
  refine ⟨rfl, hb1.trans (ho.below (by have := hb1.size; omega) hR.ge), hb2, fp', sv', tp', gp, hR', hW.out ho hd, fun k hk hm => ?_⟩
  rcases hn k hm with hx | hx
  · exact hd k hk hx
  · have := hW.lt k hk; omega

/-- A row beside it is made in new memory .. -/
theorem KRel.made (h : KRel B w0 hb wv rv wl used ts w) {w' : World} (ho : Out [] w w') : KRel B w0 hb wv rv wl used ts w' ∧ ∃ fp gp : List Nat, (∀ k ∈ fp, k < w.heap.size) ∧ (∀ k ∈ gp, k < w.heap.size) ∧
    ∃ sv tp, Below B w0 w' ∧ B ≤ w0.heap.size ∧ HRep w' B fp hb 1000 used sv tp ts ∧ WRep w' B gp wv rv wl ∧ ∀ k ∈ gp, k ∉ fp := by
  have h' := h.out ho
  obtain ⟨h1, h2, fp, sv, tp, gp, hR, hW, hd⟩ := h
  exact ⟨h', fp, gp, hR.lt, hW.lt, sv, tp, h'.1, h2, hR.out ho (by simp), hW.out ho (by simp), hd⟩
/-- .. and put behind the others. -/
theorem KRel.row (h : KRel B w0 hb wv rv wl used ts w) {w' : World} (ho : Out [] w w') {g cap : Nat} {l : List Int} (hv : w'.ownsRow B 3 1 (.slice (some ⟨g, 0, none⟩) l.length cap) l.length (l.map (Value.int .i64))) (hg : w.heap.size ≤ g)
    {o : Obj} {w1 : World} {wv' : Value} (hown : w1.ownsRow B 37 1 wv' (wl.length + 1) (rv ++ [.slice (some ⟨g, 0, none⟩) l.length cap])) (hgrow : (w'.alloc o).grownBy w1 wv.ownBlock) (hat : ∀ k, wv'.ownBlock = some k → wv.ownBlock = some k ∨ w'.heap.size + 1 ≤ k) :
    KRel B w0 hb wv' (rv ++ [.slice (some ⟨g, 0, none⟩) l.length cap]) (wl ++ [l]) used ts w1 := by
  obtain ⟨_, fp, gp, hlf, hlg, sv, tp, h1, h2, hR, hW, hd⟩ := h.made ho
  have hsz := ho.size
  have o1 : Out gp w' w1 := ((Out.refl gp w').alloc o).grown hgrow fun k hk => .inl (hW.mem k hk)
  refine ⟨h1.trans (o1.below (by have := h1.size; omega) hW.ge), h2, fp, sv, tp, _, hR.out o1 (fun k hk hm => hd k hm hk), hW.next hv (fun x hx hm => ?_) hown hgrow, fun k hk hm => ?_⟩
  · simp [Value.ownBlock] at hx
    have := hlg x hm
    omega
  · simp [Value.ownBlock] at hk
    have := hlf k hm
    rcases hk with hk | hk | hk
    · exact hd k hk hm
    · omega
    · rcases hat k hk with hk | hk
      · exact hd k (hW.mem k hk) hm
      · omega

/-- A Put. -/
theorem KRel.put (h : KRel B w0 hb wv rv wl used ts w) (ref i n : Int) :
    Calls Try.prog 30 #[.pointer (some ⟨hb, 0, none⟩), .int .i64 ref, .int .i64 i, .agg #[.int .i64 2, .int .i64 n]] w fun e w' => e = .returned (.bool (putB ts ref i 2 n)) ∧ KRel B w0 hb wv rv wl used (putT ts ref i 2 n) w' := by
  obtain ⟨h1, h2, fp, sv, tp, gp, hR, hW, hd⟩ := h
  refine (Put_any hR ref i 2 n).mono ?_
  rintro e w' ⟨rfl, hR', ho⟩
  exact ⟨rfl, h1.trans (ho.below (by have := h1.size; omega) hR.ge), h2, fp, sv, tp, gp, hR', hW.out ho hd, hd⟩
/-- .. and the same in the rows. -/
theorem KRel.set (h : KRel B w0 hb wv rv wl used ts w) {r : Nat} {g cap : Nat} {l : List Int} (hl : wl[r]? = some l) (hv : rv[r]? = some (.slice (some ⟨g, 0, none⟩) l.length cap)) (j : Nat) (n : Int) :
    KRel B w0 hb wv rv (wl.set r (l.set j n)) used ts (w.setCell ⟨g, j, none⟩ (.int .i64 n)) := by
  obtain ⟨h1, h2, fp, sv, tp, gp, hR, hW, hd⟩ := h
  obtain ⟨hW', hg⟩ := hW.put hl hv j n
  have ho : Out gp w (w.setCell ⟨g, j, none⟩ (.int .i64 n)) := (Out.refl gp w).setCell (.inl hg) _
  exact ⟨h1.trans (ho.below (by have := h1.size; omega) hW.ge), h2, fp, sv, tp, gp, hR.out ho (fun k hk hm => hd k hm hk), hW', hd⟩
end
end Go.Proofs.Ytdelikjodacedaa
