/- The laws' own small functions (of, bin, long, Bring) and 'works', the chapter's examples, by contract: it returns true and leaves what was there. -/
import Derived.Test.YtdelikjodacedaaSmall
import Derived.Test.YtdelikjodacedaaHeapE
namespace Go.Proofs.Ytdelikjodacedaa
open Go.RowKit

def bringF (i n : Int) : Int := if 0 < n then i % n else 0
set_option maxHeartbeats 400000 in
theorem Bring_any (i n : Int) (hn : n ≤ 9223372036854775807) (w : World) : Calls Try.prog 17 #[.int .i64 i, .int .i64 n] w fun e w' => e = .returned (.int .i64 (bringF i n)) ∧ w = w' := by
  by_cases h : 0 < n
  · have e : bringF i n = i % n := by unfold bringF; rw [if_pos h]
    have hz : ¬ n = 0 := by omega
    have hz2 : (n == 0) = false := by simpa using hz
    by_cases hs : i.tmod n < 0
    · have e2 : i.tmod n + n = i % n := by
        have h1 := Int.tmod_add_mul_tdiv i n
        have hlt : -n < i.tmod n := Int.lt_tmod_of_pos i h
        have : (i.tmod n + n) % n = i % n := by
          rw [Int.add_emod_right]
          have : i % n = (i.tmod n + n * i.tdiv n) % n := by rw [h1]
          rw [this, Int.add_mul_emod_self_left]
        rw [← this, Int.emod_eq_of_lt (by omega) (by omega)]
      rw [e, ← e2]
      have hlo : -n < i.tmod n := Int.lt_tmod_of_pos i h
      clear e e2
      go_enter Try.func17, Try.ntmps17
      go_wp2
      go_ret
      exact ⟨rfl, rfl⟩
    · have e2 : i.tmod n = i % n := by
        have h1 := Int.tmod_add_mul_tdiv i n
        have hlt : i.tmod n < n := Int.tmod_lt_of_pos i h
        have : (i.tmod n) % n = i % n := by
          have : i % n = (i.tmod n + n * i.tdiv n) % n := by rw [h1]
          rw [this, Int.add_mul_emod_self_left]
        rw [← this, Int.emod_eq_of_lt (by omega) (by omega)]
      rw [e, ← e2]
      clear e e2
      go_enter Try.func17, Try.ntmps17
      go_wp2
      go_ret
      exact ⟨rfl, rfl⟩
  · have e : bringF i n = 0 := by unfold bringF; rw [if_neg h]
    rw [e]
    clear e
    go_enter Try.func17, Try.ntmps17
    go_wp2
    go_ret
    exact ⟨rfl, rfl⟩

set_option maxHeartbeats 400000 in
theorem of_op (B : Nat) (w0 : World) (kind op a b : Int) (ha : -9223372036854775808 ≤ a ∧ a ≤ 9223372036854775807) (hb : -9223372036854775808 ≤ b ∧ b ≤ 9223372036854775807) {w : World} (hw : Below B w0 w) (hB : B ≤ w0.heap.size) :
    Calls Try.prog 16 #[.int .i64 kind, .int .i64 op, .int .i64 a, .int .i64 b] w fun e w' => e = .returned (.int .i64 (binV kind op a b)) ∧ Below B w0 w' := by
  have K := Bin_any kind op a b ha hb w
  have hs := hw.size
  have F := Lib.hid (fun w' (h : Below w.heap.size w w') => hw.trans (h.mono (by omega)))
  clear hw ha hb
  go_enter Try.func16, Try.ntmps16
  go_wp2_with (go_at_call 15; refine K.mono ?_; rintro e w' ⟨rfl, hbe⟩)
  go_ret
  exact ⟨rfl, F.out _ hbe⟩

set_option maxHeartbeats 400000 in
theorem bin_true (B : Nat) (w0 : World) (op a b want : Int) (ha : (-9223372036854775808 ≤ a ∧ a ≤ 9223372036854775807) ∧ (-9223372036854775808 ≤ b ∧ b ≤ 9223372036854775807) ∧ binB 1 op b = true ∧ binV 1 op a b = want) {w : World} (hw : Below B w0 w) (hB : B ≤ w0.heap.size) :
    Calls Try.prog 46 #[.int .i64 op, .int .i64 a, .int .i64 b, .int .i64 want] w fun e w' => e = .returned (.bool true) ∧ Below B w0 w' := by
  obtain ⟨ha, hb, h1, h2⟩ := ha
  have K := Bin_any 1 op a b ha hb w
  rw [h1, h2] at K
  have hs := hw.size
  have F := Lib.hid (fun w' (h : Below w.heap.size w w') => hw.trans (h.mono (by omega)))
  clear hw ha hb h1 h2
  go_enter Try.func46, Try.ntmps46
  go_wp2_with (go_at_call 15; refine K.mono ?_; rintro e w' ⟨rfl, hbe⟩)
  go_ret
  exact ⟨by simp, F.out _ hbe⟩
set_option maxHeartbeats 400000 in
theorem long_true (B : Nat) (w0 : World) (op a b want : Int) (ha : (-9223372036854775808 ≤ a ∧ a ≤ 9223372036854775807) ∧ (-9223372036854775808 ≤ b ∧ b ≤ 9223372036854775807) ∧ binB 2 op b = true ∧ binV 2 op a b = want) {w : World} (hw : Below B w0 w) (hB : B ≤ w0.heap.size) :
    Calls Try.prog 45 #[.int .i64 op, .int .i64 a, .int .i64 b, .int .i64 want] w fun e w' => e = .returned (.bool true) ∧ Below B w0 w' := by
  obtain ⟨ha, hb, h1, h2⟩ := ha
  have K := Bin_any 2 op a b ha hb w
  rw [h1, h2] at K
  have hs := hw.size
  have F := Lib.hid (fun w' (h : Below w.heap.size w w') => hw.trans (h.mono (by omega)))
  clear hw ha hb h1 h2
  go_enter Try.func45, Try.ntmps45
  go_wp2_with (go_at_call 15; refine K.mono ?_; rintro e w' ⟨rfl, hbe⟩)
  go_ret
  exact ⟨by simp, F.out _ hbe⟩
theorem bin_is (B : Nat) (w0 : World) (kind op a b want : Int) (t : Bool) (ha : (-9223372036854775808 ≤ a ∧ a ≤ 9223372036854775807) ∧ (-9223372036854775808 ≤ b ∧ b ≤ 9223372036854775807) ∧ binB kind op b = t ∧ binV kind op a b = want) {w : World} (hw : Below B w0 w) (hB : B ≤ w0.heap.size) :
    Calls Try.prog 15 #[.int .i64 kind, .int .i64 op, .int .i64 a, .int .i64 b] w fun e w' => e = .returned (.tuple #[.int .i64 want, .bool t]) ∧ Below B w0 w' := by
  obtain ⟨ha, hb, h1, h2⟩ := ha
  have K := Bin_any kind op a b ha hb w
  rw [h1, h2] at K
  have hs := hw.size
  exact K.mono fun e w' ⟨he, h⟩ => ⟨he, hw.trans (h.mono (by omega))⟩
theorem conv_is (how a want : Int) (h : convF how a = want) (w : World) : Calls Try.prog 18 #[.int .i64 how, .int .i64 a] w fun e w' => e = .returned (.int .i64 want) ∧ w = w' := by
  have := Conv_any how a w; rw [h] at this; exact this

/-- A new heap. -/
theorem HRep_new (w : World) (base : Nat) (m : Int) (hb : base ≤ w.heap.size) (h0 : 0 ≤ m) (hm : m ≤ 1000000) : HRep (w.alloc (.cells #[.int .i64 m, .int .i64 0, .slice none 0 0] 71)) base [w.heap.size] w.heap.size m 0 (.slice none 0 0) [] [] :=
  { ge := fun k hk => by simp at hk; omega
    lt := fun k hk => by simp at hk; simp; omega
    mem := by simp
    blk := heap_alloc_new w _
    smem := fun g hg => by simp [Value.ownBlock] at hg
    row := World.ownsRow_nil _ _ _ _
    len := rfl
    things := fun i p t hp => by simp at hp
    injB := fun i j p q hp => by simp at hp
    injL := fun i j p q g hp => by simp at hp
    used0 := Int.le_refl _
    usedM := h0
    most0 := hm
    count := by simp }

theorem owns_ints (w : World) (xs : List Int) (base : Nat) (hb : base ≤ w.heap.size) (hl : xs.length ≤ maxLen) : (w.alloc (.cells (xs.map (Value.int .i64)).toArray 3)).ownsRow base 3 1 (.slice (some ⟨w.heap.size, 0, none⟩) xs.length xs.length) xs.length (xs.map (Value.int .i64)) :=
  ⟨by simp, .inr ⟨w.heap.size, xs.length, _, rfl, hb, heap_alloc_new w _, Nat.le_refl _, hl, by simp, by simp [List.take_of_length_le]⟩⟩

/-- A heap in a world that was begun by another one: of what was there below B nothing has turned. -/
def HIn (B : Nat) (w0 : World) (hb : Nat) (most used : Int) (ts : List Thg) (w : World) : Prop := Below B w0 w ∧ B ≤ w0.heap.size ∧ ∃ fp sv tp, HRep w B fp hb most used sv tp ts
theorem HIn.made {B : Nat} {w0 : World} {hb : Nat} {most used used' : Int} {ts ts' : List Thg} {w w' : World} {fp : List Nat} {sv : Value} {tp : List (Nat × Value)} (hw : Below B w0 w) (hB : B ≤ w0.heap.size) (h : HRep w B fp hb most used sv tp ts) (hm : Made w B fp hb most used' ts' w') : HIn B w0 hb most used' ts' w' := by
  obtain ⟨fp', sv', tp', hR, hn, ho⟩ := hm
  exact ⟨hw.trans (ho.below (by have := hw.size; omega) h.ge), hB, fp', sv', tp', hR⟩
theorem HIn.out {B : Nat} {w0 : World} {hb : Nat} {most used : Int} {ts : List Thg} {w w' : World} (h : HIn B w0 hb most used ts w) (ho : Out [] w w') : HIn B w0 hb most used ts w' := by
  obtain ⟨h1, h2, fp, sv, tp, hR⟩ := h
  exact ⟨h1.trans (ho.below (by have := h1.size; omega) (by simp)), h2, fp, sv, tp, hR.out ho (by simp)⟩
theorem HIn.a {B : Nat} {w0 : World} {hb : Nat} {most used : Int} {ts : List Thg} {w : World} (h : HIn B w0 hb most used ts w) : AHeap w (.pointer (some ⟨hb, 0, none⟩)) ts := by
  obtain ⟨_, _, fp, sv, tp, hR⟩ := h
  exact hR.a

theorem New_in (B : Nat) (w0 : World) (m : Int) (m' : Int) (hm : max m 0 = m') (hm2 : m' ≤ 1000000) {w : World} (hw : Below B w0 w) (hB : B ≤ w0.heap.size) :
    Calls Try.prog 28 #[.int .i64 m] w fun e w' => ∃ hb, e = .returned (.pointer (some ⟨hb, 0, none⟩)) ∧ HIn B w0 hb m' 0 [] w' := by
  refine (New_any m w).mono ?_
  rintro e w' ⟨rfl, rfl⟩
  rw [hm]
  have hs := hw.size
  exact ⟨_, rfl, hw.alloc (by omega) _, hB, _, _, _, HRep_new w B m' (by omega) (by omega) hm2⟩
theorem Object_in {B : Nat} {w0 : World} {hb : Nat} {most used : Int} {ts : List Thg} {w : World} (h : HIn B w0 hb most used ts w) (cls : Int) (ks : List Int) (hl : ks.length ≤ 1000000) (n : Nat) (hn : ks.length = n) (t : Bool) (ht : objB most used ks = t) :
    Calls Try.prog 38 #[.pointer (some ⟨hb, 0, none⟩), .int .i64 cls, .slice (some ⟨w.heap.size, 0, none⟩) n n] (w.alloc (.cells (ks.map (Value.int .i64)).toArray 3)) fun e w' =>
      e = .returned (.tuple #[.int .i64 (if t = true then (ts.length : Int) + 1 else 0), .bool t]) ∧ HIn B w0 hb most (if t = true then used + ks.length + 1 else used) (if t = true then ts ++ [objT cls ks] else ts) w' := by
  subst hn ht
  have h' := h.out ((Out.refl [] w).alloc (.cells (ks.map (Value.int .i64)).toArray 3))
  obtain ⟨h1, h2, fp, sv, tp, hR⟩ := h'
  refine (Object_any hR cls ks _ 0 (owns_ints w ks 0 (Nat.zero_le _) (by unfold maxLen; omega)) hl).mono ?_
  rintro e w' ⟨rfl, hm⟩
  exact ⟨rfl, HIn.made h1 h2 hR hm⟩
theorem Array_in {B : Nat} {w0 : World} {hb : Nat} {most used : Int} {ts : List Thg} {w : World} (h : HIn B w0 hb most used ts w) (kind cls n : Int) (t : Bool) (ht : arrB most used kind n = t) :
    Calls Try.prog 29 #[.pointer (some ⟨hb, 0, none⟩), .int .i64 kind, .int .i64 cls, .int .i64 n] w fun e w' =>
      e = .returned (.tuple #[.int .i64 (if t = true then (ts.length : Int) + 1 else 0), .bool t]) ∧ HIn B w0 hb most (if t = true then used + n + 1 else used) (if t = true then ts ++ [arrT kind cls n] else ts) w' := by
  subst ht
  obtain ⟨h1, h2, fp, sv, tp, hR⟩ := h
  refine (Array_any hR kind cls n).mono ?_
  rintro e w' ⟨rfl, hm⟩
  exact ⟨rfl, HIn.made h1 h2 hR hm⟩
theorem Cells_in {B : Nat} {w0 : World} {hb : Nat} {most used : Int} {ts : List Thg} {w : World} (h : HIn B w0 hb most used ts w) :
    Calls Try.prog 35 #[.pointer (some ⟨hb, 0, none⟩)] w fun e w' => e = .returned (.int .i64 used) ∧ w = w' := by
  obtain ⟨h1, h2, fp, sv, tp, hR⟩ := h
  exact Cells_any hR

set_option maxHeartbeats 1000000 in
theorem works_any (w : World) : Calls Try.prog 13 #[] w fun e w' => e = .returned (.bool true) ∧ Below w.heap.size w w' := by
  have h0 := Below.refl w.heap.size w
  have hB : w.heap.size ≤ w.heap.size := Nat.le_refl _
  go_enter Try.func13, Try.ntmps13
  go_wp2_with (first
    | (go_at_call 15; refine (bin_is w.heap.size w _ _ _ _ 0 false (by decide +kernel) (by assumption) hB).mono ?_; rintro e w' ⟨rfl, hw'⟩)
    | (go_at_call 46; refine (bin_true w.heap.size w _ _ _ _ (by decide +kernel) (by assumption) hB).mono ?_; rintro e w' ⟨rfl, hw'⟩)
    | (go_at_call 45; refine (long_true w.heap.size w _ _ _ _ (by decide +kernel) (by assumption) hB).mono ?_; rintro e w' ⟨rfl, hw'⟩)
    | (go_at_call 28; refine (New_in w.heap.size w 5 5 (by decide) (by decide) (by assumption) hB).mono ?_; rintro e w' ⟨hb, rfl, hIn⟩)
    | (go_at_call 18; (with_reducible refine (conv_is 2 200 (-56) (by decide +kernel) _).mono ?_); rintro e w' ⟨rfl, rfl⟩)
    | (go_at_call 18; (with_reducible refine (conv_is 3 (-1) 65535 (by decide +kernel) _).mono ?_); rintro e w' ⟨rfl, rfl⟩)
    | (go_at_call 18; (with_reducible refine (conv_is 1 4294967301 5 (by decide +kernel) _).mono ?_); rintro e w' ⟨rfl, rfl⟩)
    | (go_at_call 38; refine (Object_in (by assumption) 9 [1, 3] (by decide) 2 rfl true (by decide +kernel)).mono ?_; rintro e w' ⟨rfl, hIn1⟩; simp only [if_true, List.length_nil, List.length_cons] at hIn1)
    | (go_at_call 29; refine (Array_in (by assumption) 2 0 2 false (by decide +kernel)).mono ?_; rintro e w' ⟨rfl, hIn2⟩; simp only [if_false, Bool.false_eq_true] at hIn2)
    | (go_at_call 35; refine (Cells_in (by assumption)).mono ?_; rintro e w' ⟨rfl, rfl⟩))
  go_ret
  exact ⟨rfl, hIn2.1⟩
end Go.Proofs.Ytdelikjodacedaa
