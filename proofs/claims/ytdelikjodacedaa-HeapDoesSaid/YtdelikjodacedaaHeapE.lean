/- Package heap's Array, by contract; and Object, Array of a heap that is none. -/
import Derived.Test.YtdelikjodacedaaHeapD
namespace Go.Proofs.Ytdelikjodacedaa
open Go.RowKit

def arrB (most used : Int) (kind n : Int) : Bool := isK kind && decide (0 ≤ n ∧ n < most - used)
def arrT (kind cls n : Int) : Thg := ⟨true, kind, cls, List.replicate n.toNat (kind, 0)⟩
def ArrPost (w : World) (base : Nat) (fp : List Nat) (hb : Nat) (most used : Int) (ts : List Thg) (kind cls n : Int) (e : Ending) (w' : World) : Prop :=
  e = .returned (.tuple #[.int .i64 (if arrB most used kind n = true then (ts.length : Int) + 1 else 0), .bool (arrB most used kind n)]) ∧
    Made w base fp hb most (if arrB most used kind n = true then used + n + 1 else used) (if arrB most used kind n = true then ts ++ [arrT kind cls n] else ts) w'

theorem flatV_cons (p : Int × Int) (l : List (Int × Int)) : flatV (p :: l) = .int .i64 p.1 :: .int .i64 p.2 :: flatV l := rfl
theorem flatV_zero (n : Nat) : flatV (List.replicate n (0, 0)) = List.replicate (n * 2) (.int .i64 0) := by
  induction n with
  | zero => rfl
  | succ n ih => rw [List.replicate_succ, flatV_cons, ih, show (n + 1) * 2 = n * 2 + 1 + 1 by omega]; rfl
theorem made_zero (n : Nat) : (madeCells #[.int .i64 0, .int .i64 0] (n * 2)).toList = flatV (List.replicate n (0, 0)) := by
  rw [flatV_zero]
  apply List.ext_getElem?
  intro j
  simp only [madeCells, Array.toList_map, Array.toList_range, List.getElem?_map, List.getElem?_replicate]
  by_cases hj : j < n * 2
  · rw [List.getElem?_range hj, if_pos hj]
    have : j % 2 = 0 ∨ j % 2 = 1 := by omega
    simp only [Option.map_some]
    rcases this with h | h
    · show some ((#[Value.int .i64 0, Value.int .i64 0])[j % 2]!) = _
      rw [h]; rfl
    · show some ((#[Value.int .i64 0, Value.int .i64 0])[j % 2]!) = _
      rw [h]; rfl
  · rw [if_neg hj, List.getElem?_eq_none (by simp; omega)]; rfl

/-- A row of n values of a kind, of which the first k have it. -/
def arrRow (kind : Int) (n k : Nat) : List (Int × Int) := List.replicate k (kind, 0) ++ List.replicate (n - k) (0, 0)
theorem arrRow_set (kind : Int) (n k : Nat) (hk : k < n) : (flatV (arrRow kind n k)).set (k * 2) (.int .i64 kind) = flatV (arrRow kind n (k + 1)) := by
  unfold arrRow
  obtain ⟨m, hm⟩ : ∃ m, n - k = m + 1 := ⟨n - k - 1, by omega⟩
  have e1 : flatV (List.replicate (m + 1) (0, 0)) = .int .i64 0 :: .int .i64 0 :: flatV (List.replicate m (0, 0)) := by rw [List.replicate_succ, flatV_cons]
  have e2 : flatV (List.replicate (k + 1) (kind, 0)) = flatV (List.replicate k (kind, 0)) ++ [.int .i64 kind, .int .i64 0] := by rw [List.replicate_succ', flatV_append, flatV_one]
  rw [hm, show n - (k + 1) = m by omega, flatV_append, flatV_append, List.set_append_right _ _ (by rw [flatV_length]; simp), flatV_length, List.length_replicate, Nat.sub_self, e1, e2]
  simp
theorem arrRow_zero (kind : Int) (n : Nat) : arrRow kind n 0 = List.replicate n (0, 0) := by simp [arrRow]
theorem arrRow_all (kind : Int) (n : Nat) : arrRow kind n n = List.replicate n (kind, 0) := by simp [arrRow]
theorem arrRow_length (kind : Int) (n k : Nat) (hk : k ≤ n) : (arrRow kind n k).length = n := by simp [arrRow]; omega

/-- What the loop over the places has made so far, of the first k: the thing's block b, the row's block g. -/
def ArrRel (w2 : World) (B b g : Nat) (kind cls : Int) (n k : Nat) (wr : World) : Prop :=
  wr.heap[b]? = some (.cells #[.bool true, .int .i64 kind, .int .i64 cls, .slice (some ⟨g, 0, none⟩) n n] 86 (0, 0)) ∧ wr.ownsRow B 45 2 (.slice (some ⟨g, 0, none⟩) n n) n (flatV (arrRow kind n k)) ∧ Out [] w2 wr

theorem arr_next {w2 : World} {B b g : Nat} {kind cls : Int} {n k : Nat} {wr : World} (h : ArrRel w2 B b g kind cls n k wr) (hk : k < n) (hB : w2.heap.size ≤ B) : ArrRel w2 B b g kind cls n (k + 1) (wr.setCell ⟨g, k * 2, none⟩ (.int .i64 kind)) := by
  obtain ⟨hblk, hrow, ho⟩ := h
  have hs := hrow.stored (k * 2) (.int .i64 kind)
  refine ⟨?_, ?_, ?_⟩
  · rw [Below.heap_setCell _ _ _ _ (fun e => owns_ne hrow (g := g) rfl hblk (by decide) e.symm)]; exact hblk
  · rw [← arrRow_set kind n k hk]; exact hs.1
  · exact ho.setCell (.inr (by have := (hrow.lt g rfl).1; exact Nat.le_trans hB this)) _

section
variable {w : World} {base : Nat} {fp : List Nat} {hb : Nat} {most used : Int} {sv : Value} {tp : List (Nat × Value)} {ts : List Thg}
theorem arr_not (h : HRep w base fp hb most used sv tp ts) {kind cls n : Int} {w' : World} (ho : Out [] w w') (hB : arrB most used kind n = false) :
    ArrPost w base fp hb most used ts kind cls n (.returned (.tuple #[.int .i64 0, .bool false])) w' := by
  unfold ArrPost; rw [hB]; exact ⟨rfl, Made.same h ho⟩

theorem arr_put (h : HRep w base fp hb most used sv tp ts) {kind cls : Int} {n : Nat} (hk : isK kind = true) (hr : (n : Int) < most - used) (w2 : World) (h2 : HRep w2 base fp hb most (used + n + 1) sv tp ts) (ho2 : Out [hb] w w2)
    {b g : Nat} (hb2 : w2.heap.size ≤ b) {wr : World} (hrel : ArrRel w2 w2.heap.size b g kind cls n n wr) :
    Calls Try.prog 58 #[.pointer (some ⟨hb, 0, none⟩), .pointer (some ⟨b, 0, none⟩)] wr fun e w' =>
      e = .returned (.int .i64 ((ts.length : Int) + 1)) ∧ ArrPost w base fp hb most used ts kind cls n (.returned (.tuple #[.int .i64 ((ts.length : Int) + 1), .bool true])) w' := by
  obtain ⟨hblk, hrow, ho⟩ := hrel
  have h3 := h2.out ho (fun _ _ => by simp)
  have hge := h.ge _ h.mem
  have hbl := h.hbLt
  have hsz := ho2.size
  have hg := hrow.lt g rfl
  have hB : arrB most used kind n = true := by unfold arrB; rw [hk]; simpa using hr
  rw [arrRow_all] at hrow
  refine (put_any h3 b _ (arrT kind cls n) (by omega) (fun hm => by have := h.lt _ hm; omega) hblk (ownsRow_base (by simpa [arrT] using hrow) (by omega)) (fun g' hg' hm => by
    have := h.lt _ hm
    simp [Value.ownBlock] at hg'
    omega) (by have := h.count; omega)).mono ?_
  rintro e w' ⟨rfl, sv', hR, hn, hout⟩
  refine ⟨rfl, ?_⟩
  unfold ArrPost
  rw [hB]
  refine ⟨rfl, _, _, _, hR, fun k hk => ?_, ?_⟩
  · rcases mem_fpPut.1 hk with hk | rfl | hk | hk
    · exact .inl hk
    · exact .inr (by omega)
    · simp [Value.ownBlock] at hk; exact .inr (by omega)
    · rcases hn k hk with hk | hk
      · exact .inl hk
      · have := ho.size; exact .inr (by omega)
  · exact ((ho2.mono (fun k hk => by simp at hk; subst hk; exact h.mem)).trans ho (by simp)).trans hout (fun k hk => .inl hk)

set_option maxHeartbeats 1000000 in
theorem Array_any (h : HRep w base fp hb most used sv tp ts) (kind cls n : Int) :
    Calls Try.prog 29 #[.pointer (some ⟨hb, 0, none⟩), .int .i64 kind, .int .i64 cls, .int .i64 n] w (ArrPost w base fp hb most used ts kind cls n) := by
  have K0 := isKind_any kind
  by_cases hk : isK kind = true
  · rw [hk] at K0
    have hm := h.most0
    have h0 := h.used0
    by_cases hr : 0 ≤ n ∧ n < most - used
    · obtain ⟨N, rfl⟩ : ∃ N : Nat, n = N := ⟨n.toNat, by omega⟩
      obtain ⟨i0, hi, hz0, hz1, hz2⟩ := info_parts Try.info45
      have R := room_yes h N hr.1 hr.2
      have PUT := Lib.hid (fun w2 h2 ho2 b g hb2 wr hrel => arr_put h (cls := cls) hk hr.2 w2 h2 ho2 (b := b) (g := g) hb2 (wr := wr) hrel)
      have hN : N ≤ 1000000 := by omega
      clear h hr hm h0
      go_enter Try.func29, Try.ntmps29
      go_wp2_with (first
        | (go_at_call 56; refine (K0 _).mono ?_; rintro e w' ⟨rfl, rfl⟩)
        | (go_at_call 57; refine R.mono ?_; rintro e w2 ⟨rfl, hR, ho2⟩)
        | (at_make; refine wpList_make_full _ rfl _ _ 63 rfl w2.heap.size 45 i0 (.agg #[.int .i64 0, .int .i64 0]) 2 Try.underlying63 hi hz0 hz1 .i64 .i64 N N N rfl rfl rfl rfl ?c1 ?c2 ?c3 ?_))
      case c1 => rw [hz2]; omega
      case c2 => unfold maxLen; omega
      case c3 => exact Nat.le_refl _
      intro w3 hrow3 hgrow3
      have hrow3' : w3.ownsRow w2.heap.size 45 2 (.slice (some ⟨w2.heap.size, 0, none⟩) N N) N (flatV (arrRow kind N 0)) := by rw [arrRow_zero, ← made_zero]; exact hrow3
      have ho3 : Out [] w2 w3 := (Out.refl _ _).grown hgrow3 (by simp)
      have hsz := ho3.size
      have start : ArrRel w2 w2.heap.size w3.heap.size w2.heap.size kind cls N 0 (w3.alloc (.cells #[.bool true, .int .i64 kind, .int .i64 cls, .slice (some ⟨w2.heap.size, 0, none⟩) N N] 86)) :=
        ⟨heap_alloc_new w3 _, hrow3'.alloc _, ho3.alloc _⟩
      have hge : w2.heap.size ≤ w2.heap.size := Nat.le_refl _
      have PUT2 := Lib.hid (PUT.out w2 hR ho2 w3.heap.size w2.heap.size hsz)
      clear PUT hrow3 hgrow3 hrow3' ho3 hR ho2 R
      go_wp2
      go_loopw [32] (fun i wr => ∃ k : Nat, k ≤ N ∧ i = .int .i64 k ∧ ArrRel w2 w2.heap.size w3.heap.size w2.heap.size kind cls N k wr) (fun i _ => N - (intOf i).toNat)
      case atStart => exact ⟨0, Nat.zero_le _, rfl, start⟩
      case round =>
        obtain ⟨k, hkN, rfl, hrel⟩ := hrel
        clear start
        by_cases hlt : k < N
        · have hc3 := cell_in hrel.1 3 rfl
          obtain ⟨v, hv⟩ : ∃ v, wr.cell? ⟨w2.heap.size, k * 2, none⟩ = some v := by
            rw [hrel.2.1.cellAt (k * 2) (by omega), flatV_even]
            exact ⟨_, by rw [List.getElem?_eq_getElem (by rw [arrRow_length kind N k (by omega)]; omega)]; rfl⟩
          have hf := hrel.2.1.frozenAt (k * 2)
          have NEXT := Lib.hid (arr_next hrel hlt hge)
          clear hrel PUT2
          go_wp2
          go_roundw
          case rel => exact ⟨k + 1, by omega, by go_num, NEXT.out⟩
          case measure => simp [intOf]; omega
        · obtain rfl : k = N := by omega
          have P := PUT2.out _ hrel
          clear hrel PUT2
          go_wp2_with (go_at_call 58; refine P.mono ?_; rintro e w' ⟨rfl, hfin⟩)
          go_ret2
          assumption
    · have R := room_no h n (by omega)
      have hB : arrB most used kind n = false := by
        unfold arrB
        rw [Bool.and_eq_false_iff]
        exact .inr (decide_eq_false (by omega))
      have FIN := Lib.hid (fun w' (ho : Out [] w w') => arr_not (cls := cls) h ho hB)
      clear h hr hm h0 hB hk
      go_enter Try.func29, Try.ntmps29
      go_wp2_with (first
        | (go_at_call 56; refine (K0 _).mono ?_; rintro e w' ⟨rfl, rfl⟩)
        | (go_at_call 57; refine R.mono ?_; rintro e w2 ⟨rfl, ho2⟩))
      go_ret2
      exact FIN.out _ ho2
  · have hkf : isK kind = false := by simpa using hk
    rw [hkf] at K0
    have FIN := Lib.hid (arr_not (kind := kind) (cls := cls) (n := n) h (Out.refl [] w) (by unfold arrB; rw [hkf]; rfl))
    clear h hk hkf
    go_enter Try.func29, Try.ntmps29
    go_wp2_with (go_at_call 56; refine (K0 _).mono ?_; rintro e w' ⟨rfl, rfl⟩)
    go_ret2
    exact FIN.out
end
end Go.Proofs.Ytdelikjodacedaa
