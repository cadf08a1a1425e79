/- Package heap's readers, by contract: isKind, New, Known, of, IsArray, Kind, Class, Len, Cells. -/
import Derived.Test.YtdelikjodacedaaRep
import Derived.BigQuiet
import Derived.Lib.Hide
namespace Go.Proofs.Ytdelikjodacedaa
open Go.RowKit

def isK (k : Int) : Bool := decide (k = 1 ∨ k = 2 ∨ k = 3)
set_option maxHeartbeats 400000 in
theorem isKind_any (k : Int) (w : World) : Calls Try.prog 56 #[.int .i64 k] w fun e w' => e = .returned (.bool (isK k)) ∧ w = w' := by
  by_cases h1 : k = 1
  · subst h1
    go_enter Try.func56, Try.ntmps56
    go_wp2
    go_ret
    exact ⟨rfl, rfl⟩
  by_cases h2 : k = 2
  · subst h2
    go_enter Try.func56, Try.ntmps56
    go_wp2
    go_ret
    exact ⟨rfl, rfl⟩
  by_cases h3 : k = 3
  · subst h3
    go_enter Try.func56, Try.ntmps56
    go_wp2
    go_ret
    exact ⟨rfl, rfl⟩
  have hk : isK k = false := by unfold isK; exact decide_eq_false (by omega)
  have g1 : (k == 1) = false := by simpa using h1
  have g2 : (k == 2) = false := by simpa using h2
  have g3 : (k == 3) = false := by simpa using h3
  rw [hk]
  go_enter Try.func56, Try.ntmps56
  go_wp2
  go_ret
  exact ⟨rfl, rfl⟩

set_option maxHeartbeats 400000 in
theorem New_any (m : Int) (w : World) : Calls Try.prog 28 #[.int .i64 m] w fun e w' => e = .returned (.pointer (some ⟨w.heap.size, 0, none⟩)) ∧ w.alloc (.cells #[.int .i64 (max m 0), .int .i64 0, .slice none 0 0] 71) = w' := by
  go_enter Try.func28, Try.ntmps28
  go_wp2
  · go_ret
    exact ⟨rfl, by rw [Int.max_eq_right (by omega)]⟩
  · go_ret
    exact ⟨rfl, by rw [Int.max_eq_left (by omega)]⟩

def knows (n : Nat) (ref : Int) : Bool := decide (1 ≤ ref ∧ ref ≤ n)
section
variable {w : World} {base : Nat} {fp : List Nat} {hb : Nat} {most used : Int} {sv : Value} {tp : List (Nat × Value)} {ts : List Thg}
set_option maxHeartbeats 400000 in
theorem Known_any (h : HRep w base fp hb most used sv tp ts) (ref : Int) : Calls Try.prog 48 #[.pointer (some ⟨hb, 0, none⟩), .int .i64 ref] w fun e w' => e = .returned (.bool (knows ts.length ref)) ∧ w = w' := by
  have h2 := h.c2
  obtain ⟨a, cap, rfl, _, _, _⟩ := owns_shape h.row
  clear h
  by_cases k1 : 1 ≤ ref
  · by_cases k2 : ref ≤ ts.length
    · have e : knows ts.length ref = true := decide_eq_true ⟨k1, k2⟩
      rw [e]; clear e
      generalize ts.length = n at *
      go_enter Try.func48, Try.ntmps48
      go_wp2
      go_ret
      exact ⟨rfl, rfl⟩
    · have e : knows ts.length ref = false := decide_eq_false (by omega)
      rw [e]; clear e
      generalize ts.length = n at *
      go_enter Try.func48, Try.ntmps48
      go_wp2
      go_ret
      exact ⟨rfl, rfl⟩
  · have e : knows ts.length ref = false := decide_eq_false (by omega)
    rw [e]; clear e
    generalize ts.length = n at *
    go_enter Try.func48, Try.ntmps48
    go_wp2
    go_ret
    exact ⟨rfl, rfl⟩
end
set_option maxHeartbeats 400000 in
theorem Known_nil (ref : Int) (w : World) : Calls Try.prog 48 #[.pointer none, .int .i64 ref] w fun e w' => e = .returned (.bool false) ∧ w = w' := by
  go_enter Try.func48, Try.ntmps48
  go_wp2
  go_ret
  exact ⟨rfl, rfl⟩

section
variable {w : World} {base : Nat} {fp : List Nat} {hb : Nat} {most used : Int} {sv : Value} {tp : List (Nat × Value)} {ts : List Thg}
theorem Known_yes (h : HRep w base fp hb most used sv tp ts) (ref : Int) (h1 : 1 ≤ ref) (h2 : ref ≤ ts.length) : Calls Try.prog 48 #[.pointer (some ⟨hb, 0, none⟩), .int .i64 ref] w fun e w' => e = .returned (.bool true) ∧ w = w' := by
  have e : knows ts.length ref = true := decide_eq_true ⟨h1, h2⟩
  have := Known_any h ref; rw [e] at this; exact this
theorem Known_no (h : HRep w base fp hb most used sv tp ts) (ref : Int) (h1 : ref < 1 ∨ ts.length < ref) : Calls Try.prog 48 #[.pointer (some ⟨hb, 0, none⟩), .int .i64 ref] w fun e w' => e = .returned (.bool false) ∧ w = w' := by
  have e : knows ts.length ref = false := decide_eq_false (by omega)
  have := Known_any h ref; rw [e] at this; exact this

/-- What 'of' makes where there is nothing: a thing without anything, in a new block. -/
abbrev noBlk : Obj := .cells #[.bool false, .int .i64 0, .int .i64 0, .slice none 0 0] 86
set_option maxHeartbeats 400000 in
theorem of_none (h : HRep w base fp hb most used sv tp ts) (ref : Int) (h1 : ref < 1 ∨ ts.length < ref) : Calls Try.prog 59 #[.pointer (some ⟨hb, 0, none⟩), .int .i64 ref] w fun e w' => e = .returned (.pointer (some ⟨w.heap.size, 0, none⟩)) ∧ w.alloc noBlk = w' := by
  have K := Known_no h ref h1
  clear h h1
  go_enter Try.func59, Try.ntmps59
  go_wp2_with (go_at_call 48; refine K.mono ?_; rintro e w' ⟨rfl, rfl⟩)
  go_ret
  exact ⟨rfl, rfl⟩
set_option maxHeartbeats 400000 in
theorem of_nil (ref : Int) (w : World) : Calls Try.prog 59 #[.pointer none, .int .i64 ref] w fun e w' => e = .returned (.pointer (some ⟨w.heap.size, 0, none⟩)) ∧ w.alloc noBlk = w' := by
  have K := Known_nil ref w
  go_enter Try.func59, Try.ntmps59
  go_wp2_with (go_at_call 48; refine K.mono ?_; rintro e w' ⟨rfl, rfl⟩)
  go_ret
  exact ⟨rfl, rfl⟩
set_option maxHeartbeats 400000 in
theorem of_known (h : HRep w base fp hb most used sv tp ts) (i : Nat) (p : Nat × Value) (hp : tp[i]? = some p) (ref : Int) (hr : ref = i + 1) : Calls Try.prog 59 #[.pointer (some ⟨hb, 0, none⟩), .int .i64 ref] w fun e w' => e = .returned (.pointer (some ⟨p.1, 0, none⟩)) ∧ w = w' := by
  have hi : i < ts.length := by
    obtain ⟨t, ht⟩ := h.tsAt hp
    rcases Nat.lt_or_ge i ts.length with hi | hi
    · exact hi
    · rw [List.getElem?_eq_none hi] at ht; cases ht
  have K := Known_yes h ref (by omega) (by omega)
  have h2 := h.c2
  obtain ⟨a, cap, rfl, hc1, hc2, hat⟩ := owns_shape h.row
  obtain ⟨g, rfl, _, _, hcell, _⟩ := hat (by omega)
  have hc := hcell i (.pointer (some ⟨p.1, 0, none⟩)) (by rw [List.getElem?_map, hp]; rfl)
  clear hcell hp h
  subst hr
  generalize ts.length = n at *
  generalize p.1 = b at *
  unfold maxLen at hc2
  go_enter Try.func59, Try.ntmps59
  go_wp2_with (go_at_call 48; refine K.mono ?_; rintro e w' ⟨rfl, rfl⟩)
  go_ret
  exact ⟨rfl, rfl⟩
end

/-- The thing of a reference; the one without anything, if there is none. -/
def look (ts : List Thg) (ref : Int) : Thg := if 1 ≤ ref then ts.getD (ref - 1).toNat noThg else noThg
theorem look_none {ts : List Thg} {ref : Int} (h : ref < 1 ∨ ts.length < ref) : look ts ref = noThg := by
  unfold look
  split
  · rw [List.getD, List.getElem?_eq_none (by omega)]; rfl
  · rfl
theorem look_some {ts : List Thg} {i : Nat} {t : Thg} (h : ts[i]? = some t) : look ts (i + 1) = t := by
  unfold look
  rw [if_pos (by omega), show ((i : Int) + 1 - 1).toNat = i by omega]
  simp [List.getD, h]

/-- A heap that may be none. -/
def AHeap (w : World) (hv : Value) (ts : List Thg) : Prop :=
  (hv = .pointer none ∧ ts = []) ∨ ∃ base fp hb most used sv tp, hv = .pointer (some ⟨hb, 0, none⟩) ∧ HRep w base fp hb most used sv tp ts
theorem HRep.a {w : World} {base : Nat} {fp : List Nat} {hb : Nat} {most used : Int} {sv : Value} {tp : List (Nat × Value)} {ts : List Thg} (h : HRep w base fp hb most used sv tp ts) : AHeap w (.pointer (some ⟨hb, 0, none⟩)) ts :=
  .inr ⟨base, fp, hb, most, used, sv, tp, rfl, h⟩
theorem AHeap.out {w w' : World} {hv : Value} {ts : List Thg} (h : AHeap w hv ts) (ho : Out [] w w') : AHeap w' hv ts := by
  rcases h with h | ⟨base, fp, hb, most, used, sv, tp, rfl, h⟩
  · exact .inl h
  · exact (h.out ho fun _ _ => by simp).a

theorem ownsRow_base {w : World} {base base' : Nat} {e : TypeId} {size : Nat} {v : Value} {n : Nat} {xs : List Value} (h : w.ownsRow base e size v n xs) (hb : base' ≤ base) : w.ownsRow base' e size v n xs := by
  refine ⟨h.1, ?_⟩
  rcases h.2 with h2 | ⟨g, cap, cur, hv, hg, r⟩
  · exact .inl h2
  · exact .inr ⟨g, cap, cur, hv, Nat.le_trans hb hg, r⟩

/-- What 'of' hands back: where the thing lies. -/
def OfPost (t : Thg) (w : World) (e : Ending) (w' : World) : Prop :=
  ∃ b lv, e = .returned (.pointer (some ⟨b, 0, none⟩)) ∧ w'.heap[b]? = some (.cells #[.bool t.arr, .int .i64 t.kind, .int .i64 t.cls, lv] 86 (0, 0)) ∧ w'.ownsRow 0 45 2 lv t.l.length (flatV t.l) ∧ Out [] w w'
theorem of_any {w : World} {hv : Value} {ts : List Thg} (h : AHeap w hv ts) (ref : Int) : Calls Try.prog 59 #[hv, .int .i64 ref] w (OfPost (look ts ref) w) := by
  have none : ∀ {e : Ending} {w' : World}, (e = .returned (.pointer (some ⟨w.heap.size, 0, none⟩)) ∧ w.alloc noBlk = w') → OfPost noThg w e w' := by
    rintro e w' ⟨rfl, rfl⟩
    exact ⟨_, _, rfl, heap_alloc_new w _, World.ownsRow_nil _ _ _ _, (Out.refl _ _).alloc _⟩
  rcases h with ⟨rfl, rfl⟩ | ⟨base, fp, hb, most, used, sv, tp, rfl, h⟩
  · rw [look_none (by simp; omega)]
    exact (of_nil ref w).mono fun _ _ h => none h
  · by_cases hr : ref < 1 ∨ ts.length < ref
    · rw [look_none hr]
      exact (of_none h ref hr).mono fun _ _ h => none h
    · obtain ⟨i, rfl⟩ : ∃ i : Nat, ref = i + 1 := ⟨(ref - 1).toNat, by omega⟩
      obtain ⟨p, hp⟩ := h.tpAt (i := i) (by omega)
      obtain ⟨t, ht⟩ := h.tsAt hp
      rw [look_some ht]
      refine (of_known h i p hp _ rfl).mono ?_
      rintro e w' ⟨rfl, rfl⟩
      exact ⟨_, _, rfl, (h.things i p t hp ht).blk, ownsRow_base (h.things i p t hp ht).row (Nat.zero_le _), Out.refl _ _⟩

set_option maxHeartbeats 400000 in
theorem IsArray_any {w : World} {hv : Value} {ts : List Thg} (h : AHeap w hv ts) (ref : Int) : Calls Try.prog 33 #[hv, .int .i64 ref] w fun e w' => e = .returned (.bool (look ts ref).arr) ∧ Out [] w w' := by
  have K := of_any h ref
  clear h
  generalize look ts ref = t at *
  go_enter Try.func33, Try.ntmps33
  go_wp2_with (go_at_call 59; refine K.mono ?_; rintro e w' ⟨b, lv, rfl, hblk, hrow, hout⟩; have hc := cell_in hblk 0 rfl)
  go_ret
  exact ⟨rfl, by assumption⟩
set_option maxHeartbeats 400000 in
theorem Kind_any {w : World} {hv : Value} {ts : List Thg} (h : AHeap w hv ts) (ref : Int) : Calls Try.prog 47 #[hv, .int .i64 ref] w fun e w' => e = .returned (.int .i64 (look ts ref).kind) ∧ Out [] w w' := by
  have K := of_any h ref
  clear h
  generalize look ts ref = t at *
  go_enter Try.func47, Try.ntmps47
  go_wp2_with (go_at_call 59; refine K.mono ?_; rintro e w' ⟨b, lv, rfl, hblk, hrow, hout⟩; have hc := cell_in hblk 1 rfl)
  go_ret
  exact ⟨rfl, by assumption⟩
set_option maxHeartbeats 400000 in
theorem Class_any {w : World} {hv : Value} {ts : List Thg} (h : AHeap w hv ts) (ref : Int) : Calls Try.prog 32 #[hv, .int .i64 ref] w fun e w' => e = .returned (.int .i64 (look ts ref).cls) ∧ Out [] w w' := by
  have K := of_any h ref
  clear h
  generalize look ts ref = t at *
  go_enter Try.func32, Try.ntmps32
  go_wp2_with (go_at_call 59; refine K.mono ?_; rintro e w' ⟨b, lv, rfl, hblk, hrow, hout⟩; have hc := cell_in hblk 2 rfl)
  go_ret
  exact ⟨rfl, by assumption⟩
set_option maxHeartbeats 400000 in
theorem Len_any {w : World} {hv : Value} {ts : List Thg} (h : AHeap w hv ts) (ref : Int) : Calls Try.prog 31 #[hv, .int .i64 ref] w fun e w' => e = .returned (.int .i64 (look ts ref).l.length) ∧ Out [] w w' := by
  have K := of_any h ref
  clear h
  generalize look ts ref = t at *
  go_enter Try.func31, Try.ntmps31
  go_wp2_with (go_at_call 59; refine K.mono ?_; rintro e w' ⟨b, lv, rfl, hblk, hrow, hout⟩; have hc := cell_in hblk 3 rfl; obtain ⟨a, cap, rfl, _, _, _⟩ := owns_shape hrow)
  go_ret
  exact ⟨rfl, by assumption⟩
set_option maxHeartbeats 400000 in
theorem Cells_nil (w : World) : Calls Try.prog 35 #[.pointer none] w fun e w' => e = .returned (.int .i64 0) ∧ w = w' := by
  go_enter Try.func35, Try.ntmps35
  go_wp2
  go_ret
  exact ⟨rfl, rfl⟩
set_option maxHeartbeats 400000 in
theorem Cells_any {w : World} {base : Nat} {fp : List Nat} {hb : Nat} {most used : Int} {sv : Value} {tp : List (Nat × Value)} {ts : List Thg} (h : HRep w base fp hb most used sv tp ts) :
    Calls Try.prog 35 #[.pointer (some ⟨hb, 0, none⟩)] w fun e w' => e = .returned (.int .i64 used) ∧ w = w' := by
  have h1 := h.c1
  clear h
  go_enter Try.func35, Try.ntmps35
  go_wp2
  go_ret
  exact ⟨rfl, rfl⟩

/-- The i-th value of a thing; where there is none: nothing. -/
def getV (t : Thg) (i : Int) : Int × Int := if 0 ≤ i then t.l.getD i.toNat (0, 0) else (0, 0)
def getB (t : Thg) (i : Int) : Bool := decide (0 ≤ i ∧ i < t.l.length)
def GetPost (t : Thg) (i : Int) (w : World) (e : Ending) (w' : World) : Prop :=
  e = .returned (.tuple #[.agg #[.int .i64 (getV t i).1, .int .i64 (getV t i).2], .bool (getB t i)]) ∧ Out [] w w'
theorem getV_none {t : Thg} {i : Int} (h : i < 0 ∨ t.l.length ≤ i) : getV t i = (0, 0) := by
  unfold getV
  split
  · rw [List.getD, List.getElem?_eq_none (by omega)]; rfl
  · rfl
theorem getV_some {t : Thg} {i : Nat} {p : Int × Int} (h : t.l[i]? = some p) : getV t i = p := by
  unfold getV
  rw [if_pos (by omega)]
  simp [List.getD, h]
/-- The variable of a result, made ahead of a call that leaves what is there. -/
theorem kept_var {w w' : World} {o : Obj} (ho : Out [] (w.alloc o) w') : w'.heap[w.heap.size]? = some o := (ho.block w.heap.size (by simp) (by simp)).trans (heap_alloc_new w o)
theorem two_stored {w : World} {s : Nat} {c0 c1 : Value} {e : TypeId} (h : w.heap[s]? = some (.cells #[c0, c1] e (0, 0))) (x y : Value) :
    ((w.setCell ⟨s, 0, none⟩ x).setCell ⟨s, 1, none⟩ y).heap[s]? = some (.cells #[x, y] e (0, 0)) := by
  rw [block_setCell (block_setCell h x) y]; rfl
set_option maxHeartbeats 800000 in
theorem Get_none {w : World} {hv : Value} {ts : List Thg} (h : AHeap w hv ts) (ref i : Int) (hi : i < 0 ∨ (look ts ref).l.length ≤ i) : Calls Try.prog 34 #[hv, .int .i64 ref, .int .i64 i] w (GetPost (look ts ref) i w) := by
  have h' := h.out ((Out.refl [] w).alloc (.cells #[.int .i64 0, .int .i64 0] 45))
  have K := of_any h' ref
  have e1 := getV_none hi
  have e2 : getB (look ts ref) i = false := decide_eq_false (by omega)
  unfold GetPost
  rw [e1, e2]
  clear h h' e1 e2
  generalize look ts ref = t at *
  rcases hi with hi | hi
  all_goals
    go_enter Try.func34, Try.ntmps34
    go_wp2_with (go_at_call 59; refine K.mono ?_; rintro e w' ⟨b, lv, rfl, hblk, hrow, hout⟩; have hb2 := kept_var hout; have d0 := cell_in hb2 0 rfl; have d1 := cell_in hb2 1 rfl; have f0 := free_in hb2 0; have f1 := free_in hb2 1; have hc := cell_in hblk 3 rfl; obtain ⟨a, cap, rfl, _, _, _⟩ := owns_shape hrow)
    have hs := two_stored hb2 (.int .i64 0) (.int .i64 0)
    have r0 := cell_in hs 0 rfl
    have r1 := cell_in hs 1 rfl
    refine bodyPost_ret (v := .tuple #[.agg #[.int .i64 0, .int .i64 0], .bool false]) (by simp [results, Try.results34, go_sem, r0, r1]) rfl ⟨rfl, ?_⟩
    exact ((((Out.refl _ _).alloc _).trans hout (by simp)).setCell (.inr (Nat.le_refl _)) _).setCell (.inr (Nat.le_refl _)) _
set_option maxHeartbeats 800000 in
theorem Get_some {w : World} {hv : Value} {ts : List Thg} (h : AHeap w hv ts) (ref : Int) (i : Nat) (p : Int × Int) (hp : (look ts ref).l[i]? = some p) : Calls Try.prog 34 #[hv, .int .i64 ref, .int .i64 i] w (GetPost (look ts ref) i w) := by
  have h' := h.out ((Out.refl [] w).alloc (.cells #[.int .i64 0, .int .i64 0] 45))
  have K := of_any h' ref
  have hi : i < (look ts ref).l.length := by
    rcases Nat.lt_or_ge i (look ts ref).l.length with hi | hi
    · exact hi
    · rw [List.getElem?_eq_none hi] at hp; cases hp
  have e1 := getV_some hp
  have e2 : getB (look ts ref) i = true := decide_eq_true (by omega)
  have v0 := flatV_even (look ts ref).l i
  have v1 := flatV_odd (look ts ref).l i
  rw [hp] at v0 v1
  unfold GetPost
  rw [e1, e2]
  clear h h' e1 e2 hp
  generalize look ts ref = t at *
  have V0 := Lib.hid v0
  have V1 := Lib.hid v1
  clear v0 v1
  go_enter Try.func34, Try.ntmps34
  go_wp2_with (go_at_call 59; refine K.mono ?_; rintro e w' ⟨b, lv, rfl, hblk, hrow, hout⟩; have hb2 := kept_var hout; have d0 := cell_in hb2 0 rfl; have d1 := cell_in hb2 1 rfl; have f0 := free_in hb2 0; have f1 := free_in hb2 1; have hc := cell_in hblk 3 rfl; obtain ⟨a, cap, rfl, hc1, hc2, hat⟩ := owns_shape hrow; obtain ⟨g, rfl, _, _, hcell, _⟩ := hat (by omega); have g0 := hcell _ _ V0.out; have g1 := hcell _ _ V1.out; clear hcell hat; unfold maxLen at hc2)
  have hs := two_stored hb2 (.int .i64 p.1) (.int .i64 p.2)
  have r0 := cell_in hs 0 rfl
  have r1 := cell_in hs 1 rfl
  refine bodyPost_ret (v := .tuple #[.agg #[.int .i64 p.1, .int .i64 p.2], .bool true]) (by simp [results, Try.results34, go_sem, r0, r1]) rfl ⟨rfl, ?_⟩
  exact ((((Out.refl _ _).alloc _).trans hout (by simp)).setCell (.inr (Nat.le_refl _)) _).setCell (.inr (Nat.le_refl _)) _
/-- heap.Get, of all references and places. -/
theorem Get_any {w : World} {hv : Value} {ts : List Thg} (h : AHeap w hv ts) (ref i : Int) : Calls Try.prog 34 #[hv, .int .i64 ref, .int .i64 i] w (GetPost (look ts ref) i w) := by
  by_cases hi : i < 0 ∨ (look ts ref).l.length ≤ i
  · exact Get_none h ref i hi
  · obtain ⟨j, rfl⟩ : ∃ j : Nat, i = j := ⟨i.toNat, by omega⟩
    exact Get_some h ref j ((look ts ref).l[j]'(by omega)) (by simp)
end Go.Proofs.Ytdelikjodacedaa
