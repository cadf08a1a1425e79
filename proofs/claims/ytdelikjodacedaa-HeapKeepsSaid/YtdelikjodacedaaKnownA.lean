/- What HeapKnown asks of package heap, call by call: with the answers as they stand there; heaps that are none. -/
import Derived.Test.YtdelikjodacedaaPutC
import Derived.Test.YtdelikjodacedaaWorks
namespace Go.Proofs.Ytdelikjodacedaa
open Go.RowKit

theorem neg_is (kind a want : Int) (h : wrapOf kind (wrap64 (-a)) = want) (w : World) : Calls Try.prog 20 #[.int .i64 kind, .int .i64 a] w fun e w' => e = .returned (.int .i64 want) ∧ w = w' := by
  have := Neg_any kind a w; rw [h] at this; exact this
theorem wrap_is (kind a want : Int) (h : wrapOf kind a = want) (w : World) : Calls Try.prog 14 #[.int .i64 kind, .int .i64 a] w fun e w' => e = .returned (.int .i64 want) ∧ w = w' := by
  have := Wrap_any kind a w; rw [h] at this; exact this
theorem test_is (how a b : Int) (t : Bool) (h : testF how a b = t) (w : World) : Calls Try.prog 26 #[.int .i64 how, .int .i64 a, .int .i64 b] w fun e w' => e = .returned (.bool t) ∧ w = w' := by
  have := Test_any how a b w; rw [h] at this; exact this

section
variable {B : Nat} {w0 : World} {hb : Nat} {most used : Int} {ts : List Thg} {w : World}
theorem HIn.to {w' : World} {fp fp' : List Nat} {sv sv' : Value} {tp tp' : List (Nat × Value)} {used' : Int} {ts' : List Thg} (hw : Below B w0 w) (hB : B ≤ w0.heap.size) (h : HRep w B fp hb most used sv tp ts) (h' : HRep w' B fp' hb most used' sv' tp' ts') (ho : Out fp w w') : HIn B w0 hb most used' ts' w' :=
  ⟨hw.trans (ho.below (by have := hw.size; omega) h.ge), hB, fp', sv', tp', h'⟩
theorem Object_is (h : HIn B w0 hb most used ts w) (cls : Int) (ks : List Int) (n : Nat) (r : Int) (t : Bool) (hk : ks.length = n ∧ ks.length ≤ 1000000 ∧ objB most used ks = t ∧ (if t = true then (ts.length : Int) + 1 else 0) = r) :
    Calls Try.prog 38 #[.pointer (some ⟨hb, 0, none⟩), .int .i64 cls, .slice (some ⟨w.heap.size, 0, none⟩) n n] (w.alloc (.cells (ks.map (Value.int .i64)).toArray 3)) fun e w' =>
      e = .returned (.tuple #[.int .i64 r, .bool t]) ∧ HIn B w0 hb most (if t = true then used + ks.length + 1 else used) (if t = true then ts ++ [objT cls ks] else ts) w' := by
  have K := Object_in h cls ks hk.2.1 n hk.1 t hk.2.2.1
  rw [hk.2.2.2] at K
  exact K
theorem Object_nil_is (h : HIn B w0 hb most used ts w) (cls : Int) (r : Int) (t : Bool) (hk : objB most used [] = t ∧ (if t = true then (ts.length : Int) + 1 else 0) = r) :
    Calls Try.prog 38 #[.pointer (some ⟨hb, 0, none⟩), .int .i64 cls, .slice none 0 0] w fun e w' =>
      e = .returned (.tuple #[.int .i64 r, .bool t]) ∧ HIn B w0 hb most (if t = true then used + 0 + 1 else used) (if t = true then ts ++ [objT cls []] else ts) w' := by
  obtain ⟨h1, h2, fp, sv, tp, hR⟩ := h
  have K := Object_any hR cls [] (.slice none 0 0) 0 (World.ownsRow_nil _ _ _ _) (by simp)
  unfold ObjPost at K
  rw [hk.1, hk.2] at K
  refine K.mono ?_
  rintro e w' ⟨rfl, hm⟩
  exact ⟨rfl, HIn.made h1 h2 hR hm⟩
theorem Array_is (h : HIn B w0 hb most used ts w) (kind cls n r : Int) (t : Bool) (ht : arrB most used kind n = t ∧ (if t = true then (ts.length : Int) + 1 else 0) = r) :
    Calls Try.prog 29 #[.pointer (some ⟨hb, 0, none⟩), .int .i64 kind, .int .i64 cls, .int .i64 n] w fun e w' =>
      e = .returned (.tuple #[.int .i64 r, .bool t]) ∧ HIn B w0 hb most (if t = true then used + n + 1 else used) (if t = true then ts ++ [arrT kind cls n] else ts) w' := by
  have K := Array_in h kind cls n t ht.1
  rw [ht.2] at K
  exact K
theorem Cells_is (h : HIn B w0 hb most used ts w) (want : Int) (hu : used = want) : Calls Try.prog 35 #[.pointer (some ⟨hb, 0, none⟩)] w fun e w' => e = .returned (.int .i64 want) ∧ w = w' := by
  have K := Cells_in h; rw [hu] at K; exact K
theorem Known_is (h : HIn B w0 hb most used ts w) (ref : Int) (t : Bool) (ht : knows ts.length ref = t) : Calls Try.prog 48 #[.pointer (some ⟨hb, 0, none⟩), .int .i64 ref] w fun e w' => e = .returned (.bool t) ∧ w = w' := by
  obtain ⟨h1, h2, fp, sv, tp, hR⟩ := h
  have K := Known_any hR ref; rw [ht] at K; exact K
theorem Kind_is (h : HIn B w0 hb most used ts w) (ref want : Int) (ht : (look ts ref).kind = want) : Calls Try.prog 47 #[.pointer (some ⟨hb, 0, none⟩), .int .i64 ref] w fun e w' => e = .returned (.int .i64 want) ∧ HIn B w0 hb most used ts w' := by
  have K := Kind_any h.a ref; rw [ht] at K; exact K.mono fun e w' ⟨he, ho⟩ => ⟨he, h.out ho⟩
theorem Class_is (h : HIn B w0 hb most used ts w) (ref want : Int) (ht : (look ts ref).cls = want) : Calls Try.prog 32 #[.pointer (some ⟨hb, 0, none⟩), .int .i64 ref] w fun e w' => e = .returned (.int .i64 want) ∧ HIn B w0 hb most used ts w' := by
  have K := Class_any h.a ref; rw [ht] at K; exact K.mono fun e w' ⟨he, ho⟩ => ⟨he, h.out ho⟩
theorem Len_is (h : HIn B w0 hb most used ts w) (ref want : Int) (ht : ((look ts ref).l.length : Int) = want) : Calls Try.prog 31 #[.pointer (some ⟨hb, 0, none⟩), .int .i64 ref] w fun e w' => e = .returned (.int .i64 want) ∧ HIn B w0 hb most used ts w' := by
  have K := Len_any h.a ref; rw [ht] at K; exact K.mono fun e w' ⟨he, ho⟩ => ⟨he, h.out ho⟩
theorem IsArray_is (h : HIn B w0 hb most used ts w) (ref : Int) (t : Bool) (ht : (look ts ref).arr = t) : Calls Try.prog 33 #[.pointer (some ⟨hb, 0, none⟩), .int .i64 ref] w fun e w' => e = .returned (.bool t) ∧ HIn B w0 hb most used ts w' := by
  have K := IsArray_any h.a ref; rw [ht] at K; exact K.mono fun e w' ⟨he, ho⟩ => ⟨he, h.out ho⟩
theorem Put_is (h : HIn B w0 hb most used ts w) (ref i k n : Int) (t : Bool) (ht : putB ts ref i k n = t) :
    Calls Try.prog 30 #[.pointer (some ⟨hb, 0, none⟩), .int .i64 ref, .int .i64 i, .agg #[.int .i64 k, .int .i64 n]] w fun e w' => e = .returned (.bool t) ∧ HIn B w0 hb most used (putT ts ref i k n) w' := by
  obtain ⟨h1, h2, fp, sv, tp, hR⟩ := h
  have K := Put_any hR ref i k n; rw [ht] at K
  exact K.mono fun e w' ⟨he, hR', ho⟩ => ⟨he, HIn.to h1 h2 hR hR' ho⟩
end

/-- A heap that is none, or the one that nobody made. -/
def ZH (B : Nat) (w0 : World) (v : Value) (w : World) : Prop := Below B w0 w ∧ B ≤ w0.heap.size ∧ (v = .pointer none ∨ ∃ hb, v = .pointer (some ⟨hb, 0, none⟩) ∧ HIn B w0 hb 0 0 [] w)
section
variable {B : Nat} {w0 : World} {v : Value} {w : World}
theorem ZH.a (h : ZH B w0 v w) : AHeap w v [] := by
  obtain ⟨_, _, rfl | ⟨hb, rfl, h⟩⟩ := h
  · exact .inl ⟨rfl, rfl⟩
  · exact h.a
theorem ZH.out (h : ZH B w0 v w) {w' : World} (ho : Out [] w w') : ZH B w0 v w' := by
  obtain ⟨h1, h2, h3⟩ := h
  refine ⟨h1.trans (ho.below (by have := h1.size; omega) (by simp)), h2, ?_⟩
  rcases h3 with rfl | ⟨hb, rfl, h⟩
  · exact .inl rfl
  · exact .inr ⟨hb, rfl, h.out ho⟩
theorem ZH.made (h : ZH B w0 v w) : ZH B w0 (.pointer (some ⟨w.heap.size, 0, none⟩)) (w.alloc (.cells #[.int .i64 0, .int .i64 0, .slice none 0 0] 71)) := by
  obtain ⟨h1, h2, _⟩ := h
  have hs := h1.size
  have h1' : Below B w0 (w.alloc (.cells #[.int .i64 0, .int .i64 0, .slice none 0 0] 71)) := h1.alloc (by omega) _
  exact ⟨h1', h2, .inr ⟨_, rfl, h1', h2, _, _, _, HRep_new w B 0 (by omega) (by omega) (by omega)⟩⟩

set_option maxHeartbeats 1000000 in
theorem Object_none (cls : Int) (w : World) : Calls Try.prog 38 #[.pointer none, .int .i64 cls, .slice none 0 0] w fun e w' => e = .returned (.tuple #[.int .i64 0, .bool false]) ∧ Out [] w w' := by
  have R := fun v => room_nil 0 v
  have F := Lib.hid (fun v v' (ho : Out [] w v) (ho' : Out [] v v') => ho.trans ho' (by simp))
  have st : Out [] w (w.alloc (.cells #[.bool false, .int .i64 0, .int .i64 cls, .slice none 0 0] 86)) := (Out.refl _ _).alloc _
  go_enter Try.func38, Try.ntmps38
  go_wp2
  go_loopw [16] (fun i wr => i = .int .i64 0 ∧ Out [] w wr) (fun _ _ => 0)
  case atStart => exact ⟨rfl, st⟩
  case round =>
    obtain ⟨rfl, ho⟩ := hrel
    have FO := Lib.hid (fun v' ho' => F.out _ v' ho ho')
    clear st ho F
    go_wp2_with (go_at_call 57; refine (R _).mono ?_; rintro e w' ⟨rfl, hw'⟩)
    go_ret2
    exact ⟨rfl, FO.out _ (by assumption)⟩
set_option maxHeartbeats 1000000 in
theorem Array_none (cls n : Int) (w : World) : Calls Try.prog 29 #[.pointer none, .int .i64 1, .int .i64 cls, .int .i64 n] w fun e w' => e = .returned (.tuple #[.int .i64 0, .bool false]) ∧ Out [] w w' := by
  have R := room_nil n w
  have K0 := fun v => isKind_any 1 v
  rw [show isK 1 = true from rfl] at K0
  go_enter Try.func29, Try.ntmps29
  go_wp2_with (first
    | (go_at_call 56; refine (K0 _).mono ?_; rintro e w' ⟨rfl, rfl⟩)
    | (go_at_call 57; refine R.mono ?_; rintro e w' ⟨rfl, ho⟩))
  go_ret2
  exact ⟨rfl, by assumption⟩

theorem Z_Object (h : ZH B w0 v w) : Calls Try.prog 38 #[v, .int .i64 0, .slice none 0 0] w fun e w' => e = .returned (.tuple #[.int .i64 0, .bool false]) ∧ ZH B w0 v w' := by
  have h' := h
  obtain ⟨h1, h2, rfl | ⟨hb, rfl, h⟩⟩ := h
  · exact (Object_none 0 w).mono fun e w' ⟨he, ho⟩ => ⟨he, h'.out ho⟩
  · exact (Object_nil_is h 0 0 false (by decide +kernel)).mono fun e w' ⟨he, hI⟩ => ⟨he, hI.1, h2, .inr ⟨hb, rfl, hI⟩⟩
theorem Z_Array (h : ZH B w0 v w) : Calls Try.prog 29 #[v, .int .i64 1, .int .i64 0, .int .i64 0] w fun e w' => e = .returned (.tuple #[.int .i64 0, .bool false]) ∧ ZH B w0 v w' := by
  have h' := h
  obtain ⟨h1, h2, rfl | ⟨hb, rfl, h⟩⟩ := h
  · exact (Array_none 0 0 w).mono fun e w' ⟨he, ho⟩ => ⟨he, h'.out ho⟩
  · exact (Array_is h 1 0 0 0 false (by decide +kernel)).mono fun e w' ⟨he, hI⟩ => ⟨he, hI.1, h2, .inr ⟨hb, rfl, hI⟩⟩
theorem Z_Get (h : ZH B w0 v w) : Calls Try.prog 34 #[v, .int .i64 1, .int .i64 0] w fun e w' => e = .returned (.tuple #[.agg #[.int .i64 0, .int .i64 0], .bool false]) ∧ ZH B w0 v w' :=
  (Get_any h.a 1 0).mono fun e w' ⟨he, ho⟩ => ⟨he.trans (by rfl), h.out ho⟩
theorem Z_Known (h : ZH B w0 v w) : Calls Try.prog 48 #[v, .int .i64 1] w fun e w' => e = .returned (.bool false) ∧ ZH B w0 v w' :=
  (Known_a h.a 1).mono fun e w' ⟨he, ho⟩ => ⟨he.trans (by rfl), ho ▸ h⟩
theorem Z_IsArray (h : ZH B w0 v w) : Calls Try.prog 33 #[v, .int .i64 1] w fun e w' => e = .returned (.bool false) ∧ ZH B w0 v w' :=
  (IsArray_any h.a 1).mono fun e w' ⟨he, ho⟩ => ⟨he.trans (by rfl), h.out ho⟩
theorem Z_Kind (h : ZH B w0 v w) : Calls Try.prog 47 #[v, .int .i64 1] w fun e w' => e = .returned (.int .i64 0) ∧ ZH B w0 v w' :=
  (Kind_any h.a 1).mono fun e w' ⟨he, ho⟩ => ⟨he.trans (by rfl), h.out ho⟩
theorem Z_Class (h : ZH B w0 v w) : Calls Try.prog 32 #[v, .int .i64 1] w fun e w' => e = .returned (.int .i64 0) ∧ ZH B w0 v w' :=
  (Class_any h.a 1).mono fun e w' ⟨he, ho⟩ => ⟨he.trans (by rfl), h.out ho⟩
theorem Z_Len (h : ZH B w0 v w) : Calls Try.prog 31 #[v, .int .i64 1] w fun e w' => e = .returned (.int .i64 0) ∧ ZH B w0 v w' :=
  (Len_any h.a 1).mono fun e w' ⟨he, ho⟩ => ⟨he.trans (by rfl), h.out ho⟩
theorem Z_Put (h : ZH B w0 v w) : Calls Try.prog 30 #[v, .int .i64 1, .int .i64 0, .agg #[.int .i64 1, .int .i64 0]] w fun e w' => e = .returned (.bool false) ∧ ZH B w0 v w' :=
  (Put_no1 h.a 1 0 1 0 (by decide +kernel)).mono fun e w' ⟨he, ho⟩ => ⟨he, h.out ho⟩
theorem Z_Cells (h : ZH B w0 v w) : Calls Try.prog 35 #[v] w fun e w' => e = .returned (.int .i64 0) ∧ ZH B w0 v w' := by
  have h' := h
  obtain ⟨h1, h2, rfl | ⟨hb, rfl, h⟩⟩ := h
  · exact (Cells_nil w).mono fun e w' ⟨he, ho⟩ => ⟨he, ho ▸ h'⟩
  · exact (Cells_is h 0 rfl).mono fun e w' ⟨he, ho⟩ => ⟨he, ho ▸ h'⟩
end
end Go.Proofs.Ytdelikjodacedaa
