/- HeapKnown: the walk: it returns true and leaves what was there. -/
import Derived.Test.YtdelikjodacedaaKnownA
namespace Go.Proofs.Ytdelikjodacedaa
open Go.RowKit
section
variable {B : Nat} {w0 : World} {hb : Nat} {most used : Int} {ts : List Thg} {w : World}
theorem Object3_is (h : HIn B w0 hb most used ts w) (cls k1 k2 k3 : Int) (r : Int) (t : Bool) (hk : objB most used [k1, k2, k3] = t ∧ (if t = true then (ts.length : Int) + 1 else 0) = r) :
    Calls Try.prog 38 #[.pointer (some ⟨hb, 0, none⟩), .int .i64 cls, .slice (some ⟨w.heap.size, 0, none⟩) 3 3] (w.alloc (.cells #[.int .i64 k1, .int .i64 k2, .int .i64 k3] 3)) fun e w' =>
      e = .returned (.tuple #[.int .i64 r, .bool t]) ∧ HIn B w0 hb most (if t = true then used + 3 + 1 else used) (if t = true then ts ++ [objT cls [k1, k2, k3]] else ts) w' :=
  Object_is h cls [k1, k2, k3] 3 r t ⟨rfl, by simp, hk.1, hk.2⟩
theorem Object1_is (h : HIn B w0 hb most used ts w) (cls k1 : Int) (r : Int) (t : Bool) (hk : objB most used [k1] = t ∧ (if t = true then (ts.length : Int) + 1 else 0) = r) :
    Calls Try.prog 38 #[.pointer (some ⟨hb, 0, none⟩), .int .i64 cls, .slice (some ⟨w.heap.size, 0, none⟩) 1 1] (w.alloc (.cells #[.int .i64 k1] 3)) fun e w' =>
      e = .returned (.tuple #[.int .i64 r, .bool t]) ∧ HIn B w0 hb most (if t = true then used + 1 + 1 else used) (if t = true then ts ++ [objT cls [k1]] else ts) w' :=
  Object_is h cls [k1] 1 r t ⟨rfl, by simp, hk.1, hk.2⟩
end
set_option maxRecDepth 100000 in
set_option maxHeartbeats 4000000 in
theorem HeapKnown_walk (w : World) : Calls Try.prog 12 #[] w fun e w' => e = .returned (.bool true) ∧ Below w.heap.size w w' := by
  have hw' := Below.refl w.heap.size w
  have hB : w.heap.size ≤ w.heap.size := Nat.le_refl _
  go_enter Try.func12, Try.ntmps12
  go_wp2_with (first
    | (go_at_call 15; (with_reducible refine (bin_is w.heap.size w _ _ _ _ 0 false (by decide +kernel) hw' hB).mono ?_); clear hw'; rintro e w' ⟨rfl, hw'⟩)
    | (go_at_call 46; (with_reducible refine (bin_true w.heap.size w _ _ _ _ (by decide +kernel) hw' hB).mono ?_); clear hw'; rintro e w' ⟨rfl, hw'⟩)
    | (go_at_call 45; (with_reducible refine (long_true w.heap.size w _ _ _ _ (by decide +kernel) hw' hB).mono ?_); clear hw'; rintro e w' ⟨rfl, hw'⟩)
    | (go_at_call 20; (with_reducible refine (neg_is 0 5 0 (by decide +kernel) _).mono ?_); rintro e w' ⟨rfl, rfl⟩)
    | (go_at_call 20; (with_reducible refine (neg_is 1 (-2147483648) (-2147483648) (by decide +kernel) _).mono ?_); rintro e w' ⟨rfl, rfl⟩)
    | (go_at_call 20; (with_reducible refine (neg_is 2 (-9223372036854775808) (-9223372036854775808) (by decide +kernel) _).mono ?_); rintro e w' ⟨rfl, rfl⟩)
    | (go_at_call 14; (with_reducible refine (wrap_is 3 5 0 (by decide +kernel) _).mono ?_); rintro e w' ⟨rfl, rfl⟩)
    | (go_at_call 18; (with_reducible refine (conv_is _ 1 0 (by decide +kernel) _).mono ?_); rintro e w' ⟨rfl, rfl⟩)
    | (go_at_call 26; (with_reducible refine (test_is _ 1 1 false (by decide +kernel) _).mono ?_); rintro e w' ⟨rfl, rfl⟩)
    | (go_at_call 28; refine (New_in w.heap.size w 6 6 (by decide) (by decide) hw' hB).mono ?_; clear hw'; rintro e w' ⟨hb, rfl, hIn⟩)
    | (go_at_call 38; (with_reducible refine (Object3_is hIn 4 1 2 3 1 true (by decide +kernel)).mono ?_); clear hIn; rintro e w' ⟨rfl, hIn⟩)
    | (go_at_call 38; (with_reducible refine (Object1_is hIn 0 4 0 false (by decide +kernel)).mono ?_); clear hIn; rintro e w' ⟨rfl, hIn⟩)
    | (go_at_call 29; (with_reducible refine (Array_is hIn 0 0 0 0 false (by decide +kernel)).mono ?_); clear hIn; rintro e w' ⟨rfl, hIn⟩)
    | (go_at_call 29; (with_reducible refine (Array_is hIn 1 0 (-1) 0 false (by decide +kernel)).mono ?_); clear hIn; rintro e w' ⟨rfl, hIn⟩)
    | (go_at_call 29; (with_reducible refine (Array_is hIn 1 0 2 0 false (by decide +kernel)).mono ?_); clear hIn; rintro e w' ⟨rfl, hIn⟩)
    | (go_at_call 29; (with_reducible refine (Array_is hIn 1 0 9223372036854775807 0 false (by decide +kernel)).mono ?_); clear hIn; rintro e w' ⟨rfl, hIn⟩)
    | (go_at_call 29; (with_reducible refine (Array_is hIn 3 7 1 2 true (by decide +kernel)).mono ?_); clear hIn; rintro e w' ⟨rfl, hIn⟩)
    | (go_at_call 35; (with_reducible refine (Cells_is hIn 6 (by decide +kernel)).mono ?_); rintro e w' ⟨rfl, rfl⟩)
    | (go_at_call 47; (with_reducible refine (Kind_is hIn 1 0 (by decide +kernel)).mono ?_); clear hIn; rintro e w' ⟨rfl, hIn⟩)
    | (go_at_call 47; (with_reducible refine (Kind_is hIn 2 3 (by decide +kernel)).mono ?_); clear hIn; rintro e w' ⟨rfl, hIn⟩)
    | (go_at_call 32; (with_reducible refine (Class_is hIn 2 7 (by decide +kernel)).mono ?_); clear hIn; rintro e w' ⟨rfl, hIn⟩)
    | (go_at_call 33; (with_reducible refine (IsArray_is hIn 1 false (by decide +kernel)).mono ?_); clear hIn; rintro e w' ⟨rfl, hIn⟩)
    | (go_at_call 31; (with_reducible refine (Len_is hIn 1 3 (by decide +kernel)).mono ?_); clear hIn; rintro e w' ⟨rfl, hIn⟩)
    | (go_at_call 48; (with_reducible refine (Known_is hIn 0 false (by decide +kernel)).mono ?_); rintro e w' ⟨rfl, rfl⟩)
    | (go_at_call 48; (with_reducible refine (Known_is hIn 3 false (by decide +kernel)).mono ?_); rintro e w' ⟨rfl, rfl⟩)
    | (go_at_call 48; (with_reducible refine (Known_is hIn 2 true (by decide +kernel)).mono ?_); rintro e w' ⟨rfl, rfl⟩)
    | (go_at_call 30; (with_reducible refine (Put_is hIn 1 0 1 2147483647 true (by decide +kernel)).mono ?_); clear hIn; rintro e w' ⟨rfl, hIn⟩)
    | (go_at_call 30; (with_reducible refine (Put_is hIn 1 0 1 2147483648 false (by decide +kernel)).mono ?_); clear hIn; rintro e w' ⟨rfl, hIn⟩)
    | (go_at_call 30; (with_reducible refine (Put_is hIn 1 0 2 0 false (by decide +kernel)).mono ?_); clear hIn; rintro e w' ⟨rfl, hIn⟩)
    | (go_at_call 30; (with_reducible refine (Put_is hIn 1 1 2 (-9223372036854775808) true (by decide +kernel)).mono ?_); clear hIn; rintro e w' ⟨rfl, hIn⟩)
    | (go_at_call 30; (with_reducible refine (Put_is hIn 1 2 3 2 true (by decide +kernel)).mono ?_); clear hIn; rintro e w' ⟨rfl, hIn⟩)
    | (go_at_call 30; (with_reducible refine (Put_is hIn 1 2 3 3 false (by decide +kernel)).mono ?_); clear hIn; rintro e w' ⟨rfl, hIn⟩)
    | (go_at_call 30; (with_reducible refine (Put_is hIn 1 2 3 (-1) false (by decide +kernel)).mono ?_); clear hIn; rintro e w' ⟨rfl, hIn⟩)
    | (go_at_call 30; (with_reducible refine (Put_is hIn 1 3 1 0 false (by decide +kernel)).mono ?_); clear hIn; rintro e w' ⟨rfl, hIn⟩)
    | (go_at_call 30; (with_reducible refine (Put_is hIn 1 (-1) 1 0 false (by decide +kernel)).mono ?_); clear hIn; rintro e w' ⟨rfl, hIn⟩)
    | (go_at_call 30; (with_reducible refine (Put_is hIn 0 0 1 0 false (by decide +kernel)).mono ?_); clear hIn; rintro e w' ⟨rfl, hIn⟩)
    | (go_at_call 30; (with_reducible refine (Put_is hIn 3 0 1 0 false (by decide +kernel)).mono ?_); clear hIn; rintro e w' ⟨rfl, hIn⟩))
  have hz : ZH w.heap.size w (.pointer none) _ := ⟨hIn.1, hB, .inl rfl⟩
  clear hIn
  go_loopw [33, 34] (fun v i wr => (i = .int .i64 0 ∨ i = .int .i64 1 ∨ i = .int .i64 2) ∧ ZH w.heap.size w v wr) (fun _ i _ => 2 - (intOf i).toNat)
  case atStart => exact ⟨.inl rfl, hz⟩
  case round =>
    clear hz
    obtain ⟨hi, hz⟩ := hrel
    rcases hi with rfl | rfl | rfl
    · go_wp2_with (first
      | (go_at_call 38; (with_reducible refine (Z_Object hz).mono ?_); clear hz; rintro e w' ⟨rfl, hz⟩)
      | (go_at_call 29; (with_reducible refine (Z_Array hz).mono ?_); clear hz; rintro e w' ⟨rfl, hz⟩)
      | (go_at_call 34; (with_reducible refine (Z_Get hz).mono ?_); clear hz; rintro e w' ⟨rfl, hz⟩; replace hz := hz.out ((Out.refl [] _).alloc (.cells #[.int .i64 0, .int .i64 0] 45)))
      | (go_at_call 48; (with_reducible refine (Z_Known hz).mono ?_); clear hz; rintro e w' ⟨rfl, hz⟩)
      | (go_at_call 33; (with_reducible refine (Z_IsArray hz).mono ?_); clear hz; rintro e w' ⟨rfl, hz⟩)
      | (go_at_call 30; (with_reducible refine (Z_Put hz).mono ?_); clear hz; rintro e w' ⟨rfl, hz⟩)
      | (go_at_call 47; (with_reducible refine (Z_Kind hz).mono ?_); clear hz; rintro e w' ⟨rfl, hz⟩)
      | (go_at_call 32; (with_reducible refine (Z_Class hz).mono ?_); clear hz; rintro e w' ⟨rfl, hz⟩)
      | (go_at_call 31; (with_reducible refine (Z_Len hz).mono ?_); clear hz; rintro e w' ⟨rfl, hz⟩)
      | (go_at_call 35; (with_reducible refine (Z_Cells hz).mono ?_); clear hz; rintro e w' ⟨rfl, hz⟩))
      go_roundw
      case rel => exact ⟨.inr (.inl rfl), hz.made⟩
      case measure => simp [intOf]
    · go_wp2_with (first
      | (go_at_call 38; (with_reducible refine (Z_Object hz).mono ?_); clear hz; rintro e w' ⟨rfl, hz⟩)
      | (go_at_call 29; (with_reducible refine (Z_Array hz).mono ?_); clear hz; rintro e w' ⟨rfl, hz⟩)
      | (go_at_call 34; (with_reducible refine (Z_Get hz).mono ?_); clear hz; rintro e w' ⟨rfl, hz⟩; replace hz := hz.out ((Out.refl [] _).alloc (.cells #[.int .i64 0, .int .i64 0] 45)))
      | (go_at_call 48; (with_reducible refine (Z_Known hz).mono ?_); clear hz; rintro e w' ⟨rfl, hz⟩)
      | (go_at_call 33; (with_reducible refine (Z_IsArray hz).mono ?_); clear hz; rintro e w' ⟨rfl, hz⟩)
      | (go_at_call 30; (with_reducible refine (Z_Put hz).mono ?_); clear hz; rintro e w' ⟨rfl, hz⟩)
      | (go_at_call 47; (with_reducible refine (Z_Kind hz).mono ?_); clear hz; rintro e w' ⟨rfl, hz⟩)
      | (go_at_call 32; (with_reducible refine (Z_Class hz).mono ?_); clear hz; rintro e w' ⟨rfl, hz⟩)
      | (go_at_call 31; (with_reducible refine (Z_Len hz).mono ?_); clear hz; rintro e w' ⟨rfl, hz⟩)
      | (go_at_call 35; (with_reducible refine (Z_Cells hz).mono ?_); clear hz; rintro e w' ⟨rfl, hz⟩))
      go_roundw
      case rel => exact ⟨.inr (.inr rfl), hz.made⟩
      case measure => simp [intOf]
    · have hw' := hz.1
      clear hz
      go_wp2_with (first
      | (go_at_call 28; (with_reducible refine (New_in w.heap.size w (-5) 0 (by decide) (by decide) hw' hB).mono ?_); clear hw'; rintro e w' ⟨hb1, rfl, hIn⟩)
      | (go_at_call 38; (with_reducible refine (Object_nil_is hIn 0 0 false (by decide +kernel)).mono ?_); clear hIn; rintro e w' ⟨rfl, hIn⟩; have hw' := hIn.1)
      | (go_at_call 28; (with_reducible refine (New_in w.heap.size w 1 1 (by decide) (by decide) hw' hB).mono ?_); clear hw' hIn; rintro e w' ⟨hb2, rfl, hIn⟩)
      | (go_at_call 38; (with_reducible refine (Object_nil_is hIn 0 1 true (by decide +kernel)).mono ?_); clear hIn; rintro e w' ⟨rfl, hIn⟩; have hw' := hIn.1)
      | (go_at_call 13; (with_reducible refine (works_any _).mono ?_); rintro e w3 ⟨rfl, hw3⟩))
      go_ret
      exact ⟨rfl, hw'.trans (hw3.mono (by have := hw'.size; omega))⟩
end Go.Proofs.Ytdelikjodacedaa
