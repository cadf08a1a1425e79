/- Package heap's readers where the reference is known: they leave all as it was. -/
import Derived.Test.YtdelikjodacedaaKeepsB
namespace Go.Proofs.Ytdelikjodacedaa
open Go.RowKit
section
variable {w : World} {base : Nat} {fp : List Nat} {hb : Nat} {most used : Int} {sv : Value} {tp : List (Nat × Value)} {ts : List Thg}
set_option maxHeartbeats 400000 in
theorem Len_known (h : HRep w base fp hb most used sv tp ts) (i : Nat) (t : Thg) (ht : ts[i]? = some t) (ref : Int) (hr : ref = i + 1) : Calls Try.prog 31 #[.pointer (some ⟨hb, 0, none⟩), .int .i64 ref] w fun e w' => e = .returned (.int .i64 t.l.length) ∧ w' = w := by
  obtain ⟨p, hp⟩ := h.tpAt (lt_of_get ht)
  have K := of_known h i p hp ref hr
  have T := h.things i p t hp ht
  have hc := cell_in T.blk 3 rfl
  obtain ⟨a, cap, hl, _, _, _⟩ := owns_shape T.row
  have hc2 : w.cell? ⟨p.1, 3, none⟩ = some (.slice a t.l.length cap) := hl ▸ hc
  clear h T hc hl hp ht hr
  generalize p.1 = b at *
  go_enter Try.func31, Try.ntmps31
  go_wp2_with (go_at_call 59; refine K.mono ?_; rintro e w' ⟨rfl, rfl⟩)
  go_ret
  exact ⟨rfl, rfl⟩
set_option maxHeartbeats 400000 in
theorem Class_known (h : HRep w base fp hb most used sv tp ts) (i : Nat) (t : Thg) (ht : ts[i]? = some t) (ref : Int) (hr : ref = i + 1) : Calls Try.prog 32 #[.pointer (some ⟨hb, 0, none⟩), .int .i64 ref] w fun e w' => e = .returned (.int .i64 t.cls) ∧ w' = w := by
  obtain ⟨p, hp⟩ := h.tpAt (lt_of_get ht)
  have K := of_known h i p hp ref hr
  have hc : w.cell? ⟨p.1, 2, none⟩ = some (.int .i64 t.cls) := cell_in (h.things i p t hp ht).blk 2 rfl
  clear h hp ht hr
  generalize p.1 = b at *
  go_enter Try.func32, Try.ntmps32
  go_wp2_with (go_at_call 59; refine K.mono ?_; rintro e w' ⟨rfl, rfl⟩)
  go_ret
  exact ⟨rfl, rfl⟩
set_option maxHeartbeats 400000 in
theorem IsArray_known (h : HRep w base fp hb most used sv tp ts) (i : Nat) (t : Thg) (ht : ts[i]? = some t) (ref : Int) (hr : ref = i + 1) : Calls Try.prog 33 #[.pointer (some ⟨hb, 0, none⟩), .int .i64 ref] w fun e w' => e = .returned (.bool t.arr) ∧ w' = w := by
  obtain ⟨p, hp⟩ := h.tpAt (lt_of_get ht)
  have K := of_known h i p hp ref hr
  have hc : w.cell? ⟨p.1, 0, none⟩ = some (.bool t.arr) := cell_in (h.things i p t hp ht).blk 0 rfl
  clear h hp ht hr
  generalize p.1 = b at *
  go_enter Try.func33, Try.ntmps33
  go_wp2_with (go_at_call 59; refine K.mono ?_; rintro e w' ⟨rfl, rfl⟩)
  go_ret
  exact ⟨rfl, rfl⟩
end
section
variable {B : Nat} {w0 : World} {hb : Nat} {wv : Value} {rv : List Value} {wl : List (List Int)} {used : Int} {ts : List Thg} {w : World}
theorem KRel.len_q (h : KRel B w0 hb wv rv wl used ts w) (i : Nat) (t : Thg) (ht : ts[i]? = some t) (n : Nat) : Calls Try.prog 31 #[.pointer (some ⟨hb, 0, none⟩), .int .i64 (i + 1)] (w.drewN n) fun e w' => e = .returned (.int .i64 t.l.length) ∧ ∃ m, w' = w.drewN m := by
  obtain ⟨_, _, fp, sv, tp, gp, hR, _⟩ := h
  exact Calls.quiet_of_same (Len_known (hR.drewN n) i t ht _ rfl)
theorem KRel.class_q (h : KRel B w0 hb wv rv wl used ts w) (i : Nat) (t : Thg) (ht : ts[i]? = some t) (n : Nat) : Calls Try.prog 32 #[.pointer (some ⟨hb, 0, none⟩), .int .i64 (i + 1)] (w.drewN n) fun e w' => e = .returned (.int .i64 t.cls) ∧ ∃ m, w' = w.drewN m := by
  obtain ⟨_, _, fp, sv, tp, gp, hR, _⟩ := h
  exact Calls.quiet_of_same (Class_known (hR.drewN n) i t ht _ rfl)
theorem KRel.isArray_q (h : KRel B w0 hb wv rv wl used ts w) (i : Nat) (t : Thg) (ht : ts[i]? = some t) (n : Nat) : Calls Try.prog 33 #[.pointer (some ⟨hb, 0, none⟩), .int .i64 (i + 1)] (w.drewN n) fun e w' => e = .returned (.bool t.arr) ∧ ∃ m, w' = w.drewN m := by
  obtain ⟨_, _, fp, sv, tp, gp, hR, _⟩ := h
  exact Calls.quiet_of_same (IsArray_known (hR.drewN n) i t ht _ rfl)
theorem KRel.cells (h : KRel B w0 hb wv rv wl used ts w) : Calls Try.prog 35 #[.pointer (some ⟨hb, 0, none⟩)] w fun e w' => e = .returned (.int .i64 used) ∧ w = w' := by
  obtain ⟨_, _, fp, sv, tp, gp, hR, _⟩ := h
  exact Cells_any hR
end
end Go.Proofs.Ytdelikjodacedaa
