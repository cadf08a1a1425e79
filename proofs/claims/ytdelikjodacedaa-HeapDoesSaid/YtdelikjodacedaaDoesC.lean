/- HeapDoes: 'same', by contract: of equal heaps it returns true. -/
import Derived.Test.YtdelikjodacedaaDoesB
import Derived.Deep.RegionHeld
namespace Go.Proofs.Ytdelikjodacedaa
open Go.RowKit
section
variable {B : Nat} {w0 : World} {hb xb : Nat} {most u : Int} {ts : List Thg} {kv : Value} {ks : List Int} {keep : List (Nat × Obj)} {w : World}
set_option maxHeartbeats 4000000 in
theorem DRel.same (h : DRel B w0 hb xb most u ts u ts kv ks keep w) (ref : Int) : Calls Try.prog 43 #[.pointer (some ⟨hb, 0, none⟩), .pointer (some ⟨xb, 0, none⟩), .int .i64 ref] w fun e w' => e = .returned (.bool true) ∧ DRel B w0 hb xb most u ts u ts kv ks keep w' ∧ Out [] w w' := by
  have K := Lib.hid (h.of ref)
  have E1 : ∀ (w' : World) (keep' : List (Nat × Obj)), DRel B w0 hb xb most u ts u ts kv ks keep' w' ∧ Out [] w w' → Calls Try.prog 33 #[.pointer (some ⟨hb, 0, none⟩), .int .i64 ref] w' fun e w'' => e = .returned (.bool (look ts ref).arr) ∧ DRel B w0 hb xb most u ts u ts kv ks keep' w'' ∧ Out [] w w'' := fun _ _ h => (h.1.isArray ref).mono fun _ _ ⟨k1, k2, k3⟩ => ⟨k1, k2, h.2.trans k3 (by simp)⟩
  have E2 : ∀ (w' : World) (keep' : List (Nat × Obj)), DRel B w0 hb xb most u ts u ts kv ks keep' w' ∧ Out [] w w' → Calls Try.prog 47 #[.pointer (some ⟨hb, 0, none⟩), .int .i64 ref] w' fun e w'' => e = .returned (.int .i64 (look ts ref).kind) ∧ DRel B w0 hb xb most u ts u ts kv ks keep' w'' ∧ Out [] w w'' := fun _ _ h => (h.1.kind ref).mono fun _ _ ⟨k1, k2, k3⟩ => ⟨k1, k2, h.2.trans k3 (by simp)⟩
  have E3 : ∀ (w' : World) (keep' : List (Nat × Obj)), DRel B w0 hb xb most u ts u ts kv ks keep' w' ∧ Out [] w w' → Calls Try.prog 32 #[.pointer (some ⟨hb, 0, none⟩), .int .i64 ref] w' fun e w'' => e = .returned (.int .i64 (look ts ref).cls) ∧ DRel B w0 hb xb most u ts u ts kv ks keep' w'' ∧ Out [] w w'' := fun _ _ h => (h.1.class ref).mono fun _ _ ⟨k1, k2, k3⟩ => ⟨k1, k2, h.2.trans k3 (by simp)⟩
  have E4 : ∀ (w' : World) (keep' : List (Nat × Obj)), DRel B w0 hb xb most u ts u ts kv ks keep' w' ∧ Out [] w w' → Calls Try.prog 31 #[.pointer (some ⟨hb, 0, none⟩), .int .i64 ref] w' fun e w'' => e = .returned (.int .i64 (look ts ref).l.length) ∧ DRel B w0 hb xb most u ts u ts kv ks keep' w'' ∧ Out [] w w'' := fun _ _ h => (h.1.len ref).mono fun _ _ ⟨k1, k2, k3⟩ => ⟨k1, k2, h.2.trans k3 (by simp)⟩
  have E5 : ∀ (w' : World) (keep' : List (Nat × Obj)), DRel B w0 hb xb most u ts u ts kv ks keep' w' ∧ Out [] w w' → Calls Try.prog 48 #[.pointer (some ⟨hb, 0, none⟩), .int .i64 ref] w' fun e w'' => e = .returned (.bool (knows ts.length ref)) ∧ DRel B w0 hb xb most u ts u ts kv ks keep' w'' ∧ Out [] w w'' := fun _ _ h => (h.1.known ref).mono fun _ _ ⟨k1, k2, k3⟩ => ⟨k1, k2, h.2.trans k3 (by simp)⟩
  have E6 : ∀ (w' : World) (keep' : List (Nat × Obj)), DRel B w0 hb xb most u ts u ts kv ks keep' w' ∧ Out [] w w' → Calls Try.prog 62 #[.pointer (some ⟨xb, 0, none⟩), .int .i64 ref] w' fun e w'' => e = .returned (.bool (knows ts.length ref)) ∧ DRel B w0 hb xb most u ts u ts kv ks keep' w'' ∧ Out [] w w'' := fun _ _ h => (h.1.xknown ref).mono fun _ _ ⟨k1, k2, k3⟩ => ⟨k1, k2, h.2.trans k3 (by simp)⟩
  have H5 := Lib.hid E5
  have H6 := Lib.hid E6
  have H1 := Lib.hid E1
  have H2 := Lib.hid E2
  have H3 := Lib.hid E3
  have H4 := Lib.hid E4
  clear h E1 E2 E3 E4 E5 E6
  generalize look ts ref = t at *
  go_enter Try.func43, Try.ntmps43
  go_wp2_with (go_at_call 44; refine K.out.mono ?_; rintro e w1 ⟨a, cap, rfl, hD, ho, hrow⟩; clear hrow)
  have h0 : DRel B w0 hb xb most u ts u ts kv ks ((w1.heap.size, .cells #[.bool t.arr, .int .i64 t.kind, .int .i64 t.cls, .slice a t.l.length cap] 65 (0, 0)) :: keep) (w1.alloc (.cells #[.bool t.arr, .int .i64 t.kind, .int .i64 t.cls, .slice a t.l.length cap] 65)).drew ∧ Out [] w (w1.alloc (.cells #[.bool t.arr, .int .i64 t.kind, .int .i64 t.cls, .slice a t.l.length cap] 65)).drew := ⟨(hD.new _).out ((Out.refl _ _).drew), (ho.alloc _).drew⟩
  clear hD K ho
  generalize w1.alloc (.cells #[.bool t.arr, .int .i64 t.kind, .int .i64 t.cls, .slice a t.l.length cap] 65) = W at *
  generalize w1.heap.size = s at *
  go_region_held (fun w' => w'.cell? ⟨s, 0, none⟩ = some (.bool t.arr) ∧ w'.cell? ⟨s, 1, none⟩ = some (.int .i64 t.kind) ∧ w'.cell? ⟨s, 2, none⟩ = some (.int .i64 t.cls) ∧ w'.cell? ⟨s, 3, none⟩ = some (.slice a t.l.length cap))
    (first
      | exact h6.1.var4 (List.mem_cons_self ..)
      | exact h5.1.var4 (List.mem_cons_self ..)
      | exact h4.1.var4 (List.mem_cons_self ..)
      | exact h3.1.var4 (List.mem_cons_self ..)
      | exact h2.1.var4 (List.mem_cons_self ..)
      | exact h1.1.var4 (List.mem_cons_self ..)
      | exact h0.1.var4 (List.mem_cons_self ..))
    (first
      | (go_at_call 48; (with_reducible refine (H5.out _ _ h0).mono ?_); rintro e w' ⟨rfl, h1⟩)
      | (go_at_call 62; (with_reducible refine (H6.out _ _ h1).mono ?_); rintro e w' ⟨rfl, h2⟩)
      | (go_at_call 33; (with_reducible refine (H1.out _ _ h2).mono ?_); rintro e w' ⟨rfl, h3⟩)
      | (go_at_call 47; (with_reducible refine (H2.out _ _ h3).mono ?_); rintro e w' ⟨rfl, h4⟩)
      | (go_at_call 32; (with_reducible refine (H3.out _ _ h4).mono ?_); rintro e w' ⟨rfl, h5⟩)
      | (go_at_call 31; (with_reducible refine (H4.out _ _ h5).mono ?_); rintro e w' ⟨rfl, h6⟩))
  all_goals
    go_wp2
    go_ret
    exact ⟨by simp, h6.1.less fun p hp => List.mem_cons_of_mem _ hp, h6.2⟩
end
end Go.Proofs.Ytdelikjodacedaa
