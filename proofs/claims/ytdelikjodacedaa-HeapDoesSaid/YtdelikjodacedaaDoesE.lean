/- HeapDoes: a deed done to both heaps, where they are equal: both answer alike, and are equal behind it. -/
import Derived.Test.YtdelikjodacedaaDoesC
import Derived.Test.YtdelikjodacedaaDoesD
namespace Go.Proofs.Ytdelikjodacedaa
open Go.RowKit
section
variable {B : Nat} {w0 : World} {hb xb : Nat} {M u : Int} {ts : List Thg} {kv : Value} {ks : List Int} {keep : List (Nat × Obj)} {w : World}
theorem DRel.objects (h : DRel B w0 hb xb M u ts u ts kv ks keep w) (hK : Kinds ts) (cls : Int) (hl : ks.length ≤ 1000000) : ∃ (r : Int) (bb : Bool) (u' : Int) (ts' : List Thg), Kinds ts' ∧
    (Calls Try.prog 38 #[.pointer (some ⟨hb, 0, none⟩), .int .i64 cls, kv] w fun e w' => e = .returned (.tuple #[.int .i64 r, .bool bb]) ∧ DRel B w0 hb xb M u' ts' u ts kv ks keep w') ∧
    ∀ w2, DRel B w0 hb xb M u' ts' u ts kv ks keep w2 → Calls Try.prog 39 #[.pointer (some ⟨xb, 0, none⟩), .int .i64 cls, kv] w2 fun e w' => e = .returned (.tuple #[.int .i64 r, .bool bb]) ∧ DRel B w0 hb xb M u' ts' u' ts' kv ks keep w' := by
  refine ⟨_, _, _, _, ?_, h.object cls hl, fun w2 h2 => h2.xobject cls hl⟩
  split
  · rename_i hb2
    unfold objB at hb2
    rw [Bool.and_eq_true] at hb2
    exact hK.obj cls hb2.1
  · exact hK
theorem DRel.arrays (h : DRel B w0 hb xb M u ts u ts kv ks keep w) (hK : Kinds ts) (kind cls n : Int) : ∃ (r : Int) (bb : Bool) (u' : Int) (ts' : List Thg), Kinds ts' ∧
    (Calls Try.prog 29 #[.pointer (some ⟨hb, 0, none⟩), .int .i64 kind, .int .i64 cls, .int .i64 n] w fun e w' => e = .returned (.tuple #[.int .i64 r, .bool bb]) ∧ DRel B w0 hb xb M u' ts' u ts kv ks keep w') ∧
    ∀ w2, DRel B w0 hb xb M u' ts' u ts kv ks keep w2 → Calls Try.prog 40 #[.pointer (some ⟨xb, 0, none⟩), .int .i64 kind, .int .i64 cls, .int .i64 n] w2 fun e w' => e = .returned (.tuple #[.int .i64 r, .bool bb]) ∧ DRel B w0 hb xb M u' ts' u' ts' kv ks keep w' := by
  refine ⟨_, _, _, _, ?_, h.array kind cls n, fun w2 h2 => h2.xarray kind cls n⟩
  split
  · rename_i hb2
    unfold arrB at hb2
    rw [Bool.and_eq_true] at hb2
    exact hK.arr cls n hb2.1
  · exact hK
theorem DRel.puts (h : DRel B w0 hb xb M u ts u ts kv ks keep w) (hK : Kinds ts) (ref i k n : Int) : ∃ (bb : Bool) (ts' : List Thg), Kinds ts' ∧
    (Calls Try.prog 30 #[.pointer (some ⟨hb, 0, none⟩), .int .i64 ref, .int .i64 i, .agg #[.int .i64 k, .int .i64 n]] w fun e w' => e = .returned (.bool bb) ∧ DRel B w0 hb xb M u ts' u ts kv ks keep w') ∧
    ∀ w2, DRel B w0 hb xb M u ts' u ts kv ks keep w2 → Calls Try.prog 41 #[.pointer (some ⟨xb, 0, none⟩), .int .i64 ref, .int .i64 i, .agg #[.int .i64 k, .int .i64 n]] w2 fun e w' => e = .returned (.bool bb) ∧ DRel B w0 hb xb M u ts' u ts' kv ks keep w' :=
  ⟨_, _, hK.set ref i k n, h.put ref i k n, fun _ h2 => h2.xput hK ref i k n⟩
theorem DRel.gets (h : DRel B w0 hb xb M u ts u ts kv ks keep w) (ref i : Int) : ∃ (x y : Int) (bb : Bool),
    (Calls Try.prog 34 #[.pointer (some ⟨hb, 0, none⟩), .int .i64 ref, .int .i64 i] w fun e w' => e = .returned (.tuple #[.agg #[.int .i64 x, .int .i64 y], .bool bb]) ∧ DRel B w0 hb xb M u ts u ts kv ks keep w') ∧
    ∀ w2 keep2, DRel B w0 hb xb M u ts u ts kv ks keep2 w2 → Calls Try.prog 42 #[.pointer (some ⟨xb, 0, none⟩), .int .i64 ref, .int .i64 i] w2 fun e w' => e = .returned (.tuple #[.agg #[.int .i64 x, .int .i64 y], .bool bb]) ∧ DRel B w0 hb xb M u ts u ts kv ks keep2 w' :=
  ⟨_, _, _, (h.get ref i).mono fun _ _ ⟨k1, k2, _⟩ => ⟨k1, k2⟩, fun _ _ h2 => (h2.xget ref i).mono fun _ _ ⟨k1, k2, _⟩ => ⟨k1, k2⟩⟩
/-- A value that is there. -/
theorem DRel.getAt (h : DRel B w0 hb xb M u ts u ts kv ks keep w) (ref : Int) {j : Nat} {p : Int × Int} (hp : (look ts ref).l[j]? = some p) :
    Calls Try.prog 34 #[.pointer (some ⟨hb, 0, none⟩), .int .i64 ref, .int .i64 j] w fun e w' => e = .returned (.tuple #[.agg #[.int .i64 p.1, .int .i64 p.2], .bool true]) ∧ DRel B w0 hb xb M u ts u ts kv ks keep w' ∧ Out [] w w' := by
  have K := h.get ref j
  rw [getV_some hp, show getB (look ts ref) j = true from decide_eq_true ⟨by omega, by have := lt_of_get hp; omega⟩] at K
  exact K
/-- What the last comparison of a deed reads. -/
theorem DRel.six {s19 s21 s8 : Nat} {x1 y1 x2 y2 k a b c k4 p q : Value} {l : List (Nat × Obj)}
    (h : DRel B w0 hb xb M u ts u ts kv ks ((s21, .cells #[x2, y2] 45 (0, 0)) :: (s19, .cells #[x1, y1] 45 (0, 0)) :: (s8, .cells #[k, a, b, c, k4, p, q] 56 (0, 0)) :: l) w) :
    w.cell? ⟨s19, 0, none⟩ = some x1 ∧ w.cell? ⟨s19, 1, none⟩ = some y1 ∧ w.cell? ⟨s21, 0, none⟩ = some x2 ∧ w.cell? ⟨s21, 1, none⟩ = some y2 ∧ w.cell? ⟨s8, 1, none⟩ = some a ∧ w.cell? ⟨xb, 1, none⟩ = some (.int .i64 u) :=
  ⟨(h.var2 (List.mem_cons_of_mem _ (List.mem_cons_self ..))).1, (h.var2 (List.mem_cons_of_mem _ (List.mem_cons_self ..))).2, (h.var2 (List.mem_cons_self ..)).1, (h.var2 (List.mem_cons_self ..)).2, (h.var7 (List.mem_cons_of_mem _ (List.mem_cons_of_mem _ (List.mem_cons_self ..)))).1, h.xused⟩

/-- Equal heaps, all kinds kinds. -/
def Eqs (B : Nat) (w0 : World) (hb xb : Nat) (M : Int) (keep : List (Nat × Obj)) (w : World) : Prop :=
  ∃ (u : Int) (ts : List Thg), Kinds ts ∧ DRel B w0 hb xb M u ts u ts (.slice none 0 0) [] keep w
theorem Eqs.start (w : World) (M : Int) (h0 : 0 ≤ M) (h1 : M ≤ 1000000) : Eqs w.heap.size w w.heap.size (w.heap.size + 1) M []
    ((w.alloc (.cells #[.int .i64 M, .int .i64 0, .slice none 0 0] 71)).alloc (.cells #[.int .i64 M, .int .i64 0, .slice none 0 0] 62)) := by
  have e : (w.alloc (.cells #[.int .i64 M, .int .i64 0, .slice none 0 0] 71)).heap.size = w.heap.size + 1 := by simp
  have h2 := HRep_new w w.heap.size M (Nat.le_refl _) h0 h1
  have h3 := XRep_new (w.alloc (.cells #[.int .i64 M, .int .i64 0, .slice none 0 0] 71)) w.heap.size M (by omega) h0 h1
  rw [e] at h3
  exact ⟨0, [], fun t ht => by simp at ht, DRel.start (((Below.refl _ _).alloc (Nat.le_refl _) _).alloc (by omega) _) (Nat.le_refl _) h2 ((Out.refl _ _).alloc _) h3 (by omega)⟩
end
end Go.Proofs.Ytdelikjodacedaa
