/- HeapDoes: each deed's contract, of both heaps in one memory. -/
import Derived.Test.YtdelikjodacedaaDoesA
namespace Go.Proofs.Ytdelikjodacedaa
open Go.RowKit
section
variable {B : Nat} {w0 : World} {hb xb : Nat} {most u1 u2 : Int} {t1 t2 : List Thg} {kv : Value} {ks : List Int} {keep : List (Nat × Obj)} {w : World}
theorem DRel.object (h : DRel B w0 hb xb most u1 t1 u2 t2 kv ks keep w) (cls : Int) (hl : ks.length ≤ 1000000) : Calls Try.prog 38 #[.pointer (some ⟨hb, 0, none⟩), .int .i64 cls, kv] w fun e w' =>
    e = .returned (.tuple #[.int .i64 (if objB most u1 ks = true then (t1.length : Int) + 1 else 0), .bool (objB most u1 ks)]) ∧ DRel B w0 hb xb most (if objB most u1 ks = true then u1 + ks.length + 1 else u1) (if objB most u1 ks = true then t1 ++ [objT cls ks] else t1) u2 t2 kv ks keep w' := by
  obtain ⟨fp, sv, tp, hR, hrow, K⟩ := h.h
  refine (Object_any hR cls ks kv B hrow hl).mono ?_
  rintro e w' ⟨rfl, hm⟩
  exact ⟨rfl, K _ _ _ hm⟩
theorem DRel.xobject (h : DRel B w0 hb xb most u1 t1 u2 t2 kv ks keep w) (cls : Int) (hl : ks.length ≤ 1000000) : Calls Try.prog 39 #[.pointer (some ⟨xb, 0, none⟩), .int .i64 cls, kv] w fun e w' =>
    e = .returned (.tuple #[.int .i64 (if objB most u2 ks = true then (t2.length : Int) + 1 else 0), .bool (objB most u2 ks)]) ∧ DRel B w0 hb xb most u1 t1 (if objB most u2 ks = true then u2 + ks.length + 1 else u2) (if objB most u2 ks = true then t2 ++ [objT cls ks] else t2) kv ks keep w' := by
  obtain ⟨fp, sv, tp, hR, hrow, K⟩ := h.x
  refine (XObject_any hR cls ks kv B hrow hl).mono ?_
  rintro e w' ⟨rfl, hm⟩
  exact ⟨rfl, K _ _ _ hm⟩
theorem DRel.array (h : DRel B w0 hb xb most u1 t1 u2 t2 kv ks keep w) (kind cls n : Int) : Calls Try.prog 29 #[.pointer (some ⟨hb, 0, none⟩), .int .i64 kind, .int .i64 cls, .int .i64 n] w fun e w' =>
    e = .returned (.tuple #[.int .i64 (if arrB most u1 kind n = true then (t1.length : Int) + 1 else 0), .bool (arrB most u1 kind n)]) ∧ DRel B w0 hb xb most (if arrB most u1 kind n = true then u1 + n + 1 else u1) (if arrB most u1 kind n = true then t1 ++ [arrT kind cls n] else t1) u2 t2 kv ks keep w' := by
  obtain ⟨fp, sv, tp, hR, _, K⟩ := h.h
  refine (Array_any hR kind cls n).mono ?_
  rintro e w' ⟨rfl, hm⟩
  exact ⟨rfl, K _ _ _ hm⟩
theorem DRel.xarray (h : DRel B w0 hb xb most u1 t1 u2 t2 kv ks keep w) (kind cls n : Int) : Calls Try.prog 40 #[.pointer (some ⟨xb, 0, none⟩), .int .i64 kind, .int .i64 cls, .int .i64 n] w fun e w' =>
    e = .returned (.tuple #[.int .i64 (if arrB most u2 kind n = true then (t2.length : Int) + 1 else 0), .bool (arrB most u2 kind n)]) ∧ DRel B w0 hb xb most u1 t1 (if arrB most u2 kind n = true then u2 + n + 1 else u2) (if arrB most u2 kind n = true then t2 ++ [arrT kind cls n] else t2) kv ks keep w' := by
  obtain ⟨fp, sv, tp, hR, _, K⟩ := h.x
  refine (XArray_any hR kind cls n).mono ?_
  rintro e w' ⟨rfl, hm⟩
  exact ⟨rfl, K _ _ _ hm⟩
theorem DRel.put (h : DRel B w0 hb xb most u1 t1 u2 t2 kv ks keep w) (ref i k n : Int) : Calls Try.prog 30 #[.pointer (some ⟨hb, 0, none⟩), .int .i64 ref, .int .i64 i, .agg #[.int .i64 k, .int .i64 n]] w fun e w' =>
    e = .returned (.bool (putB t1 ref i k n)) ∧ DRel B w0 hb xb most u1 (putT t1 ref i k n) u2 t2 kv ks keep w' := by
  obtain ⟨fp, sv, tp, hR, _, K⟩ := h.h
  refine (Put_any hR ref i k n).mono ?_
  rintro e w' ⟨rfl, hR', ho⟩
  exact ⟨rfl, K _ _ _ ⟨fp, sv, tp, hR', fun _ hk => .inl hk, ho⟩⟩
theorem DRel.xput (h : DRel B w0 hb xb most u1 t1 u2 t2 kv ks keep w) (hK : Kinds t2) (ref i k n : Int) : Calls Try.prog 41 #[.pointer (some ⟨xb, 0, none⟩), .int .i64 ref, .int .i64 i, .agg #[.int .i64 k, .int .i64 n]] w fun e w' =>
    e = .returned (.bool (putB t2 ref i k n)) ∧ DRel B w0 hb xb most u1 t1 u2 (putT t2 ref i k n) kv ks keep w' := by
  obtain ⟨fp, sv, tp, hR, _, K⟩ := h.x
  refine (XPut_any hR hK ref i k n).mono ?_
  rintro e w' ⟨rfl, ⟨sv', tp', hR'⟩, ho⟩
  exact ⟨rfl, K _ _ _ ⟨fp, sv', tp', hR', fun _ hk => .inl hk, ho⟩⟩
theorem DRel.get (h : DRel B w0 hb xb most u1 t1 u2 t2 kv ks keep w) (ref i : Int) : Calls Try.prog 34 #[.pointer (some ⟨hb, 0, none⟩), .int .i64 ref, .int .i64 i] w fun e w' =>
    e = .returned (.tuple #[.agg #[.int .i64 (getV (look t1 ref) i).1, .int .i64 (getV (look t1 ref) i).2], .bool (getB (look t1 ref) i)]) ∧ DRel B w0 hb xb most u1 t1 u2 t2 kv ks keep w' ∧ Out [] w w' := by
  obtain ⟨fp, sv, tp, hR, _, _⟩ := h.h
  exact (Get_any hR.a ref i).mono fun e w' ⟨he, ho⟩ => ⟨he, h.out ho, ho⟩
theorem DRel.xget (h : DRel B w0 hb xb most u1 t1 u2 t2 kv ks keep w) (ref i : Int) : Calls Try.prog 42 #[.pointer (some ⟨xb, 0, none⟩), .int .i64 ref, .int .i64 i] w fun e w' =>
    e = .returned (.tuple #[.agg #[.int .i64 (getV (look t2 ref) i).1, .int .i64 (getV (look t2 ref) i).2], .bool (getB (look t2 ref) i)]) ∧ DRel B w0 hb xb most u1 t1 u2 t2 kv ks keep w' ∧ Out [] w w' := by
  obtain ⟨fp, sv, tp, hR, _, _⟩ := h.x
  exact (XGet_any hR ref i).mono fun e w' ⟨he, ho⟩ => ⟨he, h.out ho, ho⟩
theorem DRel.known (h : DRel B w0 hb xb most u1 t1 u2 t2 kv ks keep w) (ref : Int) : Calls Try.prog 48 #[.pointer (some ⟨hb, 0, none⟩), .int .i64 ref] w fun e w' => e = .returned (.bool (knows t1.length ref)) ∧ DRel B w0 hb xb most u1 t1 u2 t2 kv ks keep w' ∧ Out [] w w' := by
  obtain ⟨fp, sv, tp, hR, _, _⟩ := h.h
  exact (Known_any hR ref).mono fun e w' ⟨he, hw⟩ => ⟨he, by subst hw; exact ⟨h, Out.refl _ _⟩⟩
theorem DRel.xknown (h : DRel B w0 hb xb most u1 t1 u2 t2 kv ks keep w) (ref : Int) : Calls Try.prog 62 #[.pointer (some ⟨xb, 0, none⟩), .int .i64 ref] w fun e w' => e = .returned (.bool (knows t2.length ref)) ∧ DRel B w0 hb xb most u1 t1 u2 t2 kv ks keep w' ∧ Out [] w w' := by
  obtain ⟨fp, sv, tp, hR, _, _⟩ := h.x
  exact (XKnown_any hR ref).mono fun e w' ⟨he, hw⟩ => ⟨he, by subst hw; exact ⟨h, Out.refl _ _⟩⟩
theorem DRel.isArray (h : DRel B w0 hb xb most u1 t1 u2 t2 kv ks keep w) (ref : Int) : Calls Try.prog 33 #[.pointer (some ⟨hb, 0, none⟩), .int .i64 ref] w fun e w' => e = .returned (.bool (look t1 ref).arr) ∧ DRel B w0 hb xb most u1 t1 u2 t2 kv ks keep w' ∧ Out [] w w' := by
  obtain ⟨fp, sv, tp, hR, _, _⟩ := h.h
  exact (IsArray_any hR.a ref).mono fun e w' ⟨he, ho⟩ => ⟨he, h.out ho, ho⟩
theorem DRel.kind (h : DRel B w0 hb xb most u1 t1 u2 t2 kv ks keep w) (ref : Int) : Calls Try.prog 47 #[.pointer (some ⟨hb, 0, none⟩), .int .i64 ref] w fun e w' => e = .returned (.int .i64 (look t1 ref).kind) ∧ DRel B w0 hb xb most u1 t1 u2 t2 kv ks keep w' ∧ Out [] w w' := by
  obtain ⟨fp, sv, tp, hR, _, _⟩ := h.h
  exact (Kind_any hR.a ref).mono fun e w' ⟨he, ho⟩ => ⟨he, h.out ho, ho⟩
theorem DRel.class (h : DRel B w0 hb xb most u1 t1 u2 t2 kv ks keep w) (ref : Int) : Calls Try.prog 32 #[.pointer (some ⟨hb, 0, none⟩), .int .i64 ref] w fun e w' => e = .returned (.int .i64 (look t1 ref).cls) ∧ DRel B w0 hb xb most u1 t1 u2 t2 kv ks keep w' ∧ Out [] w w' := by
  obtain ⟨fp, sv, tp, hR, _, _⟩ := h.h
  exact (Class_any hR.a ref).mono fun e w' ⟨he, ho⟩ => ⟨he, h.out ho, ho⟩
theorem DRel.len (h : DRel B w0 hb xb most u1 t1 u2 t2 kv ks keep w) (ref : Int) : Calls Try.prog 31 #[.pointer (some ⟨hb, 0, none⟩), .int .i64 ref] w fun e w' => e = .returned (.int .i64 (look t1 ref).l.length) ∧ DRel B w0 hb xb most u1 t1 u2 t2 kv ks keep w' ∧ Out [] w w' := by
  obtain ⟨fp, sv, tp, hR, _, _⟩ := h.h
  exact (Len_any hR.a ref).mono fun e w' ⟨he, ho⟩ => ⟨he, h.out ho, ho⟩
theorem DRel.cells (h : DRel B w0 hb xb most u1 t1 u2 t2 kv ks keep w) : Calls Try.prog 35 #[.pointer (some ⟨hb, 0, none⟩)] w fun e w' => e = .returned (.int .i64 u1) ∧ DRel B w0 hb xb most u1 t1 u2 t2 kv ks keep w' ∧ Out [] w w' := by
  obtain ⟨fp, sv, tp, hR, _, _⟩ := h.h
  exact (Cells_any hR).mono fun e w' ⟨he, hw⟩ => ⟨he, by subst hw; exact ⟨h, Out.refl _ _⟩⟩
theorem DRel.xused (h : DRel B w0 hb xb most u1 t1 u2 t2 kv ks keep w) : w.cell? ⟨xb, 1, none⟩ = some (.int .i64 u2) := by
  obtain ⟨fp, sv, tp, hR, _, _⟩ := h.x
  exact hR.c1
theorem DRel.xthings (h : DRel B w0 hb xb most u1 t1 u2 t2 kv ks keep w) : ∃ a cap, w.cell? ⟨xb, 2, none⟩ = some (.slice a t2.length cap) := by
  obtain ⟨fp, sv, tp, hR, _, _⟩ := h.x
  obtain ⟨a, cap, rfl, _⟩ := owns_shape hR.row
  exact ⟨a, cap, hR.c2⟩
theorem DRel.small (h : DRel B w0 hb xb most u1 t1 u2 t2 kv ks keep w) : t2.length ≤ 1000000 := by
  obtain ⟨fp, sv, tp, hR, _, _⟩ := h.x
  exact hR.small

/-- 'Of': the thing; its row is in memory that no deed writes meanwhile. -/
theorem DRel.of (h : DRel B w0 hb xb most u1 t1 u2 t2 kv ks keep w) (ref : Int) : Calls Try.prog 44 #[.pointer (some ⟨xb, 0, none⟩), .int .i64 ref] w fun e w' =>
    ∃ a cap, e = .returned (aggT (look t2 ref) (.slice a (look t2 ref).l.length cap)) ∧ DRel B w0 hb xb most u1 t1 u2 t2 kv ks keep w' ∧ Out [] w w' ∧ w'.ownsRow 0 45 2 (.slice a (look t2 ref).l.length cap) (look t2 ref).l.length (flatV (look t2 ref).l) := by
  obtain ⟨fp, sv, tp, hR, _, _⟩ := h.x
  refine (XOf_any hR ref).mono ?_
  rintro e w' ⟨lv, rfl, hrow, ho⟩
  obtain ⟨a, cap, rfl, _⟩ := owns_shape hrow
  exact ⟨a, cap, rfl, h.out ho, ho, hrow⟩

theorem DRel.var2 {s : Nat} {c0 c1 : Value} {e : TypeId} (h : DRel B w0 hb xb most u1 t1 u2 t2 kv ks keep w) (hm : (s, Obj.cells #[c0, c1] e (0, 0)) ∈ keep) :
    w.cell? ⟨s, 0, none⟩ = some c0 ∧ w.cell? ⟨s, 1, none⟩ = some c1 := ⟨cell_in (h.kept hm) 0 rfl, cell_in (h.kept hm) 1 rfl⟩
/-- What is kept in a deed's variable. -/
theorem DRel.var7 {s : Nat} {c0 c1 c2 c3 c4 c5 c6 : Value} {e : TypeId} (h : DRel B w0 hb xb most u1 t1 u2 t2 kv ks keep w) (hm : (s, Obj.cells #[c0, c1, c2, c3, c4, c5, c6] e (0, 0)) ∈ keep) :
    w.cell? ⟨s, 1, none⟩ = some c1 ∧ w.cell? ⟨s, 2, none⟩ = some c2 ∧ w.cell? ⟨s, 3, none⟩ = some c3 ∧ w.cell? ⟨s, 4, none⟩ = some c4 ∧ w.cell? ⟨s, 5, none⟩ = some c5 ∧ w.cell? ⟨s, 6, none⟩ = some c6 :=
  ⟨cell_in (h.kept hm) 1 rfl, cell_in (h.kept hm) 2 rfl, cell_in (h.kept hm) 3 rfl, cell_in (h.kept hm) 4 rfl, cell_in (h.kept hm) 5 rfl, cell_in (h.kept hm) 6 rfl⟩
/-- What is kept in a variable of four cells. -/
theorem DRel.var4 {s : Nat} {c0 c1 c2 c3 : Value} {e : TypeId} (h : DRel B w0 hb xb most u1 t1 u2 t2 kv ks keep w) (hm : (s, Obj.cells #[c0, c1, c2, c3] e (0, 0)) ∈ keep) :
    w.cell? ⟨s, 0, none⟩ = some c0 ∧ w.cell? ⟨s, 1, none⟩ = some c1 ∧ w.cell? ⟨s, 2, none⟩ = some c2 ∧ w.cell? ⟨s, 3, none⟩ = some c3 :=
  ⟨cell_in (h.kept hm) 0 rfl, cell_in (h.kept hm) 1 rfl, cell_in (h.kept hm) 2 rfl, cell_in (h.kept hm) 3 rfl⟩
end
end Go.Proofs.Ytdelikjodacedaa
