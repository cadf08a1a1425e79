/- Arguments that are arrays of two or three ints: what they are, and that they read behind the call as before it. -/
import Derived.Test.YtdelikjodacedaaRows
import Derived.WalkKit
import Derived.ProofKit
import Derived.OpenShut
namespace Go.Proofs.Ytdelikjodacedaa
open Go.ChangeShapes Go.WideShapes Go.ChangeAt Go.RowKit
theorem Try.laidOut : laidOutB Try.prog = true := by kernel_rfl
theorem Try.cells28 : Try.prog.cellsOf 28 = 2 := by kernel_rfl
theorem Try.cells34 : Try.prog.cellsOf 34 = 3 := by kernel_rfl
theorem Try.cells3 : Try.prog.cellsOf 3 = 1 := by kernel_rfl
section
variable {H : Type} {enc : TypeId × Value → H} {w : World} {base b0 : Nat} {spare : Nat → Bool} {held : Bool} {r : Reach}
theorem okWide_array {P : Program} {n : Nat} {e t : TypeId} {v : Value} (ht : P.underlying t = some (.array n e)) (h : Value.okWide P w r base t v) : ∃ cs, v = .agg cs ∧ cs.size = P.cellsOf t := by
  simp only [Value.okWide, ht] at h
  obtain ⟨cs, h1, h2, _⟩ := h
  exact ⟨cs, h1, h2⟩
theorem open_arr2 {v : Value} {d : DataW H} {p : List MemPlace} (hv : Value.okWide Try.prog w r b0 28 v) (h : DataW.Trod enc Try.prog w base spare held 28 v d p) :
    ∃ x y : Int, v = .agg #[.int .i64 x, .int .i64 y] ∧ (Lit.int .i64 x).wf = true ∧ (Lit.int .i64 y).wf = true := by
  obtain ⟨cs, rfl, hs⟩ := okWide_array Try.underlying28 hv
  rw [Try.cells28] at hs
  obtain ⟨fuel, hf⟩ := h
  obtain ⟨xs, m, _, _, _, hl, hx⟩ := DataW.trod_array Try.underlying28 hf
  obtain ⟨c0, c1, rfl⟩ : ∃ c0 c1, cs = #[c0, c1] := by
    obtain ⟨l⟩ := cs
    match l, hs with
    | [c0, c1], _ => exact ⟨c0, c1, rfl⟩
  have e0 := hx 0 (by omega)
  have e1 := hx 1 (by omega)
  rw [Try.cells3] at e0 e1
  obtain ⟨y0, h0⟩ : ∃ y0, xs[0]? = some y0 := ⟨xs[0]'(by omega), by simp⟩
  obtain ⟨y1, h1⟩ : ∃ y1, xs[1]? = some y1 := ⟨xs[1]'(by omega), by simp⟩
  rw [h0] at e0
  rw [h1] at e1
  obtain ⟨a, ha, _, wa⟩ := DataW.trod_int Try.underlying3 e0
  obtain ⟨b, hb, _, wb⟩ := DataW.trod_int Try.underlying3 e1
  simp [Value.cells] at ha hb
  subst ha hb
  exact ⟨a, b, rfl, wa, wb⟩
theorem open_arr3 {v : Value} {d : DataW H} {p : List MemPlace} (hv : Value.okWide Try.prog w r b0 34 v) (h : DataW.Trod enc Try.prog w base spare held 34 v d p) :
    ∃ x y z : Int, v = .agg #[.int .i64 x, .int .i64 y, .int .i64 z] ∧ (Lit.int .i64 x).wf = true ∧ (Lit.int .i64 y).wf = true ∧ (Lit.int .i64 z).wf = true := by
  obtain ⟨cs, rfl, hs⟩ := okWide_array Try.underlying34 hv
  rw [Try.cells34] at hs
  obtain ⟨fuel, hf⟩ := h
  obtain ⟨xs, m, _, _, _, hl, hx⟩ := DataW.trod_array Try.underlying34 hf
  obtain ⟨c0, c1, c2, rfl⟩ : ∃ c0 c1 c2, cs = #[c0, c1, c2] := by
    obtain ⟨l⟩ := cs
    match l, hs with
    | [c0, c1, c2], _ => exact ⟨c0, c1, c2, rfl⟩
  have e0 := hx 0 (by omega)
  have e1 := hx 1 (by omega)
  have e2 := hx 2 (by omega)
  rw [Try.cells3] at e0 e1 e2
  obtain ⟨y0, h0⟩ : ∃ y0, xs[0]? = some y0 := ⟨xs[0]'(by omega), by simp⟩
  obtain ⟨y1, h1⟩ : ∃ y1, xs[1]? = some y1 := ⟨xs[1]'(by omega), by simp⟩
  obtain ⟨y2, h2⟩ : ∃ y2, xs[2]? = some y2 := ⟨xs[2]'(by omega), by simp⟩
  rw [h0] at e0
  rw [h1] at e1
  rw [h2] at e2
  obtain ⟨a, ha, _, wa⟩ := DataW.trod_int Try.underlying3 e0
  obtain ⟨b, hb, _, wb⟩ := DataW.trod_int Try.underlying3 e1
  obtain ⟨c, hc, _, wc⟩ := DataW.trod_int Try.underlying3 e2
  simp [Value.cells] at ha hb hc
  subst ha hb hc
  exact ⟨a, b, c, rfl, wa, wb, wc⟩
end
end Go.Proofs.Ytdelikjodacedaa
