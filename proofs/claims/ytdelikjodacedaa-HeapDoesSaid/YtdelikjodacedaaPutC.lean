/- Package heap's Put, of all references, places and values, by contract. -/
import Derived.Test.YtdelikjodacedaaPutB
namespace Go.Proofs.Ytdelikjodacedaa
open Go.RowKit

/-- May the value be put there? -/
def putB (ts : List Thg) (ref i k n : Int) : Bool :=
  getB (look ts ref) i && ((getV (look ts ref) i).1 == k && (if k = 3 then n == 0 || knows ts.length n else wrapOf k n == n))
/-- The things behind a Put. -/
def putT (ts : List Thg) (ref i k n : Int) : List Thg := if putB ts ref i k n = true then ts.set (ref - 1).toNat (setT (look ts ref) i.toNat k n) else ts

theorem look_there {ts : List Thg} {ref i : Int} (h : getB (look ts ref) i = true) : ∃ (r : Nat) (t : Thg) (j : Nat), ref = r + 1 ∧ ts[r]? = some t ∧ look ts ref = t ∧ i = j ∧ j < t.l.length := by
  have h' : 0 ≤ i ∧ i < (look ts ref).l.length := of_decide_eq_true h
  by_cases hr : ref < 1 ∨ ts.length < ref
  · rw [look_none hr] at h'
    simp [noThg] at h'
    omega
  · obtain ⟨r, rfl⟩ : ∃ r : Nat, ref = r + 1 := ⟨(ref - 1).toNat, by omega⟩
    have ht : ts[r]? = some (ts[r]'(by omega)) := by simp
    rw [look_some ht] at h' ⊢
    exact ⟨r, _, i.toNat, rfl, ht, rfl, by omega, by omega⟩

section
variable {w : World} {base : Nat} {fp : List Nat} {hb : Nat} {most used : Int} {sv : Value} {tp : List (Nat × Value)} {ts : List Thg}
theorem Put_any (h : HRep w base fp hb most used sv tp ts) (ref i k n : Int) :
    Calls Try.prog 30 #[.pointer (some ⟨hb, 0, none⟩), .int .i64 ref, .int .i64 i, .agg #[.int .i64 k, .int .i64 n]] w fun e w' => e = .returned (.bool (putB ts ref i k n)) ∧ HRep w' base fp hb most used sv tp (putT ts ref i k n) ∧ Out fp w w' := by
  have no : putB ts ref i k n = false → (Calls Try.prog 30 #[.pointer (some ⟨hb, 0, none⟩), .int .i64 ref, .int .i64 i, .agg #[.int .i64 k, .int .i64 n]] w fun e w' => e = .returned (.bool false) ∧ Out [] w w') →
      Calls Try.prog 30 #[.pointer (some ⟨hb, 0, none⟩), .int .i64 ref, .int .i64 i, .agg #[.int .i64 k, .int .i64 n]] w fun e w' => e = .returned (.bool (putB ts ref i k n)) ∧ HRep w' base fp hb most used sv tp (putT ts ref i k n) ∧ Out fp w w' := fun h1 K => by
    unfold putT
    rw [h1]
    exact K.mono fun e w' ⟨he, ho⟩ => ⟨he, h.out ho (by simp), ho.mono (by simp)⟩
  cases hg : getB (look ts ref) i with
  | false => exact no (by unfold putB; rw [hg]; rfl) (Put_no1 h.a ref i k n hg)
  | true =>
    cases hk : ((getV (look ts ref) i).1 == k) with
    | false => exact no (by unfold putB; rw [hg, hk]; rfl) (Put_no2 h.a ref i k n hg hk)
    | true =>
      have hk' := eq_of_beq hk
      obtain ⟨r, t, j, rfl, ht, hl, rfl, hj⟩ := look_there hg
      have hv : t.l[j]? = some (k, (getV t j).2) := by
        rw [hl, getV_some (p := t.l[j]) (by simp [hj])] at hk'
        rw [getV_some (p := t.l[j]) (by simp [hj])]
        rw [List.getElem?_eq_getElem hj, ← hk']
      have yes : ∀ (u : Bool), putB ts (r + 1) j k n = u → u = true → (Calls Try.prog 30 #[.pointer (some ⟨hb, 0, none⟩), .int .i64 (r + 1), .int .i64 j, .agg #[.int .i64 k, .int .i64 n]] w fun e w' => e = .returned (.bool true) ∧ HRep w' base fp hb most used sv tp (ts.set r (setT t j k n)) ∧ Out fp w w') →
          Calls Try.prog 30 #[.pointer (some ⟨hb, 0, none⟩), .int .i64 (r + 1), .int .i64 j, .agg #[.int .i64 k, .int .i64 n]] w fun e w' => e = .returned (.bool (putB ts (r + 1) j k n)) ∧ HRep w' base fp hb most used sv tp (putT ts (r + 1) j k n) ∧ Out fp w w' := fun u h1 h2 K => by
        subst h2
        unfold putT
        rw [h1, hl, show (((r : Int) + 1) - 1).toNat = r by omega, Int.toNat_natCast]
        exact K
      by_cases h3 : k = 3
      · subst h3
        have e : putB ts (r + 1) j 3 n = (n == 0 || knows ts.length n) := by unfold putB; rw [hg, hk]; simp
        by_cases h0 : n = 0
        · subst h0
          exact yes _ e (by simp) (Put_zero h ht j _ hv)
        · cases hkn : knows ts.length n with
          | false =>
            refine no (by rw [e, hkn]; simpa using h0) (Put_no3 h.a _ _ n hg hk' (by simpa using h0) hkn)
          | true => exact yes _ e (by rw [hkn]; simp) (Put_ref h ht j _ n hv (by simpa using h0) hkn)
      · have e : putB ts (r + 1) j k n = (wrapOf k n == n) := by unfold putB; rw [hg, hk, if_neg h3]; simp
        cases hw : (wrapOf k n == n) with
        | false => exact no (by rw [e, hw]) (Put_no4 h.a _ _ k n hg hk' (by simpa using h3) hw)
        | true => exact yes _ e hw (Put_num h ht j k _ n hv (by simpa using h3) (by simpa using hw))
end

/-- Put on a heap that is none. -/
theorem Put_nil (ref i k n : Int) (w : World) :
    Calls Try.prog 30 #[.pointer none, .int .i64 ref, .int .i64 i, .agg #[.int .i64 k, .int .i64 n]] w fun e w' => e = .returned (.bool false) ∧ Out [] w w' :=
  Put_no1 (ts := []) (.inl ⟨rfl, rfl⟩) ref i k n (by
    have : look [] ref = noThg := look_none (by simp; omega)
    rw [this]
    exact decide_eq_false (by simp [noThg]))
end Go.Proofs.Ytdelikjodacedaa
