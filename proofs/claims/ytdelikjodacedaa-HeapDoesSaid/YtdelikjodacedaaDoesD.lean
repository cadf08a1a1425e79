/- HeapDoes: the argument, a slice of deeds, opened; CopyInts, by contract. -/
import Derived.Test.YtdelikjodacedaaDoesB
namespace Go.Proofs.Ytdelikjodacedaa
open Go.ChangeShapes Go.WideShapes Go.ChangeAt Go.RowKit

theorem Try.infoD3 : (Try.prog.info? 3).map (fun i => (i.zero, i.size, i.bytes)) = some (some (.int .i64 0), 1, 8) := by kernel_rfl
theorem add_blockD (a : Addr) (n : Nat) : (a.add n).block = a.block := by unfold Addr.add; split <;> rfl
theorem bringD {x : Int} {n : Nat} (hn : 0 < n) : ∃ m : Nat, bringF x n = m ∧ m < n := by
  unfold bringF
  rw [if_pos (by omega)]
  have h1 := Int.emod_nonneg x (b := n) (by omega)
  have h2 := Int.emod_lt_of_pos x (b := n) (by omega)
  exact ⟨(x % n).toNat, by omega, by omega⟩
theorem Try.cells56 : Try.prog.cellsOf 56 = 7 := by kernel_rfl
theorem Try.cells45 : Try.prog.cellsOf 45 = 2 := by kernel_rfl
theorem Try.cells37 : Try.prog.cellsOf 37 = 1 := by kernel_rfl

/-- A slice of n ints, and what they are. -/
def KRow (w : World) (kv : Value) (n : Nat) (ks : List Int) : Prop :=
  ∃ (oa : Option Addr) (cap : Nat), kv = .slice oa n cap ∧ n ≤ cap ∧ cap ≤ maxLen ∧ ks.length = n ∧ (oa = none → n = 0 ∧ cap = 0) ∧ ∀ a, oa = some a → ∀ j u, (ks.map (Value.int .i64))[j]? = some u → w.cell? (a.add j) = some u ∧ a.block < w.heap.size
/-- A deed's cells. -/
def DeedAt (w : World) (b o : Nat) (k a b' c : Int) (kv : Value) (x y : Int) : Prop :=
  w.cell? ⟨b, o, none⟩ = some (.int .i64 k) ∧ w.cell? ⟨b, o + 1, none⟩ = some (.int .i64 a) ∧ w.cell? ⟨b, o + 2, none⟩ = some (.int .i64 b') ∧ w.cell? ⟨b, o + 3, none⟩ = some (.int .i64 c) ∧ w.cell? ⟨b, o + 4, none⟩ = some kv ∧ w.cell? ⟨b, o + 5, none⟩ = some (.int .i64 x) ∧ w.cell? ⟨b, o + 6, none⟩ = some (.int .i64 y)
def Deeds (w : World) (v : Value) (n : Nat) : Prop :=
  ∃ oa cap, v = .slice oa n cap ∧ n ≤ cap ∧ cap ≤ maxLen ∧ ∀ i, i < n → ∃ (b o : Nat) (k a b' c : Int) (kv : Value) (kn : Nat) (ks : List Int) (x y : Int), oa = some ⟨b, o, none⟩ ∧ b < w.heap.size ∧ KRow w kv kn ks ∧ DeedAt w b (o + i * 7) k a b' c kv x y

section
variable {H : Type} {enc : TypeId × Value → H} {w : World} {base : Nat} {spare : Nat → Bool} {held : Bool} {fuel : Nat}
theorem open_krow {v : Value} {x : DataW H × List MemPlace} (h : DataW.trod enc Try.prog w base spare held fuel 37 [v] = some x) : ∃ n ks, KRow w v n ks := by
  rcases Deep.open_slice1 Try.underlying37 Try.cells3 h with ⟨h1, _⟩ | ⟨a, len, cap, m, n, V, D, Pl, h1, hb, hl, hm, hmm, _, hx⟩
  · simp at h1
    subst h1
    exact ⟨0, [], none, 0, rfl, Nat.le_refl _, Nat.zero_le _, rfl, fun _ => ⟨rfl, rfl⟩, fun a e => by cases e⟩
  · simp at h1
    subst h1
    have him : ∀ {j}, j < len → j < m := fun hj => by rw [hmm]; split <;> omega
    obtain ⟨f, hf⟩ := Deep.choose_lt (α := Int) (n := len) (p := fun i x => w.cell? (a.add i) = some (.int .i64 x)) (fun i hi => by
      obtain ⟨hc, ht⟩ := hx i (him hi)
      obtain ⟨x, hx2, _, _⟩ := DataW.trod_int Try.underlying3 ht
      simp at hx2
      exact ⟨x, by rw [hc, hx2]⟩)
    refine ⟨len, (List.range len).map f, some a, cap, rfl, hl, hm, by simp, fun e => by (cases e), fun a' e j u hu => ?_⟩
    cases e
    rw [List.map_map, List.getElem?_map] at hu
    obtain ⟨i, hi, rfl⟩ := Option.map_eq_some_iff.1 hu
    obtain ⟨hj, rfl⟩ := List.getElem?_eq_some_iff.1 hi
    simp at hj
    have hc := hf j hj
    refine ⟨by simpa using hc, ?_⟩
    have := World.block_lt_of_cell? w _ hc
    rwa [add_blockD] at this
theorem open_deed {cs : List Value} {x : DataW H × List MemPlace} (h : DataW.trod enc Try.prog w base spare held fuel 56 cs = some x) :
    ∃ (k a b c : Int) (kv : Value) (n : Nat) (ks : List Int) (p q : Int), cs = [.int .i64 k, .int .i64 a, .int .i64 b, .int .i64 c, kv, .int .i64 p, .int .i64 q] ∧ KRow w kv n ks := by
  obtain ⟨xs, m, _, _, hl, hn, hat⟩ := DataW.trod_struct Try.underlying56 h
  rw [Try.cells56] at hl
  obtain ⟨c0, c1, c2, c3, c4, c5, c6, rfl⟩ : ∃ c0 c1 c2 c3 c4 c5 c6, cs = [c0, c1, c2, c3, c4, c5, c6] := by
    match cs, hl with
    | [c0, c1, c2, c3, c4, c5, c6], _ => exact ⟨_, _, _, _, _, _, _, rfl⟩
  have hn' : xs.length = 6 := hn
  have e0 : DataW.trod enc Try.prog w base spare held m 3 (([c0, c1, c2, c3, c4, c5, c6].drop 0).take (Try.prog.cellsOf 3)) = xs[0]? := hat 0 _ rfl
  have e1 : DataW.trod enc Try.prog w base spare held m 3 (([c0, c1, c2, c3, c4, c5, c6].drop 1).take (Try.prog.cellsOf 3)) = xs[1]? := hat 1 _ rfl
  have e2 : DataW.trod enc Try.prog w base spare held m 3 (([c0, c1, c2, c3, c4, c5, c6].drop 2).take (Try.prog.cellsOf 3)) = xs[2]? := hat 2 _ rfl
  have e3 : DataW.trod enc Try.prog w base spare held m 3 (([c0, c1, c2, c3, c4, c5, c6].drop 3).take (Try.prog.cellsOf 3)) = xs[3]? := hat 3 _ rfl
  have e4 : DataW.trod enc Try.prog w base spare held m 37 (([c0, c1, c2, c3, c4, c5, c6].drop 4).take (Try.prog.cellsOf 37)) = xs[4]? := hat 4 _ rfl
  have e5 : DataW.trod enc Try.prog w base spare held m 45 (([c0, c1, c2, c3, c4, c5, c6].drop 5).take (Try.prog.cellsOf 45)) = xs[5]? := hat 5 _ rfl
  rw [List.getElem?_eq_getElem (by omega)] at e0 e1 e2 e3 e4 e5
  rw [Try.cells3] at e0 e1 e2 e3
  rw [Try.cells37] at e4
  rw [Try.cells45] at e5
  obtain ⟨k, hk, _, _⟩ := DataW.trod_int Try.underlying3 e0
  obtain ⟨a, ha, _, _⟩ := DataW.trod_int Try.underlying3 e1
  obtain ⟨b, hb, _, _⟩ := DataW.trod_int Try.underlying3 e2
  obtain ⟨c, hc, _, _⟩ := DataW.trod_int Try.underlying3 e3
  obtain ⟨n, ks, hkr⟩ := open_krow (v := c4) e4
  obtain ⟨ys, m', _, _, _, hn2, hat2⟩ := DataW.trod_struct Try.underlying45 e5
  have hn2' : ys.length = 2 := hn2
  have f0 : DataW.trod enc Try.prog w base spare held m' 3 (([c5, c6].drop 0).take (Try.prog.cellsOf 3)) = ys[0]? := hat2 0 _ rfl
  have f1 : DataW.trod enc Try.prog w base spare held m' 3 (([c5, c6].drop 1).take (Try.prog.cellsOf 3)) = ys[1]? := hat2 1 _ rfl
  rw [List.getElem?_eq_getElem (by omega)] at f0 f1
  rw [Try.cells3] at f0 f1
  obtain ⟨p, hp, _, _⟩ := DataW.trod_int Try.underlying3 f0
  obtain ⟨q, hq, _, _⟩ := DataW.trod_int Try.underlying3 f1
  simp at hk ha hb hc hp hq
  subst hk ha hb hc hp hq
  exact ⟨k, a, b, c, c4, n, ks, p, q, rfl, hkr⟩
theorem open_deeds {v : Value} {d : DataW H} {p : List MemPlace} (h : DataW.Trod enc Try.prog w base spare held 52 v d p) (hv : ∃ a l c, v = .slice a l c) : ∃ n, Deeds w v n := by
  obtain ⟨a, l, c, rfl⟩ := hv
  obtain ⟨fuel, hf⟩ := h
  rcases Deep.open_slice Try.underlying52 hf with ⟨h1, _⟩ | ⟨a, len, cap, m, n, D, Pl, h1, hb, hl, hm, hmm, _, hx⟩
  · simp [Value.cells] at h1
    obtain ⟨rfl, rfl, rfl⟩ := h1
    exact ⟨0, none, 0, rfl, Nat.le_refl _, Nat.zero_le _, fun i hi => absurd hi (by omega)⟩
  · simp [Value.cells] at h1
    obtain ⟨rfl, rfl, rfl⟩ := h1
    rw [Try.cells56] at hx
    refine ⟨l, _, _, rfl, hl, hm, fun i hi => ?_⟩
    have him : ∀ {j}, j < l → j < m := fun hj => by rw [hmm]; split <;> omega
    have cells : ∀ j, j < l → ∃ cs : List Value, (∀ k, k < 7 → w.cell? ((a.add (j * 7)).add k) = cs[k]?) ∧ ∃ (k a b c : Int) (kv : Value) (n : Nat) (ks : List Int) (p q : Int), cs = [.int .i64 k, .int .i64 a, .int .i64 b, .int .i64 c, kv, .int .i64 p, .int .i64 q] ∧ KRow w kv n ks := fun j hj => by
      obtain ⟨cs, hc, ht⟩ := hx j (him hj)
      obtain ⟨_, _, hat⟩ := World.cells?_some hc
      exact ⟨cs, hat, open_deed ht⟩
    obtain ⟨cs0, hat0, _, _, _, _, _, _, _, _, _, rfl, _⟩ := cells 0 (by omega)
    have h00 := hat0 0 (by omega)
    obtain ⟨b, o, hab⟩ := spot_none h00
    obtain rfl : a = ⟨b, o, none⟩ := by simpa [Addr.add] using hab
    have hb0 : b < w.heap.size := World.block_lt_of_cell? w ⟨b, o, none⟩ (by simpa [Addr.add] using h00)
    obtain ⟨cs, hat, k, a, b', c, kv, kn, ks, x, y, rfl, hkr⟩ := cells i hi
    refine ⟨b, o, k, a, b', c, kv, kn, ks, x, y, rfl, hb0, hkr, ?_⟩
    have g : ∀ j, j < 7 → w.cell? ⟨b, o + i * 7 + j, none⟩ = [Value.int .i64 k, .int .i64 a, .int .i64 b', .int .i64 c, kv, .int .i64 x, .int .i64 y][j]? := fun j hj => by
      have := hat j hj
      rwa [add_at, add_at] at this
    exact ⟨g 0 (by omega), g 1 (by omega), g 2 (by omega), g 3 (by omega), g 4 (by omega), g 5 (by omega), g 6 (by omega)⟩
end

theorem KRow.shape {w : World} {kv : Value} {n : Nat} {ks : List Int} (h : KRow w kv n ks) : ∃ oa cap, kv = .slice oa n cap ∧ n ≤ cap ∧ cap ≤ maxLen ∧ (oa = none → n = 0 ∧ cap = 0) := by
  obtain ⟨oa, cap, rfl, h1, h2, _, h3, _⟩ := h
  exact ⟨oa, cap, rfl, h1, h2, h3⟩
theorem KRow.len {w : World} {kv : Value} {n : Nat} {ks : List Int} (h : KRow w kv n ks) : ks.length = n := by
  obtain ⟨_, _, _, _, _, h3, _⟩ := h
  exact h3
/-- The first of them. -/
theorem KRow.take {w : World} {oa : Option Addr} {n cap : Nat} {ks : List Int} (h : KRow w (.slice oa n cap) n ks) {m : Nat} (hm : m ≤ n) : KRow w (.slice oa m cap) m (ks.take m) := by
  obtain ⟨oa', cap', e, h1, h2, h3, h4, h5⟩ := h
  cases e
  refine ⟨oa, cap, rfl, by omega, h2, by simp; omega, fun e => ⟨by have := (h4 e).1; omega, (h4 e).2⟩, fun a e j u hu => h5 a e j u ?_⟩
  rw [List.map_take, List.getElem?_take] at hu
  split at hu
  · exact hu
  · cases hu
theorem KRow.world {w w' : World} {kv : Value} {n : Nat} {ks : List Int} (h : KRow w kv n ks) (hb : Below w.heap.size w w') : KRow w' kv n ks := by
  obtain ⟨oa, cap, rfl, h1, h2, h3, h4, h5⟩ := h
  refine ⟨oa, cap, rfl, h1, h2, h3, h4, fun a e j u hu => ?_⟩
  obtain ⟨k1, k2⟩ := h5 a e j u hu
  have k3 : (a.add j).block < w.heap.size := by rw [add_blockD]; exact k2
  exact ⟨(hb.cell k3).trans k1, Nat.lt_of_lt_of_le k2 hb.size⟩

set_option maxHeartbeats 1000000 in
theorem CopyInts_any {w : World} {kv : Value} {n : Nat} {ks : List Int} (h : KRow w kv n ks) (hn : n ≤ 1000) : Calls Try.prog 37 #[kv] w fun e w' => ∃ a cap, e = .returned (.slice a n cap) ∧ n ≤ cap ∧ cap ≤ maxLen ∧ w'.ownsRow w.heap.size 3 1 (.slice a n cap) ks.length (ks.map (Value.int .i64)) ∧ Out [] w w' := by
  obtain ⟨i0, hi, hz0, hz1, hz2⟩ := info_parts Try.infoD3
  obtain ⟨oa, cap, rfl, h1, h2, h3, h4, h5⟩ := h
  cases oa with
  | none =>
    obtain ⟨rfl, rfl⟩ := h4 rfl
    have : ks = [] := List.eq_nil_of_length_eq_zero h3
    subst this
    clear h5 h4
    go_enter Try.func37, Try.ntmps37
    go_wp2
    go_ret
    exact ⟨none, 0, rfl, Nat.le_refl _, Nat.zero_le _, World.ownsRow_nil _ _ _ _, Out.refl _ _⟩
  | some a =>
    have hc := fun j u hu => (h5 a rfl j u hu).1
    have HC := Lib.hid hc
    have H3 := Lib.hid h3
    clear h5 h4 hc h3
    go_enter Try.func37, Try.ntmps37
    go_wp2_with (at_builtin; refine wpList_append_at _ rfl _ _ 37 rfl w.heap.size 3 i0 (.int .i64 0) 1 8 Try.underlying37 hi hz0 hz1 hz2 rfl (by decide) (.slice none 0 0) 0 [] rfl (World.ownsRow_nil _ _ _ _) a n cap (ks.map (Value.int .i64)) rfl ?c0 HC.out ?c2 ?c3 ?c4 ?c5 ?_)
    case c0 => simp [H3.out]
    case c2 => intro u hu; simp at hu; obtain ⟨x, _, rfl⟩ := hu; rfl
    case c3 => unfold maxLen; omega
    case c4 => omega
    case c5 => exact Nat.le_refl _
    intro kv' w' hown hgrow _
    have ho : Out [] w w' := (Out.refl _ _).grown hgrow (by simp [Value.ownBlock])
    obtain ⟨a', cap', rfl, hc1, hc2, _⟩ := owns_shape hown
    rw [← H3.out] at hown
    go_wp2
    go_ret
    rw [H3.out] at hown
    exact ⟨a', cap', rfl, hc1, hc2, by rw [H3.out]; exact hown, ho⟩
end Go.Proofs.Ytdelikjodacedaa
