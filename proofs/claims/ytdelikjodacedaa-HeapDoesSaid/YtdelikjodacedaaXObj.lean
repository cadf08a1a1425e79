/- The document's heap: Object, by contract. -/
import Derived.Test.YtdelikjodacedaaXPut0
namespace Go.Proofs.Ytdelikjodacedaa
open Go.RowKit

def XObjPost (w : World) (base : Nat) (fp : List Nat) (xb : Nat) (most used : Int) (ts : List Thg) (cls : Int) (ks : List Int) (e : Ending) (w' : World) : Prop :=
  e = .returned (.tuple #[.int .i64 (if objB most used ks = true then (ts.length : Int) + 1 else 0), .bool (objB most used ks)]) ∧
    XMade w base fp xb most (if objB most used ks = true then used + ks.length + 1 else used) (if objB most used ks = true then ts ++ [objT cls ks] else ts) w'

def XObjRel (w : World) (cls : Int) (ks : List Int) (k : Nat) (wr : World) : Prop :=
  ∃ lv, wr.heap[w.heap.size]? = some (.cells #[.bool false, .int .i64 0, .int .i64 cls, lv] 65 (0, 0)) ∧ wr.ownsRow w.heap.size 45 2 lv k (flatV ((ks.map fun k => (k, 0)).take k)) ∧ Out [] w wr ∧ (ks.take k).all isK = true
theorem xobj_start (w : World) (cls : Int) (ks : List Int) : XObjRel w cls ks 0 (w.alloc (.cells #[.bool false, .int .i64 0, .int .i64 cls, .slice none 0 0] 65)) :=
  ⟨_, heap_alloc_new w _, World.ownsRow_nil _ _ _ _, (Out.refl _ _).alloc _, rfl⟩
theorem xobj_next {w : World} {cls : Int} {ks : List Int} {k : Nat} {wr : World} {lv : Value} (hblk : wr.heap[w.heap.size]? = some (.cells #[.bool false, .int .i64 0, .int .i64 cls, lv] 65 (0, 0)))
    (hrow : wr.ownsRow w.heap.size 45 2 lv k (flatV ((ks.map fun k => (k, 0)).take k))) (ho : Out [] w wr) (hall : (ks.take k).all isK = true) {x : Int} (hx : ks[k]? = some x) (hk : isK x = true) {o : Obj} {w1 : World} {lv' : Value}
    (hown : w1.ownsRow w.heap.size 45 2 lv' (k + 1) (flatV ((ks.map fun k => (k, 0)).take k) ++ [.int .i64 x, .int .i64 0])) (hgrow : (wr.alloc o).grownBy w1 lv.ownBlock) :
    XObjRel w cls ks (k + 1) (w1.setCell ⟨w.heap.size, 3, none⟩ lv') := by
  have hlt := lt_of_block hblk
  have hne : ∀ g, lv.ownBlock = some g → g ≠ w.heap.size := fun g hg => owns_ne hrow hg hblk (by decide)
  have hb1 : w1.heap[w.heap.size]? = _ := ((hgrow.block w.heap.size (by simp; omega) (fun e => hne _ e.symm rfl)).trans (Below.heap_alloc wr o _ hlt)).trans hblk
  refine ⟨lv', ?_, ?_, ?_, ?_⟩
  · rw [block_setCell hb1]; rfl
  · rw [take_snoc' (ks.map fun k => (k, 0)) k (x, 0) (by rw [List.getElem?_map, hx]; rfl), flatV_append]
    exact ownsRow_same hown fun g hg => Below.heap_setCell _ _ _ _ (fun e => owns_ne hown hg hb1 (by decide) e)
  · exact ((ho.alloc o).grown hgrow (fun g hg => .inr (hrow.lt g hg).1)).setCell (.inr (Nat.le_refl _)) _
  · rw [take_snoc' ks k x hx, List.all_append, hall]; simp [hk]

section
variable {w : World} {base : Nat} {fp : List Nat} {xb : Nat} {most used : Int} {sv : Value} {tp : List (Thg × Value)} {ts : List Thg}
theorem xobj_not (h : XRep w base fp xb most used sv tp ts) {cls : Int} {ks : List Int} {w' : World} (ho : Out [] w w') (hB : objB most used ks = false) :
    XObjPost w base fp xb most used ts cls ks (.returned (.tuple #[.int .i64 0, .bool false])) w' := by
  unfold XObjPost; rw [hB]; exact ⟨rfl, XMade.same h ho⟩

/-- Behind the loop: put. -/
theorem xobj_put (h : XRep w base fp xb most used sv tp ts) {cls : Int} {ks : List Int} {wr : World} {lv : Value} (hlen : ks.length ≤ 1000000)
    (hrow : wr.ownsRow w.heap.size 45 2 lv ks.length (flatV (ks.map fun k => (k, 0)))) (ho : Out [] w wr) (hall : ks.all isK = true) :
    Calls Try.prog 61 #[.pointer (some ⟨xb, 0, none⟩), .agg #[.bool false, .int .i64 0, .int .i64 cls, lv]] wr fun e w' =>
      ∃ r b, e = .returned (.tuple #[.int .i64 r, .bool b]) ∧ XObjPost w base fp xb most used ts cls ks (.returned (.tuple #[.int .i64 r, .bool b])) w' := by
  have hr := h.out ho (by simp)
  have hl : (objT cls ks).l.length = ks.length := by simp [objT]
  have hbl := h.xbLt
  have hge := h.ge _ h.mem
  have row' : wr.ownsRow base 45 2 lv (objT cls ks).l.length (flatV (objT cls ks).l) := by
    rw [hl]; exact ownsRow_base hrow (by omega)
  by_cases hroom : used + 1 + ks.length ≤ most
  · have hB : objB most used ks = true := by unfold objB; rw [hall]; simp; omega
    refine (xput_yes hr (objT cls ks) lv row' (fun g hg hm => by have := h.lt g hm; have := (hrow.lt g hg).1; omega) (by rw [hl]; exact hroom) (by rw [hl]; exact hlen)).mono ?_
    rintro e w' ⟨rfl, fp', sv', tp', hR, hn, hout⟩
    refine ⟨_, _, rfl, ?_⟩
    unfold XObjPost
    rw [hB]
    rw [hl] at hR
    refine ⟨rfl, fp', sv', tp', hR, fun k hk => ?_, (ho.mono (by simp)).trans hout (fun k hk => .inl hk)⟩
    rcases hn k hk with hk | hk | hk
    · exact .inl hk
    · exact .inr (hrow.lt k hk).1
    · have := ho.size; exact .inr (by omega)
  · have hB : objB most used ks = false := by unfold objB; rw [Bool.and_eq_false_iff]; exact .inr (decide_eq_false (by omega))
    refine (xput_no hr (objT cls ks) lv row' (by rw [hl]; omega) (by rw [hl]; exact hlen)).mono ?_
    rintro e w' ⟨rfl, hout⟩
    exact ⟨_, _, rfl, xobj_not h (ho.trans hout (by simp)) hB⟩

set_option maxHeartbeats 2000000 in
theorem XObject_any (h : XRep w base fp xb most used sv tp ts) (cls : Int) (ks : List Int) (kv : Value) (kbase : Nat) (hks : w.ownsRow kbase 3 1 kv ks.length (ks.map (Value.int .i64))) (hlen : ks.length ≤ 1000000) :
    Calls Try.prog 39 #[.pointer (some ⟨xb, 0, none⟩), .int .i64 cls, kv] w (XObjPost w base fp xb most used ts cls ks) := by
  obtain ⟨i0, hi, hz0, hz1, hz2⟩ := info_parts Try.info45
  obtain ⟨ka, kcap, rfl, kc1, kc2, kat⟩ := owns_shape hks
  unfold maxLen at kc2
  obtain ⟨n, hn⟩ : ∃ n, n = ks.length := ⟨_, rfl⟩
  have HN := Lib.hid hn
  have HL := Lib.hid hlen
  rw [← hn] at hlen kc1 kat ⊢
  have KAT := Lib.hid kat
  have H := Lib.hid h
  have st := xobj_start w cls ks
  clear hn kat hks h
  go_enter Try.func39, Try.ntmps39
  go_wp2
  go_loopw [9] (fun i wr => ∃ k : Nat, k ≤ n ∧ i = .int .i64 k ∧ XObjRel w cls ks k wr) (fun i _ => n - (intOf i).toNat)
  case atStart => exact ⟨0, Nat.zero_le _, rfl, st⟩
  case round =>
    obtain ⟨k, hk, rfl, lv, hblk, hrow, ho, hall⟩ := hrel
    clear st
    by_cases hkn : k < n
    · obtain ⟨g, rfl, _, hgo, hcell, _⟩ := KAT.out (by omega)
      obtain ⟨x, hx⟩ : ∃ x, ks[k]? = some x := ⟨ks[k]'(by have := HN.out; omega), by simp⟩
      have hc0 := hcell k (.int .i64 x) (by rw [List.getElem?_map, hx]; rfl)
      have hglt : g < w.heap.size := World.block_lt_of_cell? w _ hc0
      have hc : wr.cell? ⟨g, k, none⟩ = some (.int .i64 x) := (ho.cell hglt (by simp)).trans hc0
      clear hcell hc0 hgo
      have K0 := xkind_any x
      by_cases hkx : isK x = true
      · rw [hkx] at K0
        go_wp2_with (go_at_call 60; refine (K0 _).mono ?_; rintro e w' ⟨rfl, rfl⟩)
        have hbD : wr.drew.heap[w.heap.size]? = some (.cells #[.bool false, .int .i64 0, .int .i64 cls, lv] 65 (0, 0)) := hblk
        have hrowD : wr.drew.ownsRow w.heap.size 45 2 lv k (flatV ((ks.map fun k => (k, 0)).take k)) := ownsRow_same hrow fun _ _ => rfl
        have hoD : Out [] w wr.drew := ho.drew
        have hl3 := cell_in hbD 3 rfl
        have hlt := lt_of_block hblk
        have hglt2 : g < wr.heap.size := by have := ho.size; omega
        have hl3a : (wr.alloc (.cells #[.int .i64 x, .int .i64 0] 45)).cell? ⟨w.heap.size, 3, none⟩ = some lv := cell_in ((Below.heap_alloc wr _ _ hlt).trans hblk) 3 rfl
        have hne : ∀ q, lv.ownBlock = some q → q ≠ w.heap.size := fun q hq => owns_ne hrow hq hblk (by decide)
        have keep : ∀ (o : Obj) (w1 : World), (wr.drew.alloc o).grownBy w1 lv.ownBlock → w1.cell? ⟨w.heap.size, 3, none⟩ = some lv ∧ w1.frozen? ⟨w.heap.size, 3, none⟩ = false := fun o w1 hg => by
          have hb1 := ((hg.block w.heap.size (by simp; omega) (fun e => hne _ e.symm rfl)).trans (Below.heap_alloc wr.drew o _ hlt)).trans hblk
          exact ⟨cell_in hb1 3 rfl, free_in hb1 3⟩
        have hsz : w.heap.size ≤ wr.heap.size := ho.size
        have hdr : wr.drew.heap.size = wr.heap.size := rfl
        have NEXT := Lib.hid (fun o w1 lv' h1 h2 => @xobj_next w cls ks k wr.drew lv hbD hrowD hoD hall x hx hkx o w1 lv' h1 h2)
        have KEEP := Lib.hid keep
        clear keep hblk hbD hoD hall hx hkx ho hne hrow hlt
        obtain ⟨la, lc, rfl, _, _, _⟩ := owns_shape hrowD
        go_region_law (
          (refine step_append_at rfl _ _ 63 rfl w.heap.size 45 i0 (.agg #[.int .i64 0, .int .i64 0]) 2 16 Try.underlying63 hi hz0 hz1 hz2 rfl (by decide) (.slice la k lc) k _ rfl (hrowD.alloc _) ⟨wr.drew.heap.size, 0, none⟩ 1 1 [.int .i64 x, .int .i64 0] rfl rfl (cells_new _ _ _) (by intro u hu; simp at hu; rcases hu with rfl | rfl <;> rfl) (by unfold maxLen; omega) (by omega) (by simp; omega) ?_
           intro lv' w1 hown' hgrow _
           obtain ⟨k1, k2⟩ := KEEP.out _ _ hgrow
           have hnext := NEXT.out _ _ _ hown' hgrow
           obtain ⟨a', cap', rfl, _, _, _⟩ := owns_shape hown'
           clear hown' hgrow))
        all_goals
          go_wp2
          go_roundw
          case rel => exact ⟨k + 1, by omega, by go_num, hnext⟩
          case measure => simp [intOf]; omega
      · have hkf : isK x = false := by simpa using hkx
        rw [hkf] at K0
        have FIN := Lib.hid (xobj_not (cls := cls) H.out ho (obj_badkind hx hkf))
        clear hblk hall hx hkx ho hkf hrow
        go_wp2_with (go_at_call 60; refine (K0 _).mono ?_; rintro e w' ⟨rfl, rfl⟩)
        go_ret2
        exact FIN.out
    · obtain rfl : k = n := by omega
      have hnn := HN.out
      rw [hnn, List.take_of_length_le (by simp)] at hrow
      rw [hnn, List.take_of_length_le (Nat.le_refl _)] at hall
      have P := xobj_put H.out (cls := cls) HL.out hrow ho hall
      obtain ⟨la, lc, rfl, _, _, _⟩ := owns_shape hrow
      have d0 := cell_in hblk 0 rfl
      have d1 := cell_in hblk 1 rfl
      have d2 := cell_in hblk 2 rfl
      have d3 := cell_in hblk 3 rfl
      rw [← hnn] at P d3
      have HP := Lib.hid P
      clear hrow hblk ho hall P hnn
      go_wp2_with (go_at_call 61; refine HP.out.mono ?_; rintro e w' ⟨r, b, rfl, hfin⟩)
      go_ret2
      exact hfin
end
end Go.Proofs.Ytdelikjodacedaa
