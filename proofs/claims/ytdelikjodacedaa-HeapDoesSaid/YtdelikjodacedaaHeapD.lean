/- Package heap's Object, by contract. -/
import Derived.Test.YtdelikjodacedaaHeapC
namespace Go.Proofs.Ytdelikjodacedaa
open Go.RowKit

/-- A heap behind a deed: its blocks are those that it had, or new ones; of what was there nothing else has turned. -/
def Made (w : World) (base : Nat) (fp : List Nat) (hb : Nat) (most used' : Int) (ts' : List Thg) (w' : World) : Prop :=
  ∃ fp' sv' tp', HRep w' base fp' hb most used' sv' tp' ts' ∧ (∀ k ∈ fp', k ∈ fp ∨ w.heap.size ≤ k) ∧ Out fp w w'

/-- An object is made, of so many fields. -/
def objB (most used : Int) (ks : List Int) : Bool := ks.all isK && decide ((ks.length : Int) < most - used)
def objT (cls : Int) (ks : List Int) : Thg := ⟨false, 0, cls, ks.map fun k => (k, 0)⟩
def ObjPost (w : World) (base : Nat) (fp : List Nat) (hb : Nat) (most used : Int) (ts : List Thg) (cls : Int) (ks : List Int) (e : Ending) (w' : World) : Prop :=
  e = .returned (.tuple #[.int .i64 (if objB most used ks = true then (ts.length : Int) + 1 else 0), .bool (objB most used ks)]) ∧
    Made w base fp hb most (if objB most used ks = true then used + ks.length + 1 else used) (if objB most used ks = true then ts ++ [objT cls ks] else ts) w'

/-- What the loop over the kinds has made so far, of the first k. -/
def ObjRel (w : World) (cls : Int) (ks : List Int) (k : Nat) (wr : World) : Prop :=
  ∃ lv, wr.heap[w.heap.size]? = some (.cells #[.bool false, .int .i64 0, .int .i64 cls, lv] 86 (0, 0)) ∧ wr.ownsRow w.heap.size 45 2 lv k (flatV ((ks.map fun k => (k, 0)).take k)) ∧ Out [] w wr ∧ (ks.take k).all isK = true

theorem obj_start (w : World) (cls : Int) (ks : List Int) : ObjRel w cls ks 0 (w.alloc (.cells #[.bool false, .int .i64 0, .int .i64 cls, .slice none 0 0] 86)) :=
  ⟨_, heap_alloc_new w _, World.ownsRow_nil _ _ _ _, (Out.refl _ _).alloc _, rfl⟩

theorem take_snoc' {α : Type} (l : List α) (k : Nat) (x : α) (h : l[k]? = some x) : l.take (k + 1) = l.take k ++ [x] := by
  rw [List.take_add_one, h]; rfl

theorem obj_next {w : World} {cls : Int} {ks : List Int} {k : Nat} {wr : World} {lv : Value} (hblk : wr.heap[w.heap.size]? = some (.cells #[.bool false, .int .i64 0, .int .i64 cls, lv] 86 (0, 0)))
    (hrow : wr.ownsRow w.heap.size 45 2 lv k (flatV ((ks.map fun k => (k, 0)).take k))) (ho : Out [] w wr) (hall : (ks.take k).all isK = true) {x : Int} (hx : ks[k]? = some x) (hk : isK x = true) {o : Obj} {w1 : World} {lv' : Value}
    (hown : w1.ownsRow w.heap.size 45 2 lv' (k + 1) (flatV ((ks.map fun k => (k, 0)).take k) ++ [.int .i64 x, .int .i64 0])) (hgrow : (wr.alloc o).grownBy w1 lv.ownBlock) :
    ObjRel w cls ks (k + 1) (w1.setCell ⟨w.heap.size, 3, none⟩ lv') := by
  have hlt := lt_of_block hblk
  have hne : ∀ g, lv.ownBlock = some g → g ≠ w.heap.size := fun g hg => owns_ne hrow hg hblk (by decide)
  have hb1 : w1.heap[w.heap.size]? = _ := ((hgrow.block w.heap.size (by simp; omega) (fun e => hne _ e.symm rfl)).trans (Below.heap_alloc wr o _ hlt)).trans hblk
  refine ⟨lv', ?_, ?_, ?_, ?_⟩
  · rw [block_setCell hb1]; rfl
  · rw [take_snoc' (ks.map fun k => (k, 0)) k (x, 0) (by rw [List.getElem?_map, hx]; rfl), flatV_append]
    exact ownsRow_same hown fun g hg => Below.heap_setCell _ _ _ _ (fun e => owns_ne hown hg hb1 (by decide) e)
  · exact ((ho.alloc o).grown hgrow (fun g hg => .inr (hrow.lt g hg).1)).setCell (.inr (Nat.le_refl _)) _
  · rw [take_snoc' ks k x hx, List.all_append, hall]; simp [hk]
theorem obj_cells {wr : World} {s cls : Int} {lv : Value} {b : Nat} (hblk : wr.heap[b]? = some (.cells #[.bool false, .int .i64 s, .int .i64 cls, lv] 86 (0, 0))) : wr.cell? ⟨b, 3, none⟩ = some lv := cell_in hblk 3 rfl

section
variable {w : World} {base : Nat} {fp : List Nat} {hb : Nat} {most used : Int} {sv : Value} {tp : List (Nat × Value)} {ts : List Thg}
theorem Made.same (h : HRep w base fp hb most used sv tp ts) {w' : World} (ho : Out [] w w') : Made w base fp hb most used ts w' :=
  ⟨fp, sv, tp, h.out ho (fun _ _ => by simp), fun _ hk => .inl hk, ho.mono (by simp)⟩
theorem obj_not (h : HRep w base fp hb most used sv tp ts) {cls : Int} {ks : List Int} {w' : World} (ho : Out [] w w') (hB : objB most used ks = false) :
    ObjPost w base fp hb most used ts cls ks (.returned (.tuple #[.int .i64 0, .bool false])) w' := by
  unfold ObjPost; rw [hB]; exact ⟨rfl, Made.same h ho⟩
theorem obj_badkind {ks : List Int} {k : Nat} {x : Int} (hx : ks[k]? = some x) (hk : isK x = false) : objB most used ks = false := by
  unfold objB
  have : ks.all isK = false := by
    rw [List.all_eq_false]
    exact ⟨x, List.mem_of_getElem? hx, by simp [hk]⟩
  rw [this]; rfl
theorem obj_noroom {ks : List Int} (h : most - used ≤ (ks.length : Int)) : objB most used ks = false := by
  unfold objB
  rw [Bool.and_eq_false_iff]
  exact .inr (decide_eq_false (by omega))

theorem obj_put (h : HRep w base fp hb most used sv tp ts) {cls : Int} {ks : List Int} {wr : World} {lv : Value} (hblk : wr.heap[w.heap.size]? = some (.cells #[.bool false, .int .i64 0, .int .i64 cls, lv] 86 (0, 0)))
    (hrow : wr.ownsRow w.heap.size 45 2 lv ks.length (flatV (ks.map fun k => (k, 0)))) (ho : Out [] w wr) (hall : ks.all isK = true) (hr : (ks.length : Int) < most - used) (w2 : World)
    (h2 : HRep w2 base fp hb most (used + ks.length + 1) sv tp ts) (ho2 : Out [hb] wr w2) :
    Calls Try.prog 58 #[.pointer (some ⟨hb, 0, none⟩), .pointer (some ⟨w.heap.size, 0, none⟩)] w2 fun e w' =>
      e = .returned (.int .i64 ((ts.length : Int) + 1)) ∧ ObjPost w base fp hb most used ts cls ks (.returned (.tuple #[.int .i64 ((ts.length : Int) + 1), .bool true])) w' := by
  have hbl := h.hbLt
  have hge := h.ge _ h.mem
  have hlv : ∀ g, lv.ownBlock = some g → w.heap.size ≤ g ∧ g < wr.heap.size := fun g hg => hrow.lt g hg
  have hblk2 : w2.heap[w.heap.size]? = _ := (ho2.block _ (lt_of_block hblk) (by simp; omega)).trans hblk
  have hrow2 := ownsRow_same hrow (w' := w2) fun g hg => ho2.block g (hlv g hg).2 (by have := (hlv g hg).1; simp; omega)
  have hB : objB most used ks = true := by unfold objB; rw [hall]; simpa using hr
  refine (put_any h2 w.heap.size lv (objT cls ks) (by omega) (fun hm => by have := h.lt _ hm; omega) hblk2 (ownsRow_base (by simpa [objT] using hrow2) (by omega)) (fun g hg hm => by have := h.lt _ hm; have := (hlv g hg).1; omega) (by have := h.count; omega)).mono ?_
  rintro e w' ⟨rfl, sv', hR, hn, hout⟩
  refine ⟨rfl, ?_⟩
  unfold ObjPost
  rw [hB]
  refine ⟨rfl, _, _, _, hR, fun k hk => ?_, ?_⟩
  · rcases mem_fpPut.1 hk with hk | rfl | hk | hk
    · exact .inl hk
    · exact .inr (Nat.le_refl _)
    · exact .inr (hlv k hk).1
    · rcases hn k hk with hk | hk
      · exact .inl hk
      · have := ho.size; have := ho2.size; exact .inr (by omega)
  · exact ((ho.mono (by simp)).trans ho2 (fun k hk => by simp at hk; subst hk; exact .inl h.mem)).trans hout (fun k hk => .inl hk)

set_option maxHeartbeats 1000000 in
theorem Object_any (h : HRep w base fp hb most used sv tp ts) (cls : Int) (ks : List Int) (kv : Value) (kbase : Nat) (hks : w.ownsRow kbase 3 1 kv ks.length (ks.map (Value.int .i64))) (hlen : ks.length ≤ 1000000) :
    Calls Try.prog 38 #[.pointer (some ⟨hb, 0, none⟩), .int .i64 cls, kv] w (ObjPost w base fp hb most used ts cls ks) := by
  obtain ⟨i0, hi, hz0, hz1, hz2⟩ := info_parts Try.info45
  obtain ⟨ka, kcap, rfl, kc1, kc2, kat⟩ := owns_shape hks
  unfold maxLen at kc2
  obtain ⟨n, hn⟩ : ∃ n, n = ks.length := ⟨_, rfl⟩
  have HN := Lib.hid hn
  rw [← hn] at hlen kc1 kat ⊢
  have KAT := Lib.hid kat
  have H := Lib.hid h
  have st := obj_start w cls ks
  clear hn kat hks h
  go_enter Try.func38, Try.ntmps38
  go_wp2
  go_loopw [16] (fun i wr => ∃ k : Nat, k ≤ n ∧ i = .int .i64 k ∧ ObjRel w cls ks k wr) (fun i _ => n - (intOf i).toNat)
  case atStart => exact ⟨0, Nat.zero_le _, rfl, st⟩
  case round =>
    obtain ⟨k, hk, rfl, lv, hblk, hrow, ho, hall⟩ := hrel
    clear st
    by_cases hkn : k < n
    · obtain ⟨g, rfl, _, hgo, hcell, _⟩ := KAT.out (by omega)
      obtain ⟨x, hx⟩ : ∃ x, ks[k]? = some x := ⟨ks[k]'(by have := HN.out; omega), by simp⟩
      have hc0 := hcell k (.int .i64 x) (by rw [List.getElem?_map, hx]; rfl)
      have hc : wr.cell? ⟨g, k, none⟩ = some (.int .i64 x) := (ho.cell (World.block_lt_of_cell? w _ hc0) (by simp)).trans hc0
      have hl3 := obj_cells hblk
      have hf3 := free_in hblk 3
      have hne : ∀ q, lv.ownBlock = some q → q ≠ w.heap.size := fun q hq => owns_ne hrow hq hblk (by decide)
      have keep : ∀ (o : Obj) (w1 : World), (wr.alloc o).grownBy w1 lv.ownBlock → w1.cell? ⟨w.heap.size, 3, none⟩ = some lv ∧ w1.frozen? ⟨w.heap.size, 3, none⟩ = false := fun o w1 hg => by
        have hlt := lt_of_block hblk
        have hb1 := ((hg.block w.heap.size (by simp; omega) (fun e => hne _ e.symm rfl)).trans (Below.heap_alloc wr o _ hlt)).trans hblk
        exact ⟨cell_in hb1 3 rfl, free_in hb1 3⟩
      have hsz := ho.size
      clear hcell hc0 hgo
      by_cases hkx : isK x = true
      · have NEXT := fun o w1 lv' h1 h2 => Lib.hid (@obj_next w cls ks k wr lv hblk hrow ho hall x hx hkx o w1 lv' h1 h2)
        have KEEP := Lib.hid keep
        have K0 := isKind_any x
        rw [hkx] at K0
        clear keep hblk hall hx hkx ho hne
        go_wp2_with (first
          | (go_at_call 56; refine (K0 _).mono ?_; rintro e w' ⟨rfl, rfl⟩)
          | (at_builtin; refine wpList_append_at _ rfl _ _ 63 rfl w.heap.size 45 i0 (.agg #[.int .i64 0, .int .i64 0]) 2 16 Try.underlying63 hi hz0 hz1 hz2 rfl (by decide) _ _ _ rfl (hrow.alloc _) ⟨wr.heap.size, 0, none⟩ 1 1 [.int .i64 x, .int .i64 0] rfl rfl ?c1 ?c2 ?c3 ?c4 ?c5 ?_))
        case c1 => exact cell_two_new _ _ _ _
        case c2 => intro u hu; simp at hu; rcases hu with rfl | rfl <;> rfl
        case c3 => unfold maxLen; omega
        case c4 => omega
        case c5 => simp; omega
        intro lv' w1 hown' hgrow _
        obtain ⟨k1, k2⟩ := KEEP.out _ _ hgrow
        have hnext := NEXT _ _ _ hown' hgrow
        obtain ⟨a', cap', rfl, _, _, _⟩ := owns_shape hown'
        clear NEXT KEEP hown' hgrow hrow hl3 hf3
        go_wp2
        go_roundw
        case rel => exact ⟨k + 1, by omega, by go_num, hnext.out⟩
        case measure => simp [intOf]; omega
      · have hkf : isK x = false := by simpa using hkx
        have K0 := isKind_any x
        rw [hkf] at K0
        have hfin := Lib.hid (obj_not (cls := cls) H.out ho (obj_badkind (most := most) (used := used) hx hkf))
        clear hblk hrow hall ho hne keep hkx hkf hx H
        go_wp2_with (go_at_call 56; refine (K0 _).mono ?_; rintro e w' ⟨rfl, rfl⟩)
        go_ret2
        exact hfin.out
    · obtain rfl : k = n := by omega
      have h' := H.out.out ho (fun _ _ => by simp)
      have hlt := H.out.lt
      have hall' : ks.all isK = true := by rw [← hall, HN.out, List.take_length]
      have hrow' : wr.ownsRow w.heap.size 45 2 lv ks.length (flatV (ks.map fun k => (k, 0))) := by
        have := hrow; rw [HN.out, show ks.length = (ks.map fun k => ((k, 0) : Int × Int)).length by simp, List.take_length] at this; simpa using this
      have hu := h'.count
      have hm := h'.most0
      have hum := h'.usedM
      have hge := h'.ge _ h'.mem
      have hbl := h'.lt _ h'.mem
      by_cases hr : (k : Int) < most - used
      · have R := room_yes h' k (by omega) hr
        have PUT := obj_put H.out (cls := cls) hblk hrow' ho hall' (by have := HN.out; omega)
        rw [← HN.out] at PUT
        have PUT' := Lib.hid PUT
        clear PUT h' H hlt hall hall' hrow hrow' hblk ho hu hm hum hge hbl
        go_wp2_with (first
          | (go_at_call 57; refine R.mono ?_; rintro e w' ⟨rfl, hR', hw'⟩)
          | (go_at_call 58; refine (PUT'.out _ (by assumption) (by assumption)).mono ?_; rintro e w' ⟨rfl, hfin⟩))
        go_ret2
        assumption
      · have R := room_no h' k (.inr (by omega))
        have hfin : ∀ w', Out [] wr w' → ObjPost w base fp hb most used ts cls ks (.returned (.tuple #[.int .i64 0, .bool false])) w' := fun w' hw => obj_not H.out (ho.trans hw (by simp)) (obj_noroom (by have := HN.out; omega))
        have FIN := Lib.hid hfin
        clear hfin h' H hlt hall hall' hrow hrow' hblk ho hu hm hum hge hbl
        go_wp2_with (go_at_call 57; refine R.mono ?_; rintro e w' ⟨rfl, hw'⟩)
        go_ret2
        exact FIN.out _ (by assumption)
end
end Go.Proofs.Ytdelikjodacedaa
