/- The document's heap: Array, by contract. -/
import Derived.Test.YtdelikjodacedaaXObj
namespace Go.Proofs.Ytdelikjodacedaa
open Go.RowKit

def XArrPost (w : World) (base : Nat) (fp : List Nat) (xb : Nat) (most used : Int) (ts : List Thg) (kind cls n : Int) (e : Ending) (w' : World) : Prop :=
  e = .returned (.tuple #[.int .i64 (if arrB most used kind n = true then (ts.length : Int) + 1 else 0), .bool (arrB most used kind n)]) ∧
    XMade w base fp xb most (if arrB most used kind n = true then used + n + 1 else used) (if arrB most used kind n = true then ts ++ [arrT kind cls n] else ts) w'

def XArrRel (w : World) (kind cls : Int) (k : Nat) (wr : World) : Prop :=
  ∃ lv, wr.heap[w.heap.size]? = some (.cells #[.bool true, .int .i64 kind, .int .i64 cls, lv] 65 (0, 0)) ∧ wr.ownsRow w.heap.size 45 2 lv k (flatV (List.replicate k (kind, 0))) ∧ Out [] w wr
theorem xarr_next {w : World} {kind cls : Int} {k : Nat} {wr : World} {lv : Value} (hblk : wr.heap[w.heap.size]? = some (.cells #[.bool true, .int .i64 kind, .int .i64 cls, lv] 65 (0, 0)))
    (hrow : wr.ownsRow w.heap.size 45 2 lv k (flatV (List.replicate k (kind, 0)))) (ho : Out [] w wr) {o : Obj} {w1 : World} {lv' : Value}
    (hown : w1.ownsRow w.heap.size 45 2 lv' (k + 1) (flatV (List.replicate k (kind, 0)) ++ [.int .i64 kind, .int .i64 0])) (hgrow : (wr.alloc o).grownBy w1 lv.ownBlock) :
    XArrRel w kind cls (k + 1) (w1.setCell ⟨w.heap.size, 3, none⟩ lv') := by
  have hlt := lt_of_block hblk
  have hne : ∀ g, lv.ownBlock = some g → g ≠ w.heap.size := fun g hg => owns_ne hrow hg hblk (by decide)
  have hb1 : w1.heap[w.heap.size]? = _ := ((hgrow.block w.heap.size (by simp; omega) (fun e => hne _ e.symm rfl)).trans (Below.heap_alloc wr o _ hlt)).trans hblk
  refine ⟨lv', ?_, ?_, ?_⟩
  · rw [block_setCell hb1]; rfl
  · rw [List.replicate_succ', flatV_append, flatV_one]
    exact ownsRow_same hown fun g hg => Below.heap_setCell _ _ _ _ (fun e => owns_ne hown hg hb1 (by decide) e)
  · exact ((ho.alloc o).grown hgrow (fun g hg => .inr (hrow.lt g hg).1)).setCell (.inr (Nat.le_refl _)) _

section
variable {w : World} {base : Nat} {fp : List Nat} {xb : Nat} {most used : Int} {sv : Value} {tp : List (Thg × Value)} {ts : List Thg}
theorem xarr_not (h : XRep w base fp xb most used sv tp ts) {kind cls n : Int} {w' : World} (ho : Out [] w w') (hB : arrB most used kind n = false) :
    XArrPost w base fp xb most used ts kind cls n (.returned (.tuple #[.int .i64 0, .bool false])) w' := by
  unfold XArrPost; rw [hB]; exact ⟨rfl, XMade.same h ho⟩
theorem xarr_put (h : XRep w base fp xb most used sv tp ts) {kind cls : Int} {n : Nat} {wr : World} {lv : Value} (hk : isK kind = true)
    (hrow : wr.ownsRow w.heap.size 45 2 lv n (flatV (List.replicate n (kind, 0)))) (ho : Out [] w wr) (hroom : (n : Int) < most - used) :
    Calls Try.prog 61 #[.pointer (some ⟨xb, 0, none⟩), .agg #[.bool true, .int .i64 kind, .int .i64 cls, lv]] wr fun e w' =>
      e = .returned (.tuple #[.int .i64 ((ts.length : Int) + 1), .bool true]) ∧ XArrPost w base fp xb most used ts kind cls n (.returned (.tuple #[.int .i64 ((ts.length : Int) + 1), .bool true])) w' := by
  have hr := h.out ho (by simp)
  have hl : (arrT kind cls n).l.length = n := by simp [arrT]
  have hfl : (arrT kind cls n).l = List.replicate n (kind, 0) := by simp [arrT]
  have hbl := h.xbLt
  have hge := h.ge _ h.mem
  have u0 := h.used0
  have u2 := h.most0
  have row' : wr.ownsRow base 45 2 lv (arrT kind cls n).l.length (flatV (arrT kind cls n).l) := by
    rw [hl, hfl]; exact ownsRow_base hrow (by omega)
  have hB : arrB most used kind n = true := by unfold arrB; rw [hk]; simp; omega
  refine (xput_yes hr (arrT kind cls n) lv row' (fun g hg hm => by have := h.lt g hm; have := (hrow.lt g hg).1; omega) (by rw [hl]; omega) (by rw [hl]; omega)).mono ?_
  rintro e w' ⟨rfl, fp', sv', tp', hR, hn, hout⟩
  refine ⟨rfl, ?_⟩
  unfold XArrPost
  rw [hB]
  rw [hl] at hR
  refine ⟨rfl, fp', sv', tp', hR, fun k hk => ?_, (ho.mono (by simp)).trans hout (fun k hk => .inl hk)⟩
  rcases hn k hk with hk | hk | hk
  · exact .inl hk
  · exact .inr (hrow.lt k hk).1
  · have := ho.size; exact .inr (by omega)

theorem xkind_q (k : Int) (w : World) (n : Nat) : Calls Try.prog 60 #[.int .i64 k] (w.drewN n) fun e w'' => e = .returned (.bool (isK k)) ∧ ∃ m, w'' = w.drewN m :=
  Calls.quiet_of_same ((xkind_any k _).mono fun _ _ h => ⟨h.1, h.2.symm⟩)

set_option maxHeartbeats 2000000 in
theorem XArray_yes (h : XRep w base fp xb most used sv tp ts) (kind cls : Int) (n : Nat) (hk : isK kind = true) (hroom : (n : Int) < most - used) :
    Calls Try.prog 40 #[.pointer (some ⟨xb, 0, none⟩), .int .i64 kind, .int .i64 cls, .int .i64 n] w (XArrPost w base fp xb most used ts kind cls n) := by
  obtain ⟨i0, hi, hz0, hz1, hz2⟩ := info_parts Try.info45
  have K0 := fun q => xkind_q kind w q
  rw [hk] at K0
  have c0 := h.c0
  have c1 := h.c1
  have u0 := h.used0
  have u1 := h.usedM
  have u2 := h.most0
  have hd : decide ((n : Int) < 0) = false := decide_eq_false (by omega)
  have H := Lib.hid h
  have HK := Lib.hid hk
  clear h hk
  go_enter Try.func40, Try.ntmps40
  go_wp2
  go_quiet ((go_at_call 60; exact K0 _))
  have hR := H.out.drewN nq
  have hO : Out [] w (w.drewN nq) := (Out.refl [] w).drewN nq
  have hs : (w.drewN nq).heap.size = w.heap.size := rfl
  generalize w.drewN nq = V at *
  have HS := Lib.hid hs
  clear hs
  go_wp2
  have st : XArrRel V kind cls 0 (V.alloc (.cells #[.bool true, .int .i64 kind, .int .i64 cls, .slice none 0 0] 65)) :=
    ⟨_, heap_alloc_new V _, World.ownsRow_nil _ _ _ _, (Out.refl _ _).alloc _⟩
  clear c0 c1 K0
  go_loopw [11] (fun i wr => ∃ k : Nat, k ≤ n ∧ i = .int .i64 k ∧ XArrRel V kind cls k wr) (fun i _ => n - (intOf i).toNat)
  case atStart => exact ⟨0, Nat.zero_le _, rfl, st⟩
  case round =>
    obtain ⟨k, hkn, rfl, lv, hblk, hrow, ho⟩ := hrel
    clear st
    by_cases hlt : k < n
    · have hl3 := cell_in hblk 3 rfl
      have hlt2 := lt_of_block hblk
      have hl3a : ∀ o, (wr.alloc o).cell? ⟨V.heap.size, 3, none⟩ = some lv := fun o => cell_in ((Below.heap_alloc wr o _ hlt2).trans hblk) 3 rfl
      have hne : ∀ q, lv.ownBlock = some q → q ≠ V.heap.size := fun q hq => owns_ne hrow hq hblk (by decide)
      have keep : ∀ (o : Obj) (w1 : World), (wr.alloc o).grownBy w1 lv.ownBlock → w1.cell? ⟨V.heap.size, 3, none⟩ = some lv ∧ w1.frozen? ⟨V.heap.size, 3, none⟩ = false := fun o w1 hg => by
        have hb1 := ((hg.block V.heap.size (by simp; omega) (fun e => hne _ e.symm rfl)).trans (Below.heap_alloc wr o _ hlt2)).trans hblk
        exact ⟨cell_in hb1 3 rfl, free_in hb1 3⟩
      have hsz := ho.size
      have NEXT := Lib.hid (fun o w1 lv' h1 h2 => @xarr_next V kind cls k wr lv hblk hrow ho o w1 lv' h1 h2)
      have KEEP := Lib.hid keep
      clear keep hblk ho hne
      obtain ⟨la, lc, rfl, _, _, _⟩ := owns_shape hrow
      go_wp2_with (at_builtin; refine wpList_append_at _ rfl _ _ 63 rfl V.heap.size 45 i0 (.agg #[.int .i64 0, .int .i64 0]) 2 16 Try.underlying63 hi hz0 hz1 hz2 rfl (by decide) (.slice la k lc) k _ rfl (hrow.alloc _) ⟨wr.heap.size, 0, none⟩ 1 1 [.int .i64 kind, .int .i64 0] rfl rfl ?c1 ?c2 ?c3 ?c4 ?c5 ?_)
      case c1 => exact cell_two_new _ _ _ _
      case c2 => intro u hu; simp at hu; rcases hu with rfl | rfl <;> rfl
      case c3 => unfold maxLen; omega
      case c4 => omega
      case c5 => simp; omega
      intro lv' w1 hown' hgrow _
      obtain ⟨k1, k2⟩ := KEEP.out _ _ hgrow
      have hnext := NEXT.out _ _ _ hown' hgrow
      obtain ⟨a', cap', rfl, _, _, _⟩ := owns_shape hown'
      clear NEXT KEEP hown' hgrow hrow hl3 hl3a
      go_wp2
      go_roundw
      case rel => exact ⟨k + 1, by omega, by go_num, hnext⟩
      case measure => simp [intOf]; omega
    · obtain rfl : k = n := by omega
      have P := (xarr_put (cls := cls) hR HK.out hrow ho hroom)
      obtain ⟨la, lc, rfl, _, _, _⟩ := owns_shape hrow
      have d0 := cell_in hblk 0 rfl
      have d1 := cell_in hblk 1 rfl
      have d2 := cell_in hblk 2 rfl
      have d3 := cell_in hblk 3 rfl
      have FIN : ∀ e w', XArrPost V base fp xb most used ts kind cls k e w' → XArrPost w base fp xb most used ts kind cls k e w' := fun e w' ⟨h1, fp', sv', tp', h2, h3, h4⟩ =>
        ⟨h1, fp', sv', tp', h2, fun x hx => (h3 x hx).imp id (by rw [HS.out]; exact id), (hO.mono (by simp)).trans h4 fun x hx => .inl hx⟩
      have HP := Lib.hid P
      have HF := Lib.hid FIN
      clear hrow hblk ho P FIN hR hO HS
      go_wp2_with (go_at_call 61; refine HP.out.mono ?_; rintro e w' ⟨rfl, hfin⟩)
      go_ret2
      exact HF.out _ _ hfin
set_option maxHeartbeats 1000000 in
theorem XArray_any (h : XRep w base fp xb most used sv tp ts) (kind cls n : Int) :
    Calls Try.prog 40 #[.pointer (some ⟨xb, 0, none⟩), .int .i64 kind, .int .i64 cls, .int .i64 n] w (XArrPost w base fp xb most used ts kind cls n) := by
  have u0 := h.used0
  have u1 := h.usedM
  have u2 := h.most0
  have c0 := h.c0
  have c1 := h.c1
  have K0 := fun q => xkind_q kind w q
  by_cases hn : n < 0
  · have hB : arrB most used kind n = false := by unfold arrB; rw [Bool.and_eq_false_iff]; exact .inr (decide_eq_false (by omega))
    have FIN := Lib.hid (fun w' (ho : Out [] w w') => xarr_not (cls := cls) h ho hB)
    have hd : decide (n < 0) = true := decide_eq_true hn
    clear h hB
    go_enter Try.func40, Try.ntmps40
    go_wp2
    go_quiet ((go_at_call 60; exact K0 _))
    go_wp2
    go_ret2
    exact FIN.out _ ((Out.refl _ _).drewN _)
  · have hd : decide (n < 0) = false := decide_eq_false hn
    cases hk : isK kind with
    | false =>
      have hB : arrB most used kind n = false := by unfold arrB; rw [hk]; rfl
      have FIN := Lib.hid (fun w' (ho : Out [] w w') => xarr_not (cls := cls) h ho hB)
      rw [hk] at K0
      clear h hB hk
      go_enter Try.func40, Try.ntmps40
      go_wp2
      go_quiet ((go_at_call 60; exact K0 _))
      go_wp2
      go_ret2
      exact FIN.out _ ((Out.refl _ _).drewN _)
    | true =>
      by_cases hroom : n < most - used
      · obtain ⟨m, rfl⟩ : ∃ m : Nat, n = m := ⟨n.toNat, by omega⟩
        exact XArray_yes h kind cls m hk hroom
      · have hB : arrB most used kind n = false := by unfold arrB; rw [Bool.and_eq_false_iff]; exact .inr (decide_eq_false (by omega))
        have FIN := Lib.hid (fun w' (ho : Out [] w w') => xarr_not (cls := cls) h ho hB)
        rw [hk] at K0
        clear h hB hk
        go_enter Try.func40, Try.ntmps40
        go_wp2
        go_quiet ((go_at_call 60; exact K0 _))
        go_wp2
        go_ret2
        exact FIN.out _ ((Out.refl _ _).drewN _)
end
end Go.Proofs.Ytdelikjodacedaa
