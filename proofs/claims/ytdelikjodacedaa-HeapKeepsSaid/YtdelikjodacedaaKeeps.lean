/- HeapKeeps: the walk: of any sizes and puts it returns true and leaves what was there. -/
import Derived.Test.YtdelikjodacedaaKeepsC
import Derived.Test.YtdelikjodacedaaOpenI
import Derived.StillTailTactics
namespace Go.Proofs.Ytdelikjodacedaa
open Go.RowKit

theorem Try.infoInt : (Try.prog.info? 3).map (fun i => (i.zero, i.size, i.bytes)) = some (some (.int .i64 0), 1, 8) := by kernel_rfl
theorem Try.infoInts : (Try.prog.info? 37).map (fun i => (i.zero, i.size, i.bytes)) = some (some (.slice none 0 0), 1, 24) := by kernel_rfl
theorem add_block' (a : Addr) (n : Nat) : (a.add n).block = a.block := by unfold Addr.add; split <;> rfl
theorem cellsOf_bd {wl : List (List Int)} (h : ∀ l ∈ wl, l.length ≤ 20) : 0 ≤ cellsOf wl ∧ cellsOf wl ≤ 21 * wl.length := by
  induction wl with
  | nil => simp [cellsOf]
  | cons l wl ih =>
    have h1 := ih fun x hx => h x (by simp [hx])
    have h2 := h l (by simp)
    simp only [cellsOf, List.map_cons, List.sum_cons, List.length_cons] at h1 ⊢
    omega
theorem KRel.wrow {B : Nat} {w0 : World} {hb : Nat} {wv : Value} {rv : List Value} {wl : List (List Int)} {used : Int} {ts : List Thg} {w : World} (h : KRel B w0 hb wv rv wl used ts w) : w.ownsRow B 37 1 wv wl.length rv := by
  obtain ⟨_, _, fp, sv, tp, gp, _, hW, _⟩ := h
  exact hW.row
/-- One of the rows: its slice, where that lies, what it holds. -/
theorem KRel.at {B : Nat} {w0 : World} {hb : Nat} {oa : Option Addr} {len cap : Nat} {rv : List Value} {wl : List (List Int)} {used : Int} {ts : List Thg} {w : World} (h : KRel B w0 hb (.slice oa len cap) rv wl used ts w) {r : Nat} (hr : r < wl.length) :
    ∃ (g : Nat) (v : Value) (l : List Int), oa = some ⟨g, 0, none⟩ ∧ w.cell? ⟨g, r, none⟩ = some v ∧ rv[r]? = some v ∧ wl[r]? = some l ∧ w.ownsRow B 3 1 v l.length (l.map (Value.int .i64)) := by
  obtain ⟨_, _, fp, sv, tp, gp, _, hW, _⟩ := h
  have hrow := hW.row
  obtain ⟨a, c, he, _, _, hat⟩ := owns_shape hrow
  cases he
  obtain ⟨g, rfl, _, _, hcell, _⟩ := hat (by omega)
  have hv : rv[r]? = some (rv[r]'(by rw [hW.len]; exact hr)) := by simp
  have hl : wl[r]? = some (wl[r]'hr) := by simp
  exact ⟨g, _, _, rfl, hcell r _ hv, hv, hl, (hW.rows r _ _ hv hl).2⟩
theorem KRel.wcell {B : Nat} {w0 : World} {hb : Nat} {g len cap : Nat} {rv : List Value} {wl : List (List Int)} {used : Int} {ts : List Thg} {w : World} (h : KRel B w0 hb (.slice (some ⟨g, 0, none⟩) len cap) rv wl used ts w) {r : Nat} {v : Value} (hv : rv[r]? = some v) : w.cell? ⟨g, r, none⟩ = some v := by
  obtain ⟨_, _, fp, sv, tp, gp, _, hW, _⟩ := h
  have := hW.row.cells (g := g) rfl r v hv
  have hadd : (⟨g, 0, none⟩ : Addr).add r = ⟨g, r, none⟩ := by unfold Addr.add; split <;> simp_all
  rwa [hadd] at this
theorem KRel.vrow {B : Nat} {w0 : World} {hb : Nat} {wv : Value} {rv : List Value} {wl : List (List Int)} {used : Int} {ts : List Thg} {w : World} (h : KRel B w0 hb wv rv wl used ts w) {r : Nat} {v : Value} {l : List Int} (hv : rv[r]? = some v) (hl : wl[r]? = some l) : w.ownsRow B 3 1 v l.length (l.map (Value.int .i64)) := by
  obtain ⟨_, _, fp, sv, tp, gp, _, hW, _⟩ := h
  exact (hW.rows r v l hv hl).2
theorem put_rows {wl : List (List Int)} {r : Nat} {l : List Int} (hl : wl[r]? = some l) (A : Nat) (x : Int) :
    putB (tsOf wl) (r + 1) A 2 x = decide (A < l.length) ∧ putT (tsOf wl) (r + 1) A 2 x = if A < l.length then tsOf (wl.set r (l.set A x)) else tsOf wl := by
  have hlook : look (tsOf wl) (r + 1) = ⟨true, 2, r, l.map fun x => (2, x)⟩ := look_some (by rw [tsOf_get, hl]; rfl)
  have hB : putB (tsOf wl) (r + 1) A 2 x = decide (A < l.length) := by
    unfold putB
    rw [hlook]
    by_cases h : A < l.length
    · rw [getV_some (p := (2, l[A])) (by simp [h])]
      have : wrapOf 2 x = x := rfl
      simp [getB, h, this]
    · simp [getB, h]
  refine ⟨hB, ?_⟩
  unfold putT
  rw [hB, hlook]
  by_cases h : A < l.length
  · rw [if_pos h, if_pos (by simpa using h), show ((r : Int) + 1 - 1).toNat = r by omega, Int.toNat_natCast]
    exact tsOf_set wl r l hl A x
  · rw [if_neg h, if_neg (by simpa using h)]
theorem KRel.get {B : Nat} {w0 : World} {hb : Nat} {wv : Value} {rv : List Value} {wl : List (List Int)} {used : Int} {w : World} (h : KRel B w0 hb wv rv wl used (tsOf wl) w) {q j : Nat} {l : List Int} {x : Int} (hl : wl[q]? = some l) (hx : l[j]? = some x) :
    Calls Try.prog 34 #[.pointer (some ⟨hb, 0, none⟩), .int .i64 (q + 1), .int .i64 j] w fun e w' => e = .returned (.tuple #[.agg #[.int .i64 2, .int .i64 x], .bool true]) ∧ KRel B w0 hb wv rv wl used (tsOf wl) w' := by
  have hlook : look (tsOf wl) (q + 1) = ⟨true, 2, q, l.map fun x => (2, x)⟩ := look_some (by rw [tsOf_get, hl]; rfl)
  have hj := lt_of_get hx
  have e1 : getV ⟨true, 2, q, l.map fun x => (2, x)⟩ j = (2, x) := getV_some (by rw [List.getElem?_map, hx]; rfl)
  have e2 : getB ⟨true, 2, q, l.map fun x => (2, x)⟩ j = true := decide_eq_true ⟨by omega, by simp; omega⟩
  have G := Get_any h.a (q + 1) j
  unfold GetPost at G
  rw [hlook, e1, e2] at G
  exact G.mono fun e w' ⟨he, ho⟩ => ⟨he, h.out ho⟩
theorem bring_in {x : Int} {n : Nat} (hn : 0 < n) : ∃ m : Nat, bringF x n = m ∧ m < n := by
  unfold bringF
  rw [if_pos (by omega)]
  have h1 := Int.emod_nonneg x (b := n) (by omega)
  have h2 := Int.emod_lt_of_pos x (b := n) (by omega)
  exact ⟨(x % n).toNat, by omega, by omega⟩

set_option maxRecDepth 100000 in
set_option maxHeartbeats 4000000 in
theorem HeapKeeps_walk (sv : Value) (n : Nat) (pv : Value) (m : Nat) (w : World) (hs : Ints 1 w sv n) (hp : Ints 3 w pv m) : Calls Try.prog 10 #[sv, pv] w fun e w' => e = .returned (.bool true) ∧ Below w.heap.size w w' := by
  have hB : w.heap.size ≤ w.heap.size := Nat.le_refl _
  obtain ⟨i0, hi, hz0, hz1, hz2⟩ := info_parts Try.infoInt
  obtain ⟨i1, hj, hy0, hy1, hy2⟩ := info_parts Try.infoInts
  obtain ⟨sa, sc, rfl, hsc, hsm, hsx⟩ := hs
  obtain ⟨pa, pc, rfl, hpc, hpm, hpx⟩ := hp
  unfold maxLen at hsm hpm
  have SX := Lib.hid hsx
  have PX := Lib.hid hpx
  clear hsx hpx
  go_enter Try.func10, Try.ntmps10
  go_wp2_with (first
    | (go_at_call 13; (with_reducible refine (works_any _).mono ?_); rintro e w3 ⟨rfl, hw3⟩)
    | (go_at_call 28; (with_reducible refine (New_in w.heap.size w 1000 1000 (by decide) (by decide) hw3 hB).mono ?_); clear hw3; rintro e w' ⟨hb, rfl, hIn⟩))
  have st := KRel.start hIn
  clear hIn
  go_loopw [6, 7, 8] (fun wv c i wr => ∃ rv wl, wl.length ≤ 10 ∧ wl.length ≤ n ∧ (∀ l ∈ wl, l.length ≤ 20) ∧ i = .int .i64 wl.length ∧ c = .int .i64 (cellsOf wl) ∧ KRel w.heap.size w hb wv rv wl (cellsOf wl) (tsOf wl) wr) (fun _ _ i _ => n - (intOf i).toNat)
  case atStart => exact ⟨[], [], by simp, by simp, by simp, rfl, rfl, st⟩
  case round =>
    clear st
    obtain ⟨rv, wl, h10, hwn, hll, rfl, rfl, hK⟩ := hrel
    by_cases hlt : wl.length < n ∧ wl.length < 10
    · obtain ⟨b, o, rfl, hab, hcell⟩ := SX.out _ hlt.1
      obtain ⟨x, hx⟩ := hcell 0 (by omega)
      rw [Nat.mul_one, Nat.add_zero] at hx
      have hx' := (hK.1.cell (p := ⟨b, o + wl.length, none⟩) hab).trans hx
      obtain ⟨N, hN, hN20⟩ := bring_in (x := x) (n := 20) (by omega)
      have K1 := fun v => Bring_any x 20 (by omega) v
      rw [show bringF x 20 = N from hN] at K1
      have HK1 := Lib.hid K1
      obtain ⟨c0, c1⟩ := cellsOf_bd hll
      have K2 := Lib.hid (hK.array wl.length N (by omega) (by omega))
      rw [tsOf_length] at K2
      clear K1 hN hx hcell hab hK
      obtain ⟨hl1, hl2⟩ := hlt
      generalize hL : wl.length = L at *
      go_wp2_with (first
        | (go_at_call 17; (with_reducible refine (HK1.out _).mono ?_); rintro e w' ⟨rfl, rfl⟩)
        | (go_at_call 29; (with_reducible refine K2.out.mono ?_); rintro e w1 ⟨rfl, hK1⟩)
        | (at_make; refine wpList_make_full _ rfl _ _ 37 rfl w1.heap.size 3 i0 (.int .i64 0) 1 Try.underlying37 hi hz0 hz1 .i64 .i64 N N N rfl rfl rfl rfl ?c1 ?c2 ?c3 ?_))
      case c1 => rw [hz2]; omega
      case c2 => unfold maxLen; omega
      case c3 => exact Nat.le_refl _
      intro w2 hrow2 hgrow2
      rw [toList_madeCells_one] at hrow2
      have ho2 : Out [] w1 w2 := (Out.refl _ _).grown hgrow2 (by simp)
      have hw1 := hK1.1.size
      have hsz12 : w.heap.size ≤ w2.heap.size := by have := ho2.size; omega
      have hrow3 : w2.ownsRow w.heap.size 3 1 (.slice (some ⟨w1.heap.size, 0, none⟩) N N) N ((List.replicate N (0 : Int)).map (Value.int .i64)) := by rw [List.map_replicate]; exact ownsRow_base hrow2 hw1
      have hown := (hK1.out ho2).wrow
      rw [hL] at hown
      have NEXT : ∀ (o : Obj) (w4 : World) (wv' : Value), w4.ownsRow w.heap.size 37 1 wv' (L + 1) (rv ++ [.slice (some ⟨w1.heap.size, 0, none⟩) N N]) → (w2.alloc o).grownBy w4 u6.ownBlock → (∀ k, wv'.ownBlock = some k → u6.ownBlock = some k ∨ w2.heap.size + 1 ≤ k) →
          KRel w.heap.size w hb wv' (rv ++ [.slice (some ⟨w1.heap.size, 0, none⟩) N N]) (wl ++ [List.replicate N 0]) (cellsOf (wl ++ [List.replicate N 0])) (tsOf (wl ++ [List.replicate N 0])) w4 := fun o w4 wv' h1 h2 h3 => by
        have := hK1.row ho2 (l := List.replicate N 0) (g := w1.heap.size) (cap := N) (by simpa using hrow3) (Nat.le_refl _) (o := o) (w1 := w4) (wv' := wv') (by rw [hL]; simpa using h1) h2 h3
        rw [tsOf_snoc, cellsOf_snoc, hL]
        simpa [Int.add_assoc] using this
      have HNEXT := Lib.hid NEXT
      have c2 : cellsOf (wl ++ [List.replicate N 0]) = cellsOf wl + N + 1 := by rw [cellsOf_snoc]; simp; omega
      have hll2 : ∀ l ∈ wl ++ [List.replicate N 0], l.length ≤ 20 := fun l hl => by
        rcases List.mem_append.1 hl with hl | hl
        · exact hll l hl
        · simp at hl; subst hl; simp; omega
      clear NEXT hrow2 hgrow2 hrow3 hK1 ho2 hw1 HK1 K2 hll
      go_wp2_with (at_builtin; refine wpList_append_at _ rfl _ _ 41 rfl w.heap.size 37 i1 (.slice none 0 0) 1 24 Try.underlying41 hj hy0 hy1 hy2 rfl (by decide) _ _ _ rfl (hown.alloc _) ⟨w2.heap.size, 0, none⟩ 1 1 [.slice (some ⟨w1.heap.size, 0, none⟩) N N] rfl rfl ?c1 ?c2 ?c3 ?c4 ?c5 ?_)
      case c1 => exact cell_one_new _ _ _
      case c2 => intro u hu; simp at hu; subst hu; rfl
      case c3 => unfold maxLen; omega
      case c4 => omega
      case c5 => simp; omega
      intro wv' w4 hown4 hgrow4 hat4
      have hN := HNEXT.out _ _ _ hown4 hgrow4 (by simpa using hat4)
      clear HNEXT hown hown4 hgrow4 hat4
      go_wp2
      go_roundw
      case rel => exact ⟨_, _, by simp; omega, by simp; omega, hll2, by simp [hL], by rw [c2]; congr 1; omega, hN⟩
      case measure => simp [intOf]; omega
    · have hb2 := cellsOf_bd hll
      have hw6 := hK.wrow
      obtain ⟨oa6, cap6, rfl, hc6, hm6, _⟩ := owns_shape hw6
      unfold maxLen at hm6
      clear hwn
      rcases (show n ≤ wl.length ∨ wl.length < n ∧ 10 ≤ wl.length by omega) with hx | ⟨hx, hx'⟩
      all_goals
        clear hlt
        go_wp2
        go_loopw [12] (fun i wr => ∃ (k : Nat) (wl2 : List (List Int)), k ≤ m ∧ i = .int .i64 k ∧ wl2.map List.length = wl.map List.length ∧ KRel w.heap.size w hb (.slice oa6 wl.length cap6) rv wl2 (cellsOf wl) (tsOf wl2) wr) (fun i _ => m - (intOf i).toNat)
        case atStart => exact ⟨0, wl, Nat.zero_le _, rfl, rfl, hK⟩
        case round =>
          clear hK hw6
          obtain ⟨k, wl2, hkm, rfl, hmap, hK⟩ := hrel
          have hlen : wl2.length = wl.length := by have := congrArg List.length hmap; simpa using this
          by_cases hk : k < m ∧ k < 50 ∧ 0 < wl.length
          · obtain ⟨hk1, hk2, hk3⟩ := hk
            obtain ⟨b, o, rfl, hab, hcell⟩ := PX.out _ hk1
            obtain ⟨x0, hx0⟩ := hcell 0 (by omega)
            obtain ⟨x1, hx1⟩ := hcell 1 (by omega)
            obtain ⟨x2, hx2⟩ := hcell 2 (by omega)
            rw [← hK.1.cell (p := ⟨b, _, none⟩) hab] at hx0 hx1 hx2
            rw [Nat.add_zero] at hx0
            clear hcell
            obtain ⟨R, hR, hRl⟩ := bring_in (x := x0) hk3
            have K1 := fun v => Bring_any x0 wl.length (by omega) v
            rw [hR] at K1
            have HK1 := Lib.hid K1
            clear K1
            obtain ⟨gw, v, l, rfl, hwc, hrv, hwl, hvrow⟩ := hK.at (r := R) (by omega)
            obtain ⟨va, vc, rfl, hv1, hv2, hvat⟩ := owns_shape hvrow
            unfold maxLen at hv2
            have hl20 : l.length ≤ 20 := by
              have h1 : l.length ∈ wl.map List.length := hmap ▸ List.mem_map_of_mem (List.mem_of_getElem? hwl)
              obtain ⟨l', hl', e⟩ := List.mem_map.1 h1
              have := hll l' hl'
              omega
            obtain ⟨A, hA, hAl⟩ := bring_in (x := x1) (n := l.length + 1) (by omega)
            have K2 := fun v => Bring_any x1 (l.length + 1) (by omega) v
            rw [show bringF x1 ((l.length : Int) + 1) = A from by simpa using hA] at K2
            have HK2 := Lib.hid K2
            obtain ⟨hB1, hT1⟩ := put_rows hwl A x2
            have PUT := hK.put (R + 1) A x2
            rw [hB1, hT1] at PUT
            have hmap2 : (wl2.set R (l.set A x2)).map List.length = wl.map List.length := by
              rw [← hmap, List.map_set, List.length_set]
              apply List.ext_getElem?
              intro q
              rw [List.getElem?_set]
              by_cases hq : R = q
              · subst hq
                rw [if_pos rfl, List.getElem?_map, hwl]
                simp; omega
              · rw [if_neg hq]
            by_cases hAl2 : A < l.length
            · obtain ⟨gv, rfl, _, _, _, hvf⟩ := hvat (by omega)
              rw [decide_eq_true hAl2, if_pos hAl2] at PUT
              have HPUT := Lib.hid PUT
              have HOLD := Lib.hid hK
              clear K2 hA hR PUT hB1 hT1 hK hvat hvf hvrow
              go_wp2_with (first
                | (go_at_call 30; (with_reducible refine HPUT.out.mono ?_); rintro e w' ⟨rfl, hK2⟩)
                | (go_at_call 17; (with_reducible refine (HK2.out _).mono ?_); rintro e w' ⟨rfl, rfl⟩)
                | (go_at_call 17; (with_reducible refine (HK1.out _).mono ?_); rintro e w' ⟨rfl, rfl⟩))
              have hx3 : w'.cell? ⟨b, o + k * 3 + 2, none⟩ = some (.int .i64 x2) := (hK2.1.cell (p := ⟨b, o + k * 3 + 2, none⟩) hab).trans ((HOLD.out.1.cell (p := ⟨b, o + k * 3 + 2, none⟩) hab).symm.trans hx2)
              have hwc2 := hK2.wcell hrv
              have R2 := hK2.out ((Out.refl [] w').drew)
              have e0 : w'.drew.cell? ⟨b, o + k * 3 + 2, none⟩ = some (.int .i64 x2) := hx3
              have e1 : w'.drew.cell? ⟨gw, R, none⟩ = some (.slice (some ⟨gv, 0, none⟩) l.length vc) := hwc2
              have VR := R2.vrow hrv hwl
              have q0 := VR.cellAt A (by omega)
              rw [List.getElem?_map, List.getElem?_eq_getElem hAl2] at q0
              simp only [Option.map] at q0
              have q1 := VR.frozenAt A
              have FIN := Lib.hid (R2.set hwl hrv A x2)
              clear hx3 hwc2 R2 VR HOLD HPUT HK1 HK2 hK2 hx0 hx1 hx2 hwc
              refine wp_region_still_tail 10 (by kernel_rfl) (by kernel_rfl) ?_
              simp only [List.take_succ_cons, List.take_zero, List.drop_succ_cons, List.drop_zero]
              change wpStill _ _ w'.drew (fun a' => wpList _ _ _ _ a' w'.drew) _ _
              generalize w'.drew = V at *
              repeat still_step
              refine wpStill_nil ?_
              go_wp2
              go_roundw
              case rel => exact ⟨k + 1, _, by omega, by go_num, hmap2, FIN.out⟩
              case measure => simp [intOf]; omega
            · rw [decide_eq_false hAl2, if_neg hAl2] at PUT
              have HPUT := Lib.hid PUT
              clear K2 hA hR PUT hB1 hT1 hvat hvrow hK
              go_wp2_with (first
                | (go_at_call 30; (with_reducible refine HPUT.out.mono ?_); rintro e w' ⟨rfl, hK2⟩)
                | (go_at_call 17; (with_reducible refine (HK2.out _).mono ?_); rintro e w' ⟨rfl, rfl⟩)
                | (go_at_call 17; (with_reducible refine (HK1.out _).mono ?_); rintro e w' ⟨rfl, rfl⟩))
              go_roundw
              case rel => exact ⟨k + 1, wl2, by omega, by go_num, hmap, hK2⟩
              case measure => simp [intOf]; omega
          · rcases (show m ≤ k ∨ k < m ∧ 50 ≤ k ∨ k < m ∧ k < 50 ∧ wl.length ≤ 0 by omega) with h | ⟨h, h'⟩ | ⟨h, h', h''⟩
            all_goals
              try (exfalso; omega)
              all_goals
                clear hk
                go_wp2
                try clear h''
                go_loopw [16] (fun i wr => ∃ k : Nat, k ≤ wl.length ∧ i = .int .i64 k ∧ KRel w.heap.size w hb (.slice oa6 wl.length cap6) rv wl2 (cellsOf wl) (tsOf wl2) wr) (fun i _ => wl.length - (intOf i).toNat)
                case atStart => exact ⟨0, Nat.zero_le _, rfl, hK⟩
                case round =>
                  clear hK
                  obtain ⟨q, hq, rfl, hK⟩ := hrel
                  by_cases hql : q < wl.length
                  · try (exfalso; omega)
                    all_goals
                      obtain ⟨gw, v, l, rfl, hwc, hrv, hwl, hvrow⟩ := hK.at (r := q) (by omega)
                      obtain ⟨va, vc, rfl, hv1, hv2, hvat⟩ := owns_shape hvrow
                      unfold maxLen at hv2
                      have ht : (tsOf wl2)[q]? = some ⟨true, 2, q, l.map fun x => (2, x)⟩ := by rw [tsOf_get, hwl]; rfl
                      have LQ := hK.len_q q _ ht
                      have CQ := hK.class_q q _ ht
                      have AQ := hK.isArray_q q _ ht
                      simp only [List.length_map] at LQ
                      have HLQ := Lib.hid LQ
                      have HCQ := Lib.hid CQ
                      have HAQ := Lib.hid AQ
                      have HK := Lib.hid hK
                      clear LQ CQ AQ hK ht
                      go_wp2
                      go_quiet ((first
                        | (go_at_call 31; with_reducible exact HLQ.out _)
                        | (go_at_call 32; with_reducible exact HCQ.out _)
                        | (go_at_call 33; with_reducible exact HAQ.out _)))
                      go_wp2
                      have st3 := HK.out.out ((Out.refl [] wr).drewN nq)
                      go_loopw [17] (fun i wi => ∃ j : Nat, j ≤ l.length ∧ i = .int .i64 j ∧ KRel w.heap.size w hb (.slice (some ⟨gw, 0, none⟩) wl.length cap6) rv wl2 (cellsOf wl) (tsOf wl2) wi) (fun i _ => l.length - (intOf i).toNat)
                      case atStart => exact ⟨0, Nat.zero_le _, rfl, st3⟩
                      case round =>
                        clear st3 HK HLQ HCQ HAQ hwc
                        obtain ⟨j, hj, rfl, hK⟩ := hrel
                        have hwc := hK.wcell hrv
                        by_cases hjl : j < l.length
                        · obtain ⟨gv, rfl, _, _, _, _⟩ := hvat (by omega)
                          obtain ⟨x, hx⟩ : ∃ x, l[j]? = some x := ⟨l[j], by simp [hjl]⟩
                          have G := Lib.hid (hK.get hwl hx)
                          clear hK hvat
                          go_wp2_with (go_at_call 34; (with_reducible refine G.out.mono ?_); rintro e w5 ⟨rfl, hK⟩)
                          have hK6 := hK.out ((Out.refl [] w5).alloc (.cells #[.int .i64 2, .int .i64 x] 45))
                          have d := heap_alloc_new w5 (.cells #[.int .i64 2, .int .i64 x] 45)
                          have d0 := cell_in d 0 rfl
                          have d1 := cell_in d 1 rfl
                          have hwc6 := hK6.wcell hrv
                          have q0 := (hK6.vrow hrv hwl).cellAt j (by omega)
                          rw [List.getElem?_map, hx] at q0
                          simp only [Option.map] at q0
                          have HK := Lib.hid hK6
                          clear hK hK6 d hwc G
                          generalize w5.alloc (.cells #[.int .i64 2, .int .i64 x] 45) = w6 at *
                          go_quiet (fail)
                          have hK := HK.out.out ((Out.refl [] w6).drewN nq)
                          clear HK hwc6 q0 d0 d1
                          go_wp2
                          go_roundw
                          case rel => exact ⟨j + 1, by omega, by go_num, hK⟩
                          case measure => simp [intOf]; omega
                        · clear hvat
                          go_wp2
                          go_roundw
                          case rel => exact ⟨q + 1, by omega, by go_num, hK⟩
                          case measure => simp [intOf]; omega
                  · have CELLS := hK.cells
                    go_wp2_with (go_at_call 35; (with_reducible refine CELLS.mono ?_); rintro e w5 ⟨rfl, rfl⟩)
                    go_ret
                    exact ⟨by simp, hK.1⟩
end Go.Proofs.Ytdelikjodacedaa
