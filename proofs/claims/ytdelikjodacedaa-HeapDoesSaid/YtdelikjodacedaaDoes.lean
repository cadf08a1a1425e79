/- HeapDoes: the walk: of any room and deeds it returns true and leaves what was there. -/
import Derived.Test.YtdelikjodacedaaDoesE
import Derived.Deep.DeepCutAuto
import Derived.Deep.CutBlock
namespace Go.Proofs.Ytdelikjodacedaa
open Go.RowKit

set_option maxRecDepth 100000 in
set_option maxHeartbeats 16000000 in
theorem HeapDoes_walk (most : Int) (lv : Value) (n : Nat) (w : World) (hd : Deeds w lv n) : Calls Try.prog 11 #[.int .i64 most, lv] w fun e w' => e = .returned (.bool true) ∧ Below w.heap.size w w' := by
  obtain ⟨la, lc, rfl, hlc, hlm, hat⟩ := hd
  unfold maxLen at hlm
  have AT := Lib.hid hat
  clear hat
  go_enter Try.func11, Try.ntmps11
  go_upto_region 1 with fail
  go_cut [0] (fun m wx => w = wx ∧ ∃ m0 : Int, m = .int .i64 m0 ∧ m0 ≤ 5000)
  case first =>
    go_wp2
    all_goals go_meet
    all_goals exact ⟨rfl, _, rfl, by omega⟩
  case rest =>
    obtain ⟨rfl, m0, rfl, hm0⟩ := hcut
    go_wp2_with (first
      | (go_at_call 28; (with_reducible refine (New_any _ _).mono ?_); rintro e w1 ⟨rfl, rfl⟩)
      | (go_at_call 36; (with_reducible refine (XNew_any _ _).mono ?_); rintro e w1 ⟨rfl, rfl⟩))
    have hS := Eqs.start w (max m0 0) (by omega) (by omega)
    generalize max m0 0 = M at *
    generalize w.heap.size + 1 = xb at *
    obtain ⟨B, hB⟩ : ∃ B, B = w.heap.size := ⟨_, rfl⟩
    have HB := Lib.hid hB
    rw [← hB] at hS ⊢
    clear hB
    go_loopg [7] n (fun g i wr => ∃ k : Nat, k ≤ n ∧ g = n - k ∧ i = .int .i64 k ∧ Eqs B w B xb M [] wr)
    case atStart => exact ⟨0, by omega, by omega, rfl, hS⟩
    case round =>
      clear hS
      obtain ⟨k, hkn, rfl, rfl, hE⟩ := hrel
      go_upto_region 4 with fail
      go_cut [41] (fun t wx => wr = wx ∧ t = .bool (decide (k < n ∧ k < 80)))
      case first =>
        by_cases h1 : k < n
        · by_cases h2 : k < 80
          · go_wp2
            go_meet
            case rel => exact ⟨rfl, by simp [h1]; omega⟩
          · go_wp2
            go_meet
            case rel => exact ⟨rfl, by simp [h1]; omega⟩
        · go_wp2
          go_meet
          case rel => exact ⟨rfl, by simp [h1]⟩
      case rest =>
        obtain ⟨rfl, rfl⟩ := hcut
        by_cases hk : k < n ∧ k < 80
        · rw [decide_eq_true hk]
          obtain ⟨u, ts, hK, hD⟩ := hE
          obtain ⟨hk1, hk2⟩ := hk
          obtain ⟨b, o, dk, dA, dB, dC, kv, kn, ks, dx, dy, rfl, hbl, hkr, hd0, hd1, hd2, hd3, hd4, hd5, hd6⟩ := AT.out k hk1
          have hb1 := hD.below
          rw [HB.out] at hb1
          have c0 := (hb1.cell (p := ⟨b, _, none⟩) hbl).trans hd0
          have c1 := (hb1.cell (p := ⟨b, _, none⟩) hbl).trans hd1
          have c2 := (hb1.cell (p := ⟨b, _, none⟩) hbl).trans hd2
          have c3 := (hb1.cell (p := ⟨b, _, none⟩) hbl).trans hd3
          have c4 := (hb1.cell (p := ⟨b, _, none⟩) hbl).trans hd4
          have c5 := (hb1.cell (p := ⟨b, _, none⟩) hbl).trans hd5
          have c6 := (hb1.cell (p := ⟨b, _, none⟩) hbl).trans hd6
          obtain ⟨oa, kc, rfl, hkc1, hkc2, hkc3⟩ := hkr.shape
          obtain ⟨N, hN, hN4⟩ := bringD (x := dk) (n := 4) (by omega)
          have K1 := fun v => Bring_any dk 4 (by omega) v
          rw [show bringF dk 4 = N from hN] at K1
          have HK1 := Lib.hid K1
          have HKR := Lib.hid hkr
          have HD := Lib.hid hD
          clear hd0 hd1 hd2 hd3 hd4 hd5 hd6 K1 hN hkr hD hb1 hbl
          go_upto_block 2 with (go_at_call 17; (with_reducible refine (HK1.out _).mono ?_); rintro e w' ⟨rfl, rfl⟩)
          have hD1 := HD.out.new (.cells #[.int .i64 dk, .int .i64 dA, .int .i64 dB, .int .i64 dC, .slice oa kn kc, .int .i64 dx, .int .i64 dy] 56)
          have hV := hD1.below
          rw [HB.out] at hV
          have HKV := Lib.hid (HKR.out.world hV)
          generalize wr.alloc (.cells #[.int .i64 dk, .int .i64 dA, .int .i64 dB, .int .i64 dC, .slice oa kn kc, .int .i64 dx, .int .i64 dy] 56) = V at *
          generalize wr.heap.size = s8 at *
          obtain ⟨e1, e2, e3, e4, e5, e6⟩ := hD1.var7 (List.mem_cons_self ..)
          have HD1 := Lib.hid hD1
          clear hD1 hV c0 c1 c2 c3 c4 c5 c6 HD HKR HK1
          go_cut [] (fun wx => Eqs B w B xb M [(s8, .cells #[.int .i64 dk, .int .i64 dA, .int .i64 dB, .int .i64 dC, .slice oa kn kc, .int .i64 dx, .int .i64 dy] 56 (0, 0))] wx)
          case first =>
            rcases (show N = 0 ∨ N = 1 ∨ N = 2 ∨ N = 3 by omega) with rfl | rfl | rfl | rfl
            · as_aux_lemma =>
                go_upto_region 9 with fail
                go_cut [9] (fun kx wx => ∃ (a' : Option Addr) (cap' m' : Nat) (ks' : List Int), kx = .slice a' m' cap' ∧ m' ≤ 1000 ∧ ks'.length = m' ∧ DRel B w B xb M u ts u ts (.slice a' m' cap') ks' [(s8, .cells #[.int .i64 dk, .int .i64 dA, .int .i64 dB, .int .i64 dC, .slice oa kn kc, .int .i64 dx, .int .i64 dy] 56 (0, 0))] wx)
                case first =>
                  unfold maxLen at hkc2
                  by_cases hkn : kn ≤ 1000
                  · have CI := Lib.hid (CopyInts_any HKV.out hkn)
                    have HL : ks.length = kn := HKV.out.len
                    cases oa with
                    | none =>
                      obtain ⟨rfl, rfl⟩ := hkc3 rfl
                      go_wp2_with (go_at_call 37; (with_reducible refine CI.out.mono ?_); rintro e w5 ⟨a5, cap5, rfl, _, _, hown, ho⟩)
                      go_meet
                      case rel => exact ⟨a5, cap5, 0, ks, rfl, by omega, HL, HD1.out.row ho hown⟩
                    | some a0 =>
                      go_wp2_with (go_at_call 37; (with_reducible refine CI.out.mono ?_); rintro e w5 ⟨a5, cap5, rfl, _, _, hown, ho⟩)
                      go_meet
                      case rel => exact ⟨a5, cap5, kn, ks, rfl, by omega, HL, HD1.out.row ho hown⟩
                  · cases oa with
                    | none => exact absurd (hkc3 rfl).1 (by omega)
                    | some a0 =>
                      have KT := HKV.out.take (m := 1000) (by omega)
                      have CI := Lib.hid (CopyInts_any KT (Nat.le_refl _))
                      have HL : (ks.take 1000).length = 1000 := KT.len
                      go_wp2_with (go_at_call 37; (with_reducible refine CI.out.mono ?_); rintro e w5 ⟨a5, cap5, rfl, _, _, hown, ho⟩)
                      go_meet
                      case rel => exact ⟨a5, cap5, 1000, ks.take 1000, rfl, by omega, HL, HD1.out.row ho hown⟩
                case rest =>
                  obtain ⟨a', cap', m', ks', rfl, hm', hl', hD2⟩ := hcut
                  obtain ⟨r, bb, u', ts', hK', K2, K3⟩ := hD2.objects hK dA (by omega)
                  obtain ⟨f1, f2, f3, f4, f5, f6⟩ := hD2.var7 (List.mem_cons_self ..)
                  have HK2 := Lib.hid K2
                  have HK3 := Lib.hid K3
                  clear K2 K3 HD1 HKV e1 e2 e3 e4 e5 e6 hD2
                  go_wp2_with (first
                    | (go_at_call 38; (with_reducible refine HK2.out.mono ?_); clear f1 f2 f3 f4 f5 f6; rintro e w5 ⟨rfl, hD3⟩; obtain ⟨f1, f2, f3, f4, f5, f6⟩ := hD3.var7 (List.mem_cons_self ..))
                    | (go_at_call 39; (with_reducible refine (HK3.out _ hD3).mono ?_); clear f1 f2 f3 f4 f5 f6; rintro e w6 ⟨rfl, hD4⟩))
                  clear hD3
                  go_loopg [14] m' (fun g i wx => ∃ (j : Nat) (kk : List Int), j ≤ m' ∧ g = m' - j ∧ i = .int .i64 j ∧ kk.length = m' ∧ DRel B w B xb M u' ts' u' ts' (.slice a' m' cap') kk [(s8, .cells #[.int .i64 dk, .int .i64 dA, .int .i64 dB, .int .i64 dC, .slice oa kn kc, .int .i64 dx, .int .i64 dy] 56 (0, 0))] wx)
                  case atStart => exact ⟨0, ks', by omega, by omega, rfl, hl', hD4⟩
                  case round =>
                    clear hD4 HK2 HK3
                    obtain ⟨j, kk, hjm, rfl, rfl, hkk, hD5⟩ := hrel
                    by_cases hj : j < m'
                    · have hrow := hD5.rowIs
                      rw [hkk] at hrow
                      obtain ⟨a2, cap2, he, _, _, hat2⟩ := owns_shape hrow
                      cases he
                      obtain ⟨g2, rfl, _, _, hcell2, _⟩ := hat2 (by omega)
                      obtain ⟨x2, hx2⟩ : ∃ x2, kk[j]? = some x2 := ⟨kk[j]'(by omega), by simp⟩
                      have q0 := hcell2 j (.int .i64 x2) (by rw [List.getElem?_map, hx2]; rfl)
                      have fr0 := hrow.frozenAt j
                      have HD6 := Lib.hid (hD5.set hkk j 9)
                      clear hcell2 hat2 hrow hD5
                      go_wp2
                      go_roundg (m' - (j + 1))
                      case measure => omega
                      case rel => exact ⟨j + 1, kk.set j 9, by omega, by omega, by go_num, by simpa using hkk, HD6.out⟩
                    · have HD6 := Lib.hid (hD5.row (Out.refl [] _) (World.ownsRow_nil _ _ _ _) (ks' := []))
                      clear hD5
                      go_wp2
                      go_meet
                      case rel => exact ⟨u', ts', hK', HD6.out⟩
            · as_aux_lemma =>
                obtain ⟨r, bb, u', ts', hK', K2, K3⟩ := HD1.out.arrays hK dA dB dC
                have HK2 := Lib.hid K2
                have HK3 := Lib.hid K3
                clear K2 K3 HD1 HKV
                go_wp2_with (first
                  | (go_at_call 29; (with_reducible refine HK2.out.mono ?_); clear e1 e2 e3 e4 e5 e6; rintro e w5 ⟨rfl, hD3⟩; obtain ⟨f1, f2, f3, f4, f5, f6⟩ := hD3.var7 (List.mem_cons_self ..))
                  | (go_at_call 40; (with_reducible refine (HK3.out _ hD3).mono ?_); clear f1 f2 f3 f4 f5 f6; rintro e w6 ⟨rfl, hD4⟩))
                go_meet
                case rel => exact ⟨u', ts', hK', hD4⟩
            · as_aux_lemma =>
                obtain ⟨bb, ts', hK', K2, K3⟩ := (HD1.out.out ((Out.refl [] V).drew)).puts hK dA dB dx dy
                have h0 := HD1.out.out ((Out.refl [] V).drew)
                have HK2 := Lib.hid K2
                have HK3 := Lib.hid K3
                clear K2 K3 HD1 HKV
                go_wp2
                go_region_held (fun w' => w'.cell? ⟨s8, 1, none⟩ = some (.int .i64 dA) ∧ w'.cell? ⟨s8, 2, none⟩ = some (.int .i64 dB) ∧ w'.cell? ⟨s8, 3, none⟩ = some (.int .i64 dC) ∧ w'.cell? ⟨s8, 4, none⟩ = some (.slice oa kn kc) ∧ w'.cell? ⟨s8, 5, none⟩ = some (.int .i64 dx) ∧ w'.cell? ⟨s8, 6, none⟩ = some (.int .i64 dy))
                  (first
                    | exact h2.var7 (List.mem_cons_self ..)
                    | exact h1.var7 (List.mem_cons_self ..)
                    | exact h0.var7 (List.mem_cons_self ..))
                  (first
                    | (go_at_call 30; (with_reducible refine HK2.out.mono ?_); rintro e w' ⟨rfl, h1⟩)
                    | (go_at_call 41; (with_reducible refine (HK3.out _ h1).mono ?_); rintro e w' ⟨rfl, h2⟩))
                all_goals
                  go_wp2
                  go_meet
                  case rel => exact ⟨u, ts', hK', h2⟩
            · as_aux_lemma =>
                go_wp2
                go_meet
                case rel => exact ⟨u, ts, hK, HD1.out⟩
          case rest =>
            clear HD1 HKV e1 e2 e3 e4 e5 e6
            as_aux_lemma =>
              obtain ⟨u, ts, hK, hD1⟩ := hcut
              obtain ⟨x, y, bb, K2, K3⟩ := hD1.gets dA dB
              obtain ⟨e1, e2, e3, e4, e5, e6⟩ := hD1.var7 (List.mem_cons_self ..)
              have HK2 := Lib.hid K2
              have HK3 := Lib.hid K3
              clear K2 K3 hD1
              go_wp2_with (first
                | (go_at_call 34; (with_reducible refine HK2.out.mono ?_); clear e1 e2 e3 e4 e5 e6; rintro e w5 ⟨rfl, hD2⟩; have hD3 := hD2.new (.cells #[.int .i64 x, .int .i64 y] 45); clear hD2; obtain ⟨f1, f2, f3, f4, f5, f6⟩ := hD3.var7 (List.mem_cons_of_mem _ (List.mem_cons_self ..)))
                | (go_at_call 42; (with_reducible refine (HK3.out _ _ hD3).mono ?_); clear f1 f2 f3 f4 f5 f6; rintro e w6 ⟨rfl, hD4⟩))
              have h0 := (hD4.new (.cells #[.int .i64 x, .int .i64 y] 45)).out ((Out.refl [] _).drew)
              clear hD3 hD4 HK2 HK3
              generalize w6.alloc (.cells #[.int .i64 x, .int .i64 y] 45) = W at *
              generalize w6.heap.size = s21 at *
              generalize w5.heap.size = s19 at *
              go_region_held (fun w' => w'.cell? ⟨s19, 0, none⟩ = some (.int .i64 x) ∧ w'.cell? ⟨s19, 1, none⟩ = some (.int .i64 y) ∧ w'.cell? ⟨s21, 0, none⟩ = some (.int .i64 x) ∧ w'.cell? ⟨s21, 1, none⟩ = some (.int .i64 y) ∧ w'.cell? ⟨s8, 1, none⟩ = some (.int .i64 dA) ∧ w'.cell? ⟨xb, 1, none⟩ = some (.int .i64 u))
                (first
                  | exact h2.six
                  | exact h1.six
                  | exact h0.six)
                (first
                  | (go_at_call 43; (with_reducible refine (h0.same dA).mono ?_); rintro e w' ⟨rfl, h1, _⟩)
                  | (go_at_call 35; (with_reducible refine h1.cells.mono ?_); rintro e w' ⟨rfl, h2, _⟩))
              all_goals
                go_wp2
                go_roundg (n - (k + 1))
                case measure => omega
                case rel => exact ⟨k + 1, by omega, by omega, by go_num, u, ts, hK, h2.less (by simp)⟩
        · rw [decide_eq_false hk]
          obtain ⟨u, ts, hK, hD⟩ := hE
          clear hk
          go_wp2
          as_aux_lemma =>
            have hsm := hD.small
            go_loopg [23] (ts.length + 2) (fun g i wx => ∃ r : Nat, r ≤ ts.length + 2 ∧ g = ts.length + 2 - r ∧ i = .int .i64 r ∧ DRel B w B xb M u ts u ts (.slice none 0 0) [] [] wx)
            case atStart => exact ⟨0, by omega, by omega, rfl, hD⟩
            case round =>
              clear hD
              obtain ⟨r, hr, rfl, rfl, hD5⟩ := hrel
              obtain ⟨ta, tc, ct⟩ := hD5.xthings
              by_cases hrl : r ≤ ts.length + 1
              · have K44 := Lib.hid (hD5.of r)
                have KS : ∀ (w2 : World) (keep2 : List (Nat × Obj)), DRel B w B xb M u ts u ts (.slice none 0 0) [] keep2 w2 → Calls Try.prog 43 #[.pointer (some ⟨B, 0, none⟩), .pointer (some ⟨xb, 0, none⟩), .int .i64 r] w2 fun e w' => e = .returned (.bool true) ∧ DRel B w B xb M u ts u ts (.slice none 0 0) [] keep2 w' ∧ Out [] w2 w' := fun _ _ h => h.same r
                have KG : ∀ (w2 : World) (keep2 : List (Nat × Obj)) (j : Nat) (p : Int × Int), (look ts r).l[j]? = some p → DRel B w B xb M u ts u ts (.slice none 0 0) [] keep2 w2 → Calls Try.prog 34 #[.pointer (some ⟨B, 0, none⟩), .int .i64 r, .int .i64 j] w2 fun e w' => e = .returned (.tuple #[.agg #[.int .i64 p.1, .int .i64 p.2], .bool true]) ∧ DRel B w B xb M u ts u ts (.slice none 0 0) [] keep2 w' ∧ Out [] w2 w' := fun _ _ _ _ hp h => h.getAt r hp
                have HKS := Lib.hid KS
                have HKG := Lib.hid KG
                clear KS KG hD5
                generalize look ts r = t at *
                go_wp2_with (first
                  | (go_at_call 44; (with_reducible refine K44.out.mono ?_); clear ct; rintro e w5 ⟨a, cap, rfl, hD6, _, hrow6⟩; have hD7 := hD6.new (.cells #[.bool t.arr, .int .i64 t.kind, .int .i64 t.cls, .slice a t.l.length cap] 65); have hrow7 := hrow6.alloc (.cells #[.bool t.arr, .int .i64 t.kind, .int .i64 t.cls, .slice a t.l.length cap] 65); clear hD6 hrow6)
                  | (go_at_call 43; (with_reducible refine (HKS.out _ _ hD7).mono ?_); rintro e w6 ⟨rfl, hD8, ho8⟩; have hrow8 := ownsRow_same hrow7 fun g hg => ho8.block g (hrow7.lt g hg).2 (by simp); clear hrow7 ho8 hD7))
                generalize w5.heap.size = s24 at *
                go_loopg [25] t.l.length (fun g i wx => ∃ j : Nat, j ≤ t.l.length ∧ g = t.l.length - j ∧ i = .int .i64 j ∧ DRel B w B xb M u ts u ts (.slice none 0 0) [] [(s24, .cells #[.bool t.arr, .int .i64 t.kind, .int .i64 t.cls, .slice a t.l.length cap] 65 (0, 0))] wx ∧ wx.ownsRow 0 45 2 (.slice a t.l.length cap) t.l.length (flatV t.l))
                case atStart => exact ⟨0, by omega, by omega, rfl, hD8, hrow8⟩
                case round =>
                  clear hD8 hrow8 K44 HKS
                  obtain ⟨j, hj, rfl, rfl, hD9, hrow9⟩ := hrel
                  obtain ⟨_, _, _, v3⟩ := hD9.var4 (List.mem_cons_self ..)
                  by_cases hjl : j < t.l.length
                  · obtain ⟨p, hp⟩ : ∃ p, t.l[j]? = some p := ⟨t.l[j], by simp [hjl]⟩
                    have KX := Lib.hid (HKG.out _ _ j p hp hD9)
                    have V0 := flatV_even t.l j
                    have V1 := flatV_odd t.l j
                    rw [hp] at V0 V1
                    have HV0 := Lib.hid V0
                    have HV1 := Lib.hid V1
                    clear V0 V1
                    go_wp2_with (go_at_call 34; (with_reducible refine KX.out.mono ?_); clear v3; rintro e w7 ⟨rfl, hD10, ho10⟩)
                    have hD11 := hD10.new (.cells #[.int .i64 p.1, .int .i64 p.2] 45)
                    have hrow11 := (ownsRow_same hrow9 fun g hg => ho10.block g (hrow9.lt g hg).2 (by simp)).alloc (.cells #[.int .i64 p.1, .int .i64 p.2] 45)
                    generalize w7.alloc (.cells #[.int .i64 p.1, .int .i64 p.2] 45) = W7 at *
                    generalize w7.heap.size = s26 at *
                    obtain ⟨x0, x1⟩ := hD11.var2 (List.mem_cons_self ..)
                    obtain ⟨_, _, _, v3⟩ := hD11.var4 (List.mem_cons_of_mem _ (List.mem_cons_self ..))
                    obtain ⟨a2, cap2, he, hcc, hcm, hat2⟩ := owns_shape hrow11
                    cases he
                    obtain ⟨g2, rfl, _, _, hcell2, _⟩ := hat2 (by omega)
                    have y0 := hcell2 _ _ HV0.out
                    have y1 := hcell2 _ _ HV1.out
                    unfold maxLen at hcm
                    have HD11 := Lib.hid hD11
                    have HR11 := Lib.hid hrow11
                    clear hcell2 hat2 hD9 hrow9 hD10 ho10 hD11 hrow11 HV0 HV1 KX
                    go_quiet (fail)
                    have hD12 := HD11.out.out ((Out.refl [] W7).drewN nq)
                    have hrow12 := ownsRow_same (w' := W7.drewN nq) HR11.out fun _ _ => rfl
                    clear HD11 HR11 x0 x1 v3 y0 y1
                    go_wp2
                    go_roundg (t.l.length - (j + 1))
                    case measure => omega
                    case rel => exact ⟨j + 1, by omega, by omega, by go_num, hD12.less (by simp), hrow12⟩
                  · clear hrow9 HKG
                    go_wp2
                    go_roundg (ts.length + 2 - (r + 1))
                    case measure => omega
                    case rel => exact ⟨r + 1, by omega, by omega, by go_num, hD9.less (by simp)⟩
              · have hbl := hD5.below
                rw [HB.out] at hbl
                have hsz := hbl.size
                clear hD5
                go_wp2_with (go_at_call 13; (with_reducible refine (works_any _).mono ?_); rintro e w9 ⟨rfl, hw9⟩)
                go_ret
                exact ⟨rfl, hbl.trans (hw9.mono hsz)⟩
end Go.Proofs.Ytdelikjodacedaa
