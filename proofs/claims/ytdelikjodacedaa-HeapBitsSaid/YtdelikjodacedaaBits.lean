/- HeapBits: the walk: of any two numbers, how far, and ints or longs, the function returns true and leaves what was there. -/
import Derived.Test.YtdelikjodacedaaBitsLaw
import Derived.Deep.QuietTactic
import Derived.BigQuiet
namespace Go.Proofs.Ytdelikjodacedaa
open Go.RowKit
theorem bit_is (x : Int) (i : Nat) : bits .and .i64 (x / 2 ^ i) 1 = bit x i := mask_i64 (x / 2 ^ i) 1 (by decide)

set_option maxRecDepth 100000 in
set_option maxHeartbeats 4000000 in
theorem bits_walk32 (l0 l1 by0 a b : Int) (s : Nat) (x5 x6 x7 l r p : Int) (hs : s < 32) (hby : bringF by0 32 = s) (h0 : wrapOf 1 l0 = a) (h1 : wrapOf 1 l1 = b) (F : BitFacts 1 32 a b s x5 x6 x7 l r p)
    (ba : -9223372036854775808 ≤ a ∧ a ≤ 9223372036854775807) (bb : -9223372036854775808 ≤ b ∧ b ≤ 9223372036854775807) (w : World) :
    Calls Try.prog 4 #[.agg #[.int .i64 l0, .int .i64 l1], .int .i64 by0, .bool false] w fun e w' => e = .returned (.bool true) ∧ Below w.heap.size w w' := by
  have hB : w.heap.size ≤ w.heap.size := Nat.le_refl _
  have O0 := Lib.hid (fun v (hv : Below w.heap.size w v) => by have := of_op w.heap.size w 1 5 a b ba bb hv hB; rw [show binV 1 5 a b = x5 from F.f5] at this; exact this : ∀ v, Below w.heap.size w v → Calls Try.prog 16 #[.int .i64 1, .int .i64 5, .int .i64 a, .int .i64 b] v fun e w' => e = .returned (.int .i64 x5) ∧ Below w.heap.size w w')
  have O1 := Lib.hid (fun v (hv : Below w.heap.size w v) => by have := of_op w.heap.size w 1 6 a b ba bb hv hB; rw [show binV 1 6 a b = x6 from F.f6] at this; exact this : ∀ v, Below w.heap.size w v → Calls Try.prog 16 #[.int .i64 1, .int .i64 6, .int .i64 a, .int .i64 b] v fun e w' => e = .returned (.int .i64 x6) ∧ Below w.heap.size w w')
  have O2 := Lib.hid (fun v (hv : Below w.heap.size w v) => by have := of_op w.heap.size w 1 7 a b ba bb hv hB; rw [show binV 1 7 a b = x7 from F.f7] at this; exact this : ∀ v, Below w.heap.size w v → Calls Try.prog 16 #[.int .i64 1, .int .i64 7, .int .i64 a, .int .i64 b] v fun e w' => e = .returned (.int .i64 x7) ∧ Below w.heap.size w w')
  have O3 := Lib.hid (fun v (hv : Below w.heap.size w v) => by have := of_op w.heap.size w 1 8 a (s : Int) ba (by omega) hv hB; rw [show binV 1 8 a (s : Int) = l from F.f8] at this; exact this : ∀ v, Below w.heap.size w v → Calls Try.prog 16 #[.int .i64 1, .int .i64 8, .int .i64 a, .int .i64 (s : Int)] v fun e w' => e = .returned (.int .i64 l) ∧ Below w.heap.size w w')
  have O4 := Lib.hid (fun v (hv : Below w.heap.size w v) => by have := of_op w.heap.size w 1 9 a (s : Int) ba (by omega) hv hB; rw [show binV 1 9 a (s : Int) = r from F.f9] at this; exact this : ∀ v, Below w.heap.size w v → Calls Try.prog 16 #[.int .i64 1, .int .i64 9, .int .i64 a, .int .i64 (s : Int)] v fun e w' => e = .returned (.int .i64 r) ∧ Below w.heap.size w w')
  have O5 := Lib.hid (fun v (hv : Below w.heap.size w v) => by have := of_op w.heap.size w 1 10 a (s : Int) ba (by omega) hv hB; rw [show binV 1 10 a (s : Int) = p from F.f10] at this; exact this : ∀ v, Below w.heap.size w v → Calls Try.prog 16 #[.int .i64 1, .int .i64 10, .int .i64 a, .int .i64 (s : Int)] v fun e w' => e = .returned (.int .i64 p) ∧ Below w.heap.size w w')
  have O6 := Lib.hid (fun v (hv : Below w.heap.size w v) => by have := of_op w.heap.size w 1 8 a ((s : Int) + 32) ba (by omega) hv hB; rw [show binV 1 8 a ((s : Int) + 32) = l from F.g8] at this; exact this : ∀ v, Below w.heap.size w v → Calls Try.prog 16 #[.int .i64 1, .int .i64 8, .int .i64 a, .int .i64 ((s : Int) + 32)] v fun e w' => e = .returned (.int .i64 l) ∧ Below w.heap.size w w')
  have O7 := Lib.hid (fun v (hv : Below w.heap.size w v) => by have := of_op w.heap.size w 1 9 a ((s : Int) - 32) ba (by omega) hv hB; rw [show binV 1 9 a ((s : Int) - 32) = r from F.g9] at this; exact this : ∀ v, Below w.heap.size w v → Calls Try.prog 16 #[.int .i64 1, .int .i64 9, .int .i64 a, .int .i64 ((s : Int) - 32)] v fun e w' => e = .returned (.int .i64 r) ∧ Below w.heap.size w w')
  have O8 := Lib.hid (fun v (hv : Below w.heap.size w v) => by have := of_op w.heap.size w 1 10 a ((s : Int) + 64) ba (by omega) hv hB; rw [show binV 1 10 a ((s : Int) + 64) = p from F.g10] at this; exact this : ∀ v, Below w.heap.size w v → Calls Try.prog 16 #[.int .i64 1, .int .i64 10, .int .i64 a, .int .i64 ((s : Int) + 64)] v fun e w' => e = .returned (.int .i64 p) ∧ Below w.heap.size w w')
  have W0 := Lib.hid (fun v n => by have := Wrap_any 1 l0 (v.drewN n); rw [h0] at this; exact Calls.quiet_of_same (this.mono fun _ _ h => ⟨h.1, h.2.symm⟩) : ∀ (v : World) (n : Nat), Calls Try.prog 14 #[.int .i64 1, .int .i64 l0] (v.drewN n) fun e w'' => e = .returned (.int .i64 a) ∧ ∃ m, w'' = v.drewN m)
  have W1 := Lib.hid (fun v n => by have := Wrap_any 1 l1 (v.drewN n); rw [h1] at this; exact Calls.quiet_of_same (this.mono fun _ _ h => ⟨h.1, h.2.symm⟩) : ∀ (v : World) (n : Nat), Calls Try.prog 14 #[.int .i64 1, .int .i64 l1] (v.drewN n) fun e w'' => e = .returned (.int .i64 b) ∧ ∃ m, w'' = v.drewN m)
  have X0 := Lib.hid (fun v => by have := Wrap_any 1 l v; rw [F.wl] at this; exact this : ∀ v, Calls Try.prog 14 #[.int .i64 1, .int .i64 l] v fun e w' => e = .returned (.int .i64 l) ∧ v = w')
  have X1 := Lib.hid (fun v => by have := Wrap_any 1 p v; rw [F.wp] at this; exact this : ∀ v, Calls Try.prog 14 #[.int .i64 1, .int .i64 p] v fun e w' => e = .returned (.int .i64 p) ∧ v = w')
  have BR := Lib.hid (fun v => by have := Bring_any by0 32 (by omega) v; rw [hby] at this; exact this : ∀ v, Calls Try.prog 17 #[.int .i64 by0, .int .i64 32] v fun e w' => e = .returned (.int .i64 (s : Int)) ∧ v = w')
  have WK : ∀ w1, Below (w.alloc (.cells #[.int .i64 l0, .int .i64 l1] 28)).heap.size (w.alloc (.cells #[.int .i64 l0, .int .i64 l1] 28)) w1 →
      Below w.heap.size w w1 ∧ w1.cell? ⟨w.heap.size, 0, none⟩ = some (.int .i64 l0) ∧ w1.cell? ⟨w.heap.size, 1, none⟩ = some (.int .i64 l1) := fun w1 hw1 => by
    have hb := (hw1.block w.heap.size (by simp)).trans (heap_alloc_new w _)
    exact ⟨((Below.refl w.heap.size w).alloc (Nat.le_refl _) _).trans (hw1.mono (by simp)), cell_in hb 0 rfl, cell_in hb 1 rfl⟩
  have HWK := Lib.hid WK
  have HF := Lib.hid F
  clear WK F h0 h1 hby
  go_enter Try.func4, Try.ntmps4
  go_wp2_with (go_at_call 13; refine (works_any _).mono ?_; rintro e w1 ⟨rfl, hw1⟩; obtain ⟨hw', k0, k1⟩ := HWK.out _ hw1)
  go_quiet ((first | (go_at_call 14; with_reducible exact W0.out _ _) | (go_at_call 14; with_reducible exact W1.out _ _)))
  have hwq : Below w.heap.size w (w1.drewN nq) := ⟨hw'.os, hw'.tape, hw'.output, hw'.size, hw'.block⟩
  clear k0 k1 hw1 hw' W0 W1 HWK
  go_wp2_with (first
    | (go_at_call 17; refine (BR.out _).mono ?_; rintro e w' ⟨rfl, rfl⟩)
    | (go_at_call 16; (with_reducible refine (O0.out _ (by assumption)).mono ?_); rintro e w' ⟨rfl, hw'⟩)
    | (go_at_call 16; (with_reducible refine (O1.out _ (by assumption)).mono ?_); rintro e w' ⟨rfl, hw'⟩)
    | (go_at_call 16; (with_reducible refine (O2.out _ (by assumption)).mono ?_); rintro e w' ⟨rfl, hw'⟩)
    | (go_at_call 16; (with_reducible refine (O3.out _ (by assumption)).mono ?_); rintro e w' ⟨rfl, hw'⟩)
    | (go_at_call 16; (with_reducible refine (O4.out _ (by assumption)).mono ?_); rintro e w' ⟨rfl, hw'⟩)
    | (go_at_call 16; (with_reducible refine (O5.out _ (by assumption)).mono ?_); rintro e w' ⟨rfl, hw'⟩))
  go_loopw [17] (fun i wr => ∃ k : Nat, k ≤ 32 ∧ i = .int .i64 k ∧ Below w.heap.size w wr) (fun i _ => 32 - (intOf i).toNat)
  case atStart => exact ⟨0, Nat.zero_le _, rfl, by assumption⟩
  case round =>
    obtain ⟨k, hk, rfl, hwr⟩ := hrel
    clear O0 O1 O2 O3 O4 O5 BR
    by_cases hkn : k < 32
    · have F := HF.out
      have u1 := F.band k hkn
      have u2 := F.bor k hkn
      have u3 := F.bxor k hkn
      have u4 := F.bl k hkn
      have u5 := F.br k hkn
      have u6 := F.bp k hkn
      have EA := bit_is a k
      have EB := bit_is b k
      have E5 := bit_is x5 k
      have E6 := bit_is x6 k
      have E7 := bit_is x7 k
      have EL := bit_is l k
      have ER := bit_is r k
      have EP := bit_is p k
      have ES : bits .and .i64 (a / 2 ^ (31 : Nat)) 1 = bit a (32 - 1) := bit_is a 31
      have ES2 : bits .and .i64 (a / 2147483648) 1 = bit a (32 - 1) := bit_is a 31
      have EM := bit_is a (k - s)
      have EQ := bit_is a (k + s)
      have bm := bit_01 x5 k
      clear F HF O6 O7 O8 X0 X1 ba bb
      generalize bit a k = u at *
      generalize bit b k = v at *
      generalize bit x5 k = m at *
      generalize bit x6 k = o at *
      generalize bit x7 k = z at *
      have bm1 : 0 ≤ m := by omega
      have bm2 : m ≤ 1 := by omega
      clear bm
      by_cases hsk : s ≤ k <;> by_cases hks : k + s < 32
      · rw [if_pos hsk] at u4
        rw [if_pos hks] at u5 u6
        rw [u4] at EL
        rw [u5] at ER
        rw [u6] at EP
        clear u4 u5 u6
        generalize bit a (k - s) = wl at *
        generalize bit a (k + s) = wr2 at *
        generalize bit a (32 - 1) = wsg at *
        go_wp2
        go_quiet (fail)
        go_wp2
        go_roundw
        case rel => exact ⟨k + 1, by omega, by go_num, ⟨hwr.os, hwr.tape, hwr.output, hwr.size, hwr.block⟩⟩
        case measure => simp [intOf]; omega
      · rw [if_pos hsk] at u4
        rw [if_neg hks] at u5 u6
        rw [u4] at EL
        rw [u5] at ER
        rw [u6] at EP
        clear u4 u5 u6
        generalize bit a (k - s) = wl at *
        generalize bit a (k + s) = wr2 at *
        generalize bit a (32 - 1) = wsg at *
        go_wp2
        go_quiet (fail)
        go_wp2
        go_roundw
        case rel => exact ⟨k + 1, by omega, by go_num, ⟨hwr.os, hwr.tape, hwr.output, hwr.size, hwr.block⟩⟩
        case measure => simp [intOf]; omega
      · rw [if_neg hsk] at u4
        rw [if_pos hks] at u5 u6
        rw [u4] at EL
        rw [u5] at ER
        rw [u6] at EP
        clear u4 u5 u6
        generalize bit a (k - s) = wl at *
        generalize bit a (k + s) = wr2 at *
        generalize bit a (32 - 1) = wsg at *
        go_wp2
        go_quiet (fail)
        go_wp2
        go_roundw
        case rel => exact ⟨k + 1, by omega, by go_num, ⟨hwr.os, hwr.tape, hwr.output, hwr.size, hwr.block⟩⟩
        case measure => simp [intOf]; omega
      · rw [if_neg hsk] at u4
        rw [if_neg hks] at u5 u6
        rw [u4] at EL
        rw [u5] at ER
        rw [u6] at EP
        clear u4 u5 u6
        generalize bit a (k - s) = wl at *
        generalize bit a (k + s) = wr2 at *
        generalize bit a (32 - 1) = wsg at *
        go_wp2
        go_quiet (fail)
        go_wp2
        go_roundw
        case rel => exact ⟨k + 1, by omega, by go_num, ⟨hwr.os, hwr.tape, hwr.output, hwr.size, hwr.block⟩⟩
        case measure => simp [intOf]; omega
    · obtain rfl : k = 32 := by omega
      clear HF
      go_wp2_with (first
        | (go_at_call 16; (with_reducible refine (O6.out _ (by assumption)).mono ?_); rintro e w' ⟨rfl, hw'⟩)
        | (go_at_call 16; (with_reducible refine (O7.out _ (by assumption)).mono ?_); rintro e w' ⟨rfl, hw'⟩)
        | (go_at_call 16; (with_reducible refine (O8.out _ (by assumption)).mono ?_); rintro e w' ⟨rfl, hw'⟩)
        | (go_at_call 14; (with_reducible refine (X0.out _).mono ?_); rintro e w' ⟨rfl, rfl⟩)
        | (go_at_call 14; (with_reducible refine (X1.out _).mono ?_); rintro e w' ⟨rfl, rfl⟩))
      go_ret
      exact ⟨rfl, by assumption⟩

set_option maxRecDepth 100000 in
set_option maxHeartbeats 4000000 in
theorem bits_walk64 (l0 l1 by0 a b : Int) (s : Nat) (x5 x6 x7 l r p : Int) (hs : s < 64) (hby : bringF by0 64 = s) (h0 : wrapOf 2 l0 = a) (h1 : wrapOf 2 l1 = b) (F : BitFacts 2 64 a b s x5 x6 x7 l r p)
    (ba : -9223372036854775808 ≤ a ∧ a ≤ 9223372036854775807) (bb : -9223372036854775808 ≤ b ∧ b ≤ 9223372036854775807) (w : World) :
    Calls Try.prog 4 #[.agg #[.int .i64 l0, .int .i64 l1], .int .i64 by0, .bool true] w fun e w' => e = .returned (.bool true) ∧ Below w.heap.size w w' := by
  have hB : w.heap.size ≤ w.heap.size := Nat.le_refl _
  have O0 := Lib.hid (fun v (hv : Below w.heap.size w v) => by have := of_op w.heap.size w 2 5 a b ba bb hv hB; rw [show binV 2 5 a b = x5 from F.f5] at this; exact this : ∀ v, Below w.heap.size w v → Calls Try.prog 16 #[.int .i64 2, .int .i64 5, .int .i64 a, .int .i64 b] v fun e w' => e = .returned (.int .i64 x5) ∧ Below w.heap.size w w')
  have O1 := Lib.hid (fun v (hv : Below w.heap.size w v) => by have := of_op w.heap.size w 2 6 a b ba bb hv hB; rw [show binV 2 6 a b = x6 from F.f6] at this; exact this : ∀ v, Below w.heap.size w v → Calls Try.prog 16 #[.int .i64 2, .int .i64 6, .int .i64 a, .int .i64 b] v fun e w' => e = .returned (.int .i64 x6) ∧ Below w.heap.size w w')
  have O2 := Lib.hid (fun v (hv : Below w.heap.size w v) => by have := of_op w.heap.size w 2 7 a b ba bb hv hB; rw [show binV 2 7 a b = x7 from F.f7] at this; exact this : ∀ v, Below w.heap.size w v → Calls Try.prog 16 #[.int .i64 2, .int .i64 7, .int .i64 a, .int .i64 b] v fun e w' => e = .returned (.int .i64 x7) ∧ Below w.heap.size w w')
  have O3 := Lib.hid (fun v (hv : Below w.heap.size w v) => by have := of_op w.heap.size w 2 8 a (s : Int) ba (by omega) hv hB; rw [show binV 2 8 a (s : Int) = l from F.f8] at this; exact this : ∀ v, Below w.heap.size w v → Calls Try.prog 16 #[.int .i64 2, .int .i64 8, .int .i64 a, .int .i64 (s : Int)] v fun e w' => e = .returned (.int .i64 l) ∧ Below w.heap.size w w')
  have O4 := Lib.hid (fun v (hv : Below w.heap.size w v) => by have := of_op w.heap.size w 2 9 a (s : Int) ba (by omega) hv hB; rw [show binV 2 9 a (s : Int) = r from F.f9] at this; exact this : ∀ v, Below w.heap.size w v → Calls Try.prog 16 #[.int .i64 2, .int .i64 9, .int .i64 a, .int .i64 (s : Int)] v fun e w' => e = .returned (.int .i64 r) ∧ Below w.heap.size w w')
  have O5 := Lib.hid (fun v (hv : Below w.heap.size w v) => by have := of_op w.heap.size w 2 10 a (s : Int) ba (by omega) hv hB; rw [show binV 2 10 a (s : Int) = p from F.f10] at this; exact this : ∀ v, Below w.heap.size w v → Calls Try.prog 16 #[.int .i64 2, .int .i64 10, .int .i64 a, .int .i64 (s : Int)] v fun e w' => e = .returned (.int .i64 p) ∧ Below w.heap.size w w')
  have O6 := Lib.hid (fun v (hv : Below w.heap.size w v) => by have := of_op w.heap.size w 2 8 a ((s : Int) + 64) ba (by omega) hv hB; rw [show binV 2 8 a ((s : Int) + 64) = l from F.g8] at this; exact this : ∀ v, Below w.heap.size w v → Calls Try.prog 16 #[.int .i64 2, .int .i64 8, .int .i64 a, .int .i64 ((s : Int) + 64)] v fun e w' => e = .returned (.int .i64 l) ∧ Below w.heap.size w w')
  have O7 := Lib.hid (fun v (hv : Below w.heap.size w v) => by have := of_op w.heap.size w 2 9 a ((s : Int) - 64) ba (by omega) hv hB; rw [show binV 2 9 a ((s : Int) - 64) = r from F.g9] at this; exact this : ∀ v, Below w.heap.size w v → Calls Try.prog 16 #[.int .i64 2, .int .i64 9, .int .i64 a, .int .i64 ((s : Int) - 64)] v fun e w' => e = .returned (.int .i64 r) ∧ Below w.heap.size w w')
  have O8 := Lib.hid (fun v (hv : Below w.heap.size w v) => by have := of_op w.heap.size w 2 10 a ((s : Int) + 128) ba (by omega) hv hB; rw [show binV 2 10 a ((s : Int) + 128) = p from F.g10] at this; exact this : ∀ v, Below w.heap.size w v → Calls Try.prog 16 #[.int .i64 2, .int .i64 10, .int .i64 a, .int .i64 ((s : Int) + 128)] v fun e w' => e = .returned (.int .i64 p) ∧ Below w.heap.size w w')
  have W0 := Lib.hid (fun v n => by have := Wrap_any 2 l0 (v.drewN n); rw [h0] at this; exact Calls.quiet_of_same (this.mono fun _ _ h => ⟨h.1, h.2.symm⟩) : ∀ (v : World) (n : Nat), Calls Try.prog 14 #[.int .i64 2, .int .i64 l0] (v.drewN n) fun e w'' => e = .returned (.int .i64 a) ∧ ∃ m, w'' = v.drewN m)
  have W1 := Lib.hid (fun v n => by have := Wrap_any 2 l1 (v.drewN n); rw [h1] at this; exact Calls.quiet_of_same (this.mono fun _ _ h => ⟨h.1, h.2.symm⟩) : ∀ (v : World) (n : Nat), Calls Try.prog 14 #[.int .i64 2, .int .i64 l1] (v.drewN n) fun e w'' => e = .returned (.int .i64 b) ∧ ∃ m, w'' = v.drewN m)
  have X0 := Lib.hid (fun v => by have := Wrap_any 2 l v; rw [F.wl] at this; exact this : ∀ v, Calls Try.prog 14 #[.int .i64 2, .int .i64 l] v fun e w' => e = .returned (.int .i64 l) ∧ v = w')
  have X1 := Lib.hid (fun v => by have := Wrap_any 2 p v; rw [F.wp] at this; exact this : ∀ v, Calls Try.prog 14 #[.int .i64 2, .int .i64 p] v fun e w' => e = .returned (.int .i64 p) ∧ v = w')
  have BR := Lib.hid (fun v => by have := Bring_any by0 64 (by omega) v; rw [hby] at this; exact this : ∀ v, Calls Try.prog 17 #[.int .i64 by0, .int .i64 64] v fun e w' => e = .returned (.int .i64 (s : Int)) ∧ v = w')
  have WK : ∀ w1, Below (w.alloc (.cells #[.int .i64 l0, .int .i64 l1] 28)).heap.size (w.alloc (.cells #[.int .i64 l0, .int .i64 l1] 28)) w1 →
      Below w.heap.size w w1 ∧ w1.cell? ⟨w.heap.size, 0, none⟩ = some (.int .i64 l0) ∧ w1.cell? ⟨w.heap.size, 1, none⟩ = some (.int .i64 l1) := fun w1 hw1 => by
    have hb := (hw1.block w.heap.size (by simp)).trans (heap_alloc_new w _)
    exact ⟨((Below.refl w.heap.size w).alloc (Nat.le_refl _) _).trans (hw1.mono (by simp)), cell_in hb 0 rfl, cell_in hb 1 rfl⟩
  have HWK := Lib.hid WK
  have HF := Lib.hid F
  clear WK F h0 h1 hby
  go_enter Try.func4, Try.ntmps4
  go_wp2_with (go_at_call 13; refine (works_any _).mono ?_; rintro e w1 ⟨rfl, hw1⟩; obtain ⟨hw', k0, k1⟩ := HWK.out _ hw1)
  go_quiet ((first | (go_at_call 14; with_reducible exact W0.out _ _) | (go_at_call 14; with_reducible exact W1.out _ _)))
  have hwq : Below w.heap.size w (w1.drewN nq) := ⟨hw'.os, hw'.tape, hw'.output, hw'.size, hw'.block⟩
  clear k0 k1 hw1 hw' W0 W1 HWK
  go_wp2_with (first
    | (go_at_call 17; refine (BR.out _).mono ?_; rintro e w' ⟨rfl, rfl⟩)
    | (go_at_call 16; (with_reducible refine (O0.out _ (by assumption)).mono ?_); rintro e w' ⟨rfl, hw'⟩)
    | (go_at_call 16; (with_reducible refine (O1.out _ (by assumption)).mono ?_); rintro e w' ⟨rfl, hw'⟩)
    | (go_at_call 16; (with_reducible refine (O2.out _ (by assumption)).mono ?_); rintro e w' ⟨rfl, hw'⟩)
    | (go_at_call 16; (with_reducible refine (O3.out _ (by assumption)).mono ?_); rintro e w' ⟨rfl, hw'⟩)
    | (go_at_call 16; (with_reducible refine (O4.out _ (by assumption)).mono ?_); rintro e w' ⟨rfl, hw'⟩)
    | (go_at_call 16; (with_reducible refine (O5.out _ (by assumption)).mono ?_); rintro e w' ⟨rfl, hw'⟩))
  go_loopw [17] (fun i wr => ∃ k : Nat, k ≤ 64 ∧ i = .int .i64 k ∧ Below w.heap.size w wr) (fun i _ => 64 - (intOf i).toNat)
  case atStart => exact ⟨0, Nat.zero_le _, rfl, by assumption⟩
  case round =>
    obtain ⟨k, hk, rfl, hwr⟩ := hrel
    clear O0 O1 O2 O3 O4 O5 BR
    by_cases hkn : k < 64
    · have F := HF.out
      have u1 := F.band k hkn
      have u2 := F.bor k hkn
      have u3 := F.bxor k hkn
      have u4 := F.bl k hkn
      have u5 := F.br k hkn
      have u6 := F.bp k hkn
      have EA := bit_is a k
      have EB := bit_is b k
      have E5 := bit_is x5 k
      have E6 := bit_is x6 k
      have E7 := bit_is x7 k
      have EL := bit_is l k
      have ER := bit_is r k
      have EP := bit_is p k
      have ES : bits .and .i64 (a / 2 ^ (63 : Nat)) 1 = bit a (64 - 1) := bit_is a 63
      have ES2 : bits .and .i64 (a / 9223372036854775808) 1 = bit a (64 - 1) := bit_is a 63
      have EM := bit_is a (k - s)
      have EQ := bit_is a (k + s)
      have bm := bit_01 x5 k
      clear F HF O6 O7 O8 X0 X1 ba bb
      generalize bit a k = u at *
      generalize bit b k = v at *
      generalize bit x5 k = m at *
      generalize bit x6 k = o at *
      generalize bit x7 k = z at *
      have bm1 : 0 ≤ m := by omega
      have bm2 : m ≤ 1 := by omega
      clear bm
      by_cases hsk : s ≤ k <;> by_cases hks : k + s < 64
      · rw [if_pos hsk] at u4
        rw [if_pos hks] at u5 u6
        rw [u4] at EL
        rw [u5] at ER
        rw [u6] at EP
        clear u4 u5 u6
        generalize bit a (k - s) = wl at *
        generalize bit a (k + s) = wr2 at *
        generalize bit a (64 - 1) = wsg at *
        go_wp2
        go_quiet (fail)
        go_wp2
        go_roundw
        case rel => exact ⟨k + 1, by omega, by go_num, ⟨hwr.os, hwr.tape, hwr.output, hwr.size, hwr.block⟩⟩
        case measure => simp [intOf]; omega
      · rw [if_pos hsk] at u4
        rw [if_neg hks] at u5 u6
        rw [u4] at EL
        rw [u5] at ER
        rw [u6] at EP
        clear u4 u5 u6
        generalize bit a (k - s) = wl at *
        generalize bit a (k + s) = wr2 at *
        generalize bit a (64 - 1) = wsg at *
        go_wp2
        go_quiet (fail)
        go_wp2
        go_roundw
        case rel => exact ⟨k + 1, by omega, by go_num, ⟨hwr.os, hwr.tape, hwr.output, hwr.size, hwr.block⟩⟩
        case measure => simp [intOf]; omega
      · rw [if_neg hsk] at u4
        rw [if_pos hks] at u5 u6
        rw [u4] at EL
        rw [u5] at ER
        rw [u6] at EP
        clear u4 u5 u6
        generalize bit a (k - s) = wl at *
        generalize bit a (k + s) = wr2 at *
        generalize bit a (64 - 1) = wsg at *
        go_wp2
        go_quiet (fail)
        go_wp2
        go_roundw
        case rel => exact ⟨k + 1, by omega, by go_num, ⟨hwr.os, hwr.tape, hwr.output, hwr.size, hwr.block⟩⟩
        case measure => simp [intOf]; omega
      · rw [if_neg hsk] at u4
        rw [if_neg hks] at u5 u6
        rw [u4] at EL
        rw [u5] at ER
        rw [u6] at EP
        clear u4 u5 u6
        generalize bit a (k - s) = wl at *
        generalize bit a (k + s) = wr2 at *
        generalize bit a (64 - 1) = wsg at *
        go_wp2
        go_quiet (fail)
        go_wp2
        go_roundw
        case rel => exact ⟨k + 1, by omega, by go_num, ⟨hwr.os, hwr.tape, hwr.output, hwr.size, hwr.block⟩⟩
        case measure => simp [intOf]; omega
    · obtain rfl : k = 64 := by omega
      clear HF
      go_wp2_with (first
        | (go_at_call 16; (with_reducible refine (O6.out _ (by assumption)).mono ?_); rintro e w' ⟨rfl, hw'⟩)
        | (go_at_call 16; (with_reducible refine (O7.out _ (by assumption)).mono ?_); rintro e w' ⟨rfl, hw'⟩)
        | (go_at_call 16; (with_reducible refine (O8.out _ (by assumption)).mono ?_); rintro e w' ⟨rfl, hw'⟩)
        | (go_at_call 14; (with_reducible refine (X0.out _).mono ?_); rintro e w' ⟨rfl, rfl⟩)
        | (go_at_call 14; (with_reducible refine (X1.out _).mono ?_); rintro e w' ⟨rfl, rfl⟩))
      go_ret
      exact ⟨rfl, by assumption⟩

/-- HeapBits returns true, whatever it is handed. -/
theorem HeapBits_walk (l0 l1 by0 : Int) (longs : Bool) (b0 : -9223372036854775808 ≤ l0 ∧ l0 ≤ 9223372036854775807) (b1 : -9223372036854775808 ≤ l1 ∧ l1 ≤ 9223372036854775807) (w : World) :
    Calls Try.prog 4 #[.agg #[.int .i64 l0, .int .i64 l1], .int .i64 by0, .bool longs] w fun e w' => e = .returned (.bool true) ∧ Below w.heap.size w w' := by
  cases longs
  · have e : ∀ z, wrapOf 1 z = wrap32 z := fun z => rfl
    have h : bringF by0 32 = ((by0 % 32).toNat : Nat) := by unfold bringF; rw [if_pos (by omega)]; omega
    exact bits_walk32 l0 l1 by0 _ _ (by0 % 32).toNat _ _ _ _ _ _ (by omega) h (e l0) (e l1) (bits32 _ _ _ (wrap32_bd l0) (wrap32_bd l1) (by omega)) (by have := wrap32_bd l0; omega) (by have := wrap32_bd l1; omega) w
  · have e : ∀ z, wrapOf 2 z = z := fun z => rfl
    have h : bringF by0 64 = ((by0 % 64).toNat : Nat) := by unfold bringF; rw [if_pos (by omega)]; omega
    exact bits_walk64 l0 l1 by0 _ _ (by0 % 64).toNat _ _ _ _ _ _ (by omega) h (e l0) (e l1) (bits64 _ _ _ b0 b1 (by omega)) b0 b1 w
end Go.Proofs.Ytdelikjodacedaa
