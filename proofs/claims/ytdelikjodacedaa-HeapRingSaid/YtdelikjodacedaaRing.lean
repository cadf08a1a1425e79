/- HeapRing: the plain law of rings, and the walk: of any three numbers the function returns true and leaves what was there. -/
import Derived.Test.YtdelikjodacedaaDivides
import Derived.Deep.QuietTactic
import Derived.BigQuiet
namespace Go.Proofs.Ytdelikjodacedaa
open Go.RowKit

/-- What the walk wants to know of three numbers of a kind, their sums and products. -/
structure RingFacts (k a b c s t u p q r m n g : Int) : Prop where
  f0 : binV k 0 a b = s
  f1 : binV k 0 b a = s
  f2 : binV k 0 s c = t
  f3 : binV k 0 b c = u
  f4 : binV k 0 a u = t
  f5 : binV k 1 s b = a
  f6 : binV k 0 a 0 = a
  f7 : binV k 2 a b = p
  f8 : binV k 2 b a = p
  f9 : binV k 2 p c = q
  f10 : binV k 2 b c = r
  f11 : binV k 2 a r = q
  f12 : binV k 2 a u = m
  f13 : binV k 2 a c = n
  f14 : binV k 0 p n = m
  f15 : binV k 2 a 1 = a
  f16 : binV k 1 0 a = g
  f17 : binV k 0 a g = 0
  neg : wrapOf k (wrap64 (-a)) = g
  ba : -9223372036854775808 ≤ a ∧ a ≤ 9223372036854775807
  bb : -9223372036854775808 ≤ b ∧ b ≤ 9223372036854775807
  bc : -9223372036854775808 ≤ c ∧ c ≤ 9223372036854775807
  bs : -9223372036854775808 ≤ s ∧ s ≤ 9223372036854775807
  bt : -9223372036854775808 ≤ t ∧ t ≤ 9223372036854775807
  bu : -9223372036854775808 ≤ u ∧ u ≤ 9223372036854775807
  bp : -9223372036854775808 ≤ p ∧ p ≤ 9223372036854775807
  bq : -9223372036854775808 ≤ q ∧ q ≤ 9223372036854775807
  br : -9223372036854775808 ≤ r ∧ r ≤ 9223372036854775807
  bm : -9223372036854775808 ≤ m ∧ m ≤ 9223372036854775807
  bn : -9223372036854775808 ≤ n ∧ n ≤ 9223372036854775807
  bg : -9223372036854775808 ≤ g ∧ g ≤ 9223372036854775807

/-- A ring of numbers that are brought by W to one of them. -/
theorem ring_of (k : Int) (W : Int → Int) (hA : ∀ x y, binV k 0 x y = W (x + y)) (hS : ∀ x y, binV k 1 x y = W (x - y)) (hM : ∀ x y, binV k 2 x y = W (x * y)) (hN : ∀ x, wrapOf k (wrap64 (-x)) = W (-x))
    (al : ∀ x y, W (W x + y) = W (x + y)) (ar : ∀ x y, W (x + W y) = W (x + y)) (sl : ∀ x y, W (W x - y) = W (x - y)) (ml : ∀ x y, W (W x * y) = W (x * y)) (mr : ∀ x y, W (x * W y) = W (x * y)) (w0 : W 0 = 0)
    (bd : ∀ x, -9223372036854775808 ≤ W x ∧ W x ≤ 9223372036854775807) (a b c : Int) (ha : W a = a) (hb : W b = b) (hc : W c = c) :
    RingFacts k a b c (W (a + b)) (W (a + b + c)) (W (b + c)) (W (a * b)) (W (a * b * c)) (W (b * c)) (W (a * (b + c))) (W (a * c)) (W (-a)) where
  f0 := by rw [hA]
  f1 := by rw [hA, Int.add_comm]
  f2 := by rw [hA, al]
  f3 := by rw [hA]
  f4 := by rw [hA, ar, Int.add_assoc]
  f5 := by rw [hS, sl, show a + b - b = a by omega, ha]
  f6 := by rw [hA, Int.add_zero, ha]
  f7 := by rw [hM]
  f8 := by rw [hM, Int.mul_comm]
  f9 := by rw [hM, ml]
  f10 := by rw [hM]
  f11 := by rw [hM, mr, Int.mul_assoc]
  f12 := by rw [hM, mr]
  f13 := by rw [hM]
  f14 := by rw [hA, al, ar, Int.mul_add]
  f15 := by rw [hM, Int.mul_one, ha]
  f16 := by rw [hS, Int.zero_sub]
  f17 := by rw [hA, ar, Int.add_right_neg, w0]
  neg := hN a
  ba := ha ▸ bd a
  bb := hb ▸ bd b
  bc := hc ▸ bd c
  bs := bd _
  bt := bd _
  bu := bd _
  bp := bd _
  bq := bd _
  br := bd _
  bm := bd _
  bn := bd _
  bg := bd _

theorem wrap32_add_r (a b : Int) : wrap32 (a + wrap32 b) = wrap32 (a + b) := by unfold wrap32; omega
theorem wrap32_sub_l (a b : Int) : wrap32 (wrap32 a - b) = wrap32 (a - b) := by unfold wrap32; omega
theorem wrap32_sub_r (a b : Int) : wrap32 (a - wrap32 b) = wrap32 (a - b) := by unfold wrap32; omega
theorem wrap32_mul_r (a b : Int) : wrap32 (a * wrap32 b) = wrap32 (a * b) := by rw [Int.mul_comm, wrap32_mul_l, Int.mul_comm]
theorem wrap64_add_r (a b : Int) : wrap64 (a + wrap64 b) = wrap64 (a + b) := by unfold wrap64; omega
theorem wrap64_sub_l (a b : Int) : wrap64 (wrap64 a - b) = wrap64 (a - b) := by unfold wrap64; omega
theorem wrap64_mul_r (a b : Int) : wrap64 (a * wrap64 b) = wrap64 (a * b) := by rw [Int.mul_comm, wrap64_mul_l, Int.mul_comm]
theorem binB_low (k op y : Int) (hk : k = 1 ∨ k = 2) (h0 : 0 ≤ op) (h1 : op ≤ 2) : binB k op y = true := decide_eq_true ⟨hk, h0, by omega, fun h => by omega⟩
theorem ring32 (a b c : Int) (ha : wrap32 a = a) (hb : wrap32 b = b) (hc : wrap32 c = c) : RingFacts 1 a b c (wrap32 (a + b)) (wrap32 (a + b + c)) (wrap32 (b + c)) (wrap32 (a * b)) (wrap32 (a * b * c)) (wrap32 (b * c)) (wrap32 (a * (b + c))) (wrap32 (a * c)) (wrap32 (-a)) :=
  ring_of 1 wrap32 (fun x y => by unfold binV; rw [binB_low 1 0 y (.inl rfl) (by omega) (by omega)]; show wrap32 (wrap32 x + wrap32 y) = _; rw [wrap32_add_l, wrap32_add_r])
    (fun x y => by unfold binV; rw [binB_low 1 1 y (.inl rfl) (by omega) (by omega)]; show wrap32 (wrap32 x - wrap32 y) = _; rw [wrap32_sub_l, wrap32_sub_r])
    (fun x y => by unfold binV; rw [binB_low 1 2 y (.inl rfl) (by omega) (by omega)]; show wrap32 (wrap32 x * wrap32 y) = _; rw [wrap32_mul_l, wrap32_mul_r])
    (fun x => by show wrap32 (wrap64 (-x)) = _; unfold wrap32 wrap64; omega) wrap32_add_l wrap32_add_r wrap32_sub_l wrap32_mul_l wrap32_mul_r (by decide +kernel) (fun x => by have := wrap32_bd x; omega) a b c ha hb hc
theorem ring64 (a b c : Int) (ha : wrap64 a = a) (hb : wrap64 b = b) (hc : wrap64 c = c) : RingFacts 2 a b c (wrap64 (a + b)) (wrap64 (a + b + c)) (wrap64 (b + c)) (wrap64 (a * b)) (wrap64 (a * b * c)) (wrap64 (b * c)) (wrap64 (a * (b + c))) (wrap64 (a * c)) (wrap64 (-a)) :=
  ring_of 2 wrap64 (fun x y => by unfold binV; rw [binB_low 2 0 y (.inr rfl) (by omega) (by omega)]; rfl)
    (fun x y => by unfold binV; rw [binB_low 2 1 y (.inr rfl) (by omega) (by omega)]; rfl)
    (fun x y => by unfold binV; rw [binB_low 2 2 y (.inr rfl) (by omega) (by omega)]; rfl)
    (fun x => rfl) wrap64_add_l wrap64_add_r wrap64_sub_l wrap64_mul_l wrap64_mul_r (by decide +kernel) wrap64_bd a b c ha hb hc

set_option maxHeartbeats 2000000 in
theorem ring_walk (longs : Bool) (k : Int) (hk : k = if longs then 2 else 1) (l0 l1 l2 a b c s t u p q r m n g : Int) (h0 : wrapOf k l0 = a) (h1 : wrapOf k l1 = b) (h2 : wrapOf k l2 = c) (F : RingFacts k a b c s t u p q r m n g) (w : World) :
    Calls Try.prog 7 #[.agg #[.int .i64 l0, .int .i64 l1, .int .i64 l2], .bool longs] w fun e w' => e = .returned (.bool true) ∧ Below w.heap.size w w' := by
  have hB : w.heap.size ≤ w.heap.size := Nat.le_refl _
  have O0 := Lib.hid (fun v (hv : Below w.heap.size w v) => by have := of_op w.heap.size w k 0 a b F.ba F.bb hv hB; rw [F.f0] at this; exact this : ∀ v, Below w.heap.size w v → Calls Try.prog 16 #[.int .i64 k, .int .i64 0, .int .i64 a, .int .i64 b] v fun e w' => e = .returned (.int .i64 s) ∧ Below w.heap.size w w')
  have O1 := Lib.hid (fun v (hv : Below w.heap.size w v) => by have := of_op w.heap.size w k 0 b a F.bb F.ba hv hB; rw [F.f1] at this; exact this : ∀ v, Below w.heap.size w v → Calls Try.prog 16 #[.int .i64 k, .int .i64 0, .int .i64 b, .int .i64 a] v fun e w' => e = .returned (.int .i64 s) ∧ Below w.heap.size w w')
  have O2 := Lib.hid (fun v (hv : Below w.heap.size w v) => by have := of_op w.heap.size w k 0 s c F.bs F.bc hv hB; rw [F.f2] at this; exact this : ∀ v, Below w.heap.size w v → Calls Try.prog 16 #[.int .i64 k, .int .i64 0, .int .i64 s, .int .i64 c] v fun e w' => e = .returned (.int .i64 t) ∧ Below w.heap.size w w')
  have O3 := Lib.hid (fun v (hv : Below w.heap.size w v) => by have := of_op w.heap.size w k 0 b c F.bb F.bc hv hB; rw [F.f3] at this; exact this : ∀ v, Below w.heap.size w v → Calls Try.prog 16 #[.int .i64 k, .int .i64 0, .int .i64 b, .int .i64 c] v fun e w' => e = .returned (.int .i64 u) ∧ Below w.heap.size w w')
  have O4 := Lib.hid (fun v (hv : Below w.heap.size w v) => by have := of_op w.heap.size w k 0 a u F.ba F.bu hv hB; rw [F.f4] at this; exact this : ∀ v, Below w.heap.size w v → Calls Try.prog 16 #[.int .i64 k, .int .i64 0, .int .i64 a, .int .i64 u] v fun e w' => e = .returned (.int .i64 t) ∧ Below w.heap.size w w')
  have O5 := Lib.hid (fun v (hv : Below w.heap.size w v) => by have := of_op w.heap.size w k 1 s b F.bs F.bb hv hB; rw [F.f5] at this; exact this : ∀ v, Below w.heap.size w v → Calls Try.prog 16 #[.int .i64 k, .int .i64 1, .int .i64 s, .int .i64 b] v fun e w' => e = .returned (.int .i64 a) ∧ Below w.heap.size w w')
  have O6 := Lib.hid (fun v (hv : Below w.heap.size w v) => by have := of_op w.heap.size w k 0 a 0 F.ba (by omega) hv hB; rw [F.f6] at this; exact this : ∀ v, Below w.heap.size w v → Calls Try.prog 16 #[.int .i64 k, .int .i64 0, .int .i64 a, .int .i64 0] v fun e w' => e = .returned (.int .i64 a) ∧ Below w.heap.size w w')
  have O7 := Lib.hid (fun v (hv : Below w.heap.size w v) => by have := of_op w.heap.size w k 2 a b F.ba F.bb hv hB; rw [F.f7] at this; exact this : ∀ v, Below w.heap.size w v → Calls Try.prog 16 #[.int .i64 k, .int .i64 2, .int .i64 a, .int .i64 b] v fun e w' => e = .returned (.int .i64 p) ∧ Below w.heap.size w w')
  have O8 := Lib.hid (fun v (hv : Below w.heap.size w v) => by have := of_op w.heap.size w k 2 b a F.bb F.ba hv hB; rw [F.f8] at this; exact this : ∀ v, Below w.heap.size w v → Calls Try.prog 16 #[.int .i64 k, .int .i64 2, .int .i64 b, .int .i64 a] v fun e w' => e = .returned (.int .i64 p) ∧ Below w.heap.size w w')
  have O9 := Lib.hid (fun v (hv : Below w.heap.size w v) => by have := of_op w.heap.size w k 2 p c F.bp F.bc hv hB; rw [F.f9] at this; exact this : ∀ v, Below w.heap.size w v → Calls Try.prog 16 #[.int .i64 k, .int .i64 2, .int .i64 p, .int .i64 c] v fun e w' => e = .returned (.int .i64 q) ∧ Below w.heap.size w w')
  have O10 := Lib.hid (fun v (hv : Below w.heap.size w v) => by have := of_op w.heap.size w k 2 b c F.bb F.bc hv hB; rw [F.f10] at this; exact this : ∀ v, Below w.heap.size w v → Calls Try.prog 16 #[.int .i64 k, .int .i64 2, .int .i64 b, .int .i64 c] v fun e w' => e = .returned (.int .i64 r) ∧ Below w.heap.size w w')
  have O11 := Lib.hid (fun v (hv : Below w.heap.size w v) => by have := of_op w.heap.size w k 2 a r F.ba F.br hv hB; rw [F.f11] at this; exact this : ∀ v, Below w.heap.size w v → Calls Try.prog 16 #[.int .i64 k, .int .i64 2, .int .i64 a, .int .i64 r] v fun e w' => e = .returned (.int .i64 q) ∧ Below w.heap.size w w')
  have O12 := Lib.hid (fun v (hv : Below w.heap.size w v) => by have := of_op w.heap.size w k 2 a u F.ba F.bu hv hB; rw [F.f12] at this; exact this : ∀ v, Below w.heap.size w v → Calls Try.prog 16 #[.int .i64 k, .int .i64 2, .int .i64 a, .int .i64 u] v fun e w' => e = .returned (.int .i64 m) ∧ Below w.heap.size w w')
  have O13 := Lib.hid (fun v (hv : Below w.heap.size w v) => by have := of_op w.heap.size w k 2 a c F.ba F.bc hv hB; rw [F.f13] at this; exact this : ∀ v, Below w.heap.size w v → Calls Try.prog 16 #[.int .i64 k, .int .i64 2, .int .i64 a, .int .i64 c] v fun e w' => e = .returned (.int .i64 n) ∧ Below w.heap.size w w')
  have O14 := Lib.hid (fun v (hv : Below w.heap.size w v) => by have := of_op w.heap.size w k 0 p n F.bp F.bn hv hB; rw [F.f14] at this; exact this : ∀ v, Below w.heap.size w v → Calls Try.prog 16 #[.int .i64 k, .int .i64 0, .int .i64 p, .int .i64 n] v fun e w' => e = .returned (.int .i64 m) ∧ Below w.heap.size w w')
  have O15 := Lib.hid (fun v (hv : Below w.heap.size w v) => by have := of_op w.heap.size w k 2 a 1 F.ba (by omega) hv hB; rw [F.f15] at this; exact this : ∀ v, Below w.heap.size w v → Calls Try.prog 16 #[.int .i64 k, .int .i64 2, .int .i64 a, .int .i64 1] v fun e w' => e = .returned (.int .i64 a) ∧ Below w.heap.size w w')
  have O16 := Lib.hid (fun v (hv : Below w.heap.size w v) => by have := of_op w.heap.size w k 1 0 a (by omega) F.ba hv hB; rw [F.f16] at this; exact this : ∀ v, Below w.heap.size w v → Calls Try.prog 16 #[.int .i64 k, .int .i64 1, .int .i64 0, .int .i64 a] v fun e w' => e = .returned (.int .i64 g) ∧ Below w.heap.size w w')
  have O17 := Lib.hid (fun v (hv : Below w.heap.size w v) => by have := of_op w.heap.size w k 0 a g F.ba F.bg hv hB; rw [F.f17] at this; exact this : ∀ v, Below w.heap.size w v → Calls Try.prog 16 #[.int .i64 k, .int .i64 0, .int .i64 a, .int .i64 g] v fun e w' => e = .returned (.int .i64 0) ∧ Below w.heap.size w w')
  have N := Lib.hid (fun v => by have := Neg_any k a v; rw [F.neg] at this; exact this : ∀ v, Calls Try.prog 20 #[.int .i64 k, .int .i64 a] v fun e w' => e = .returned (.int .i64 g) ∧ v = w')
  have W0 := Lib.hid (fun v n => by have := Wrap_any k l0 (v.drewN n); rw [h0] at this; exact Calls.quiet_of_same (this.mono fun _ _ h => ⟨h.1, h.2.symm⟩) : ∀ (v : World) (n : Nat), Calls Try.prog 14 #[.int .i64 k, .int .i64 l0] (v.drewN n) fun e w'' => e = .returned (.int .i64 a) ∧ ∃ m, w'' = v.drewN m)
  have W1 := Lib.hid (fun v n => by have := Wrap_any k l1 (v.drewN n); rw [h1] at this; exact Calls.quiet_of_same (this.mono fun _ _ h => ⟨h.1, h.2.symm⟩) : ∀ (v : World) (n : Nat), Calls Try.prog 14 #[.int .i64 k, .int .i64 l1] (v.drewN n) fun e w'' => e = .returned (.int .i64 b) ∧ ∃ m, w'' = v.drewN m)
  have W2 := Lib.hid (fun v n => by have := Wrap_any k l2 (v.drewN n); rw [h2] at this; exact Calls.quiet_of_same (this.mono fun _ _ h => ⟨h.1, h.2.symm⟩) : ∀ (v : World) (n : Nat), Calls Try.prog 14 #[.int .i64 k, .int .i64 l2] (v.drewN n) fun e w'' => e = .returned (.int .i64 c) ∧ ∃ m, w'' = v.drewN m)
  have WK : ∀ w1, Below (w.alloc (.cells #[.int .i64 l0, .int .i64 l1, .int .i64 l2] 34)).heap.size (w.alloc (.cells #[.int .i64 l0, .int .i64 l1, .int .i64 l2] 34)) w1 →
      Below w.heap.size w w1 ∧ w1.cell? ⟨w.heap.size, 0, none⟩ = some (.int .i64 l0) ∧ w1.cell? ⟨w.heap.size, 1, none⟩ = some (.int .i64 l1) ∧ w1.cell? ⟨w.heap.size, 2, none⟩ = some (.int .i64 l2) := fun w1 hw1 => by
    have hb := (hw1.block w.heap.size (by simp)).trans (heap_alloc_new w _)
    exact ⟨((Below.refl w.heap.size w).alloc (Nat.le_refl _) _).trans (hw1.mono (by simp)), cell_in hb 0 rfl, cell_in hb 1 rfl, cell_in hb 2 rfl⟩
  have HWK := Lib.hid WK
  clear WK F h0 h1 h2
  cases longs
  all_goals
    simp only [if_true, if_false, Bool.false_eq_true] at hk
    subst hk
    go_enter Try.func7, Try.ntmps7
    go_wp2_with (go_at_call 13; refine (works_any _).mono ?_; rintro e w1 ⟨rfl, hw1⟩; obtain ⟨hw', k0, k1, k2⟩ := HWK.out _ hw1)
    go_quiet ((first | (go_at_call 14; with_reducible exact W0.out _ _) | (go_at_call 14; with_reducible exact W1.out _ _) | (go_at_call 14; with_reducible exact W2.out _ _)))
    have hwq : Below w.heap.size w (w1.drewN nq) := ⟨hw'.os, hw'.tape, hw'.output, hw'.size, hw'.block⟩
    clear k0 k1 k2 hw1 hw' W0 W1 W2 HWK
    go_wp2_with (first
      | (go_at_call 16; (with_reducible refine (O0.out _ (by assumption)).mono ?_); rintro e w' ⟨rfl, hw'⟩)
      | (go_at_call 16; (with_reducible refine (O1.out _ (by assumption)).mono ?_); rintro e w' ⟨rfl, hw'⟩)
      | (go_at_call 16; (with_reducible refine (O2.out _ (by assumption)).mono ?_); rintro e w' ⟨rfl, hw'⟩)
      | (go_at_call 16; (with_reducible refine (O3.out _ (by assumption)).mono ?_); rintro e w' ⟨rfl, hw'⟩)
      | (go_at_call 16; (with_reducible refine (O4.out _ (by assumption)).mono ?_); rintro e w' ⟨rfl, hw'⟩)
      | (go_at_call 16; (with_reducible refine (O5.out _ (by assumption)).mono ?_); rintro e w' ⟨rfl, hw'⟩)
      | (go_at_call 16; (with_reducible refine (O6.out _ (by assumption)).mono ?_); rintro e w' ⟨rfl, hw'⟩)
      | (go_at_call 16; (with_reducible refine (O7.out _ (by assumption)).mono ?_); rintro e w' ⟨rfl, hw'⟩)
      | (go_at_call 16; (with_reducible refine (O8.out _ (by assumption)).mono ?_); rintro e w' ⟨rfl, hw'⟩)
      | (go_at_call 16; (with_reducible refine (O9.out _ (by assumption)).mono ?_); rintro e w' ⟨rfl, hw'⟩)
      | (go_at_call 16; (with_reducible refine (O10.out _ (by assumption)).mono ?_); rintro e w' ⟨rfl, hw'⟩)
      | (go_at_call 16; (with_reducible refine (O11.out _ (by assumption)).mono ?_); rintro e w' ⟨rfl, hw'⟩)
      | (go_at_call 16; (with_reducible refine (O12.out _ (by assumption)).mono ?_); rintro e w' ⟨rfl, hw'⟩)
      | (go_at_call 16; (with_reducible refine (O13.out _ (by assumption)).mono ?_); rintro e w' ⟨rfl, hw'⟩)
      | (go_at_call 16; (with_reducible refine (O14.out _ (by assumption)).mono ?_); rintro e w' ⟨rfl, hw'⟩)
      | (go_at_call 16; (with_reducible refine (O15.out _ (by assumption)).mono ?_); rintro e w' ⟨rfl, hw'⟩)
      | (go_at_call 16; (with_reducible refine (O16.out _ (by assumption)).mono ?_); rintro e w' ⟨rfl, hw'⟩)
      | (go_at_call 16; (with_reducible refine (O17.out _ (by assumption)).mono ?_); rintro e w' ⟨rfl, hw'⟩)
      | (go_at_call 20; (with_reducible refine (N.out _).mono ?_); rintro e w' ⟨rfl, rfl⟩))
    go_ret
    exact ⟨rfl, by assumption⟩

/-- HeapRing returns true, whatever it is handed. -/
theorem HeapRing_walk (l0 l1 l2 : Int) (longs : Bool) (b0 : -9223372036854775808 ≤ l0 ∧ l0 ≤ 9223372036854775807) (b1 : -9223372036854775808 ≤ l1 ∧ l1 ≤ 9223372036854775807) (b2 : -9223372036854775808 ≤ l2 ∧ l2 ≤ 9223372036854775807) (w : World) :
    Calls Try.prog 7 #[.agg #[.int .i64 l0, .int .i64 l1, .int .i64 l2], .bool longs] w fun e w' => e = .returned (.bool true) ∧ Below w.heap.size w w' := by
  cases longs
  · have e : ∀ z, wrapOf 1 z = wrap32 z := fun z => rfl
    have i : ∀ z, wrap32 (wrap32 z) = wrap32 z := fun z => wrap32_id (wrap32_bd z)
    exact ring_walk false 1 rfl l0 l1 l2 _ _ _ _ _ _ _ _ _ _ _ _ (e l0) (e l1) (e l2) (ring32 _ _ _ (i l0) (i l1) (i l2)) w
  · have e : ∀ z, wrapOf 2 z = z := fun z => rfl
    exact ring_walk true 2 rfl l0 l1 l2 _ _ _ _ _ _ _ _ _ _ _ _ (e l0) (e l1) (e l2) (ring64 _ _ _ (wrap64_id b0) (wrap64_id b1) (wrap64_id b2)) w
end Go.Proofs.Ytdelikjodacedaa
