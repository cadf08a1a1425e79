/- HeapWraps: the plain law of wraps, and the walk: of any operator and any two numbers the function returns true and leaves what was there. -/
import Derived.Test.YtdelikjodacedaaDivides
namespace Go.Proofs.Ytdelikjodacedaa
open Go.RowKit

theorem raw32_bd (op x y : Int) (hx : -2147483648 ≤ x ∧ x ≤ 2147483647) : -2147483648 ≤ raw32 op x y ∧ raw32 op x y ≤ 2147483647 := by
  unfold raw32
  split
  · exact wrap32_bd _
  split
  · exact wrap32_bd _
  split
  · exact wrap32_bd _
  split
  · exact wrap32_bd _
  split
  · exact tmod32_bd _ _ hx
  split
  · exact and32_bd _ _
  split
  · exact or32_bd _ _
  split
  · exact xor32_bd _ _
  split
  · exact shl32_bd _ _
  split
  · exact shr32_bd _ _ hx
  · exact ushr32_bd _ _
theorem wrap32_twice (a : Int) : wrap32 (wrap32 a) = wrap32 a := wrap32_id (wrap32_bd a)
theorem binB_wrap (op b : Int) : binB 1 op (wrap32 b) = binB 1 op b := by
  have e : wrapOf 1 (wrap32 b) = wrapOf 1 b := wrap32_twice b
  simp only [binB, e]
theorem binV_wrap (op a b : Int) : binV 1 op (wrap32 a) (wrap32 b) = binV 1 op a b := by
  unfold binV; rw [binB_wrap, wrap32_twice, wrap32_twice, if_pos rfl, if_pos rfl]
theorem binV_bd (op a b : Int) : -2147483648 ≤ binV 1 op a b ∧ binV 1 op a b ≤ 2147483647 := by
  unfold binV
  split
  · exact raw32_bd _ _ _ (wrap32_bd a)
  · omega
theorem u32_wrap (a : Int) : wrap32 a % 4294967296 = a % 4294967296 := by unfold wrap32; omega
theorem u8_conv (a : Int) : ((a + 128) % 256 - 128) % 256 = a % 256 := by omega
theorem u16_conv (a : Int) : ((a + 32768) % 65536 - 32768) % 65536 = a % 65536 := by omega

set_option maxHeartbeats 2000000 in
/-- HeapWraps returns true, whatever it is handed. -/
theorem HeapWraps_walk (op a b : Int) (ha : -9223372036854775808 ≤ a ∧ a ≤ 9223372036854775807) (hb : -9223372036854775808 ≤ b ∧ b ≤ 9223372036854775807) (w : World) :
    Calls Try.prog 5 #[.int .i64 op, .int .i64 a, .int .i64 b] w fun e w' => e = .returned (.bool true) ∧ Below w.heap.size w w' := by
  have hB : w.heap.size ≤ w.heap.size := Nat.le_refl _
  obtain ⟨o, ho⟩ : ∃ o, o = bringF op 11 := ⟨_, rfl⟩
  have BR : ∀ v, Calls Try.prog 17 #[.int .i64 op, .int .i64 11] v fun e w' => e = .returned (.int .i64 o) ∧ v = w' := fun v => by rw [ho]; exact Bring_any op 11 (by omega) v
  obtain ⟨x, hx⟩ : ∃ x, x = binV 1 o a b := ⟨_, rfl⟩
  obtain ⟨t, ht⟩ : ∃ t, t = binB 1 o b := ⟨_, rfl⟩
  obtain ⟨p, hp⟩ : ∃ p, p = wrap32 a := ⟨_, rfl⟩
  obtain ⟨q, hq⟩ : ∃ q, q = wrap32 b := ⟨_, rfl⟩
  have hpb := wrap32_bd a
  have hqb := wrap32_bd b
  have hxb := binV_bd o a b
  have W1 : ∀ v, Calls Try.prog 14 #[.int .i64 1, .int .i64 a] v fun e w' => e = .returned (.int .i64 p) ∧ v = w' := fun v => by rw [hp]; exact Wrap_any 1 a v
  have W2 : ∀ v, Calls Try.prog 14 #[.int .i64 1, .int .i64 b] v fun e w' => e = .returned (.int .i64 q) ∧ v = w' := fun v => by rw [hq]; exact Wrap_any 1 b v
  have W3 : ∀ v, Calls Try.prog 14 #[.int .i64 2, .int .i64 a] v fun e w' => e = .returned (.int .i64 a) ∧ v = w' := fun v => Wrap_any 2 a v
  have B1 : ∀ v, Below w.heap.size w v → Calls Try.prog 15 #[.int .i64 1, .int .i64 o, .int .i64 a, .int .i64 b] v fun e w' => e = .returned (.tuple #[.int .i64 x, .bool t]) ∧ Below w.heap.size w w' := fun v hv => bin_is _ _ 1 o a b x t ⟨ha, hb, ht.symm, hx.symm⟩ hv hB
  have B2 : ∀ v, Below w.heap.size w v → Calls Try.prog 15 #[.int .i64 1, .int .i64 o, .int .i64 p, .int .i64 q] v fun e w' => e = .returned (.tuple #[.int .i64 x, .bool t]) ∧ Below w.heap.size w w' := fun v hv =>
    bin_is _ _ 1 o p q x t ⟨by omega, by omega, by rw [hq, binB_wrap]; exact ht.symm, by rw [hp, hq, binV_wrap]; exact hx.symm⟩ hv hB
  obtain ⟨c, hc⟩ : ∃ c, c = (a + 128) % 256 - 128 := ⟨_, rfl⟩
  obtain ⟨d, hd⟩ : ∃ d, d = a % 65536 := ⟨_, rfl⟩
  obtain ⟨f, hf⟩ : ∃ f, f = (a + 32768) % 65536 - 32768 := ⟨_, rfl⟩
  have C2 : ∀ v, Calls Try.prog 18 #[.int .i64 2, .int .i64 a] v fun e w' => e = .returned (.int .i64 c) ∧ v = w' := fun v => conv_is 2 a c (by rw [hc]; rfl) v
  have C3 : ∀ v, Calls Try.prog 18 #[.int .i64 3, .int .i64 a] v fun e w' => e = .returned (.int .i64 d) ∧ v = w' := fun v => conv_is 3 a d (by rw [hd]; rfl) v
  have C4 : ∀ v, Calls Try.prog 18 #[.int .i64 4, .int .i64 a] v fun e w' => e = .returned (.int .i64 f) ∧ v = w' := fun v => conv_is 4 a f (by rw [hf]; rfl) v
  have C1 : ∀ v, Calls Try.prog 18 #[.int .i64 1, .int .i64 a] v fun e w' => e = .returned (.int .i64 p) ∧ v = w' := fun v => conv_is 1 a p (by rw [hp]; rfl) v
  have C0 : ∀ v, Calls Try.prog 18 #[.int .i64 0, .int .i64 p] v fun e w' => e = .returned (.int .i64 p) ∧ v = w' := fun v => conv_is 0 p p (by rw [hp]; exact wrap32_twice a) v
  have e1 : (p % 4294967296 == a % 4294967296) = true := by rw [hp, u32_wrap]; simp
  have e2 : (c % 256 == a % 256) = true := by rw [hc, u8_conv]; simp
  have e3 : (d == IntKind.u16.wrap a) = true := by rw [IntKind.wrap_u16, hd]; simp
  have e4 : (IntKind.u16.wrap f == IntKind.u16.wrap a) = true := by rw [IntKind.wrap_u16, IntKind.wrap_u16, hf, u16_conv]; simp
  have hcb : -128 ≤ c ∧ c ≤ 127 := by omega
  have hdb : 0 ≤ d ∧ d ≤ 65535 := by omega
  have hfb : -32768 ≤ f ∧ f ≤ 32767 := by omega
  rw [← hp] at hpb
  rw [← hx] at hxb
  obtain ⟨hpb1, hpb2⟩ := hpb
  obtain ⟨hxb1, hxb2⟩ := hxb
  obtain ⟨hcb1, hcb2⟩ := hcb
  obtain ⟨hdb1, hdb2⟩ := hdb
  obtain ⟨hfb1, hfb2⟩ := hfb
  have HBR := Lib.hid BR
  have HW1 := Lib.hid W1
  have HW2 := Lib.hid W2
  have HW3 := Lib.hid W3
  have HB1 := Lib.hid B1
  have HB2 := Lib.hid B2
  have HC0 := Lib.hid C0
  have HC1 := Lib.hid C1
  have HC2 := Lib.hid C2
  have HC3 := Lib.hid C3
  have HC4 := Lib.hid C4
  clear BR W1 W2 W3 B1 B2 C0 C1 C2 C3 C4 ho hx ht hp hq hc hd hf hqb ha hb
  go_enter Try.func5, Try.ntmps5
  go_wp2_with (first
    | (go_at_call 13; refine (works_any _).mono ?_; rintro e w' ⟨rfl, hw'⟩)
    | (go_at_call 17; (with_reducible refine (HBR.out _).mono ?_); rintro e w' ⟨rfl, rfl⟩)
    | (go_at_call 14; (with_reducible refine (HW1.out _).mono ?_); rintro e w' ⟨rfl, rfl⟩)
    | (go_at_call 14; (with_reducible refine (HW2.out _).mono ?_); rintro e w' ⟨rfl, rfl⟩)
    | (go_at_call 14; (with_reducible refine (HW3.out _).mono ?_); rintro e w' ⟨rfl, rfl⟩)
    | (go_at_call 15; (with_reducible refine (HB1.out _ (by assumption)).mono ?_); rintro e w' ⟨rfl, hw'⟩)
    | (go_at_call 15; (with_reducible refine (HB2.out _ (by assumption)).mono ?_); rintro e w' ⟨rfl, hw'⟩)
    | (go_at_call 18; (with_reducible refine (HC0.out _).mono ?_); rintro e w' ⟨rfl, rfl⟩)
    | (go_at_call 18; (with_reducible refine (HC1.out _).mono ?_); rintro e w' ⟨rfl, rfl⟩)
    | (go_at_call 18; (with_reducible refine (HC2.out _).mono ?_); rintro e w' ⟨rfl, rfl⟩)
    | (go_at_call 18; (with_reducible refine (HC3.out _).mono ?_); rintro e w' ⟨rfl, rfl⟩)
    | (go_at_call 18; (with_reducible refine (HC4.out _).mono ?_); rintro e w' ⟨rfl, rfl⟩))
  go_ret
  exact ⟨rfl, by assumption⟩
end Go.Proofs.Ytdelikjodacedaa
