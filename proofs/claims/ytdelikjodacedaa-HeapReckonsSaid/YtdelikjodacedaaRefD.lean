/- The document's answer for operators, by contract: Bin and Neg of warpbeamref15, of all kinds, operators and numbers. -/
import Derived.Test.YtdelikjodacedaaRefC
namespace Go.Proofs.Ytdelikjodacedaa
open Go.RowKit

theorem u64_back (x : Int) : wrap64 (IntKind.u64.wrap x) = wrap64 x := by rw [wrap_u64]; unfold wrap64; omega
theorem wrap32_of64 (x : Int) : wrap32 (wrap64 x) = wrap32 x := by unfold wrap32 wrap64; omega
theorem u_add (x y : Int) : wrap64 (IntKind.u64.wrap (IntKind.u64.wrap x + IntKind.u64.wrap y)) = wrap64 (x + y) := by rw [u64_back]; simp only [wrap_u64]; unfold wrap64; omega
theorem u_sub (x y : Int) : wrap64 (IntKind.u64.wrap (IntKind.u64.wrap x - IntKind.u64.wrap y)) = wrap64 (x - y) := by rw [u64_back]; simp only [wrap_u64]; unfold wrap64; omega
theorem u_mul (x y : Int) : wrap64 (IntKind.u64.wrap (IntKind.u64.wrap x * IntKind.u64.wrap y)) = wrap64 (x * y) := by
  have h : ∀ z w : Int, wrap64 (z * w) = wrap64 (wrap64 z * wrap64 w) := fun z w => by rw [wrap64_mul_l, Int.mul_comm z (wrap64 w), wrap64_mul_l, Int.mul_comm]
  rw [u64_back, h, u64_back, u64_back, ← h]
theorem ofInt_u (x : Int) : BitVec.ofInt 64 (IntKind.u64.wrap x) = BitVec.ofInt 64 x := by
  rw [wrap_u64]
  apply BitVec.eq_of_toNat_eq
  rw [BitVec.toNat_ofInt, BitVec.toNat_ofInt]
  show (x % 18446744073709551616 % 18446744073709551616).toNat = (x % 18446744073709551616).toNat
  rw [Int.emod_emod]
theorem u_and (x y : Int) : wrap64 (bits .and .u64 (IntKind.u64.wrap x) (IntKind.u64.wrap y)) = bits .and .i64 x y := by
  show wrap64 (IntKind.u64.wrap ((BitVec.ofInt 64 (IntKind.u64.wrap x) &&& BitVec.ofInt 64 (IntKind.u64.wrap y)).toNat : Int)) = IntKind.i64.wrap ((BitVec.ofInt 64 x &&& BitVec.ofInt 64 y).toNat : Int)
  rw [u64_back, ofInt_u, ofInt_u, wrap64_eq]
theorem u_or (x y : Int) : wrap64 (bits .or .u64 (IntKind.u64.wrap x) (IntKind.u64.wrap y)) = bits .or .i64 x y := by
  show wrap64 (IntKind.u64.wrap ((BitVec.ofInt 64 (IntKind.u64.wrap x) ||| BitVec.ofInt 64 (IntKind.u64.wrap y)).toNat : Int)) = IntKind.i64.wrap ((BitVec.ofInt 64 x ||| BitVec.ofInt 64 y).toNat : Int)
  rw [u64_back, ofInt_u, ofInt_u, wrap64_eq]
theorem u_xor (x y : Int) : wrap64 (bits .xor .u64 (IntKind.u64.wrap x) (IntKind.u64.wrap y)) = bits .xor .i64 x y := by
  show wrap64 (IntKind.u64.wrap ((BitVec.ofInt 64 (IntKind.u64.wrap x) ^^^ BitVec.ofInt 64 (IntKind.u64.wrap y)).toNat : Int)) = IntKind.i64.wrap ((BitVec.ofInt 64 x ^^^ BitVec.ofInt 64 y).toNat : Int)
  rw [u64_back, ofInt_u, ofInt_u, wrap64_eq]
theorem lsb64 (x : Int) (i : Nat) (h : i < 64) : (if (BitVec.ofInt 64 x).getLsbD i = true then 1 else 0) = bit x i := by
  rw [← bit_bv _ h, BitVec.toInt_ofInt]
  show bit (x.bmod 18446744073709551616) i = _
  rw [← wrap64_bmod, bit_wrap64 _ h]
theorem lsb32 (x : Int) (i : Nat) (h : i < 32) : (if (BitVec.ofInt 32 x).getLsbD i = true then 1 else 0) = bit x i := by
  rw [← bit_bv _ h, BitVec.toInt_ofInt]
  show bit (x.bmod 4294967296) i = _
  rw [← wrap32_bmod, bit_wrap32 _ h]
theorem lsb_same (x : Int) (i : Nat) (h : i < 32) : (BitVec.ofInt 64 x).getLsbD i = (BitVec.ofInt 32 x).getLsbD i := by
  have h1 := lsb64 x i (by omega)
  have h2 := lsb32 x i h
  rw [← h2] at h1
  revert h1
  cases (BitVec.ofInt 64 x).getLsbD i <;> cases (BitVec.ofInt 32 x).getLsbD i <;> simp
theorem wrap32_bv (x : Int) : wrap32 x = (BitVec.ofInt 32 x).toInt := by rw [BitVec.toInt_ofInt, wrap32_bmod]
theorem low_bv (Z : BitVec 64) (i : Nat) (h : i < 32) : (BitVec.ofInt 32 Z.toInt).getLsbD i = Z.getLsbD i := by
  rw [← lsb_same _ i h, BitVec.ofInt_toInt]
theorem w_and (x y : Int) : wrap32 (bits .and .i64 x y) = bits .and .i32 x y := by
  rw [and_i64, and_i32, wrap32_bv]
  congr 1
  refine BitVec.eq_of_getLsbD_eq fun i hi => ?_
  rw [low_bv _ i hi, BitVec.getLsbD_and, BitVec.getLsbD_and, lsb_same _ i hi, lsb_same _ i hi]
theorem w_or (x y : Int) : wrap32 (bits .or .i64 x y) = bits .or .i32 x y := by
  rw [or_i64, or_i32, wrap32_bv]
  congr 1
  refine BitVec.eq_of_getLsbD_eq fun i hi => ?_
  rw [low_bv _ i hi, BitVec.getLsbD_or, BitVec.getLsbD_or, lsb_same _ i hi, lsb_same _ i hi]
theorem w_xor (x y : Int) : wrap32 (bits .xor .i64 x y) = bits .xor .i32 x y := by
  rw [xor_i64, xor_i32, wrap32_bv]
  congr 1
  refine BitVec.eq_of_getLsbD_eq fun i hi => ?_
  rw [low_bv _ i hi, BitVec.getLsbD_xor, BitVec.getLsbD_xor, lsb_same _ i hi, lsb_same _ i hi]
theorem wrapOf_1 (z : Int) : wrapOf 1 z = wrap32 z := rfl
theorem wrapOf_2 (z : Int) : wrapOf 2 z = z := rfl
theorem ret_ok {a b : Int} {t : Bool} (h : a = b) : Ending.returned (.tuple #[.int .i64 a, .bool t]) = .returned (.tuple #[.int .i64 b, .bool t]) := by rw [h]
theorem tmod64_bd (x y : Int) (h : -9223372036854775808 ≤ x ∧ x ≤ 9223372036854775807) : -9223372036854775808 ≤ x.tmod y ∧ x.tmod y ≤ 9223372036854775807 := by
  have := tmod_bd (B := 9223372036854775807) x y (by omega) (by omega); omega

set_option maxHeartbeats 1000000 in
theorem rbin32_0 (a b x y : Int) (hx : wrapOf 1 a = x) (hy : wrapOf 1 b = y) (bx : -2147483648 ≤ x ∧ x ≤ 2147483647) (by_ : -2147483648 ≤ y ∧ y ≤ 2147483647) (w : World) :
    Calls Try.prog 19 #[.int .i64 1, .int .i64 0, .int .i64 a, .int .i64 b] w (RetQ (.tuple #[.int .i64 (wrap32 (x + y)), .bool true]) w) := by
  have R : Hid (wrapOf 1 (wrap64 (IntKind.u64.wrap (IntKind.u64.wrap x + IntKind.u64.wrap y))) = wrap32 (x + y)) := Lib.hid (by rw [wrapOf_1, u_add, wrap32_of64])
  have S := size_any 1 w
  rw [show sizeF 1 = 32 from rfl] at S
  have W1 := rWrap_any 1 a w
  rw [hx] at W1
  have W2 := rWrap_any 1 b w
  rw [hy] at W2
  have HS := Lib.hid S
  have HW1 := Lib.hid W1
  have HW2 := Lib.hid W2
  clear S W1 W2 hx hy bx by_
  go_enter Try.func19, Try.ntmps19
  go_wp2_with (first
    | (go_at_call 51; refine HS.out.mono ?_; rintro e w' ⟨rfl, rfl⟩)
    | (go_at_call 22; (with_reducible refine HW1.out.mono ?_); rintro e w' ⟨rfl, rfl⟩)
    | (go_at_call 22; (with_reducible refine HW2.out.mono ?_); rintro e w' ⟨rfl, rfl⟩)
    | (go_at_call 22; refine (rWrap_any _ _ _).mono ?_; rintro e w' ⟨rfl, rfl⟩))
  go_ret2
  exact ⟨ret_ok R.out, 0, rfl⟩

set_option maxHeartbeats 1000000 in
theorem rbin32_1 (a b x y : Int) (hx : wrapOf 1 a = x) (hy : wrapOf 1 b = y) (bx : -2147483648 ≤ x ∧ x ≤ 2147483647) (by_ : -2147483648 ≤ y ∧ y ≤ 2147483647) (w : World) :
    Calls Try.prog 19 #[.int .i64 1, .int .i64 1, .int .i64 a, .int .i64 b] w (RetQ (.tuple #[.int .i64 (wrap32 (x - y)), .bool true]) w) := by
  have R : Hid (wrapOf 1 (wrap64 (IntKind.u64.wrap (IntKind.u64.wrap x - IntKind.u64.wrap y))) = wrap32 (x - y)) := Lib.hid (by rw [wrapOf_1, u_sub, wrap32_of64])
  have S := size_any 1 w
  rw [show sizeF 1 = 32 from rfl] at S
  have W1 := rWrap_any 1 a w
  rw [hx] at W1
  have W2 := rWrap_any 1 b w
  rw [hy] at W2
  have HS := Lib.hid S
  have HW1 := Lib.hid W1
  have HW2 := Lib.hid W2
  clear S W1 W2 hx hy bx by_
  go_enter Try.func19, Try.ntmps19
  go_wp2_with (first
    | (go_at_call 51; refine HS.out.mono ?_; rintro e w' ⟨rfl, rfl⟩)
    | (go_at_call 22; (with_reducible refine HW1.out.mono ?_); rintro e w' ⟨rfl, rfl⟩)
    | (go_at_call 22; (with_reducible refine HW2.out.mono ?_); rintro e w' ⟨rfl, rfl⟩)
    | (go_at_call 22; refine (rWrap_any _ _ _).mono ?_; rintro e w' ⟨rfl, rfl⟩))
  go_ret2
  exact ⟨ret_ok R.out, 0, rfl⟩

set_option maxHeartbeats 1000000 in
theorem rbin32_2 (a b x y : Int) (hx : wrapOf 1 a = x) (hy : wrapOf 1 b = y) (bx : -2147483648 ≤ x ∧ x ≤ 2147483647) (by_ : -2147483648 ≤ y ∧ y ≤ 2147483647) (w : World) :
    Calls Try.prog 19 #[.int .i64 1, .int .i64 2, .int .i64 a, .int .i64 b] w (RetQ (.tuple #[.int .i64 (wrap32 (x * y)), .bool true]) w) := by
  have R : Hid (wrapOf 1 (wrap64 (IntKind.u64.wrap (IntKind.u64.wrap x * IntKind.u64.wrap y))) = wrap32 (x * y)) := Lib.hid (by rw [wrapOf_1, u_mul, wrap32_of64])
  have S := size_any 1 w
  rw [show sizeF 1 = 32 from rfl] at S
  have W1 := rWrap_any 1 a w
  rw [hx] at W1
  have W2 := rWrap_any 1 b w
  rw [hy] at W2
  have HS := Lib.hid S
  have HW1 := Lib.hid W1
  have HW2 := Lib.hid W2
  clear S W1 W2 hx hy bx by_
  go_enter Try.func19, Try.ntmps19
  go_wp2_with (first
    | (go_at_call 51; refine HS.out.mono ?_; rintro e w' ⟨rfl, rfl⟩)
    | (go_at_call 22; (with_reducible refine HW1.out.mono ?_); rintro e w' ⟨rfl, rfl⟩)
    | (go_at_call 22; (with_reducible refine HW2.out.mono ?_); rintro e w' ⟨rfl, rfl⟩)
    | (go_at_call 22; refine (rWrap_any _ _ _).mono ?_; rintro e w' ⟨rfl, rfl⟩))
  go_ret2
  exact ⟨ret_ok R.out, 0, rfl⟩

set_option maxHeartbeats 1000000 in
theorem rbin32_3 (a b x y : Int) (hx : wrapOf 1 a = x) (hy : wrapOf 1 b = y) (bx : -2147483648 ≤ x ∧ x ≤ 2147483647) (by_ : -2147483648 ≤ y ∧ y ≤ 2147483647) (h0 : ¬ y = 0) (w : World) :
    Calls Try.prog 19 #[.int .i64 1, .int .i64 3, .int .i64 a, .int .i64 b] w (RetQ (.tuple #[.int .i64 (wrap32 (x.tdiv y)), .bool true]) w) := by
  have R : Hid (wrapOf 1 (wrap64 (IntKind.u64.wrap (wrap64 (x.tdiv y)))) = wrap32 (x.tdiv y)) := Lib.hid (by rw [wrapOf_1, u64_back, wrap64_id (wrap64_bd _), wrap32_of64])
  have S := size_any 1 w
  rw [show sizeF 1 = 32 from rfl] at S
  have W1 := rWrap_any 1 a w
  rw [hx] at W1
  have W2 := rWrap_any 1 b w
  rw [hy] at W2
  have HS := Lib.hid S
  have HW1 := Lib.hid W1
  have HW2 := Lib.hid W2
  have g0 : (y == 0) = false := by simpa using h0
  have DV := Lib.hid (divide_any x y (by omega) (by omega) h0 w)
  clear S W1 W2 hx hy bx by_
  go_enter Try.func19, Try.ntmps19
  go_wp2_with (first
    | (go_at_call 51; refine HS.out.mono ?_; rintro e w' ⟨rfl, rfl⟩)
    | (go_at_call 22; (with_reducible refine HW1.out.mono ?_); rintro e w' ⟨rfl, rfl⟩)
    | (go_at_call 22; (with_reducible refine HW2.out.mono ?_); rintro e w' ⟨rfl, rfl⟩)
    | (go_at_call 53; refine DV.out.mono ?_; rintro e w' ⟨rfl, nq, rfl⟩)
    | (go_at_call 22; refine (rWrap_any _ _ _).mono ?_; rintro e w' ⟨rfl, rfl⟩))
  go_ret2
  exact ⟨ret_ok R.out, _, rfl⟩

set_option maxHeartbeats 1000000 in
theorem rbin32_4 (a b x y : Int) (hx : wrapOf 1 a = x) (hy : wrapOf 1 b = y) (bx : -2147483648 ≤ x ∧ x ≤ 2147483647) (by_ : -2147483648 ≤ y ∧ y ≤ 2147483647) (h0 : ¬ y = 0) (w : World) :
    Calls Try.prog 19 #[.int .i64 1, .int .i64 4, .int .i64 a, .int .i64 b] w (RetQ (.tuple #[.int .i64 (x.tmod y), .bool true]) w) := by
  have R : Hid (wrapOf 1 (wrap64 (IntKind.u64.wrap (x.tmod y))) = x.tmod y) := Lib.hid (by rw [wrapOf_1, u64_back, wrap32_of64, wrap32_id (tmod32_bd x y bx)])
  have S := size_any 1 w
  rw [show sizeF 1 = 32 from rfl] at S
  have W1 := rWrap_any 1 a w
  rw [hx] at W1
  have W2 := rWrap_any 1 b w
  rw [hy] at W2
  have HS := Lib.hid S
  have HW1 := Lib.hid W1
  have HW2 := Lib.hid W2
  have g0 : (y == 0) = false := by simpa using h0
  have DV := Lib.hid (divide_any x y (by omega) (by omega) h0 w)
  clear S W1 W2 hx hy bx by_
  go_enter Try.func19, Try.ntmps19
  go_wp2_with (first
    | (go_at_call 51; refine HS.out.mono ?_; rintro e w' ⟨rfl, rfl⟩)
    | (go_at_call 22; (with_reducible refine HW1.out.mono ?_); rintro e w' ⟨rfl, rfl⟩)
    | (go_at_call 22; (with_reducible refine HW2.out.mono ?_); rintro e w' ⟨rfl, rfl⟩)
    | (go_at_call 53; refine DV.out.mono ?_; rintro e w' ⟨rfl, nq, rfl⟩)
    | (go_at_call 22; refine (rWrap_any _ _ _).mono ?_; rintro e w' ⟨rfl, rfl⟩))
  go_ret2
  exact ⟨ret_ok R.out, _, rfl⟩

set_option maxHeartbeats 1000000 in
theorem rbin32_5 (a b x y : Int) (hx : wrapOf 1 a = x) (hy : wrapOf 1 b = y) (bx : -2147483648 ≤ x ∧ x ≤ 2147483647) (by_ : -2147483648 ≤ y ∧ y ≤ 2147483647) (w : World) :
    Calls Try.prog 19 #[.int .i64 1, .int .i64 5, .int .i64 a, .int .i64 b] w (RetQ (.tuple #[.int .i64 (bits .and .i32 x y), .bool true]) w) := by
  have R : Hid (wrapOf 1 (wrap64 (bits .and .u64 (IntKind.u64.wrap x) (IntKind.u64.wrap y))) = bits .and .i32 x y) := Lib.hid (by rw [wrapOf_1, u_and, w_and])
  have S := size_any 1 w
  rw [show sizeF 1 = 32 from rfl] at S
  have W1 := rWrap_any 1 a w
  rw [hx] at W1
  have W2 := rWrap_any 1 b w
  rw [hy] at W2
  have HS := Lib.hid S
  have HW1 := Lib.hid W1
  have HW2 := Lib.hid W2
  clear S W1 W2 hx hy bx by_
  go_enter Try.func19, Try.ntmps19
  go_wp2_with (first
    | (go_at_call 51; refine HS.out.mono ?_; rintro e w' ⟨rfl, rfl⟩)
    | (go_at_call 22; (with_reducible refine HW1.out.mono ?_); rintro e w' ⟨rfl, rfl⟩)
    | (go_at_call 22; (with_reducible refine HW2.out.mono ?_); rintro e w' ⟨rfl, rfl⟩)
    | (go_at_call 22; refine (rWrap_any _ _ _).mono ?_; rintro e w' ⟨rfl, rfl⟩))
  go_ret2
  exact ⟨ret_ok R.out, 0, rfl⟩

set_option maxHeartbeats 1000000 in
theorem rbin32_6 (a b x y : Int) (hx : wrapOf 1 a = x) (hy : wrapOf 1 b = y) (bx : -2147483648 ≤ x ∧ x ≤ 2147483647) (by_ : -2147483648 ≤ y ∧ y ≤ 2147483647) (w : World) :
    Calls Try.prog 19 #[.int .i64 1, .int .i64 6, .int .i64 a, .int .i64 b] w (RetQ (.tuple #[.int .i64 (bits .or .i32 x y), .bool true]) w) := by
  have R : Hid (wrapOf 1 (wrap64 (bits .or .u64 (IntKind.u64.wrap x) (IntKind.u64.wrap y))) = bits .or .i32 x y) := Lib.hid (by rw [wrapOf_1, u_or, w_or])
  have S := size_any 1 w
  rw [show sizeF 1 = 32 from rfl] at S
  have W1 := rWrap_any 1 a w
  rw [hx] at W1
  have W2 := rWrap_any 1 b w
  rw [hy] at W2
  have HS := Lib.hid S
  have HW1 := Lib.hid W1
  have HW2 := Lib.hid W2
  clear S W1 W2 hx hy bx by_
  go_enter Try.func19, Try.ntmps19
  go_wp2_with (first
    | (go_at_call 51; refine HS.out.mono ?_; rintro e w' ⟨rfl, rfl⟩)
    | (go_at_call 22; (with_reducible refine HW1.out.mono ?_); rintro e w' ⟨rfl, rfl⟩)
    | (go_at_call 22; (with_reducible refine HW2.out.mono ?_); rintro e w' ⟨rfl, rfl⟩)
    | (go_at_call 22; refine (rWrap_any _ _ _).mono ?_; rintro e w' ⟨rfl, rfl⟩))
  go_ret2
  exact ⟨ret_ok R.out, 0, rfl⟩

set_option maxHeartbeats 1000000 in
theorem rbin32_7 (a b x y : Int) (hx : wrapOf 1 a = x) (hy : wrapOf 1 b = y) (bx : -2147483648 ≤ x ∧ x ≤ 2147483647) (by_ : -2147483648 ≤ y ∧ y ≤ 2147483647) (w : World) :
    Calls Try.prog 19 #[.int .i64 1, .int .i64 7, .int .i64 a, .int .i64 b] w (RetQ (.tuple #[.int .i64 (bits .xor .i32 x y), .bool true]) w) := by
  have R : Hid (wrapOf 1 (wrap64 (bits .xor .u64 (IntKind.u64.wrap x) (IntKind.u64.wrap y))) = bits .xor .i32 x y) := Lib.hid (by rw [wrapOf_1, u_xor, w_xor])
  have S := size_any 1 w
  rw [show sizeF 1 = 32 from rfl] at S
  have W1 := rWrap_any 1 a w
  rw [hx] at W1
  have W2 := rWrap_any 1 b w
  rw [hy] at W2
  have HS := Lib.hid S
  have HW1 := Lib.hid W1
  have HW2 := Lib.hid W2
  clear S W1 W2 hx hy bx by_
  go_enter Try.func19, Try.ntmps19
  go_wp2_with (first
    | (go_at_call 51; refine HS.out.mono ?_; rintro e w' ⟨rfl, rfl⟩)
    | (go_at_call 22; (with_reducible refine HW1.out.mono ?_); rintro e w' ⟨rfl, rfl⟩)
    | (go_at_call 22; (with_reducible refine HW2.out.mono ?_); rintro e w' ⟨rfl, rfl⟩)
    | (go_at_call 22; refine (rWrap_any _ _ _).mono ?_; rintro e w' ⟨rfl, rfl⟩))
  go_ret2
  exact ⟨ret_ok R.out, 0, rfl⟩

set_option maxHeartbeats 1000000 in
theorem rbin64_0 (a b x y : Int) (hx : wrapOf 2 a = x) (hy : wrapOf 2 b = y) (bx : -9223372036854775808 ≤ x ∧ x ≤ 9223372036854775807) (by_ : -9223372036854775808 ≤ y ∧ y ≤ 9223372036854775807) (w : World) :
    Calls Try.prog 19 #[.int .i64 2, .int .i64 0, .int .i64 a, .int .i64 b] w (RetQ (.tuple #[.int .i64 (wrap64 (x + y)), .bool true]) w) := by
  have R : Hid (wrapOf 2 (wrap64 (IntKind.u64.wrap (IntKind.u64.wrap x + IntKind.u64.wrap y))) = wrap64 (x + y)) := Lib.hid (by rw [wrapOf_2, u_add])
  have S := size_any 2 w
  rw [show sizeF 2 = 64 from rfl] at S
  have W1 := rWrap_any 2 a w
  rw [hx] at W1
  have W2 := rWrap_any 2 b w
  rw [hy] at W2
  have HS := Lib.hid S
  have HW1 := Lib.hid W1
  have HW2 := Lib.hid W2
  clear S W1 W2 hx hy bx by_
  go_enter Try.func19, Try.ntmps19
  go_wp2_with (first
    | (go_at_call 51; refine HS.out.mono ?_; rintro e w' ⟨rfl, rfl⟩)
    | (go_at_call 22; (with_reducible refine HW1.out.mono ?_); rintro e w' ⟨rfl, rfl⟩)
    | (go_at_call 22; (with_reducible refine HW2.out.mono ?_); rintro e w' ⟨rfl, rfl⟩)
    | (go_at_call 22; refine (rWrap_any _ _ _).mono ?_; rintro e w' ⟨rfl, rfl⟩))
  go_ret2
  exact ⟨ret_ok R.out, 0, rfl⟩

set_option maxHeartbeats 1000000 in
theorem rbin64_1 (a b x y : Int) (hx : wrapOf 2 a = x) (hy : wrapOf 2 b = y) (bx : -9223372036854775808 ≤ x ∧ x ≤ 9223372036854775807) (by_ : -9223372036854775808 ≤ y ∧ y ≤ 9223372036854775807) (w : World) :
    Calls Try.prog 19 #[.int .i64 2, .int .i64 1, .int .i64 a, .int .i64 b] w (RetQ (.tuple #[.int .i64 (wrap64 (x - y)), .bool true]) w) := by
  have R : Hid (wrapOf 2 (wrap64 (IntKind.u64.wrap (IntKind.u64.wrap x - IntKind.u64.wrap y))) = wrap64 (x - y)) := Lib.hid (by rw [wrapOf_2, u_sub])
  have S := size_any 2 w
  rw [show sizeF 2 = 64 from rfl] at S
  have W1 := rWrap_any 2 a w
  rw [hx] at W1
  have W2 := rWrap_any 2 b w
  rw [hy] at W2
  have HS := Lib.hid S
  have HW1 := Lib.hid W1
  have HW2 := Lib.hid W2
  clear S W1 W2 hx hy bx by_
  go_enter Try.func19, Try.ntmps19
  go_wp2_with (first
    | (go_at_call 51; refine HS.out.mono ?_; rintro e w' ⟨rfl, rfl⟩)
    | (go_at_call 22; (with_reducible refine HW1.out.mono ?_); rintro e w' ⟨rfl, rfl⟩)
    | (go_at_call 22; (with_reducible refine HW2.out.mono ?_); rintro e w' ⟨rfl, rfl⟩)
    | (go_at_call 22; refine (rWrap_any _ _ _).mono ?_; rintro e w' ⟨rfl, rfl⟩))
  go_ret2
  exact ⟨ret_ok R.out, 0, rfl⟩

set_option maxHeartbeats 1000000 in
theorem rbin64_2 (a b x y : Int) (hx : wrapOf 2 a = x) (hy : wrapOf 2 b = y) (bx : -9223372036854775808 ≤ x ∧ x ≤ 9223372036854775807) (by_ : -9223372036854775808 ≤ y ∧ y ≤ 9223372036854775807) (w : World) :
    Calls Try.prog 19 #[.int .i64 2, .int .i64 2, .int .i64 a, .int .i64 b] w (RetQ (.tuple #[.int .i64 (wrap64 (x * y)), .bool true]) w) := by
  have R : Hid (wrapOf 2 (wrap64 (IntKind.u64.wrap (IntKind.u64.wrap x * IntKind.u64.wrap y))) = wrap64 (x * y)) := Lib.hid (by rw [wrapOf_2, u_mul])
  have S := size_any 2 w
  rw [show sizeF 2 = 64 from rfl] at S
  have W1 := rWrap_any 2 a w
  rw [hx] at W1
  have W2 := rWrap_any 2 b w
  rw [hy] at W2
  have HS := Lib.hid S
  have HW1 := Lib.hid W1
  have HW2 := Lib.hid W2
  clear S W1 W2 hx hy bx by_
  go_enter Try.func19, Try.ntmps19
  go_wp2_with (first
    | (go_at_call 51; refine HS.out.mono ?_; rintro e w' ⟨rfl, rfl⟩)
    | (go_at_call 22; (with_reducible refine HW1.out.mono ?_); rintro e w' ⟨rfl, rfl⟩)
    | (go_at_call 22; (with_reducible refine HW2.out.mono ?_); rintro e w' ⟨rfl, rfl⟩)
    | (go_at_call 22; refine (rWrap_any _ _ _).mono ?_; rintro e w' ⟨rfl, rfl⟩))
  go_ret2
  exact ⟨ret_ok R.out, 0, rfl⟩

set_option maxHeartbeats 1000000 in
theorem rbin64_3 (a b x y : Int) (hx : wrapOf 2 a = x) (hy : wrapOf 2 b = y) (bx : -9223372036854775808 ≤ x ∧ x ≤ 9223372036854775807) (by_ : -9223372036854775808 ≤ y ∧ y ≤ 9223372036854775807) (h0 : ¬ y = 0) (w : World) :
    Calls Try.prog 19 #[.int .i64 2, .int .i64 3, .int .i64 a, .int .i64 b] w (RetQ (.tuple #[.int .i64 (wrap64 (x.tdiv y)), .bool true]) w) := by
  have R : Hid (wrapOf 2 (wrap64 (IntKind.u64.wrap (wrap64 (x.tdiv y)))) = wrap64 (x.tdiv y)) := Lib.hid (by rw [wrapOf_2, u64_back, wrap64_id (wrap64_bd _)])
  have S := size_any 2 w
  rw [show sizeF 2 = 64 from rfl] at S
  have W1 := rWrap_any 2 a w
  rw [hx] at W1
  have W2 := rWrap_any 2 b w
  rw [hy] at W2
  have HS := Lib.hid S
  have HW1 := Lib.hid W1
  have HW2 := Lib.hid W2
  have g0 : (y == 0) = false := by simpa using h0
  have DV := Lib.hid (divide_any x y (by omega) (by omega) h0 w)
  clear S W1 W2 hx hy bx by_
  go_enter Try.func19, Try.ntmps19
  go_wp2_with (first
    | (go_at_call 51; refine HS.out.mono ?_; rintro e w' ⟨rfl, rfl⟩)
    | (go_at_call 22; (with_reducible refine HW1.out.mono ?_); rintro e w' ⟨rfl, rfl⟩)
    | (go_at_call 22; (with_reducible refine HW2.out.mono ?_); rintro e w' ⟨rfl, rfl⟩)
    | (go_at_call 53; refine DV.out.mono ?_; rintro e w' ⟨rfl, nq, rfl⟩)
    | (go_at_call 22; refine (rWrap_any _ _ _).mono ?_; rintro e w' ⟨rfl, rfl⟩))
  go_ret2
  exact ⟨ret_ok R.out, _, rfl⟩

set_option maxHeartbeats 1000000 in
theorem rbin64_4 (a b x y : Int) (hx : wrapOf 2 a = x) (hy : wrapOf 2 b = y) (bx : -9223372036854775808 ≤ x ∧ x ≤ 9223372036854775807) (by_ : -9223372036854775808 ≤ y ∧ y ≤ 9223372036854775807) (h0 : ¬ y = 0) (w : World) :
    Calls Try.prog 19 #[.int .i64 2, .int .i64 4, .int .i64 a, .int .i64 b] w (RetQ (.tuple #[.int .i64 (x.tmod y), .bool true]) w) := by
  have R : Hid (wrapOf 2 (wrap64 (IntKind.u64.wrap (x.tmod y))) = x.tmod y) := Lib.hid (by rw [wrapOf_2, u64_back, wrap64_id (tmod64_bd x y bx)])
  have S := size_any 2 w
  rw [show sizeF 2 = 64 from rfl] at S
  have W1 := rWrap_any 2 a w
  rw [hx] at W1
  have W2 := rWrap_any 2 b w
  rw [hy] at W2
  have HS := Lib.hid S
  have HW1 := Lib.hid W1
  have HW2 := Lib.hid W2
  have g0 : (y == 0) = false := by simpa using h0
  have DV := Lib.hid (divide_any x y (by omega) (by omega) h0 w)
  clear S W1 W2 hx hy bx by_
  go_enter Try.func19, Try.ntmps19
  go_wp2_with (first
    | (go_at_call 51; refine HS.out.mono ?_; rintro e w' ⟨rfl, rfl⟩)
    | (go_at_call 22; (with_reducible refine HW1.out.mono ?_); rintro e w' ⟨rfl, rfl⟩)
    | (go_at_call 22; (with_reducible refine HW2.out.mono ?_); rintro e w' ⟨rfl, rfl⟩)
    | (go_at_call 53; refine DV.out.mono ?_; rintro e w' ⟨rfl, nq, rfl⟩)
    | (go_at_call 22; refine (rWrap_any _ _ _).mono ?_; rintro e w' ⟨rfl, rfl⟩))
  go_ret2
  exact ⟨ret_ok R.out, _, rfl⟩

set_option maxHeartbeats 1000000 in
theorem rbin64_5 (a b x y : Int) (hx : wrapOf 2 a = x) (hy : wrapOf 2 b = y) (bx : -9223372036854775808 ≤ x ∧ x ≤ 9223372036854775807) (by_ : -9223372036854775808 ≤ y ∧ y ≤ 9223372036854775807) (w : World) :
    Calls Try.prog 19 #[.int .i64 2, .int .i64 5, .int .i64 a, .int .i64 b] w (RetQ (.tuple #[.int .i64 (bits .and .i64 x y), .bool true]) w) := by
  have R : Hid (wrapOf 2 (wrap64 (bits .and .u64 (IntKind.u64.wrap x) (IntKind.u64.wrap y))) = bits .and .i64 x y) := Lib.hid (by rw [wrapOf_2, u_and])
  have S := size_any 2 w
  rw [show sizeF 2 = 64 from rfl] at S
  have W1 := rWrap_any 2 a w
  rw [hx] at W1
  have W2 := rWrap_any 2 b w
  rw [hy] at W2
  have HS := Lib.hid S
  have HW1 := Lib.hid W1
  have HW2 := Lib.hid W2
  clear S W1 W2 hx hy bx by_
  go_enter Try.func19, Try.ntmps19
  go_wp2_with (first
    | (go_at_call 51; refine HS.out.mono ?_; rintro e w' ⟨rfl, rfl⟩)
    | (go_at_call 22; (with_reducible refine HW1.out.mono ?_); rintro e w' ⟨rfl, rfl⟩)
    | (go_at_call 22; (with_reducible refine HW2.out.mono ?_); rintro e w' ⟨rfl, rfl⟩)
    | (go_at_call 22; refine (rWrap_any _ _ _).mono ?_; rintro e w' ⟨rfl, rfl⟩))
  go_ret2
  exact ⟨ret_ok R.out, 0, rfl⟩

set_option maxHeartbeats 1000000 in
theorem rbin64_6 (a b x y : Int) (hx : wrapOf 2 a = x) (hy : wrapOf 2 b = y) (bx : -9223372036854775808 ≤ x ∧ x ≤ 9223372036854775807) (by_ : -9223372036854775808 ≤ y ∧ y ≤ 9223372036854775807) (w : World) :
    Calls Try.prog 19 #[.int .i64 2, .int .i64 6, .int .i64 a, .int .i64 b] w (RetQ (.tuple #[.int .i64 (bits .or .i64 x y), .bool true]) w) := by
  have R : Hid (wrapOf 2 (wrap64 (bits .or .u64 (IntKind.u64.wrap x) (IntKind.u64.wrap y))) = bits .or .i64 x y) := Lib.hid (by rw [wrapOf_2, u_or])
  have S := size_any 2 w
  rw [show sizeF 2 = 64 from rfl] at S
  have W1 := rWrap_any 2 a w
  rw [hx] at W1
  have W2 := rWrap_any 2 b w
  rw [hy] at W2
  have HS := Lib.hid S
  have HW1 := Lib.hid W1
  have HW2 := Lib.hid W2
  clear S W1 W2 hx hy bx by_
  go_enter Try.func19, Try.ntmps19
  go_wp2_with (first
    | (go_at_call 51; refine HS.out.mono ?_; rintro e w' ⟨rfl, rfl⟩)
    | (go_at_call 22; (with_reducible refine HW1.out.mono ?_); rintro e w' ⟨rfl, rfl⟩)
    | (go_at_call 22; (with_reducible refine HW2.out.mono ?_); rintro e w' ⟨rfl, rfl⟩)
    | (go_at_call 22; refine (rWrap_any _ _ _).mono ?_; rintro e w' ⟨rfl, rfl⟩))
  go_ret2
  exact ⟨ret_ok R.out, 0, rfl⟩

set_option maxHeartbeats 1000000 in
theorem rbin64_7 (a b x y : Int) (hx : wrapOf 2 a = x) (hy : wrapOf 2 b = y) (bx : -9223372036854775808 ≤ x ∧ x ≤ 9223372036854775807) (by_ : -9223372036854775808 ≤ y ∧ y ≤ 9223372036854775807) (w : World) :
    Calls Try.prog 19 #[.int .i64 2, .int .i64 7, .int .i64 a, .int .i64 b] w (RetQ (.tuple #[.int .i64 (bits .xor .i64 x y), .bool true]) w) := by
  have R : Hid (wrapOf 2 (wrap64 (bits .xor .u64 (IntKind.u64.wrap x) (IntKind.u64.wrap y))) = bits .xor .i64 x y) := Lib.hid (by rw [wrapOf_2, u_xor])
  have S := size_any 2 w
  rw [show sizeF 2 = 64 from rfl] at S
  have W1 := rWrap_any 2 a w
  rw [hx] at W1
  have W2 := rWrap_any 2 b w
  rw [hy] at W2
  have HS := Lib.hid S
  have HW1 := Lib.hid W1
  have HW2 := Lib.hid W2
  clear S W1 W2 hx hy bx by_
  go_enter Try.func19, Try.ntmps19
  go_wp2_with (first
    | (go_at_call 51; refine HS.out.mono ?_; rintro e w' ⟨rfl, rfl⟩)
    | (go_at_call 22; (with_reducible refine HW1.out.mono ?_); rintro e w' ⟨rfl, rfl⟩)
    | (go_at_call 22; (with_reducible refine HW2.out.mono ?_); rintro e w' ⟨rfl, rfl⟩)
    | (go_at_call 22; refine (rWrap_any _ _ _).mono ?_; rintro e w' ⟨rfl, rfl⟩))
  go_ret2
  exact ⟨ret_ok R.out, 0, rfl⟩
end Go.Proofs.Ytdelikjodacedaa
