/- HeapConverts: the walk: of any way and any two numbers the function returns true and leaves what was there. -/
import Derived.Test.YtdelikjodacedaaRefA
import Derived.Test.YtdelikjodacedaaWorks
namespace Go.Proofs.Ytdelikjodacedaa
open Go.RowKit
set_option maxHeartbeats 1000000 in
/-- HeapConverts returns true, whatever it is handed. -/
theorem HeapConverts_walk (how a b : Int) (w : World) : Calls Try.prog 8 #[.int .i64 how, .int .i64 a, .int .i64 b] w fun e w' => e = .returned (.bool true) ∧ Below w.heap.size w w' := by
  have C1 := Conv_any how a w
  have C2 := rConv_any how a w
  have M1 := Cmp_any a b w
  have M2 := rCmp_any a b w
  have T1 := Test_any how a b w
  have T2 := rTest_any how a b w
  generalize convF how a = c at *
  generalize cmpF a b = m at *
  generalize testF how a b = t at *
  have HC1 := Lib.hid C1
  have HC2 := Lib.hid C2
  have HM1 := Lib.hid M1
  have HM2 := Lib.hid M2
  have HT1 := Lib.hid T1
  have HT2 := Lib.hid T2
  clear C1 C2 M1 M2 T1 T2
  go_enter Try.func8, Try.ntmps8
  go_wp2_with (first
    | (go_at_call 18; refine HC1.out.mono ?_; rintro e w' ⟨rfl, rfl⟩)
    | (go_at_call 23; refine HC2.out.mono ?_; rintro e w' ⟨rfl, rfl⟩)
    | (go_at_call 24; refine HM1.out.mono ?_; rintro e w' ⟨rfl, rfl⟩)
    | (go_at_call 25; refine HM2.out.mono ?_; rintro e w' ⟨rfl, rfl⟩)
    | (go_at_call 26; refine HT1.out.mono ?_; rintro e w' ⟨rfl, rfl⟩)
    | (go_at_call 27; refine HT2.out.mono ?_; rintro e w' ⟨rfl, rfl⟩)
    | (go_at_call 13; refine (works_any _).mono ?_; rintro e w' ⟨rfl, hw'⟩))
  go_ret
  exact ⟨rfl, by assumption⟩
end Go.Proofs.Ytdelikjodacedaa
