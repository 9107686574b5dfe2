/- The functions of the program's package auto compute the plain functions of the text Plain, for all integers. -/
import Derived.Test.YtefohnbmifblkaaChecked
import Derived.Test.YtefohnbmifblkaaPlain
import Derived.WalkKit
import Derived.BigQuiet
namespace Go.Proofs.Ytefohnbmifblkaa
open Go.RowKit

theorem ret_int {k : IntKind} {a b : Int} (h : a = b) : Ending.returned (.int k a) = .returned (.int k b) := by rw [h]
theorem ret_bool {a b : Bool} (h : a = b) : Ending.returned (.bool a) = .returned (.bool b) := by rw [h]

set_option maxHeartbeats 1000000 in
theorem auto_utf (s b : Int) (w : World) : Calls Try.prog 40 #[.int .i64 s, .int .i64 b] w fun e w' => e = .returned (.int .i64 (utfF s b)) ∧ w = w' := by
  have hs : s = 0 ∨ (1 ≤ s ∧ s ≤ 3) ∨ s = 4 ∨ s = 5 ∨ s = 6 ∨ s = 7 ∨ s < 0 ∨ 8 ≤ s := by omega
  rcases hs with rfl | ⟨h1, h2⟩ | rfl | rfl | rfl | rfl | h1 | h1
  all_goals
    go_enter Try.func40, Try.ntmps40
    go_wp2
    all_goals (go_ret; refine ⟨ret_int ?_, rfl⟩; unfold utfF; first | omega | grind)

set_option maxHeartbeats 1000000 in
theorem auto_shift (s b : Int) (w : World) : Calls Try.prog 41 #[.int .i64 s, .int .i64 b] w fun e w' => e = .returned (.int .i64 (shiftF s b)) ∧ w = w' := by
  have hs : s = 0 ∨ s = 1 ∨ s = 2 ∨ s = 3 ∨ s = 4 ∨ s = 5 ∨ s = 6 ∨ s = 7 ∨ s = 8 ∨ s < 0 ∨ 9 ≤ s := by omega
  rcases hs with rfl | rfl | rfl | rfl | rfl | rfl | rfl | rfl | rfl | h1 | h1
  all_goals
    go_enter Try.func41, Try.ntmps41
    go_wp2
    all_goals (go_ret; refine ⟨ret_int ?_, rfl⟩; unfold shiftF; first | omega | grind)

set_option maxHeartbeats 1000000 in
theorem auto_twin (s b : Int) (w : World) : Calls Try.prog 42 #[.int .i64 s, .int .i64 b] w fun e w' => e = .returned (.int .i64 (twinF s b)) ∧ w = w' := by
  have hs : s = 0 ∨ s = 1 ∨ s < 0 ∨ 2 ≤ s := by omega
  rcases hs with rfl | rfl | h1 | h1
  all_goals
    go_enter Try.func42, Try.ntmps42
    go_wp2
    all_goals (go_ret; refine ⟨ret_int ?_, rfl⟩; unfold twinF; first | omega | grind)

set_option maxHeartbeats 400000 in
theorem auto_latin (b : Int) (w : World) : Calls Try.prog 43 #[.int .i64 b] w fun e w' => e = .returned (.int .i64 (latinF b)) ∧ w = w' := by
  go_enter Try.func43, Try.ntmps43
  go_wp2
  all_goals (go_ret; refine ⟨ret_int ?_, rfl⟩; unfold latinF; first | omega | grind)

set_option maxHeartbeats 1000000 in
theorem auto_low (s b : Int) (w : World) : Calls Try.prog 44 #[.int .i64 s, .int .i64 b] w fun e w' => e = .returned (.int .i64 (lowF s b)) ∧ w = w' := by
  have hs : s = 0 ∨ s = 1 ∨ s = 2 ∨ s = 3 ∨ s < 0 ∨ 4 ≤ s := by omega
  rcases hs with rfl | rfl | rfl | rfl | h1 | h1
  all_goals
    go_enter Try.func44, Try.ntmps44
    go_wp2
    all_goals (go_ret; refine ⟨ret_int ?_, rfl⟩; unfold lowF; first | omega | grind)

set_option maxHeartbeats 1000000 in
theorem auto_high (s b : Int) (w : World) : Calls Try.prog 45 #[.int .i64 s, .int .i64 b] w fun e w' => e = .returned (.int .i64 (highF s b)) ∧ w = w' := by
  have hs : s = 0 ∨ s = 1 ∨ s = 2 ∨ s = 3 ∨ s = 4 ∨ s < 0 ∨ 5 ≤ s := by omega
  rcases hs with rfl | rfl | rfl | rfl | rfl | h1 | h1
  all_goals
    go_enter Try.func45, Try.ntmps45
    go_wp2
    all_goals (go_ret; refine ⟨ret_int ?_, rfl⟩; unfold highF; first | omega | grind)

end Go.Proofs.Ytefohnbmifblkaa
