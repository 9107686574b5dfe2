/- The small functions of the program's package score, and the reference's: what each returns, for all integers. -/
import Derived.Test.YtefohnbmifblkaaAutoB
import Derived.Test.YtefohnbmifblkaaScoreP
namespace Go.Proofs.Ytefohnbmifblkaa
open Go.RowKit
set_option linter.unusedVariables false

set_option maxHeartbeats 1000000 in
theorem score_class (b : Int) (w : World) : Calls Try.prog 28 #[.int .i64 b] w fun e w' => e = .returned (.int .i64 (classF b)) ∧ w = w' := by
  go_enter Try.func28, Try.ntmps28
  go_wp2
  all_goals (go_ret; refine ⟨ret_int ?_, rfl⟩; unfold classF; first | grind | ((repeat' split) <;> omega))

set_option maxHeartbeats 1000000 in
theorem ref_class (b : Int) (w : World) : Calls Try.prog 29 #[.int .i64 b] w fun e w' => e = .returned (.int .i64 (classF b)) ∧ w = w' := by
  rw [← classR_eq]
  go_enter Try.func29, Try.ntmps29
  go_wp2
  all_goals (go_ret; refine ⟨ret_int ?_, rfl⟩; unfold classR; first | grind | ((repeat' split) <;> omega))

set_option maxHeartbeats 1000000 in
theorem score_bound (n : Int) (h0 : -1099511627776 ≤ n) (h1 : n ≤ 1099511627776) (w : World) : Calls Try.prog 57 #[.int .i64 n] w fun e w' => e = .returned (.int .i64 n) ∧ w = w' := by
  have hmin : min n 1099511627776 = n := by omega
  have hmax : max (-1099511627776) n = n := by omega
  go_enter Try.func57, Try.ntmps57
  go_wp2
  all_goals (go_ret; exact ⟨ret_int (by omega), rfl⟩)

set_option maxHeartbeats 2000000 in
theorem score_w1_0 (x y a b : Int) (q1 : x < 4) (q2 : y < 4) (hx : 0 ≤ x ∧ x ≤ 6) (hy : 0 ≤ y ∧ y ≤ 6) (w : World)
    (g : Int → Int) (ea : g (a) = x) (eb : g (b) = y) (HG : Hid (∀ z W, Calls Try.prog 28 #[.int .i64 z] W fun e w' => e = .returned (.int .i64 (g z)) ∧ W = w')) :
    Calls Try.prog 26 #[.int .i64 (1), .int .i64 (a), .int .i64 (b)] w fun e' w' => e' = .returned (.int .i64 (weighF (1) (a) (b) (x) (y))) ∧ w = w' := by
  go_enter Try.func26, Try.ntmps26
  go_wp2_with (go_at_call 28; refine (HG.out _ _).mono ?_; rintro e w' ⟨rfl, rfl⟩)
  all_goals
    go_ret
    exact ⟨ret_int (by unfold weighF; first | grind | ((repeat' split) <;> omega)), rfl⟩

set_option maxHeartbeats 2000000 in
theorem score_w1_1 (x y a b : Int) (q1 : x < 4) (q2 : 4 ≤ y) (hx : 0 ≤ x ∧ x ≤ 6) (hy : 0 ≤ y ∧ y ≤ 6) (w : World)
    (g : Int → Int) (ea : g (a) = x) (eb : g (b) = y) (HG : Hid (∀ z W, Calls Try.prog 28 #[.int .i64 z] W fun e w' => e = .returned (.int .i64 (g z)) ∧ W = w')) :
    Calls Try.prog 26 #[.int .i64 (1), .int .i64 (a), .int .i64 (b)] w fun e' w' => e' = .returned (.int .i64 (weighF (1) (a) (b) (x) (y))) ∧ w = w' := by
  go_enter Try.func26, Try.ntmps26
  go_wp2_with (go_at_call 28; refine (HG.out _ _).mono ?_; rintro e w' ⟨rfl, rfl⟩)
  all_goals
    go_ret
    exact ⟨ret_int (by unfold weighF; first | grind | ((repeat' split) <;> omega)), rfl⟩

set_option maxHeartbeats 2000000 in
theorem score_w1_2 (x y a b : Int) (q1 : 4 ≤ x) (q2 : x ≠ 6) (hx : 0 ≤ x ∧ x ≤ 6) (hy : 0 ≤ y ∧ y ≤ 6) (w : World)
    (g : Int → Int) (ea : g (a) = x) (eb : g (b) = y) (HG : Hid (∀ z W, Calls Try.prog 28 #[.int .i64 z] W fun e w' => e = .returned (.int .i64 (g z)) ∧ W = w')) :
    Calls Try.prog 26 #[.int .i64 (1), .int .i64 (a), .int .i64 (b)] w fun e' w' => e' = .returned (.int .i64 (weighF (1) (a) (b) (x) (y))) ∧ w = w' := by
  go_enter Try.func26, Try.ntmps26
  go_wp2_with (go_at_call 28; refine (HG.out _ _).mono ?_; rintro e w' ⟨rfl, rfl⟩)
  all_goals
    go_ret
    exact ⟨ret_int (by unfold weighF; first | grind | ((repeat' split) <;> omega)), rfl⟩

set_option maxHeartbeats 2000000 in
theorem score_w1_3 (a b : Int)   (w : World)
    (g : Int → Int) (ea : g (a) = 6) (eb : g (b) = 5) (HG : Hid (∀ z W, Calls Try.prog 28 #[.int .i64 z] W fun e w' => e = .returned (.int .i64 (g z)) ∧ W = w')) :
    Calls Try.prog 26 #[.int .i64 (1), .int .i64 (a), .int .i64 (b)] w fun e' w' => e' = .returned (.int .i64 (weighF (1) (a) (b) (6) (5))) ∧ w = w' := by
  go_enter Try.func26, Try.ntmps26
  go_wp2_with (go_at_call 28; refine (HG.out _ _).mono ?_; rintro e w' ⟨rfl, rfl⟩)
  all_goals
    go_ret
    exact ⟨ret_int (by unfold weighF; first | grind | ((repeat' split) <;> omega)), rfl⟩

set_option maxHeartbeats 2000000 in
theorem score_w1_4 (y a b : Int) (q2 : y ≠ 5) (hy : 0 ≤ y ∧ y ≤ 6) (w : World)
    (g : Int → Int) (ea : g (a) = 6) (eb : g (b) = y) (HG : Hid (∀ z W, Calls Try.prog 28 #[.int .i64 z] W fun e w' => e = .returned (.int .i64 (g z)) ∧ W = w')) :
    Calls Try.prog 26 #[.int .i64 (1), .int .i64 (a), .int .i64 (b)] w fun e' w' => e' = .returned (.int .i64 (weighF (1) (a) (b) (6) (y))) ∧ w = w' := by
  go_enter Try.func26, Try.ntmps26
  go_wp2_with (go_at_call 28; refine (HG.out _ _).mono ?_; rintro e w' ⟨rfl, rfl⟩)
  all_goals
    go_ret
    exact ⟨ret_int (by unfold weighF; first | grind | ((repeat' split) <;> omega)), rfl⟩

set_option maxHeartbeats 2000000 in
theorem score_w2_0 (x y b : Int) (q1 : x < 4) (q2 : y < 4) (hx : 0 ≤ x ∧ x ≤ 6) (hy : 0 ≤ y ∧ y ≤ 6) (w : World)
    (g : Int → Int) (ea : g (27) = x) (eb : g (b) = y) (HG : Hid (∀ z W, Calls Try.prog 28 #[.int .i64 z] W fun e w' => e = .returned (.int .i64 (g z)) ∧ W = w')) :
    Calls Try.prog 26 #[.int .i64 (2), .int .i64 (27), .int .i64 (b)] w fun e' w' => e' = .returned (.int .i64 (weighF (2) (27) (b) (x) (y))) ∧ w = w' := by
  go_enter Try.func26, Try.ntmps26
  go_wp2_with (go_at_call 28; refine (HG.out _ _).mono ?_; rintro e w' ⟨rfl, rfl⟩)
  all_goals
    go_ret
    exact ⟨ret_int (by unfold weighF; first | grind | ((repeat' split) <;> omega)), rfl⟩

set_option maxHeartbeats 2000000 in
theorem score_w2_1 (x y a : Int) (q1 : x < 4) (q2 : y < 4) (q3 : a ≠ 27) (hx : 0 ≤ x ∧ x ≤ 6) (hy : 0 ≤ y ∧ y ≤ 6) (w : World)
    (g : Int → Int) (ea : g (a) = x) (eb : g (27) = y) (HG : Hid (∀ z W, Calls Try.prog 28 #[.int .i64 z] W fun e w' => e = .returned (.int .i64 (g z)) ∧ W = w')) :
    Calls Try.prog 26 #[.int .i64 (2), .int .i64 (a), .int .i64 (27)] w fun e' w' => e' = .returned (.int .i64 (weighF (2) (a) (27) (x) (y))) ∧ w = w' := by
  go_enter Try.func26, Try.ntmps26
  go_wp2_with (go_at_call 28; refine (HG.out _ _).mono ?_; rintro e w' ⟨rfl, rfl⟩)
  all_goals
    go_ret
    exact ⟨ret_int (by unfold weighF; first | grind | ((repeat' split) <;> omega)), rfl⟩

set_option maxHeartbeats 2000000 in
theorem score_w2_2 (x y a b : Int) (q1 : x < 4) (q2 : y < 4) (q3 : a ≠ 27) (q4 : b ≠ 27) (hx : 0 ≤ x ∧ x ≤ 6) (hy : 0 ≤ y ∧ y ≤ 6) (w : World)
    (g : Int → Int) (ea : g (a) = x) (eb : g (b) = y) (HG : Hid (∀ z W, Calls Try.prog 28 #[.int .i64 z] W fun e w' => e = .returned (.int .i64 (g z)) ∧ W = w')) :
    Calls Try.prog 26 #[.int .i64 (2), .int .i64 (a), .int .i64 (b)] w fun e' w' => e' = .returned (.int .i64 (weighF (2) (a) (b) (x) (y))) ∧ w = w' := by
  go_enter Try.func26, Try.ntmps26
  go_wp2_with (go_at_call 28; refine (HG.out _ _).mono ?_; rintro e w' ⟨rfl, rfl⟩)
  all_goals
    go_ret
    exact ⟨ret_int (by unfold weighF; first | grind | ((repeat' split) <;> omega)), rfl⟩

set_option maxHeartbeats 2000000 in
theorem score_w2_3 (x y b : Int) (q1 : x < 4) (q2 : 4 ≤ y) (hx : 0 ≤ x ∧ x ≤ 6) (hy : 0 ≤ y ∧ y ≤ 6) (w : World)
    (g : Int → Int) (ea : g (27) = x) (eb : g (b) = y) (HG : Hid (∀ z W, Calls Try.prog 28 #[.int .i64 z] W fun e w' => e = .returned (.int .i64 (g z)) ∧ W = w')) :
    Calls Try.prog 26 #[.int .i64 (2), .int .i64 (27), .int .i64 (b)] w fun e' w' => e' = .returned (.int .i64 (weighF (2) (27) (b) (x) (y))) ∧ w = w' := by
  go_enter Try.func26, Try.ntmps26
  go_wp2_with (go_at_call 28; refine (HG.out _ _).mono ?_; rintro e w' ⟨rfl, rfl⟩)
  all_goals
    go_ret
    exact ⟨ret_int (by unfold weighF; first | grind | ((repeat' split) <;> omega)), rfl⟩

set_option maxHeartbeats 2000000 in
theorem score_w2_4 (x y a : Int) (q1 : x < 4) (q2 : 4 ≤ y) (q3 : a ≠ 27) (hx : 0 ≤ x ∧ x ≤ 6) (hy : 0 ≤ y ∧ y ≤ 6) (w : World)
    (g : Int → Int) (ea : g (a) = x) (eb : g (27) = y) (HG : Hid (∀ z W, Calls Try.prog 28 #[.int .i64 z] W fun e w' => e = .returned (.int .i64 (g z)) ∧ W = w')) :
    Calls Try.prog 26 #[.int .i64 (2), .int .i64 (a), .int .i64 (27)] w fun e' w' => e' = .returned (.int .i64 (weighF (2) (a) (27) (x) (y))) ∧ w = w' := by
  go_enter Try.func26, Try.ntmps26
  go_wp2_with (go_at_call 28; refine (HG.out _ _).mono ?_; rintro e w' ⟨rfl, rfl⟩)
  all_goals
    go_ret
    exact ⟨ret_int (by unfold weighF; first | grind | ((repeat' split) <;> omega)), rfl⟩

set_option maxHeartbeats 2000000 in
theorem score_w2_5 (x y a b : Int) (q1 : x < 4) (q2 : 4 ≤ y) (q3 : a ≠ 27) (q4 : b ≠ 27) (hx : 0 ≤ x ∧ x ≤ 6) (hy : 0 ≤ y ∧ y ≤ 6) (w : World)
    (g : Int → Int) (ea : g (a) = x) (eb : g (b) = y) (HG : Hid (∀ z W, Calls Try.prog 28 #[.int .i64 z] W fun e w' => e = .returned (.int .i64 (g z)) ∧ W = w')) :
    Calls Try.prog 26 #[.int .i64 (2), .int .i64 (a), .int .i64 (b)] w fun e' w' => e' = .returned (.int .i64 (weighF (2) (a) (b) (x) (y))) ∧ w = w' := by
  go_enter Try.func26, Try.ntmps26
  go_wp2_with (go_at_call 28; refine (HG.out _ _).mono ?_; rintro e w' ⟨rfl, rfl⟩)
  all_goals
    go_ret
    exact ⟨ret_int (by unfold weighF; first | grind | ((repeat' split) <;> omega)), rfl⟩

set_option maxHeartbeats 2000000 in
theorem score_w2_6 (x y b : Int) (q1 : 4 ≤ x) (hx : 0 ≤ x ∧ x ≤ 6) (hy : 0 ≤ y ∧ y ≤ 6) (w : World)
    (g : Int → Int) (ea : g (27) = x) (eb : g (b) = y) (HG : Hid (∀ z W, Calls Try.prog 28 #[.int .i64 z] W fun e w' => e = .returned (.int .i64 (g z)) ∧ W = w')) :
    Calls Try.prog 26 #[.int .i64 (2), .int .i64 (27), .int .i64 (b)] w fun e' w' => e' = .returned (.int .i64 (weighF (2) (27) (b) (x) (y))) ∧ w = w' := by
  go_enter Try.func26, Try.ntmps26
  go_wp2_with (go_at_call 28; refine (HG.out _ _).mono ?_; rintro e w' ⟨rfl, rfl⟩)
  all_goals
    go_ret
    exact ⟨ret_int (by unfold weighF; first | grind | ((repeat' split) <;> omega)), rfl⟩

set_option maxHeartbeats 2000000 in
theorem score_w2_7 (x y a : Int) (q1 : 4 ≤ x) (q2 : a ≠ 27) (hx : 0 ≤ x ∧ x ≤ 6) (hy : 0 ≤ y ∧ y ≤ 6) (w : World)
    (g : Int → Int) (ea : g (a) = x) (eb : g (27) = y) (HG : Hid (∀ z W, Calls Try.prog 28 #[.int .i64 z] W fun e w' => e = .returned (.int .i64 (g z)) ∧ W = w')) :
    Calls Try.prog 26 #[.int .i64 (2), .int .i64 (a), .int .i64 (27)] w fun e' w' => e' = .returned (.int .i64 (weighF (2) (a) (27) (x) (y))) ∧ w = w' := by
  go_enter Try.func26, Try.ntmps26
  go_wp2_with (go_at_call 28; refine (HG.out _ _).mono ?_; rintro e w' ⟨rfl, rfl⟩)
  all_goals
    go_ret
    exact ⟨ret_int (by unfold weighF; first | grind | ((repeat' split) <;> omega)), rfl⟩

set_option maxHeartbeats 2000000 in
theorem score_w2_8 (x y a b : Int) (q1 : 4 ≤ x) (q2 : a ≠ 27) (q3 : b ≠ 27) (hx : 0 ≤ x ∧ x ≤ 6) (hy : 0 ≤ y ∧ y ≤ 6) (w : World)
    (g : Int → Int) (ea : g (a) = x) (eb : g (b) = y) (HG : Hid (∀ z W, Calls Try.prog 28 #[.int .i64 z] W fun e w' => e = .returned (.int .i64 (g z)) ∧ W = w')) :
    Calls Try.prog 26 #[.int .i64 (2), .int .i64 (a), .int .i64 (b)] w fun e' w' => e' = .returned (.int .i64 (weighF (2) (a) (b) (x) (y))) ∧ w = w' := by
  go_enter Try.func26, Try.ntmps26
  go_wp2_with (go_at_call 28; refine (HG.out _ _).mono ?_; rintro e w' ⟨rfl, rfl⟩)
  all_goals
    go_ret
    exact ⟨ret_int (by unfold weighF; first | grind | ((repeat' split) <;> omega)), rfl⟩

set_option maxHeartbeats 2000000 in
theorem score_w3_0 (x y a b : Int) (q1 : x < 4) (q2 : y < 4) (hx : 0 ≤ x ∧ x ≤ 6) (hy : 0 ≤ y ∧ y ≤ 6) (w : World)
    (g : Int → Int) (ea : g (a) = x) (eb : g (b) = y) (HG : Hid (∀ z W, Calls Try.prog 28 #[.int .i64 z] W fun e w' => e = .returned (.int .i64 (g z)) ∧ W = w')) :
    Calls Try.prog 26 #[.int .i64 (3), .int .i64 (a), .int .i64 (b)] w fun e' w' => e' = .returned (.int .i64 (weighF (3) (a) (b) (x) (y))) ∧ w = w' := by
  go_enter Try.func26, Try.ntmps26
  go_wp2_with (go_at_call 28; refine (HG.out _ _).mono ?_; rintro e w' ⟨rfl, rfl⟩)
  all_goals
    go_ret
    exact ⟨ret_int (by unfold weighF; first | grind | ((repeat' split) <;> omega)), rfl⟩

set_option maxHeartbeats 2000000 in
theorem score_w3_1 (x y a b : Int) (q1 : x < 4) (q2 : 4 ≤ y) (hx : 0 ≤ x ∧ x ≤ 6) (hy : 0 ≤ y ∧ y ≤ 6) (w : World)
    (g : Int → Int) (ea : g (a) = x) (eb : g (b) = y) (HG : Hid (∀ z W, Calls Try.prog 28 #[.int .i64 z] W fun e w' => e = .returned (.int .i64 (g z)) ∧ W = w')) :
    Calls Try.prog 26 #[.int .i64 (3), .int .i64 (a), .int .i64 (b)] w fun e' w' => e' = .returned (.int .i64 (weighF (3) (a) (b) (x) (y))) ∧ w = w' := by
  go_enter Try.func26, Try.ntmps26
  go_wp2_with (go_at_call 28; refine (HG.out _ _).mono ?_; rintro e w' ⟨rfl, rfl⟩)
  all_goals
    go_ret
    exact ⟨ret_int (by unfold weighF; first | grind | ((repeat' split) <;> omega)), rfl⟩

set_option maxHeartbeats 2000000 in
theorem score_w3_2 (x y a b : Int) (q1 : 4 ≤ x) (q2 : x ≠ 5) (hx : 0 ≤ x ∧ x ≤ 6) (hy : 0 ≤ y ∧ y ≤ 6) (w : World)
    (g : Int → Int) (ea : g (a) = x) (eb : g (b) = y) (HG : Hid (∀ z W, Calls Try.prog 28 #[.int .i64 z] W fun e w' => e = .returned (.int .i64 (g z)) ∧ W = w')) :
    Calls Try.prog 26 #[.int .i64 (3), .int .i64 (a), .int .i64 (b)] w fun e' w' => e' = .returned (.int .i64 (weighF (3) (a) (b) (x) (y))) ∧ w = w' := by
  go_enter Try.func26, Try.ntmps26
  go_wp2_with (go_at_call 28; refine (HG.out _ _).mono ?_; rintro e w' ⟨rfl, rfl⟩)
  all_goals
    go_ret
    exact ⟨ret_int (by unfold weighF; first | grind | ((repeat' split) <;> omega)), rfl⟩

set_option maxHeartbeats 2000000 in
theorem score_w3_3 (a b : Int)   (w : World)
    (g : Int → Int) (ea : g (a) = 5) (eb : g (b) = 4) (HG : Hid (∀ z W, Calls Try.prog 28 #[.int .i64 z] W fun e w' => e = .returned (.int .i64 (g z)) ∧ W = w')) :
    Calls Try.prog 26 #[.int .i64 (3), .int .i64 (a), .int .i64 (b)] w fun e' w' => e' = .returned (.int .i64 (weighF (3) (a) (b) (5) (4))) ∧ w = w' := by
  go_enter Try.func26, Try.ntmps26
  go_wp2_with (go_at_call 28; refine (HG.out _ _).mono ?_; rintro e w' ⟨rfl, rfl⟩)
  all_goals
    go_ret
    exact ⟨ret_int (by unfold weighF; first | grind | ((repeat' split) <;> omega)), rfl⟩

set_option maxHeartbeats 2000000 in
theorem score_w3_4 (y a b : Int) (q2 : y ≠ 4) (hy : 0 ≤ y ∧ y ≤ 6) (w : World)
    (g : Int → Int) (ea : g (a) = 5) (eb : g (b) = y) (HG : Hid (∀ z W, Calls Try.prog 28 #[.int .i64 z] W fun e w' => e = .returned (.int .i64 (g z)) ∧ W = w')) :
    Calls Try.prog 26 #[.int .i64 (3), .int .i64 (a), .int .i64 (b)] w fun e' w' => e' = .returned (.int .i64 (weighF (3) (a) (b) (5) (y))) ∧ w = w' := by
  go_enter Try.func26, Try.ntmps26
  go_wp2_with (go_at_call 28; refine (HG.out _ _).mono ?_; rintro e w' ⟨rfl, rfl⟩)
  all_goals
    go_ret
    exact ⟨ret_int (by unfold weighF; first | grind | ((repeat' split) <;> omega)), rfl⟩

set_option maxHeartbeats 2000000 in
theorem score_w4_0 (y a b : Int) (q2 : y < 4) (hy : 0 ≤ y ∧ y ≤ 6) (w : World)
    (g : Int → Int) (ea : g (a) = 0) (eb : g (b) = y) (HG : Hid (∀ z W, Calls Try.prog 28 #[.int .i64 z] W fun e w' => e = .returned (.int .i64 (g z)) ∧ W = w')) :
    Calls Try.prog 26 #[.int .i64 (4), .int .i64 (a), .int .i64 (b)] w fun e' w' => e' = .returned (.int .i64 (weighF (4) (a) (b) (0) (y))) ∧ w = w' := by
  go_enter Try.func26, Try.ntmps26
  go_wp2_with (go_at_call 28; refine (HG.out _ _).mono ?_; rintro e w' ⟨rfl, rfl⟩)
  all_goals
    go_ret
    exact ⟨ret_int (by unfold weighF; first | grind | ((repeat' split) <;> omega)), rfl⟩

set_option maxHeartbeats 2000000 in
theorem score_w4_1 (a b : Int)   (w : World)
    (g : Int → Int) (ea : g (a) = 0) (eb : g (b) = 6) (HG : Hid (∀ z W, Calls Try.prog 28 #[.int .i64 z] W fun e w' => e = .returned (.int .i64 (g z)) ∧ W = w')) :
    Calls Try.prog 26 #[.int .i64 (4), .int .i64 (a), .int .i64 (b)] w fun e' w' => e' = .returned (.int .i64 (weighF (4) (a) (b) (0) (6))) ∧ w = w' := by
  go_enter Try.func26, Try.ntmps26
  go_wp2_with (go_at_call 28; refine (HG.out _ _).mono ?_; rintro e w' ⟨rfl, rfl⟩)
  all_goals
    go_ret
    exact ⟨ret_int (by unfold weighF; first | grind | ((repeat' split) <;> omega)), rfl⟩

set_option maxHeartbeats 2000000 in
theorem score_w4_2 (y a b : Int) (q2 : 4 ≤ y) (q3 : y ≠ 6) (hy : 0 ≤ y ∧ y ≤ 6) (w : World)
    (g : Int → Int) (ea : g (a) = 0) (eb : g (b) = y) (HG : Hid (∀ z W, Calls Try.prog 28 #[.int .i64 z] W fun e w' => e = .returned (.int .i64 (g z)) ∧ W = w')) :
    Calls Try.prog 26 #[.int .i64 (4), .int .i64 (a), .int .i64 (b)] w fun e' w' => e' = .returned (.int .i64 (weighF (4) (a) (b) (0) (y))) ∧ w = w' := by
  go_enter Try.func26, Try.ntmps26
  go_wp2_with (go_at_call 28; refine (HG.out _ _).mono ?_; rintro e w' ⟨rfl, rfl⟩)
  all_goals
    go_ret
    exact ⟨ret_int (by unfold weighF; first | grind | ((repeat' split) <;> omega)), rfl⟩

set_option maxHeartbeats 2000000 in
theorem score_w4_3 (x y a b : Int) (q1 : 1 ≤ x) (q2 : x < 4) (q3 : y < 4) (hx : 0 ≤ x ∧ x ≤ 6) (hy : 0 ≤ y ∧ y ≤ 6) (w : World)
    (g : Int → Int) (ea : g (a) = x) (eb : g (b) = y) (HG : Hid (∀ z W, Calls Try.prog 28 #[.int .i64 z] W fun e w' => e = .returned (.int .i64 (g z)) ∧ W = w')) :
    Calls Try.prog 26 #[.int .i64 (4), .int .i64 (a), .int .i64 (b)] w fun e' w' => e' = .returned (.int .i64 (weighF (4) (a) (b) (x) (y))) ∧ w = w' := by
  go_enter Try.func26, Try.ntmps26
  go_wp2_with (go_at_call 28; refine (HG.out _ _).mono ?_; rintro e w' ⟨rfl, rfl⟩)
  all_goals
    go_ret
    exact ⟨ret_int (by unfold weighF; first | grind | ((repeat' split) <;> omega)), rfl⟩

set_option maxHeartbeats 2000000 in
theorem score_w4_4 (x y a b : Int) (q1 : 1 ≤ x) (q2 : x < 4) (q3 : 4 ≤ y) (hx : 0 ≤ x ∧ x ≤ 6) (hy : 0 ≤ y ∧ y ≤ 6) (w : World)
    (g : Int → Int) (ea : g (a) = x) (eb : g (b) = y) (HG : Hid (∀ z W, Calls Try.prog 28 #[.int .i64 z] W fun e w' => e = .returned (.int .i64 (g z)) ∧ W = w')) :
    Calls Try.prog 26 #[.int .i64 (4), .int .i64 (a), .int .i64 (b)] w fun e' w' => e' = .returned (.int .i64 (weighF (4) (a) (b) (x) (y))) ∧ w = w' := by
  go_enter Try.func26, Try.ntmps26
  go_wp2_with (go_at_call 28; refine (HG.out _ _).mono ?_; rintro e w' ⟨rfl, rfl⟩)
  all_goals
    go_ret
    exact ⟨ret_int (by unfold weighF; first | grind | ((repeat' split) <;> omega)), rfl⟩

set_option maxHeartbeats 2000000 in
theorem score_w4_5 (x y a b : Int) (q1 : 4 ≤ x) (q2 : x ≠ 6) (hx : 0 ≤ x ∧ x ≤ 6) (hy : 0 ≤ y ∧ y ≤ 6) (w : World)
    (g : Int → Int) (ea : g (a) = x) (eb : g (b) = y) (HG : Hid (∀ z W, Calls Try.prog 28 #[.int .i64 z] W fun e w' => e = .returned (.int .i64 (g z)) ∧ W = w')) :
    Calls Try.prog 26 #[.int .i64 (4), .int .i64 (a), .int .i64 (b)] w fun e' w' => e' = .returned (.int .i64 (weighF (4) (a) (b) (x) (y))) ∧ w = w' := by
  go_enter Try.func26, Try.ntmps26
  go_wp2_with (go_at_call 28; refine (HG.out _ _).mono ?_; rintro e w' ⟨rfl, rfl⟩)
  all_goals
    go_ret
    exact ⟨ret_int (by unfold weighF; first | grind | ((repeat' split) <;> omega)), rfl⟩

set_option maxHeartbeats 2000000 in
theorem score_w4_6 (a b : Int)   (w : World)
    (g : Int → Int) (ea : g (a) = 6) (eb : g (b) = 0) (HG : Hid (∀ z W, Calls Try.prog 28 #[.int .i64 z] W fun e w' => e = .returned (.int .i64 (g z)) ∧ W = w')) :
    Calls Try.prog 26 #[.int .i64 (4), .int .i64 (a), .int .i64 (b)] w fun e' w' => e' = .returned (.int .i64 (weighF (4) (a) (b) (6) (0))) ∧ w = w' := by
  go_enter Try.func26, Try.ntmps26
  go_wp2_with (go_at_call 28; refine (HG.out _ _).mono ?_; rintro e w' ⟨rfl, rfl⟩)
  all_goals
    go_ret
    exact ⟨ret_int (by unfold weighF; first | grind | ((repeat' split) <;> omega)), rfl⟩

set_option maxHeartbeats 2000000 in
theorem score_w4_7 (y a b : Int) (q2 : y ≠ 0) (hy : 0 ≤ y ∧ y ≤ 6) (w : World)
    (g : Int → Int) (ea : g (a) = 6) (eb : g (b) = y) (HG : Hid (∀ z W, Calls Try.prog 28 #[.int .i64 z] W fun e w' => e = .returned (.int .i64 (g z)) ∧ W = w')) :
    Calls Try.prog 26 #[.int .i64 (4), .int .i64 (a), .int .i64 (b)] w fun e' w' => e' = .returned (.int .i64 (weighF (4) (a) (b) (6) (y))) ∧ w = w' := by
  go_enter Try.func26, Try.ntmps26
  go_wp2_with (go_at_call 28; refine (HG.out _ _).mono ?_; rintro e w' ⟨rfl, rfl⟩)
  all_goals
    go_ret
    exact ⟨ret_int (by unfold weighF; first | grind | ((repeat' split) <;> omega)), rfl⟩

set_option maxHeartbeats 2000000 in
theorem score_w5_0 (x y a b : Int) (q1 : x < 4) (q2 : y < 4) (hx : 0 ≤ x ∧ x ≤ 6) (hy : 0 ≤ y ∧ y ≤ 6) (w : World)
    (g : Int → Int) (ea : g (a) = x) (eb : g (b) = y) (HG : Hid (∀ z W, Calls Try.prog 28 #[.int .i64 z] W fun e w' => e = .returned (.int .i64 (g z)) ∧ W = w')) :
    Calls Try.prog 26 #[.int .i64 (5), .int .i64 (a), .int .i64 (b)] w fun e' w' => e' = .returned (.int .i64 (weighF (5) (a) (b) (x) (y))) ∧ w = w' := by
  go_enter Try.func26, Try.ntmps26
  go_wp2_with (go_at_call 28; refine (HG.out _ _).mono ?_; rintro e w' ⟨rfl, rfl⟩)
  all_goals
    go_ret
    exact ⟨ret_int (by unfold weighF; first | grind | ((repeat' split) <;> omega)), rfl⟩

set_option maxHeartbeats 2000000 in
theorem score_w5_1 (x a b : Int) (q1 : x < 4) (hx : 0 ≤ x ∧ x ≤ 6) (w : World)
    (g : Int → Int) (ea : g (a) = x) (eb : g (b) = 4) (HG : Hid (∀ z W, Calls Try.prog 28 #[.int .i64 z] W fun e w' => e = .returned (.int .i64 (g z)) ∧ W = w')) :
    Calls Try.prog 26 #[.int .i64 (5), .int .i64 (a), .int .i64 (b)] w fun e' w' => e' = .returned (.int .i64 (weighF (5) (a) (b) (x) (4))) ∧ w = w' := by
  go_enter Try.func26, Try.ntmps26
  go_wp2_with (go_at_call 28; refine (HG.out _ _).mono ?_; rintro e w' ⟨rfl, rfl⟩)
  all_goals
    go_ret
    exact ⟨ret_int (by unfold weighF; first | grind | ((repeat' split) <;> omega)), rfl⟩

set_option maxHeartbeats 2000000 in
theorem score_w5_2 (x y a b : Int) (q1 : x < 4) (q2 : 4 < y) (hx : 0 ≤ x ∧ x ≤ 6) (hy : 0 ≤ y ∧ y ≤ 6) (w : World)
    (g : Int → Int) (ea : g (a) = x) (eb : g (b) = y) (HG : Hid (∀ z W, Calls Try.prog 28 #[.int .i64 z] W fun e w' => e = .returned (.int .i64 (g z)) ∧ W = w')) :
    Calls Try.prog 26 #[.int .i64 (5), .int .i64 (a), .int .i64 (b)] w fun e' w' => e' = .returned (.int .i64 (weighF (5) (a) (b) (x) (y))) ∧ w = w' := by
  go_enter Try.func26, Try.ntmps26
  go_wp2_with (go_at_call 28; refine (HG.out _ _).mono ?_; rintro e w' ⟨rfl, rfl⟩)
  all_goals
    go_ret
    exact ⟨ret_int (by unfold weighF; first | grind | ((repeat' split) <;> omega)), rfl⟩

set_option maxHeartbeats 2000000 in
theorem score_w5_3 (x a b : Int) (q1 : 4 ≤ x) (hx : 0 ≤ x ∧ x ≤ 6) (w : World)
    (g : Int → Int) (ea : g (a) = x) (eb : g (b) = 4) (HG : Hid (∀ z W, Calls Try.prog 28 #[.int .i64 z] W fun e w' => e = .returned (.int .i64 (g z)) ∧ W = w')) :
    Calls Try.prog 26 #[.int .i64 (5), .int .i64 (a), .int .i64 (b)] w fun e' w' => e' = .returned (.int .i64 (weighF (5) (a) (b) (x) (4))) ∧ w = w' := by
  go_enter Try.func26, Try.ntmps26
  go_wp2_with (go_at_call 28; refine (HG.out _ _).mono ?_; rintro e w' ⟨rfl, rfl⟩)
  all_goals
    go_ret
    exact ⟨ret_int (by unfold weighF; first | grind | ((repeat' split) <;> omega)), rfl⟩

set_option maxHeartbeats 2000000 in
theorem score_w5_4 (x y a b : Int) (q1 : 4 ≤ x) (q2 : y ≠ 4) (hx : 0 ≤ x ∧ x ≤ 6) (hy : 0 ≤ y ∧ y ≤ 6) (w : World)
    (g : Int → Int) (ea : g (a) = x) (eb : g (b) = y) (HG : Hid (∀ z W, Calls Try.prog 28 #[.int .i64 z] W fun e w' => e = .returned (.int .i64 (g z)) ∧ W = w')) :
    Calls Try.prog 26 #[.int .i64 (5), .int .i64 (a), .int .i64 (b)] w fun e' w' => e' = .returned (.int .i64 (weighF (5) (a) (b) (x) (y))) ∧ w = w' := by
  go_enter Try.func26, Try.ntmps26
  go_wp2_with (go_at_call 28; refine (HG.out _ _).mono ?_; rintro e w' ⟨rfl, rfl⟩)
  all_goals
    go_ret
    exact ⟨ret_int (by unfold weighF; first | grind | ((repeat' split) <;> omega)), rfl⟩

set_option maxHeartbeats 2000000 in
theorem score_w6_0 (x y a b : Int) (q1 : x < 4) (q2 : y < 4) (hx : 0 ≤ x ∧ x ≤ 6) (hy : 0 ≤ y ∧ y ≤ 6) (w : World)
    (g : Int → Int) (ea : g (a) = x) (eb : g (b) = y) (HG : Hid (∀ z W, Calls Try.prog 28 #[.int .i64 z] W fun e w' => e = .returned (.int .i64 (g z)) ∧ W = w')) :
    Calls Try.prog 26 #[.int .i64 (6), .int .i64 (a), .int .i64 (b)] w fun e' w' => e' = .returned (.int .i64 (weighF (6) (a) (b) (x) (y))) ∧ w = w' := by
  go_enter Try.func26, Try.ntmps26
  go_wp2_with (go_at_call 28; refine (HG.out _ _).mono ?_; rintro e w' ⟨rfl, rfl⟩)
  all_goals
    go_ret
    exact ⟨ret_int (by unfold weighF; first | grind | ((repeat' split) <;> omega)), rfl⟩

set_option maxHeartbeats 2000000 in
theorem score_w6_1 (x y a b : Int) (q1 : x < 4) (q2 : 4 ≤ y) (hx : 0 ≤ x ∧ x ≤ 6) (hy : 0 ≤ y ∧ y ≤ 6) (w : World)
    (g : Int → Int) (ea : g (a) = x) (eb : g (b) = y) (HG : Hid (∀ z W, Calls Try.prog 28 #[.int .i64 z] W fun e w' => e = .returned (.int .i64 (g z)) ∧ W = w')) :
    Calls Try.prog 26 #[.int .i64 (6), .int .i64 (a), .int .i64 (b)] w fun e' w' => e' = .returned (.int .i64 (weighF (6) (a) (b) (x) (y))) ∧ w = w' := by
  go_enter Try.func26, Try.ntmps26
  go_wp2_with (go_at_call 28; refine (HG.out _ _).mono ?_; rintro e w' ⟨rfl, rfl⟩)
  all_goals
    go_ret
    exact ⟨ret_int (by unfold weighF; first | grind | ((repeat' split) <;> omega)), rfl⟩

set_option maxHeartbeats 2000000 in
theorem score_w6_2 (y a b : Int) (q2 : y < 4) (hy : 0 ≤ y ∧ y ≤ 6) (w : World)
    (g : Int → Int) (ea : g (a) = 4) (eb : g (b) = y) (HG : Hid (∀ z W, Calls Try.prog 28 #[.int .i64 z] W fun e w' => e = .returned (.int .i64 (g z)) ∧ W = w')) :
    Calls Try.prog 26 #[.int .i64 (6), .int .i64 (a), .int .i64 (b)] w fun e' w' => e' = .returned (.int .i64 (weighF (6) (a) (b) (4) (y))) ∧ w = w' := by
  go_enter Try.func26, Try.ntmps26
  go_wp2_with (go_at_call 28; refine (HG.out _ _).mono ?_; rintro e w' ⟨rfl, rfl⟩)
  all_goals
    go_ret
    exact ⟨ret_int (by unfold weighF; first | grind | ((repeat' split) <;> omega)), rfl⟩

set_option maxHeartbeats 2000000 in
theorem score_w6_3 (y a b : Int) (q2 : 4 ≤ y) (hy : 0 ≤ y ∧ y ≤ 6) (w : World)
    (g : Int → Int) (ea : g (a) = 4) (eb : g (b) = y) (HG : Hid (∀ z W, Calls Try.prog 28 #[.int .i64 z] W fun e w' => e = .returned (.int .i64 (g z)) ∧ W = w')) :
    Calls Try.prog 26 #[.int .i64 (6), .int .i64 (a), .int .i64 (b)] w fun e' w' => e' = .returned (.int .i64 (weighF (6) (a) (b) (4) (y))) ∧ w = w' := by
  go_enter Try.func26, Try.ntmps26
  go_wp2_with (go_at_call 28; refine (HG.out _ _).mono ?_; rintro e w' ⟨rfl, rfl⟩)
  all_goals
    go_ret
    exact ⟨ret_int (by unfold weighF; first | grind | ((repeat' split) <;> omega)), rfl⟩

set_option maxHeartbeats 2000000 in
theorem score_w6_4 (x y a b : Int) (q1 : 4 < x) (hx : 0 ≤ x ∧ x ≤ 6) (hy : 0 ≤ y ∧ y ≤ 6) (w : World)
    (g : Int → Int) (ea : g (a) = x) (eb : g (b) = y) (HG : Hid (∀ z W, Calls Try.prog 28 #[.int .i64 z] W fun e w' => e = .returned (.int .i64 (g z)) ∧ W = w')) :
    Calls Try.prog 26 #[.int .i64 (6), .int .i64 (a), .int .i64 (b)] w fun e' w' => e' = .returned (.int .i64 (weighF (6) (a) (b) (x) (y))) ∧ w = w' := by
  go_enter Try.func26, Try.ntmps26
  go_wp2_with (go_at_call 28; refine (HG.out _ _).mono ?_; rintro e w' ⟨rfl, rfl⟩)
  all_goals
    go_ret
    exact ⟨ret_int (by unfold weighF; first | grind | ((repeat' split) <;> omega)), rfl⟩

set_option maxHeartbeats 2000000 in
theorem score_w0_0 (e x y a b : Int) (q0 : e < 1) (q1 : x < 4) (q2 : y < 4) (hx : 0 ≤ x ∧ x ≤ 6) (hy : 0 ≤ y ∧ y ≤ 6) (w : World)
    (g : Int → Int) (ea : g (a) = x) (eb : g (b) = y) (HG : Hid (∀ z W, Calls Try.prog 28 #[.int .i64 z] W fun e w' => e = .returned (.int .i64 (g z)) ∧ W = w')) :
    Calls Try.prog 26 #[.int .i64 (e), .int .i64 (a), .int .i64 (b)] w fun e' w' => e' = .returned (.int .i64 (weighF (e) (a) (b) (x) (y))) ∧ w = w' := by
  go_enter Try.func26, Try.ntmps26
  go_wp2_with (go_at_call 28; refine (HG.out _ _).mono ?_; rintro e w' ⟨rfl, rfl⟩)
  all_goals
    go_ret
    exact ⟨ret_int (by unfold weighF; first | grind | ((repeat' split) <;> omega)), rfl⟩

set_option maxHeartbeats 2000000 in
theorem score_w0_1 (e x y a b : Int) (q0 : e < 1) (q1 : x < 4) (q2 : 4 ≤ y) (hx : 0 ≤ x ∧ x ≤ 6) (hy : 0 ≤ y ∧ y ≤ 6) (w : World)
    (g : Int → Int) (ea : g (a) = x) (eb : g (b) = y) (HG : Hid (∀ z W, Calls Try.prog 28 #[.int .i64 z] W fun e w' => e = .returned (.int .i64 (g z)) ∧ W = w')) :
    Calls Try.prog 26 #[.int .i64 (e), .int .i64 (a), .int .i64 (b)] w fun e' w' => e' = .returned (.int .i64 (weighF (e) (a) (b) (x) (y))) ∧ w = w' := by
  go_enter Try.func26, Try.ntmps26
  go_wp2_with (go_at_call 28; refine (HG.out _ _).mono ?_; rintro e w' ⟨rfl, rfl⟩)
  all_goals
    go_ret
    exact ⟨ret_int (by unfold weighF; first | grind | ((repeat' split) <;> omega)), rfl⟩

set_option maxHeartbeats 2000000 in
theorem score_w0_2 (e x y a b : Int) (q0 : e < 1) (q1 : 4 ≤ x) (hx : 0 ≤ x ∧ x ≤ 6) (hy : 0 ≤ y ∧ y ≤ 6) (w : World)
    (g : Int → Int) (ea : g (a) = x) (eb : g (b) = y) (HG : Hid (∀ z W, Calls Try.prog 28 #[.int .i64 z] W fun e w' => e = .returned (.int .i64 (g z)) ∧ W = w')) :
    Calls Try.prog 26 #[.int .i64 (e), .int .i64 (a), .int .i64 (b)] w fun e' w' => e' = .returned (.int .i64 (weighF (e) (a) (b) (x) (y))) ∧ w = w' := by
  go_enter Try.func26, Try.ntmps26
  go_wp2_with (go_at_call 28; refine (HG.out _ _).mono ?_; rintro e w' ⟨rfl, rfl⟩)
  all_goals
    go_ret
    exact ⟨ret_int (by unfold weighF; first | grind | ((repeat' split) <;> omega)), rfl⟩

set_option maxHeartbeats 2000000 in
theorem score_w0_3 (e x y a b : Int) (q0 : 6 < e) (q1 : x < 4) (q2 : y < 4) (hx : 0 ≤ x ∧ x ≤ 6) (hy : 0 ≤ y ∧ y ≤ 6) (w : World)
    (g : Int → Int) (ea : g (a) = x) (eb : g (b) = y) (HG : Hid (∀ z W, Calls Try.prog 28 #[.int .i64 z] W fun e w' => e = .returned (.int .i64 (g z)) ∧ W = w')) :
    Calls Try.prog 26 #[.int .i64 (e), .int .i64 (a), .int .i64 (b)] w fun e' w' => e' = .returned (.int .i64 (weighF (e) (a) (b) (x) (y))) ∧ w = w' := by
  go_enter Try.func26, Try.ntmps26
  go_wp2_with (go_at_call 28; refine (HG.out _ _).mono ?_; rintro e w' ⟨rfl, rfl⟩)
  all_goals
    go_ret
    exact ⟨ret_int (by unfold weighF; first | grind | ((repeat' split) <;> omega)), rfl⟩

set_option maxHeartbeats 2000000 in
theorem score_w0_4 (e x y a b : Int) (q0 : 6 < e) (q1 : x < 4) (q2 : 4 ≤ y) (hx : 0 ≤ x ∧ x ≤ 6) (hy : 0 ≤ y ∧ y ≤ 6) (w : World)
    (g : Int → Int) (ea : g (a) = x) (eb : g (b) = y) (HG : Hid (∀ z W, Calls Try.prog 28 #[.int .i64 z] W fun e w' => e = .returned (.int .i64 (g z)) ∧ W = w')) :
    Calls Try.prog 26 #[.int .i64 (e), .int .i64 (a), .int .i64 (b)] w fun e' w' => e' = .returned (.int .i64 (weighF (e) (a) (b) (x) (y))) ∧ w = w' := by
  go_enter Try.func26, Try.ntmps26
  go_wp2_with (go_at_call 28; refine (HG.out _ _).mono ?_; rintro e w' ⟨rfl, rfl⟩)
  all_goals
    go_ret
    exact ⟨ret_int (by unfold weighF; first | grind | ((repeat' split) <;> omega)), rfl⟩

set_option maxHeartbeats 2000000 in
theorem score_w0_5 (e x y a b : Int) (q0 : 6 < e) (q1 : 4 ≤ x) (hx : 0 ≤ x ∧ x ≤ 6) (hy : 0 ≤ y ∧ y ≤ 6) (w : World)
    (g : Int → Int) (ea : g (a) = x) (eb : g (b) = y) (HG : Hid (∀ z W, Calls Try.prog 28 #[.int .i64 z] W fun e w' => e = .returned (.int .i64 (g z)) ∧ W = w')) :
    Calls Try.prog 26 #[.int .i64 (e), .int .i64 (a), .int .i64 (b)] w fun e' w' => e' = .returned (.int .i64 (weighF (e) (a) (b) (x) (y))) ∧ w = w' := by
  go_enter Try.func26, Try.ntmps26
  go_wp2_with (go_at_call 28; refine (HG.out _ _).mono ?_; rintro e w' ⟨rfl, rfl⟩)
  all_goals
    go_ret
    exact ⟨ret_int (by unfold weighF; first | grind | ((repeat' split) <;> omega)), rfl⟩

theorem score_weight (e a b : Int) (w : World) : Calls Try.prog 26 #[.int .i64 e, .int .i64 a, .int .i64 b] w fun e' w' => e' = .returned (.int .i64 (weightF e a b)) ∧ w = w' := by
  have hx := classF_range a
  have hy := classF_range b
  have HG := Lib.hid (fun z W => score_class z W)
  unfold weightF
  generalize classF = g at *
  generalize ea : g a = x at *
  generalize eb : g b = y at *
  have he : e = 1 ∨ e = 2 ∨ e = 3 ∨ e = 4 ∨ e = 5 ∨ e = 6 ∨ e < 1 ∨ 6 < e := by omega
  rcases he with rfl | rfl | rfl | rfl | rfl | rfl | h5 | h5
  · have hc : (x < 4 ∧ y < 4) ∨ (x < 4 ∧ 4 ≤ y) ∨ (4 ≤ x ∧ x ≠ 6) ∨ (x = 6 ∧ y = 5) ∨ (x = 6 ∧ y ≠ 5) := by omega
    rcases hc with ⟨q0, q1⟩ | ⟨q0, q1⟩ | ⟨q0, q1⟩ | ⟨rfl, rfl⟩ | ⟨rfl, q1⟩
    · exact score_w1_0 x y a b q0 q1 hx hy w g ea eb HG
    · exact score_w1_1 x y a b q0 q1 hx hy w g ea eb HG
    · exact score_w1_2 x y a b q0 q1 hx hy w g ea eb HG
    · exact score_w1_3 a b   w g ea eb HG
    · exact score_w1_4 y a b q1 hy w g ea eb HG
  · have hc : (x < 4 ∧ y < 4 ∧ a = 27) ∨ (x < 4 ∧ y < 4 ∧ a ≠ 27 ∧ b = 27) ∨ (x < 4 ∧ y < 4 ∧ a ≠ 27 ∧ b ≠ 27) ∨ (x < 4 ∧ 4 ≤ y ∧ a = 27) ∨ (x < 4 ∧ 4 ≤ y ∧ a ≠ 27 ∧ b = 27) ∨ (x < 4 ∧ 4 ≤ y ∧ a ≠ 27 ∧ b ≠ 27) ∨ (4 ≤ x ∧ a = 27) ∨ (4 ≤ x ∧ a ≠ 27 ∧ b = 27) ∨ (4 ≤ x ∧ a ≠ 27 ∧ b ≠ 27) := by omega
    rcases hc with ⟨q0, q1, rfl⟩ | ⟨q0, q1, q2, rfl⟩ | ⟨q0, q1, q2, q3⟩ | ⟨q0, q1, rfl⟩ | ⟨q0, q1, q2, rfl⟩ | ⟨q0, q1, q2, q3⟩ | ⟨q0, rfl⟩ | ⟨q0, q1, rfl⟩ | ⟨q0, q1, q2⟩
    · exact score_w2_0 x y b q0 q1 hx hy w g ea eb HG
    · exact score_w2_1 x y a q0 q1 q2 hx hy w g ea eb HG
    · exact score_w2_2 x y a b q0 q1 q2 q3 hx hy w g ea eb HG
    · exact score_w2_3 x y b q0 q1 hx hy w g ea eb HG
    · exact score_w2_4 x y a q0 q1 q2 hx hy w g ea eb HG
    · exact score_w2_5 x y a b q0 q1 q2 q3 hx hy w g ea eb HG
    · exact score_w2_6 x y b q0 hx hy w g ea eb HG
    · exact score_w2_7 x y a q0 q1 hx hy w g ea eb HG
    · exact score_w2_8 x y a b q0 q1 q2 hx hy w g ea eb HG
  · have hc : (x < 4 ∧ y < 4) ∨ (x < 4 ∧ 4 ≤ y) ∨ (4 ≤ x ∧ x ≠ 5) ∨ (x = 5 ∧ y = 4) ∨ (x = 5 ∧ y ≠ 4) := by omega
    rcases hc with ⟨q0, q1⟩ | ⟨q0, q1⟩ | ⟨q0, q1⟩ | ⟨rfl, rfl⟩ | ⟨rfl, q1⟩
    · exact score_w3_0 x y a b q0 q1 hx hy w g ea eb HG
    · exact score_w3_1 x y a b q0 q1 hx hy w g ea eb HG
    · exact score_w3_2 x y a b q0 q1 hx hy w g ea eb HG
    · exact score_w3_3 a b   w g ea eb HG
    · exact score_w3_4 y a b q1 hy w g ea eb HG
  · have hc : (x = 0 ∧ y < 4) ∨ (x = 0 ∧ y = 6) ∨ (x = 0 ∧ 4 ≤ y ∧ y ≠ 6) ∨ (1 ≤ x ∧ x < 4 ∧ y < 4) ∨ (1 ≤ x ∧ x < 4 ∧ 4 ≤ y) ∨ (4 ≤ x ∧ x ≠ 6) ∨ (x = 6 ∧ y = 0) ∨ (x = 6 ∧ y ≠ 0) := by omega
    rcases hc with ⟨rfl, q1⟩ | ⟨rfl, rfl⟩ | ⟨rfl, q1, q2⟩ | ⟨q0, q1, q2⟩ | ⟨q0, q1, q2⟩ | ⟨q0, q1⟩ | ⟨rfl, rfl⟩ | ⟨rfl, q1⟩
    · exact score_w4_0 y a b q1 hy w g ea eb HG
    · exact score_w4_1 a b   w g ea eb HG
    · exact score_w4_2 y a b q1 q2 hy w g ea eb HG
    · exact score_w4_3 x y a b q0 q1 q2 hx hy w g ea eb HG
    · exact score_w4_4 x y a b q0 q1 q2 hx hy w g ea eb HG
    · exact score_w4_5 x y a b q0 q1 hx hy w g ea eb HG
    · exact score_w4_6 a b   w g ea eb HG
    · exact score_w4_7 y a b q1 hy w g ea eb HG
  · have hc : (x < 4 ∧ y < 4) ∨ (x < 4 ∧ y = 4) ∨ (x < 4 ∧ 4 < y) ∨ (4 ≤ x ∧ y = 4) ∨ (4 ≤ x ∧ y ≠ 4) := by omega
    rcases hc with ⟨q0, q1⟩ | ⟨q0, rfl⟩ | ⟨q0, q1⟩ | ⟨q0, rfl⟩ | ⟨q0, q1⟩
    · exact score_w5_0 x y a b q0 q1 hx hy w g ea eb HG
    · exact score_w5_1 x a b q0 hx w g ea eb HG
    · exact score_w5_2 x y a b q0 q1 hx hy w g ea eb HG
    · exact score_w5_3 x a b q0 hx w g ea eb HG
    · exact score_w5_4 x y a b q0 q1 hx hy w g ea eb HG
  · have hc : (x < 4 ∧ y < 4) ∨ (x < 4 ∧ 4 ≤ y) ∨ (x = 4 ∧ y < 4) ∨ (x = 4 ∧ 4 ≤ y) ∨ (4 < x) := by omega
    rcases hc with ⟨q0, q1⟩ | ⟨q0, q1⟩ | ⟨rfl, q1⟩ | ⟨rfl, q1⟩ | q0
    · exact score_w6_0 x y a b q0 q1 hx hy w g ea eb HG
    · exact score_w6_1 x y a b q0 q1 hx hy w g ea eb HG
    · exact score_w6_2 y a b q1 hy w g ea eb HG
    · exact score_w6_3 y a b q1 hy w g ea eb HG
    · exact score_w6_4 x y a b q0 hx hy w g ea eb HG
  · have hc : (x < 4 ∧ y < 4) ∨ (x < 4 ∧ 4 ≤ y) ∨ (4 ≤ x) := by omega
    rcases hc with ⟨q0, q1⟩ | ⟨q0, q1⟩ | q0
    · exact score_w0_0 e x y a b h5 q0 q1 hx hy w g ea eb HG
    · exact score_w0_1 e x y a b h5 q0 q1 hx hy w g ea eb HG
    · exact score_w0_2 e x y a b h5 q0 hx hy w g ea eb HG
  · have hc : (x < 4 ∧ y < 4) ∨ (x < 4 ∧ 4 ≤ y) ∨ (4 ≤ x) := by omega
    rcases hc with ⟨q0, q1⟩ | ⟨q0, q1⟩ | q0
    · exact score_w0_3 e x y a b h5 q0 q1 hx hy w g ea eb HG
    · exact score_w0_4 e x y a b h5 q0 q1 hx hy w g ea eb HG
    · exact score_w0_5 e x y a b h5 q0 hx hy w g ea eb HG

set_option maxHeartbeats 2000000 in
theorem ref_w1_0 (x y a b : Int) (q1 : x < 4) (q2 : y < 4) (hx : 0 ≤ x ∧ x ≤ 6) (hy : 0 ≤ y ∧ y ≤ 6) (w : World)
    (g : Int → Int) (ea : g (a) = x) (eb : g (b) = y) (HG : Hid (∀ z W, Calls Try.prog 29 #[.int .i64 z] W fun e w' => e = .returned (.int .i64 (g z)) ∧ W = w')) :
    Calls Try.prog 30 #[.int .i64 (1), .int .i64 (a), .int .i64 (b)] w fun e' w' => e' = .returned (.int .i64 (weighF (1) (a) (b) (x) (y))) ∧ w = w' := by
  go_enter Try.func30, Try.ntmps30
  go_wp2_with (go_at_call 29; refine (HG.out _ _).mono ?_; rintro e w' ⟨rfl, rfl⟩)
  all_goals
    go_ret
    exact ⟨ret_int (by unfold weighF; first | grind | ((repeat' split) <;> omega)), rfl⟩

set_option maxHeartbeats 2000000 in
theorem ref_w1_1 (x y a b : Int) (q1 : x < 4) (q2 : 4 ≤ y) (hx : 0 ≤ x ∧ x ≤ 6) (hy : 0 ≤ y ∧ y ≤ 6) (w : World)
    (g : Int → Int) (ea : g (a) = x) (eb : g (b) = y) (HG : Hid (∀ z W, Calls Try.prog 29 #[.int .i64 z] W fun e w' => e = .returned (.int .i64 (g z)) ∧ W = w')) :
    Calls Try.prog 30 #[.int .i64 (1), .int .i64 (a), .int .i64 (b)] w fun e' w' => e' = .returned (.int .i64 (weighF (1) (a) (b) (x) (y))) ∧ w = w' := by
  go_enter Try.func30, Try.ntmps30
  go_wp2_with (go_at_call 29; refine (HG.out _ _).mono ?_; rintro e w' ⟨rfl, rfl⟩)
  all_goals
    go_ret
    exact ⟨ret_int (by unfold weighF; first | grind | ((repeat' split) <;> omega)), rfl⟩

set_option maxHeartbeats 2000000 in
theorem ref_w1_2 (x y a b : Int) (q1 : 4 ≤ x) (q2 : x ≠ 6) (hx : 0 ≤ x ∧ x ≤ 6) (hy : 0 ≤ y ∧ y ≤ 6) (w : World)
    (g : Int → Int) (ea : g (a) = x) (eb : g (b) = y) (HG : Hid (∀ z W, Calls Try.prog 29 #[.int .i64 z] W fun e w' => e = .returned (.int .i64 (g z)) ∧ W = w')) :
    Calls Try.prog 30 #[.int .i64 (1), .int .i64 (a), .int .i64 (b)] w fun e' w' => e' = .returned (.int .i64 (weighF (1) (a) (b) (x) (y))) ∧ w = w' := by
  go_enter Try.func30, Try.ntmps30
  go_wp2_with (go_at_call 29; refine (HG.out _ _).mono ?_; rintro e w' ⟨rfl, rfl⟩)
  all_goals
    go_ret
    exact ⟨ret_int (by unfold weighF; first | grind | ((repeat' split) <;> omega)), rfl⟩

set_option maxHeartbeats 2000000 in
theorem ref_w1_3 (a b : Int)   (w : World)
    (g : Int → Int) (ea : g (a) = 6) (eb : g (b) = 5) (HG : Hid (∀ z W, Calls Try.prog 29 #[.int .i64 z] W fun e w' => e = .returned (.int .i64 (g z)) ∧ W = w')) :
    Calls Try.prog 30 #[.int .i64 (1), .int .i64 (a), .int .i64 (b)] w fun e' w' => e' = .returned (.int .i64 (weighF (1) (a) (b) (6) (5))) ∧ w = w' := by
  go_enter Try.func30, Try.ntmps30
  go_wp2_with (go_at_call 29; refine (HG.out _ _).mono ?_; rintro e w' ⟨rfl, rfl⟩)
  all_goals
    go_ret
    exact ⟨ret_int (by unfold weighF; first | grind | ((repeat' split) <;> omega)), rfl⟩

set_option maxHeartbeats 2000000 in
theorem ref_w1_4 (y a b : Int) (q2 : y ≠ 5) (hy : 0 ≤ y ∧ y ≤ 6) (w : World)
    (g : Int → Int) (ea : g (a) = 6) (eb : g (b) = y) (HG : Hid (∀ z W, Calls Try.prog 29 #[.int .i64 z] W fun e w' => e = .returned (.int .i64 (g z)) ∧ W = w')) :
    Calls Try.prog 30 #[.int .i64 (1), .int .i64 (a), .int .i64 (b)] w fun e' w' => e' = .returned (.int .i64 (weighF (1) (a) (b) (6) (y))) ∧ w = w' := by
  go_enter Try.func30, Try.ntmps30
  go_wp2_with (go_at_call 29; refine (HG.out _ _).mono ?_; rintro e w' ⟨rfl, rfl⟩)
  all_goals
    go_ret
    exact ⟨ret_int (by unfold weighF; first | grind | ((repeat' split) <;> omega)), rfl⟩

set_option maxHeartbeats 2000000 in
theorem ref_w2_0 (x y b : Int) (q1 : x < 4) (q2 : y < 4) (hx : 0 ≤ x ∧ x ≤ 6) (hy : 0 ≤ y ∧ y ≤ 6) (w : World)
    (g : Int → Int) (ea : g (27) = x) (eb : g (b) = y) (HG : Hid (∀ z W, Calls Try.prog 29 #[.int .i64 z] W fun e w' => e = .returned (.int .i64 (g z)) ∧ W = w')) :
    Calls Try.prog 30 #[.int .i64 (2), .int .i64 (27), .int .i64 (b)] w fun e' w' => e' = .returned (.int .i64 (weighF (2) (27) (b) (x) (y))) ∧ w = w' := by
  go_enter Try.func30, Try.ntmps30
  go_wp2_with (go_at_call 29; refine (HG.out _ _).mono ?_; rintro e w' ⟨rfl, rfl⟩)
  all_goals
    go_ret
    exact ⟨ret_int (by unfold weighF; first | grind | ((repeat' split) <;> omega)), rfl⟩

set_option maxHeartbeats 2000000 in
theorem ref_w2_1 (x y a : Int) (q1 : x < 4) (q2 : y < 4) (q3 : a ≠ 27) (hx : 0 ≤ x ∧ x ≤ 6) (hy : 0 ≤ y ∧ y ≤ 6) (w : World)
    (g : Int → Int) (ea : g (a) = x) (eb : g (27) = y) (HG : Hid (∀ z W, Calls Try.prog 29 #[.int .i64 z] W fun e w' => e = .returned (.int .i64 (g z)) ∧ W = w')) :
    Calls Try.prog 30 #[.int .i64 (2), .int .i64 (a), .int .i64 (27)] w fun e' w' => e' = .returned (.int .i64 (weighF (2) (a) (27) (x) (y))) ∧ w = w' := by
  go_enter Try.func30, Try.ntmps30
  go_wp2_with (go_at_call 29; refine (HG.out _ _).mono ?_; rintro e w' ⟨rfl, rfl⟩)
  all_goals
    go_ret
    exact ⟨ret_int (by unfold weighF; first | grind | ((repeat' split) <;> omega)), rfl⟩

set_option maxHeartbeats 2000000 in
theorem ref_w2_2 (x y a b : Int) (q1 : x < 4) (q2 : y < 4) (q3 : a ≠ 27) (q4 : b ≠ 27) (hx : 0 ≤ x ∧ x ≤ 6) (hy : 0 ≤ y ∧ y ≤ 6) (w : World)
    (g : Int → Int) (ea : g (a) = x) (eb : g (b) = y) (HG : Hid (∀ z W, Calls Try.prog 29 #[.int .i64 z] W fun e w' => e = .returned (.int .i64 (g z)) ∧ W = w')) :
    Calls Try.prog 30 #[.int .i64 (2), .int .i64 (a), .int .i64 (b)] w fun e' w' => e' = .returned (.int .i64 (weighF (2) (a) (b) (x) (y))) ∧ w = w' := by
  go_enter Try.func30, Try.ntmps30
  go_wp2_with (go_at_call 29; refine (HG.out _ _).mono ?_; rintro e w' ⟨rfl, rfl⟩)
  all_goals
    go_ret
    exact ⟨ret_int (by unfold weighF; first | grind | ((repeat' split) <;> omega)), rfl⟩

set_option maxHeartbeats 2000000 in
theorem ref_w2_3 (x y b : Int) (q1 : x < 4) (q2 : 4 ≤ y) (hx : 0 ≤ x ∧ x ≤ 6) (hy : 0 ≤ y ∧ y ≤ 6) (w : World)
    (g : Int → Int) (ea : g (27) = x) (eb : g (b) = y) (HG : Hid (∀ z W, Calls Try.prog 29 #[.int .i64 z] W fun e w' => e = .returned (.int .i64 (g z)) ∧ W = w')) :
    Calls Try.prog 30 #[.int .i64 (2), .int .i64 (27), .int .i64 (b)] w fun e' w' => e' = .returned (.int .i64 (weighF (2) (27) (b) (x) (y))) ∧ w = w' := by
  go_enter Try.func30, Try.ntmps30
  go_wp2_with (go_at_call 29; refine (HG.out _ _).mono ?_; rintro e w' ⟨rfl, rfl⟩)
  all_goals
    go_ret
    exact ⟨ret_int (by unfold weighF; first | grind | ((repeat' split) <;> omega)), rfl⟩

set_option maxHeartbeats 2000000 in
theorem ref_w2_4 (x y a : Int) (q1 : x < 4) (q2 : 4 ≤ y) (q3 : a ≠ 27) (hx : 0 ≤ x ∧ x ≤ 6) (hy : 0 ≤ y ∧ y ≤ 6) (w : World)
    (g : Int → Int) (ea : g (a) = x) (eb : g (27) = y) (HG : Hid (∀ z W, Calls Try.prog 29 #[.int .i64 z] W fun e w' => e = .returned (.int .i64 (g z)) ∧ W = w')) :
    Calls Try.prog 30 #[.int .i64 (2), .int .i64 (a), .int .i64 (27)] w fun e' w' => e' = .returned (.int .i64 (weighF (2) (a) (27) (x) (y))) ∧ w = w' := by
  go_enter Try.func30, Try.ntmps30
  go_wp2_with (go_at_call 29; refine (HG.out _ _).mono ?_; rintro e w' ⟨rfl, rfl⟩)
  all_goals
    go_ret
    exact ⟨ret_int (by unfold weighF; first | grind | ((repeat' split) <;> omega)), rfl⟩

set_option maxHeartbeats 2000000 in
theorem ref_w2_5 (x y a b : Int) (q1 : x < 4) (q2 : 4 ≤ y) (q3 : a ≠ 27) (q4 : b ≠ 27) (hx : 0 ≤ x ∧ x ≤ 6) (hy : 0 ≤ y ∧ y ≤ 6) (w : World)
    (g : Int → Int) (ea : g (a) = x) (eb : g (b) = y) (HG : Hid (∀ z W, Calls Try.prog 29 #[.int .i64 z] W fun e w' => e = .returned (.int .i64 (g z)) ∧ W = w')) :
    Calls Try.prog 30 #[.int .i64 (2), .int .i64 (a), .int .i64 (b)] w fun e' w' => e' = .returned (.int .i64 (weighF (2) (a) (b) (x) (y))) ∧ w = w' := by
  go_enter Try.func30, Try.ntmps30
  go_wp2_with (go_at_call 29; refine (HG.out _ _).mono ?_; rintro e w' ⟨rfl, rfl⟩)
  all_goals
    go_ret
    exact ⟨ret_int (by unfold weighF; first | grind | ((repeat' split) <;> omega)), rfl⟩

set_option maxHeartbeats 2000000 in
theorem ref_w2_6 (x y b : Int) (q1 : 4 ≤ x) (hx : 0 ≤ x ∧ x ≤ 6) (hy : 0 ≤ y ∧ y ≤ 6) (w : World)
    (g : Int → Int) (ea : g (27) = x) (eb : g (b) = y) (HG : Hid (∀ z W, Calls Try.prog 29 #[.int .i64 z] W fun e w' => e = .returned (.int .i64 (g z)) ∧ W = w')) :
    Calls Try.prog 30 #[.int .i64 (2), .int .i64 (27), .int .i64 (b)] w fun e' w' => e' = .returned (.int .i64 (weighF (2) (27) (b) (x) (y))) ∧ w = w' := by
  go_enter Try.func30, Try.ntmps30
  go_wp2_with (go_at_call 29; refine (HG.out _ _).mono ?_; rintro e w' ⟨rfl, rfl⟩)
  all_goals
    go_ret
    exact ⟨ret_int (by unfold weighF; first | grind | ((repeat' split) <;> omega)), rfl⟩

set_option maxHeartbeats 2000000 in
theorem ref_w2_7 (x y a : Int) (q1 : 4 ≤ x) (q2 : a ≠ 27) (hx : 0 ≤ x ∧ x ≤ 6) (hy : 0 ≤ y ∧ y ≤ 6) (w : World)
    (g : Int → Int) (ea : g (a) = x) (eb : g (27) = y) (HG : Hid (∀ z W, Calls Try.prog 29 #[.int .i64 z] W fun e w' => e = .returned (.int .i64 (g z)) ∧ W = w')) :
    Calls Try.prog 30 #[.int .i64 (2), .int .i64 (a), .int .i64 (27)] w fun e' w' => e' = .returned (.int .i64 (weighF (2) (a) (27) (x) (y))) ∧ w = w' := by
  go_enter Try.func30, Try.ntmps30
  go_wp2_with (go_at_call 29; refine (HG.out _ _).mono ?_; rintro e w' ⟨rfl, rfl⟩)
  all_goals
    go_ret
    exact ⟨ret_int (by unfold weighF; first | grind | ((repeat' split) <;> omega)), rfl⟩

set_option maxHeartbeats 2000000 in
theorem ref_w2_8 (x y a b : Int) (q1 : 4 ≤ x) (q2 : a ≠ 27) (q3 : b ≠ 27) (hx : 0 ≤ x ∧ x ≤ 6) (hy : 0 ≤ y ∧ y ≤ 6) (w : World)
    (g : Int → Int) (ea : g (a) = x) (eb : g (b) = y) (HG : Hid (∀ z W, Calls Try.prog 29 #[.int .i64 z] W fun e w' => e = .returned (.int .i64 (g z)) ∧ W = w')) :
    Calls Try.prog 30 #[.int .i64 (2), .int .i64 (a), .int .i64 (b)] w fun e' w' => e' = .returned (.int .i64 (weighF (2) (a) (b) (x) (y))) ∧ w = w' := by
  go_enter Try.func30, Try.ntmps30
  go_wp2_with (go_at_call 29; refine (HG.out _ _).mono ?_; rintro e w' ⟨rfl, rfl⟩)
  all_goals
    go_ret
    exact ⟨ret_int (by unfold weighF; first | grind | ((repeat' split) <;> omega)), rfl⟩

set_option maxHeartbeats 2000000 in
theorem ref_w3_0 (x y a b : Int) (q1 : x < 4) (q2 : y < 4) (hx : 0 ≤ x ∧ x ≤ 6) (hy : 0 ≤ y ∧ y ≤ 6) (w : World)
    (g : Int → Int) (ea : g (a) = x) (eb : g (b) = y) (HG : Hid (∀ z W, Calls Try.prog 29 #[.int .i64 z] W fun e w' => e = .returned (.int .i64 (g z)) ∧ W = w')) :
    Calls Try.prog 30 #[.int .i64 (3), .int .i64 (a), .int .i64 (b)] w fun e' w' => e' = .returned (.int .i64 (weighF (3) (a) (b) (x) (y))) ∧ w = w' := by
  go_enter Try.func30, Try.ntmps30
  go_wp2_with (go_at_call 29; refine (HG.out _ _).mono ?_; rintro e w' ⟨rfl, rfl⟩)
  all_goals
    go_ret
    exact ⟨ret_int (by unfold weighF; first | grind | ((repeat' split) <;> omega)), rfl⟩

set_option maxHeartbeats 2000000 in
theorem ref_w3_1 (x y a b : Int) (q1 : x < 4) (q2 : 4 ≤ y) (hx : 0 ≤ x ∧ x ≤ 6) (hy : 0 ≤ y ∧ y ≤ 6) (w : World)
    (g : Int → Int) (ea : g (a) = x) (eb : g (b) = y) (HG : Hid (∀ z W, Calls Try.prog 29 #[.int .i64 z] W fun e w' => e = .returned (.int .i64 (g z)) ∧ W = w')) :
    Calls Try.prog 30 #[.int .i64 (3), .int .i64 (a), .int .i64 (b)] w fun e' w' => e' = .returned (.int .i64 (weighF (3) (a) (b) (x) (y))) ∧ w = w' := by
  go_enter Try.func30, Try.ntmps30
  go_wp2_with (go_at_call 29; refine (HG.out _ _).mono ?_; rintro e w' ⟨rfl, rfl⟩)
  all_goals
    go_ret
    exact ⟨ret_int (by unfold weighF; first | grind | ((repeat' split) <;> omega)), rfl⟩

set_option maxHeartbeats 2000000 in
theorem ref_w3_2 (x y a b : Int) (q1 : 4 ≤ x) (q2 : x ≠ 5) (hx : 0 ≤ x ∧ x ≤ 6) (hy : 0 ≤ y ∧ y ≤ 6) (w : World)
    (g : Int → Int) (ea : g (a) = x) (eb : g (b) = y) (HG : Hid (∀ z W, Calls Try.prog 29 #[.int .i64 z] W fun e w' => e = .returned (.int .i64 (g z)) ∧ W = w')) :
    Calls Try.prog 30 #[.int .i64 (3), .int .i64 (a), .int .i64 (b)] w fun e' w' => e' = .returned (.int .i64 (weighF (3) (a) (b) (x) (y))) ∧ w = w' := by
  go_enter Try.func30, Try.ntmps30
  go_wp2_with (go_at_call 29; refine (HG.out _ _).mono ?_; rintro e w' ⟨rfl, rfl⟩)
  all_goals
    go_ret
    exact ⟨ret_int (by unfold weighF; first | grind | ((repeat' split) <;> omega)), rfl⟩

set_option maxHeartbeats 2000000 in
theorem ref_w3_3 (a b : Int)   (w : World)
    (g : Int → Int) (ea : g (a) = 5) (eb : g (b) = 4) (HG : Hid (∀ z W, Calls Try.prog 29 #[.int .i64 z] W fun e w' => e = .returned (.int .i64 (g z)) ∧ W = w')) :
    Calls Try.prog 30 #[.int .i64 (3), .int .i64 (a), .int .i64 (b)] w fun e' w' => e' = .returned (.int .i64 (weighF (3) (a) (b) (5) (4))) ∧ w = w' := by
  go_enter Try.func30, Try.ntmps30
  go_wp2_with (go_at_call 29; refine (HG.out _ _).mono ?_; rintro e w' ⟨rfl, rfl⟩)
  all_goals
    go_ret
    exact ⟨ret_int (by unfold weighF; first | grind | ((repeat' split) <;> omega)), rfl⟩

set_option maxHeartbeats 2000000 in
theorem ref_w3_4 (y a b : Int) (q2 : y ≠ 4) (hy : 0 ≤ y ∧ y ≤ 6) (w : World)
    (g : Int → Int) (ea : g (a) = 5) (eb : g (b) = y) (HG : Hid (∀ z W, Calls Try.prog 29 #[.int .i64 z] W fun e w' => e = .returned (.int .i64 (g z)) ∧ W = w')) :
    Calls Try.prog 30 #[.int .i64 (3), .int .i64 (a), .int .i64 (b)] w fun e' w' => e' = .returned (.int .i64 (weighF (3) (a) (b) (5) (y))) ∧ w = w' := by
  go_enter Try.func30, Try.ntmps30
  go_wp2_with (go_at_call 29; refine (HG.out _ _).mono ?_; rintro e w' ⟨rfl, rfl⟩)
  all_goals
    go_ret
    exact ⟨ret_int (by unfold weighF; first | grind | ((repeat' split) <;> omega)), rfl⟩

set_option maxHeartbeats 2000000 in
theorem ref_w4_0 (y a b : Int) (q2 : y < 4) (hy : 0 ≤ y ∧ y ≤ 6) (w : World)
    (g : Int → Int) (ea : g (a) = 0) (eb : g (b) = y) (HG : Hid (∀ z W, Calls Try.prog 29 #[.int .i64 z] W fun e w' => e = .returned (.int .i64 (g z)) ∧ W = w')) :
    Calls Try.prog 30 #[.int .i64 (4), .int .i64 (a), .int .i64 (b)] w fun e' w' => e' = .returned (.int .i64 (weighF (4) (a) (b) (0) (y))) ∧ w = w' := by
  go_enter Try.func30, Try.ntmps30
  go_wp2_with (go_at_call 29; refine (HG.out _ _).mono ?_; rintro e w' ⟨rfl, rfl⟩)
  all_goals
    go_ret
    exact ⟨ret_int (by unfold weighF; first | grind | ((repeat' split) <;> omega)), rfl⟩

set_option maxHeartbeats 2000000 in
theorem ref_w4_1 (a b : Int)   (w : World)
    (g : Int → Int) (ea : g (a) = 0) (eb : g (b) = 6) (HG : Hid (∀ z W, Calls Try.prog 29 #[.int .i64 z] W fun e w' => e = .returned (.int .i64 (g z)) ∧ W = w')) :
    Calls Try.prog 30 #[.int .i64 (4), .int .i64 (a), .int .i64 (b)] w fun e' w' => e' = .returned (.int .i64 (weighF (4) (a) (b) (0) (6))) ∧ w = w' := by
  go_enter Try.func30, Try.ntmps30
  go_wp2_with (go_at_call 29; refine (HG.out _ _).mono ?_; rintro e w' ⟨rfl, rfl⟩)
  all_goals
    go_ret
    exact ⟨ret_int (by unfold weighF; first | grind | ((repeat' split) <;> omega)), rfl⟩

set_option maxHeartbeats 2000000 in
theorem ref_w4_2 (y a b : Int) (q2 : 4 ≤ y) (q3 : y ≠ 6) (hy : 0 ≤ y ∧ y ≤ 6) (w : World)
    (g : Int → Int) (ea : g (a) = 0) (eb : g (b) = y) (HG : Hid (∀ z W, Calls Try.prog 29 #[.int .i64 z] W fun e w' => e = .returned (.int .i64 (g z)) ∧ W = w')) :
    Calls Try.prog 30 #[.int .i64 (4), .int .i64 (a), .int .i64 (b)] w fun e' w' => e' = .returned (.int .i64 (weighF (4) (a) (b) (0) (y))) ∧ w = w' := by
  go_enter Try.func30, Try.ntmps30
  go_wp2_with (go_at_call 29; refine (HG.out _ _).mono ?_; rintro e w' ⟨rfl, rfl⟩)
  all_goals
    go_ret
    exact ⟨ret_int (by unfold weighF; first | grind | ((repeat' split) <;> omega)), rfl⟩

set_option maxHeartbeats 2000000 in
theorem ref_w4_3 (x y a b : Int) (q1 : 1 ≤ x) (q2 : x < 4) (q3 : y < 4) (hx : 0 ≤ x ∧ x ≤ 6) (hy : 0 ≤ y ∧ y ≤ 6) (w : World)
    (g : Int → Int) (ea : g (a) = x) (eb : g (b) = y) (HG : Hid (∀ z W, Calls Try.prog 29 #[.int .i64 z] W fun e w' => e = .returned (.int .i64 (g z)) ∧ W = w')) :
    Calls Try.prog 30 #[.int .i64 (4), .int .i64 (a), .int .i64 (b)] w fun e' w' => e' = .returned (.int .i64 (weighF (4) (a) (b) (x) (y))) ∧ w = w' := by
  go_enter Try.func30, Try.ntmps30
  go_wp2_with (go_at_call 29; refine (HG.out _ _).mono ?_; rintro e w' ⟨rfl, rfl⟩)
  all_goals
    go_ret
    exact ⟨ret_int (by unfold weighF; first | grind | ((repeat' split) <;> omega)), rfl⟩

set_option maxHeartbeats 2000000 in
theorem ref_w4_4 (x y a b : Int) (q1 : 1 ≤ x) (q2 : x < 4) (q3 : 4 ≤ y) (hx : 0 ≤ x ∧ x ≤ 6) (hy : 0 ≤ y ∧ y ≤ 6) (w : World)
    (g : Int → Int) (ea : g (a) = x) (eb : g (b) = y) (HG : Hid (∀ z W, Calls Try.prog 29 #[.int .i64 z] W fun e w' => e = .returned (.int .i64 (g z)) ∧ W = w')) :
    Calls Try.prog 30 #[.int .i64 (4), .int .i64 (a), .int .i64 (b)] w fun e' w' => e' = .returned (.int .i64 (weighF (4) (a) (b) (x) (y))) ∧ w = w' := by
  go_enter Try.func30, Try.ntmps30
  go_wp2_with (go_at_call 29; refine (HG.out _ _).mono ?_; rintro e w' ⟨rfl, rfl⟩)
  all_goals
    go_ret
    exact ⟨ret_int (by unfold weighF; first | grind | ((repeat' split) <;> omega)), rfl⟩

set_option maxHeartbeats 2000000 in
theorem ref_w4_5 (x y a b : Int) (q1 : 4 ≤ x) (q2 : x ≠ 6) (hx : 0 ≤ x ∧ x ≤ 6) (hy : 0 ≤ y ∧ y ≤ 6) (w : World)
    (g : Int → Int) (ea : g (a) = x) (eb : g (b) = y) (HG : Hid (∀ z W, Calls Try.prog 29 #[.int .i64 z] W fun e w' => e = .returned (.int .i64 (g z)) ∧ W = w')) :
    Calls Try.prog 30 #[.int .i64 (4), .int .i64 (a), .int .i64 (b)] w fun e' w' => e' = .returned (.int .i64 (weighF (4) (a) (b) (x) (y))) ∧ w = w' := by
  go_enter Try.func30, Try.ntmps30
  go_wp2_with (go_at_call 29; refine (HG.out _ _).mono ?_; rintro e w' ⟨rfl, rfl⟩)
  all_goals
    go_ret
    exact ⟨ret_int (by unfold weighF; first | grind | ((repeat' split) <;> omega)), rfl⟩

set_option maxHeartbeats 2000000 in
theorem ref_w4_6 (a b : Int)   (w : World)
    (g : Int → Int) (ea : g (a) = 6) (eb : g (b) = 0) (HG : Hid (∀ z W, Calls Try.prog 29 #[.int .i64 z] W fun e w' => e = .returned (.int .i64 (g z)) ∧ W = w')) :
    Calls Try.prog 30 #[.int .i64 (4), .int .i64 (a), .int .i64 (b)] w fun e' w' => e' = .returned (.int .i64 (weighF (4) (a) (b) (6) (0))) ∧ w = w' := by
  go_enter Try.func30, Try.ntmps30
  go_wp2_with (go_at_call 29; refine (HG.out _ _).mono ?_; rintro e w' ⟨rfl, rfl⟩)
  all_goals
    go_ret
    exact ⟨ret_int (by unfold weighF; first | grind | ((repeat' split) <;> omega)), rfl⟩

set_option maxHeartbeats 2000000 in
theorem ref_w4_7 (y a b : Int) (q2 : y ≠ 0) (hy : 0 ≤ y ∧ y ≤ 6) (w : World)
    (g : Int → Int) (ea : g (a) = 6) (eb : g (b) = y) (HG : Hid (∀ z W, Calls Try.prog 29 #[.int .i64 z] W fun e w' => e = .returned (.int .i64 (g z)) ∧ W = w')) :
    Calls Try.prog 30 #[.int .i64 (4), .int .i64 (a), .int .i64 (b)] w fun e' w' => e' = .returned (.int .i64 (weighF (4) (a) (b) (6) (y))) ∧ w = w' := by
  go_enter Try.func30, Try.ntmps30
  go_wp2_with (go_at_call 29; refine (HG.out _ _).mono ?_; rintro e w' ⟨rfl, rfl⟩)
  all_goals
    go_ret
    exact ⟨ret_int (by unfold weighF; first | grind | ((repeat' split) <;> omega)), rfl⟩

set_option maxHeartbeats 2000000 in
theorem ref_w5_0 (x y a b : Int) (q1 : x < 4) (q2 : y < 4) (hx : 0 ≤ x ∧ x ≤ 6) (hy : 0 ≤ y ∧ y ≤ 6) (w : World)
    (g : Int → Int) (ea : g (a) = x) (eb : g (b) = y) (HG : Hid (∀ z W, Calls Try.prog 29 #[.int .i64 z] W fun e w' => e = .returned (.int .i64 (g z)) ∧ W = w')) :
    Calls Try.prog 30 #[.int .i64 (5), .int .i64 (a), .int .i64 (b)] w fun e' w' => e' = .returned (.int .i64 (weighF (5) (a) (b) (x) (y))) ∧ w = w' := by
  go_enter Try.func30, Try.ntmps30
  go_wp2_with (go_at_call 29; refine (HG.out _ _).mono ?_; rintro e w' ⟨rfl, rfl⟩)
  all_goals
    go_ret
    exact ⟨ret_int (by unfold weighF; first | grind | ((repeat' split) <;> omega)), rfl⟩

set_option maxHeartbeats 2000000 in
theorem ref_w5_1 (x a b : Int) (q1 : x < 4) (hx : 0 ≤ x ∧ x ≤ 6) (w : World)
    (g : Int → Int) (ea : g (a) = x) (eb : g (b) = 4) (HG : Hid (∀ z W, Calls Try.prog 29 #[.int .i64 z] W fun e w' => e = .returned (.int .i64 (g z)) ∧ W = w')) :
    Calls Try.prog 30 #[.int .i64 (5), .int .i64 (a), .int .i64 (b)] w fun e' w' => e' = .returned (.int .i64 (weighF (5) (a) (b) (x) (4))) ∧ w = w' := by
  go_enter Try.func30, Try.ntmps30
  go_wp2_with (go_at_call 29; refine (HG.out _ _).mono ?_; rintro e w' ⟨rfl, rfl⟩)
  all_goals
    go_ret
    exact ⟨ret_int (by unfold weighF; first | grind | ((repeat' split) <;> omega)), rfl⟩

set_option maxHeartbeats 2000000 in
theorem ref_w5_2 (x y a b : Int) (q1 : x < 4) (q2 : 4 < y) (hx : 0 ≤ x ∧ x ≤ 6) (hy : 0 ≤ y ∧ y ≤ 6) (w : World)
    (g : Int → Int) (ea : g (a) = x) (eb : g (b) = y) (HG : Hid (∀ z W, Calls Try.prog 29 #[.int .i64 z] W fun e w' => e = .returned (.int .i64 (g z)) ∧ W = w')) :
    Calls Try.prog 30 #[.int .i64 (5), .int .i64 (a), .int .i64 (b)] w fun e' w' => e' = .returned (.int .i64 (weighF (5) (a) (b) (x) (y))) ∧ w = w' := by
  go_enter Try.func30, Try.ntmps30
  go_wp2_with (go_at_call 29; refine (HG.out _ _).mono ?_; rintro e w' ⟨rfl, rfl⟩)
  all_goals
    go_ret
    exact ⟨ret_int (by unfold weighF; first | grind | ((repeat' split) <;> omega)), rfl⟩

set_option maxHeartbeats 2000000 in
theorem ref_w5_3 (x a b : Int) (q1 : 4 ≤ x) (hx : 0 ≤ x ∧ x ≤ 6) (w : World)
    (g : Int → Int) (ea : g (a) = x) (eb : g (b) = 4) (HG : Hid (∀ z W, Calls Try.prog 29 #[.int .i64 z] W fun e w' => e = .returned (.int .i64 (g z)) ∧ W = w')) :
    Calls Try.prog 30 #[.int .i64 (5), .int .i64 (a), .int .i64 (b)] w fun e' w' => e' = .returned (.int .i64 (weighF (5) (a) (b) (x) (4))) ∧ w = w' := by
  go_enter Try.func30, Try.ntmps30
  go_wp2_with (go_at_call 29; refine (HG.out _ _).mono ?_; rintro e w' ⟨rfl, rfl⟩)
  all_goals
    go_ret
    exact ⟨ret_int (by unfold weighF; first | grind | ((repeat' split) <;> omega)), rfl⟩

set_option maxHeartbeats 2000000 in
theorem ref_w5_4 (x y a b : Int) (q1 : 4 ≤ x) (q2 : y ≠ 4) (hx : 0 ≤ x ∧ x ≤ 6) (hy : 0 ≤ y ∧ y ≤ 6) (w : World)
    (g : Int → Int) (ea : g (a) = x) (eb : g (b) = y) (HG : Hid (∀ z W, Calls Try.prog 29 #[.int .i64 z] W fun e w' => e = .returned (.int .i64 (g z)) ∧ W = w')) :
    Calls Try.prog 30 #[.int .i64 (5), .int .i64 (a), .int .i64 (b)] w fun e' w' => e' = .returned (.int .i64 (weighF (5) (a) (b) (x) (y))) ∧ w = w' := by
  go_enter Try.func30, Try.ntmps30
  go_wp2_with (go_at_call 29; refine (HG.out _ _).mono ?_; rintro e w' ⟨rfl, rfl⟩)
  all_goals
    go_ret
    exact ⟨ret_int (by unfold weighF; first | grind | ((repeat' split) <;> omega)), rfl⟩

set_option maxHeartbeats 2000000 in
theorem ref_w6_0 (x y a b : Int) (q1 : x < 4) (q2 : y < 4) (hx : 0 ≤ x ∧ x ≤ 6) (hy : 0 ≤ y ∧ y ≤ 6) (w : World)
    (g : Int → Int) (ea : g (a) = x) (eb : g (b) = y) (HG : Hid (∀ z W, Calls Try.prog 29 #[.int .i64 z] W fun e w' => e = .returned (.int .i64 (g z)) ∧ W = w')) :
    Calls Try.prog 30 #[.int .i64 (6), .int .i64 (a), .int .i64 (b)] w fun e' w' => e' = .returned (.int .i64 (weighF (6) (a) (b) (x) (y))) ∧ w = w' := by
  go_enter Try.func30, Try.ntmps30
  go_wp2_with (go_at_call 29; refine (HG.out _ _).mono ?_; rintro e w' ⟨rfl, rfl⟩)
  all_goals
    go_ret
    exact ⟨ret_int (by unfold weighF; first | grind | ((repeat' split) <;> omega)), rfl⟩

set_option maxHeartbeats 2000000 in
theorem ref_w6_1 (x y a b : Int) (q1 : x < 4) (q2 : 4 ≤ y) (hx : 0 ≤ x ∧ x ≤ 6) (hy : 0 ≤ y ∧ y ≤ 6) (w : World)
    (g : Int → Int) (ea : g (a) = x) (eb : g (b) = y) (HG : Hid (∀ z W, Calls Try.prog 29 #[.int .i64 z] W fun e w' => e = .returned (.int .i64 (g z)) ∧ W = w')) :
    Calls Try.prog 30 #[.int .i64 (6), .int .i64 (a), .int .i64 (b)] w fun e' w' => e' = .returned (.int .i64 (weighF (6) (a) (b) (x) (y))) ∧ w = w' := by
  go_enter Try.func30, Try.ntmps30
  go_wp2_with (go_at_call 29; refine (HG.out _ _).mono ?_; rintro e w' ⟨rfl, rfl⟩)
  all_goals
    go_ret
    exact ⟨ret_int (by unfold weighF; first | grind | ((repeat' split) <;> omega)), rfl⟩

set_option maxHeartbeats 2000000 in
theorem ref_w6_2 (y a b : Int) (q2 : y < 4) (hy : 0 ≤ y ∧ y ≤ 6) (w : World)
    (g : Int → Int) (ea : g (a) = 4) (eb : g (b) = y) (HG : Hid (∀ z W, Calls Try.prog 29 #[.int .i64 z] W fun e w' => e = .returned (.int .i64 (g z)) ∧ W = w')) :
    Calls Try.prog 30 #[.int .i64 (6), .int .i64 (a), .int .i64 (b)] w fun e' w' => e' = .returned (.int .i64 (weighF (6) (a) (b) (4) (y))) ∧ w = w' := by
  go_enter Try.func30, Try.ntmps30
  go_wp2_with (go_at_call 29; refine (HG.out _ _).mono ?_; rintro e w' ⟨rfl, rfl⟩)
  all_goals
    go_ret
    exact ⟨ret_int (by unfold weighF; first | grind | ((repeat' split) <;> omega)), rfl⟩

set_option maxHeartbeats 2000000 in
theorem ref_w6_3 (y a b : Int) (q2 : 4 ≤ y) (hy : 0 ≤ y ∧ y ≤ 6) (w : World)
    (g : Int → Int) (ea : g (a) = 4) (eb : g (b) = y) (HG : Hid (∀ z W, Calls Try.prog 29 #[.int .i64 z] W fun e w' => e = .returned (.int .i64 (g z)) ∧ W = w')) :
    Calls Try.prog 30 #[.int .i64 (6), .int .i64 (a), .int .i64 (b)] w fun e' w' => e' = .returned (.int .i64 (weighF (6) (a) (b) (4) (y))) ∧ w = w' := by
  go_enter Try.func30, Try.ntmps30
  go_wp2_with (go_at_call 29; refine (HG.out _ _).mono ?_; rintro e w' ⟨rfl, rfl⟩)
  all_goals
    go_ret
    exact ⟨ret_int (by unfold weighF; first | grind | ((repeat' split) <;> omega)), rfl⟩

set_option maxHeartbeats 2000000 in
theorem ref_w6_4 (x y a b : Int) (q1 : 4 < x) (hx : 0 ≤ x ∧ x ≤ 6) (hy : 0 ≤ y ∧ y ≤ 6) (w : World)
    (g : Int → Int) (ea : g (a) = x) (eb : g (b) = y) (HG : Hid (∀ z W, Calls Try.prog 29 #[.int .i64 z] W fun e w' => e = .returned (.int .i64 (g z)) ∧ W = w')) :
    Calls Try.prog 30 #[.int .i64 (6), .int .i64 (a), .int .i64 (b)] w fun e' w' => e' = .returned (.int .i64 (weighF (6) (a) (b) (x) (y))) ∧ w = w' := by
  go_enter Try.func30, Try.ntmps30
  go_wp2_with (go_at_call 29; refine (HG.out _ _).mono ?_; rintro e w' ⟨rfl, rfl⟩)
  all_goals
    go_ret
    exact ⟨ret_int (by unfold weighF; first | grind | ((repeat' split) <;> omega)), rfl⟩

set_option maxHeartbeats 2000000 in
theorem ref_w0_0 (e x y a b : Int) (q0 : e < 1) (q1 : x < 4) (q2 : y < 4) (hx : 0 ≤ x ∧ x ≤ 6) (hy : 0 ≤ y ∧ y ≤ 6) (w : World)
    (g : Int → Int) (ea : g (a) = x) (eb : g (b) = y) (HG : Hid (∀ z W, Calls Try.prog 29 #[.int .i64 z] W fun e w' => e = .returned (.int .i64 (g z)) ∧ W = w')) :
    Calls Try.prog 30 #[.int .i64 (e), .int .i64 (a), .int .i64 (b)] w fun e' w' => e' = .returned (.int .i64 (weighF (e) (a) (b) (x) (y))) ∧ w = w' := by
  go_enter Try.func30, Try.ntmps30
  go_wp2_with (go_at_call 29; refine (HG.out _ _).mono ?_; rintro e w' ⟨rfl, rfl⟩)
  all_goals
    go_ret
    exact ⟨ret_int (by unfold weighF; first | grind | ((repeat' split) <;> omega)), rfl⟩

set_option maxHeartbeats 2000000 in
theorem ref_w0_1 (e x y a b : Int) (q0 : e < 1) (q1 : x < 4) (q2 : 4 ≤ y) (hx : 0 ≤ x ∧ x ≤ 6) (hy : 0 ≤ y ∧ y ≤ 6) (w : World)
    (g : Int → Int) (ea : g (a) = x) (eb : g (b) = y) (HG : Hid (∀ z W, Calls Try.prog 29 #[.int .i64 z] W fun e w' => e = .returned (.int .i64 (g z)) ∧ W = w')) :
    Calls Try.prog 30 #[.int .i64 (e), .int .i64 (a), .int .i64 (b)] w fun e' w' => e' = .returned (.int .i64 (weighF (e) (a) (b) (x) (y))) ∧ w = w' := by
  go_enter Try.func30, Try.ntmps30
  go_wp2_with (go_at_call 29; refine (HG.out _ _).mono ?_; rintro e w' ⟨rfl, rfl⟩)
  all_goals
    go_ret
    exact ⟨ret_int (by unfold weighF; first | grind | ((repeat' split) <;> omega)), rfl⟩

set_option maxHeartbeats 2000000 in
theorem ref_w0_2 (e x y a b : Int) (q0 : e < 1) (q1 : 4 ≤ x) (hx : 0 ≤ x ∧ x ≤ 6) (hy : 0 ≤ y ∧ y ≤ 6) (w : World)
    (g : Int → Int) (ea : g (a) = x) (eb : g (b) = y) (HG : Hid (∀ z W, Calls Try.prog 29 #[.int .i64 z] W fun e w' => e = .returned (.int .i64 (g z)) ∧ W = w')) :
    Calls Try.prog 30 #[.int .i64 (e), .int .i64 (a), .int .i64 (b)] w fun e' w' => e' = .returned (.int .i64 (weighF (e) (a) (b) (x) (y))) ∧ w = w' := by
  go_enter Try.func30, Try.ntmps30
  go_wp2_with (go_at_call 29; refine (HG.out _ _).mono ?_; rintro e w' ⟨rfl, rfl⟩)
  all_goals
    go_ret
    exact ⟨ret_int (by unfold weighF; first | grind | ((repeat' split) <;> omega)), rfl⟩

set_option maxHeartbeats 2000000 in
theorem ref_w0_3 (e x y a b : Int) (q0 : 6 < e) (q1 : x < 4) (q2 : y < 4) (hx : 0 ≤ x ∧ x ≤ 6) (hy : 0 ≤ y ∧ y ≤ 6) (w : World)
    (g : Int → Int) (ea : g (a) = x) (eb : g (b) = y) (HG : Hid (∀ z W, Calls Try.prog 29 #[.int .i64 z] W fun e w' => e = .returned (.int .i64 (g z)) ∧ W = w')) :
    Calls Try.prog 30 #[.int .i64 (e), .int .i64 (a), .int .i64 (b)] w fun e' w' => e' = .returned (.int .i64 (weighF (e) (a) (b) (x) (y))) ∧ w = w' := by
  go_enter Try.func30, Try.ntmps30
  go_wp2_with (go_at_call 29; refine (HG.out _ _).mono ?_; rintro e w' ⟨rfl, rfl⟩)
  all_goals
    go_ret
    exact ⟨ret_int (by unfold weighF; first | grind | ((repeat' split) <;> omega)), rfl⟩

set_option maxHeartbeats 2000000 in
theorem ref_w0_4 (e x y a b : Int) (q0 : 6 < e) (q1 : x < 4) (q2 : 4 ≤ y) (hx : 0 ≤ x ∧ x ≤ 6) (hy : 0 ≤ y ∧ y ≤ 6) (w : World)
    (g : Int → Int) (ea : g (a) = x) (eb : g (b) = y) (HG : Hid (∀ z W, Calls Try.prog 29 #[.int .i64 z] W fun e w' => e = .returned (.int .i64 (g z)) ∧ W = w')) :
    Calls Try.prog 30 #[.int .i64 (e), .int .i64 (a), .int .i64 (b)] w fun e' w' => e' = .returned (.int .i64 (weighF (e) (a) (b) (x) (y))) ∧ w = w' := by
  go_enter Try.func30, Try.ntmps30
  go_wp2_with (go_at_call 29; refine (HG.out _ _).mono ?_; rintro e w' ⟨rfl, rfl⟩)
  all_goals
    go_ret
    exact ⟨ret_int (by unfold weighF; first | grind | ((repeat' split) <;> omega)), rfl⟩

set_option maxHeartbeats 2000000 in
theorem ref_w0_5 (e x y a b : Int) (q0 : 6 < e) (q1 : 4 ≤ x) (hx : 0 ≤ x ∧ x ≤ 6) (hy : 0 ≤ y ∧ y ≤ 6) (w : World)
    (g : Int → Int) (ea : g (a) = x) (eb : g (b) = y) (HG : Hid (∀ z W, Calls Try.prog 29 #[.int .i64 z] W fun e w' => e = .returned (.int .i64 (g z)) ∧ W = w')) :
    Calls Try.prog 30 #[.int .i64 (e), .int .i64 (a), .int .i64 (b)] w fun e' w' => e' = .returned (.int .i64 (weighF (e) (a) (b) (x) (y))) ∧ w = w' := by
  go_enter Try.func30, Try.ntmps30
  go_wp2_with (go_at_call 29; refine (HG.out _ _).mono ?_; rintro e w' ⟨rfl, rfl⟩)
  all_goals
    go_ret
    exact ⟨ret_int (by unfold weighF; first | grind | ((repeat' split) <;> omega)), rfl⟩

theorem ref_weight (e a b : Int) (w : World) : Calls Try.prog 30 #[.int .i64 e, .int .i64 a, .int .i64 b] w fun e' w' => e' = .returned (.int .i64 (weightF e a b)) ∧ w = w' := by
  have hx := classF_range a
  have hy := classF_range b
  have HG := Lib.hid (fun z W => ref_class z W)
  unfold weightF
  generalize classF = g at *
  generalize ea : g a = x at *
  generalize eb : g b = y at *
  have he : e = 1 ∨ e = 2 ∨ e = 3 ∨ e = 4 ∨ e = 5 ∨ e = 6 ∨ e < 1 ∨ 6 < e := by omega
  rcases he with rfl | rfl | rfl | rfl | rfl | rfl | h5 | h5
  · have hc : (x < 4 ∧ y < 4) ∨ (x < 4 ∧ 4 ≤ y) ∨ (4 ≤ x ∧ x ≠ 6) ∨ (x = 6 ∧ y = 5) ∨ (x = 6 ∧ y ≠ 5) := by omega
    rcases hc with ⟨q0, q1⟩ | ⟨q0, q1⟩ | ⟨q0, q1⟩ | ⟨rfl, rfl⟩ | ⟨rfl, q1⟩
    · exact ref_w1_0 x y a b q0 q1 hx hy w g ea eb HG
    · exact ref_w1_1 x y a b q0 q1 hx hy w g ea eb HG
    · exact ref_w1_2 x y a b q0 q1 hx hy w g ea eb HG
    · exact ref_w1_3 a b   w g ea eb HG
    · exact ref_w1_4 y a b q1 hy w g ea eb HG
  · have hc : (x < 4 ∧ y < 4 ∧ a = 27) ∨ (x < 4 ∧ y < 4 ∧ a ≠ 27 ∧ b = 27) ∨ (x < 4 ∧ y < 4 ∧ a ≠ 27 ∧ b ≠ 27) ∨ (x < 4 ∧ 4 ≤ y ∧ a = 27) ∨ (x < 4 ∧ 4 ≤ y ∧ a ≠ 27 ∧ b = 27) ∨ (x < 4 ∧ 4 ≤ y ∧ a ≠ 27 ∧ b ≠ 27) ∨ (4 ≤ x ∧ a = 27) ∨ (4 ≤ x ∧ a ≠ 27 ∧ b = 27) ∨ (4 ≤ x ∧ a ≠ 27 ∧ b ≠ 27) := by omega
    rcases hc with ⟨q0, q1, rfl⟩ | ⟨q0, q1, q2, rfl⟩ | ⟨q0, q1, q2, q3⟩ | ⟨q0, q1, rfl⟩ | ⟨q0, q1, q2, rfl⟩ | ⟨q0, q1, q2, q3⟩ | ⟨q0, rfl⟩ | ⟨q0, q1, rfl⟩ | ⟨q0, q1, q2⟩
    · exact ref_w2_0 x y b q0 q1 hx hy w g ea eb HG
    · exact ref_w2_1 x y a q0 q1 q2 hx hy w g ea eb HG
    · exact ref_w2_2 x y a b q0 q1 q2 q3 hx hy w g ea eb HG
    · exact ref_w2_3 x y b q0 q1 hx hy w g ea eb HG
    · exact ref_w2_4 x y a q0 q1 q2 hx hy w g ea eb HG
    · exact ref_w2_5 x y a b q0 q1 q2 q3 hx hy w g ea eb HG
    · exact ref_w2_6 x y b q0 hx hy w g ea eb HG
    · exact ref_w2_7 x y a q0 q1 hx hy w g ea eb HG
    · exact ref_w2_8 x y a b q0 q1 q2 hx hy w g ea eb HG
  · have hc : (x < 4 ∧ y < 4) ∨ (x < 4 ∧ 4 ≤ y) ∨ (4 ≤ x ∧ x ≠ 5) ∨ (x = 5 ∧ y = 4) ∨ (x = 5 ∧ y ≠ 4) := by omega
    rcases hc with ⟨q0, q1⟩ | ⟨q0, q1⟩ | ⟨q0, q1⟩ | ⟨rfl, rfl⟩ | ⟨rfl, q1⟩
    · exact ref_w3_0 x y a b q0 q1 hx hy w g ea eb HG
    · exact ref_w3_1 x y a b q0 q1 hx hy w g ea eb HG
    · exact ref_w3_2 x y a b q0 q1 hx hy w g ea eb HG
    · exact ref_w3_3 a b   w g ea eb HG
    · exact ref_w3_4 y a b q1 hy w g ea eb HG
  · have hc : (x = 0 ∧ y < 4) ∨ (x = 0 ∧ y = 6) ∨ (x = 0 ∧ 4 ≤ y ∧ y ≠ 6) ∨ (1 ≤ x ∧ x < 4 ∧ y < 4) ∨ (1 ≤ x ∧ x < 4 ∧ 4 ≤ y) ∨ (4 ≤ x ∧ x ≠ 6) ∨ (x = 6 ∧ y = 0) ∨ (x = 6 ∧ y ≠ 0) := by omega
    rcases hc with ⟨rfl, q1⟩ | ⟨rfl, rfl⟩ | ⟨rfl, q1, q2⟩ | ⟨q0, q1, q2⟩ | ⟨q0, q1, q2⟩ | ⟨q0, q1⟩ | ⟨rfl, rfl⟩ | ⟨rfl, q1⟩
    · exact ref_w4_0 y a b q1 hy w g ea eb HG
    · exact ref_w4_1 a b   w g ea eb HG
    · exact ref_w4_2 y a b q1 q2 hy w g ea eb HG
    · exact ref_w4_3 x y a b q0 q1 q2 hx hy w g ea eb HG
    · exact ref_w4_4 x y a b q0 q1 q2 hx hy w g ea eb HG
    · exact ref_w4_5 x y a b q0 q1 hx hy w g ea eb HG
    · exact ref_w4_6 a b   w g ea eb HG
    · exact ref_w4_7 y a b q1 hy w g ea eb HG
  · have hc : (x < 4 ∧ y < 4) ∨ (x < 4 ∧ y = 4) ∨ (x < 4 ∧ 4 < y) ∨ (4 ≤ x ∧ y = 4) ∨ (4 ≤ x ∧ y ≠ 4) := by omega
    rcases hc with ⟨q0, q1⟩ | ⟨q0, rfl⟩ | ⟨q0, q1⟩ | ⟨q0, rfl⟩ | ⟨q0, q1⟩
    · exact ref_w5_0 x y a b q0 q1 hx hy w g ea eb HG
    · exact ref_w5_1 x a b q0 hx w g ea eb HG
    · exact ref_w5_2 x y a b q0 q1 hx hy w g ea eb HG
    · exact ref_w5_3 x a b q0 hx w g ea eb HG
    · exact ref_w5_4 x y a b q0 q1 hx hy w g ea eb HG
  · have hc : (x < 4 ∧ y < 4) ∨ (x < 4 ∧ 4 ≤ y) ∨ (x = 4 ∧ y < 4) ∨ (x = 4 ∧ 4 ≤ y) ∨ (4 < x) := by omega
    rcases hc with ⟨q0, q1⟩ | ⟨q0, q1⟩ | ⟨rfl, q1⟩ | ⟨rfl, q1⟩ | q0
    · exact ref_w6_0 x y a b q0 q1 hx hy w g ea eb HG
    · exact ref_w6_1 x y a b q0 q1 hx hy w g ea eb HG
    · exact ref_w6_2 y a b q1 hy w g ea eb HG
    · exact ref_w6_3 y a b q1 hy w g ea eb HG
    · exact ref_w6_4 x y a b q0 hx hy w g ea eb HG
  · have hc : (x < 4 ∧ y < 4) ∨ (x < 4 ∧ 4 ≤ y) ∨ (4 ≤ x) := by omega
    rcases hc with ⟨q0, q1⟩ | ⟨q0, q1⟩ | q0
    · exact ref_w0_0 e x y a b h5 q0 q1 hx hy w g ea eb HG
    · exact ref_w0_1 e x y a b h5 q0 q1 hx hy w g ea eb HG
    · exact ref_w0_2 e x y a b h5 q0 hx hy w g ea eb HG
  · have hc : (x < 4 ∧ y < 4) ∨ (x < 4 ∧ 4 ≤ y) ∨ (4 ≤ x) := by omega
    rcases hc with ⟨q0, q1⟩ | ⟨q0, q1⟩ | q0
    · exact ref_w0_3 e x y a b h5 q0 q1 hx hy w g ea eb HG
    · exact ref_w0_4 e x y a b h5 q0 q1 hx hy w g ea eb HG
    · exact ref_w0_5 e x y a b h5 q0 hx hy w g ea eb HG

end Go.Proofs.Ytefohnbmifblkaa
