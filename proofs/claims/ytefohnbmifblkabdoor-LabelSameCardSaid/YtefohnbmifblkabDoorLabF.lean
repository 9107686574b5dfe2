/- label.Find and label.Name. -/
import Derived.Test.YtefohnbmifblkabDoorLabT
namespace Go.Proofs.YtefohnbmifblkabDoor
open Go.RowKit
set_option linter.unusedVariables false

/-- The encoding of a name. -/
def findF (l : List UInt8) : Int :=
  if l == [117, 116, 102, 45, 56] then 1
  else if l == [117, 116, 102, 56] then 1
  else if l == [117, 110, 105, 99, 111, 100, 101, 45, 49, 45, 49, 45, 117, 116, 102, 45, 56] then 1
  else if l == [115, 104, 105, 102, 116] then 2
  else if l == [105, 115, 111, 45, 50, 48, 50, 50] then 2
  else if l == [116, 119, 105, 110] then 3
  else if l == [120, 45, 116, 119, 105, 110] then 3
  else if l == [109, 115, 95, 116, 119, 105, 110] then 3
  else if l == [108, 97, 116, 105, 110] then 4
  else if l == [108, 97, 116, 105, 110, 49] then 4
  else if l == [97, 115, 99, 105, 105] then 4
  else if l == [117, 115, 45, 97, 115, 99, 105, 105] then 4
  else if l == [119, 105, 110, 100, 111, 119, 115, 45, 49, 50, 53, 50] then 4
  else if l == [117, 116, 102, 45, 49, 54] then 5
  else if l == [117, 116, 102, 45, 49, 54, 108, 101] then 5
  else if l == [117, 116, 102, 45, 49, 54, 98, 101] then 6
  else 0
def findL (s : ByteArray) : Int := if 40 < s.size then 0 else findF (trimT s).toList

set_option maxRecDepth 100000 in
set_option maxHeartbeats 4000000 in
theorem find_name (s T : ByteArray) (w : World) (hs : (s.size : Int) ≤ 40)
    (HT : Hid (∀ W, Calls Tryd.prog 5 #[.string s] W fun e w' => e = .returned (.string T) ∧ Below W.heap.size W w')) :
    Calls Tryd.prog 6 #[.string s] w fun e w' => e = .returned (.int .i64 (findF T.toList)) ∧ Below w.heap.size w w' := by
  cases h0 : (T.toList == [117, 116, 102, 45, 56])
  rotate_left
  · have HF : Hid (findF T.toList = 1) := Lib.hid (by simp only [findF, h0, if_true])
    rw [HF.out]
    go_enter Tryd.func6, Tryd.ntmps6
    go_wp2_with (go_at_call 5; refine (HT.out _).mono ?_; rintro e' w1 ⟨rfl, hb1⟩)
    go_ret
    exact ⟨ret_int rfl, hb1⟩
  cases h1 : (T.toList == [117, 116, 102, 56])
  rotate_left
  · have HF : Hid (findF T.toList = 1) := Lib.hid (by simp only [findF, h0, h1, Bool.false_eq_true, if_false, if_true])
    rw [HF.out]
    go_enter Tryd.func6, Tryd.ntmps6
    go_wp2_with (go_at_call 5; refine (HT.out _).mono ?_; rintro e' w1 ⟨rfl, hb1⟩)
    go_ret
    exact ⟨ret_int rfl, hb1⟩
  cases h2 : (T.toList == [117, 110, 105, 99, 111, 100, 101, 45, 49, 45, 49, 45, 117, 116, 102, 45, 56])
  rotate_left
  · have HF : Hid (findF T.toList = 1) := Lib.hid (by simp only [findF, h0, h1, h2, Bool.false_eq_true, if_false, if_true])
    rw [HF.out]
    go_enter Tryd.func6, Tryd.ntmps6
    go_wp2_with (go_at_call 5; refine (HT.out _).mono ?_; rintro e' w1 ⟨rfl, hb1⟩)
    go_ret
    exact ⟨ret_int rfl, hb1⟩
  cases h3 : (T.toList == [115, 104, 105, 102, 116])
  rotate_left
  · have HF : Hid (findF T.toList = 2) := Lib.hid (by simp only [findF, h0, h1, h2, h3, Bool.false_eq_true, if_false, if_true])
    rw [HF.out]
    go_enter Tryd.func6, Tryd.ntmps6
    go_wp2_with (go_at_call 5; refine (HT.out _).mono ?_; rintro e' w1 ⟨rfl, hb1⟩)
    go_ret
    exact ⟨ret_int rfl, hb1⟩
  cases h4 : (T.toList == [105, 115, 111, 45, 50, 48, 50, 50])
  rotate_left
  · have HF : Hid (findF T.toList = 2) := Lib.hid (by simp only [findF, h0, h1, h2, h3, h4, Bool.false_eq_true, if_false, if_true])
    rw [HF.out]
    go_enter Tryd.func6, Tryd.ntmps6
    go_wp2_with (go_at_call 5; refine (HT.out _).mono ?_; rintro e' w1 ⟨rfl, hb1⟩)
    go_ret
    exact ⟨ret_int rfl, hb1⟩
  cases h5 : (T.toList == [116, 119, 105, 110])
  rotate_left
  · have HF : Hid (findF T.toList = 3) := Lib.hid (by simp only [findF, h0, h1, h2, h3, h4, h5, Bool.false_eq_true, if_false, if_true])
    rw [HF.out]
    go_enter Tryd.func6, Tryd.ntmps6
    go_wp2_with (go_at_call 5; refine (HT.out _).mono ?_; rintro e' w1 ⟨rfl, hb1⟩)
    go_ret
    exact ⟨ret_int rfl, hb1⟩
  cases h6 : (T.toList == [120, 45, 116, 119, 105, 110])
  rotate_left
  · have HF : Hid (findF T.toList = 3) := Lib.hid (by simp only [findF, h0, h1, h2, h3, h4, h5, h6, Bool.false_eq_true, if_false, if_true])
    rw [HF.out]
    go_enter Tryd.func6, Tryd.ntmps6
    go_wp2_with (go_at_call 5; refine (HT.out _).mono ?_; rintro e' w1 ⟨rfl, hb1⟩)
    go_ret
    exact ⟨ret_int rfl, hb1⟩
  cases h7 : (T.toList == [109, 115, 95, 116, 119, 105, 110])
  rotate_left
  · have HF : Hid (findF T.toList = 3) := Lib.hid (by simp only [findF, h0, h1, h2, h3, h4, h5, h6, h7, Bool.false_eq_true, if_false, if_true])
    rw [HF.out]
    go_enter Tryd.func6, Tryd.ntmps6
    go_wp2_with (go_at_call 5; refine (HT.out _).mono ?_; rintro e' w1 ⟨rfl, hb1⟩)
    go_ret
    exact ⟨ret_int rfl, hb1⟩
  cases h8 : (T.toList == [108, 97, 116, 105, 110])
  rotate_left
  · have HF : Hid (findF T.toList = 4) := Lib.hid (by simp only [findF, h0, h1, h2, h3, h4, h5, h6, h7, h8, Bool.false_eq_true, if_false, if_true])
    rw [HF.out]
    go_enter Tryd.func6, Tryd.ntmps6
    go_wp2_with (go_at_call 5; refine (HT.out _).mono ?_; rintro e' w1 ⟨rfl, hb1⟩)
    go_ret
    exact ⟨ret_int rfl, hb1⟩
  cases h9 : (T.toList == [108, 97, 116, 105, 110, 49])
  rotate_left
  · have HF : Hid (findF T.toList = 4) := Lib.hid (by simp only [findF, h0, h1, h2, h3, h4, h5, h6, h7, h8, h9, Bool.false_eq_true, if_false, if_true])
    rw [HF.out]
    go_enter Tryd.func6, Tryd.ntmps6
    go_wp2_with (go_at_call 5; refine (HT.out _).mono ?_; rintro e' w1 ⟨rfl, hb1⟩)
    go_ret
    exact ⟨ret_int rfl, hb1⟩
  cases h10 : (T.toList == [97, 115, 99, 105, 105])
  rotate_left
  · have HF : Hid (findF T.toList = 4) := Lib.hid (by simp only [findF, h0, h1, h2, h3, h4, h5, h6, h7, h8, h9, h10, Bool.false_eq_true, if_false, if_true])
    rw [HF.out]
    go_enter Tryd.func6, Tryd.ntmps6
    go_wp2_with (go_at_call 5; refine (HT.out _).mono ?_; rintro e' w1 ⟨rfl, hb1⟩)
    go_ret
    exact ⟨ret_int rfl, hb1⟩
  cases h11 : (T.toList == [117, 115, 45, 97, 115, 99, 105, 105])
  rotate_left
  · have HF : Hid (findF T.toList = 4) := Lib.hid (by simp only [findF, h0, h1, h2, h3, h4, h5, h6, h7, h8, h9, h10, h11, Bool.false_eq_true, if_false, if_true])
    rw [HF.out]
    go_enter Tryd.func6, Tryd.ntmps6
    go_wp2_with (go_at_call 5; refine (HT.out _).mono ?_; rintro e' w1 ⟨rfl, hb1⟩)
    go_ret
    exact ⟨ret_int rfl, hb1⟩
  cases h12 : (T.toList == [119, 105, 110, 100, 111, 119, 115, 45, 49, 50, 53, 50])
  rotate_left
  · have HF : Hid (findF T.toList = 4) := Lib.hid (by simp only [findF, h0, h1, h2, h3, h4, h5, h6, h7, h8, h9, h10, h11, h12, Bool.false_eq_true, if_false, if_true])
    rw [HF.out]
    go_enter Tryd.func6, Tryd.ntmps6
    go_wp2_with (go_at_call 5; refine (HT.out _).mono ?_; rintro e' w1 ⟨rfl, hb1⟩)
    go_ret
    exact ⟨ret_int rfl, hb1⟩
  cases h13 : (T.toList == [117, 116, 102, 45, 49, 54])
  rotate_left
  · have HF : Hid (findF T.toList = 5) := Lib.hid (by simp only [findF, h0, h1, h2, h3, h4, h5, h6, h7, h8, h9, h10, h11, h12, h13, Bool.false_eq_true, if_false, if_true])
    rw [HF.out]
    go_enter Tryd.func6, Tryd.ntmps6
    go_wp2_with (go_at_call 5; refine (HT.out _).mono ?_; rintro e' w1 ⟨rfl, hb1⟩)
    go_ret
    exact ⟨ret_int rfl, hb1⟩
  cases h14 : (T.toList == [117, 116, 102, 45, 49, 54, 108, 101])
  rotate_left
  · have HF : Hid (findF T.toList = 5) := Lib.hid (by simp only [findF, h0, h1, h2, h3, h4, h5, h6, h7, h8, h9, h10, h11, h12, h13, h14, Bool.false_eq_true, if_false, if_true])
    rw [HF.out]
    go_enter Tryd.func6, Tryd.ntmps6
    go_wp2_with (go_at_call 5; refine (HT.out _).mono ?_; rintro e' w1 ⟨rfl, hb1⟩)
    go_ret
    exact ⟨ret_int rfl, hb1⟩
  cases h15 : (T.toList == [117, 116, 102, 45, 49, 54, 98, 101])
  rotate_left
  · have HF : Hid (findF T.toList = 6) := Lib.hid (by simp only [findF, h0, h1, h2, h3, h4, h5, h6, h7, h8, h9, h10, h11, h12, h13, h14, h15, Bool.false_eq_true, if_false, if_true])
    rw [HF.out]
    go_enter Tryd.func6, Tryd.ntmps6
    go_wp2_with (go_at_call 5; refine (HT.out _).mono ?_; rintro e' w1 ⟨rfl, hb1⟩)
    go_ret
    exact ⟨ret_int rfl, hb1⟩
  have HF : Hid (findF T.toList = 0) := Lib.hid (by simp only [findF, h0, h1, h2, h3, h4, h5, h6, h7, h8, h9, h10, h11, h12, h13, h14, h15, Bool.false_eq_true, if_false])
  rw [HF.out]
  go_enter Tryd.func6, Tryd.ntmps6
  go_wp2_with (go_at_call 5; refine (HT.out _).mono ?_; rintro e' w1 ⟨rfl, hb1⟩)
  go_ret
  exact ⟨ret_int rfl, hb1⟩

theorem find_any (s : ByteArray) (w : World) : Calls Tryd.prog 6 #[.string s] w fun e w' => e = .returned (.int .i64 (findL s)) ∧ Below w.heap.size w w' := by
  unfold findL
  by_cases hl : 40 < s.size
  · rw [if_pos hl]
    have h2 : (40 : Int) < (s.size : Int) := by omega
    go_enter Tryd.func6, Tryd.ntmps6
    go_wp2_with fail
    go_ret
    exact ⟨rfl, Below.refl _ _⟩
  · rw [if_neg hl]
    exact find_name s (trimT s) w (by omega) (Lib.hid fun W => label_trim s W (by unfold maxLen; omega))

/-- The name of an encoding. -/
def nameF (e : Int) : ByteArray :=
  if e = 1 then ⟨#[117, 116, 102, 45, 56]⟩ else if e = 2 then ⟨#[115, 104, 105, 102, 116]⟩ else if e = 3 then ⟨#[116, 119, 105, 110]⟩ else if e = 4 then ⟨#[108, 97, 116, 105, 110]⟩
  else if e = 5 then ⟨#[117, 116, 102, 45, 49, 54, 108, 101]⟩ else if e = 6 then ⟨#[117, 116, 102, 45, 49, 54, 98, 101]⟩ else ⟨#[]⟩

set_option maxRecDepth 100000 in
set_option maxHeartbeats 1000000 in
theorem name_any (e : Int) (w : World) : Calls Tryd.prog 7 #[.int .i64 e] w fun e' w' => e' = .returned (.string (nameF e)) ∧ Below w.heap.size w w' := by
  have he : e < 0 ∨ (0 ≤ e ∧ 6 < e) ∨ e = 0 ∨ e = 1 ∨ e = 2 ∨ e = 3 ∨ e = 4 ∨ e = 5 ∨ e = 6 := by omega
  have HF : Hid (e < 1 ∨ 6 < e → nameF e = ⟨#[]⟩) := Lib.hid fun h => by
    unfold nameF
    rw [if_neg (by omega), if_neg (by omega), if_neg (by omega), if_neg (by omega), if_neg (by omega), if_neg (by omega)]
  rcases he with h | ⟨h, h'⟩ | rfl | rfl | rfl | rfl | rfl | rfl | rfl
  iterate 2
    · rw [HF.out (by omega)]
      go_enter Tryd.func7, Tryd.ntmps7
      go_wp2_with fail
      go_ret
      exact ⟨rfl, below_alloc (Below.refl _ _) _⟩
  all_goals
    go_enter Tryd.func7, Tryd.ntmps7
    go_wp2_with fail
    go_ret
    exact ⟨rfl, below_alloc (Below.refl _ _) _⟩

end Go.Proofs.YtefohnbmifblkabDoor
