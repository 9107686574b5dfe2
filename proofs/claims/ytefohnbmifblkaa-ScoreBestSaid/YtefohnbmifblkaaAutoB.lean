/- The exported functions Step, Ends and Accepts of the program's package auto, and the laws' own checks of it, compute the plain functions, for all integers and strings. -/
import Derived.Test.YtefohnbmifblkaaAuto
import Derived.Lib.Hide
namespace Go.Proofs.Ytefohnbmifblkaa
open Go.RowKit

set_option maxHeartbeats 1000000 in
theorem auto_step (e s b : Int) (w : World) : Calls Try.prog 14 #[.int .i64 e, .int .i64 s, .int .i64 b] w fun e' w' => e' = .returned (.int .i64 (autoF e s b)) ∧ w = w' := by
  have hg : s < 0 ∨ 9 ≤ s ∨ (0 ≤ s ∧ s < 9 ∧ b < 0) ∨ (0 ≤ s ∧ s < 9 ∧ 255 < b) ∨ (0 ≤ s ∧ s < 9 ∧ 0 ≤ b ∧ b ≤ 255) := by omega
  rcases hg with h | h | ⟨h1, h2, h3⟩ | ⟨h1, h2, h3⟩ | ⟨h1, h2, h3, h4⟩
  iterate 4
    · go_enter Try.func14, Try.ntmps14
      go_wp2
      go_ret
      exact ⟨ret_int (by unfold autoF; rw [if_pos (by omega)]), rfl⟩
  have hn : ¬ (s < 0 ∨ 9 ≤ s ∨ b < 0 ∨ 255 < b) := by omega
  have he : e = 1 ∨ e = 2 ∨ e = 3 ∨ (e = 4 ∧ s = 0) ∨ (e = 4 ∧ 1 ≤ s) ∨ e = 5 ∨ e = 6 ∨ e < 1 ∨ 6 < e := by omega
  have hN := Lib.hid hn
  clear hn
  rcases he with rfl | rfl | rfl | ⟨rfl, rfl⟩ | ⟨rfl, h5⟩ | rfl | rfl | h5 | h5
  all_goals
    go_enter Try.func14, Try.ntmps14
    go_wp2_with (first
      | (go_at_call 40; refine (auto_utf _ _ _).mono ?_; rintro e w' ⟨rfl, rfl⟩)
      | (go_at_call 41; refine (auto_shift _ _ _).mono ?_; rintro e w' ⟨rfl, rfl⟩)
      | (go_at_call 42; refine (auto_twin _ _ _).mono ?_; rintro e w' ⟨rfl, rfl⟩)
      | (go_at_call 43; refine (auto_latin _ _).mono ?_; rintro e w' ⟨rfl, rfl⟩)
      | (go_at_call 44; refine (auto_low _ _ _).mono ?_; rintro e w' ⟨rfl, rfl⟩)
      | (go_at_call 45; refine (auto_high _ _ _).mono ?_; rintro e w' ⟨rfl, rfl⟩))
    go_ret
    refine ⟨ret_int ?_, rfl⟩
    have hn := hN.out
    unfold autoF
    rw [if_neg hn]
    first | rfl | grind

theorem auto_ends (e s : Int) (w : World) : Calls Try.prog 17 #[.int .i64 e, .int .i64 s] w fun e' w' => e' = .returned (.bool (endsF e s)) ∧ w = w' := by
  have h : s = 0 ∨ (s ≠ 0 ∧ e = 2 ∧ s = 1) ∨ (s ≠ 0 ∧ e = 2 ∧ s ≠ 1) ∨ (s ≠ 0 ∧ e ≠ 2) := by omega
  rcases h with rfl | ⟨h0, rfl, rfl⟩ | ⟨h0, rfl, h1⟩ | ⟨h0, h1⟩
  all_goals
    go_enter Try.func17, Try.ntmps17
    go_wp2
    go_ret
    refine ⟨ret_bool ?_, rfl⟩
    simp [endsF, *]

/-- A string as the list of its bytes, as integers. -/
def nums (s : ByteArray) : List Int := s.data.toList.map fun b => (b.toNat : Int)
theorem nums_length (s : ByteArray) : (nums s).length = s.size := by simp [nums]
theorem nums_get (s : ByteArray) (k : Nat) (h : k < s.size) : (nums s)[k]'(by rw [nums_length]; exact h) = (s[k].toNat : Int) := by simp [nums]; rfl
theorem nums_take (s : ByteArray) (k : Nat) (h : k < s.size) : (nums s).take (k + 1) = (nums s).take k ++ [(s[k].toNat : Int)] := by
  rw [List.take_succ_eq_append_getElem (by rw [nums_length]; exact h), nums_get s k h]
theorem nums_all (s : ByteArray) : (nums s).take s.size = nums s := by rw [List.take_of_length_le (by rw [nums_length]; omega)]

theorem wrap64_byte (x : UInt8) : wrap64 (x.toNat : Int) = (x.toNat : Int) := IntWalk.wrap64_in _ (by have := x.toNat_lt; omega)

theorem autoAll_snoc (e s : Int) (l : List Int) (b : Int) : autoAll e s (l ++ [b]) = autoF e (autoAll e s l) b := by simp [autoAll]

set_option maxHeartbeats 1000000 in
theorem auto_accepts (e : Int) (s : ByteArray) (w : World) (hs : s.size ≤ maxLen) :
    Calls Try.prog 16 #[.int .i64 e, .string s] w fun e' w' => e' = .returned (.bool (acceptsF e (nums s))) ∧ w = w' := by
  unfold maxLen at hs
  have he : e < 1 ∨ 6 < e ∨ (1 ≤ e ∧ e ≤ 6) := by omega
  rcases he with h | h | ⟨h1, h2⟩
  · go_enter Try.func16, Try.ntmps16
    go_wp2
    go_ret
    exact ⟨ret_bool (by simp [acceptsF]; omega), rfl⟩
  · go_enter Try.func16, Try.ntmps16
    go_wp2
    go_ret
    exact ⟨ret_bool (by simp [acceptsF]; omega), rfl⟩
  · go_enter Try.func16, Try.ntmps16
    go_wp2
    go_loop [5, 15] (fun x i => ∃ k : Nat, k ≤ s.size ∧ i = .int .i64 k ∧ x = .int .i64 (autoAll e 0 ((nums s).take k))) (fun _ i => s.size - (intOf i).toNat)
    case atStart => exact ⟨0, Nat.zero_le _, rfl, rfl⟩
    case round =>
      obtain ⟨k, hk, rfl, rfl⟩ := hrel
      by_cases hlt : k < s.size
      · have HS : Hid (autoAll e 0 ((nums s).take (k + 1)) = autoF e (autoAll e 0 ((nums s).take k)) (s[k].toNat : Int)) := by
          rw [nums_take s k hlt, autoAll_snoc]; trivial
        have hwb := wrap64_byte s[k]
        go_wp2_with (go_at_call 14; refine (auto_step _ _ _ _).mono ?_; rintro e w' ⟨rfl, rfl⟩)
        go_round
        case rel => exact ⟨k + 1, by omega, by go_num, by rw [HS.out]⟩
        case measure => simp [intOf]; omega
      · obtain rfl : k = s.size := by omega
        go_wp2_with (go_at_call 17; refine (auto_ends _ _ _).mono ?_; rintro e w' ⟨rfl, rfl⟩)
        go_ret
        exact ⟨ret_bool (by rw [nums_all]; simp [acceptsF, h1, h2]), rfl⟩

end Go.Proofs.Ytefohnbmifblkaa
