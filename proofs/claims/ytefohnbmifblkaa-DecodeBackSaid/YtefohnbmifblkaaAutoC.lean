/- What the statements on package auto need of the plain automata; the check autos of the statements' packages returns true. -/
import Derived.Test.YtefohnbmifblkaaAutoB
namespace Go.Proofs.Ytefohnbmifblkaa
open Go.RowKit

theorem autoF_range (e s b : Int) : 0 ≤ autoF e s b ∧ autoF e s b ≤ 9 := by
  unfold autoF utfF shiftF twinF latinF lowF highF
  (repeat' split) <;> omega
theorem autoF_never (e b : Int) : autoF e 9 b = 9 := by
  unfold autoF; rw [if_pos (by omega)]

theorem nums_append (s t : ByteArray) : nums (s ++ t) = nums s ++ nums t := by simp [nums]

theorem acceptsF_append (e : Int) (s t : ByteArray) (h1 : 1 ≤ e) (h2 : e ≤ 6) :
    acceptsF e (nums (s ++ t)) = endsF e (autoAll e (autoAll e 0 (nums s)) (nums t)) := by
  simp [acceptsF, h1, h2, nums_append, autoAll]

def inF (e : Int) : Int := if 1 ≤ e ∧ e ≤ 6 then 1 else 0
theorem keep_in (e : Int) (w : World) : Calls Try.prog 15 #[.int .i64 e] w fun e' w' => e' = .returned (.int .i64 (inF e)) ∧ w = w' := by
  have h : e < 1 ∨ 6 < e ∨ (1 ≤ e ∧ e ≤ 6) := by omega
  rcases h with h | h | ⟨h1, h2⟩
  all_goals
    go_enter Try.func15, Try.ntmps15
    go_wp2
    go_ret
    exact ⟨ret_int (by unfold inF; grind), rfl⟩

theorem autos_a : acceptsF 1 (nums ⟨#[97, 195, 169]⟩) = true := by decide +kernel
theorem autos_b : acceptsF 1 (nums ⟨#[195]⟩) = false := by decide +kernel

theorem keep_autos (w : World) : Calls Try.prog 18 #[] w fun e' w' => e' = .returned (.bool true) ∧ w = w' := by
  have ha := autos_a
  have hb := autos_b
  go_enter Try.func18, Try.ntmps18
  go_wp2_with (go_at_call 16; refine (auto_accepts _ _ _ (by decide)).mono ?_; rintro e w' ⟨rfl, rfl⟩)
  go_ret
  exact ⟨rfl, rfl⟩

theorem law_autos (w : World) : Calls Try.prog 19 #[] w fun e' w' => e' = .returned (.bool true) ∧ w = w' := by
  have ha := autos_a
  have hb := autos_b
  go_enter Try.func19, Try.ntmps19
  go_wp2_with (go_at_call 16; refine (auto_accepts _ _ _ (by decide)).mono ?_; rintro e w' ⟨rfl, rfl⟩)
  go_ret
  exact ⟨rfl, rfl⟩

end Go.Proofs.Ytefohnbmifblkaa
