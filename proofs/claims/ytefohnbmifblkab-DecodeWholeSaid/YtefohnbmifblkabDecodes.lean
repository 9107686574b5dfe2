/- The statements' own check of package decode, decodes, returns true. -/
import Derived.Test.YtefohnbmifblkabWhole
namespace Go.Proofs.Ytefohnbmifblkab
open Go.RowKit
set_option linter.unusedVariables false

/-- A list that is not empty lies in a block, its numbers can be read there. -/
theorem Ints.at {W : World} {base : Nat} {v : Value} {xs : List Int} (h : Ints W base v xs) (hne : xs ≠ []) :
    ∃ g cap, v = .slice (some ⟨g, 0, none⟩) xs.length cap ∧ base ≤ g ∧ xs.length ≤ cap ∧ cap ≤ maxLen ∧ ∀ j (hj : j < xs.length), W.cell? ⟨g, j, none⟩ = some (.int .i64 xs[j]) := by
  have h' := h
  obtain ⟨h1, h2⟩ := h
  rcases h2 with ⟨_, h2⟩ | ⟨g, cap, cur, rfl, hg, hh, hcap, hm, r⟩
  · exact absurd (List.eq_nil_of_length_eq_zero h2) hne
  · refine ⟨g, cap, rfl, hg, hcap, hm, fun j hj => ?_⟩
    have := World.ownsRow.cells h' (g := g) rfl j (.int .i64 xs[j]) (by simp [hj])
    have hadd : (⟨g, 0, none⟩ : Addr).add j = ⟨g, j, none⟩ := by unfold Addr.add; split <;> simp_all
    rwa [hadd] at this

theorem whole_check : wholeS 1 (nums ⟨#[97, 195, 169, 128]⟩) = [97, 233, -1] := by decide +kernel

set_option maxRecDepth 100000 in
set_option maxHeartbeats 1000000 in
theorem law_decodes (w : World) : Calls Try.prog 7 #[] w fun e' w' => e' = .returned (.bool true) ∧ Below w.heap.size w w' := by
  have hcall : ∀ W, Calls Try.prog 4 #[.int .i64 1, .string ⟨#[97, 195, 169, 128]⟩] W fun e' w' => ∃ g cap, e' = .returned (.tuple #[.slice (some ⟨g, 0, none⟩) 3 cap, .int .i64 0])
      ∧ 3 ≤ cap ∧ cap ≤ maxLen ∧ w'.cell? ⟨g, 1, none⟩ = some (.int .i64 233) ∧ w'.cell? ⟨g, 2, none⟩ = some (.int .i64 (-1)) ∧ Below W.heap.size W w' := by
    intro W
    refine (whole_ok 1 (by omega) (by omega) ⟨#[97, 195, 169, 128]⟩ (by decide) W).mono ?_
    rintro e' w' ⟨v, rfl, hi, hb⟩
    rw [whole_check] at hi
    obtain ⟨g, cap, rfl, _, hcap, hm, hc⟩ := hi.at (by simp)
    exact ⟨g, cap, rfl, hcap, hm, hc 1 (by simp), hc 2 (by simp), hb⟩
  have HC := Lib.hid hcall
  clear hcall
  go_enter Try.func7, Try.ntmps7
  go_wp2_with (go_at_call 4; refine (HC.out _).mono ?_; rintro e' w1 ⟨g, cap, rfl, hcap, hm, hc1, hc2, hb⟩)
  go_ret
  exact ⟨rfl, hb⟩

end Go.Proofs.Ytefohnbmifblkab
