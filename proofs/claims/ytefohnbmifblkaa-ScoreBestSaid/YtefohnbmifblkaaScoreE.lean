/- What the best encoding is, said as the statement ScoreBest says it. Plain. -/
import Derived.Test.YtefohnbmifblkaaScoreD
namespace Go.Proofs.Ytefohnbmifblkaa

theorem accepts_parts {e : Int} {l : List Int} (h : acceptsF e l = true) : 1 ≤ e ∧ e ≤ 6 ∧ endsF e (autoAll e 0 l) = true := by
  unfold acceptsF at h
  simpa [and_assoc] using h
theorem best_zero {e : Int} {l : List Int} (h : bestF l = 0) : acceptsF e l = false := by
  cases hb : acceptsF e l
  · rfl
  · obtain ⟨h1, h6, h3⟩ := accepts_parts hb
    have := bestN_most (fun e => endsF e (autoAll e 0 l)) (fun e => sumN e l l.length) 6 e h1 h6 h3
    exact absurd h this.1
theorem best_yes {l : List Int} (h : bestF l ≠ 0) : acceptsF (bestF l) l = true := by
  have h1 := bestN_ok (fun e => endsF e (autoAll e 0 l)) (fun e => sumN e l l.length) 6 h
  have h2 := bestN_range (fun e => endsF e (autoAll e 0 l)) (fun e => sumN e l l.length) 6
  have h3 : endsF (bestF l) (autoAll (bestF l) 0 l) = true := h1
  have h4 : 0 ≤ bestF l ∧ bestF l ≤ 6 := h2
  unfold acceptsF
  rw [h3, decide_eq_true (by omega : 1 ≤ bestF l), decide_eq_true h4.2]
  rfl
theorem best_most {e : Int} {l : List Int} (h : acceptsF e l = true) : sumN e l l.length ≤ sumN (bestF l) l l.length ∧ (e < bestF l → sumN e l l.length < sumN (bestF l) l l.length) := by
  obtain ⟨h1, h6, h3⟩ := accepts_parts h
  exact (bestN_most (fun e => endsF e (autoAll e 0 l)) (fun e => sumN e l l.length) 6 e h1 h6 h3).2

end Go.Proofs.Ytefohnbmifblkaa
