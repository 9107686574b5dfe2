/- No byte tells more than one number, and each number that is told is Bad or a code point: of the plain function wholeS on a string's bytes. -/
import Derived.Test.YtefohnbmifblkaaFewP
import Derived.Test.YtefohnbmifblkaaReach
import Derived.Test.YtefohnbmifblkaaAutoB
namespace Go.Proofs.Ytefohnbmifblkaa

theorem num_end {e : Int} {s : St} (h : okS e s) : ∀ x ∈ endS s, numOk x := by
  intro x hx
  unfold endS at hx
  rcases List.mem_append.1 hx with hx | hx
  · split at hx
    · simp at hx; subst hx; unfold numOk; omega
    · simp at hx
  · split at hx
    · rename_i a y hk
      have hy := h.2 y (by rw [hk]; simp)
      simp at hx
      subst hx
      unfold numOk
      split <;> omega
    · simp at hx

theorem nums_range (l : ByteArray) : ∀ b ∈ nums l, 0 ≤ b ∧ b ≤ 255 := by
  intro b hb
  obtain ⟨u, _, rfl⟩ := List.mem_map.1 hb
  have := u.toNat_lt
  omega

theorem few_len (e : Int) (h1 : 1 ≤ e) (h6 : e ≤ 6) (l : ByteArray) : (wholeS e (nums l)).length ≤ l.size := by
  have := whole_len h1 h6 (nums l) (nums_range l)
  rwa [nums_length] at this
theorem few_all (e : Int) (h1 : 1 ≤ e) (h6 : e ≤ 6) (l : ByteArray) : ∀ x ∈ wholeS e (nums l), -1 ≤ x ∧ x ≤ 1114111 ∧ (x < 55296 ∨ 57343 < x) := by
  have h := num_feed h1 h6 (nums l) ({}, []) (reach_init e h1 h6) (by simp) (nums_range l)
  intro x hx
  rcases List.mem_append.1 hx with hx | hx
  · exact h.2 x hx
  · exact num_end h.1.1 x hx

end Go.Proofs.Ytefohnbmifblkaa
