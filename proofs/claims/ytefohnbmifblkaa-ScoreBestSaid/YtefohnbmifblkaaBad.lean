/- Is there a Bad among the first numbers of a list? Plain. -/
import Derived.Test.YtefohnbmifblkaaLawsD
namespace Go.Proofs.Ytefohnbmifblkaa

theorem bad_snoc (xs : List Int) (k : Nat) (h : k < xs.length) : decide (-1 ∈ xs.take (k + 1)) = (decide (-1 ∈ xs.take k) || decide (xs[k] = -1)) := by
  rw [List.take_succ_eq_append_getElem h, Bool.eq_iff_iff]
  simp only [decide_eq_true_eq, Bool.or_eq_true, List.mem_append, List.mem_singleton]
  constructor
  · rintro (h | h)
    · exact Or.inl h
    · exact Or.inr h.symm
  · rintro (h | h)
    · exact Or.inl h
    · exact Or.inr h.symm

end Go.Proofs.Ytefohnbmifblkaa
