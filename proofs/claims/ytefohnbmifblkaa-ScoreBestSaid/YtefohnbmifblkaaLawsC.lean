/- One byte of the automaton and of the decoder beside one another: Shift, Low, High. Plain. -/
import Derived.Test.YtefohnbmifblkaaLawsB
namespace Go.Proofs.Ytefohnbmifblkaa

theorem hf_shift {a b : Int} {s : St} (hb0 : 0 ≤ b) (hb1 : b ≤ 255) (h : goes 2 a s) : hit 2 a b s ∨ fit 2 a b s := by
  have h : (∃ m, (m = 0 ∨ m = 1) ∧ ((a = m ∧ atS s [] 0 m) ∨ (a = 2 + 3 * m ∧ atS s [27] 0 m) ∨ (a = 3 + 3 * m ∧ atS s [27, 40] 0 m) ∨ (a = 4 + 3 * m ∧ atS s [27, 36] 0 m))) ∨
      (a = 8 ∧ ∃ x, 33 ≤ x ∧ x ≤ 126 ∧ atS s [x] 0 1) := h
  have hx : ∀ a, 0 ≤ a → a < 9 → autoF 2 a b = shiftF a b := by
    intro a h1 h2
    unfold autoF
    rw [if_neg (by omega)]
    rfl
  have ho : ∀ s, oneS 2 s b = shiftS s b := fun _ => rfl
  have z0 : goes 2 0 {} := Or.inl ⟨0, Or.inl rfl, Or.inl ⟨rfl, rfl⟩⟩
  have z1 : goes 2 1 (St.mk 0 0 0 0 [] 0 1) := Or.inl ⟨1, Or.inr rfl, Or.inl ⟨rfl, rfl⟩⟩
  have e0 : goes 2 2 (St.mk 0 0 0 0 [27] 0 0) := Or.inl ⟨0, Or.inl rfl, Or.inr (Or.inl ⟨rfl, rfl⟩)⟩
  have e1 : goes 2 5 (St.mk 0 0 0 0 [27] 0 1) := Or.inl ⟨1, Or.inr rfl, Or.inr (Or.inl ⟨rfl, rfl⟩)⟩
  have p0 : goes 2 3 (St.mk 0 0 0 0 [27, 40] 0 0) := Or.inl ⟨0, Or.inl rfl, Or.inr (Or.inr (Or.inl ⟨rfl, rfl⟩))⟩
  have p1 : goes 2 6 (St.mk 0 0 0 0 [27, 40] 0 1) := Or.inl ⟨1, Or.inr rfl, Or.inr (Or.inr (Or.inl ⟨rfl, rfl⟩))⟩
  have d0 : goes 2 4 (St.mk 0 0 0 0 [27, 36] 0 0) := Or.inl ⟨0, Or.inl rfl, Or.inr (Or.inr (Or.inr ⟨rfl, rfl⟩))⟩
  have d1 : goes 2 7 (St.mk 0 0 0 0 [27, 36] 0 1) := Or.inl ⟨1, Or.inr rfl, Or.inr (Or.inr (Or.inr ⟨rfl, rfl⟩))⟩
  have t1 : ∀ x, 33 ≤ x → x ≤ 126 → goes 2 8 (St.mk 0 0 0 0 [x] 0 1) := fun x h1 h2 => Or.inr ⟨rfl, x, h1, h2, rfl⟩
  unfold hit fit
  rw [ho]
  rcases h with ⟨m, rfl | rfl, ⟨rfl, rfl⟩ | ⟨rfl, rfl⟩ | ⟨rfl, rfl⟩ | ⟨rfl, rfl⟩⟩ | ⟨rfl, x, hx0, hx1, rfl⟩
  all_goals
    rw [hx _ (by omega) (by omega)]
    unfold shiftF
    simp only [shiftS]
    simp only [Int.reduceEq, Int.reduceAdd, Int.reduceMul, or_self, or_true, or_false, if_true, if_false]
  · split
    · exact Or.inr ⟨by omega, rfl, by simp, e0⟩
    split
    · rename_i hc
      rw [if_neg (by omega)]
      exact Or.inr ⟨by omega, rfl, by simp; omega, z0⟩
    · rw [if_pos (by omega)]
      exact Or.inl ⟨rfl, Or.inl (by simp)⟩
  · split
    · subst_vars
      exact Or.inr ⟨by omega, rfl, by simp, p0⟩
    split
    · subst_vars
      exact Or.inr ⟨by omega, rfl, by simp, d0⟩
    · rw [if_neg (by omega)]
      exact Or.inl ⟨rfl, Or.inl (by simp)⟩
  · split
    · exact Or.inr ⟨by omega, rfl, by simp, z0⟩
    · exact Or.inl ⟨rfl, Or.inl (by simp)⟩
  · split
    · exact Or.inr ⟨by omega, rfl, by simp, z1⟩
    · exact Or.inl ⟨rfl, Or.inl (by simp)⟩
  · split
    · exact Or.inr ⟨by omega, rfl, by simp, e1⟩
    split
    · exact Or.inr ⟨by omega, rfl, by simp, z0⟩
    split
    · rename_i hc
      rw [if_neg (by omega)]
      exact Or.inr ⟨by omega, rfl, by simp, t1 b hc.1 hc.2⟩
    · rw [if_pos (by omega)]
      exact Or.inl ⟨rfl, Or.inl (by simp)⟩
  · split
    · subst_vars
      exact Or.inr ⟨by omega, rfl, by simp, p1⟩
    split
    · subst_vars
      exact Or.inr ⟨by omega, rfl, by simp, d1⟩
    · rw [if_neg (by omega)]
      exact Or.inl ⟨rfl, Or.inl (by simp)⟩
  · split
    · exact Or.inr ⟨by omega, rfl, by simp, z0⟩
    · exact Or.inl ⟨rfl, Or.inl (by simp)⟩
  · split
    · exact Or.inr ⟨by omega, rfl, by simp, z1⟩
    · exact Or.inl ⟨rfl, Or.inl (by simp)⟩
  · rw [if_neg (show ¬ x = 27 by omega)]
    split
    · rename_i hc
      rw [if_neg (by omega), if_neg (by omega)]
      exact Or.inr ⟨by omega, rfl, by simp; omega, z1⟩
    · split
      · exact Or.inl ⟨rfl, Or.inl (by simp)⟩
      · rw [if_pos (by omega)]
        exact Or.inl ⟨rfl, Or.inl (by simp)⟩

theorem hf_low {a b : Int} {s : St} (hb0 : 0 ≤ b) (hb1 : b ≤ 255) (h : goes 5 a s) : hit 5 a b s ∨ fit 5 a b s := by
  have h : ∃ h : Int, (h = 0 ∨ 55296 ≤ h) ∧ ((a = (if h = 0 then 0 else 2) ∧ atS s [] h 0) ∨ (a = (if h = 0 then 1 else 3) ∧ ∃ x, 0 ≤ x ∧ x ≤ 255 ∧ atS s [x] h 0)) := h
  have hx : ∀ a, 0 ≤ a → a < 9 → autoF 5 a b = lowF a b := by
    intro a h1 h2
    unfold autoF
    rw [if_neg (by omega)]
    rfl
  have ho : ∀ s, oneS 5 s b = pairsS s b true := fun _ => rfl
  have gn : ∀ h, (h = 0 ∨ 55296 ≤ h) → goes 5 (if h = 0 then 0 else 2) (St.mk 0 0 0 0 [] h 0) := fun h hh => ⟨h, hh, Or.inl ⟨rfl, rfl⟩⟩
  have gk : ∀ h x, (h = 0 ∨ 55296 ≤ h) → 0 ≤ x → x ≤ 255 → goes 5 (if h = 0 then 1 else 3) (St.mk 0 0 0 0 [x] h 0) := fun h x hh h1 h2 => ⟨h, hh, Or.inr ⟨rfl, x, h1, h2, rfl⟩⟩
  unfold hit fit
  rw [ho]
  obtain ⟨q, hh, ⟨rfl, rfl⟩ | ⟨rfl, x, hx0, hx1, rfl⟩⟩ := h
  · right
    by_cases h0 : q = 0
    · have := gk q b hh hb0 hb1
      subst h0
      rw [hx _ (by simp) (by simp)]
      exact ⟨by simp [lowF], rfl, by simp [pairsS], this⟩
    · have := gk q b hh hb0 hb1
      rw [if_neg h0] at this ⊢
      rw [hx _ (by omega) (by omega)]
      exact ⟨by simp [lowF], rfl, by simp [pairsS], by simpa [lowF, pairsS] using this⟩
  · by_cases h0 : q = 0
    · subst h0
      rw [if_pos rfl, hx _ (by omega) (by omega)]
      simp only [pairsS, ne_eq, not_true_eq_false, false_and, if_true, if_false]
      unfold lowF
      simp only [Int.reduceEq, if_true, if_false]
      by_cases c1 : 216 ≤ b ∧ b ≤ 219
      · right
        rw [if_pos c1, if_pos (show 55296 ≤ b * 256 + x ∧ b * 256 + x ≤ 56319 by omega)]
        have := gn (b * 256 + x) (by omega)
        rw [if_neg (by omega)] at this
        exact ⟨by omega, rfl, by simp, this⟩
      rw [if_neg c1, if_neg (show ¬ (55296 ≤ b * 256 + x ∧ b * 256 + x ≤ 56319) by omega)]
      by_cases c2 : 220 ≤ b ∧ b ≤ 223
      · rw [if_pos c2, if_pos (show 56320 ≤ b * 256 + x ∧ b * 256 + x ≤ 57343 by omega)]
        exact Or.inl ⟨rfl, Or.inl (by simp)⟩
      · rw [if_neg c2, if_neg (show ¬ (56320 ≤ b * 256 + x ∧ b * 256 + x ≤ 57343) by omega)]
        exact Or.inr ⟨by omega, by first | rfl | trivial, by simp; omega, gn 0 (by omega)⟩
    · rw [if_neg h0, hx _ (by omega) (by omega)]
      simp only [pairsS, ne_eq, h0, not_false_eq_true, true_and, if_true]
      unfold lowF
      simp only [Int.reduceEq, if_true, if_false]
      by_cases c1 : 220 ≤ b ∧ b ≤ 223
      · rw [if_pos c1, if_pos (show 56320 ≤ b * 256 + x ∧ b * 256 + x ≤ 57343 by omega)]
        exact Or.inr ⟨by omega, by first | rfl | trivial, by simp; omega, gn 0 (by omega)⟩
      · rw [if_neg c1, if_neg (show ¬ (56320 ≤ b * 256 + x ∧ b * 256 + x ≤ 57343) by omega)]
        refine Or.inl ⟨rfl, Or.inl ?_⟩
        split
        · simp
        split <;> simp

theorem hf_high {a b : Int} {s : St} (hb0 : 0 ≤ b) (hb1 : b ≤ 255) (h : goes 6 a s) : hit 6 a b s ∨ fit 6 a b s := by
  have h : (a = 0 ∧ s = {}) ∨ (a = 1 ∧ ∃ x, 0 ≤ x ∧ x ≤ 255 ∧ (x < 216 ∨ 223 < x) ∧ atS s [x] 0 0) ∨ (a = 2 ∧ ∃ x, 216 ≤ x ∧ x ≤ 219 ∧ atS s [x] 0 0) ∨
    (∃ h : Int, 55296 ≤ h ∧ ((a = 3 ∧ atS s [] h 0) ∨ (a = 4 ∧ ∃ x, 220 ≤ x ∧ x ≤ 223 ∧ atS s [x] h 0))) := h
  have hx : ∀ a, 0 ≤ a → a < 9 → autoF 6 a b = highF a b := by
    intro a h1 h2
    unfold autoF
    rw [if_neg (by omega)]
    rfl
  have ho : ∀ s, oneS 6 s b = pairsS s b false := fun _ => rfl
  have g0 : goes 6 0 {} := Or.inl ⟨rfl, rfl⟩
  have g1 : ∀ x, 0 ≤ x → x ≤ 255 → (x < 216 ∨ 223 < x) → goes 6 1 (St.mk 0 0 0 0 [x] 0 0) := fun x h1 h2 h3 => Or.inr (Or.inl ⟨rfl, x, h1, h2, h3, rfl⟩)
  have g2 : ∀ x, 216 ≤ x → x ≤ 219 → goes 6 2 (St.mk 0 0 0 0 [x] 0 0) := fun x h1 h2 => Or.inr (Or.inr (Or.inl ⟨rfl, x, h1, h2, rfl⟩))
  have g3 : ∀ h, 55296 ≤ h → goes 6 3 (St.mk 0 0 0 0 [] h 0) := fun h hh => Or.inr (Or.inr (Or.inr ⟨h, hh, Or.inl ⟨rfl, rfl⟩⟩))
  have g4 : ∀ h x, 55296 ≤ h → 220 ≤ x → x ≤ 223 → goes 6 4 (St.mk 0 0 0 0 [x] h 0) := fun h x hh h1 h2 => Or.inr (Or.inr (Or.inr ⟨h, hh, Or.inr ⟨rfl, x, h1, h2, rfl⟩⟩))
  unfold hit fit
  rw [ho]
  rcases h with ⟨rfl, rfl⟩ | ⟨rfl, x, hx0, hx1, hx2, rfl⟩ | ⟨rfl, x, hx0, hx1, rfl⟩ | ⟨q, hh, ⟨rfl, rfl⟩ | ⟨rfl, x, hx0, hx1, rfl⟩⟩
  · rw [hx _ (by omega) (by omega)]
    simp only [pairsS]
    unfold highF
    simp only [Int.reduceEq, if_true]
    by_cases c1 : 216 ≤ b ∧ b ≤ 219
    · rw [if_pos c1]
      exact Or.inr ⟨by first | omega | trivial | exact not_false, by first | rfl | trivial, by simp, g2 b c1.1 c1.2⟩
    rw [if_neg c1]
    by_cases c2 : 220 ≤ b ∧ b ≤ 223
    · rw [if_pos c2]
      exact Or.inl ⟨rfl, Or.inr ⟨by first | rfl | trivial, rfl, b, 0, rfl, hb0, hb1, Or.inl ⟨rfl, c2.1, c2.2⟩⟩⟩
    · rw [if_neg c2]
      exact Or.inr ⟨by first | omega | trivial | exact not_false, by first | rfl | trivial, by simp, g1 b hb0 hb1 (by omega)⟩
  · rw [hx _ (by omega) (by omega)]
    simp only [pairsS]
    unfold highF
    simp only [ne_eq, not_true_eq_false, false_and, Int.reduceEq, Bool.false_eq_true, true_or, if_true, if_false]
    rw [if_neg (show ¬ (55296 ≤ x * 256 + b ∧ x * 256 + b ≤ 56319) by omega), if_neg (show ¬ (56320 ≤ x * 256 + b ∧ x * 256 + b ≤ 57343) by omega)]
    refine Or.inr ⟨by first | omega | trivial | exact not_false, by first | rfl | trivial, ?_, g0⟩
    simp only [List.nil_append, List.mem_singleton]
    omega
  · rw [hx _ (by omega) (by omega)]
    simp only [pairsS]
    unfold highF
    simp only [ne_eq, not_true_eq_false, false_and, Int.reduceEq, Bool.false_eq_true, or_self, if_true, if_false]
    rw [if_pos (show 55296 ≤ x * 256 + b ∧ x * 256 + b ≤ 56319 by omega)]
    exact Or.inr ⟨by first | omega | trivial | exact not_false, by first | rfl | trivial, by simp, g3 _ (by omega)⟩
  · rw [hx _ (by omega) (by omega)]
    simp only [pairsS]
    unfold highF
    simp only [Int.reduceEq, or_self, if_true, if_false]
    by_cases c2 : 220 ≤ b ∧ b ≤ 223
    · rw [if_pos c2]
      exact Or.inr ⟨by first | omega | trivial | exact not_false, by first | rfl | trivial, by simp, g4 q b hh c2.1 c2.2⟩
    · rw [if_neg c2]
      exact Or.inl ⟨rfl, Or.inr ⟨by first | rfl | trivial, rfl, b, q, rfl, hb0, hb1, Or.inr ⟨hh, by omega⟩⟩⟩
  · rw [hx _ (by omega) (by omega)]
    simp only [pairsS]
    unfold highF
    simp only [Int.reduceEq, Bool.false_eq_true, or_true, if_true, if_false]
    rw [if_pos (show q ≠ 0 ∧ 56320 ≤ x * 256 + b ∧ x * 256 + b ≤ 57343 by omega)]
    exact Or.inr ⟨by first | omega | trivial | exact not_false, by first | rfl | trivial, by simp; omega, g0⟩

end Go.Proofs.Ytefohnbmifblkaa
