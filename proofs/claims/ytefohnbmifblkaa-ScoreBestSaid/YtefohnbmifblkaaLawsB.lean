/- One byte of the automaton and of the decoder beside one another. Plain. -/
import Derived.Test.YtefohnbmifblkaaLaws
namespace Go.Proofs.Ytefohnbmifblkaa

theorem hf_tail {a b n c lo hi nx : Int} (h1 : autoF 1 a b = if lo ≤ b ∧ b ≤ hi then nx else 9) (h2 : nx ≠ 9) (hn : n ≠ 0) (hn1 : n ≠ 1) (h3 : goes 1 nx (St.mk (n - 1) (c * 64 + b % 64) 128 191 [] 0 0)) :
    hit 1 a b (St.mk n c lo hi [] 0 0) ∨ fit 1 a b (St.mk n c lo hi [] 0 0) := by
  have ho : oneS 1 (St.mk n c lo hi [] 0 0) b = utfS (St.mk n c lo hi [] 0 0) b := rfl
  unfold hit fit
  rw [ho, h1]
  unfold utfS
  dsimp only
  rw [if_neg hn]
  by_cases hc : b < lo ∨ hi < b
  · rw [if_pos hc, if_neg (by omega)]
    exact Or.inl ⟨rfl, Or.inl (by simp)⟩
  · rw [if_neg hc, if_neg hn1, if_pos (by omega)]
    exact Or.inr ⟨h2, rfl, by simp, h3⟩

theorem goes_one (c : Int) : goes 1 1 (St.mk 1 c 128 191 [] 0 0) := by
  unfold goes
  rw [if_pos rfl]
  exact Or.inr (Or.inl ⟨_, _, _, rfl, rfl, rfl, rfl⟩)
theorem goes_two (c : Int) : goes 1 2 (St.mk 2 c 128 191 [] 0 0) := by
  unfold goes
  rw [if_pos rfl]
  exact Or.inr (Or.inr (Or.inl ⟨_, _, _, rfl, Or.inl ⟨rfl, rfl, rfl⟩⟩))
theorem goes_three (c : Int) : goes 1 3 (St.mk 3 c 128 191 [] 0 0) := by
  unfold goes
  rw [if_pos rfl]
  exact Or.inr (Or.inr (Or.inr ⟨_, _, _, rfl, Or.inl ⟨rfl, rfl, rfl⟩⟩))

theorem autoF_utf {a b : Int} (h1 : 0 ≤ a) (h2 : a < 9) (h3 : 0 ≤ b) (h4 : b ≤ 255) : autoF 1 a b = utfF a b := by
  unfold autoF
  rw [if_neg (by omega), if_pos rfl]

theorem hf_first {b : Int} (hb0 : 0 ≤ b) (hb1 : b ≤ 255) : hit 1 0 b {} ∨ fit 1 0 b {} := by
  have z : goes 1 0 {} := by unfold goes; rw [if_pos rfl]; exact Or.inl ⟨rfl, rfl⟩
  have hsp : b = 224 ∨ b = 237 ∨ b = 240 ∨ b = 244 ∨ (b ≠ 224 ∧ b ≠ 237 ∧ b ≠ 240 ∧ b ≠ 244) := by omega
  rcases hsp with rfl | rfl | rfl | rfl | ⟨n1, n2, n3, n4⟩
  · exact Or.inr ⟨by decide, by decide, by decide, Or.inr (Or.inr (Or.inl ⟨0, 160, 191, rfl, Or.inr (Or.inl ⟨rfl, rfl, rfl⟩)⟩))⟩
  · exact Or.inr ⟨by decide, by decide, by decide, Or.inr (Or.inr (Or.inl ⟨13, 128, 159, rfl, Or.inr (Or.inr ⟨rfl, rfl, rfl⟩)⟩))⟩
  · exact Or.inr ⟨by decide, by decide, by decide, Or.inr (Or.inr (Or.inr ⟨0, 144, 191, rfl, Or.inr (Or.inl ⟨rfl, rfl, rfl⟩)⟩))⟩
  · exact Or.inr ⟨by decide, by decide, by decide, Or.inr (Or.inr (Or.inr ⟨4, 128, 143, rfl, Or.inr (Or.inr ⟨rfl, rfl, rfl⟩)⟩))⟩
  unfold hit fit
  rw [show oneS 1 {} b = utfS {} b from rfl, autoF_utf (by omega) (by omega) hb0 hb1]
  unfold utfF utfS
  rw [if_pos rfl, if_pos rfl]
  by_cases c1 : b < 128
  · rw [if_pos c1, if_pos c1]
    exact Or.inr ⟨by omega, rfl, by simp; omega, z⟩
  rw [if_neg c1, if_neg c1]
  by_cases c2 : b < 194
  · rw [if_pos c2, if_pos c2]
    exact Or.inl ⟨rfl, Or.inl (by simp)⟩
  rw [if_neg c2, if_neg c2]
  by_cases c3 : b ≤ 223
  · rw [if_pos c3, if_pos c3]
    exact Or.inr ⟨by omega, rfl, by simp, goes_one _⟩
  rw [if_neg c3, if_neg c3, if_neg n1, if_neg n2, if_neg n1, if_neg n2]
  by_cases c4 : b ≤ 239
  · rw [if_pos c4, if_pos c4]
    exact Or.inr ⟨by omega, rfl, by simp, goes_two _⟩
  rw [if_neg c4, if_neg c4, if_neg n3, if_neg n4, if_neg n3, if_neg n4]
  by_cases c5 : b ≤ 243
  · rw [if_pos c5, if_pos (by omega)]
    exact Or.inr ⟨by omega, rfl, by simp, goes_three _⟩
  · rw [if_neg c5, if_neg (by omega)]
    exact Or.inl ⟨rfl, Or.inl (by simp)⟩

theorem hf_utf {a b : Int} {s : St} (hb0 : 0 ≤ b) (hb1 : b ≤ 255) (hok : okS 1 s) (h : goes 1 a s) : hit 1 a b s ∨ fit 1 a b s := by
  have z : goes 1 0 {} := by unfold goes; rw [if_pos rfl]; exact Or.inl ⟨rfl, rfl⟩
  unfold goes at h
  rw [if_pos rfl] at h
  rcases h with ⟨rfl, rfl⟩ | ⟨c, f, t, rfl, ha⟩ | ⟨c, f, t, rfl, ha⟩ | ⟨c, f, t, rfl, ha⟩
  · exact hf_first hb0 hb1
  · obtain ⟨rfl, rfl, rfl⟩ := ha
    unfold hit fit
    rw [show oneS 1 (St.mk 1 c 128 191 [] 0 0) b = utfS (St.mk 1 c 128 191 [] 0 0) b from rfl, autoF_utf (by omega) (by omega) hb0 hb1]
    unfold utfF utfS
    dsimp only
    rw [if_neg (show ¬ (1 : Int) = 0 by omega), if_neg (show ¬ (1 : Int) = 0 by omega), if_pos (by omega)]
    by_cases c1 : b < 128 ∨ 191 < b
    · rw [if_pos c1, if_neg (by omega)]
      exact Or.inl ⟨rfl, Or.inl (by simp)⟩
    · rw [if_neg c1, if_pos (by omega), if_pos rfl]
      refine Or.inr ⟨by omega, rfl, ?_, z⟩
      rcases goodUtf_cases hok.1 with hs | ⟨n, c', f', t', hs, h1, h2, h3, _⟩
      · cases hs
      · cases hs
        simp; omega
  · rcases ha with ⟨rfl, rfl, rfl⟩ | ⟨rfl, rfl, rfl⟩ | ⟨rfl, rfl, rfl⟩
    all_goals exact hf_tail (nx := 1) (by rw [autoF_utf (by omega) (by omega) hb0 hb1]; rfl) (by omega) (by omega) (by omega) (goes_one _)
  · rcases ha with ⟨rfl, rfl, rfl⟩ | ⟨rfl, rfl, rfl⟩ | ⟨rfl, rfl, rfl⟩
    all_goals exact hf_tail (nx := 2) (by rw [autoF_utf (by omega) (by omega) hb0 hb1]; rfl) (by omega) (by omega) (by omega) (goes_two _)

theorem hf_latin {a b : Int} {s : St} (hb0 : 0 ≤ b) (hb1 : b ≤ 255) (h : goes 4 a s) : hit 4 a b s ∨ fit 4 a b s := by
  have h : a = 0 ∧ s = {} := h
  obtain ⟨rfl, rfl⟩ := h
  have hx : autoF 4 0 b = latinF b := by
    unfold autoF
    rw [if_neg (by omega)]
    rfl
  have ho : oneS 4 {} b = ({}, [latinS b], false) := rfl
  unfold hit fit
  rw [hx, ho]
  unfold latinF latinS
  split
  · exact Or.inl ⟨rfl, Or.inl (by simp)⟩
  · exact Or.inr ⟨by omega, rfl, by simp; split <;> omega, (⟨rfl, rfl⟩ : (0 : Int) = 0 ∧ ({} : St) = {})⟩

theorem hf_twin {a b : Int} {s : St} (hb0 : 0 ≤ b) (hb1 : b ≤ 255) (h : goes 3 a s) : hit 3 a b s ∨ fit 3 a b s := by
  have h : (a = 0 ∧ s = {}) ∨ (a = 1 ∧ ∃ x, 129 ≤ x ∧ x ≤ 159 ∧ atS s [x] 0 0) := h
  have hx : ∀ a, 0 ≤ a → a < 9 → autoF 3 a b = twinF a b := by
    intro a h1 h2
    unfold autoF
    rw [if_neg (by omega)]
    rfl
  have ho : ∀ s, oneS 3 s b = twinS s b := fun _ => rfl
  have z : goes 3 0 {} := Or.inl ⟨rfl, rfl⟩
  have z1 : ∀ x, 129 ≤ x → x ≤ 159 → goes 3 1 (St.mk 0 0 0 0 [x] 0 0) := fun x h1 h2 => Or.inr ⟨rfl, x, h1, h2, rfl⟩
  unfold hit fit
  rw [ho]
  rcases h with ⟨rfl, rfl⟩ | ⟨rfl, x, hx0, hx1, rfl⟩
  · rw [hx 0 (by omega) (by omega)]
    unfold twinF
    simp only [twinS, if_true]
    split
    · exact Or.inr ⟨by omega, rfl, by simp; omega, z⟩
    split
    · rename_i hc
      exact Or.inr ⟨by omega, rfl, by simp, z1 b hc.1 hc.2⟩
    split
    · exact Or.inr ⟨by omega, rfl, by simp; omega, z⟩
    · exact Or.inl ⟨rfl, Or.inl (by simp)⟩
  · rw [hx 1 (by omega) (by omega)]
    unfold twinF
    simp only [twinS, Int.reduceEq, if_true, if_false]
    split
    · exact Or.inr ⟨by omega, rfl, by simp; omega, z⟩
    split
    · exact Or.inr ⟨by omega, rfl, by simp; omega, z⟩
    · exact Or.inl ⟨rfl, Or.inl (by simp)⟩

end Go.Proofs.Ytefohnbmifblkaa
