/- Good states: what they look like, and that one round of a decoder leads from a good state to a good state. Plain. -/
import Derived.Test.YtefohnbmifblkabPlain
namespace Go.Proofs.Ytefohnbmifblkab

/-- What a good state of Utf is. -/
theorem goodUtf_cases {s : St} (h : goodS 1 s = true) : s = {} ∨ ∃ n c f t, s = St.mk n c f t [] 0 0 ∧ 1 ≤ n ∧ n ≤ 3 ∧ 0 ≤ c ∧ c ≤ 32767 ∧ 128 ≤ f ∧ t ≤ 191 ∧ (n = 2 → c ≤ 511) ∧ (n = 3 → c ≤ 7) := by
  obtain ⟨n, c, f, t, k, hf, m⟩ := s
  simp only [goodS, strays, goodUtf, Bool.and_eq_true, Bool.not_eq_true', Bool.or_eq_false_iff, Bool.or_eq_true, decide_eq_true_eq, if_true] at h
  obtain ⟨⟨hm, hh⟩, hk, h⟩ := h
  rcases h with h | h
  · exact Or.inl h
  · have hm0 : m = 0 := by
      by_cases e : m = 0
      · exact e
      · simp [e] at hm
    have hh0 : hf = 0 := by
      by_cases e : hf = 0
      · exact e
      · simp [e] at hh
    subst hk hm0 hh0
    obtain ⟨⟨⟨⟨⟨h1, h2⟩, h3⟩, h4⟩, h5⟩, h6⟩ := h
    refine Or.inr ⟨n, c, f, t, rfl, h1, h2, h3, ?_, h5, h6, ?_, ?_⟩ <;> split at h4 <;> (try split at h4) <;> omega

theorem quiet_cases {n c f t hf m : Int} {k : List Int} (h : quiet (St.mk n c f t k hf m) = true) : n = 0 ∧ c = 0 ∧ f = 0 ∧ t = 0 := by
  simp only [quiet, Bool.and_eq_true, decide_eq_true_eq] at h
  obtain ⟨⟨⟨h1, h2⟩, h3⟩, h4⟩ := h
  exact ⟨h1, h2, h3, h4⟩

/-- What a good state of Twin is. -/
theorem goodTwin_cases {s : St} (h : goodS 3 s = true) : s = {} ∨ ∃ x, s = St.mk 0 0 0 0 [x] 0 0 ∧ 129 ≤ x ∧ x ≤ 159 := by
  obtain ⟨n, c, f, t, k, hf, m⟩ := s
  simp only [goodS, strays, goodTwin, Bool.and_eq_true, Bool.not_eq_true', Bool.or_eq_false_iff] at h
  obtain ⟨⟨hm, hh⟩, h⟩ := h
  have hm0 : m = 0 := by
    by_cases e : m = 0
    · exact e
    · simp [e] at hm
  have hh0 : hf = 0 := by
    by_cases e : hf = 0
    · exact e
    · simp [e] at hh
  subst hm0 hh0
  simp at h
  obtain ⟨hq, hk⟩ := h
  obtain ⟨rfl, rfl, rfl, rfl⟩ := quiet_cases hq
  rcases hk with rfl | hk
  · exact Or.inl rfl
  · match k, hk with
    | [x], hk => simp at hk; exact Or.inr ⟨x, rfl, hk.1, hk.2⟩

/-- What a good state of Shift is. -/
theorem goodShift_cases {s : St} (h : goodS 2 s = true) : ∃ k m, s = St.mk 0 0 0 0 k 0 m ∧ (m = 0 ∨ m = 1) ∧
    (k = [] ∨ k = [27] ∨ k = [27, 40] ∨ k = [27, 36] ∨ ∃ x, k = [x] ∧ m = 1 ∧ 33 ≤ x ∧ x ≤ 126) := by
  obtain ⟨n, c, f, t, k, hf, m⟩ := s
  simp only [goodS, strays, goodShift, Bool.and_eq_true, Bool.not_eq_true', Bool.or_eq_false_iff] at h
  obtain ⟨⟨hm, hh⟩, h⟩ := h
  have hh0 : hf = 0 := by
    by_cases e : hf = 0
    · exact e
    · simp [e] at hh
  have hm0 : m = 0 ∨ m = 1 := by
    by_cases e : m = 0
    · exact Or.inl e
    · simp [e] at hm; exact Or.inr hm
  subst hh0
  simp at h
  obtain ⟨hq, hk⟩ := h
  obtain ⟨rfl, rfl, rfl, rfl⟩ := quiet_cases hq
  refine ⟨k, m, rfl, hm0, ?_⟩
  rcases hk with (((hk | hk) | hk) | hk) | hk
  · exact Or.inl hk
  · exact Or.inr (Or.inl hk)
  · exact Or.inr (Or.inr (Or.inl hk))
  · exact Or.inr (Or.inr (Or.inr (Or.inl hk)))
  · match k, hk with
    | [x], hk => simp at hk; exact Or.inr (Or.inr (Or.inr (Or.inr ⟨x, rfl, hk.1.1, hk.1.2, hk.2⟩)))

/-- What a good state of Low or High is. -/
theorem goodPairs_cases {e : Int} {s : St} (he : e = 5 ∨ e = 6) (h : goodS e s = true) : ∃ k h, s = St.mk 0 0 0 0 k h 0 ∧ (k = [] ∨ ∃ x, k = [x]) ∧ (h = 0 ∨ (55296 ≤ h ∧ h ≤ 56319)) := by
  obtain ⟨n, c, f, t, k, hf, m⟩ := s
  have h' : goodPairs (St.mk n c f t k hf m) = true ∧ strays e (St.mk n c f t k hf m) = false := by
    rcases he with rfl | rfl <;> simp [goodS] at h <;> exact ⟨h.2, h.1⟩
  obtain ⟨hp, hs⟩ := h'
  simp only [goodPairs, Bool.and_eq_true, decide_eq_true_eq] at hp
  obtain ⟨hq, hl⟩ := hp
  obtain ⟨rfl, rfl, rfl, rfl⟩ := quiet_cases hq
  simp only [strays, Bool.or_eq_false_iff, Bool.and_eq_false_iff, Bool.or_eq_false_iff, decide_eq_false_iff_not] at hs
  have hm : m = 0 := by omega
  subst hm
  refine ⟨k, hf, rfl, ?_, by omega⟩
  match k, hl with
  | [], _ => exact Or.inl rfl
  | [x], _ => exact Or.inr ⟨x, rfl⟩

/-- A good state whose kept bytes are bytes. -/
def okS (e : Int) (s : St) : Prop := goodS e s = true ∧ ∀ x ∈ s.kept, 0 ≤ x ∧ x ≤ 255

theorem ok_init (e : Int) (h1 : 1 ≤ e) (h6 : e ≤ 6) : okS e {} := by
  have he : e = 1 ∨ e = 2 ∨ e = 3 ∨ e = 4 ∨ e = 5 ∨ e = 6 := by omega
  refine ⟨?_, by simp⟩
  rcases he with rfl | rfl | rfl | rfl | rfl | rfl <;> decide

theorem goodUtf_mk (n c f t : Int) (h1 : 1 ≤ n) (h2 : n ≤ 3) (h3 : 0 ≤ c) (h4 : c < (if n = 1 then 32768 else if n = 2 then 512 else 8)) (h5 : 128 ≤ f) (h6 : t ≤ 191) :
    okS 1 (St.mk n c f t [] 0 0) := by
  refine ⟨?_, by simp⟩
  simp [goodS, strays, goodUtf, h1, h2, h3, h5, h6, h4]

theorem one_utf {s : St} {b : Int} (h : goodS 1 s = true) : okS 1 (utfS s b).1 := by
  have h0 : okS 1 {} := ok_init 1 (by omega) (by omega)
  rcases goodUtf_cases h with rfl | ⟨n, c, f, t, rfl, hn, hn3, hc, hc1, hf, ht, h2, h3⟩
  · unfold utfS
    rw [if_pos rfl]
    split
    · exact h0
    split
    · exact h0
    split
    · exact goodUtf_mk _ _ _ _ (by omega) (by omega) (by omega) (by simp; omega) (by omega) (by omega)
    split
    · exact goodUtf_mk _ _ _ _ (by omega) (by omega) (by omega) (by simp; omega) (by split <;> omega) (by split <;> omega)
    split
    · exact goodUtf_mk _ _ _ _ (by omega) (by omega) (by omega) (by simp; omega) (by split <;> omega) (by split <;> omega)
    · exact h0
  · unfold utfS
    have n0 : ¬ n = 0 := by omega
    dsimp only
    rw [if_neg n0]
    split
    · exact h0
    split
    · exact h0
    · rename_i hw h1
      have hn2 : n = 2 ∨ n = 3 := by omega
      rcases hn2 with rfl | rfl
      · exact goodUtf_mk _ _ _ _ (by omega) (by omega) (by omega) (by have := h2 rfl; simp; omega) (by omega) (by omega)
      · exact goodUtf_mk _ _ _ _ (by omega) (by omega) (by omega) (by have := h3 rfl; simp; omega) (by omega) (by omega)

theorem ok_shift (k : List Int) (m : Int) (hm : m = 0 ∨ m = 1) (hk : k = [] ∨ k = [27] ∨ k = [27, 40] ∨ k = [27, 36] ∨ ∃ x, k = [x] ∧ m = 1 ∧ 33 ≤ x ∧ x ≤ 126) : okS 2 (St.mk 0 0 0 0 k 0 m) := by
  have hs : strays 2 (St.mk 0 0 0 0 k 0 m) = false := by
    rcases hm with rfl | rfl <;> simp [strays]
  rcases hk with rfl | rfl | rfl | rfl | ⟨x, rfl, rfl, h1, h2⟩
  · exact ⟨by simp [goodS, hs, goodShift, quiet], by simp⟩
  · exact ⟨by simp [goodS, hs, goodShift, quiet], by simp⟩
  · exact ⟨by simp [goodS, hs, goodShift, quiet], by simp⟩
  · exact ⟨by simp [goodS, hs, goodShift, quiet], by simp⟩
  · exact ⟨by simp [goodS, hs, goodShift, quiet, h1, h2], by simp; omega⟩

theorem one_shift {s : St} {b : Int} (hb0 : 0 ≤ b) (hb1 : b ≤ 255) (h : goodS 2 s = true) : okS 2 (shiftS s b).1 := by
  obtain ⟨k, m, rfl, hm, hk⟩ := goodShift_cases h
  rcases hk with rfl | rfl | rfl | rfl | ⟨x, rfl, rfl, hx0, hx1⟩
  · simp only [shiftS]
    split
    · exact ok_shift _ _ hm (by simp)
    split
    · exact ok_shift _ _ hm (by simp)
    split
    · exact ok_shift _ _ (by simp) (by simp)
    split
    · exact ok_shift _ _ hm (by simp)
    · exact ok_shift _ _ hm (by right; right; right; right; exact ⟨b, rfl, by omega, by omega, by omega⟩)
  · simp only [shiftS, if_true]
    split
    · rename_i hb
      rcases hb with rfl | rfl
      · exact ok_shift _ _ hm (by simp)
      · exact ok_shift _ _ hm (by simp)
    · exact ok_shift _ _ hm (by simp)
  · simp only [shiftS]
    split
    · simp only [if_true]; exact ok_shift _ _ (by simp) (by simp)
    split
    · exact ok_shift _ _ hm (by simp)
    · exact ok_shift _ _ hm (by right; right; right; right; exact ⟨40, rfl, by omega, by omega, by omega⟩)
  · simp only [shiftS]
    split
    · exact ok_shift _ _ (by simp) (by simp)
    split
    · exact ok_shift _ _ hm (by simp)
    · exact ok_shift _ _ hm (by right; right; right; right; exact ⟨36, rfl, by omega, by omega, by omega⟩)
  · simp only [shiftS]
    rw [if_neg (by omega)]
    split
    · exact ok_shift _ _ (by simp) (by simp)
    split
    · exact ok_shift _ _ (by simp) (by simp)
    · exact ok_shift _ _ (by simp) (by simp)

theorem one_twin {s : St} {b : Int} (hb0 : 0 ≤ b) (hb1 : b ≤ 255) (h : goodS 3 s = true) : okS 3 (twinS s b).1 := by
  have h0 : okS 3 {} := ok_init 3 (by omega) (by omega)
  rcases goodTwin_cases h with rfl | ⟨x, rfl, hx0, hx1⟩
  · simp only [twinS]
    split
    · exact h0
    split
    · rename_i _ hb
      exact ⟨by simp [goodS, strays, goodTwin, quiet, hb.1, hb.2], by simp; omega⟩
    split
    · exact h0
    · exact h0
  · simp only [twinS]
    split
    · exact h0
    split
    · exact h0
    · exact h0

theorem one_pairs {e : Int} {s : St} {b : Int} (low : Bool) (he : e = 5 ∨ e = 6) (hb0 : 0 ≤ b) (hb1 : b ≤ 255) (h : okS e s) : okS e (pairsS s b low).1 := by
  obtain ⟨k, hf, rfl, hk, hh⟩ := goodPairs_cases he h.1
  have key : ∀ k' hf', (k' = [] ∨ ∃ x, k' = [x] ∧ 0 ≤ x ∧ x ≤ 255) → (hf' = 0 ∨ (55296 ≤ hf' ∧ hf' ≤ 56319)) → okS e (St.mk 0 0 0 0 k' hf' 0) := by
    intro k' hf' hk' hh'
    have hs : strays e (St.mk 0 0 0 0 k' hf' 0) = false := by
      simp only [strays, Bool.or_eq_false_iff, Bool.and_eq_false_iff, decide_eq_false_iff_not]
      omega
    rcases hk' with rfl | ⟨x, rfl, h1, h2⟩
    · rcases he with rfl | rfl <;> exact ⟨by simp [goodS, hs, goodPairs, quiet], by simp⟩
    · rcases he with rfl | rfl <;> exact ⟨by simp [goodS, hs, goodPairs, quiet], by simp; omega⟩
  rcases hk with rfl | ⟨x, rfl⟩
  · exact key _ _ (Or.inr ⟨b, rfl, hb0, hb1⟩) hh
  · simp only [pairsS]
    generalize (if low = true then b * 256 + x else x * 256 + b) = u
    split
    · exact key _ _ (Or.inl rfl) (Or.inl rfl)
    split
    · rename_i hu
      exact key _ _ (Or.inl rfl) (Or.inr hu)
    split
    · exact key _ _ (Or.inl rfl) (Or.inl rfl)
    · exact key _ _ (Or.inl rfl) (Or.inl rfl)

theorem one_ok {e : Int} {s : St} {b : Int} (h1 : 1 ≤ e) (h6 : e ≤ 6) (hb0 : 0 ≤ b) (hb1 : b ≤ 255) (h : okS e s) : okS e (oneS e s b).1 := by
  have he : e = 1 ∨ e = 2 ∨ e = 3 ∨ e = 4 ∨ e = 5 ∨ e = 6 := by omega
  rcases he with rfl | rfl | rfl | rfl | rfl | rfl
  · exact one_utf h.1
  · exact one_shift hb0 hb1 h.1
  · exact one_twin hb0 hb1 h.1
  · exact h
  · exact one_pairs _ (by omega) hb0 hb1 h
  · exact one_pairs _ (by omega) hb0 hb1 h

theorem one_len (e : Int) (s : St) (b : Int) : (oneS e s b).2.1.length ≤ 2 := by
  unfold oneS
  split
  · unfold utfS; grind
  split
  · unfold shiftS; grind
  split
  · unfold twinS; grind
  split
  · simp
  · unfold pairsS; grind

theorem rounds_ok {e b : Int} (h1 : 1 ≤ e) (h6 : e ≤ 6) (hb0 : 0 ≤ b) (hb1 : b ≤ 255) : ∀ (k : Nat) (s : St) (all : List Int), okS e s → okS e (rounds e b k s all).1
  | 0, s, all, h => h
  | k + 1, s, all, h => by
    unfold rounds
    dsimp only
    split
    · exact rounds_ok h1 h6 hb0 hb1 k _ _ (one_ok h1 h6 hb0 hb1 h)
    · exact one_ok h1 h6 hb0 hb1 h
theorem rounds_len (e b : Int) : ∀ (k : Nat) (s : St) (all : List Int), (rounds e b k s all).2.length ≤ all.length + 2 * k
  | 0, s, all => by simp [rounds]
  | k + 1, s, all => by
    have h := one_len e s b
    unfold rounds
    dsimp only
    split
    · have := rounds_len e b k (oneS e s b).1 (all ++ (oneS e s b).2.1)
      simp at this
      omega
    · simp; omega

theorem step_ok {e b : Int} {s : St} (h1 : 1 ≤ e) (h6 : e ≤ 6) (hb0 : 0 ≤ b) (hb1 : b ≤ 255) (h : okS e s) : okS e (stepS e s b).1 := rounds_ok h1 h6 hb0 hb1 3 s [] h
theorem step_len (e b : Int) (s : St) : (stepS e s b).2.length ≤ 6 := by
  have := rounds_len e b 3 s []
  show (rounds e b 3 s []).2.length ≤ 6
  simpa using this

end Go.Proofs.Ytefohnbmifblkab
