/- What is accepted is decoded without Bad, and the other way round. Plain. -/
import Derived.Test.YtefohnbmifblkaaLawsC
namespace Go.Proofs.Ytefohnbmifblkaa

theorem doom_on {e b : Int} {s : St} (hb0 : 0 ≤ b) (hb1 : b ≤ 255) (h : doomed e s) : -1 ∈ (oneS e s b).2.1 := by
  obtain ⟨rfl, x, q, rfl, hx0, hx1, h⟩ := h
  have ho : oneS 6 (St.mk 0 0 0 0 [x] q 0) b = pairsS (St.mk 0 0 0 0 [x] q 0) b false := rfl
  rw [ho]
  simp only [pairsS, Bool.false_eq_true, if_false]
  rcases h with ⟨rfl, h1, h2⟩ | ⟨hh, h1⟩
  · simp only [ne_eq, not_true_eq_false, false_and, if_false]
    rw [if_neg (by omega), if_pos (by omega)]
    simp
  · rw [if_neg (by omega)]
    have h0 : q ≠ 0 := by omega
    rw [if_pos h0]
    split
    · simp
    split <;> simp

theorem hf_any {e a b : Int} {s : St} (h1 : 1 ≤ e) (h6 : e ≤ 6) (hb0 : 0 ≤ b) (hb1 : b ≤ 255) (hok : okS e s) (h : goes e a s) : hit e a b s ∨ fit e a b s := by
  have he : e = 1 ∨ e = 2 ∨ e = 3 ∨ e = 4 ∨ e = 5 ∨ e = 6 := by omega
  rcases he with rfl | rfl | rfl | rfl | rfl | rfl
  · exact hf_utf hb0 hb1 hok h
  · exact hf_shift hb0 hb1 h
  · exact hf_twin hb0 hb1 h
  · exact hf_latin hb0 hb1 h
  · exact hf_low hb0 hb1 h
  · exact hf_high hb0 hb1 h

/-- How the automaton and the decoder stand to one another behind some bytes. -/
def both (e a : Int) (s : St) (out : List Int) : Prop := okS e s ∧ ((a = 9 ∧ (-1 ∈ out ∨ doomed e s)) ∨ (a ≠ 9 ∧ -1 ∉ out ∧ goes e a s))

theorem rounds_keep {e b x : Int} : ∀ (k : Nat) (s : St) (all : List Int), x ∈ all → x ∈ (rounds e b k s all).2
  | 0, _, _, h => h
  | k + 1, s, all, h => by
    unfold rounds
    dsimp only
    split
    · exact rounds_keep k _ _ (List.mem_append.2 (Or.inl h))
    · exact List.mem_append.2 (Or.inl h)
theorem step_first {e b x : Int} {s : St} (h : x ∈ (oneS e s b).2.1) : x ∈ (stepS e s b).2 := by
  unfold stepS rounds
  dsimp only
  split
  · exact rounds_keep 2 _ _ (by simpa using h)
  · simpa using h

theorem both_step {e a b : Int} {s : St} {out : List Int} (h1 : 1 ≤ e) (h6 : e ≤ 6) (hb0 : 0 ≤ b) (hb1 : b ≤ 255) (h : both e a s out) :
    both e (autoF e a b) (stepS e s b).1 (out ++ (stepS e s b).2) := by
  obtain ⟨hok, h⟩ := h
  refine ⟨step_ok h1 h6 hb0 hb1 hok, ?_⟩
  rcases h with ⟨rfl, h⟩ | ⟨ha, hn, hg⟩
  · left
    refine ⟨by unfold autoF; rw [if_pos (by omega)], Or.inl ?_⟩
    rcases h with h | h
    · exact List.mem_append.2 (Or.inl h)
    · exact List.mem_append.2 (Or.inr (step_first (doom_on hb0 hb1 h)))
  · rcases hf_any h1 h6 hb0 hb1 hok hg with ⟨h9, h | ⟨hf, hd⟩⟩ | ⟨h9, hf, hm, hg'⟩
    · exact Or.inl ⟨h9, Or.inl (List.mem_append.2 (Or.inr (step_first h)))⟩
    · rw [step_once hf]
      exact Or.inl ⟨h9, Or.inr hd⟩
    · rw [step_once hf]
      exact Or.inr ⟨h9, fun h => (List.mem_append.1 h).elim hn hm, hg'⟩
theorem both_all {e : Int} (h1 : 1 ≤ e) (h6 : e ≤ 6) : ∀ (l : List Int) (a : Int) (s : St) (out : List Int), (∀ b ∈ l, 0 ≤ b ∧ b ≤ 255) → both e a s out →
    both e (autoAll e a l) (feedS e s l).1 (out ++ (feedS e s l).2)
  | [], a, s, out, _, h => by simpa [autoAll, feed_nil] using h
  | b :: l, a, s, out, hl, h => by
    have hb := hl b (by simp)
    have := both_all h1 h6 l _ _ _ (fun x hx => hl x (by simp [hx])) (both_step h1 h6 hb.1 hb.2 h)
    rw [feed_cons]
    simpa [autoAll] using this

theorem ends_goes {e a : Int} {s : St} (h1 : 1 ≤ e) (h6 : e ≤ 6) (h : goes e a s) : endsF e a = decide (-1 ∉ endS s) := by
  have he : e = 1 ∨ e = 2 ∨ e = 3 ∨ e = 4 ∨ e = 5 ∨ e = 6 := by omega
  rcases he with rfl | rfl | rfl | rfl | rfl | rfl
  · unfold goes at h
    rw [if_pos rfl] at h
    rcases h with ⟨rfl, rfl⟩ | ⟨c, f, t, rfl, ha⟩ | ⟨c, f, t, rfl, ha⟩ | ⟨c, f, t, rfl, ha⟩
    · rfl
    · obtain ⟨rfl, _, _⟩ := ha
      simp [endsF, endS]
    · rcases ha with ⟨rfl, _, _⟩ | ⟨rfl, _, _⟩ | ⟨rfl, _, _⟩ <;> simp [endsF, endS]
    · rcases ha with ⟨rfl, _, _⟩ | ⟨rfl, _, _⟩ | ⟨rfl, _, _⟩ <;> simp [endsF, endS]
  · have h : (∃ m, (m = 0 ∨ m = 1) ∧ ((a = m ∧ atS s [] 0 m) ∨ (a = 2 + 3 * m ∧ atS s [27] 0 m) ∨ (a = 3 + 3 * m ∧ atS s [27, 40] 0 m) ∨ (a = 4 + 3 * m ∧ atS s [27, 36] 0 m))) ∨
      (a = 8 ∧ ∃ x, 33 ≤ x ∧ x ≤ 126 ∧ atS s [x] 0 1) := h
    rcases h with ⟨m, rfl | rfl, ⟨rfl, rfl⟩ | ⟨rfl, rfl⟩ | ⟨rfl, rfl⟩ | ⟨rfl, rfl⟩⟩ | ⟨rfl, x, hx0, hx1, rfl⟩
    all_goals simp [endsF, endS]
  · have h : (a = 0 ∧ s = {}) ∨ (a = 1 ∧ ∃ x, 129 ≤ x ∧ x ≤ 159 ∧ atS s [x] 0 0) := h
    rcases h with ⟨rfl, rfl⟩ | ⟨rfl, x, hx0, hx1, rfl⟩ <;> simp [endsF, endS]
  · have h : a = 0 ∧ s = {} := h
    obtain ⟨rfl, rfl⟩ := h
    rfl
  · have h : ∃ h, (h = 0 ∨ 55296 ≤ h) ∧ ((a = (if h = 0 then 0 else 2) ∧ atS s [] h 0) ∨ (a = (if h = 0 then 1 else 3) ∧ ∃ x, 0 ≤ x ∧ x ≤ 255 ∧ atS s [x] h 0)) := h
    obtain ⟨q, hh, ⟨rfl, rfl⟩ | ⟨rfl, x, hx0, hx1, rfl⟩⟩ := h <;> by_cases h0 : q = 0 <;> simp [endsF, endS, h0]
  · have h : (a = 0 ∧ s = {}) ∨ (a = 1 ∧ ∃ x, 0 ≤ x ∧ x ≤ 255 ∧ (x < 216 ∨ 223 < x) ∧ atS s [x] 0 0) ∨ (a = 2 ∧ ∃ x, 216 ≤ x ∧ x ≤ 219 ∧ atS s [x] 0 0) ∨
      (∃ h, 55296 ≤ h ∧ ((a = 3 ∧ atS s [] h 0) ∨ (a = 4 ∧ ∃ x, 220 ≤ x ∧ x ≤ 223 ∧ atS s [x] h 0))) := h
    rcases h with ⟨rfl, rfl⟩ | ⟨rfl, x, hx0, hx1, hx2, rfl⟩ | ⟨rfl, x, hx0, hx1, rfl⟩ | ⟨q, hh, ⟨rfl, rfl⟩ | ⟨rfl, x, hx0, hx1, rfl⟩⟩
    · rfl
    · simp [endsF, endS]
    · simp [endsF, endS]
    · have h0 : q ≠ 0 := by omega
      simp [endsF, endS, h0]
    · simp [endsF, endS]

theorem goes_init (e : Int) (h1 : 1 ≤ e) (h6 : e ≤ 6) : goes e 0 {} := by
  have he : e = 1 ∨ e = 2 ∨ e = 3 ∨ e = 4 ∨ e = 5 ∨ e = 6 := by omega
  rcases he with rfl | rfl | rfl | rfl | rfl | rfl
  · exact Or.inl ⟨rfl, rfl⟩
  · exact Or.inl ⟨0, Or.inl rfl, Or.inl ⟨rfl, rfl⟩⟩
  · exact Or.inl ⟨rfl, rfl⟩
  · exact (⟨rfl, rfl⟩ : (0 : Int) = 0 ∧ ({} : St) = {})
  · exact ⟨0, Or.inl rfl, Or.inl ⟨rfl, rfl⟩⟩
  · exact Or.inl ⟨rfl, rfl⟩

/-- What is accepted is decoded without anything wrong, and the other way round. -/
theorem accepts_whole {e : Int} (h1 : 1 ≤ e) (h6 : e ≤ 6) (l : List Int) (hl : ∀ b ∈ l, 0 ≤ b ∧ b ≤ 255) : acceptsF e l = decide (-1 ∉ wholeS e l) := by
  have h := both_all h1 h6 l 0 {} [] hl ⟨ok_init e h1 h6, Or.inr ⟨by omega, by simp, goes_init e h1 h6⟩⟩
  rw [List.nil_append] at h
  unfold acceptsF wholeS
  simp only [h1, h6, decide_true, Bool.true_and]
  obtain ⟨hok, h⟩ := h
  rcases h with ⟨ha, h⟩ | ⟨ha, hn, hg⟩
  · rw [ha]
    have : -1 ∈ (feedS e {} l).2 ++ endS (feedS e {} l).1 := by
      rcases h with h | ⟨_, x, h, hs, _⟩
      · exact List.mem_append.2 (Or.inl h)
      · refine List.mem_append.2 (Or.inr ?_)
        rw [hs]
        simp [endS]
    simp [endsF, this]
  · rw [ends_goes h1 h6 hg]
    simp [List.mem_append, hn]
theorem accepts_kind {e : Int} (h : e < 1 ∨ 6 < e) (l : List Int) : acceptsF e l = false := by
  unfold acceptsF
  rcases h with h | h
  · simp; omega
  · simp; omega

end Go.Proofs.Ytefohnbmifblkaa
