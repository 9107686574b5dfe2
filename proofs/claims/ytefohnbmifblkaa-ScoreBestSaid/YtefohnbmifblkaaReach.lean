/- The states of Utf that bytes lead to, and that what is told is Bad or a code point. Plain. -/
import Derived.Test.YtefohnbmifblkaaPlainB
namespace Go.Proofs.Ytefohnbmifblkaa

/-- A state of Utf that bytes lead to. -/
def reachU (s : St) : Prop :=
  s = {} ∨ (s.kept = [] ∧ s.half = 0 ∧ s.mode = 0 ∧
    ((s.need = 1 ∧ s.frm = 128 ∧ s.upto = 191 ∧ 2 ≤ s.code ∧ s.code ≤ 17407 ∧ (s.code < 864 ∨ 895 < s.code))
    ∨ (s.need = 2 ∧ ((16 ≤ s.code ∧ s.code ≤ 271 ∧ s.frm = 128 ∧ s.upto = 191) ∨ (s.code = 0 ∧ s.frm = 160 ∧ s.upto = 191) ∨ (s.code = 13 ∧ s.frm = 128 ∧ s.upto = 159)
        ∨ (1 ≤ s.code ∧ s.code ≤ 15 ∧ s.code ≠ 13 ∧ s.frm = 128 ∧ s.upto = 191)))
    ∨ (s.need = 3 ∧ ((s.code = 0 ∧ s.frm = 144 ∧ s.upto = 191) ∨ (1 ≤ s.code ∧ s.code ≤ 3 ∧ s.frm = 128 ∧ s.upto = 191) ∨ (s.code = 4 ∧ s.frm = 128 ∧ s.upto = 143)))))

def numOk (x : Int) : Prop := -1 ≤ x ∧ x ≤ 1114111 ∧ (x < 55296 ∨ 57343 < x)

theorem reach_utf {s : St} {b : Int} (hb0 : 0 ≤ b) (hb1 : b ≤ 255) (h : reachU s) : reachU (utfS s b).1 ∧ ∀ x ∈ (utfS s b).2.1, numOk x := by
  have z : reachU {} := Or.inl rfl
  rcases h with rfl | ⟨hk, hh, hm, h⟩
  · unfold utfS
    rw [if_pos rfl]
    split
    · exact ⟨z, by simp [numOk]; omega⟩
    split
    · exact ⟨z, by simp [numOk]⟩
    split
    · exact ⟨Or.inr (by simp; omega), by simp⟩
    split
    · refine ⟨Or.inr ?_, by simp⟩
      dsimp only
      refine ⟨rfl, rfl, rfl, Or.inr (Or.inl ⟨rfl, ?_⟩)⟩
      split <;> split <;> omega
    split
    · refine ⟨Or.inr ?_, by simp⟩
      dsimp only
      refine ⟨rfl, rfl, rfl, Or.inr (Or.inr ⟨rfl, ?_⟩)⟩
      split <;> split <;> omega
    · exact ⟨z, by simp [numOk]⟩
  · obtain ⟨n, c, f, t, k, hf, m⟩ := s
    dsimp only at hk hh hm h
    subst hk hh hm
    have n0 : ¬ n = 0 := by omega
    unfold utfS
    dsimp only
    rw [if_neg n0]
    split
    · exact ⟨z, by simp [numOk]⟩
    split
    · refine ⟨z, ?_⟩
      intro x hx
      simp only [List.mem_singleton] at hx
      subst hx
      unfold numOk
      omega
    · refine ⟨Or.inr ?_, by simp⟩
      dsimp only
      refine ⟨rfl, rfl, rfl, ?_⟩
      omega

theorem num_shift {s : St} {b : Int} (hb0 : 0 ≤ b) (hb1 : b ≤ 255) (h : goodS 2 s = true) : ∀ x ∈ (shiftS s b).2.1, numOk x := by
  obtain ⟨k, m, rfl, hm, hk⟩ := goodShift_cases h
  rcases hk with rfl | rfl | rfl | rfl | ⟨x, rfl, rfl, hx0, hx1⟩
  all_goals
    simp only [shiftS]
    (repeat' split) <;> simp_all [numOk] <;> omega
theorem num_twin {s : St} {b : Int} (hb0 : 0 ≤ b) (hb1 : b ≤ 255) (h : goodS 3 s = true) : ∀ x ∈ (twinS s b).2.1, numOk x := by
  rcases goodTwin_cases h with rfl | ⟨x, rfl, hx0, hx1⟩
  all_goals
    simp only [twinS]
    (repeat' split) <;> simp_all [numOk] <;> omega
theorem num_latin {b : Int} (hb0 : 0 ≤ b) (hb1 : b ≤ 255) : numOk (latinS b) := by
  unfold latinS numOk
  (repeat' split) <;> omega
theorem num_pairs {e : Int} {s : St} {b : Int} (low : Bool) (he : e = 5 ∨ e = 6) (hb0 : 0 ≤ b) (hb1 : b ≤ 255) (h : okS e s) : ∀ x ∈ (pairsS s b low).2.1, numOk x := by
  obtain ⟨k, hf, rfl, hk, hh⟩ := goodPairs_cases he h.1
  rcases hk with rfl | ⟨x, rfl⟩
  · simp [pairsS]
  · have hx := h.2 x (by simp)
    simp only [pairsS]
    have hu : 0 ≤ (if low = true then b * 256 + x else x * 256 + b) ∧ (if low = true then b * 256 + x else x * 256 + b) ≤ 65535 := by split <;> omega
    generalize (if low = true then b * 256 + x else x * 256 + b) = u at *
    intro y hy
    unfold numOk
    split at hy
    · simp at hy; omega
    split at hy
    · split at hy <;> simp at hy <;> omega
    split at hy
    · split at hy <;> simp at hy <;> omega
    · split at hy <;> simp at hy <;> omega

/-- A state that bytes lead to. -/
def reach (e : Int) (s : St) : Prop := okS e s ∧ (e = 1 → reachU s)
theorem reach_init (e : Int) (h1 : 1 ≤ e) (h6 : e ≤ 6) : reach e {} := ⟨ok_init e h1 h6, fun _ => Or.inl rfl⟩
theorem num_one {e : Int} {s : St} {b : Int} (h1 : 1 ≤ e) (h6 : e ≤ 6) (hb0 : 0 ≤ b) (hb1 : b ≤ 255) (h : reach e s) : reach e (oneS e s b).1 ∧ ∀ x ∈ (oneS e s b).2.1, numOk x := by
  refine ⟨⟨one_ok h1 h6 hb0 hb1 h.1, ?_⟩, ?_⟩
  · rintro rfl
    exact (reach_utf hb0 hb1 (h.2 rfl)).1
  · have he : e = 1 ∨ e = 2 ∨ e = 3 ∨ e = 4 ∨ e = 5 ∨ e = 6 := by omega
    rcases he with rfl | rfl | rfl | rfl | rfl | rfl
    · exact (reach_utf hb0 hb1 (h.2 rfl)).2
    · exact num_shift hb0 hb1 h.1.1
    · exact num_twin hb0 hb1 h.1.1
    · intro x hx
      have : x ∈ [latinS b] := hx
      simp only [List.mem_singleton] at this
      subst this
      exact num_latin hb0 hb1
    · exact num_pairs true (by omega) hb0 hb1 h.1
    · exact num_pairs false (by omega) hb0 hb1 h.1
theorem num_rounds {e b : Int} (h1 : 1 ≤ e) (h6 : e ≤ 6) (hb0 : 0 ≤ b) (hb1 : b ≤ 255) : ∀ (k : Nat) (s : St) (all : List Int), reach e s → (∀ x ∈ all, numOk x) →
    reach e (rounds e b k s all).1 ∧ ∀ x ∈ (rounds e b k s all).2, numOk x
  | 0, s, all, h, ha => ⟨h, ha⟩
  | k + 1, s, all, h, ha => by
    have hp := num_one h1 h6 hb0 hb1 h
    have hap : ∀ x ∈ all ++ (oneS e s b).2.1, numOk x := fun x hx => (List.mem_append.1 hx).elim (ha x) (hp.2 x)
    unfold rounds
    dsimp only
    split
    · exact num_rounds h1 h6 hb0 hb1 k _ _ hp.1 hap
    · exact ⟨hp.1, hap⟩
theorem num_feed {e : Int} (h1 : 1 ≤ e) (h6 : e ≤ 6) : ∀ (l : List Int) (p : St × List Int), reach e p.1 → (∀ x ∈ p.2, numOk x) → (∀ b ∈ l, 0 ≤ b ∧ b ≤ 255) →
    reach e (l.foldl (fun p b => ((stepS e p.1 b).1, p.2 ++ (stepS e p.1 b).2)) p).1 ∧ ∀ x ∈ (l.foldl (fun p b => ((stepS e p.1 b).1, p.2 ++ (stepS e p.1 b).2)) p).2, numOk x
  | [], p, h, ha, _ => ⟨h, ha⟩
  | b :: l, p, h, ha, hl => by
    have hb := hl b (by simp)
    have hs : reach e (stepS e p.1 b).1 ∧ ∀ x ∈ (stepS e p.1 b).2, numOk x := num_rounds h1 h6 hb.1 hb.2 3 p.1 [] h (by simp)
    exact num_feed h1 h6 l _ hs.1 (fun x hx => (List.mem_append.1 hx).elim (ha x) (hs.2 x)) fun x hx => hl x (by simp [hx])

end Go.Proofs.Ytefohnbmifblkaa
