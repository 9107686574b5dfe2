/- No byte tells more than one number, and each number that is told is Bad or a code point: of the plain decoder. Plain. -/
import Derived.Test.YtefohnbmifblkaaPlainB
namespace Go.Proofs.Ytefohnbmifblkaa

def pend (s : St) : Nat := (endS s).length

theorem pend_le (s : St) : pend s ≤ 2 := by
  unfold pend endS
  rw [List.length_append]
  split <;> split <;> simp

theorem pend_mk (n c f t : Int) (k : List Int) (h m : Int) : pend (St.mk n c f t k h m) = (if 0 < n ∨ h ≠ 0 ∨ k ≠ [] then 1 else 0) + (if k.length = 2 then 1 else 0) := by
  unfold pend endS
  rw [List.length_append]
  match k with
  | [] => simp; split <;> rfl
  | [x] => simp
  | [x, y] => simp
  | x :: y :: z :: r => simp

/-- One round tells no more than what was pending and one byte allow. -/
theorem one_pot {e : Int} {s : St} {b : Int} (h1 : 1 ≤ e) (h6 : e ≤ 6) (h : okS e s) :
    (oneS e s b).2.1.length + pend (oneS e s b).1 + (if (oneS e s b).2.2 = true then 1 else 0) ≤ pend s + 1 := by
  have he : e = 1 ∨ e = 2 ∨ e = 3 ∨ e = 4 ∨ e = 5 ∨ e = 6 := by omega
  have hg := h.1
  have z : pend {} = 0 := rfl
  rcases he with rfl | rfl | rfl | rfl | rfl | rfl
  · show (utfS s b).2.1.length + pend (utfS s b).1 + (if (utfS s b).2.2 = true then 1 else 0) ≤ pend s + 1
    rcases goodUtf_cases hg with rfl | ⟨n, c, f, t, rfl, hn, hn3, _⟩
    · unfold utfS
      rw [if_pos rfl]
      (repeat' split) <;> simp_all [pend_mk]
    · unfold utfS
      have n0 : ¬ n = 0 := by omega
      dsimp only
      rw [if_neg n0]
      have hp : 0 < n := by omega
      (repeat' split) <;> simp_all [pend_mk] <;> split <;> omega
  · show (shiftS s b).2.1.length + pend (shiftS s b).1 + (if (shiftS s b).2.2 = true then 1 else 0) ≤ pend s + 1
    obtain ⟨k, m, rfl, hm, hk⟩ := goodShift_cases hg
    rcases hk with rfl | rfl | rfl | rfl | ⟨x, rfl, rfl, hx0, hx1⟩
    all_goals
      simp only [shiftS]
      (repeat' split) <;> simp_all [pend_mk]
  · show (twinS s b).2.1.length + pend (twinS s b).1 + (if (twinS s b).2.2 = true then 1 else 0) ≤ pend s + 1
    rcases goodTwin_cases hg with rfl | ⟨x, rfl, hx0, hx1⟩
    all_goals
      simp only [twinS]
      (repeat' split) <;> simp_all [pend_mk]
  · show 1 + pend s + 0 ≤ pend s + 1
    omega
  all_goals
    first
      | show (pairsS s b true).2.1.length + pend (pairsS s b true).1 + (if (pairsS s b true).2.2 = true then 1 else 0) ≤ pend s + 1
      | show (pairsS s b false).2.1.length + pend (pairsS s b false).1 + (if (pairsS s b false).2.2 = true then 1 else 0) ≤ pend s + 1
    obtain ⟨k, hf, rfl, hk, hh⟩ := goodPairs_cases (by omega) hg
    rcases hk with rfl | ⟨x, rfl⟩
    all_goals
      simp only [pairsS]
      (repeat' split) <;> simp_all [pend_mk] <;> (try split) <;> (try omega)

theorem rounds_pot {e b : Int} (h1 : 1 ≤ e) (h6 : e ≤ 6) (hb0 : 0 ≤ b) (hb1 : b ≤ 255) : ∀ (k : Nat) (s : St) (all : List Int), okS e s →
    (rounds e b k s all).2.length + pend (rounds e b k s all).1 ≤ all.length + pend s + 1
  | 0, s, all, _ => by simp only [rounds]; omega
  | k + 1, s, all, h => by
    have hp := one_pot (b := b) h1 h6 h
    unfold rounds
    dsimp only
    split
    · rename_i ha
      rw [if_pos ha] at hp
      have := rounds_pot h1 h6 hb0 hb1 k _ (all ++ (oneS e s b).2.1) (one_ok h1 h6 hb0 hb1 h)
      rw [List.length_append] at this
      omega
    · rw [List.length_append]
      dsimp only
      omega
theorem step_pot {e b : Int} {s : St} (h1 : 1 ≤ e) (h6 : e ≤ 6) (hb0 : 0 ≤ b) (hb1 : b ≤ 255) (h : okS e s) : (stepS e s b).2.length + pend (stepS e s b).1 ≤ pend s + 1 := by
  have := rounds_pot h1 h6 hb0 hb1 3 s [] h
  show (rounds e b 3 s []).2.length + pend (rounds e b 3 s []).1 ≤ pend s + 1
  simpa using this
theorem feed_pot {e : Int} (h1 : 1 ≤ e) (h6 : e ≤ 6) : ∀ (l : List Int) (p : St × List Int), okS e p.1 → (∀ b ∈ l, 0 ≤ b ∧ b ≤ 255) →
    (l.foldl (fun p b => ((stepS e p.1 b).1, p.2 ++ (stepS e p.1 b).2)) p).2.length + pend (l.foldl (fun p b => ((stepS e p.1 b).1, p.2 ++ (stepS e p.1 b).2)) p).1 ≤ p.2.length + pend p.1 + l.length
  | [], p, _, _ => by simp
  | b :: l, p, h, hl => by
    have hb := hl b (by simp)
    have h2 := step_pot h1 h6 hb.1 hb.2 h
    have := feed_pot h1 h6 l ((stepS e p.1 b).1, p.2 ++ (stepS e p.1 b).2) (step_ok h1 h6 hb.1 hb.2 h) fun x hx => hl x (by simp [hx])
    simp only [List.foldl_cons, List.length_cons]
    simp only [List.length_append] at this
    omega
theorem whole_len {e : Int} (h1 : 1 ≤ e) (h6 : e ≤ 6) (l : List Int) (hl : ∀ b ∈ l, 0 ≤ b ∧ b ≤ 255) : (wholeS e l).length ≤ l.length := by
  have := feed_pot h1 h6 l ({}, []) (ok_init e h1 h6) hl
  have z : pend {} = 0 := rfl
  unfold wholeS
  rw [List.length_append]
  simp only [z, List.length_nil] at this
  unfold pend at this
  unfold feedS
  omega

end Go.Proofs.Ytefohnbmifblkaa
