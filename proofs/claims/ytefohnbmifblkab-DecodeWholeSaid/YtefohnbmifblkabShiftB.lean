/- One byte of Shift, for every good state: the ways of the text Shift, joined. -/
import Derived.Test.YtefohnbmifblkabShift
import Derived.Test.YtefohnbmifblkabPlainB
namespace Go.Proofs.Ytefohnbmifblkab
open Go.RowKit

theorem shift_any (s : St) (b : Int) (hb0 : 0 ≤ b) (hb1 : b ≤ 255) (hg : goodS 2 s = true) (w : World) :
    Calls Try.prog 19 #[s.val, .int .i64 b] w (Post3 (shiftS s b) w) := by
  obtain ⟨k, m, rfl, hm, hk⟩ := goodShift_cases hg
  rcases hk with rfl | rfl | rfl | rfl | ⟨x, rfl, rfl, hx0, hx1⟩
  · by_cases h27 : b = 27
    · subst h27
      exact shift_esc m w
    · rcases hm with rfl | rfl
      · have hr : (b ≤ 13 ∨ (16 ≤ b ∧ b ≤ 26) ∨ (28 ≤ b ∧ b < 128)) ∨ (b = 14 ∨ b = 15 ∨ 128 ≤ b) := by omega
        rcases hr with hr | hr
        · have e : shiftS (St.mk 0 0 0 0 [] 0 0) b = (St.mk 0 0 0 0 [] 0 0, [b], false) := by simp only [shiftS]; grind
          rw [e]; exact shift_sgood b hb0 hr w
        · have e : shiftS (St.mk 0 0 0 0 [] 0 0) b = (St.mk 0 0 0 0 [] 0 0, [-1], false) := by simp only [shiftS]; grind
          rw [e]; exact shift_sbad b hb1 hr w
      · have hr : b = 10 ∨ ((0 ≤ b ∧ b ≤ 9) ∨ (11 ≤ b ∧ b ≤ 26) ∨ (28 ≤ b ∧ b ≤ 32) ∨ (127 ≤ b ∧ b ≤ 255)) ∨ (33 ≤ b ∧ b ≤ 126) := by omega
        rcases hr with rfl | hr | ⟨h1, h2⟩
        · exact shift_dline w
        · have e : shiftS (St.mk 0 0 0 0 [] 0 1) b = (St.mk 0 0 0 0 [] 0 1, [-1], false) := by simp only [shiftS]; grind
          rw [e]; exact shift_dbad b hr w
        · have e : shiftS (St.mk 0 0 0 0 [] 0 1) b = (St.mk 0 0 0 0 [b] 0 1, [], false) := by simp only [shiftS]; grind
          rw [e]; exact shift_dlead b h1 h2 w
  · have hr : b = 40 ∨ b = 36 ∨ (b = 27 ∨ (b ≠ 27 ∧ b ≠ 36 ∧ b ≠ 40)) := by omega
    rcases hr with rfl | rfl | hr
    · exact shift_par m w
    · exact shift_dol m w
    · have e : shiftS (St.mk 0 0 0 0 [27] 0 m) b = (St.mk 0 0 0 0 [] 0 m, [-1], true) := by simp only [shiftS]; grind
      rw [e]; exact shift_escbad m b hb0 hb1 hr w
  · have hr : b = 66 ∨ (b = 27 ∨ (b ≠ 27 ∧ b ≠ 66)) := by omega
    rcases hr with rfl | hr
    · exact shift_sel40 m w
    · rcases hm with rfl | rfl
      · have e : shiftS (St.mk 0 0 0 0 [27, 40] 0 0) b = (St.mk 0 0 0 0 [] 0 0, [-1, 40], true) := by simp only [shiftS]; grind
        rw [e]; exact shift_two040 b hb0 hb1 hr w
      · have e : shiftS (St.mk 0 0 0 0 [27, 40] 0 1) b = (St.mk 0 0 0 0 [40] 0 1, [-1], true) := by simp only [shiftS]; grind
        rw [e]; exact shift_two140 b hb0 hb1 hr w
  · have hr : b = 66 ∨ (b = 27 ∨ (b ≠ 27 ∧ b ≠ 66)) := by omega
    rcases hr with rfl | hr
    · exact shift_sel36 m w
    · rcases hm with rfl | rfl
      · have e : shiftS (St.mk 0 0 0 0 [27, 36] 0 0) b = (St.mk 0 0 0 0 [] 0 0, [-1, 36], true) := by simp only [shiftS]; grind
        rw [e]; exact shift_two036 b hb0 hb1 hr w
      · have e : shiftS (St.mk 0 0 0 0 [27, 36] 0 1) b = (St.mk 0 0 0 0 [36] 0 1, [-1], true) := by simp only [shiftS]; grind
        rw [e]; exact shift_two136 b hb0 hb1 hr w
  · obtain ⟨u, rfl⟩ := byte_of x (by omega) (by omega)
    have hr : b = 27 ∨ ((0 ≤ b ∧ b ≤ 26) ∨ (28 ≤ b ∧ b ≤ 32) ∨ (127 ≤ b ∧ b ≤ 255)) ∨ (33 ≤ b ∧ b ≤ 126) := by omega
    rcases hr with rfl | hr | ⟨h1, h2⟩
    · have e : shiftS (St.mk 0 0 0 0 [(u.toNat : Int)] 0 1) 27 = (St.mk 0 0 0 0 [27] 0 1, [-1], false) := by simp only [shiftS]; grind
      rw [e]; exact shift_leadesc u hx0 hx1 w
    · have e : shiftS (St.mk 0 0 0 0 [(u.toNat : Int)] 0 1) b = (St.mk 0 0 0 0 [] 0 1, [-1], false) := by simp only [shiftS]; grind
      rw [e]; exact shift_leadbad u hx0 hx1 b hr w
    · have e : shiftS (St.mk 0 0 0 0 [(u.toNat : Int)] 0 1) b = (St.mk 0 0 0 0 [] 0 1, [12288 + ((u.toNat : Int) - 33) * 94 + b - 33], false) := by simp only [shiftS]; grind
      rw [e]; exact shift_leadgood u hx0 hx1 b h1 h2 w

end Go.Proofs.Ytefohnbmifblkab
