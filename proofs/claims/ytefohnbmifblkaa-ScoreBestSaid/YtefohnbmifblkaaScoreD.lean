/- The statements' own functions about scores: the sum of an encoding; the reference's best; does score answer at all. -/
import Derived.Test.YtefohnbmifblkaaScoreC
import Derived.Test.YtefohnbmifblkaaRefR
namespace Go.Proofs.Ytefohnbmifblkaa
open Go.RowKit Go.BigFrame
set_option linter.unusedVariables false

theorem best_plain : bestF (nums ⟨#[112, 108, 97, 105, 110, 32, 116, 101, 120, 116]⟩) = 1 := by decide +kernel
theorem weight_esc : weightF 2 27 40 = 8 := by decide +kernel

theorem keep_scores (w : World) : Calls Try.prog 23 #[] w fun e' w' => e' = .returned (.bool true) ∧ Below w.heap.size w w' := by
  have h1 : ∀ W, Calls Try.prog 24 #[.string ⟨#[112, 108, 97, 105, 110, 32, 116, 101, 120, 116]⟩] W fun e' w' => e' = .returned (.int .i64 1) ∧ Below W.heap.size W w' := by
    intro W
    have := score_whole ⟨#[112, 108, 97, 105, 110, 32, 116, 101, 120, 116]⟩ (by decide) W
    rwa [best_plain] at this
  have h2 : ∀ W, Calls Try.prog 26 #[.int .i64 2, .int .i64 27, .int .i64 40] W fun e' w' => e' = .returned (.int .i64 8) ∧ W = w' := by
    intro W
    have := score_weight 2 27 40 W
    rwa [weight_esc] at this
  have H1 := Lib.hid h1
  have H2 := Lib.hid h2
  clear h1 h2
  go_enter Try.func23, Try.ntmps23
  go_wp2_with (first
    | (go_at_call 24; refine (H1.out _).mono ?_; rintro e' w1 ⟨rfl, hb1⟩)
    | (go_at_call 26; refine (H2.out _).mono ?_; rintro e' w' ⟨rfl, rfl⟩))
  go_ret
  exact ⟨rfl, hb1⟩
theorem law_scores (w : World) : Calls Try.prog 27 #[] w fun e' w' => e' = .returned (.bool true) ∧ Below w.heap.size w w' := by
  have h1 : ∀ W, Calls Try.prog 24 #[.string ⟨#[112, 108, 97, 105, 110, 32, 116, 101, 120, 116]⟩] W fun e' w' => e' = .returned (.int .i64 1) ∧ Below W.heap.size W w' := by
    intro W
    have := score_whole ⟨#[112, 108, 97, 105, 110, 32, 116, 101, 120, 116]⟩ (by decide) W
    rwa [best_plain] at this
  have h2 : ∀ W, Calls Try.prog 26 #[.int .i64 2, .int .i64 27, .int .i64 40] W fun e' w' => e' = .returned (.int .i64 8) ∧ W = w' := by
    intro W
    have := score_weight 2 27 40 W
    rwa [weight_esc] at this
  have H1 := Lib.hid h1
  have H2 := Lib.hid h2
  clear h1 h2
  go_enter Try.func27, Try.ntmps27
  go_wp2_with (first
    | (go_at_call 24; refine (H1.out _).mono ?_; rintro e' w1 ⟨rfl, hb1⟩)
    | (go_at_call 26; refine (H2.out _).mono ?_; rintro e' w' ⟨rfl, rfl⟩))
  go_ret
  exact ⟨rfl, hb1⟩

theorem sumN_one (e : Int) (l : List Int) : sumN e l 1 = 0 := rfl
theorem sumN_next (e : Int) (s : ByteArray) (j : Nat) (h : j + 1 < s.size) : sumN e (nums s) (j + 1 + 1) = sumN e (nums s) (j + 1) + weightF e (s[j].toNat : Int) (s[j + 1].toNat : Int) := by
  show sumN e (nums s) (j + 1) + (if j + 1 = 0 then 0 else weightF e ((nums s).getD (j + 1 - 1) 0) ((nums s).getD (j + 1) 0)) = _
  rw [if_neg (by omega), show j + 1 - 1 = j from rfl, nums_getD (by omega : j < s.size), nums_getD h]
theorem sumN_last (e : Int) (s : ByteArray) (j : Nat) (h : s.size ≤ j + 1) (h2 : j + 1 ≤ s.size ∨ j = 0) : sumN e (nums s) (j + 1) = sumN e (nums s) s.size := by
  rcases h2 with h2 | rfl
  · rw [show j + 1 = s.size by omega]
  · have : s.size = 0 ∨ s.size = 1 := by omega
    rcases this with h | h <;> rw [h] <;> rfl

theorem cell_heap {w wr : World} (h : wr.heap = w.heap) (a : Addr) : wr.cell? a = w.cell? a := by
  unfold World.cell?
  rw [h]

set_option maxRecDepth 100000 in
set_option maxHeartbeats 4000000 in
theorem keep_sum (e : Int) (s : ByteArray) (hs : s.size ≤ 4000) (b : Nat) (w : World) (hc : w.cell? ⟨b, 0, none⟩ = some (.string s)) :
    Calls Try.prog 25 #[.int .i64 e, .pointer (some ⟨b, 0, none⟩)] w fun e' w' => e' = .returned (.int .i64 (sumN e (nums s) s.size)) ∧ Below w.heap.size w w' ∧ w'.heap = w.heap := by
  go_enter Try.func25, Try.ntmps25
  go_wp2_with fail
  go_loopw [4, 5] (fun n i wr => ∃ j : Nat, n = .int .i64 (sumN e (nums s) (j + 1)) ∧ i = .int .i64 ((j : Int) + 1) ∧ (j + 1 ≤ s.size ∨ j = 0) ∧ wr.heap = w.heap ∧ Below w.heap.size w wr) (fun _ i _ => 5000 - (intOf i).toNat)
  case atStart => exact ⟨0, rfl, rfl, Or.inr rfl, rfl, Below.refl _ _⟩
  case round =>
    obtain ⟨j, rfl, rfl, hj, hh, hb⟩ := hrel
    have hcr : wr.cell? ⟨b, 0, none⟩ = some (.string s) := (cell_heap hh _).trans hc
    have hh := Lib.hid hh
    have hj2 : j ≤ 4000 := by omega
    by_cases hlt : j + 1 < s.size
    · have hij : (j : Int) + 1 < (s.size : Int) := by omega
      have hij0 : (j : Int) < (s.size : Int) := by omega
      have hj0 : (0 : Int) ≤ (j : Int) + 1 := by omega
      have hr := sumN_range e (nums s) (j + 1)
      have hw := weightF_range e (s[j].toNat : Int) (s[j + 1].toNat : Int)
      have HN := Lib.hid (sumN_next e s j hlt)
      have HW : Hid (∀ W, Calls Try.prog 26 #[.int .i64 e, .int .i64 (s[j].toNat : Int), .int .i64 (s[j + 1].toNat : Int)] W fun e' w' => e' = .returned (.int .i64 (weightF e (s[j].toNat : Int) (s[j + 1].toNat : Int))) ∧ w' = W) :=
        Lib.hid fun W => (score_weight _ _ _ W).mono fun _ _ h => ⟨h.1, h.2.symm⟩
      have hwb := wrap64_byte s[j]
      have hwc : IntKind.i64.wrap (s[j].toNat : Int) = (s[j].toNat : Int) := wraps_i64 _ (by omega) (by have := byte_le s[j]; omega)
      have hwd : IntKind.i64.wrap (s[j + 1].toNat : Int) = (s[j + 1].toNat : Int) := wraps_i64 _ (by omega) (by have := byte_le s[j + 1]; omega)
      generalize sumN e (nums s) (j + 1) = S at *
      go_wp2_with fail
      go_quiet ((go_at_call 26; exact Calls.quiet_of_same (HW.out _)))
      go_wp2_with fail
      go_roundw
      case rel => exact ⟨j + 1, by rw [HN.out], congrArg (Value.int .i64) (by omega), Or.inl (by omega), hh.out, ⟨hb.os, hb.tape, hb.output, hb.size, hb.block⟩⟩
      case measure => simp [intOf]; omega
    · have HN := Lib.hid (sumN_last e s j (by omega) hj)
      have hij : (s.size : Int) ≤ (j : Int) + 1 := by omega
      generalize sumN e (nums s) (j + 1) = S at *
      go_wp2_with fail
      go_ret
      exact ⟨by rw [HN.out]; rfl, hb, hh.out⟩

set_option maxRecDepth 100000 in
set_option maxHeartbeats 4000000 in
theorem ref_best (s : ByteArray) (hs : s.size ≤ 4000) (w : World) :
    Calls Try.prog 31 #[.string s] w fun e' w' => e' = .returned (.int .i64 (bestF (nums s))) ∧ Below w.heap.size w w' := by
  have hbest : bestF (nums s) = bestN (fun e => acceptsF e (nums s)) (fun e => sumN e (nums s) s.size) 6 := by
    unfold bestF
    refine bestN_congr 6 (fun e h1 h2 => ?_) (fun e => by rw [nums_length])
    have h3 : e ≤ 6 := h2
    simp [acceptsF, h1, h3]
  rw [hbest]
  have HR : Hid (∀ (e : Int), 1 ≤ e → e ≤ 6 → ∀ W, Calls Try.prog 50 #[.int .i64 e, .string s] W fun e' w' => e' = .returned (.bool (acceptsF e (nums s))) ∧ Below W.heap.size W w') :=
    Lib.hid fun e h1 h6 W => ref_right e h1 h6 s hs W
  clear hbest
  generalize hF : (fun e => acceptsF e (nums s)) = F
  have hF2 : ∀ e, acceptsF e (nums s) = F e := fun e => congrFun hF e
  simp only [hF2] at HR
  clear hF hF2
  generalize hS : (fun e => sumN e (nums s) s.size) = S
  have HS : Hid (∀ e, S e = sumN e (nums s) s.size) := Lib.hid fun e => (congrFun hS e).symm
  clear hS
  go_enter Try.func31, Try.ntmps31
  go_wp2_with fail
  go_loopw [3, 4, 5] (fun b m i wr => ∃ (k : Nat) (M : Int), b = .int .i64 (bestN F S k) ∧ m = .int .i64 M ∧ i = .int .i64 ((k : Int) + 1) ∧ k ≤ 6 ∧ (bestN F S k ≠ 0 → M = S (bestN F S k)) ∧ Below w.heap.size w wr) (fun _ _ i _ => 7 - (intOf i).toNat)
  case atStart => exact ⟨0, 0, rfl, rfl, rfl, by omega, fun h => absurd rfl h, Below.refl _ _⟩
  case round =>
    obtain ⟨k, M, rfl, rfl, rfl, hk, hM, hb⟩ := hrel
    by_cases hlt : k < 6
    · have hr := bestN_range F S k
      have hnx : bestN F S (k + 1) = if F ((k : Int) + 1) = true ∧ (bestN F S k = 0 ∨ S (bestN F S k) < S ((k : Int) + 1)) then (k : Int) + 1 else bestN F S k := rfl
      generalize bestN F S k = B at *
      have HRK := Lib.hid (fun W => HR.out ((k : Int) + 1) (by omega) (by omega) W)
      have hSk := HS.out ((k : Int) + 1)
      generalize F ((k : Int) + 1) = E at *
      generalize hSX : S ((k : Int) + 1) = X at *
      have HSX := Lib.hid hSX
      clear hSX
      have HN := Lib.hid hnx
      have HM := Lib.hid hM
      have HX := Lib.hid hSk
      clear hnx hM hSk
      have hkk : (k : Int) + 1 ≤ 6 := by omega
      go_wp2_with fail
      go_loopw [6, 7] (fun n i wi => ∃ j : Nat, n = .int .i64 (sumN ((k : Int) + 1) (nums s) (j + 1)) ∧ i = .int .i64 ((j : Int) + 1) ∧ (j + 1 ≤ s.size ∨ j = 0) ∧ Below w.heap.size w wi) (fun _ i _ => 5000 - (intOf i).toNat)
      case atStart => exact ⟨0, rfl, rfl, Or.inr rfl, hb⟩
      case round =>
        obtain ⟨j, rfl, rfl, hj, hbi⟩ := hrel
        have hj2 : j ≤ 4000 := by omega
        by_cases hlt2 : j + 1 < s.size
        · have hij : (j : Int) + 1 < (s.size : Int) := by omega
          have hij0 : (j : Int) < (s.size : Int) := by omega
          have hj0 : (0 : Int) ≤ (j : Int) + 1 := by omega
          have hr2 := sumN_range ((k : Int) + 1) (nums s) (j + 1)
          have hw := weightF_range ((k : Int) + 1) (s[j].toNat : Int) (s[j + 1].toNat : Int)
          have HJ := Lib.hid (sumN_next ((k : Int) + 1) s j hlt2)
          have HW : Hid (∀ W, Calls Try.prog 30 #[.int .i64 ((k : Int) + 1), .int .i64 (s[j].toNat : Int), .int .i64 (s[j + 1].toNat : Int)] W fun e' w' => e' = .returned (.int .i64 (weightF ((k : Int) + 1) (s[j].toNat : Int) (s[j + 1].toNat : Int))) ∧ w' = W) :=
            Lib.hid fun W => (ref_weight _ _ _ W).mono fun _ _ h => ⟨h.1, h.2.symm⟩
          have hwb := wrap64_byte s[j]
          have hwc : IntKind.i64.wrap (s[j].toNat : Int) = (s[j].toNat : Int) := wraps_i64 _ (by omega) (by have := byte_le s[j]; omega)
          have hwd : IntKind.i64.wrap (s[j + 1].toNat : Int) = (s[j + 1].toNat : Int) := wraps_i64 _ (by omega) (by have := byte_le s[j + 1]; omega)
          generalize sumN ((k : Int) + 1) (nums s) (j + 1) = Y at *
          go_wp2_with fail
          go_quiet ((go_at_call 30; exact Calls.quiet_of_same (HW.out _)))
          go_wp2_with fail
          go_roundw
          case rel => exact ⟨j + 1, by rw [HJ.out], congrArg (Value.int .i64) (by omega), Or.inl (by omega), ⟨hbi.os, hbi.tape, hbi.output, hbi.size, hbi.block⟩⟩
          case measure => simp [intOf]; omega
        · have hij : (s.size : Int) ≤ (j : Int) + 1 := by omega
          have hYX : sumN ((k : Int) + 1) (nums s) (j + 1) = X := by rw [sumN_last ((k : Int) + 1) s j (by omega) hj]; exact HX.out.symm
          rw [hYX]
          clear hYX
          rcases E with _ | _
          · go_wp2_with (go_at_call 50; refine (HRK.out _).mono ?_; rintro e' w2 ⟨rfl, hb2⟩)
            go_roundw
            case rel => exact ⟨k + 1, M, congrArg (Value.int .i64) (by rw [HN.out, if_neg (by simp)]), rfl, congrArg (Value.int .i64) (by omega), by omega, by rw [HN.out, if_neg (by simp)]; exact HM.out, hbi.trans (hb2.mono hbi.size)⟩
            case measure => simp [intOf]; omega
          · have hq : B = 0 ∨ (B ≠ 0 ∧ M < X) ∨ (B ≠ 0 ∧ ¬ M < X) := by omega
            rcases hq with rfl | ⟨hB0, hxy⟩ | ⟨hB0, hxy⟩
            · go_wp2_with (go_at_call 50; refine (HRK.out _).mono ?_; rintro e' w2 ⟨rfl, hb2⟩)
              go_roundw
              case rel => exact ⟨k + 1, X, congrArg (Value.int .i64) (by rw [HN.out, if_pos (by simp)]), rfl, congrArg (Value.int .i64) (by omega), by omega, fun _ => by rw [HN.out, if_pos (by simp), HSX.out], hbi.trans (hb2.mono hbi.size)⟩
              case measure => simp [intOf]; omega
            · have HMB : Hid (M = S B) := Lib.hid (HM.out hB0)
              have HCD : Hid (S B < X) := Lib.hid (by have := HMB.out; omega)
              have hBb : (B == 0) = false := beq_eq_false_iff_ne.2 hB0
              go_wp2_with (go_at_call 50; refine (HRK.out _).mono ?_; rintro e' w2 ⟨rfl, hb2⟩)
              go_roundw
              case rel => exact ⟨k + 1, X, congrArg (Value.int .i64) (by rw [HN.out, if_pos ⟨trivial, Or.inr HCD.out⟩]), rfl, congrArg (Value.int .i64) (by omega), by omega, fun _ => by rw [HN.out, if_pos ⟨trivial, Or.inr HCD.out⟩, HSX.out], hbi.trans (hb2.mono hbi.size)⟩
              case measure => simp [intOf]; omega
            · have HMB : Hid (M = S B) := Lib.hid (HM.out hB0)
              have HCD : Hid (¬ S B < X) := Lib.hid (by have := HMB.out; omega)
              have HNN : Hid (¬ (True ∧ (B = 0 ∨ S B < X))) := Lib.hid (by have := HCD.out; rintro ⟨_, h | h⟩ <;> omega)
              have hBb : (B == 0) = false := beq_eq_false_iff_ne.2 hB0
              have hxd : decide (M < X) = false := decide_eq_false hxy
              go_wp2_with (go_at_call 50; refine (HRK.out _).mono ?_; rintro e' w2 ⟨rfl, hb2⟩)
              go_roundw
              case rel => exact ⟨k + 1, M, congrArg (Value.int .i64) (by rw [HN.out, if_neg HNN.out]), rfl, congrArg (Value.int .i64) (by omega), by omega, fun _ => by rw [HN.out, if_neg HNN.out]; exact HMB.out, hbi.trans (hb2.mono hbi.size)⟩
              case measure => simp [intOf]; omega
    · obtain rfl : k = 6 := by omega
      go_wp2_with fail
      go_ret
      exact ⟨rfl, hb⟩

end Go.Proofs.Ytefohnbmifblkaa
