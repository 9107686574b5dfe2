/- The reference's function piece, for Utf. -/
import Derived.Test.YtefohnbmifblkabPieceA
import Derived.Test.YtefohnbmifblkabPieceF
import Derived.Test.YtefohnbmifblkabPieceG
namespace Go.Proofs.Ytefohnbmifblkab
open Go.RowKit
set_option linter.unusedVariables false

set_option maxRecDepth 100000 in
set_option maxHeartbeats 4000000 in
theorem utf_ascii' (s : ByteArray) (h0 : 0 < s.size) (hs : s.size ≤ maxLen) (m : Int) (h1 : (s[0].toNat : Int) < 128) (w : World) :
    Calls Try.prog 10 #[.int .i64 1, .string s, .int .i64 m] w (PostP ([(s[0].toNat : Int)], 1, 0) w) := by
  have hs0 := hs
  unfold maxLen at hs
  have hii : (0 : Int) < (s.size : Int) := by omega
  have hwb := wrap64_byte s[0]
  have hwc : IntKind.i64.wrap (s[0].toNat : Int) = (s[0].toNat : Int) := wraps_i64 _ (by omega) (by have := byte_le s[0]; omega)
  have hle := byte_le s[0]
  have hmf := hmf
  have hst := hstf
  go_enter Try.func10, Try.ntmps10
  go_wp2_with (first
      | (go_at_call 14; refine (ref_in_t _ _ _ _ (by omega)).mono ?_; rintro e w' ⟨rfl, rfl⟩)
      | (go_at_call 14; refine (ref_in_f _ _ _ _ (by omega)).mono ?_; rintro e w' ⟨rfl, rfl⟩))
  refine bodyPost_ret (v := .tuple #[_, .int .i64 1, .int .i64 0]) (by simp [results, Try.results10, go_sem] <;> rfl) rfl ⟨_, rfl, ints_lit1 _ _ _ _ ?_ ?_, ?_⟩
  · first | exact heap_new _ _ _ (by simp) | exact (heap_old _ _ _ (by simp)).trans (heap_new _ _ _ (by simp))
  · omega
  repeat (first | exact Below.refl _ _ | apply Below.drew | apply below_alloc)

set_option maxRecDepth 100000 in
set_option maxHeartbeats 4000000 in
theorem utf_noa' (s : ByteArray) (h0 : 0 < s.size) (hs : s.size ≤ maxLen) (m : Int) (h1 : 128 ≤ (s[0].toNat : Int)) (h2 : (s[0].toNat : Int) < 194) (w : World) :
    Calls Try.prog 10 #[.int .i64 1, .string s, .int .i64 m] w (PostP ([-1], 1, 0) w) := by
  have hs0 := hs
  unfold maxLen at hs
  have hii : (0 : Int) < (s.size : Int) := by omega
  have hwb := wrap64_byte s[0]
  have hwc : IntKind.i64.wrap (s[0].toNat : Int) = (s[0].toNat : Int) := wraps_i64 _ (by omega) (by have := byte_le s[0]; omega)
  have hle := byte_le s[0]
  have hmf := hmf
  have hst := hstf
  go_enter Try.func10, Try.ntmps10
  go_wp2_with (first
      | (go_at_call 14; refine (ref_in_t _ _ _ _ (by omega)).mono ?_; rintro e w' ⟨rfl, rfl⟩)
      | (go_at_call 14; refine (ref_in_f _ _ _ _ (by omega)).mono ?_; rintro e w' ⟨rfl, rfl⟩))
  refine bodyPost_ret (v := .tuple #[_, .int .i64 1, .int .i64 0]) (by simp [results, Try.results10, go_sem] <;> rfl) rfl ⟨_, rfl, ints_lit1 _ _ _ _ ?_ ?_, ?_⟩
  · first | exact heap_new _ _ _ (by simp) | exact (heap_old _ _ _ (by simp)).trans (heap_new _ _ _ (by simp))
  · omega
  repeat (first | exact Below.refl _ _ | apply Below.drew | apply below_alloc)

set_option maxRecDepth 100000 in
set_option maxHeartbeats 4000000 in
theorem utf_nob' (s : ByteArray) (h0 : 0 < s.size) (hs : s.size ≤ maxLen) (m : Int) (h1 : 244 < (s[0].toNat : Int)) (w : World) :
    Calls Try.prog 10 #[.int .i64 1, .string s, .int .i64 m] w (PostP ([-1], 1, 0) w) := by
  have hs0 := hs
  unfold maxLen at hs
  have hii : (0 : Int) < (s.size : Int) := by omega
  have hwb := wrap64_byte s[0]
  have hwc : IntKind.i64.wrap (s[0].toNat : Int) = (s[0].toNat : Int) := wraps_i64 _ (by omega) (by have := byte_le s[0]; omega)
  have hle := byte_le s[0]
  have hmf := hmf
  have hst := hstf
  go_enter Try.func10, Try.ntmps10
  go_wp2_with (first
      | (go_at_call 14; refine (ref_in_t _ _ _ _ (by omega)).mono ?_; rintro e w' ⟨rfl, rfl⟩)
      | (go_at_call 14; refine (ref_in_f _ _ _ _ (by omega)).mono ?_; rintro e w' ⟨rfl, rfl⟩))
  refine bodyPost_ret (v := .tuple #[_, .int .i64 1, .int .i64 0]) (by simp [results, Try.results10, go_sem] <;> rfl) rfl ⟨_, rfl, ints_lit1 _ _ _ _ ?_ ?_, ?_⟩
  · first | exact heap_new _ _ _ (by simp) | exact (heap_old _ _ _ (by simp)).trans (heap_new _ _ _ (by simp))
  · omega
  repeat (first | exact Below.refl _ _ | apply Below.drew | apply below_alloc)

set_option maxRecDepth 100000 in
set_option maxHeartbeats 4000000 in
theorem utf_two' (s : ByteArray) (h0 : 0 < s.size) (hs : s.size ≤ maxLen) (m : Int) (h1 : 194 ≤ (s[0].toNat : Int)) (h2 : (s[0].toNat : Int) ≤ 223) (w : World) :
    Calls Try.prog 10 #[.int .i64 1, .string s, .int .i64 m] w (PostP (contF (nums s) 1 1 ((s[0].toNat : Int) % 32) 128 191) w) := by
  have hs0 := hs
  unfold maxLen at hs
  have hii : (0 : Int) < (s.size : Int) := by omega
  have hwb := wrap64_byte s[0]
  have hwc : IntKind.i64.wrap (s[0].toNat : Int) = (s[0].toNat : Int) := wraps_i64 _ (by omega) (by have := byte_le s[0]; omega)
  have hle := byte_le s[0]
  have hmf := hmf
  have hst := hstf
  have e224 : ((s[0].toNat : Int) == 224) = false := beq_eq_false_iff_ne.2 (by omega)
  have e237 : ((s[0].toNat : Int) == 237) = false := beq_eq_false_iff_ne.2 (by omega)
  have e240 : ((s[0].toNat : Int) == 240) = false := beq_eq_false_iff_ne.2 (by omega)
  have e244 : ((s[0].toNat : Int) == 244) = false := beq_eq_false_iff_ne.2 (by omega)
  have hd128 : decide ((s[0].toNat : Int) < 128) = false := decide_eq_false (by omega)
  have hrem : (s[0].toNat : Int).tmod 32 = (s[0].toNat : Int) % 32 := Int.tmod_eq_emod_of_nonneg (by omega)
  have hrn : 0 ≤ (s[0].toNat : Int) % 32 ∧ (s[0].toNat : Int) % 32 < 32 := by omega
  have hHG : ∀ (j : Nat) (W : World), W.cell? ⟨w.heap.size + 1, 0, none⟩ = some (.string s) → Calls Try.prog 13 #[.int .i64 (j : Int), .pointer (some ⟨w.heap.size + 1, 0, none⟩)] W fun e w' => e = .returned (.int .i64 (getF (nums s) j)) ∧ W = w' :=
    fun j W h => ref_get s hs0 j (w.heap.size + 1) W h
  have HG := Lib.hid hHG
  clear hHG
  generalize hR0 : contF (nums s) 1 1 ((s[0].toNat : Int) % 32) 128 191 = R
  have HR0 := Lib.hid hR0
  clear hR0
  go_enter Try.func10, Try.ntmps10
  go_wp2_with (first
      | (go_at_call 14; refine (ref_in_t _ _ _ _ (by omega)).mono ?_; rintro e w' ⟨rfl, rfl⟩)
      | (go_at_call 14; refine (ref_in_f _ _ _ _ (by omega)).mono ?_; rintro e w' ⟨rfl, rfl⟩))
  go_loop [14, 15, 16, 17] (fun a b c i => ∃ (k j : Nat) (C L H : Int), a = .int .i64 L ∧ b = .int .i64 H ∧ c = .int .i64 C ∧ i = .int .i64 (j : Int) ∧ k + j = 2 ∧ 1 ≤ j ∧ 0 ≤ C ∧ (j = 1 → C ≤ 31) ∧ (j = 2 → C ≤ 2047) ∧ (j = 3 → C ≤ 131071) ∧ C ≤ 8388607 ∧ 128 ≤ L ∧ H ≤ 191 ∧
      contF (nums s) k j C L H = R) (fun _ _ _ i => 5 - (intOf i).toNat)
  case atStart => exact ⟨1, 1, (s[0].toNat : Int) % 32, 128, 191, rfl, rfl, (by first | rfl | exact congrArg (Value.int .i64) (by omega)), rfl, rfl, by omega, by omega, by omega, by omega, by omega, by omega, by omega, by omega, HR0.out⟩
  case round =>
    obtain ⟨k, j, C, L, H, rfl, rfl, rfl, rfl, hkj, hj, hC0, hC1, hC2, hC3, hC4, hL, hH, hR⟩ := hrel
    have hj4 : j ≤ 2 := by omega
    clear HR0
    rcases k with _ | k
    · obtain rfl : j = 2 := by omega
      have hRR : R = ([C], 2, 0) := hR.symm
      subst hRR
      clear hR
      go_wp2_with fail
      refine bodyPost_ret (v := .tuple #[_, .int .i64 2, .int .i64 0]) (by simp [results, Try.results10, go_sem] <;> rfl) rfl ⟨_, rfl, ints_lit1 _ _ _ _ ?_ ?_, ?_⟩
      · first | exact heap_new _ _ _ (by simp) | exact (heap_old _ _ _ (by simp)).trans (heap_new _ _ _ (by simp))
      · omega
      repeat (first | exact Below.refl _ _ | apply Below.drew | apply below_alloc)
    · have hjl : (j : Int) < 2 := by omega
      have hG1 := fun W h => HG.out j W h
      have hgr := getF_range s j
      have hR' : (if L ≤ getF (nums s) j ∧ getF (nums s) j ≤ H then contF (nums s) k (j + 1) (64 * C + getF (nums s) j - 128) 128 191 else ([-1], j, 0)) = R := hR
      clear hR HG
      generalize getF (nums s) j = g at *
      have HG := Lib.hid hG1
      clear hG1
      by_cases hin : L ≤ g ∧ g ≤ H
      · rw [if_pos hin] at hR'
        have HR := Lib.hid hR'
        clear hR'
        obtain ⟨hin1, hin2⟩ := hin
        go_wp2_with (first
          | (go_at_call 13; refine (HG.out _ (by simp [go_sem])).mono ?_; rintro e w' ⟨rfl, rfl⟩)
          | (go_at_call 14; refine (ref_in_t _ _ _ _ (by omega)).mono ?_; rintro e w' ⟨rfl, rfl⟩)
          | (go_at_call 14; refine (ref_in_f _ _ _ _ (by omega)).mono ?_; rintro e w' ⟨rfl, rfl⟩))
        go_round
        case rel => first | exact ⟨k, j + 1, 64 * C + g - 128, 128, 191, rfl, rfl, by go_num, by go_num, by omega, by omega, by omega, by omega, by omega, by omega, by omega, by omega, by omega, HR.out⟩ | (refine ⟨trivial, _, _, _, _, _, _, _, _, _, _, _, _, _, _, _, _, _, _, _, _, _, _, _, _, _, _, _, _, _, ?_, rfl⟩; exact ⟨k, j + 1, 64 * C + g - 128, 128, 191, rfl, rfl, by go_num, by go_num, by omega, by omega, by omega, by omega, by omega, by omega, by omega, by omega, by omega, HR.out⟩)
        case measure => simp [intOf]; omega
      · rw [if_neg hin] at hR'
        have hRR : R = ([-1], j, 0) := hR'.symm
        subst hRR
        clear hR'
        go_wp2_with (first
          | (go_at_call 13; refine (HG.out _ (by simp [go_sem])).mono ?_; rintro e w' ⟨rfl, rfl⟩)
          | (go_at_call 14; refine (ref_in_t _ _ _ _ (by omega)).mono ?_; rintro e w' ⟨rfl, rfl⟩)
          | (go_at_call 14; refine (ref_in_f _ _ _ _ (by omega)).mono ?_; rintro e w' ⟨rfl, rfl⟩))
        refine bodyPost_ret (v := .tuple #[_, .int .i64 (j : Int), .int .i64 0]) (by simp [results, Try.results10, go_sem] <;> rfl) rfl ⟨_, rfl, ints_lit1 _ _ _ _ ?_ ?_, ?_⟩
        · first | exact heap_new _ _ _ (by simp) | exact (heap_old _ _ _ (by simp)).trans (heap_new _ _ _ (by simp))
        · omega
        repeat (first | exact Below.refl _ _ | apply Below.drew | apply below_alloc)

theorem ref_piece1 (s : ByteArray) (h0 : 0 < s.size) (hs : s.size ≤ maxLen) (m : Int) (w : World) :
    Calls Try.prog 10 #[.int .i64 1, .string s, .int .i64 m] w (PostP (pieceF 1 (nums s) m) w) := by
  have hp : pieceF 1 (nums s) m = pieceUtf (nums s) (s[0].toNat : Int) := by
    rw [← getF_nums s 0 h0]; rfl
  rw [hp]
  have hle := byte_le s[0]
  unfold pieceUtf
  by_cases c1 : (s[0].toNat : Int) < 128
  · rw [if_pos c1]; exact utf_ascii' s h0 hs m c1 w
  rw [if_neg c1]
  by_cases c2 : (s[0].toNat : Int) < 194
  · rw [if_pos c2]; exact utf_noa' s h0 hs m (by omega) c2 w
  rw [if_neg c2]
  by_cases c3 : (s[0].toNat : Int) ≤ 223
  · rw [if_pos c3]; exact utf_two' s h0 hs m (by omega) c3 w
  rw [if_neg c3]
  by_cases c4 : (s[0].toNat : Int) ≤ 239
  · rw [if_pos c4]
    by_cases d1 : (s[0].toNat : Int) = 224
    · rw [if_pos d1, if_neg (by omega)]; exact utf_e0' s h0 hs m d1 w
    rw [if_neg d1]
    by_cases d2 : (s[0].toNat : Int) = 237
    · rw [if_pos d2]; exact utf_ed' s h0 hs m d2 w
    · rw [if_neg d2]; exact utf_three' s h0 hs m (by omega) (by omega) d2 w
  rw [if_neg c4]
  by_cases c5 : (s[0].toNat : Int) ≤ 244
  · rw [if_pos c5]
    by_cases d1 : (s[0].toNat : Int) = 240
    · rw [if_pos d1, if_neg (by omega)]; exact utf_f0' s h0 hs m d1 w
    rw [if_neg d1]
    by_cases d2 : (s[0].toNat : Int) = 244
    · rw [if_pos d2]; exact utf_f4' s h0 hs m d2 w
    · rw [if_neg d2]; exact utf_four' s h0 hs m (by omega) (by omega) w
  · rw [if_neg c5]; exact utf_nob' s h0 hs m (by omega) w

end Go.Proofs.Ytefohnbmifblkab
