/- The reference's function piece, for Twin and Latin. -/
import Derived.Test.YtefohnbmifblkabPieceA
namespace Go.Proofs.Ytefohnbmifblkab
open Go.RowKit
set_option linter.unusedVariables false

set_option maxRecDepth 100000 in
set_option maxHeartbeats 4000000 in
theorem latin_bad (s : ByteArray) (h0 : 0 < s.size) (hs : s.size ≤ maxLen) (m : Int) (hc : ((s[0].toNat : Int) = 129 ∨ (s[0].toNat : Int) = 141 ∨ (s[0].toNat : Int) = 143 ∨ (s[0].toNat : Int) = 144 ∨ (s[0].toNat : Int) = 157)) (w : World) :
    Calls Try.prog 10 #[.int .i64 4, .string s, .int .i64 m] w (PostP ([-1], 1, 0) w) := by
  have hs0 := hs
  unfold maxLen at hs
  have hii : (0 : Int) < (s.size : Int) := by omega
  have hwb := wrap64_byte s[0]
  have hwc : IntKind.i64.wrap (s[0].toNat : Int) = (s[0].toNat : Int) := wraps_i64 _ (by omega) (by have := byte_le s[0]; omega)
  have hle := byte_le s[0]
  have hmf := hmf
  have hst := hstf
  have hI : ∀ W, Calls Try.prog 15 #[.string ⟨#[129, 141, 143, 144, 157]⟩, .int .u8 (s[0].toNat : Int)] W fun e w' => e = .returned (.int .i64 (Lib.indexByte (⟨#[129, 141, 143, 144, 157]⟩ : ByteArray).data.toList s[0])) ∧ W = w' := by
    intro W
    have := lib_index ⟨#[129, 141, 143, 144, 157]⟩ (s[0].toNat : Int) W
    rwa [toUInt8_byte] at this
  have hl := latin_in s[0]
  generalize Lib.indexByte (⟨#[129, 141, 143, 144, 157]⟩ : ByteArray).data.toList s[0] = r at *
  have HI := Lib.hid hI
  clear hI
  have hr : 0 ≤ r := by omega
  clear hl
  go_enter Try.func10, Try.ntmps10
  go_wp2_with (first
      | (go_at_call 15; refine (HI.out _).mono ?_; rintro e w' ⟨rfl, rfl⟩)
      | (go_at_call 14; refine (ref_in_t _ _ _ _ (by omega)).mono ?_; rintro e w' ⟨rfl, rfl⟩)
      | (go_at_call 14; refine (ref_in_f _ _ _ _ (by omega)).mono ?_; rintro e w' ⟨rfl, rfl⟩))
  refine bodyPost_ret (v := .tuple #[_, .int .i64 1, .int .i64 0]) (by simp [results, Try.results10, go_sem] <;> rfl) rfl ⟨_, rfl, ints_lit1 _ _ _ _ ?_ ?_, ?_⟩
  · first | exact heap_new _ _ _ (by simp) | exact (heap_old _ _ _ (by simp)).trans (heap_new _ _ _ (by simp))
  · omega
  repeat (first | exact Below.refl _ _ | apply Below.drew | apply below_alloc)

set_option maxRecDepth 100000 in
set_option maxHeartbeats 4000000 in
theorem latin_mid (s : ByteArray) (h0 : 0 < s.size) (hs : s.size ≤ maxLen) (m : Int) (hn : ¬ ((s[0].toNat : Int) = 129 ∨ (s[0].toNat : Int) = 141 ∨ (s[0].toNat : Int) = 143 ∨ (s[0].toNat : Int) = 144 ∨ (s[0].toNat : Int) = 157)) (h1 : 128 ≤ (s[0].toNat : Int)) (h2 : (s[0].toNat : Int) ≤ 159) (w : World) :
    Calls Try.prog 10 #[.int .i64 4, .string s, .int .i64 m] w (PostP ([8192 + (s[0].toNat : Int)], 1, 0) w) := by
  have hs0 := hs
  unfold maxLen at hs
  have hii : (0 : Int) < (s.size : Int) := by omega
  have hwb := wrap64_byte s[0]
  have hwc : IntKind.i64.wrap (s[0].toNat : Int) = (s[0].toNat : Int) := wraps_i64 _ (by omega) (by have := byte_le s[0]; omega)
  have hle := byte_le s[0]
  have hmf := hmf
  have hst := hstf
  have hI : ∀ W, Calls Try.prog 15 #[.string ⟨#[129, 141, 143, 144, 157]⟩, .int .u8 (s[0].toNat : Int)] W fun e w' => e = .returned (.int .i64 (Lib.indexByte (⟨#[129, 141, 143, 144, 157]⟩ : ByteArray).data.toList s[0])) ∧ W = w' := by
    intro W
    have := lib_index ⟨#[129, 141, 143, 144, 157]⟩ (s[0].toNat : Int) W
    rwa [toUInt8_byte] at this
  have hl := latin_in s[0]
  generalize Lib.indexByte (⟨#[129, 141, 143, 144, 157]⟩ : ByteArray).data.toList s[0] = r at *
  have HI := Lib.hid hI
  clear hI
  have hr : r < 0 := by omega
  clear hl
  go_enter Try.func10, Try.ntmps10
  go_wp2_with (first
      | (go_at_call 15; refine (HI.out _).mono ?_; rintro e w' ⟨rfl, rfl⟩)
      | (go_at_call 14; refine (ref_in_t _ _ _ _ (by omega)).mono ?_; rintro e w' ⟨rfl, rfl⟩)
      | (go_at_call 14; refine (ref_in_f _ _ _ _ (by omega)).mono ?_; rintro e w' ⟨rfl, rfl⟩))
  refine bodyPost_ret (v := .tuple #[_, .int .i64 1, .int .i64 0]) (by simp [results, Try.results10, go_sem] <;> rfl) rfl ⟨_, rfl, ints_lit1 _ _ _ _ ?_ ?_, ?_⟩
  · first | exact heap_new _ _ _ (by simp) | exact (heap_old _ _ _ (by simp)).trans (heap_new _ _ _ (by simp))
  · omega
  repeat (first | exact Below.refl _ _ | apply Below.drew | apply below_alloc)

set_option maxRecDepth 100000 in
set_option maxHeartbeats 4000000 in
theorem latin_one (s : ByteArray) (h0 : 0 < s.size) (hs : s.size ≤ maxLen) (m : Int) (hn : ¬ ((s[0].toNat : Int) = 129 ∨ (s[0].toNat : Int) = 141 ∨ (s[0].toNat : Int) = 143 ∨ (s[0].toNat : Int) = 144 ∨ (s[0].toNat : Int) = 157)) (h1 : (s[0].toNat : Int) < 128 ∨ 159 < (s[0].toNat : Int)) (w : World) :
    Calls Try.prog 10 #[.int .i64 4, .string s, .int .i64 m] w (PostP ([(s[0].toNat : Int)], 1, 0) w) := by
  have hs0 := hs
  unfold maxLen at hs
  have hii : (0 : Int) < (s.size : Int) := by omega
  have hwb := wrap64_byte s[0]
  have hwc : IntKind.i64.wrap (s[0].toNat : Int) = (s[0].toNat : Int) := wraps_i64 _ (by omega) (by have := byte_le s[0]; omega)
  have hle := byte_le s[0]
  have hmf := hmf
  have hst := hstf
  have hI : ∀ W, Calls Try.prog 15 #[.string ⟨#[129, 141, 143, 144, 157]⟩, .int .u8 (s[0].toNat : Int)] W fun e w' => e = .returned (.int .i64 (Lib.indexByte (⟨#[129, 141, 143, 144, 157]⟩ : ByteArray).data.toList s[0])) ∧ W = w' := by
    intro W
    have := lib_index ⟨#[129, 141, 143, 144, 157]⟩ (s[0].toNat : Int) W
    rwa [toUInt8_byte] at this
  have hl := latin_in s[0]
  generalize Lib.indexByte (⟨#[129, 141, 143, 144, 157]⟩ : ByteArray).data.toList s[0] = r at *
  have HI := Lib.hid hI
  clear hI
  have hr : r < 0 := by omega
  clear hl
  go_enter Try.func10, Try.ntmps10
  go_wp2_with (first
      | (go_at_call 15; refine (HI.out _).mono ?_; rintro e w' ⟨rfl, rfl⟩)
      | (go_at_call 14; refine (ref_in_t _ _ _ _ (by omega)).mono ?_; rintro e w' ⟨rfl, rfl⟩)
      | (go_at_call 14; refine (ref_in_f _ _ _ _ (by omega)).mono ?_; rintro e w' ⟨rfl, rfl⟩))
  refine bodyPost_ret (v := .tuple #[_, .int .i64 1, .int .i64 0]) (by simp [results, Try.results10, go_sem] <;> rfl) rfl ⟨_, rfl, ints_lit1 _ _ _ _ ?_ ?_, ?_⟩
  · first | exact heap_new _ _ _ (by simp) | exact (heap_old _ _ _ (by simp)).trans (heap_new _ _ _ (by simp))
  · omega
  repeat (first | exact Below.refl _ _ | apply Below.drew | apply below_alloc)

theorem ref_piece4 (s : ByteArray) (h0 : 0 < s.size) (hs : s.size ≤ maxLen) (m : Int) (w : World) :
    Calls Try.prog 10 #[.int .i64 4, .string s, .int .i64 m] w (PostP (pieceF 4 (nums s) m) w) := by
  have hp : pieceF 4 (nums s) m = ([latinS (s[0].toNat : Int)], 1, 0) := by
    rw [← getF_nums s 0 h0]; rfl
  rw [hp]
  unfold latinS
  by_cases hc : ((s[0].toNat : Int) = 129 ∨ (s[0].toNat : Int) = 141 ∨ (s[0].toNat : Int) = 143 ∨ (s[0].toNat : Int) = 144 ∨ (s[0].toNat : Int) = 157)
  · rw [if_pos hc]
    exact latin_bad s h0 hs m hc w
  rw [if_neg hc]
  by_cases h1 : (128 : Int) ≤ (s[0].toNat : Int) ∧ (s[0].toNat : Int) < 160
  · rw [if_pos h1]
    exact latin_mid s h0 hs m hc h1.1 (by omega) w
  · rw [if_neg h1]
    exact latin_one s h0 hs m hc (by omega) w

set_option maxRecDepth 100000 in
set_option maxHeartbeats 4000000 in
theorem twin_ascii' (s : ByteArray) (h0 : 0 < s.size) (hs : s.size ≤ maxLen) (m : Int) (h1 : (s[0].toNat : Int) < 128) (w : World) :
    Calls Try.prog 10 #[.int .i64 3, .string s, .int .i64 m] w (PostP ([(s[0].toNat : Int)], 1, 0) w) := by
  have hs0 := hs
  unfold maxLen at hs
  have hii : (0 : Int) < (s.size : Int) := by omega
  have hwb := wrap64_byte s[0]
  have hwc : IntKind.i64.wrap (s[0].toNat : Int) = (s[0].toNat : Int) := wraps_i64 _ (by omega) (by have := byte_le s[0]; omega)
  have hle := byte_le s[0]
  have hmf := hmf
  have hst := hstf
  have hg := getF_range s 1
  have hG : ∀ W : World, W.cell? ⟨w.heap.size + 1, 0, none⟩ = some (.string s) → Calls Try.prog 13 #[.int .i64 1, .pointer (some ⟨w.heap.size + 1, 0, none⟩)] W fun e w' => e = .returned (.int .i64 (getF (nums s) 1)) ∧ W = w' :=
    fun W h => ref_get s hs 1 (w.heap.size + 1) W h
  generalize getF (nums s) 1 = x at *
  have HG := Lib.hid hG
  clear hG
  go_enter Try.func10, Try.ntmps10
  go_wp2_with (first
      | (go_at_call 13; refine (HG.out _ (by simp [go_sem])).mono ?_; rintro e w' ⟨rfl, rfl⟩)
      | (go_at_call 14; refine (ref_in_t _ _ _ _ (by omega)).mono ?_; rintro e w' ⟨rfl, rfl⟩)
      | (go_at_call 14; refine (ref_in_f _ _ _ _ (by omega)).mono ?_; rintro e w' ⟨rfl, rfl⟩))
  refine bodyPost_ret (v := .tuple #[_, .int .i64 1, .int .i64 0]) (by simp [results, Try.results10, go_sem] <;> rfl) rfl ⟨_, rfl, ints_lit1 _ _ _ _ ?_ ?_, ?_⟩
  · first | exact heap_new _ _ _ (by simp) | exact (heap_old _ _ _ (by simp)).trans (heap_new _ _ _ (by simp))
  · omega
  repeat (first | exact Below.refl _ _ | apply Below.drew | apply below_alloc)

set_option maxRecDepth 100000 in
set_option maxHeartbeats 4000000 in
theorem twin_half' (s : ByteArray) (h0 : 0 < s.size) (hs : s.size ≤ maxLen) (m : Int) (h1 : 161 ≤ (s[0].toNat : Int)) (h2 : (s[0].toNat : Int) ≤ 223) (w : World) :
    Calls Try.prog 10 #[.int .i64 3, .string s, .int .i64 m] w (PostP ([65377 + (s[0].toNat : Int) - 161], 1, 0) w) := by
  have hs0 := hs
  unfold maxLen at hs
  have hii : (0 : Int) < (s.size : Int) := by omega
  have hwb := wrap64_byte s[0]
  have hwc : IntKind.i64.wrap (s[0].toNat : Int) = (s[0].toNat : Int) := wraps_i64 _ (by omega) (by have := byte_le s[0]; omega)
  have hle := byte_le s[0]
  have hmf := hmf
  have hst := hstf
  have hg := getF_range s 1
  have hG : ∀ W : World, W.cell? ⟨w.heap.size + 1, 0, none⟩ = some (.string s) → Calls Try.prog 13 #[.int .i64 1, .pointer (some ⟨w.heap.size + 1, 0, none⟩)] W fun e w' => e = .returned (.int .i64 (getF (nums s) 1)) ∧ W = w' :=
    fun W h => ref_get s hs 1 (w.heap.size + 1) W h
  generalize getF (nums s) 1 = x at *
  have HG := Lib.hid hG
  clear hG
  go_enter Try.func10, Try.ntmps10
  go_wp2_with (first
      | (go_at_call 13; refine (HG.out _ (by simp [go_sem])).mono ?_; rintro e w' ⟨rfl, rfl⟩)
      | (go_at_call 14; refine (ref_in_t _ _ _ _ (by omega)).mono ?_; rintro e w' ⟨rfl, rfl⟩)
      | (go_at_call 14; refine (ref_in_f _ _ _ _ (by omega)).mono ?_; rintro e w' ⟨rfl, rfl⟩))
  refine bodyPost_ret (v := .tuple #[_, .int .i64 1, .int .i64 0]) (by simp [results, Try.results10, go_sem] <;> rfl) rfl ⟨_, rfl, ints_lit1 _ _ _ _ ?_ ?_, ?_⟩
  · first | exact heap_new _ _ _ (by simp) | exact (heap_old _ _ _ (by simp)).trans (heap_new _ _ _ (by simp))
  · omega
  repeat (first | exact Below.refl _ _ | apply Below.drew | apply below_alloc)

set_option maxRecDepth 100000 in
set_option maxHeartbeats 4000000 in
theorem twin_no' (s : ByteArray) (h0 : 0 < s.size) (hs : s.size ≤ maxLen) (m : Int) (h1 : (s[0].toNat : Int) = 128 ∨ (s[0].toNat : Int) = 160 ∨ 223 < (s[0].toNat : Int)) (w : World) :
    Calls Try.prog 10 #[.int .i64 3, .string s, .int .i64 m] w (PostP ([-1], 1, 0) w) := by
  have hs0 := hs
  unfold maxLen at hs
  have hii : (0 : Int) < (s.size : Int) := by omega
  have hwb := wrap64_byte s[0]
  have hwc : IntKind.i64.wrap (s[0].toNat : Int) = (s[0].toNat : Int) := wraps_i64 _ (by omega) (by have := byte_le s[0]; omega)
  have hle := byte_le s[0]
  have hmf := hmf
  have hst := hstf
  have hg := getF_range s 1
  have hG : ∀ W : World, W.cell? ⟨w.heap.size + 1, 0, none⟩ = some (.string s) → Calls Try.prog 13 #[.int .i64 1, .pointer (some ⟨w.heap.size + 1, 0, none⟩)] W fun e w' => e = .returned (.int .i64 (getF (nums s) 1)) ∧ W = w' :=
    fun W h => ref_get s hs 1 (w.heap.size + 1) W h
  generalize getF (nums s) 1 = x at *
  have HG := Lib.hid hG
  clear hG
  go_enter Try.func10, Try.ntmps10
  go_wp2_with (first
      | (go_at_call 13; refine (HG.out _ (by simp [go_sem])).mono ?_; rintro e w' ⟨rfl, rfl⟩)
      | (go_at_call 14; refine (ref_in_t _ _ _ _ (by omega)).mono ?_; rintro e w' ⟨rfl, rfl⟩)
      | (go_at_call 14; refine (ref_in_f _ _ _ _ (by omega)).mono ?_; rintro e w' ⟨rfl, rfl⟩))
  refine bodyPost_ret (v := .tuple #[_, .int .i64 1, .int .i64 0]) (by simp [results, Try.results10, go_sem] <;> rfl) rfl ⟨_, rfl, ints_lit1 _ _ _ _ ?_ ?_, ?_⟩
  · first | exact heap_new _ _ _ (by simp) | exact (heap_old _ _ _ (by simp)).trans (heap_new _ _ _ (by simp))
  · omega
  repeat (first | exact Below.refl _ _ | apply Below.drew | apply below_alloc)

set_option maxRecDepth 100000 in
set_option maxHeartbeats 4000000 in
theorem twin_lo' (s : ByteArray) (h0 : 0 < s.size) (hs : s.size ≤ maxLen) (m : Int) (h1 : 129 ≤ (s[0].toNat : Int)) (h2 : (s[0].toNat : Int) ≤ 159) (h3 : 64 ≤ getF (nums s) 1) (h4 : getF (nums s) 1 ≤ 126) (w : World) :
    Calls Try.prog 10 #[.int .i64 3, .string s, .int .i64 m] w (PostP ([19968 + 188 * ((s[0].toNat : Int) - 129) + getF (nums s) 1 - 64], 2, 0) w) := by
  have hs0 := hs
  unfold maxLen at hs
  have hii : (0 : Int) < (s.size : Int) := by omega
  have hwb := wrap64_byte s[0]
  have hwc : IntKind.i64.wrap (s[0].toNat : Int) = (s[0].toNat : Int) := wraps_i64 _ (by omega) (by have := byte_le s[0]; omega)
  have hle := byte_le s[0]
  have hmf := hmf
  have hst := hstf
  have hg := getF_range s 1
  have hG : ∀ W : World, W.cell? ⟨w.heap.size + 1, 0, none⟩ = some (.string s) → Calls Try.prog 13 #[.int .i64 1, .pointer (some ⟨w.heap.size + 1, 0, none⟩)] W fun e w' => e = .returned (.int .i64 (getF (nums s) 1)) ∧ W = w' :=
    fun W h => ref_get s hs 1 (w.heap.size + 1) W h
  generalize getF (nums s) 1 = x at *
  have HG := Lib.hid hG
  clear hG
  go_enter Try.func10, Try.ntmps10
  go_wp2_with (first
      | (go_at_call 13; refine (HG.out _ (by simp [go_sem])).mono ?_; rintro e w' ⟨rfl, rfl⟩)
      | (go_at_call 14; refine (ref_in_t _ _ _ _ (by omega)).mono ?_; rintro e w' ⟨rfl, rfl⟩)
      | (go_at_call 14; refine (ref_in_f _ _ _ _ (by omega)).mono ?_; rintro e w' ⟨rfl, rfl⟩))
  refine bodyPost_ret (v := .tuple #[_, .int .i64 2, .int .i64 0]) (by simp [results, Try.results10, go_sem] <;> rfl) rfl ⟨_, rfl, ints_lit1 _ _ _ _ ?_ ?_, ?_⟩
  · first | exact heap_new _ _ _ (by simp) | exact (heap_old _ _ _ (by simp)).trans (heap_new _ _ _ (by simp))
  · omega
  repeat (first | exact Below.refl _ _ | apply Below.drew | apply below_alloc)

set_option maxRecDepth 100000 in
set_option maxHeartbeats 4000000 in
theorem twin_hi' (s : ByteArray) (h0 : 0 < s.size) (hs : s.size ≤ maxLen) (m : Int) (h1 : 129 ≤ (s[0].toNat : Int)) (h2 : (s[0].toNat : Int) ≤ 159) (h3 : 128 ≤ getF (nums s) 1) (h4 : getF (nums s) 1 ≤ 252) (w : World) :
    Calls Try.prog 10 #[.int .i64 3, .string s, .int .i64 m] w (PostP ([19968 + 188 * ((s[0].toNat : Int) - 129) + getF (nums s) 1 - 65], 2, 0) w) := by
  have hs0 := hs
  unfold maxLen at hs
  have hii : (0 : Int) < (s.size : Int) := by omega
  have hwb := wrap64_byte s[0]
  have hwc : IntKind.i64.wrap (s[0].toNat : Int) = (s[0].toNat : Int) := wraps_i64 _ (by omega) (by have := byte_le s[0]; omega)
  have hle := byte_le s[0]
  have hmf := hmf
  have hst := hstf
  have hg := getF_range s 1
  have hG : ∀ W : World, W.cell? ⟨w.heap.size + 1, 0, none⟩ = some (.string s) → Calls Try.prog 13 #[.int .i64 1, .pointer (some ⟨w.heap.size + 1, 0, none⟩)] W fun e w' => e = .returned (.int .i64 (getF (nums s) 1)) ∧ W = w' :=
    fun W h => ref_get s hs 1 (w.heap.size + 1) W h
  generalize getF (nums s) 1 = x at *
  have HG := Lib.hid hG
  clear hG
  go_enter Try.func10, Try.ntmps10
  go_wp2_with (first
      | (go_at_call 13; refine (HG.out _ (by simp [go_sem])).mono ?_; rintro e w' ⟨rfl, rfl⟩)
      | (go_at_call 14; refine (ref_in_t _ _ _ _ (by omega)).mono ?_; rintro e w' ⟨rfl, rfl⟩)
      | (go_at_call 14; refine (ref_in_f _ _ _ _ (by omega)).mono ?_; rintro e w' ⟨rfl, rfl⟩))
  refine bodyPost_ret (v := .tuple #[_, .int .i64 2, .int .i64 0]) (by simp [results, Try.results10, go_sem] <;> rfl) rfl ⟨_, rfl, ints_lit1 _ _ _ _ ?_ ?_, ?_⟩
  · first | exact heap_new _ _ _ (by simp) | exact (heap_old _ _ _ (by simp)).trans (heap_new _ _ _ (by simp))
  · omega
  repeat (first | exact Below.refl _ _ | apply Below.drew | apply below_alloc)

set_option maxRecDepth 100000 in
set_option maxHeartbeats 4000000 in
theorem twin_two' (s : ByteArray) (h0 : 0 < s.size) (hs : s.size ≤ maxLen) (m : Int) (h1 : 129 ≤ (s[0].toNat : Int)) (h2 : (s[0].toNat : Int) ≤ 159) (h3 : 252 < getF (nums s) 1) (w : World) :
    Calls Try.prog 10 #[.int .i64 3, .string s, .int .i64 m] w (PostP ([-1], 2, 0) w) := by
  have hs0 := hs
  unfold maxLen at hs
  have hii : (0 : Int) < (s.size : Int) := by omega
  have hwb := wrap64_byte s[0]
  have hwc : IntKind.i64.wrap (s[0].toNat : Int) = (s[0].toNat : Int) := wraps_i64 _ (by omega) (by have := byte_le s[0]; omega)
  have hle := byte_le s[0]
  have hmf := hmf
  have hst := hstf
  have hg := getF_range s 1
  have hG : ∀ W : World, W.cell? ⟨w.heap.size + 1, 0, none⟩ = some (.string s) → Calls Try.prog 13 #[.int .i64 1, .pointer (some ⟨w.heap.size + 1, 0, none⟩)] W fun e w' => e = .returned (.int .i64 (getF (nums s) 1)) ∧ W = w' :=
    fun W h => ref_get s hs 1 (w.heap.size + 1) W h
  generalize getF (nums s) 1 = x at *
  have HG := Lib.hid hG
  clear hG
  go_enter Try.func10, Try.ntmps10
  go_wp2_with (first
      | (go_at_call 13; refine (HG.out _ (by simp [go_sem])).mono ?_; rintro e w' ⟨rfl, rfl⟩)
      | (go_at_call 14; refine (ref_in_t _ _ _ _ (by omega)).mono ?_; rintro e w' ⟨rfl, rfl⟩)
      | (go_at_call 14; refine (ref_in_f _ _ _ _ (by omega)).mono ?_; rintro e w' ⟨rfl, rfl⟩))
  refine bodyPost_ret (v := .tuple #[_, .int .i64 2, .int .i64 0]) (by simp [results, Try.results10, go_sem] <;> rfl) rfl ⟨_, rfl, ints_lit1 _ _ _ _ ?_ ?_, ?_⟩
  · first | exact heap_new _ _ _ (by simp) | exact (heap_old _ _ _ (by simp)).trans (heap_new _ _ _ (by simp))
  · omega
  repeat (first | exact Below.refl _ _ | apply Below.drew | apply below_alloc)

set_option maxRecDepth 100000 in
set_option maxHeartbeats 4000000 in
theorem twin_bad' (s : ByteArray) (h0 : 0 < s.size) (hs : s.size ≤ maxLen) (m : Int) (h1 : 129 ≤ (s[0].toNat : Int)) (h2 : (s[0].toNat : Int) ≤ 159) (h3 : getF (nums s) 1 < 64 ∨ getF (nums s) 1 = 127) (w : World) :
    Calls Try.prog 10 #[.int .i64 3, .string s, .int .i64 m] w (PostP ([-1], 1, 0) w) := by
  have hs0 := hs
  unfold maxLen at hs
  have hii : (0 : Int) < (s.size : Int) := by omega
  have hwb := wrap64_byte s[0]
  have hwc : IntKind.i64.wrap (s[0].toNat : Int) = (s[0].toNat : Int) := wraps_i64 _ (by omega) (by have := byte_le s[0]; omega)
  have hle := byte_le s[0]
  have hmf := hmf
  have hst := hstf
  have hg := getF_range s 1
  have hG : ∀ W : World, W.cell? ⟨w.heap.size + 1, 0, none⟩ = some (.string s) → Calls Try.prog 13 #[.int .i64 1, .pointer (some ⟨w.heap.size + 1, 0, none⟩)] W fun e w' => e = .returned (.int .i64 (getF (nums s) 1)) ∧ W = w' :=
    fun W h => ref_get s hs 1 (w.heap.size + 1) W h
  generalize getF (nums s) 1 = x at *
  have HG := Lib.hid hG
  clear hG
  go_enter Try.func10, Try.ntmps10
  go_wp2_with (first
      | (go_at_call 13; refine (HG.out _ (by simp [go_sem])).mono ?_; rintro e w' ⟨rfl, rfl⟩)
      | (go_at_call 14; refine (ref_in_t _ _ _ _ (by omega)).mono ?_; rintro e w' ⟨rfl, rfl⟩)
      | (go_at_call 14; refine (ref_in_f _ _ _ _ (by omega)).mono ?_; rintro e w' ⟨rfl, rfl⟩))
  refine bodyPost_ret (v := .tuple #[_, .int .i64 1, .int .i64 0]) (by simp [results, Try.results10, go_sem] <;> rfl) rfl ⟨_, rfl, ints_lit1 _ _ _ _ ?_ ?_, ?_⟩
  · first | exact heap_new _ _ _ (by simp) | exact (heap_old _ _ _ (by simp)).trans (heap_new _ _ _ (by simp))
  · omega
  repeat (first | exact Below.refl _ _ | apply Below.drew | apply below_alloc)

theorem ref_piece3 (s : ByteArray) (h0 : 0 < s.size) (hs : s.size ≤ maxLen) (m : Int) (w : World) :
    Calls Try.prog 10 #[.int .i64 3, .string s, .int .i64 m] w (PostP (pieceF 3 (nums s) m) w) := by
  have hp : pieceF 3 (nums s) m = pieceTwin (nums s) (s[0].toNat : Int) := by
    rw [← getF_nums s 0 h0]; rfl
  rw [hp]
  unfold pieceTwin
  by_cases c1 : (s[0].toNat : Int) < 128
  · rw [if_pos c1]; exact twin_ascii' s h0 hs m c1 w
  rw [if_neg c1]
  by_cases c2 : (161 : Int) ≤ (s[0].toNat : Int) ∧ (s[0].toNat : Int) ≤ 223
  · rw [if_pos c2]; exact twin_half' s h0 hs m c2.1 c2.2 w
  rw [if_neg c2]
  by_cases c3 : ¬ ((129 : Int) ≤ (s[0].toNat : Int) ∧ (s[0].toNat : Int) ≤ 159)
  · rw [if_pos c3]; exact twin_no' s h0 hs m (by omega) w
  rw [if_neg c3]
  by_cases c4 : (64 : Int) ≤ getF (nums s) 1 ∧ getF (nums s) 1 ≤ 126
  · rw [if_pos c4]; exact twin_lo' s h0 hs m (by omega) (by omega) c4.1 c4.2 w
  rw [if_neg c4]
  by_cases c5 : (128 : Int) ≤ getF (nums s) 1 ∧ getF (nums s) 1 ≤ 252
  · rw [if_pos c5]; exact twin_hi' s h0 hs m (by omega) (by omega) c5.1 c5.2 w
  rw [if_neg c5]
  by_cases c6 : (128 : Int) ≤ getF (nums s) 1
  · rw [if_pos c6]; exact twin_two' s h0 hs m (by omega) (by omega) (by omega) w
  · rw [if_neg c6]; exact twin_bad' s h0 hs m (by omega) (by omega) (by omega) w

end Go.Proofs.Ytefohnbmifblkab
