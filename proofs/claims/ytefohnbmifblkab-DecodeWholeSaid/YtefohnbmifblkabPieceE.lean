/- The reference's function piece, for Shift. -/
import Derived.Test.YtefohnbmifblkabPieceA
namespace Go.Proofs.Ytefohnbmifblkab
open Go.RowKit
set_option linter.unusedVariables false

set_option maxRecDepth 100000 in
set_option maxHeartbeats 4000000 in
theorem shift_b (s : ByteArray) (h0 : 0 < s.size) (hs : s.size ≤ maxLen) (m : Int) (hA :  (getF (nums s) 0 = 27 ∧ getF (nums s) 1 = 40 ∧ getF (nums s) 2 = 66)) (w : World) :
    Calls Try.prog 10 #[.int .i64 2, .string s, .int .i64 m] w (PostP ([], 3, 0) w) := by
  have hs0 := hs
  unfold maxLen at hs
  have hii : (0 : Int) < (s.size : Int) := by omega
  have hwb := wrap64_byte s[0]
  have hwc : IntKind.i64.wrap (s[0].toNat : Int) = (s[0].toNat : Int) := wraps_i64 _ (by omega) (by have := byte_le s[0]; omega)
  have hle := byte_le s[0]
  have hmf := hmf
  have hst := hstf
  have HA := Lib.hid (fun W => (lib_prefix s ⟨#[27, 40, 66]⟩ W))
  have HA' : Hid (∀ W, Calls Try.prog 17 #[.string s, .string ⟨#[27, 40, 66]⟩] W fun e w' => e = .returned (.bool true) ∧ W = w') := Lib.hid (fun W => by
    have h := HA.out W
    rw [show (⟨#[27, 40, 66]⟩ : ByteArray).data.toList = [27, 40, 66] from rfl, prefix3 s] at h
    rwa [decide_eq_true (by simpa using hA)] at h)
  clear HA
  go_enter Try.func10, Try.ntmps10
  go_wp2_with (first
      | (go_at_call 17; refine (HA'.out _).mono ?_; rintro e w' ⟨rfl, rfl⟩))
  refine bodyPost_ret (v := .tuple #[.slice none 0 0, .int .i64 3, .int .i64 0]) (by simp [results, Try.results10, go_sem]) rfl ⟨_, rfl, ints_nil _ _, ?_⟩
  repeat (first | exact Below.refl _ _ | apply Below.drew | apply below_alloc)

set_option maxRecDepth 100000 in
set_option maxHeartbeats 4000000 in
theorem shift_d (s : ByteArray) (h0 : 0 < s.size) (hs : s.size ≤ maxLen) (m : Int) (hA : ¬ (getF (nums s) 0 = 27 ∧ getF (nums s) 1 = 40 ∧ getF (nums s) 2 = 66)) (hB :  (getF (nums s) 0 = 27 ∧ getF (nums s) 1 = 36 ∧ getF (nums s) 2 = 66)) (w : World) :
    Calls Try.prog 10 #[.int .i64 2, .string s, .int .i64 m] w (PostP ([], 3, 1) w) := by
  have hs0 := hs
  unfold maxLen at hs
  have hii : (0 : Int) < (s.size : Int) := by omega
  have hwb := wrap64_byte s[0]
  have hwc : IntKind.i64.wrap (s[0].toNat : Int) = (s[0].toNat : Int) := wraps_i64 _ (by omega) (by have := byte_le s[0]; omega)
  have hle := byte_le s[0]
  have hmf := hmf
  have hst := hstf
  have HA := Lib.hid (fun W => (lib_prefix s ⟨#[27, 40, 66]⟩ W))
  have HA' : Hid (∀ W, Calls Try.prog 17 #[.string s, .string ⟨#[27, 40, 66]⟩] W fun e w' => e = .returned (.bool false) ∧ W = w') := Lib.hid (fun W => by
    have h := HA.out W
    rw [show (⟨#[27, 40, 66]⟩ : ByteArray).data.toList = [27, 40, 66] from rfl, prefix3 s] at h
    rwa [decide_eq_false (by simpa using hA)] at h)
  clear HA
  have HB := Lib.hid (fun W => (lib_prefix s ⟨#[27, 36, 66]⟩ W))
  have HB' : Hid (∀ W, Calls Try.prog 17 #[.string s, .string ⟨#[27, 36, 66]⟩] W fun e w' => e = .returned (.bool true) ∧ W = w') := Lib.hid (fun W => by
    have h := HB.out W
    rw [show (⟨#[27, 36, 66]⟩ : ByteArray).data.toList = [27, 36, 66] from rfl, prefix3 s] at h
    rwa [decide_eq_true (by simpa using hB)] at h)
  clear HB
  go_enter Try.func10, Try.ntmps10
  go_wp2_with (first
      | (go_at_call 17; refine (HA'.out _).mono ?_; rintro e w' ⟨rfl, rfl⟩)
      | (go_at_call 17; refine (HB'.out _).mono ?_; rintro e w' ⟨rfl, rfl⟩))
  refine bodyPost_ret (v := .tuple #[.slice none 0 0, .int .i64 3, .int .i64 1]) (by simp [results, Try.results10, go_sem]) rfl ⟨_, rfl, ints_nil _ _, ?_⟩
  repeat (first | exact Below.refl _ _ | apply Below.drew | apply below_alloc)

set_option maxRecDepth 100000 in
set_option maxHeartbeats 4000000 in
theorem shift_mark1 (s : ByteArray) (h0 : 0 < s.size) (hs : s.size ≤ maxLen) (m : Int) (hA : ¬ (getF (nums s) 0 = 27 ∧ getF (nums s) 1 = 40 ∧ getF (nums s) 2 = 66)) (hB : ¬ (getF (nums s) 0 = 27 ∧ getF (nums s) 1 = 36 ∧ getF (nums s) 2 = 66)) (h1 : (s[0].toNat : Int) = 27) (w : World) :
    Calls Try.prog 10 #[.int .i64 2, .string s, .int .i64 m] w (PostP ([-1], 1, m) w) := by
  have hs0 := hs
  unfold maxLen at hs
  have hii : (0 : Int) < (s.size : Int) := by omega
  have hwb := wrap64_byte s[0]
  have hwc : IntKind.i64.wrap (s[0].toNat : Int) = (s[0].toNat : Int) := wraps_i64 _ (by omega) (by have := byte_le s[0]; omega)
  have hle := byte_le s[0]
  have hmf := hmf
  have hst := hstf
  have HA := Lib.hid (fun W => (lib_prefix s ⟨#[27, 40, 66]⟩ W))
  have HA' : Hid (∀ W, Calls Try.prog 17 #[.string s, .string ⟨#[27, 40, 66]⟩] W fun e w' => e = .returned (.bool false) ∧ W = w') := Lib.hid (fun W => by
    have h := HA.out W
    rw [show (⟨#[27, 40, 66]⟩ : ByteArray).data.toList = [27, 40, 66] from rfl, prefix3 s] at h
    rwa [decide_eq_false (by simpa using hA)] at h)
  clear HA
  have HB := Lib.hid (fun W => (lib_prefix s ⟨#[27, 36, 66]⟩ W))
  have HB' : Hid (∀ W, Calls Try.prog 17 #[.string s, .string ⟨#[27, 36, 66]⟩] W fun e w' => e = .returned (.bool false) ∧ W = w') := Lib.hid (fun W => by
    have h := HB.out W
    rw [show (⟨#[27, 36, 66]⟩ : ByteArray).data.toList = [27, 36, 66] from rfl, prefix3 s] at h
    rwa [decide_eq_false (by simpa using hB)] at h)
  clear HB
  clear hA hB
  go_enter Try.func10, Try.ntmps10
  go_wp2_with (first
      | (go_at_call 17; refine (HA'.out _).mono ?_; rintro e w' ⟨rfl, rfl⟩)
      | (go_at_call 17; refine (HB'.out _).mono ?_; rintro e w' ⟨rfl, rfl⟩)
      | (go_at_call 14; refine (ref_in_t _ _ _ _ (by omega)).mono ?_; rintro e w' ⟨rfl, rfl⟩)
      | (go_at_call 14; refine (ref_in_f _ _ _ _ (by omega)).mono ?_; rintro e w' ⟨rfl, rfl⟩))
  refine bodyPost_ret (v := .tuple #[_, .int .i64 1, .int .i64 m]) (by simp [results, Try.results10, go_sem] <;> rfl) rfl ⟨_, rfl, ints_lit1 _ _ _ _ ?_ ?_, ?_⟩
  · first | exact heap_new _ _ _ (by simp) | exact (heap_old _ _ _ (by simp)).trans (heap_new _ _ _ (by simp))
  · omega
  repeat (first | exact Below.refl _ _ | apply Below.drew | apply below_alloc)

set_option maxRecDepth 100000 in
set_option maxHeartbeats 4000000 in
theorem shift_0bad (s : ByteArray) (h0 : 0 < s.size) (hs : s.size ≤ maxLen) (hA : ¬ (getF (nums s) 0 = 27 ∧ getF (nums s) 1 = 40 ∧ getF (nums s) 2 = 66)) (hB : ¬ (getF (nums s) 0 = 27 ∧ getF (nums s) 1 = 36 ∧ getF (nums s) 2 = 66)) (h1 : (s[0].toNat : Int) ≠ 27) (h2 : 127 < (s[0].toNat : Int)) (w : World) :
    Calls Try.prog 10 #[.int .i64 2, .string s, .int .i64 0] w (PostP ([-1], 1, 0) w) := by
  have hs0 := hs
  unfold maxLen at hs
  have hii : (0 : Int) < (s.size : Int) := by omega
  have hwb := wrap64_byte s[0]
  have hwc : IntKind.i64.wrap (s[0].toNat : Int) = (s[0].toNat : Int) := wraps_i64 _ (by omega) (by have := byte_le s[0]; omega)
  have hle := byte_le s[0]
  have hmf := hmf
  have hst := hstf
  have HA := Lib.hid (fun W => (lib_prefix s ⟨#[27, 40, 66]⟩ W))
  have HA' : Hid (∀ W, Calls Try.prog 17 #[.string s, .string ⟨#[27, 40, 66]⟩] W fun e w' => e = .returned (.bool false) ∧ W = w') := Lib.hid (fun W => by
    have h := HA.out W
    rw [show (⟨#[27, 40, 66]⟩ : ByteArray).data.toList = [27, 40, 66] from rfl, prefix3 s] at h
    rwa [decide_eq_false (by simpa using hA)] at h)
  clear HA
  have HB := Lib.hid (fun W => (lib_prefix s ⟨#[27, 36, 66]⟩ W))
  have HB' : Hid (∀ W, Calls Try.prog 17 #[.string s, .string ⟨#[27, 36, 66]⟩] W fun e w' => e = .returned (.bool false) ∧ W = w') := Lib.hid (fun W => by
    have h := HB.out W
    rw [show (⟨#[27, 36, 66]⟩ : ByteArray).data.toList = [27, 36, 66] from rfl, prefix3 s] at h
    rwa [decide_eq_false (by simpa using hB)] at h)
  clear HB
  clear hA hB
  go_enter Try.func10, Try.ntmps10
  go_wp2_with (first
      | (go_at_call 17; refine (HA'.out _).mono ?_; rintro e w' ⟨rfl, rfl⟩)
      | (go_at_call 17; refine (HB'.out _).mono ?_; rintro e w' ⟨rfl, rfl⟩)
      | (go_at_call 14; refine (ref_in_t _ _ _ _ (by omega)).mono ?_; rintro e w' ⟨rfl, rfl⟩)
      | (go_at_call 14; refine (ref_in_f _ _ _ _ (by omega)).mono ?_; rintro e w' ⟨rfl, rfl⟩))
  refine bodyPost_ret (v := .tuple #[_, .int .i64 1, .int .i64 0]) (by simp [results, Try.results10, go_sem] <;> rfl) rfl ⟨_, rfl, ints_lit1 _ _ _ _ ?_ ?_, ?_⟩
  · first | exact heap_new _ _ _ (by simp) | exact (heap_old _ _ _ (by simp)).trans (heap_new _ _ _ (by simp))
  · omega
  repeat (first | exact Below.refl _ _ | apply Below.drew | apply below_alloc)

set_option maxRecDepth 100000 in
set_option maxHeartbeats 4000000 in
theorem shift_0bad14 (s : ByteArray) (h0 : 0 < s.size) (hs : s.size ≤ maxLen) (hA : ¬ (getF (nums s) 0 = 27 ∧ getF (nums s) 1 = 40 ∧ getF (nums s) 2 = 66)) (hB : ¬ (getF (nums s) 0 = 27 ∧ getF (nums s) 1 = 36 ∧ getF (nums s) 2 = 66)) (h2 : (s[0].toNat : Int) = 14) (w : World) :
    Calls Try.prog 10 #[.int .i64 2, .string s, .int .i64 0] w (PostP ([-1], 1, 0) w) := by
  have hs0 := hs
  unfold maxLen at hs
  have hii : (0 : Int) < (s.size : Int) := by omega
  have hwb := wrap64_byte s[0]
  have hwc : IntKind.i64.wrap (s[0].toNat : Int) = (s[0].toNat : Int) := wraps_i64 _ (by omega) (by have := byte_le s[0]; omega)
  have hle := byte_le s[0]
  have hmf := hmf
  have hst := hstf
  have HA := Lib.hid (fun W => (lib_prefix s ⟨#[27, 40, 66]⟩ W))
  have HA' : Hid (∀ W, Calls Try.prog 17 #[.string s, .string ⟨#[27, 40, 66]⟩] W fun e w' => e = .returned (.bool false) ∧ W = w') := Lib.hid (fun W => by
    have h := HA.out W
    rw [show (⟨#[27, 40, 66]⟩ : ByteArray).data.toList = [27, 40, 66] from rfl, prefix3 s] at h
    rwa [decide_eq_false (by simpa using hA)] at h)
  clear HA
  have HB := Lib.hid (fun W => (lib_prefix s ⟨#[27, 36, 66]⟩ W))
  have HB' : Hid (∀ W, Calls Try.prog 17 #[.string s, .string ⟨#[27, 36, 66]⟩] W fun e w' => e = .returned (.bool false) ∧ W = w') := Lib.hid (fun W => by
    have h := HB.out W
    rw [show (⟨#[27, 36, 66]⟩ : ByteArray).data.toList = [27, 36, 66] from rfl, prefix3 s] at h
    rwa [decide_eq_false (by simpa using hB)] at h)
  clear HB
  clear hA hB
  go_enter Try.func10, Try.ntmps10
  go_wp2_with (first
      | (go_at_call 17; refine (HA'.out _).mono ?_; rintro e w' ⟨rfl, rfl⟩)
      | (go_at_call 17; refine (HB'.out _).mono ?_; rintro e w' ⟨rfl, rfl⟩)
      | (go_at_call 14; refine (ref_in_t _ _ _ _ (by omega)).mono ?_; rintro e w' ⟨rfl, rfl⟩)
      | (go_at_call 14; refine (ref_in_f _ _ _ _ (by omega)).mono ?_; rintro e w' ⟨rfl, rfl⟩))
  refine bodyPost_ret (v := .tuple #[_, .int .i64 1, .int .i64 0]) (by simp [results, Try.results10, go_sem] <;> rfl) rfl ⟨_, rfl, ints_lit1 _ _ _ _ ?_ ?_, ?_⟩
  · first | exact heap_new _ _ _ (by simp) | exact (heap_old _ _ _ (by simp)).trans (heap_new _ _ _ (by simp))
  · omega
  repeat (first | exact Below.refl _ _ | apply Below.drew | apply below_alloc)

set_option maxRecDepth 100000 in
set_option maxHeartbeats 4000000 in
theorem shift_0bad15 (s : ByteArray) (h0 : 0 < s.size) (hs : s.size ≤ maxLen) (hA : ¬ (getF (nums s) 0 = 27 ∧ getF (nums s) 1 = 40 ∧ getF (nums s) 2 = 66)) (hB : ¬ (getF (nums s) 0 = 27 ∧ getF (nums s) 1 = 36 ∧ getF (nums s) 2 = 66)) (h2 : (s[0].toNat : Int) = 15) (w : World) :
    Calls Try.prog 10 #[.int .i64 2, .string s, .int .i64 0] w (PostP ([-1], 1, 0) w) := by
  have hs0 := hs
  unfold maxLen at hs
  have hii : (0 : Int) < (s.size : Int) := by omega
  have hwb := wrap64_byte s[0]
  have hwc : IntKind.i64.wrap (s[0].toNat : Int) = (s[0].toNat : Int) := wraps_i64 _ (by omega) (by have := byte_le s[0]; omega)
  have hle := byte_le s[0]
  have hmf := hmf
  have hst := hstf
  have HA := Lib.hid (fun W => (lib_prefix s ⟨#[27, 40, 66]⟩ W))
  have HA' : Hid (∀ W, Calls Try.prog 17 #[.string s, .string ⟨#[27, 40, 66]⟩] W fun e w' => e = .returned (.bool false) ∧ W = w') := Lib.hid (fun W => by
    have h := HA.out W
    rw [show (⟨#[27, 40, 66]⟩ : ByteArray).data.toList = [27, 40, 66] from rfl, prefix3 s] at h
    rwa [decide_eq_false (by simpa using hA)] at h)
  clear HA
  have HB := Lib.hid (fun W => (lib_prefix s ⟨#[27, 36, 66]⟩ W))
  have HB' : Hid (∀ W, Calls Try.prog 17 #[.string s, .string ⟨#[27, 36, 66]⟩] W fun e w' => e = .returned (.bool false) ∧ W = w') := Lib.hid (fun W => by
    have h := HB.out W
    rw [show (⟨#[27, 36, 66]⟩ : ByteArray).data.toList = [27, 36, 66] from rfl, prefix3 s] at h
    rwa [decide_eq_false (by simpa using hB)] at h)
  clear HB
  clear hA hB
  go_enter Try.func10, Try.ntmps10
  go_wp2_with (first
      | (go_at_call 17; refine (HA'.out _).mono ?_; rintro e w' ⟨rfl, rfl⟩)
      | (go_at_call 17; refine (HB'.out _).mono ?_; rintro e w' ⟨rfl, rfl⟩)
      | (go_at_call 14; refine (ref_in_t _ _ _ _ (by omega)).mono ?_; rintro e w' ⟨rfl, rfl⟩)
      | (go_at_call 14; refine (ref_in_f _ _ _ _ (by omega)).mono ?_; rintro e w' ⟨rfl, rfl⟩))
  refine bodyPost_ret (v := .tuple #[_, .int .i64 1, .int .i64 0]) (by simp [results, Try.results10, go_sem] <;> rfl) rfl ⟨_, rfl, ints_lit1 _ _ _ _ ?_ ?_, ?_⟩
  · first | exact heap_new _ _ _ (by simp) | exact (heap_old _ _ _ (by simp)).trans (heap_new _ _ _ (by simp))
  · omega
  repeat (first | exact Below.refl _ _ | apply Below.drew | apply below_alloc)

set_option maxRecDepth 100000 in
set_option maxHeartbeats 4000000 in
theorem shift_0one (s : ByteArray) (h0 : 0 < s.size) (hs : s.size ≤ maxLen) (hA : ¬ (getF (nums s) 0 = 27 ∧ getF (nums s) 1 = 40 ∧ getF (nums s) 2 = 66)) (hB : ¬ (getF (nums s) 0 = 27 ∧ getF (nums s) 1 = 36 ∧ getF (nums s) 2 = 66)) (h1 : (s[0].toNat : Int) ≠ 27) (h2 : (s[0].toNat : Int) ≠ 14) (h3 : (s[0].toNat : Int) ≠ 15) (h4 : (s[0].toNat : Int) ≤ 127) (w : World) :
    Calls Try.prog 10 #[.int .i64 2, .string s, .int .i64 0] w (PostP ([(s[0].toNat : Int)], 1, 0) w) := by
  have hs0 := hs
  unfold maxLen at hs
  have hii : (0 : Int) < (s.size : Int) := by omega
  have hwb := wrap64_byte s[0]
  have hwc : IntKind.i64.wrap (s[0].toNat : Int) = (s[0].toNat : Int) := wraps_i64 _ (by omega) (by have := byte_le s[0]; omega)
  have hle := byte_le s[0]
  have hmf := hmf
  have hst := hstf
  have HA := Lib.hid (fun W => (lib_prefix s ⟨#[27, 40, 66]⟩ W))
  have HA' : Hid (∀ W, Calls Try.prog 17 #[.string s, .string ⟨#[27, 40, 66]⟩] W fun e w' => e = .returned (.bool false) ∧ W = w') := Lib.hid (fun W => by
    have h := HA.out W
    rw [show (⟨#[27, 40, 66]⟩ : ByteArray).data.toList = [27, 40, 66] from rfl, prefix3 s] at h
    rwa [decide_eq_false (by simpa using hA)] at h)
  clear HA
  have HB := Lib.hid (fun W => (lib_prefix s ⟨#[27, 36, 66]⟩ W))
  have HB' : Hid (∀ W, Calls Try.prog 17 #[.string s, .string ⟨#[27, 36, 66]⟩] W fun e w' => e = .returned (.bool false) ∧ W = w') := Lib.hid (fun W => by
    have h := HB.out W
    rw [show (⟨#[27, 36, 66]⟩ : ByteArray).data.toList = [27, 36, 66] from rfl, prefix3 s] at h
    rwa [decide_eq_false (by simpa using hB)] at h)
  clear HB
  clear hA hB
  have e14 : ((s[0].toNat : Int) == 14) = false := beq_eq_false_iff_ne.2 h2
  have e15 : ((s[0].toNat : Int) == 15) = false := beq_eq_false_iff_ne.2 h3
  go_enter Try.func10, Try.ntmps10
  go_wp2_with (first
      | (go_at_call 17; refine (HA'.out _).mono ?_; rintro e w' ⟨rfl, rfl⟩)
      | (go_at_call 17; refine (HB'.out _).mono ?_; rintro e w' ⟨rfl, rfl⟩)
      | (go_at_call 14; refine (ref_in_t _ _ _ _ (by omega)).mono ?_; rintro e w' ⟨rfl, rfl⟩)
      | (go_at_call 14; refine (ref_in_f _ _ _ _ (by omega)).mono ?_; rintro e w' ⟨rfl, rfl⟩))
  refine bodyPost_ret (v := .tuple #[_, .int .i64 1, .int .i64 0]) (by simp [results, Try.results10, go_sem] <;> rfl) rfl ⟨_, rfl, ints_lit1 _ _ _ _ ?_ ?_, ?_⟩
  · first | exact heap_new _ _ _ (by simp) | exact (heap_old _ _ _ (by simp)).trans (heap_new _ _ _ (by simp))
  · omega
  repeat (first | exact Below.refl _ _ | apply Below.drew | apply below_alloc)

set_option maxRecDepth 100000 in
set_option maxHeartbeats 4000000 in
theorem shift_1end (s : ByteArray) (h0 : 0 < s.size) (hs : s.size ≤ maxLen) (hA : ¬ (getF (nums s) 0 = 27 ∧ getF (nums s) 1 = 40 ∧ getF (nums s) 2 = 66)) (hB : ¬ (getF (nums s) 0 = 27 ∧ getF (nums s) 1 = 36 ∧ getF (nums s) 2 = 66)) (h1 : (s[0].toNat : Int) = 10) (w : World) :
    Calls Try.prog 10 #[.int .i64 2, .string s, .int .i64 1] w (PostP ([10], 1, 0) w) := by
  have hs0 := hs
  unfold maxLen at hs
  have hii : (0 : Int) < (s.size : Int) := by omega
  have hwb := wrap64_byte s[0]
  have hwc : IntKind.i64.wrap (s[0].toNat : Int) = (s[0].toNat : Int) := wraps_i64 _ (by omega) (by have := byte_le s[0]; omega)
  have hle := byte_le s[0]
  have hmf := hmf
  have hst := hstf
  have HA := Lib.hid (fun W => (lib_prefix s ⟨#[27, 40, 66]⟩ W))
  have HA' : Hid (∀ W, Calls Try.prog 17 #[.string s, .string ⟨#[27, 40, 66]⟩] W fun e w' => e = .returned (.bool false) ∧ W = w') := Lib.hid (fun W => by
    have h := HA.out W
    rw [show (⟨#[27, 40, 66]⟩ : ByteArray).data.toList = [27, 40, 66] from rfl, prefix3 s] at h
    rwa [decide_eq_false (by simpa using hA)] at h)
  clear HA
  have HB := Lib.hid (fun W => (lib_prefix s ⟨#[27, 36, 66]⟩ W))
  have HB' : Hid (∀ W, Calls Try.prog 17 #[.string s, .string ⟨#[27, 36, 66]⟩] W fun e w' => e = .returned (.bool false) ∧ W = w') := Lib.hid (fun W => by
    have h := HB.out W
    rw [show (⟨#[27, 36, 66]⟩ : ByteArray).data.toList = [27, 36, 66] from rfl, prefix3 s] at h
    rwa [decide_eq_false (by simpa using hB)] at h)
  clear HB
  clear hA hB
  go_enter Try.func10, Try.ntmps10
  go_wp2_with (first
      | (go_at_call 17; refine (HA'.out _).mono ?_; rintro e w' ⟨rfl, rfl⟩)
      | (go_at_call 17; refine (HB'.out _).mono ?_; rintro e w' ⟨rfl, rfl⟩)
      | (go_at_call 14; refine (ref_in_t _ _ _ _ (by omega)).mono ?_; rintro e w' ⟨rfl, rfl⟩)
      | (go_at_call 14; refine (ref_in_f _ _ _ _ (by omega)).mono ?_; rintro e w' ⟨rfl, rfl⟩))
  refine bodyPost_ret (v := .tuple #[_, .int .i64 1, .int .i64 0]) (by simp [results, Try.results10, go_sem] <;> rfl) rfl ⟨_, rfl, ints_lit1 _ _ _ _ ?_ ?_, ?_⟩
  · first | exact heap_new _ _ _ (by simp) | exact (heap_old _ _ _ (by simp)).trans (heap_new _ _ _ (by simp))
  · omega
  repeat (first | exact Below.refl _ _ | apply Below.drew | apply below_alloc)

set_option maxRecDepth 100000 in
set_option maxHeartbeats 4000000 in
theorem shift_1bad (s : ByteArray) (h0 : 0 < s.size) (hs : s.size ≤ maxLen) (hA : ¬ (getF (nums s) 0 = 27 ∧ getF (nums s) 1 = 40 ∧ getF (nums s) 2 = 66)) (hB : ¬ (getF (nums s) 0 = 27 ∧ getF (nums s) 1 = 36 ∧ getF (nums s) 2 = 66)) (h1 : (s[0].toNat : Int) ≠ 27) (h2 : (s[0].toNat : Int) ≠ 10) (h3 : (s[0].toNat : Int) < 33 ∨ 126 < (s[0].toNat : Int)) (w : World) :
    Calls Try.prog 10 #[.int .i64 2, .string s, .int .i64 1] w (PostP ([-1], 1, 1) w) := by
  have hs0 := hs
  unfold maxLen at hs
  have hii : (0 : Int) < (s.size : Int) := by omega
  have hwb := wrap64_byte s[0]
  have hwc : IntKind.i64.wrap (s[0].toNat : Int) = (s[0].toNat : Int) := wraps_i64 _ (by omega) (by have := byte_le s[0]; omega)
  have hle := byte_le s[0]
  have hmf := hmf
  have hst := hstf
  have HA := Lib.hid (fun W => (lib_prefix s ⟨#[27, 40, 66]⟩ W))
  have HA' : Hid (∀ W, Calls Try.prog 17 #[.string s, .string ⟨#[27, 40, 66]⟩] W fun e w' => e = .returned (.bool false) ∧ W = w') := Lib.hid (fun W => by
    have h := HA.out W
    rw [show (⟨#[27, 40, 66]⟩ : ByteArray).data.toList = [27, 40, 66] from rfl, prefix3 s] at h
    rwa [decide_eq_false (by simpa using hA)] at h)
  clear HA
  have HB := Lib.hid (fun W => (lib_prefix s ⟨#[27, 36, 66]⟩ W))
  have HB' : Hid (∀ W, Calls Try.prog 17 #[.string s, .string ⟨#[27, 36, 66]⟩] W fun e w' => e = .returned (.bool false) ∧ W = w') := Lib.hid (fun W => by
    have h := HB.out W
    rw [show (⟨#[27, 36, 66]⟩ : ByteArray).data.toList = [27, 36, 66] from rfl, prefix3 s] at h
    rwa [decide_eq_false (by simpa using hB)] at h)
  clear HB
  clear hA hB
  go_enter Try.func10, Try.ntmps10
  go_wp2_with (first
      | (go_at_call 17; refine (HA'.out _).mono ?_; rintro e w' ⟨rfl, rfl⟩)
      | (go_at_call 17; refine (HB'.out _).mono ?_; rintro e w' ⟨rfl, rfl⟩)
      | (go_at_call 14; refine (ref_in_t _ _ _ _ (by omega)).mono ?_; rintro e w' ⟨rfl, rfl⟩)
      | (go_at_call 14; refine (ref_in_f _ _ _ _ (by omega)).mono ?_; rintro e w' ⟨rfl, rfl⟩))
  refine bodyPost_ret (v := .tuple #[_, .int .i64 1, .int .i64 1]) (by simp [results, Try.results10, go_sem] <;> rfl) rfl ⟨_, rfl, ints_lit1 _ _ _ _ ?_ ?_, ?_⟩
  · first | exact heap_new _ _ _ (by simp) | exact (heap_old _ _ _ (by simp)).trans (heap_new _ _ _ (by simp))
  · omega
  repeat (first | exact Below.refl _ _ | apply Below.drew | apply below_alloc)

set_option maxRecDepth 100000 in
set_option maxHeartbeats 4000000 in
theorem shift_1two (s : ByteArray) (h0 : 0 < s.size) (hs : s.size ≤ maxLen) (hA : ¬ (getF (nums s) 0 = 27 ∧ getF (nums s) 1 = 40 ∧ getF (nums s) 2 = 66)) (hB : ¬ (getF (nums s) 0 = 27 ∧ getF (nums s) 1 = 36 ∧ getF (nums s) 2 = 66)) (h1 : (s[0].toNat : Int) ≠ 27) (h2 : 33 ≤ (s[0].toNat : Int)) (h3 : (s[0].toNat : Int) ≤ 126) (h4 : 33 ≤ getF (nums s) 1) (h5 : getF (nums s) 1 ≤ 126) (w : World) :
    Calls Try.prog 10 #[.int .i64 2, .string s, .int .i64 1] w (PostP ([12288 + 94 * ((s[0].toNat : Int) - 33) + getF (nums s) 1 - 33], 2, 1) w) := by
  have hs0 := hs
  unfold maxLen at hs
  have hii : (0 : Int) < (s.size : Int) := by omega
  have hwb := wrap64_byte s[0]
  have hwc : IntKind.i64.wrap (s[0].toNat : Int) = (s[0].toNat : Int) := wraps_i64 _ (by omega) (by have := byte_le s[0]; omega)
  have hle := byte_le s[0]
  have hmf := hmf
  have hst := hstf
  have HA := Lib.hid (fun W => (lib_prefix s ⟨#[27, 40, 66]⟩ W))
  have HA' : Hid (∀ W, Calls Try.prog 17 #[.string s, .string ⟨#[27, 40, 66]⟩] W fun e w' => e = .returned (.bool false) ∧ W = w') := Lib.hid (fun W => by
    have h := HA.out W
    rw [show (⟨#[27, 40, 66]⟩ : ByteArray).data.toList = [27, 40, 66] from rfl, prefix3 s] at h
    rwa [decide_eq_false (by simpa using hA)] at h)
  clear HA
  have HB := Lib.hid (fun W => (lib_prefix s ⟨#[27, 36, 66]⟩ W))
  have HB' : Hid (∀ W, Calls Try.prog 17 #[.string s, .string ⟨#[27, 36, 66]⟩] W fun e w' => e = .returned (.bool false) ∧ W = w') := Lib.hid (fun W => by
    have h := HB.out W
    rw [show (⟨#[27, 36, 66]⟩ : ByteArray).data.toList = [27, 36, 66] from rfl, prefix3 s] at h
    rwa [decide_eq_false (by simpa using hB)] at h)
  clear HB
  clear hA hB
  have hg := getF_range s 1
  have hG : ∀ W : World, W.cell? ⟨w.heap.size + 1, 0, none⟩ = some (.string s) → Calls Try.prog 13 #[.int .i64 1, .pointer (some ⟨w.heap.size + 1, 0, none⟩)] W fun e w' => e = .returned (.int .i64 (getF (nums s) 1)) ∧ W = w' :=
    fun W h => ref_get s hs 1 (w.heap.size + 1) W h
  generalize getF (nums s) 1 = x at *
  have HG := Lib.hid hG
  clear hG
  go_enter Try.func10, Try.ntmps10
  go_wp2_with (first
      | (go_at_call 17; refine (HA'.out _).mono ?_; rintro e w' ⟨rfl, rfl⟩)
      | (go_at_call 17; refine (HB'.out _).mono ?_; rintro e w' ⟨rfl, rfl⟩)
      | (go_at_call 13; refine (HG.out _ (by simp [go_sem])).mono ?_; rintro e w' ⟨rfl, rfl⟩)
      | (go_at_call 14; refine (ref_in_t _ _ _ _ (by omega)).mono ?_; rintro e w' ⟨rfl, rfl⟩)
      | (go_at_call 14; refine (ref_in_f _ _ _ _ (by omega)).mono ?_; rintro e w' ⟨rfl, rfl⟩))
  refine bodyPost_ret (v := .tuple #[_, .int .i64 2, .int .i64 1]) (by simp [results, Try.results10, go_sem] <;> rfl) rfl ⟨_, rfl, ints_lit1 _ _ _ _ ?_ ?_, ?_⟩
  · first | exact heap_new _ _ _ (by simp) | exact (heap_old _ _ _ (by simp)).trans (heap_new _ _ _ (by simp))
  · omega
  repeat (first | exact Below.refl _ _ | apply Below.drew | apply below_alloc)

set_option maxRecDepth 100000 in
set_option maxHeartbeats 4000000 in
theorem shift_1esc (s : ByteArray) (h0 : 0 < s.size) (hs : s.size ≤ maxLen) (hA : ¬ (getF (nums s) 0 = 27 ∧ getF (nums s) 1 = 40 ∧ getF (nums s) 2 = 66)) (hB : ¬ (getF (nums s) 0 = 27 ∧ getF (nums s) 1 = 36 ∧ getF (nums s) 2 = 66)) (h1 : (s[0].toNat : Int) ≠ 27) (h2 : 33 ≤ (s[0].toNat : Int)) (h3 : (s[0].toNat : Int) ≤ 126) (h4 : getF (nums s) 1 = 27) (w : World) :
    Calls Try.prog 10 #[.int .i64 2, .string s, .int .i64 1] w (PostP ([-1], 1, 1) w) := by
  have hs0 := hs
  unfold maxLen at hs
  have hii : (0 : Int) < (s.size : Int) := by omega
  have hwb := wrap64_byte s[0]
  have hwc : IntKind.i64.wrap (s[0].toNat : Int) = (s[0].toNat : Int) := wraps_i64 _ (by omega) (by have := byte_le s[0]; omega)
  have hle := byte_le s[0]
  have hmf := hmf
  have hst := hstf
  have HA := Lib.hid (fun W => (lib_prefix s ⟨#[27, 40, 66]⟩ W))
  have HA' : Hid (∀ W, Calls Try.prog 17 #[.string s, .string ⟨#[27, 40, 66]⟩] W fun e w' => e = .returned (.bool false) ∧ W = w') := Lib.hid (fun W => by
    have h := HA.out W
    rw [show (⟨#[27, 40, 66]⟩ : ByteArray).data.toList = [27, 40, 66] from rfl, prefix3 s] at h
    rwa [decide_eq_false (by simpa using hA)] at h)
  clear HA
  have HB := Lib.hid (fun W => (lib_prefix s ⟨#[27, 36, 66]⟩ W))
  have HB' : Hid (∀ W, Calls Try.prog 17 #[.string s, .string ⟨#[27, 36, 66]⟩] W fun e w' => e = .returned (.bool false) ∧ W = w') := Lib.hid (fun W => by
    have h := HB.out W
    rw [show (⟨#[27, 36, 66]⟩ : ByteArray).data.toList = [27, 36, 66] from rfl, prefix3 s] at h
    rwa [decide_eq_false (by simpa using hB)] at h)
  clear HB
  clear hA hB
  have hg := getF_range s 1
  have hG : ∀ W : World, W.cell? ⟨w.heap.size + 1, 0, none⟩ = some (.string s) → Calls Try.prog 13 #[.int .i64 1, .pointer (some ⟨w.heap.size + 1, 0, none⟩)] W fun e w' => e = .returned (.int .i64 (getF (nums s) 1)) ∧ W = w' :=
    fun W h => ref_get s hs 1 (w.heap.size + 1) W h
  generalize getF (nums s) 1 = x at *
  have HG := Lib.hid hG
  clear hG
  go_enter Try.func10, Try.ntmps10
  go_wp2_with (first
      | (go_at_call 17; refine (HA'.out _).mono ?_; rintro e w' ⟨rfl, rfl⟩)
      | (go_at_call 17; refine (HB'.out _).mono ?_; rintro e w' ⟨rfl, rfl⟩)
      | (go_at_call 13; refine (HG.out _ (by simp [go_sem])).mono ?_; rintro e w' ⟨rfl, rfl⟩)
      | (go_at_call 14; refine (ref_in_t _ _ _ _ (by omega)).mono ?_; rintro e w' ⟨rfl, rfl⟩)
      | (go_at_call 14; refine (ref_in_f _ _ _ _ (by omega)).mono ?_; rintro e w' ⟨rfl, rfl⟩))
  refine bodyPost_ret (v := .tuple #[_, .int .i64 1, .int .i64 1]) (by simp [results, Try.results10, go_sem] <;> rfl) rfl ⟨_, rfl, ints_lit1 _ _ _ _ ?_ ?_, ?_⟩
  · first | exact heap_new _ _ _ (by simp) | exact (heap_old _ _ _ (by simp)).trans (heap_new _ _ _ (by simp))
  · omega
  repeat (first | exact Below.refl _ _ | apply Below.drew | apply below_alloc)

set_option maxRecDepth 100000 in
set_option maxHeartbeats 4000000 in
theorem shift_1none (s : ByteArray) (h0 : 0 < s.size) (hs : s.size ≤ maxLen) (hA : ¬ (getF (nums s) 0 = 27 ∧ getF (nums s) 1 = 40 ∧ getF (nums s) 2 = 66)) (hB : ¬ (getF (nums s) 0 = 27 ∧ getF (nums s) 1 = 36 ∧ getF (nums s) 2 = 66)) (h1 : (s[0].toNat : Int) ≠ 27) (h2 : 33 ≤ (s[0].toNat : Int)) (h3 : (s[0].toNat : Int) ≤ 126) (h4 : getF (nums s) 1 < 0) (w : World) :
    Calls Try.prog 10 #[.int .i64 2, .string s, .int .i64 1] w (PostP ([-1], 1, 1) w) := by
  have hs0 := hs
  unfold maxLen at hs
  have hii : (0 : Int) < (s.size : Int) := by omega
  have hwb := wrap64_byte s[0]
  have hwc : IntKind.i64.wrap (s[0].toNat : Int) = (s[0].toNat : Int) := wraps_i64 _ (by omega) (by have := byte_le s[0]; omega)
  have hle := byte_le s[0]
  have hmf := hmf
  have hst := hstf
  have HA := Lib.hid (fun W => (lib_prefix s ⟨#[27, 40, 66]⟩ W))
  have HA' : Hid (∀ W, Calls Try.prog 17 #[.string s, .string ⟨#[27, 40, 66]⟩] W fun e w' => e = .returned (.bool false) ∧ W = w') := Lib.hid (fun W => by
    have h := HA.out W
    rw [show (⟨#[27, 40, 66]⟩ : ByteArray).data.toList = [27, 40, 66] from rfl, prefix3 s] at h
    rwa [decide_eq_false (by simpa using hA)] at h)
  clear HA
  have HB := Lib.hid (fun W => (lib_prefix s ⟨#[27, 36, 66]⟩ W))
  have HB' : Hid (∀ W, Calls Try.prog 17 #[.string s, .string ⟨#[27, 36, 66]⟩] W fun e w' => e = .returned (.bool false) ∧ W = w') := Lib.hid (fun W => by
    have h := HB.out W
    rw [show (⟨#[27, 36, 66]⟩ : ByteArray).data.toList = [27, 36, 66] from rfl, prefix3 s] at h
    rwa [decide_eq_false (by simpa using hB)] at h)
  clear HB
  clear hA hB
  have hg := getF_range s 1
  have hG : ∀ W : World, W.cell? ⟨w.heap.size + 1, 0, none⟩ = some (.string s) → Calls Try.prog 13 #[.int .i64 1, .pointer (some ⟨w.heap.size + 1, 0, none⟩)] W fun e w' => e = .returned (.int .i64 (getF (nums s) 1)) ∧ W = w' :=
    fun W h => ref_get s hs 1 (w.heap.size + 1) W h
  generalize getF (nums s) 1 = x at *
  have HG := Lib.hid hG
  clear hG
  go_enter Try.func10, Try.ntmps10
  go_wp2_with (first
      | (go_at_call 17; refine (HA'.out _).mono ?_; rintro e w' ⟨rfl, rfl⟩)
      | (go_at_call 17; refine (HB'.out _).mono ?_; rintro e w' ⟨rfl, rfl⟩)
      | (go_at_call 13; refine (HG.out _ (by simp [go_sem])).mono ?_; rintro e w' ⟨rfl, rfl⟩)
      | (go_at_call 14; refine (ref_in_t _ _ _ _ (by omega)).mono ?_; rintro e w' ⟨rfl, rfl⟩)
      | (go_at_call 14; refine (ref_in_f _ _ _ _ (by omega)).mono ?_; rintro e w' ⟨rfl, rfl⟩))
  refine bodyPost_ret (v := .tuple #[_, .int .i64 1, .int .i64 1]) (by simp [results, Try.results10, go_sem] <;> rfl) rfl ⟨_, rfl, ints_lit1 _ _ _ _ ?_ ?_, ?_⟩
  · first | exact heap_new _ _ _ (by simp) | exact (heap_old _ _ _ (by simp)).trans (heap_new _ _ _ (by simp))
  · omega
  repeat (first | exact Below.refl _ _ | apply Below.drew | apply below_alloc)

set_option maxRecDepth 100000 in
set_option maxHeartbeats 4000000 in
theorem shift_1other (s : ByteArray) (h0 : 0 < s.size) (hs : s.size ≤ maxLen) (hA : ¬ (getF (nums s) 0 = 27 ∧ getF (nums s) 1 = 40 ∧ getF (nums s) 2 = 66)) (hB : ¬ (getF (nums s) 0 = 27 ∧ getF (nums s) 1 = 36 ∧ getF (nums s) 2 = 66)) (h1 : (s[0].toNat : Int) ≠ 27) (h2 : 33 ≤ (s[0].toNat : Int)) (h3 : (s[0].toNat : Int) ≤ 126) (h4 : 0 ≤ getF (nums s) 1) (h5 : getF (nums s) 1 ≠ 27) (h6 : getF (nums s) 1 < 33 ∨ 126 < getF (nums s) 1) (w : World) :
    Calls Try.prog 10 #[.int .i64 2, .string s, .int .i64 1] w (PostP ([-1], 2, 1) w) := by
  have hs0 := hs
  unfold maxLen at hs
  have hii : (0 : Int) < (s.size : Int) := by omega
  have hwb := wrap64_byte s[0]
  have hwc : IntKind.i64.wrap (s[0].toNat : Int) = (s[0].toNat : Int) := wraps_i64 _ (by omega) (by have := byte_le s[0]; omega)
  have hle := byte_le s[0]
  have hmf := hmf
  have hst := hstf
  have HA := Lib.hid (fun W => (lib_prefix s ⟨#[27, 40, 66]⟩ W))
  have HA' : Hid (∀ W, Calls Try.prog 17 #[.string s, .string ⟨#[27, 40, 66]⟩] W fun e w' => e = .returned (.bool false) ∧ W = w') := Lib.hid (fun W => by
    have h := HA.out W
    rw [show (⟨#[27, 40, 66]⟩ : ByteArray).data.toList = [27, 40, 66] from rfl, prefix3 s] at h
    rwa [decide_eq_false (by simpa using hA)] at h)
  clear HA
  have HB := Lib.hid (fun W => (lib_prefix s ⟨#[27, 36, 66]⟩ W))
  have HB' : Hid (∀ W, Calls Try.prog 17 #[.string s, .string ⟨#[27, 36, 66]⟩] W fun e w' => e = .returned (.bool false) ∧ W = w') := Lib.hid (fun W => by
    have h := HB.out W
    rw [show (⟨#[27, 36, 66]⟩ : ByteArray).data.toList = [27, 36, 66] from rfl, prefix3 s] at h
    rwa [decide_eq_false (by simpa using hB)] at h)
  clear HB
  clear hA hB
  have hg := getF_range s 1
  have hG : ∀ W : World, W.cell? ⟨w.heap.size + 1, 0, none⟩ = some (.string s) → Calls Try.prog 13 #[.int .i64 1, .pointer (some ⟨w.heap.size + 1, 0, none⟩)] W fun e w' => e = .returned (.int .i64 (getF (nums s) 1)) ∧ W = w' :=
    fun W h => ref_get s hs 1 (w.heap.size + 1) W h
  generalize getF (nums s) 1 = x at *
  have HG := Lib.hid hG
  clear hG
  have e27 : (x == 27) = false := beq_eq_false_iff_ne.2 h5
  go_enter Try.func10, Try.ntmps10
  go_wp2_with (first
      | (go_at_call 17; refine (HA'.out _).mono ?_; rintro e w' ⟨rfl, rfl⟩)
      | (go_at_call 17; refine (HB'.out _).mono ?_; rintro e w' ⟨rfl, rfl⟩)
      | (go_at_call 13; refine (HG.out _ (by simp [go_sem])).mono ?_; rintro e w' ⟨rfl, rfl⟩)
      | (go_at_call 14; refine (ref_in_t _ _ _ _ (by omega)).mono ?_; rintro e w' ⟨rfl, rfl⟩)
      | (go_at_call 14; refine (ref_in_f _ _ _ _ (by omega)).mono ?_; rintro e w' ⟨rfl, rfl⟩))
  refine bodyPost_ret (v := .tuple #[_, .int .i64 2, .int .i64 1]) (by simp [results, Try.results10, go_sem] <;> rfl) rfl ⟨_, rfl, ints_lit1 _ _ _ _ ?_ ?_, ?_⟩
  · first | exact heap_new _ _ _ (by simp) | exact (heap_old _ _ _ (by simp)).trans (heap_new _ _ _ (by simp))
  · omega
  repeat (first | exact Below.refl _ _ | apply Below.drew | apply below_alloc)

theorem ref_piece2 (s : ByteArray) (h0 : 0 < s.size) (hs : s.size ≤ maxLen) (m : Int) (hm : m = 0 ∨ m = 1) (w : World) :
    Calls Try.prog 10 #[.int .i64 2, .string s, .int .i64 m] w (PostP (pieceF 2 (nums s) m) w) := by
  have hb := getF_nums s 0 h0
  have hp : pieceF 2 (nums s) m = pieceShift (nums s) (getF (nums s) 0) m := rfl
  rw [hp]
  unfold pieceShift
  by_cases hA : getF (nums s) 0 = 27 ∧ getF (nums s) 1 = 40 ∧ getF (nums s) 2 = 66
  · rw [if_pos hA]; exact shift_b s h0 hs m hA w
  rw [if_neg hA]
  by_cases hB : getF (nums s) 0 = 27 ∧ getF (nums s) 1 = 36 ∧ getF (nums s) 2 = 66
  · rw [if_pos hB]; exact shift_d s h0 hs m hA hB w
  rw [if_neg hB, hb]
  by_cases c1 : (s[0].toNat : Int) = 27
  · rw [if_pos c1]; exact shift_mark1 s h0 hs m hA hB c1 w
  rw [if_neg c1]
  rcases hm with rfl | rfl
  · by_cases c2 : (127 : Int) < (s[0].toNat : Int) ∨ (s[0].toNat : Int) = 14 ∨ (s[0].toNat : Int) = 15
    · rw [if_pos ⟨rfl, c2⟩]
      rcases c2 with c2 | c2 | c2
      · exact shift_0bad s h0 hs hA hB c1 c2 w
      · exact shift_0bad14 s h0 hs hA hB c2 w
      · exact shift_0bad15 s h0 hs hA hB c2 w
    · rw [if_neg (fun h => c2 h.2), if_pos rfl]
      exact shift_0one s h0 hs hA hB c1 (by omega) (by omega) (by omega) w
  rw [if_neg (fun h => by omega), if_neg (by omega)]
  by_cases c2 : (s[0].toNat : Int) = 10
  · rw [if_pos c2]; exact shift_1end s h0 hs hA hB c2 w
  rw [if_neg c2]
  by_cases c3 : ¬ ((33 : Int) ≤ (s[0].toNat : Int) ∧ (s[0].toNat : Int) ≤ 126)
  · rw [if_pos c3]; exact shift_1bad s h0 hs hA hB c1 c2 (by omega) w
  rw [if_neg c3]
  by_cases c4 : (33 : Int) ≤ getF (nums s) 1 ∧ getF (nums s) 1 ≤ 126
  · rw [if_pos c4]; exact shift_1two s h0 hs hA hB c1 (by omega) (by omega) c4.1 c4.2 w
  rw [if_neg c4]
  by_cases c5 : getF (nums s) 1 = 27 ∨ getF (nums s) 1 < 0
  · rw [if_pos c5]
    rcases c5 with c5 | c5
    · exact shift_1esc s h0 hs hA hB c1 (by omega) (by omega) c5 w
    · exact shift_1none s h0 hs hA hB c1 (by omega) (by omega) c5 w
  · rw [if_neg c5]
    exact shift_1other s h0 hs hA hB c1 (by omega) (by omega) (by omega) (by omega) (by omega) w

end Go.Proofs.Ytefohnbmifblkab
