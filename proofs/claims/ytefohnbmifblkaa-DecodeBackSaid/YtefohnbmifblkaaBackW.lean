/- The walks through the statement DecodeBack, one for each way. -/
import Derived.Test.YtefohnbmifblkaaCoded
import Derived.Deep.QuietTactic
import Derived.BigQuiet
namespace Go.Proofs.Ytefohnbmifblkaa
open Go.RowKit
set_option linter.unusedVariables false


set_option maxRecDepth 100000 in
set_option maxHeartbeats 4000000 in
theorem back_low_a (n : Int) (h0 : 0 ≤ n) (h1 : n < 55296) (w : World)
    (HU : Hid (∀ W, Calls Try.prog 21 #[.int .i64 1, .string (Utf8.encode n)] W (Post2 [n] 0 W)))
    (HP : Hid (∀ t W, nums t = [n % 256, n / 256] → Calls Try.prog 21 #[.int .i64 5, .string t] W (Post2 [n] 0 W))) :
    Calls Try.prog 12 #[.int .i64 n, .bool true] w fun e' w' => e' = .returned (.bool true) ∧ Below w.heap.size w w' := by
  have hconv := run_conv2
  go_enter Try.func12, Try.ntmps12
  go_wp2_with (first
    | (go_at_call 39; refine (keep_coded (by omega) (by omega) _).mono ?_; rintro e w' ⟨rfl, rfl⟩)
    | (go_at_call 21; refine (HU.out _).mono ?_; rintro e w1 ⟨v1, rfl, hi1, hb1⟩))
  refine wp_loop_rounds 2 ?_
  rw [rounds_succ]
  go_wp2_with fail
  rw [rounds_succ]
  go_wp2_with (first
    | (go_at_call 21; refine (HP.out _ _ (by rw [nums_app, nums_none, nums_str2 (by omega) (by omega)]; rfl)).mono ?_; rintro e' w2 ⟨v2, rfl, hi2, hb2⟩)
    | (go_at_call 38; refine (keep_same _ _ w3.heap.size v2 _ [n] (by simp) ((((hi2.alloc _).below hb3 (Nat.le_refl _)).alloc _)) (ints_lit1 _ _ _ _ (heap_new _ _ _ rfl) (Nat.le_refl _))).mono ?_; rintro e' w4 ⟨rfl, hb4⟩)
    | (go_at_call 38; refine (keep_same _ _ w2.heap.size v1 _ [n] (by simp) ((((hi1.alloc _).alloc _).below hb2 (Nat.le_refl _)).alloc _) (ints_lit1 _ _ _ _ (heap_new _ _ _ rfl) (Nat.le_refl _))).mono ?_; rintro e' w3 ⟨rfl, hb3⟩)
    | (go_at_call 22; refine (keep_decodes _).mono ?_; rintro e' w5 ⟨rfl, hb5⟩))
  go_ret
  have B2 := (below_alloc (below_alloc hb1 _) _).trans (hb2.mono (below_alloc (below_alloc hb1 _) _).size)
  have B3 := (below_alloc B2 _).trans (hb3.mono (below_alloc B2 _).size)
  have B4 := (below_alloc B3 _).trans (hb4.mono (below_alloc B3 _).size)
  exact ⟨rfl, B4.trans (hb5.mono B4.size)⟩

set_option maxRecDepth 100000 in
set_option maxHeartbeats 4000000 in
theorem back_low_b (n : Int) (h0 : 57343 < n) (h1 : n ≤ 65535) (w : World)
    (HU : Hid (∀ W, Calls Try.prog 21 #[.int .i64 1, .string (Utf8.encode n)] W (Post2 [n] 0 W)))
    (HP : Hid (∀ t W, nums t = [n % 256, n / 256] → Calls Try.prog 21 #[.int .i64 5, .string t] W (Post2 [n] 0 W))) :
    Calls Try.prog 12 #[.int .i64 n, .bool true] w fun e' w' => e' = .returned (.bool true) ∧ Below w.heap.size w w' := by
  have hconv := run_conv2
  go_enter Try.func12, Try.ntmps12
  go_wp2_with (first
    | (go_at_call 39; refine (keep_coded (by omega) (by omega) _).mono ?_; rintro e w' ⟨rfl, rfl⟩)
    | (go_at_call 21; refine (HU.out _).mono ?_; rintro e w1 ⟨v1, rfl, hi1, hb1⟩))
  refine wp_loop_rounds 2 ?_
  rw [rounds_succ]
  go_wp2_with fail
  rw [rounds_succ]
  go_wp2_with (first
    | (go_at_call 21; refine (HP.out _ _ (by rw [nums_app, nums_none, nums_str2 (by omega) (by omega)]; rfl)).mono ?_; rintro e' w2 ⟨v2, rfl, hi2, hb2⟩)
    | (go_at_call 38; refine (keep_same _ _ w3.heap.size v2 _ [n] (by simp) ((((hi2.alloc _).below hb3 (Nat.le_refl _)).alloc _)) (ints_lit1 _ _ _ _ (heap_new _ _ _ rfl) (Nat.le_refl _))).mono ?_; rintro e' w4 ⟨rfl, hb4⟩)
    | (go_at_call 38; refine (keep_same _ _ w2.heap.size v1 _ [n] (by simp) ((((hi1.alloc _).alloc _).below hb2 (Nat.le_refl _)).alloc _) (ints_lit1 _ _ _ _ (heap_new _ _ _ rfl) (Nat.le_refl _))).mono ?_; rintro e' w3 ⟨rfl, hb3⟩)
    | (go_at_call 22; refine (keep_decodes _).mono ?_; rintro e' w5 ⟨rfl, hb5⟩))
  go_ret
  have B2 := (below_alloc (below_alloc hb1 _) _).trans (hb2.mono (below_alloc (below_alloc hb1 _) _).size)
  have B3 := (below_alloc B2 _).trans (hb3.mono (below_alloc B2 _).size)
  have B4 := (below_alloc B3 _).trans (hb4.mono (below_alloc B3 _).size)
  exact ⟨rfl, B4.trans (hb5.mono B4.size)⟩

set_option maxRecDepth 100000 in
set_option maxHeartbeats 4000000 in
theorem back_low_c (n : Int) (h0 : 65535 < n) (h1 : n ≤ 1114111) (w : World)
    (HU : Hid (∀ W, Calls Try.prog 21 #[.int .i64 1, .string (Utf8.encode n)] W (Post2 [n] 0 W)))
    (HP : Hid (∀ t W, nums t = [(55296 + (n - 65536) / 1024) % 256, (55296 + (n - 65536) / 1024) / 256, (56320 + (n - 65536) % 1024) % 256, (56320 + (n - 65536) % 1024) / 256] → Calls Try.prog 21 #[.int .i64 5, .string t] W (Post2 [n] 0 W))) :
    Calls Try.prog 12 #[.int .i64 n, .bool true] w fun e' w' => e' = .returned (.bool true) ∧ Below w.heap.size w w' := by
  have hand : bits .and .i64 (n - 65536) 1023 = (n - 65536) % 1024 := bits_mask .i64 63 (by decide) wraps_i64 10 (by decide) (n - 65536) (by omega) (by omega)
  have hconv := run_conv2
  go_enter Try.func12, Try.ntmps12
  go_wp2_with (first
    | (go_at_call 39; refine (keep_coded (by omega) (by omega) _).mono ?_; rintro e w' ⟨rfl, rfl⟩)
    | (go_at_call 21; refine (HU.out _).mono ?_; rintro e w1 ⟨v1, rfl, hi1, hb1⟩))
  refine wp_loop_rounds 3 ?_
  rw [rounds_succ]
  go_wp2_with fail
  rw [rounds_succ]
  go_wp2_with fail
  rw [rounds_succ]
  go_wp2_with (first
    | (go_at_call 21; refine (HP.out _ _ (by rw [nums_app, nums_app, nums_none, nums_str2 (by omega) (by omega), nums_str2 (by omega) (by omega)]; rfl)).mono ?_; rintro e' w2 ⟨v2, rfl, hi2, hb2⟩)
    | (go_at_call 38; refine (keep_same _ _ w3.heap.size v2 _ [n] (by simp) ((((hi2.alloc _).below hb3 (Nat.le_refl _)).alloc _)) (ints_lit1 _ _ _ _ (heap_new _ _ _ rfl) (Nat.le_refl _))).mono ?_; rintro e' w4 ⟨rfl, hb4⟩)
    | (go_at_call 38; refine (keep_same _ _ w2.heap.size v1 _ [n] (by simp) ((((((hi1.alloc _).alloc _).alloc _).alloc _).below hb2 (Nat.le_refl _)).alloc _) (ints_lit1 _ _ _ _ (heap_new _ _ _ rfl) (Nat.le_refl _))).mono ?_; rintro e' w3 ⟨rfl, hb3⟩)
    | (go_at_call 22; refine (keep_decodes _).mono ?_; rintro e' w5 ⟨rfl, hb5⟩))
  go_ret
  have B2 := (below_alloc (below_alloc (below_alloc (below_alloc hb1 _) _) _) _).trans (hb2.mono (below_alloc (below_alloc (below_alloc (below_alloc hb1 _) _) _) _).size)
  have B3 := (below_alloc B2 _).trans (hb3.mono (below_alloc B2 _).size)
  have B4 := (below_alloc B3 _).trans (hb4.mono (below_alloc B3 _).size)
  exact ⟨rfl, B4.trans (hb5.mono B4.size)⟩

set_option maxRecDepth 100000 in
set_option maxHeartbeats 4000000 in
theorem back_high_a (n : Int) (h0 : 0 ≤ n) (h1 : n < 55296) (w : World)
    (HU : Hid (∀ W, Calls Try.prog 21 #[.int .i64 1, .string (Utf8.encode n)] W (Post2 [n] 0 W)))
    (HP : Hid (∀ t W, nums t = [n / 256, n % 256] → Calls Try.prog 21 #[.int .i64 6, .string t] W (Post2 [n] 0 W))) :
    Calls Try.prog 12 #[.int .i64 n, .bool false] w fun e' w' => e' = .returned (.bool true) ∧ Below w.heap.size w w' := by
  have hconv := run_conv2
  go_enter Try.func12, Try.ntmps12
  go_wp2_with (first
    | (go_at_call 39; refine (keep_coded (by omega) (by omega) _).mono ?_; rintro e w' ⟨rfl, rfl⟩)
    | (go_at_call 21; refine (HU.out _).mono ?_; rintro e w1 ⟨v1, rfl, hi1, hb1⟩))
  refine wp_loop_rounds 2 ?_
  rw [rounds_succ]
  go_wp2_with fail
  rw [rounds_succ]
  go_wp2_with (first
    | (go_at_call 21; refine (HP.out _ _ (by rw [nums_app, nums_none, nums_str2 (by omega) (by omega)]; rfl)).mono ?_; rintro e' w2 ⟨v2, rfl, hi2, hb2⟩)
    | (go_at_call 38; refine (keep_same _ _ w3.heap.size v2 _ [n] (by simp) ((((hi2.alloc _).below hb3 (Nat.le_refl _)).alloc _)) (ints_lit1 _ _ _ _ (heap_new _ _ _ rfl) (Nat.le_refl _))).mono ?_; rintro e' w4 ⟨rfl, hb4⟩)
    | (go_at_call 38; refine (keep_same _ _ w2.heap.size v1 _ [n] (by simp) ((((hi1.alloc _).alloc _).below hb2 (Nat.le_refl _)).alloc _) (ints_lit1 _ _ _ _ (heap_new _ _ _ rfl) (Nat.le_refl _))).mono ?_; rintro e' w3 ⟨rfl, hb3⟩)
    | (go_at_call 22; refine (keep_decodes _).mono ?_; rintro e' w5 ⟨rfl, hb5⟩))
  go_ret
  have B2 := (below_alloc (below_alloc hb1 _) _).trans (hb2.mono (below_alloc (below_alloc hb1 _) _).size)
  have B3 := (below_alloc B2 _).trans (hb3.mono (below_alloc B2 _).size)
  have B4 := (below_alloc B3 _).trans (hb4.mono (below_alloc B3 _).size)
  exact ⟨rfl, B4.trans (hb5.mono B4.size)⟩

set_option maxRecDepth 100000 in
set_option maxHeartbeats 4000000 in
theorem back_high_b (n : Int) (h0 : 57343 < n) (h1 : n ≤ 65535) (w : World)
    (HU : Hid (∀ W, Calls Try.prog 21 #[.int .i64 1, .string (Utf8.encode n)] W (Post2 [n] 0 W)))
    (HP : Hid (∀ t W, nums t = [n / 256, n % 256] → Calls Try.prog 21 #[.int .i64 6, .string t] W (Post2 [n] 0 W))) :
    Calls Try.prog 12 #[.int .i64 n, .bool false] w fun e' w' => e' = .returned (.bool true) ∧ Below w.heap.size w w' := by
  have hconv := run_conv2
  go_enter Try.func12, Try.ntmps12
  go_wp2_with (first
    | (go_at_call 39; refine (keep_coded (by omega) (by omega) _).mono ?_; rintro e w' ⟨rfl, rfl⟩)
    | (go_at_call 21; refine (HU.out _).mono ?_; rintro e w1 ⟨v1, rfl, hi1, hb1⟩))
  refine wp_loop_rounds 2 ?_
  rw [rounds_succ]
  go_wp2_with fail
  rw [rounds_succ]
  go_wp2_with (first
    | (go_at_call 21; refine (HP.out _ _ (by rw [nums_app, nums_none, nums_str2 (by omega) (by omega)]; rfl)).mono ?_; rintro e' w2 ⟨v2, rfl, hi2, hb2⟩)
    | (go_at_call 38; refine (keep_same _ _ w3.heap.size v2 _ [n] (by simp) ((((hi2.alloc _).below hb3 (Nat.le_refl _)).alloc _)) (ints_lit1 _ _ _ _ (heap_new _ _ _ rfl) (Nat.le_refl _))).mono ?_; rintro e' w4 ⟨rfl, hb4⟩)
    | (go_at_call 38; refine (keep_same _ _ w2.heap.size v1 _ [n] (by simp) ((((hi1.alloc _).alloc _).below hb2 (Nat.le_refl _)).alloc _) (ints_lit1 _ _ _ _ (heap_new _ _ _ rfl) (Nat.le_refl _))).mono ?_; rintro e' w3 ⟨rfl, hb3⟩)
    | (go_at_call 22; refine (keep_decodes _).mono ?_; rintro e' w5 ⟨rfl, hb5⟩))
  go_ret
  have B2 := (below_alloc (below_alloc hb1 _) _).trans (hb2.mono (below_alloc (below_alloc hb1 _) _).size)
  have B3 := (below_alloc B2 _).trans (hb3.mono (below_alloc B2 _).size)
  have B4 := (below_alloc B3 _).trans (hb4.mono (below_alloc B3 _).size)
  exact ⟨rfl, B4.trans (hb5.mono B4.size)⟩

set_option maxRecDepth 100000 in
set_option maxHeartbeats 4000000 in
theorem back_high_c (n : Int) (h0 : 65535 < n) (h1 : n ≤ 1114111) (w : World)
    (HU : Hid (∀ W, Calls Try.prog 21 #[.int .i64 1, .string (Utf8.encode n)] W (Post2 [n] 0 W)))
    (HP : Hid (∀ t W, nums t = [(55296 + (n - 65536) / 1024) / 256, (55296 + (n - 65536) / 1024) % 256, (56320 + (n - 65536) % 1024) / 256, (56320 + (n - 65536) % 1024) % 256] → Calls Try.prog 21 #[.int .i64 6, .string t] W (Post2 [n] 0 W))) :
    Calls Try.prog 12 #[.int .i64 n, .bool false] w fun e' w' => e' = .returned (.bool true) ∧ Below w.heap.size w w' := by
  have hand : bits .and .i64 (n - 65536) 1023 = (n - 65536) % 1024 := bits_mask .i64 63 (by decide) wraps_i64 10 (by decide) (n - 65536) (by omega) (by omega)
  have hconv := run_conv2
  go_enter Try.func12, Try.ntmps12
  go_wp2_with (first
    | (go_at_call 39; refine (keep_coded (by omega) (by omega) _).mono ?_; rintro e w' ⟨rfl, rfl⟩)
    | (go_at_call 21; refine (HU.out _).mono ?_; rintro e w1 ⟨v1, rfl, hi1, hb1⟩))
  refine wp_loop_rounds 3 ?_
  rw [rounds_succ]
  go_wp2_with fail
  rw [rounds_succ]
  go_wp2_with fail
  rw [rounds_succ]
  go_wp2_with (first
    | (go_at_call 21; refine (HP.out _ _ (by rw [nums_app, nums_app, nums_none, nums_str2 (by omega) (by omega), nums_str2 (by omega) (by omega)]; rfl)).mono ?_; rintro e' w2 ⟨v2, rfl, hi2, hb2⟩)
    | (go_at_call 38; refine (keep_same _ _ w3.heap.size v2 _ [n] (by simp) ((((hi2.alloc _).below hb3 (Nat.le_refl _)).alloc _)) (ints_lit1 _ _ _ _ (heap_new _ _ _ rfl) (Nat.le_refl _))).mono ?_; rintro e' w4 ⟨rfl, hb4⟩)
    | (go_at_call 38; refine (keep_same _ _ w2.heap.size v1 _ [n] (by simp) ((((((hi1.alloc _).alloc _).alloc _).alloc _).below hb2 (Nat.le_refl _)).alloc _) (ints_lit1 _ _ _ _ (heap_new _ _ _ rfl) (Nat.le_refl _))).mono ?_; rintro e' w3 ⟨rfl, hb3⟩)
    | (go_at_call 22; refine (keep_decodes _).mono ?_; rintro e' w5 ⟨rfl, hb5⟩))
  go_ret
  have B2 := (below_alloc (below_alloc (below_alloc (below_alloc hb1 _) _) _) _).trans (hb2.mono (below_alloc (below_alloc (below_alloc (below_alloc hb1 _) _) _) _).size)
  have B3 := (below_alloc B2 _).trans (hb3.mono (below_alloc B2 _).size)
  have B4 := (below_alloc B3 _).trans (hb4.mono (below_alloc B3 _).size)
  exact ⟨rfl, B4.trans (hb5.mono B4.size)⟩

end Go.Proofs.Ytefohnbmifblkaa
