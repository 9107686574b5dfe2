/- One byte of Shift: the program's function shift computes the plain function shiftS, for every good state. -/
import Derived.Test.YtefohnbmifblkabDec
namespace Go.Proofs.Ytefohnbmifblkab
open Go.RowKit
set_option linter.unusedVariables false

set_option maxRecDepth 100000 in
set_option maxHeartbeats 1000000 in
theorem shift_esc (m : Int) (w : World) :
    Calls Try.prog 19 #[(St.mk 0 0 0 0 [] 0 m).val, .int .i64 27] w (Post3 (St.mk 0 0 0 0 [27] 0 m, [], false) w) := by
  have e0 : strOfNums [] = ⟨#[]⟩ := rfl
  unfold St.val
  dsimp only
  rw [e0]
  all_goals
    go_enter Try.func19, Try.ntmps19
    go_wp2
    refine bodyPost_ret (v := .tuple #[(St.mk 0 0 0 0 [27] 0 m).val, .slice none 0 0, .bool false]) (by simp [results, Try.results19, go_sem, St.val, strOfNums]) rfl ⟨_, rfl, ints_nil _ _, ?_⟩
    repeat (first | exact Below.refl _ _ | apply Below.drew | apply below_alloc)

set_option maxRecDepth 100000 in
set_option maxHeartbeats 1000000 in
theorem shift_sgood (b : Int) (hb0 : 0 ≤ b) (hb : b ≤ 13 ∨ (16 ≤ b ∧ b ≤ 26) ∨ (28 ≤ b ∧ b < 128)) (w : World) :
    Calls Try.prog 19 #[(St.mk 0 0 0 0 [] 0 0).val, .int .i64 b] w (Post3 (St.mk 0 0 0 0 [] 0 0, [b], false) w) := by
  have e0 : strOfNums [] = ⟨#[]⟩ := rfl
  have g1 : (b == 14) = false := by simp; omega
  have g2 : (b == 15) = false := by simp; omega
  have g3 : ¬ b = 14 := by omega
  have g4 : ¬ b = 15 := by omega
  have g5 : ¬ b = 27 := by omega
  unfold St.val
  dsimp only
  rw [e0]
  rcases hb with hb | ⟨h1, h2⟩ | ⟨h1, h2⟩
  all_goals
    go_enter Try.func19, Try.ntmps19
    go_wp2
    refine bodyPost_ret (v := .tuple #[(St.mk 0 0 0 0 [] 0 0).val, _, .bool false]) (by simp [results, Try.results19, go_sem, St.val, strOfNums] <;> rfl) rfl ⟨_, rfl, ints_lit1 _ _ _ _ ?_ ?_, ?_⟩
    · exact heap_new _ _ _ (by simp)
    · omega
    repeat (first | exact Below.refl _ _ | apply Below.drew | apply below_alloc)

set_option maxRecDepth 100000 in
set_option maxHeartbeats 1000000 in
theorem shift_sbad (b : Int) (hb1 : b ≤ 255) (hb : b = 14 ∨ b = 15 ∨ 128 ≤ b) (w : World) :
    Calls Try.prog 19 #[(St.mk 0 0 0 0 [] 0 0).val, .int .i64 b] w (Post3 (St.mk 0 0 0 0 [] 0 0, [-1], false) w) := by
  have e0 : strOfNums [] = ⟨#[]⟩ := rfl
  unfold St.val
  dsimp only
  rw [e0]
  rcases hb with rfl | rfl | hb
  all_goals
    go_enter Try.func19, Try.ntmps19
    go_wp2
    refine bodyPost_ret (v := .tuple #[(St.mk 0 0 0 0 [] 0 0).val, _, .bool false]) (by simp [results, Try.results19, go_sem, St.val, strOfNums] <;> rfl) rfl ⟨_, rfl, ints_lit1 _ _ _ _ ?_ ?_, ?_⟩
    · exact heap_new _ _ _ (by simp)
    · omega
    repeat (first | exact Below.refl _ _ | apply Below.drew | apply below_alloc)

set_option maxRecDepth 100000 in
set_option maxHeartbeats 1000000 in
theorem shift_dline  (w : World) :
    Calls Try.prog 19 #[(St.mk 0 0 0 0 [] 0 1).val, .int .i64 10] w (Post3 (St.mk 0 0 0 0 [] 0 0, [10], false) w) := by
  have e0 : strOfNums [] = ⟨#[]⟩ := rfl
  unfold St.val
  dsimp only
  rw [e0]
  all_goals
    go_enter Try.func19, Try.ntmps19
    go_wp2
    refine bodyPost_ret (v := .tuple #[(St.mk 0 0 0 0 [] 0 0).val, _, .bool false]) (by simp [results, Try.results19, go_sem, St.val, strOfNums] <;> rfl) rfl ⟨_, rfl, ints_lit1 _ _ _ _ ?_ ?_, ?_⟩
    · exact heap_new _ _ _ (by simp)
    · omega
    repeat (first | exact Below.refl _ _ | apply Below.drew | apply below_alloc)

set_option maxRecDepth 100000 in
set_option maxHeartbeats 1000000 in
theorem shift_dbad (b : Int) (hb : (0 ≤ b ∧ b ≤ 9) ∨ (11 ≤ b ∧ b ≤ 26) ∨ (28 ≤ b ∧ b ≤ 32) ∨ (127 ≤ b ∧ b ≤ 255)) (w : World) :
    Calls Try.prog 19 #[(St.mk 0 0 0 0 [] 0 1).val, .int .i64 b] w (Post3 (St.mk 0 0 0 0 [] 0 1, [-1], false) w) := by
  have e0 : strOfNums [] = ⟨#[]⟩ := rfl
  unfold St.val
  dsimp only
  rw [e0]
  rcases hb with ⟨h1, h2⟩ | ⟨h1, h2⟩ | ⟨h1, h2⟩ | ⟨h1, h2⟩
  all_goals
    go_enter Try.func19, Try.ntmps19
    go_wp2
    refine bodyPost_ret (v := .tuple #[(St.mk 0 0 0 0 [] 0 1).val, _, .bool false]) (by simp [results, Try.results19, go_sem, St.val, strOfNums] <;> rfl) rfl ⟨_, rfl, ints_lit1 _ _ _ _ ?_ ?_, ?_⟩
    · exact heap_new _ _ _ (by simp)
    · omega
    repeat (first | exact Below.refl _ _ | apply Below.drew | apply below_alloc)

set_option maxRecDepth 100000 in
set_option maxHeartbeats 1000000 in
theorem shift_dlead (b : Int) (hb0 : 33 ≤ b) (hb1 : b ≤ 126) (w : World) :
    Calls Try.prog 19 #[(St.mk 0 0 0 0 [] 0 1).val, .int .i64 b] w (Post3 (St.mk 0 0 0 0 [b] 0 1, [], false) w) := by
  have e0 : strOfNums [] = ⟨#[]⟩ := rfl
  have kc := run_conv1
  unfold St.val
  dsimp only
  rw [e0]
  all_goals
    go_enter Try.func19, Try.ntmps19
    go_wp2
    refine bodyPost_ret (v := .tuple #[(St.mk 0 0 0 0 [b] 0 1).val, .slice none 0 0, .bool false]) (by simp [results, Try.results19, go_sem, St.val, strOfNums]) rfl ⟨_, rfl, ints_nil _ _, ?_⟩
    repeat (first | exact Below.refl _ _ | apply Below.drew | apply below_alloc)

set_option maxRecDepth 100000 in
set_option maxHeartbeats 1000000 in
theorem shift_par (m : Int) (w : World) :
    Calls Try.prog 19 #[(St.mk 0 0 0 0 [27] 0 m).val, .int .i64 40] w (Post3 (St.mk 0 0 0 0 [27, 40] 0 m, [], false) w) := by
  have e0 : strOfNums [27] = ⟨#[27]⟩ := by decide
  have hi0 : ∀ h, (⟨#[27]⟩ : ByteArray)[0]'h = 27 := fun _ => rfl
  have kc := run_conv1
  have hcat : (⟨#[27]⟩ : ByteArray) ++ strOfNums [40] = ⟨#[27, 40]⟩ := by decide
  have hsz := strOfNums_size [40]
  simp only [List.length_cons, List.length_nil] at hsz
  unfold St.val
  dsimp only
  rw [e0]
  all_goals
    go_enter Try.func19, Try.ntmps19
    go_wp2
    refine bodyPost_ret (v := .tuple #[(St.mk 0 0 0 0 [27, 40] 0 m).val, .slice none 0 0, .bool false]) (by simp [results, Try.results19, go_sem, St.val, strOfNums]) rfl ⟨_, rfl, ints_nil _ _, ?_⟩
    repeat (first | exact Below.refl _ _ | apply Below.drew | apply below_alloc)

set_option maxRecDepth 100000 in
set_option maxHeartbeats 1000000 in
theorem shift_dol (m : Int) (w : World) :
    Calls Try.prog 19 #[(St.mk 0 0 0 0 [27] 0 m).val, .int .i64 36] w (Post3 (St.mk 0 0 0 0 [27, 36] 0 m, [], false) w) := by
  have e0 : strOfNums [27] = ⟨#[27]⟩ := by decide
  have hi0 : ∀ h, (⟨#[27]⟩ : ByteArray)[0]'h = 27 := fun _ => rfl
  have kc := run_conv1
  have hcat : (⟨#[27]⟩ : ByteArray) ++ strOfNums [36] = ⟨#[27, 36]⟩ := by decide
  have hsz := strOfNums_size [36]
  simp only [List.length_cons, List.length_nil] at hsz
  unfold St.val
  dsimp only
  rw [e0]
  all_goals
    go_enter Try.func19, Try.ntmps19
    go_wp2
    refine bodyPost_ret (v := .tuple #[(St.mk 0 0 0 0 [27, 36] 0 m).val, .slice none 0 0, .bool false]) (by simp [results, Try.results19, go_sem, St.val, strOfNums]) rfl ⟨_, rfl, ints_nil _ _, ?_⟩
    repeat (first | exact Below.refl _ _ | apply Below.drew | apply below_alloc)

set_option maxRecDepth 100000 in
set_option maxHeartbeats 1000000 in
theorem shift_escbad (m b : Int) (hb0 : 0 ≤ b) (hb1 : b ≤ 255) (hb : b = 27 ∨ (b ≠ 27 ∧ b ≠ 36 ∧ b ≠ 40)) (w : World) :
    Calls Try.prog 19 #[(St.mk 0 0 0 0 [27] 0 m).val, .int .i64 b] w (Post3 (St.mk 0 0 0 0 [] 0 m, [-1], true) w) := by
  have e0 : strOfNums [27] = ⟨#[27]⟩ := by decide
  have hi0 : ∀ h, (⟨#[27]⟩ : ByteArray)[0]'h = 27 := fun _ => rfl
  unfold St.val
  dsimp only
  rw [e0]
  rcases hb with rfl | ⟨g1, g2, g3⟩
  case' inr => have g4 : (b == 36) = false := by simpa using g2
  case' inr => have g5 : (b == 40) = false := by simpa using g3
  all_goals
    go_enter Try.func19, Try.ntmps19
    go_wp2
    refine bodyPost_ret (v := .tuple #[(St.mk 0 0 0 0 [] 0 m).val, _, .bool true]) (by simp [results, Try.results19, go_sem, St.val, strOfNums] <;> rfl) rfl ⟨_, rfl, ints_lit1 _ _ _ _ ?_ ?_, ?_⟩
    · exact heap_new _ _ _ (by simp)
    · omega
    repeat (first | exact Below.refl _ _ | apply Below.drew | apply below_alloc)

set_option maxRecDepth 100000 in
set_option maxHeartbeats 1000000 in
theorem shift_sel40 (m : Int) (w : World) :
    Calls Try.prog 19 #[(St.mk 0 0 0 0 [27, 40] 0 m).val, .int .i64 66] w (Post3 (St.mk 0 0 0 0 [] 0 0, [], false) w) := by
  have e0 : strOfNums [27, 40] = ⟨#[27, 40]⟩ := by decide
  have hi0 : ∀ h, (⟨#[27, 40]⟩ : ByteArray)[0]'h = 27 := fun _ => rfl
  have hi1 : ∀ h, (⟨#[27, 40]⟩ : ByteArray)[1]'h = 40 := fun _ => rfl
  unfold St.val
  dsimp only
  rw [e0]
  all_goals
    go_enter Try.func19, Try.ntmps19
    go_wp2
    refine bodyPost_ret (v := .tuple #[(St.mk 0 0 0 0 [] 0 0).val, .slice none 0 0, .bool false]) (by simp [results, Try.results19, go_sem, St.val, strOfNums]) rfl ⟨_, rfl, ints_nil _ _, ?_⟩
    repeat (first | exact Below.refl _ _ | apply Below.drew | apply below_alloc)

set_option maxRecDepth 100000 in
set_option maxHeartbeats 1000000 in
theorem shift_two040 (b : Int) (hb0 : 0 ≤ b) (hb1 : b ≤ 255) (hb : b = 27 ∨ (b ≠ 27 ∧ b ≠ 66)) (w : World) :
    Calls Try.prog 19 #[(St.mk 0 0 0 0 [27, 40] 0 0).val, .int .i64 b] w (Post3 (St.mk 0 0 0 0 [] 0 0, [-1, 40], true) w) := by
  have e0 : strOfNums [27, 40] = ⟨#[27, 40]⟩ := by decide
  have hi0 : ∀ h, (⟨#[27, 40]⟩ : ByteArray)[0]'h = 27 := fun _ => rfl
  have hi1 : ∀ h, (⟨#[27, 40]⟩ : ByteArray)[1]'h = 40 := fun _ => rfl
  unfold St.val
  dsimp only
  rw [e0]
  rcases hb with rfl | ⟨g1, g2⟩
  case' inr => have g3 : (b == 66) = false := by simpa using g2
  all_goals
    go_enter Try.func19, Try.ntmps19
    go_wp2
    refine bodyPost_ret (v := .tuple #[(St.mk 0 0 0 0 [] 0 0).val, _, .bool true]) (by simp [results, Try.results19, go_sem, St.val, strOfNums] <;> exact ⟨rfl, rfl⟩) rfl ⟨_, rfl, ints_grown _ _ _ [-1, 40] 2 1 _ _ ?_ ?_ rfl (by omega) rfl, ?_⟩
    · exact heap_last _ _ _ (by simp)
    · omega
    repeat (first | exact Below.refl _ _ | apply Below.drew | apply below_alloc)

set_option maxRecDepth 100000 in
set_option maxHeartbeats 1000000 in
theorem shift_two140 (b : Int) (hb0 : 0 ≤ b) (hb1 : b ≤ 255) (hb : b = 27 ∨ (b ≠ 27 ∧ b ≠ 66)) (w : World) :
    Calls Try.prog 19 #[(St.mk 0 0 0 0 [27, 40] 0 1).val, .int .i64 b] w (Post3 (St.mk 0 0 0 0 [40] 0 1, [-1], true) w) := by
  have e0 : strOfNums [27, 40] = ⟨#[27, 40]⟩ := by decide
  have hi0 : ∀ h, (⟨#[27, 40]⟩ : ByteArray)[0]'h = 27 := fun _ => rfl
  have hi1 : ∀ h, (⟨#[27, 40]⟩ : ByteArray)[1]'h = 40 := fun _ => rfl
  have kc := run_conv1
  unfold St.val
  dsimp only
  rw [e0]
  rcases hb with rfl | ⟨g1, g2⟩
  case' inr => have g3 : (b == 66) = false := by simpa using g2
  all_goals
    go_enter Try.func19, Try.ntmps19
    go_wp2
    refine bodyPost_ret (v := .tuple #[(St.mk 0 0 0 0 [40] 0 1).val, _, .bool true]) (by simp [results, Try.results19, go_sem, St.val, strOfNums] <;> rfl) rfl ⟨_, rfl, ints_lit1 _ _ _ _ ?_ ?_, ?_⟩
    · exact (heap_old _ _ _ (by simp)).trans (heap_new _ _ _ (by simp))
    · omega
    repeat (first | exact Below.refl _ _ | apply Below.drew | apply below_alloc)

set_option maxRecDepth 100000 in
set_option maxHeartbeats 1000000 in
theorem shift_sel36 (m : Int) (w : World) :
    Calls Try.prog 19 #[(St.mk 0 0 0 0 [27, 36] 0 m).val, .int .i64 66] w (Post3 (St.mk 0 0 0 0 [] 0 1, [], false) w) := by
  have e0 : strOfNums [27, 36] = ⟨#[27, 36]⟩ := by decide
  have hi0 : ∀ h, (⟨#[27, 36]⟩ : ByteArray)[0]'h = 27 := fun _ => rfl
  have hi1 : ∀ h, (⟨#[27, 36]⟩ : ByteArray)[1]'h = 36 := fun _ => rfl
  unfold St.val
  dsimp only
  rw [e0]
  all_goals
    go_enter Try.func19, Try.ntmps19
    go_wp2
    refine bodyPost_ret (v := .tuple #[(St.mk 0 0 0 0 [] 0 1).val, .slice none 0 0, .bool false]) (by simp [results, Try.results19, go_sem, St.val, strOfNums]) rfl ⟨_, rfl, ints_nil _ _, ?_⟩
    repeat (first | exact Below.refl _ _ | apply Below.drew | apply below_alloc)

set_option maxRecDepth 100000 in
set_option maxHeartbeats 1000000 in
theorem shift_two036 (b : Int) (hb0 : 0 ≤ b) (hb1 : b ≤ 255) (hb : b = 27 ∨ (b ≠ 27 ∧ b ≠ 66)) (w : World) :
    Calls Try.prog 19 #[(St.mk 0 0 0 0 [27, 36] 0 0).val, .int .i64 b] w (Post3 (St.mk 0 0 0 0 [] 0 0, [-1, 36], true) w) := by
  have e0 : strOfNums [27, 36] = ⟨#[27, 36]⟩ := by decide
  have hi0 : ∀ h, (⟨#[27, 36]⟩ : ByteArray)[0]'h = 27 := fun _ => rfl
  have hi1 : ∀ h, (⟨#[27, 36]⟩ : ByteArray)[1]'h = 36 := fun _ => rfl
  unfold St.val
  dsimp only
  rw [e0]
  rcases hb with rfl | ⟨g1, g2⟩
  case' inr => have g3 : (b == 66) = false := by simpa using g2
  all_goals
    go_enter Try.func19, Try.ntmps19
    go_wp2
    refine bodyPost_ret (v := .tuple #[(St.mk 0 0 0 0 [] 0 0).val, _, .bool true]) (by simp [results, Try.results19, go_sem, St.val, strOfNums] <;> exact ⟨rfl, rfl⟩) rfl ⟨_, rfl, ints_grown _ _ _ [-1, 36] 2 1 _ _ ?_ ?_ rfl (by omega) rfl, ?_⟩
    · exact heap_last _ _ _ (by simp)
    · omega
    repeat (first | exact Below.refl _ _ | apply Below.drew | apply below_alloc)

set_option maxRecDepth 100000 in
set_option maxHeartbeats 1000000 in
theorem shift_two136 (b : Int) (hb0 : 0 ≤ b) (hb1 : b ≤ 255) (hb : b = 27 ∨ (b ≠ 27 ∧ b ≠ 66)) (w : World) :
    Calls Try.prog 19 #[(St.mk 0 0 0 0 [27, 36] 0 1).val, .int .i64 b] w (Post3 (St.mk 0 0 0 0 [36] 0 1, [-1], true) w) := by
  have e0 : strOfNums [27, 36] = ⟨#[27, 36]⟩ := by decide
  have hi0 : ∀ h, (⟨#[27, 36]⟩ : ByteArray)[0]'h = 27 := fun _ => rfl
  have hi1 : ∀ h, (⟨#[27, 36]⟩ : ByteArray)[1]'h = 36 := fun _ => rfl
  have kc := run_conv1
  unfold St.val
  dsimp only
  rw [e0]
  rcases hb with rfl | ⟨g1, g2⟩
  case' inr => have g3 : (b == 66) = false := by simpa using g2
  all_goals
    go_enter Try.func19, Try.ntmps19
    go_wp2
    refine bodyPost_ret (v := .tuple #[(St.mk 0 0 0 0 [36] 0 1).val, _, .bool true]) (by simp [results, Try.results19, go_sem, St.val, strOfNums] <;> rfl) rfl ⟨_, rfl, ints_lit1 _ _ _ _ ?_ ?_, ?_⟩
    · exact (heap_old _ _ _ (by simp)).trans (heap_new _ _ _ (by simp))
    · omega
    repeat (first | exact Below.refl _ _ | apply Below.drew | apply below_alloc)

set_option maxRecDepth 100000 in
set_option maxHeartbeats 1000000 in
theorem shift_leadesc (u : UInt8) (hu0 : 33 ≤ (u.toNat : Int)) (hu1 : (u.toNat : Int) ≤ 126)  (w : World) :
    Calls Try.prog 19 #[(St.mk 0 0 0 0 [(u.toNat : Int)] 0 1).val, .int .i64 27] w (Post3 (St.mk 0 0 0 0 [27] 0 1, [-1], false) w) := by
  have e0 := str1 u
  have hidx := idx1 u
  have hwb := wrap64_byte u
  have hu27 : ¬ u = 27 := by rintro rfl; simp at hu0
  have hub : (u == 27) = false := by simpa using hu27
  unfold St.val
  dsimp only
  rw [e0]
  all_goals
    go_enter Try.func19, Try.ntmps19
    go_wp2
    refine bodyPost_ret (v := .tuple #[(St.mk 0 0 0 0 [27] 0 1).val, _, .bool false]) (by simp [results, Try.results19, go_sem, St.val, strOfNums] <;> rfl) rfl ⟨_, rfl, ints_lit1 _ _ _ _ ?_ ?_, ?_⟩
    · exact heap_new _ _ _ (by simp)
    · omega
    repeat (first | exact Below.refl _ _ | apply Below.drew | apply below_alloc)

set_option maxRecDepth 100000 in
set_option maxHeartbeats 1000000 in
theorem shift_leadbad (u : UInt8) (hu0 : 33 ≤ (u.toNat : Int)) (hu1 : (u.toNat : Int) ≤ 126) (b : Int) (hb : (0 ≤ b ∧ b ≤ 26) ∨ (28 ≤ b ∧ b ≤ 32) ∨ (127 ≤ b ∧ b ≤ 255)) (w : World) :
    Calls Try.prog 19 #[(St.mk 0 0 0 0 [(u.toNat : Int)] 0 1).val, .int .i64 b] w (Post3 (St.mk 0 0 0 0 [] 0 1, [-1], false) w) := by
  have e0 := str1 u
  have hidx := idx1 u
  have hwb := wrap64_byte u
  have hu27 : ¬ u = 27 := by rintro rfl; simp at hu0
  have hub : (u == 27) = false := by simpa using hu27
  unfold St.val
  dsimp only
  rw [e0]
  rcases hb with ⟨h1, h2⟩ | ⟨h1, h2⟩ | ⟨h1, h2⟩
  all_goals
    go_enter Try.func19, Try.ntmps19
    go_wp2
    refine bodyPost_ret (v := .tuple #[(St.mk 0 0 0 0 [] 0 1).val, _, .bool false]) (by simp [results, Try.results19, go_sem, St.val, strOfNums] <;> rfl) rfl ⟨_, rfl, ints_lit1 _ _ _ _ ?_ ?_, ?_⟩
    · exact heap_new _ _ _ (by simp)
    · omega
    repeat (first | exact Below.refl _ _ | apply Below.drew | apply below_alloc)

set_option maxRecDepth 100000 in
set_option maxHeartbeats 1000000 in
theorem shift_leadgood (u : UInt8) (hu0 : 33 ≤ (u.toNat : Int)) (hu1 : (u.toNat : Int) ≤ 126) (b : Int) (hb0 : 33 ≤ b) (hb1 : b ≤ 126) (w : World) :
    Calls Try.prog 19 #[(St.mk 0 0 0 0 [(u.toNat : Int)] 0 1).val, .int .i64 b] w (Post3 (St.mk 0 0 0 0 [] 0 1, [12288 + ((u.toNat : Int) - 33) * 94 + b - 33], false) w) := by
  have e0 := str1 u
  have hidx := idx1 u
  have hwb := wrap64_byte u
  have hu27 : ¬ u = 27 := by rintro rfl; simp at hu0
  have hub : (u == 27) = false := by simpa using hu27
  unfold St.val
  dsimp only
  rw [e0]
  all_goals
    go_enter Try.func19, Try.ntmps19
    go_wp2
    refine bodyPost_ret (v := .tuple #[(St.mk 0 0 0 0 [] 0 1).val, _, .bool false]) (by simp [results, Try.results19, go_sem, St.val, strOfNums] <;> rfl) rfl ⟨_, rfl, ints_lit1 _ _ _ _ ?_ ?_, ?_⟩
    · exact heap_new _ _ _ (by simp)
    · omega
    repeat (first | exact Below.refl _ _ | apply Below.drew | apply below_alloc)

end Go.Proofs.Ytefohnbmifblkab
