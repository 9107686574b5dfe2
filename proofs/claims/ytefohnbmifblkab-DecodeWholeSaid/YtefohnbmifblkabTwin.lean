/- One byte of Twin or Latin: the program's functions twin and latin compute the plain functions, for every good state. -/
import Derived.Test.YtefohnbmifblkabDec
import Derived.Test.YtefohnbmifblkabPlainB
namespace Go.Proofs.Ytefohnbmifblkab
open Go.RowKit
set_option linter.unusedVariables false

set_option maxHeartbeats 1000000 in
theorem twin_ascii (b : Int) (hb0 : 0 ≤ b) (hb1 : b < 128) (w : World) :
    Calls Try.prog 20 #[(St.mk 0 0 0 0 [] 0 0).val, .int .i64 b] w (Post3 (St.mk 0 0 0 0 [] 0 0, [b], false) w) := by
  have e0 : strOfNums [] = ⟨#[]⟩ := rfl
  unfold St.val
  dsimp only
  rw [e0]
  all_goals
    go_enter Try.func20, Try.ntmps20
    go_wp2
    refine bodyPost_ret (v := .tuple #[(St.mk 0 0 0 0 [] 0 0).val, _, .bool false]) (by simp [results, Try.results20, go_sem, St.val, strOfNums] <;> rfl) rfl ⟨_, rfl, ints_lit1 _ _ _ _ ?_ ?_, ?_⟩
    · exact heap_new _ _ _ (by simp)
    · omega
    repeat (first | exact Below.refl _ _ | apply Below.drew | apply below_alloc)

set_option maxHeartbeats 1000000 in
theorem twin_lead (b : Int) (hb0 : 129 ≤ b) (hb1 : b ≤ 159) (w : World) :
    Calls Try.prog 20 #[(St.mk 0 0 0 0 [] 0 0).val, .int .i64 b] w (Post3 (St.mk 0 0 0 0 [b] 0 0, [], false) w) := by
  have e0 : strOfNums [] = ⟨#[]⟩ := rfl
  have kc := run_conv1
  unfold St.val
  dsimp only
  rw [e0]
  all_goals
    go_enter Try.func20, Try.ntmps20
    go_wp2
    refine bodyPost_ret (v := .tuple #[(St.mk 0 0 0 0 [b] 0 0).val, .slice none 0 0, .bool false]) (by simp [results, Try.results20, go_sem, St.val, strOfNums]) rfl ⟨_, rfl, ints_nil _ _, ?_⟩
    repeat (first | exact Below.refl _ _ | apply Below.drew | apply below_alloc)

set_option maxHeartbeats 1000000 in
theorem twin_half (b : Int) (hb0 : 161 ≤ b) (hb1 : b ≤ 223) (w : World) :
    Calls Try.prog 20 #[(St.mk 0 0 0 0 [] 0 0).val, .int .i64 b] w (Post3 (St.mk 0 0 0 0 [] 0 0, [65377 + b - 161], false) w) := by
  have e0 : strOfNums [] = ⟨#[]⟩ := rfl
  unfold St.val
  dsimp only
  rw [e0]
  all_goals
    go_enter Try.func20, Try.ntmps20
    go_wp2
    refine bodyPost_ret (v := .tuple #[(St.mk 0 0 0 0 [] 0 0).val, _, .bool false]) (by simp [results, Try.results20, go_sem, St.val, strOfNums] <;> rfl) rfl ⟨_, rfl, ints_lit1 _ _ _ _ ?_ ?_, ?_⟩
    · exact heap_new _ _ _ (by simp)
    · omega
    repeat (first | exact Below.refl _ _ | apply Below.drew | apply below_alloc)

set_option maxHeartbeats 1000000 in
theorem twin_bad (b : Int) (hb : b = 128 ∨ b = 160 ∨ (224 ≤ b ∧ b ≤ 255)) (w : World) :
    Calls Try.prog 20 #[(St.mk 0 0 0 0 [] 0 0).val, .int .i64 b] w (Post3 (St.mk 0 0 0 0 [] 0 0, [-1], false) w) := by
  have e0 : strOfNums [] = ⟨#[]⟩ := rfl
  unfold St.val
  dsimp only
  rw [e0]
  rcases hb with rfl | rfl | ⟨h1, h2⟩
  all_goals
    go_enter Try.func20, Try.ntmps20
    go_wp2
    refine bodyPost_ret (v := .tuple #[(St.mk 0 0 0 0 [] 0 0).val, _, .bool false]) (by simp [results, Try.results20, go_sem, St.val, strOfNums] <;> rfl) rfl ⟨_, rfl, ints_lit1 _ _ _ _ ?_ ?_, ?_⟩
    · exact heap_new _ _ _ (by simp)
    · omega
    repeat (first | exact Below.refl _ _ | apply Below.drew | apply below_alloc)

set_option maxHeartbeats 1000000 in
theorem twin_first (u : UInt8) (b : Int) (hb0 : 64 ≤ b) (hb1 : b ≤ 126) (w : World) :
    Calls Try.prog 20 #[(St.mk 0 0 0 0 [(u.toNat : Int)] 0 0).val, .int .i64 b] w (Post3 (St.mk 0 0 0 0 [] 0 0, [19968 + ((u.toNat : Int) - 129) * 188 + b - 64], false) w) := by
  have e0 : strOfNums [] = ⟨#[]⟩ := rfl
  have hidx := idx1 u
  have hu := byte_le u
  have hwb := wrap64_byte u
  unfold St.val
  dsimp only
  rw [str1]
  all_goals
    go_enter Try.func20, Try.ntmps20
    go_wp2
    refine bodyPost_ret (v := .tuple #[(St.mk 0 0 0 0 [] 0 0).val, _, .bool false]) (by simp [results, Try.results20, go_sem, St.val, strOfNums] <;> rfl) rfl ⟨_, rfl, ints_lit1 _ _ _ _ ?_ ?_, ?_⟩
    · exact heap_new _ _ _ (by simp)
    · omega
    repeat (first | exact Below.refl _ _ | apply Below.drew | apply below_alloc)

set_option maxHeartbeats 1000000 in
theorem twin_second (u : UInt8) (b : Int) (hb0 : 128 ≤ b) (hb1 : b ≤ 252) (w : World) :
    Calls Try.prog 20 #[(St.mk 0 0 0 0 [(u.toNat : Int)] 0 0).val, .int .i64 b] w (Post3 (St.mk 0 0 0 0 [] 0 0, [19968 + ((u.toNat : Int) - 129) * 188 + b - 65], false) w) := by
  have e0 : strOfNums [] = ⟨#[]⟩ := rfl
  have hidx := idx1 u
  have hu := byte_le u
  have hwb := wrap64_byte u
  unfold St.val
  dsimp only
  rw [str1]
  all_goals
    go_enter Try.func20, Try.ntmps20
    go_wp2
    refine bodyPost_ret (v := .tuple #[(St.mk 0 0 0 0 [] 0 0).val, _, .bool false]) (by simp [results, Try.results20, go_sem, St.val, strOfNums] <;> rfl) rfl ⟨_, rfl, ints_lit1 _ _ _ _ ?_ ?_, ?_⟩
    · exact heap_new _ _ _ (by simp)
    · omega
    repeat (first | exact Below.refl _ _ | apply Below.drew | apply below_alloc)

set_option maxHeartbeats 1000000 in
theorem twin_wrong (u : UInt8) (b : Int) (hb : (0 ≤ b ∧ b < 64) ∨ b = 127) (w : World) :
    Calls Try.prog 20 #[(St.mk 0 0 0 0 [(u.toNat : Int)] 0 0).val, .int .i64 b] w (Post3 (St.mk 0 0 0 0 [] 0 0, [-1], true) w) := by
  have e0 : strOfNums [] = ⟨#[]⟩ := rfl
  have hidx := idx1 u
  have hu := byte_le u
  have hwb := wrap64_byte u
  unfold St.val
  dsimp only
  rw [str1]
  rcases hb with ⟨h1, h2⟩ | rfl
  all_goals
    go_enter Try.func20, Try.ntmps20
    go_wp2
    refine bodyPost_ret (v := .tuple #[(St.mk 0 0 0 0 [] 0 0).val, _, .bool true]) (by simp [results, Try.results20, go_sem, St.val, strOfNums] <;> rfl) rfl ⟨_, rfl, ints_lit1 _ _ _ _ ?_ ?_, ?_⟩
    · exact heap_new _ _ _ (by simp)
    · omega
    repeat (first | exact Below.refl _ _ | apply Below.drew | apply below_alloc)

set_option maxHeartbeats 1000000 in
theorem twin_swallow (u : UInt8) (b : Int) (hb0 : 253 ≤ b) (hb1 : b ≤ 255) (w : World) :
    Calls Try.prog 20 #[(St.mk 0 0 0 0 [(u.toNat : Int)] 0 0).val, .int .i64 b] w (Post3 (St.mk 0 0 0 0 [] 0 0, [-1], false) w) := by
  have e0 : strOfNums [] = ⟨#[]⟩ := rfl
  have hidx := idx1 u
  have hu := byte_le u
  have hwb := wrap64_byte u
  have h9 : decide (b < 128) = false := by simp; omega
  unfold St.val
  dsimp only
  rw [str1]
  all_goals
    go_enter Try.func20, Try.ntmps20
    go_wp2
    refine bodyPost_ret (v := .tuple #[(St.mk 0 0 0 0 [] 0 0).val, _, .bool false]) (by simp [results, Try.results20, go_sem, St.val, strOfNums] <;> rfl) rfl ⟨_, rfl, ints_lit1 _ _ _ _ ?_ ?_, ?_⟩
    · exact heap_new _ _ _ (by simp)
    · omega
    repeat (first | exact Below.refl _ _ | apply Below.drew | apply below_alloc)

theorem twin_any (s : St) (b : Int) (hb0 : 0 ≤ b) (hb1 : b ≤ 255) (hg : goodS 3 s = true) (w : World) :
    Calls Try.prog 20 #[s.val, .int .i64 b] w (Post3 (twinS s b) w) := by
  rcases goodTwin_cases hg with rfl | ⟨x, rfl, hx0, hx1⟩
  · have hr : b < 128 ∨ (129 ≤ b ∧ b ≤ 159) ∨ (161 ≤ b ∧ b ≤ 223) ∨ (b = 128 ∨ b = 160 ∨ (224 ≤ b ∧ b ≤ 255)) := by omega
    rcases hr with hr | ⟨h1, h2⟩ | ⟨h1, h2⟩ | hr
    · have e : twinS {} b = ({}, [b], false) := by simp only [twinS]; grind
      rw [e]; exact twin_ascii b hb0 hr w
    · have e : twinS {} b = (St.mk 0 0 0 0 [b] 0 0, [], false) := by simp only [twinS]; grind
      rw [e]; exact twin_lead b h1 h2 w
    · have e : twinS {} b = ({}, [65377 + b - 161], false) := by simp only [twinS]; grind
      rw [e]; exact twin_half b h1 h2 w
    · have e : twinS {} b = ({}, [-1], false) := by simp only [twinS]; grind
      rw [e]; exact twin_bad b hr w
  · obtain ⟨u, rfl⟩ := byte_of x (by omega) (by omega)
    have hr : (64 ≤ b ∧ b ≤ 126) ∨ (128 ≤ b ∧ b ≤ 252) ∨ ((0 ≤ b ∧ b < 64) ∨ b = 127) ∨ (253 ≤ b ∧ b ≤ 255) := by omega
    rcases hr with ⟨h1, h2⟩ | ⟨h1, h2⟩ | hr | ⟨h1, h2⟩
    · have e : twinS (St.mk 0 0 0 0 [(u.toNat : Int)] 0 0) b = ({}, [19968 + ((u.toNat : Int) - 129) * 188 + b - 64], false) := by simp only [twinS]; grind
      rw [e]; exact twin_first u b h1 h2 w
    · have e : twinS (St.mk 0 0 0 0 [(u.toNat : Int)] 0 0) b = ({}, [19968 + ((u.toNat : Int) - 129) * 188 + b - 65], false) := by simp only [twinS]; grind
      rw [e]; exact twin_second u b h1 h2 w
    · have e : twinS (St.mk 0 0 0 0 [(u.toNat : Int)] 0 0) b = ({}, [-1], true) := by simp only [twinS]; grind
      rw [e]; exact twin_wrong u b hr w
    · have e : twinS (St.mk 0 0 0 0 [(u.toNat : Int)] 0 0) b = ({}, [-1], false) := by simp only [twinS]; grind
      rw [e]; exact twin_swallow u b h1 h2 w

set_option maxHeartbeats 1000000 in
theorem latin_any (b : Int) (hb0 : 0 ≤ b) (hb1 : b ≤ 255) (w : World) :
    Calls Try.prog 21 #[.int .i64 b] w fun e w' => e = .returned (.int .i64 (latinS b)) ∧ w = w' := by
  have hr : (b = 129 ∨ b = 141 ∨ b = 143 ∨ b = 144 ∨ b = 157) ∨ ((b ≠ 129 ∧ b ≠ 141 ∧ b ≠ 143 ∧ b ≠ 144 ∧ b ≠ 157) ∧ 128 ≤ b ∧ b < 160) ∨ b < 128 ∨ 160 ≤ b := by omega
  rcases hr with hr | ⟨⟨g1, g2, g3, g4, g5⟩, h1, h2⟩ | hr | hr
  · rcases hr with rfl | rfl | rfl | rfl | rfl
    all_goals
      go_enter Try.func21, Try.ntmps21
      go_wp2
      go_ret
      exact ⟨rfl, rfl⟩
  all_goals
    go_enter Try.func21, Try.ntmps21
    go_wp2
    all_goals
      go_ret
      exact ⟨ret_int (by unfold latinS; grind), rfl⟩

end Go.Proofs.Ytefohnbmifblkab
