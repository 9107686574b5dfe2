/- One byte of Utf: the program's function utf computes the plain function utfS, for every good state. -/
import Derived.Test.YtefohnbmifblkabDec
import Derived.Test.YtefohnbmifblkabPlainB
namespace Go.Proofs.Ytefohnbmifblkab
open Go.RowKit
set_option linter.unusedVariables false

set_option maxHeartbeats 1000000 in
theorem utf_ascii (b : Int) (hb0 : 0 ≤ b) (hb1 : b < 128) (w : World) :
    Calls Try.prog 18 #[(St.mk 0 0 0 0 [] 0 0).val, .int .i64 b] w (Post3 (St.mk 0 0 0 0 [] 0 0, [b], false) w) := by
  have e0 : strOfNums [] = ⟨#[]⟩ := rfl
  unfold St.val
  dsimp only
  rw [e0]
  all_goals
    go_enter Try.func18, Try.ntmps18
    go_wp2
    refine bodyPost_ret (v := .tuple #[(St.mk 0 0 0 0 [] 0 0).val, _, .bool false]) (by simp [results, Try.results18, go_sem, St.val, strOfNums] <;> rfl) rfl ⟨_, rfl, ints_lit1 _ _ _ _ ?_ ?_, ?_⟩
    · exact heap_new _ _ _ (by simp)
    · omega
    repeat (first | exact Below.refl _ _ | apply Below.drew | apply below_alloc)

set_option maxHeartbeats 1000000 in
theorem utf_bad (b : Int) (hb : (128 ≤ b ∧ b < 194) ∨ (245 ≤ b ∧ b ≤ 255)) (w : World) :
    Calls Try.prog 18 #[(St.mk 0 0 0 0 [] 0 0).val, .int .i64 b] w (Post3 (St.mk 0 0 0 0 [] 0 0, [-1], false) w) := by
  have e0 : strOfNums [] = ⟨#[]⟩ := rfl
  unfold St.val
  dsimp only
  rw [e0]
  rcases hb with ⟨h1, h2⟩ | ⟨h1, h2⟩
  all_goals
    go_enter Try.func18, Try.ntmps18
    go_wp2
    refine bodyPost_ret (v := .tuple #[(St.mk 0 0 0 0 [] 0 0).val, _, .bool false]) (by simp [results, Try.results18, go_sem, St.val, strOfNums] <;> rfl) rfl ⟨_, rfl, ints_lit1 _ _ _ _ ?_ ?_, ?_⟩
    · exact heap_new _ _ _ (by simp)
    · omega
    repeat (first | exact Below.refl _ _ | apply Below.drew | apply below_alloc)

set_option maxHeartbeats 1000000 in
theorem utf_two (b : Int) (hb0 : 194 ≤ b) (hb1 : b ≤ 223) (w : World) :
    Calls Try.prog 18 #[(St.mk 0 0 0 0 [] 0 0).val, .int .i64 b] w (Post3 (St.mk 1 (b % 32) 128 191 [] 0 0, [], false) w) := by
  have e0 : strOfNums [] = ⟨#[]⟩ := rfl
  have h1 := i64_and31 b (by omega) (by omega)
  unfold St.val
  dsimp only
  rw [e0]
  all_goals
    go_enter Try.func18, Try.ntmps18
    go_wp2
    refine bodyPost_ret (v := .tuple #[(St.mk 1 (b % 32) 128 191 [] 0 0).val, .slice none 0 0, .bool false]) (by simp [results, Try.results18, go_sem, St.val, strOfNums]) rfl ⟨_, rfl, ints_nil _ _, ?_⟩
    repeat (first | exact Below.refl _ _ | apply Below.drew | apply below_alloc)

set_option maxHeartbeats 1000000 in
theorem utf_e0  (w : World) :
    Calls Try.prog 18 #[(St.mk 0 0 0 0 [] 0 0).val, .int .i64 224] w (Post3 (St.mk 2 0 160 191 [] 0 0, [], false) w) := by
  have e0 : strOfNums [] = ⟨#[]⟩ := rfl
  have h1 : bits .and .i64 224 15 = 0 := by decide
  unfold St.val
  dsimp only
  rw [e0]
  all_goals
    go_enter Try.func18, Try.ntmps18
    go_wp2
    refine bodyPost_ret (v := .tuple #[(St.mk 2 0 160 191 [] 0 0).val, .slice none 0 0, .bool false]) (by simp [results, Try.results18, go_sem, St.val, strOfNums]) rfl ⟨_, rfl, ints_nil _ _, ?_⟩
    repeat (first | exact Below.refl _ _ | apply Below.drew | apply below_alloc)

set_option maxHeartbeats 1000000 in
theorem utf_ed  (w : World) :
    Calls Try.prog 18 #[(St.mk 0 0 0 0 [] 0 0).val, .int .i64 237] w (Post3 (St.mk 2 13 128 159 [] 0 0, [], false) w) := by
  have e0 : strOfNums [] = ⟨#[]⟩ := rfl
  have h1 : bits .and .i64 237 15 = 13 := by decide
  unfold St.val
  dsimp only
  rw [e0]
  all_goals
    go_enter Try.func18, Try.ntmps18
    go_wp2
    refine bodyPost_ret (v := .tuple #[(St.mk 2 13 128 159 [] 0 0).val, .slice none 0 0, .bool false]) (by simp [results, Try.results18, go_sem, St.val, strOfNums]) rfl ⟨_, rfl, ints_nil _ _, ?_⟩
    repeat (first | exact Below.refl _ _ | apply Below.drew | apply below_alloc)

set_option maxHeartbeats 1000000 in
theorem utf_f0  (w : World) :
    Calls Try.prog 18 #[(St.mk 0 0 0 0 [] 0 0).val, .int .i64 240] w (Post3 (St.mk 3 0 144 191 [] 0 0, [], false) w) := by
  have e0 : strOfNums [] = ⟨#[]⟩ := rfl
  have h1 : bits .and .i64 240 7 = 0 := by decide
  unfold St.val
  dsimp only
  rw [e0]
  all_goals
    go_enter Try.func18, Try.ntmps18
    go_wp2
    refine bodyPost_ret (v := .tuple #[(St.mk 3 0 144 191 [] 0 0).val, .slice none 0 0, .bool false]) (by simp [results, Try.results18, go_sem, St.val, strOfNums]) rfl ⟨_, rfl, ints_nil _ _, ?_⟩
    repeat (first | exact Below.refl _ _ | apply Below.drew | apply below_alloc)

set_option maxHeartbeats 1000000 in
theorem utf_f4  (w : World) :
    Calls Try.prog 18 #[(St.mk 0 0 0 0 [] 0 0).val, .int .i64 244] w (Post3 (St.mk 3 4 128 143 [] 0 0, [], false) w) := by
  have e0 : strOfNums [] = ⟨#[]⟩ := rfl
  have h1 : bits .and .i64 244 7 = 4 := by decide
  unfold St.val
  dsimp only
  rw [e0]
  all_goals
    go_enter Try.func18, Try.ntmps18
    go_wp2
    refine bodyPost_ret (v := .tuple #[(St.mk 3 4 128 143 [] 0 0).val, .slice none 0 0, .bool false]) (by simp [results, Try.results18, go_sem, St.val, strOfNums]) rfl ⟨_, rfl, ints_nil _ _, ?_⟩
    repeat (first | exact Below.refl _ _ | apply Below.drew | apply below_alloc)

set_option maxHeartbeats 1000000 in
theorem utf_three (b : Int) (hb : (225 ≤ b ∧ b ≤ 236) ∨ (238 ≤ b ∧ b ≤ 239)) (w : World) :
    Calls Try.prog 18 #[(St.mk 0 0 0 0 [] 0 0).val, .int .i64 b] w (Post3 (St.mk 2 (b % 16) 128 191 [] 0 0, [], false) w) := by
  have e0 : strOfNums [] = ⟨#[]⟩ := rfl
  have h1 := i64_and15 b (by omega) (by omega)
  unfold St.val
  dsimp only
  rw [e0]
  rcases hb with ⟨h2, h3⟩ | ⟨h2, h3⟩
  all_goals
    go_enter Try.func18, Try.ntmps18
    go_wp2
    refine bodyPost_ret (v := .tuple #[(St.mk 2 (b % 16) 128 191 [] 0 0).val, .slice none 0 0, .bool false]) (by simp [results, Try.results18, go_sem, St.val, strOfNums]) rfl ⟨_, rfl, ints_nil _ _, ?_⟩
    repeat (first | exact Below.refl _ _ | apply Below.drew | apply below_alloc)

set_option maxHeartbeats 1000000 in
theorem utf_four (b : Int) (hb0 : 241 ≤ b) (hb1 : b ≤ 243) (w : World) :
    Calls Try.prog 18 #[(St.mk 0 0 0 0 [] 0 0).val, .int .i64 b] w (Post3 (St.mk 3 (b % 8) 128 191 [] 0 0, [], false) w) := by
  have e0 : strOfNums [] = ⟨#[]⟩ := rfl
  have h1 := i64_and7 b (by omega) (by omega)
  unfold St.val
  dsimp only
  rw [e0]
  all_goals
    go_enter Try.func18, Try.ntmps18
    go_wp2
    refine bodyPost_ret (v := .tuple #[(St.mk 3 (b % 8) 128 191 [] 0 0).val, .slice none 0 0, .bool false]) (by simp [results, Try.results18, go_sem, St.val, strOfNums]) rfl ⟨_, rfl, ints_nil _ _, ?_⟩
    repeat (first | exact Below.refl _ _ | apply Below.drew | apply below_alloc)

set_option maxHeartbeats 1000000 in
theorem utf_wrong (n c f t b : Int) (hb0 : 0 ≤ b) (hb1 : b ≤ 255) (hc : 0 ≤ c) (hc1 : c ≤ 32767) (hn : 1 ≤ n) (hw : b < f ∨ t < b) (w : World) :
    Calls Try.prog 18 #[(St.mk n c f t [] 0 0).val, .int .i64 b] w (Post3 (St.mk 0 0 0 0 [] 0 0, [-1], true) w) := by
  have e0 : strOfNums [] = ⟨#[]⟩ := rfl
  unfold St.val
  dsimp only
  rw [e0]
  by_cases hlt : b < f
  case' neg => have hge : f ≤ b := by omega
  case' neg => have htb : t < b := by omega
  all_goals clear hw
  all_goals
    go_enter Try.func18, Try.ntmps18
    go_wp2
    refine bodyPost_ret (v := .tuple #[(St.mk 0 0 0 0 [] 0 0).val, _, .bool true]) (by simp [results, Try.results18, go_sem, St.val, strOfNums] <;> rfl) rfl ⟨_, rfl, ints_lit1 _ _ _ _ ?_ ?_, ?_⟩
    · exact heap_new _ _ _ (by simp)
    · omega
    repeat (first | exact Below.refl _ _ | apply Below.drew | apply below_alloc)

set_option maxHeartbeats 1000000 in
theorem utf_last (c f t b : Int) (hb0 : 0 ≤ b) (hb1 : b ≤ 255) (hc : 0 ≤ c) (hc1 : c ≤ 32767) (hf : f ≤ b) (ht : b ≤ t) (w : World) :
    Calls Try.prog 18 #[(St.mk 1 c f t [] 0 0).val, .int .i64 b] w (Post3 (St.mk 0 0 0 0 [] 0 0, [c * 64 + b % 64], false) w) := by
  have e0 : strOfNums [] = ⟨#[]⟩ := rfl
  have h1 := i64_and63 b hb0 hb1
  have h2 := i64_or6 c (b % 64) hc (by omega) (by omega) (by omega)
  unfold St.val
  dsimp only
  rw [e0]
  all_goals
    go_enter Try.func18, Try.ntmps18
    go_wp2
    refine bodyPost_ret (v := .tuple #[(St.mk 0 0 0 0 [] 0 0).val, _, .bool false]) (by simp [results, Try.results18, go_sem, St.val, strOfNums] <;> rfl) rfl ⟨_, rfl, ints_lit1 _ _ _ _ ?_ ?_, ?_⟩
    · exact heap_new _ _ _ (by simp)
    · omega
    repeat (first | exact Below.refl _ _ | apply Below.drew | apply below_alloc)

set_option maxHeartbeats 1000000 in
theorem utf_next (n c f t b : Int) (hb0 : 0 ≤ b) (hb1 : b ≤ 255) (hc : 0 ≤ c) (hc1 : c ≤ 32767) (hn : 2 ≤ n) (hn3 : n ≤ 3) (hf : f ≤ b) (ht : b ≤ t) (w : World) :
    Calls Try.prog 18 #[(St.mk n c f t [] 0 0).val, .int .i64 b] w (Post3 (St.mk (n - 1) (c * 64 + b % 64) 128 191 [] 0 0, [], false) w) := by
  have e0 : strOfNums [] = ⟨#[]⟩ := rfl
  have h1 := i64_and63 b hb0 hb1
  have h2 := i64_or6 c (b % 64) hc (by omega) (by omega) (by omega)
  unfold St.val
  dsimp only
  rw [e0]
  all_goals
    go_enter Try.func18, Try.ntmps18
    go_wp2
    refine bodyPost_ret (v := .tuple #[(St.mk (n - 1) (c * 64 + b % 64) 128 191 [] 0 0).val, .slice none 0 0, .bool false]) (by simp [results, Try.results18, go_sem, St.val, strOfNums]) rfl ⟨_, rfl, ints_nil _ _, ?_⟩
    repeat (first | exact Below.refl _ _ | apply Below.drew | apply below_alloc)

theorem utf_any (s : St) (b : Int) (hb0 : 0 ≤ b) (hb1 : b ≤ 255) (hg : goodS 1 s = true) (w : World) :
    Calls Try.prog 18 #[s.val, .int .i64 b] w (Post3 (utfS s b) w) := by
  rcases goodUtf_cases hg with rfl | ⟨n, c, f, t, rfl, hn, hn3, hc, hc1, hf, ht, _⟩
  · have hr : b < 128 ∨ ((128 ≤ b ∧ b < 194) ∨ (245 ≤ b ∧ b ≤ 255)) ∨ (194 ≤ b ∧ b ≤ 223) ∨ b = 224 ∨ b = 237 ∨ ((225 ≤ b ∧ b ≤ 236) ∨ (238 ≤ b ∧ b ≤ 239)) ∨ b = 240 ∨ b = 244 ∨ (241 ≤ b ∧ b ≤ 243) := by omega
    rcases hr with hr | hr | ⟨h1, h2⟩ | rfl | rfl | hr | rfl | rfl | ⟨h1, h2⟩
    · have e : utfS {} b = ({}, [b], false) := by unfold utfS; grind
      rw [e]; exact utf_ascii b hb0 hr w
    · have e : utfS {} b = ({}, [-1], false) := by unfold utfS; grind
      rw [e]; exact utf_bad b hr w
    · have e : utfS {} b = (St.mk 1 (b % 32) 128 191 [] 0 0, [], false) := by unfold utfS; grind
      rw [e]; exact utf_two b h1 h2 w
    · exact utf_e0 w
    · exact utf_ed w
    · have e : utfS {} b = (St.mk 2 (b % 16) 128 191 [] 0 0, [], false) := by unfold utfS; grind
      rw [e]; exact utf_three b hr w
    · exact utf_f0 w
    · exact utf_f4 w
    · have e : utfS {} b = (St.mk 3 (b % 8) 128 191 [] 0 0, [], false) := by unfold utfS; grind
      rw [e]; exact utf_four b h1 h2 w
  · by_cases hw : b < f ∨ t < b
    · have e : utfS (St.mk n c f t [] 0 0) b = ({}, [-1], true) := by unfold utfS; grind
      rw [e]; exact utf_wrong n c f t b hb0 hb1 hc hc1 hn hw w
    · by_cases h1 : n = 1
      · subst h1
        have e : utfS (St.mk 1 c f t [] 0 0) b = ({}, [c * 64 + b % 64], false) := by unfold utfS; grind
        rw [e]; exact utf_last c f t b hb0 hb1 hc hc1 (by omega) (by omega) w
      · have e : utfS (St.mk n c f t [] 0 0) b = (St.mk (n - 1) (c * 64 + b % 64) 128 191 [] 0 0, [], false) := by unfold utfS; grind
        rw [e]; exact utf_next n c f t b hb0 hb1 hc hc1 (by omega) hn3 (by omega) (by omega) w

end Go.Proofs.Ytefohnbmifblkab
