/- One byte of Low or High: the program's function pairs computes the plain function pairsS, for every state that keeps at most one byte. -/
import Derived.Test.YtefohnbmifblkabDec
namespace Go.Proofs.Ytefohnbmifblkab
open Go.RowKit
set_option linter.unusedVariables false

set_option maxHeartbeats 1000000 in
theorem pairs_none (n c f t h m b : Int) (low : Bool) (hb0 : 0 ≤ b) (hb1 : b ≤ 255) (w : World) :
    Calls Try.prog 22 #[(St.mk n c f t [] h m).val, .int .i64 b, .bool low] w (Post3 (St.mk n c f t [b] h m, [], false) w) := by
  have kc := run_conv1
  have e0 : strOfNums [] = ⟨#[]⟩ := rfl
  unfold St.val
  dsimp only
  rw [e0]
  go_enter Try.func22, Try.ntmps22
  go_wp2
  refine bodyPost_ret (v := .tuple #[(St.mk n c f t [b] h m).val, .slice none 0 0, .bool false]) (by simp [results, Try.results22, go_sem, St.val]) rfl ⟨_, rfl, ints_nil _ _, ?_⟩
  repeat (first | exact Below.refl _ _ | apply Below.drew | apply below_alloc)

set_option maxHeartbeats 1000000 in
theorem pairs_other0 (n c f t m b U : Int) (u : UInt8) (low : Bool) (hb0 : 0 ≤ b) (hb1 : b ≤ 255) (hU0 : 0 ≤ U) (hU1 : U ≤ 65535) (hr : U < 55296 ∨ 57344 ≤ U) 
    (hbl : low = true → bits .or .i64 (b * 256) (u.toNat : Int) = U) (hbh : low = false → bits .or .i64 ((u.toNat : Int) * 256) b = U) (w : World) :
    Calls Try.prog 22 #[(St.mk n c f t [(u.toNat : Int)] 0 m).val, .int .i64 b, .bool low] w (Post3 (St.mk n c f t [] 0 m, [U], false) w) := by
  have hidx := idx1 u
  have hu := byte_le u
  have hwb := wrap64_byte u
  unfold St.val
  dsimp only
  rw [str1]
  rcases low with _ | _
  all_goals
    first
      | (have hb := hbl rfl; clear hbl hbh)
      | (have hb := hbh rfl; clear hbl hbh)
    rcases hr with hr | hr
  all_goals
    go_enter Try.func22, Try.ntmps22
    go_wp2
    refine bodyPost_ret (v := .tuple #[(St.mk n c f t [] 0 m).val, .slice (some ⟨w.heap.size + 1 + 1 + 1, 0, none⟩) 1 ((Question.appendCap 1 0 3).cut (w.tape w.drawn (Question.appendCap 1 0 3))), .bool false]) (by simp [results, Try.results22, go_sem, St.val, strOfNums]) rfl ⟨_, rfl, ints_grown _ _ _ [U] 1 0 _ _ ?_ ?_ rfl (by omega) rfl, ?_⟩
    · exact heap_last _ _ _ (by simp)
    · omega
    repeat (first | exact Below.refl _ _ | apply Below.drew | apply below_alloc)

set_option maxHeartbeats 1000000 in
theorem pairs_low0 (n c f t m b U : Int) (u : UInt8) (low : Bool) (hb0 : 0 ≤ b) (hb1 : b ≤ 255) (hU0 : 0 ≤ U) (hU1 : U ≤ 65535) (hr1 : 56320 ≤ U) (hr2 : U ≤ 57343) 
    (hbl : low = true → bits .or .i64 (b * 256) (u.toNat : Int) = U) (hbh : low = false → bits .or .i64 ((u.toNat : Int) * 256) b = U) (w : World) :
    Calls Try.prog 22 #[(St.mk n c f t [(u.toNat : Int)] 0 m).val, .int .i64 b, .bool low] w (Post3 (St.mk n c f t [] 0 m, [-1], false) w) := by
  have hidx := idx1 u
  have hu := byte_le u
  have hwb := wrap64_byte u
  unfold St.val
  dsimp only
  rw [str1]
  rcases low with _ | _
  all_goals
    first
      | (have hb := hbl rfl; clear hbl hbh)
      | (have hb := hbh rfl; clear hbl hbh)
    go_enter Try.func22, Try.ntmps22
    go_wp2
    refine bodyPost_ret (v := .tuple #[(St.mk n c f t [] 0 m).val, .slice (some ⟨w.heap.size + 1 + 1 + 1, 0, none⟩) 1 ((Question.appendCap 1 0 3).cut (w.tape w.drawn (Question.appendCap 1 0 3))), .bool false]) (by simp [results, Try.results22, go_sem, St.val, strOfNums]) rfl ⟨_, rfl, ints_grown _ _ _ [-1] 1 0 _ _ ?_ ?_ rfl (by omega) rfl, ?_⟩
    · exact heap_last _ _ _ (by simp)
    · omega
    repeat (first | exact Below.refl _ _ | apply Below.drew | apply below_alloc)

set_option maxHeartbeats 1000000 in
theorem pairs_high0 (n c f t m b U : Int) (u : UInt8) (low : Bool) (hb0 : 0 ≤ b) (hb1 : b ≤ 255) (hU0 : 0 ≤ U) (hU1 : U ≤ 65535) (hr1 : 55296 ≤ U) (hr2 : U ≤ 56319) 
    (hbl : low = true → bits .or .i64 (b * 256) (u.toNat : Int) = U) (hbh : low = false → bits .or .i64 ((u.toNat : Int) * 256) b = U) (w : World) :
    Calls Try.prog 22 #[(St.mk n c f t [(u.toNat : Int)] 0 m).val, .int .i64 b, .bool low] w (Post3 (St.mk n c f t [] U m, [], false) w) := by
  have hidx := idx1 u
  have hu := byte_le u
  have hwb := wrap64_byte u
  unfold St.val
  dsimp only
  rw [str1]
  rcases low with _ | _
  all_goals
    first
      | (have hb := hbl rfl; clear hbl hbh)
      | (have hb := hbh rfl; clear hbl hbh)
    go_enter Try.func22, Try.ntmps22
    go_wp2
    refine bodyPost_ret (v := .tuple #[(St.mk n c f t [] U m).val, .slice none 0 0, .bool false]) (by simp [results, Try.results22, go_sem, St.val, strOfNums]) rfl ⟨_, rfl, ints_nil _ _, ?_⟩
    repeat (first | exact Below.refl _ _ | apply Below.drew | apply below_alloc)

set_option maxHeartbeats 1000000 in
theorem pairs_other1 (n c f t h m b U : Int) (u : UInt8) (low : Bool) (hb0 : 0 ≤ b) (hb1 : b ≤ 255) (hU0 : 0 ≤ U) (hU1 : U ≤ 65535) (hr : U < 55296 ∨ 57344 ≤ U) (hh1 : 55296 ≤ h) (hh2 : h ≤ 56319)
    (hbl : low = true → bits .or .i64 (b * 256) (u.toNat : Int) = U) (hbh : low = false → bits .or .i64 ((u.toNat : Int) * 256) b = U) (w : World) :
    Calls Try.prog 22 #[(St.mk n c f t [(u.toNat : Int)] h m).val, .int .i64 b, .bool low] w (Post3 (St.mk n c f t [] 0 m, [-1, U], false) w) := by
  have hidx := idx1 u
  have hu := byte_le u
  have hwb := wrap64_byte u
  unfold St.val
  dsimp only
  rw [str1]
  rcases low with _ | _
  all_goals
    first
      | (have hb := hbl rfl; clear hbl hbh)
      | (have hb := hbh rfl; clear hbl hbh)
    rcases hr with hr | hr
  all_goals
    go_enter Try.func22, Try.ntmps22
    go_wp2
    refine bodyPost_ret (v := .tuple #[(St.mk n c f t [] 0 m).val, .slice (some ⟨w.heap.size + 1 + 1 + 1 + 1, 0, none⟩) 2 ((Question.appendCap 2 1 3).cut (w.tape w.drawn (Question.appendCap 2 1 3))), .bool false]) (by simp [results, Try.results22, go_sem, St.val, strOfNums]) rfl ⟨_, rfl, ints_grown _ _ _ [-1, U] 2 1 _ _ ?_ ?_ rfl (by omega) rfl, ?_⟩
    · exact heap_last _ _ _ (by simp)
    · omega
    repeat (first | exact Below.refl _ _ | apply Below.drew | apply below_alloc)

set_option maxHeartbeats 1000000 in
theorem pairs_low1 (n c f t h m b U : Int) (u : UInt8) (low : Bool) (hb0 : 0 ≤ b) (hb1 : b ≤ 255) (hU0 : 0 ≤ U) (hU1 : U ≤ 65535) (hr1 : 56320 ≤ U) (hr2 : U ≤ 57343) (hh1 : 55296 ≤ h) (hh2 : h ≤ 56319)
    (hbl : low = true → bits .or .i64 (b * 256) (u.toNat : Int) = U) (hbh : low = false → bits .or .i64 ((u.toNat : Int) * 256) b = U) (w : World) :
    Calls Try.prog 22 #[(St.mk n c f t [(u.toNat : Int)] h m).val, .int .i64 b, .bool low] w (Post3 (St.mk n c f t [] 0 m, [65536 + (h - 55296) * 1024 + U - 56320], false) w) := by
  have hidx := idx1 u
  have hu := byte_le u
  have hwb := wrap64_byte u
  unfold St.val
  dsimp only
  rw [str1]
  rcases low with _ | _
  all_goals
    first
      | (have hb := hbl rfl; clear hbl hbh)
      | (have hb := hbh rfl; clear hbl hbh)
    go_enter Try.func22, Try.ntmps22
    go_wp2
    refine bodyPost_ret (v := .tuple #[(St.mk n c f t [] 0 m).val, .slice (some ⟨w.heap.size + 1 + 1, 0, none⟩) 1 1, .bool false]) (by simp [results, Try.results22, go_sem, St.val, strOfNums]) rfl ⟨_, rfl, ints_lit1 _ _ _ _ ?_ ?_, ?_⟩
    · exact heap_new _ _ _ (by simp)
    · omega
    repeat (first | exact Below.refl _ _ | apply Below.drew | apply below_alloc)

set_option maxHeartbeats 1000000 in
theorem pairs_high1 (n c f t h m b U : Int) (u : UInt8) (low : Bool) (hb0 : 0 ≤ b) (hb1 : b ≤ 255) (hU0 : 0 ≤ U) (hU1 : U ≤ 65535) (hr1 : 55296 ≤ U) (hr2 : U ≤ 56319) (hh1 : 55296 ≤ h) (hh2 : h ≤ 56319)
    (hbl : low = true → bits .or .i64 (b * 256) (u.toNat : Int) = U) (hbh : low = false → bits .or .i64 ((u.toNat : Int) * 256) b = U) (w : World) :
    Calls Try.prog 22 #[(St.mk n c f t [(u.toNat : Int)] h m).val, .int .i64 b, .bool low] w (Post3 (St.mk n c f t [] U m, [-1], false) w) := by
  have hidx := idx1 u
  have hu := byte_le u
  have hwb := wrap64_byte u
  unfold St.val
  dsimp only
  rw [str1]
  rcases low with _ | _
  all_goals
    first
      | (have hb := hbl rfl; clear hbl hbh)
      | (have hb := hbh rfl; clear hbl hbh)
    go_enter Try.func22, Try.ntmps22
    go_wp2
    refine bodyPost_ret (v := .tuple #[(St.mk n c f t [] U m).val, .slice (some ⟨w.heap.size + 1 + 1, 0, none⟩) 1 1, .bool false]) (by simp [results, Try.results22, go_sem, St.val, strOfNums]) rfl ⟨_, rfl, ints_lit1 _ _ _ _ ?_ ?_, ?_⟩
    · exact heap_new _ _ _ (by simp)
    · omega
    repeat (first | exact Below.refl _ _ | apply Below.drew | apply below_alloc)

theorem pairs_any (n c f t h m b : Int) (k : List Int) (low : Bool) (hb0 : 0 ≤ b) (hb1 : b ≤ 255) (hk : k = [] ∨ ∃ x, k = [x] ∧ 0 ≤ x ∧ x ≤ 255)
    (hh : h = 0 ∨ (55296 ≤ h ∧ h ≤ 56319)) (w : World) :
    Calls Try.prog 22 #[(St.mk n c f t k h m).val, .int .i64 b, .bool low] w (Post3 (pairsS (St.mk n c f t k h m) b low) w) := by
  rcases hk with rfl | ⟨x, rfl, hx0, hx1⟩
  · exact pairs_none n c f t h m b low hb0 hb1 w
  · obtain ⟨u, rfl⟩ := byte_of x hx0 hx1
    have hu := byte_le u
    obtain ⟨U, hU⟩ : ∃ U, U = (if low = true then b * 256 + (u.toNat : Int) else (u.toNat : Int) * 256 + b) := ⟨_, rfl⟩
    have hU01 : 0 ≤ U ∧ U ≤ 65535 := by split at hU <;> omega
    obtain ⟨hU0, hU1⟩ := hU01
    have hbl : low = true → bits .or .i64 (b * 256) (u.toNat : Int) = U := by
      rintro rfl; rw [i64_or8 _ _ hb0 hb1 (by omega) hu]; simpa using hU.symm
    have hbh : low = false → bits .or .i64 ((u.toNat : Int) * 256) b = U := by
      rintro rfl; rw [i64_or8 _ _ (by omega) hu hb0 hb1]; simpa using hU.symm
    have hr : (U < 55296 ∨ 57344 ≤ U) ∨ (55296 ≤ U ∧ U ≤ 56319) ∨ (56320 ≤ U ∧ U ≤ 57343) := by omega
    rcases hh with rfl | ⟨hh1, hh2⟩
    · rcases hr with hr | ⟨hr1, hr2⟩ | ⟨hr1, hr2⟩
      · have e : pairsS (St.mk n c f t [(u.toNat : Int)] 0 m) b low = (St.mk n c f t [] 0 m, [U], false) := by
          simp only [pairsS, ← hU]; grind
        rw [e]; exact pairs_other0 n c f t m b U u low hb0 hb1 hU0 hU1 hr hbl hbh w
      · have e : pairsS (St.mk n c f t [(u.toNat : Int)] 0 m) b low = (St.mk n c f t [] U m, [], false) := by
          simp only [pairsS, ← hU]; grind
        rw [e]; exact pairs_high0 n c f t m b U u low hb0 hb1 hU0 hU1 hr1 hr2 hbl hbh w
      · have e : pairsS (St.mk n c f t [(u.toNat : Int)] 0 m) b low = (St.mk n c f t [] 0 m, [-1], false) := by
          simp only [pairsS, ← hU]; grind
        rw [e]; exact pairs_low0 n c f t m b U u low hb0 hb1 hU0 hU1 hr1 hr2 hbl hbh w
    · have h0 : h ≠ 0 := by omega
      rcases hr with hr | ⟨hr1, hr2⟩ | ⟨hr1, hr2⟩
      · have e : pairsS (St.mk n c f t [(u.toNat : Int)] h m) b low = (St.mk n c f t [] 0 m, [-1, U], false) := by
          simp only [pairsS, ← hU]; grind
        rw [e]; exact pairs_other1 n c f t h m b U u low hb0 hb1 hU0 hU1 hr hh1 hh2 hbl hbh w
      · have e : pairsS (St.mk n c f t [(u.toNat : Int)] h m) b low = (St.mk n c f t [] U m, [-1], false) := by
          simp only [pairsS, ← hU]; grind
        rw [e]; exact pairs_high1 n c f t h m b U u low hb0 hb1 hU0 hU1 hr1 hr2 hh1 hh2 hbl hbh w
      · have e : pairsS (St.mk n c f t [(u.toNat : Int)] h m) b low = (St.mk n c f t [] 0 m, [65536 + (h - 55296) * 1024 + U - 56320], false) := by
          simp only [pairsS, ← hU]; grind
        rw [e]; exact pairs_low1 n c f t h m b U u low hb0 hb1 hU0 hU1 hr1 hr2 hh1 hh2 hbl hbh w

end Go.Proofs.Ytefohnbmifblkab
