/- The functions of Go's library and the closures that the reference's function piece calls: what each returns. -/
import Derived.Test.YtefohnbmifblkabDec
import Derived.Test.YtefohnbmifblkabRef
import Derived.Lib.Strings
import Derived.Lib.Slices
import Derived.Lib.Walk
import Derived.Lib.Bytealg
import Derived.Deep.QuietTactic
import Derived.BigQuiet
namespace Go.Proofs.Ytefohnbmifblkab
open Go.RowKit Go.BigFrame
set_option linter.unusedVariables false

set_option maxHeartbeats 1000000 in
theorem lib_prefix (s p : ByteArray) (w : World) :
    Calls Try.prog 17 #[.string s, .string p] w fun e w' => e = .returned (.bool (Lib.hasPrefix s.data.toList p.data.toList)) ∧ w = w' := by
  rw [← Lib.hasPrefix_of_take, ← Lib.size_eq, ← Lib.size_eq]
  go_enter Try.func17, Try.ntmps17
  go_wp2
  · rename_i h
    go_ret
    refine ⟨?_, rfl⟩
    show Ending.returned (Value.bool ((s.extract 0 p.size).toList == p.toList)) = _
    rw [Lib.extract_toList, Lib.toList_data]
    simp [h]
  · rename_i h
    go_ret
    refine ⟨?_, rfl⟩
    show Ending.returned (Value.bool false) = _
    simp [h]

set_option maxHeartbeats 1000000 in
set_option maxRecDepth 100000 in
theorem lib_index_in (s : ByteArray) (c : Int) (w : World) :
    Calls Try.prog 23 #[.string s, .int .u8 c] w fun e w' => e = .returned (.int .i64 (Lib.indexByte s.data.toList c.toNat.toUInt8)) ∧ w = w' := by
  go_enter Try.func23, Try.ntmps23
  go_wp2
  rw [run_callFunc_extern Try.func25 (by kernel_rfl) (by kernel_rfl) (by kernel_rfl) (e := Extern.BytealgIndexByte.indexByte) (by kernel_rfl), Lib.run_indexByteString]
  simp only [Result.andThen]
  rw [Oper.upon_value]
  go_wp2
  go_ret
  exact ⟨rfl, rfl⟩

set_option maxHeartbeats 1000000 in
theorem lib_index (s : ByteArray) (c : Int) (w : World) :
    Calls Try.prog 15 #[.string s, .int .u8 c] w fun e w' => e = .returned (.int .i64 (Lib.indexByte s.data.toList c.toNat.toUInt8)) ∧ w = w' := by
  go_enter Try.func15, Try.ntmps15
  go_wp2_with (go_at_call 23; refine (lib_index_in _ _ _).mono ?_; rintro e w' ⟨rfl, rfl⟩)
  go_ret
  exact ⟨rfl, rfl⟩

/-! ## The closures -/

theorem getF_nums (s : ByteArray) (i : Nat) (h : i < s.size) : getF (nums s) i = (s[i].toNat : Int) := by
  have h2 : i < (nums s).length := by rw [nums_length]; exact h
  unfold getF
  rw [List.getElem?_eq_getElem h2, Option.getD_some, nums_get s i h]
theorem getF_past (s : ByteArray) (i : Nat) (h : s.size ≤ i) : getF (nums s) i = -1 := getF_out (by rw [nums_length]; exact h)

theorem ref_get (s : ByteArray) (hs : s.size ≤ maxLen) (i : Nat) (b : Nat) (w : World) (hc : w.cell? ⟨b, 0, none⟩ = some (.string s)) :
    Calls Try.prog 13 #[.int .i64 (i : Int), .pointer (some ⟨b, 0, none⟩)] w fun e w' => e = .returned (.int .i64 (getF (nums s) i)) ∧ w = w' := by
  unfold maxLen at hs
  by_cases h : i < s.size
  · rw [getF_nums s i h]
    have hi : (i : Int) < (s.size : Int) := by omega
    have hwb := wrap64_byte s[i]
    have hwc : IntKind.i64.wrap (s[i].toNat : Int) = (s[i].toNat : Int) := wraps_i64 _ (by omega) (by have := byte_le s[i]; omega)
    go_enter Try.func13, Try.ntmps13
    go_wp2
    go_ret
    exact ⟨rfl, rfl⟩
  · rw [getF_past s i (by omega)]
    have hi : (s.size : Int) ≤ (i : Int) := by omega
    go_enter Try.func13, Try.ntmps13
    go_wp2
    go_ret
    exact ⟨rfl, rfl⟩

theorem ref_in (x lo hi : Int) (w : World) :
    Calls Try.prog 14 #[.int .i64 x, .int .i64 lo, .int .i64 hi] w fun e w' => e = .returned (.bool (decide (lo ≤ x ∧ x ≤ hi))) ∧ w = w' := by
  have h : x < lo ∨ (lo ≤ x ∧ hi < x) ∨ (lo ≤ x ∧ x ≤ hi) := by omega
  rcases h with h | ⟨h1, h2⟩ | ⟨h1, h2⟩
  all_goals
    go_enter Try.func14, Try.ntmps14
    go_wp2
    go_ret
    exact ⟨ret_bool (by simp; omega), rfl⟩

theorem unitF_nums (low : Bool) (s : ByteArray) (i : Nat) : unitF low (nums s) i = if getF (nums s) i < 0 ∨ getF (nums s) (i + 1) < 0 then -1 else if low then 256 * getF (nums s) (i + 1) + getF (nums s) i else 256 * getF (nums s) i + getF (nums s) (i + 1) := rfl

theorem getF_range (s : ByteArray) (i : Nat) : -1 ≤ getF (nums s) i ∧ getF (nums s) i ≤ 255 := by
  by_cases h : i < s.size
  · rw [getF_nums s i h]
    have := byte_le s[i]
    omega
  · rw [getF_past s i (by omega)]
    omega

end Go.Proofs.Ytefohnbmifblkab
