/- A number as bytes, in Utf and in pairs: what the statement DecodeBack builds. -/
import Derived.Test.YtefohnbmifblkaaSame
import Derived.Test.YtefohnbmifblkaaBack
import Derived.Laws.Runes
namespace Go.Proofs.Ytefohnbmifblkaa
open Go.RowKit
set_option linter.unusedVariables false

theorem nums_encode {n : Int} (h0 : 0 ≤ n) (h1 : n ≤ 1114111) (h2 : n < 55296 ∨ 57343 < n) : nums (Utf8.encode n) = utfBytes n := by
  have hv : Utf8.valid n = true := by
    unfold Utf8.valid
    simp only [Bool.or_eq_true, Bool.and_eq_true, decide_eq_true_eq]
    omega
  obtain ⟨m, rfl⟩ : ∃ m : Nat, n = m := ⟨n.toNat, by omega⟩
  unfold Utf8.encode utfBytes nums
  simp only [hv, if_true, Int.toNat_natCast]
  by_cases c1 : m < 128
  · rw [if_pos c1, if_pos (show (m : Int) < 128 by omega)]
    simp [UInt8.toNat_ofNat']
    omega
  rw [if_neg c1, if_neg (show ¬ (m : Int) < 128 by omega)]
  by_cases c2 : m < 2048
  · rw [if_pos c2, if_pos (show (m : Int) < 2048 by omega)]
    simp [UInt8.toNat_ofNat']
    omega
  rw [if_neg c2, if_neg (show ¬ (m : Int) < 2048 by omega)]
  by_cases c3 : m < 65536
  · rw [if_pos c3, if_pos (show (m : Int) < 65536 by omega)]
    simp [UInt8.toNat_ofNat']
    omega
  · rw [if_neg c3, if_neg (show ¬ (m : Int) < 65536 by omega)]
    simp [UInt8.toNat_ofNat']
    omega

theorem run_conv2 (W : World) (s : Nat) (x y : Int) (hs : W.heap.size = s) :
    (convert 48 9 (.slice (some ⟨s, 0, none⟩) 2 2)).run Try.prog (W.alloc (.cells #[.int .u8 x, .int .u8 y] 5)) = .ok (.string (strOfNums [x, y])) (W.alloc (.cells #[.int .u8 x, .int .u8 y] 5)) := by
  subst hs
  refine run_convert_bytes_arg (W.alloc (.cells #[.int .u8 x, .int .u8 y] 5)) 48 5 Try.underlying48 Try.underlying5 W.heap.size 0 2 2 [x, y] rfl ?_ 9 Try.underlying9
  intro i hi
  have : i = 0 ∨ i = 1 := by omega
  rcases this with rfl | rfl <;> simp [go_sem]

theorem keep_coded {n : Int} (h0 : 0 ≤ n) (h1 : n ≤ 1114111) (w : World) : Calls Try.prog 39 #[.int .i64 n] w fun e w' => e = .returned (.string (Utf8.encode n)) ∧ w = w' := by
  have hw : IntKind.i32.wrap n = n := by unfold IntKind.wrap; simp [IntKind.bits, IntKind.signed]; omega
  go_enter Try.func39, Try.ntmps39
  go_wp2
  go_ret
  exact ⟨rfl, rfl⟩

/-- Whatever string has these bytes: Whole tells the one number. -/
theorem whole_tells {e n : Int} (he1 : 1 ≤ e) (he6 : e ≤ 6) {l : List Int} (hl : l.length ≤ 4) (hw : wholeS e l = [n]) (t : ByteArray) (W : World) (ht : nums t = l) :
    Calls Try.prog 21 #[.int .i64 e, .string t] W (Post2 [n] 0 W) := by
  have hs : t.size ≤ 4000 := by rw [← nums_length, ht]; omega
  have := whole_ok e he1 he6 t hs W
  rwa [ht, hw] at this

theorem utf_length (n : Int) : (utfBytes n).length ≤ 4 := by
  unfold utfBytes
  (repeat' split) <;> simp
theorem unit_length (low : Bool) (u : Int) : (unitBytes low u).length = 2 := by cases low <;> rfl
theorem nums_app (s t : ByteArray) : nums (s ++ t) = nums s ++ nums t := by simp [nums]
theorem nums_str2 {x y : Int} (hx : 0 ≤ x ∧ x ≤ 255) (hy : 0 ≤ y ∧ y ≤ 255) : nums (strOfNums [x, y]) = [x, y] := by
  obtain ⟨u, rfl⟩ := byte_of x hx.1 hx.2
  obtain ⟨v, rfl⟩ := byte_of y hy.1 hy.2
  simp [nums, strOfNums]
theorem nums_none : nums ⟨#[]⟩ = [] := rfl

end Go.Proofs.Ytefohnbmifblkaa
