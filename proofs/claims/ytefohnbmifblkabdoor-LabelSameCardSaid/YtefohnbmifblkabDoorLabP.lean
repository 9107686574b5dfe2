/- Labels without the spaces about them, in small letters; the encodings' names. On lists of integers; no program in sight. -/
import Derived.Lib.SlTrimSet
import Derived.Laws.BytesArg
namespace Go.Proofs.YtefohnbmifblkabDoor

/-- A string as the list of its bytes, as integers. -/
def nums (s : ByteArray) : List Int := s.data.toList.map fun b => (b.toNat : Int)
theorem nums_length (s : ByteArray) : (nums s).length = s.size := by simp [nums]
theorem nums_getD (s : ByteArray) (k : Nat) (h : k < s.size) : (nums s).getD k 0 = (s[k].toNat : Int) := by
  have h2 : k < (nums s).length := by rw [nums_length]; exact h
  rw [List.getD_eq_getElem?_getD, List.getElem?_eq_getElem h2, Option.getD_some]
  simp [nums]
  rfl
theorem nums_str (s : ByteArray) : strOfNums (nums s) = s := by
  obtain ⟨⟨l⟩⟩ := s
  unfold strOfNums nums
  simp [Function.comp_def]
theorem nums_front (s : ByteArray) (j : Nat) : nums (s.extract 0 j) = (nums s).take j := by
  unfold nums
  rw [← List.map_take]
  congr 1
  simp [ByteArray.extract, ByteArray.copySlice]
theorem nums_behind (s : ByteArray) (j : Nat) : nums (s.extract j s.size) = (nums s).drop j := by
  unfold nums
  rw [← List.map_drop]
  congr 1
  simp [ByteArray.extract, ByteArray.copySlice]
  refine List.take_of_length_le ?_
  rw [List.length_drop, Array.length_toList]
  exact Nat.le_refl _

def isSp (x : Int) : Bool := decide (x = 32 ∨ (9 ≤ x ∧ x ≤ 13 ∧ x ≠ 11))
def lowI (x : Int) : Int := if 65 ≤ x ∧ x ≤ 90 then x + 32 else x
def leftZ (l : List Int) : List Int := l.dropWhile isSp
def rightZ (l : List Int) : List Int := (l.reverse.dropWhile isSp).reverse
def trimZ (l : List Int) : List Int := leftZ (rightZ l)

theorem right_cons (a : Int) (t : List Int) : rightZ (a :: t) = if isSp a = true ∧ rightZ t = [] then [] else a :: rightZ t := by
  unfold rightZ
  rw [List.reverse_cons, List.dropWhile_append]
  cases h : t.reverse.dropWhile isSp with
  | nil => cases ha : isSp a <;> simp [List.dropWhile, ha]
  | cons x l => simp
theorem trim_comm : ∀ l : List Int, leftZ (rightZ l) = rightZ (leftZ l)
  | [] => rfl
  | a :: t => by
    have ih := trim_comm t
    rw [right_cons]
    cases ha : isSp a
    · simp only [Bool.false_eq_true, false_and, if_false]
      have e1 : leftZ (a :: rightZ t) = a :: rightZ t := by simp [leftZ, List.dropWhile, ha]
      have e2 : leftZ (a :: t) = a :: t := by simp [leftZ, List.dropWhile, ha]
      rw [e1, e2, right_cons, ha]
      simp
    · have e2 : leftZ (a :: t) = leftZ t := by simp [leftZ, List.dropWhile, ha]
      rw [e2, ← ih]
      by_cases h0 : rightZ t = []
      · simp [h0]
      · rw [if_neg (by simp [h0])]
        simp [leftZ, List.dropWhile, ha]

theorem set_has (b : UInt8) : ([32, 9, 10, 12, 13] : List UInt8).contains b = isSp (b.toNat : Int) := by
  have h : ∀ i : Fin 256, ([32, 9, 10, 12, 13] : List UInt8).contains (UInt8.ofNat i.val) = isSp ((UInt8.ofNat i.val).toNat : Int) := by decide +kernel
  have := h ⟨b.toNat, b.toNat_lt⟩
  simpa using this
theorem drop_nums (l : List UInt8) : (l.dropWhile (([32, 9, 10, 12, 13] : List UInt8).contains ·)).map (fun b => (b.toNat : Int)) = (l.map fun b => (b.toNat : Int)).dropWhile isSp := by
  induction l with
  | nil => rfl
  | cons a l ih =>
    rw [List.map_cons, List.dropWhile_cons, List.dropWhile_cons, set_has]
    split
    · exact ih
    · simp
theorem trimS_nums (l : List UInt8) : (Lib.trimS l [32, 9, 10, 12, 13]).map (fun b => (b.toNat : Int)) = trimZ (l.map fun b => (b.toNat : Int)) := by
  unfold Lib.trimS Lib.trimLeftS Lib.trimRightS trimZ leftZ rightZ
  rw [drop_nums, List.map_reverse, drop_nums, List.map_reverse]

/-- A label as it is looked up. -/
def trimT (s : ByteArray) : ByteArray := strOfNums ((trimZ (nums s)).map lowI)

theorem leftZ_skip {a : Int} {t : List Int} (h : isSp a = true) : leftZ (a :: t) = leftZ t := by simp [leftZ, List.dropWhile, h]
theorem leftZ_stay {a : Int} {t : List Int} (h : isSp a = false) : leftZ (a :: t) = a :: t := by simp [leftZ, List.dropWhile, h]
theorem rightZ_skip {a : Int} {t : List Int} (h : isSp a = true) : rightZ (t ++ [a]) = rightZ t := by simp [rightZ, h]
theorem rightZ_stay {a : Int} {t : List Int} (h : isSp a = false) : rightZ (t ++ [a]) = t ++ [a] := by simp [rightZ, h]

theorem nums_head (s : ByteArray) (h : 0 < s.size) : nums s = (s[0].toNat : Int) :: (nums s).drop 1 := by
  have h2 : 0 < (nums s).length := by rw [nums_length]; exact h
  have := List.drop_eq_getElem_cons h2
  rw [List.drop_zero] at this
  have e := nums_getD s 0 h
  rw [List.getD_eq_getElem?_getD, List.getElem?_eq_getElem h2, Option.getD_some] at e
  rw [e] at this
  exact this
theorem nums_last (s : ByteArray) (m : Nat) (h : s.size = m + 1) : nums s = (nums s).take m ++ [(s[m].toNat : Int)] := by
  have h2 : m < (nums s).length := by rw [nums_length]; omega
  have e := nums_getD s m (by omega)
  rw [List.getD_eq_getElem?_getD, List.getElem?_eq_getElem h2, Option.getD_some] at e
  rw [← e, ← List.take_succ_eq_append_getElem h2, List.take_of_length_le (by rw [nums_length]; omega)]

end Go.Proofs.YtefohnbmifblkabDoor
