/- Spaces about a label do not matter; a label that is trimmed stays; the name of an encoding means it. Plain. -/
import Derived.Test.YtefohnbmifblkabDoorLabF
namespace Go.Proofs.YtefohnbmifblkabDoor
open Go.RowKit
set_option linter.unusedVariables false

theorem nums_of {xs : List Int} (h : ∀ x ∈ xs, 0 ≤ x ∧ x ≤ 255) : nums (strOfNums xs) = xs := by
  unfold nums
  rw [strOfNums_data, List.map_map]
  conv => rhs; rw [← List.map_id xs]
  refine List.map_congr_left fun x hx => ?_
  have := h x hx
  simp [UInt8.toNat_ofNat']
  omega
theorem nums_range (s : ByteArray) : ∀ x ∈ nums s, 0 ≤ x ∧ x ≤ 255 := by
  intro x hx
  obtain ⟨u, _, rfl⟩ := List.mem_map.1 hx
  have := byte_le u
  omega
theorem trim_mem {l : List Int} {x : Int} (h : x ∈ trimZ l) : x ∈ l := by
  unfold trimZ leftZ rightZ at h
  have h1 := (List.dropWhile_sublist _).subset h
  rw [List.mem_reverse] at h1
  exact List.mem_reverse.1 ((List.dropWhile_sublist _).subset h1)
theorem sp_low (x : Int) : isSp (lowI x) = isSp x := by
  unfold isSp lowI
  split
  · rw [decide_eq_decide]; omega
  · rfl
theorem low_low (x : Int) : lowI (lowI x) = lowI x := by
  unfold lowI
  (repeat' split) <;> omega
theorem low_range {x : Int} (h : 0 ≤ x ∧ x ≤ 255) : 0 ≤ lowI x ∧ lowI x ≤ 255 := by
  unfold lowI
  split <;> omega
theorem left_low (l : List Int) : leftZ (l.map lowI) = (leftZ l).map lowI := by
  unfold leftZ
  rw [List.dropWhile_map]
  congr 2
  funext x
  exact sp_low x
theorem right_low (l : List Int) : rightZ (l.map lowI) = (rightZ l).map lowI := by
  have h := left_low l.reverse
  unfold leftZ at h
  unfold rightZ
  rw [← List.map_reverse, h, List.map_reverse]
theorem trim_low (l : List Int) : trimZ (l.map lowI) = (trimZ l).map lowI := by
  unfold trimZ
  rw [right_low, left_low]
theorem left_left : ∀ l : List Int, leftZ (leftZ l) = leftZ l
  | [] => rfl
  | a :: t => by
    cases h : isSp a
    · rw [leftZ_stay h, leftZ_stay h]
    · rw [leftZ_skip h]
      exact left_left t
theorem right_right (l : List Int) : rightZ (rightZ l) = rightZ l := by
  have h := left_left l.reverse
  unfold leftZ at h
  unfold rightZ
  rw [List.reverse_reverse, h]
theorem trim_trim (l : List Int) : trimZ (trimZ l) = trimZ l := by
  show leftZ (rightZ (leftZ (rightZ l))) = leftZ (rightZ l)
  rw [← trim_comm (rightZ l), right_right, left_left]
theorem left_gap {g : List Int} (h : ∀ x ∈ g, isSp x = true) (l : List Int) : leftZ (g ++ l) = leftZ l := List.dropWhile_append_of_pos h
theorem right_gap {g : List Int} (h : ∀ x ∈ g, isSp x = true) (l : List Int) : rightZ (l ++ g) = rightZ l := by
  unfold rightZ
  rw [List.reverse_append, List.dropWhile_append_of_pos fun x hx => h x (List.mem_reverse.1 hx)]
theorem trim_gap {g : List Int} (h : ∀ x ∈ g, isSp x = true) (l : List Int) : trimZ (g ++ l ++ g) = trimZ l := by
  unfold trimZ
  rw [right_gap h, trim_comm, left_gap h, ← trim_comm]

theorem nums_app (s t : ByteArray) : nums (s ++ t) = nums s ++ nums t := by simp [nums]
theorem trimT_twice (s : ByteArray) : trimT (trimT s) = trimT s := by
  have h : nums (trimT s) = (trimZ (nums s)).map lowI := by
    refine nums_of fun x hx => ?_
    obtain ⟨y, hy, rfl⟩ := List.mem_map.1 hx
    exact low_range (nums_range s y (trim_mem hy))
  unfold trimT at h ⊢
  rw [h, trim_low, trim_trim, List.map_map]
  congr 1
  refine List.map_congr_left fun x _ => low_low x
theorem trimT_gap {g : ByteArray} (h : ∀ x ∈ nums g, isSp x = true) (s : ByteArray) : trimT (g ++ s ++ g) = trimT s := by
  unfold trimT
  rw [nums_app, nums_app, trim_gap h]
theorem find_gap {g : ByteArray} (h : ∀ x ∈ nums g, isSp x = true) (s : ByteArray) (hl : s.size + 2 * g.size ≤ 40) : findL (g ++ s ++ g) = findL s := by
  unfold findL
  rw [trimT_gap h, if_neg (by simp; omega), if_neg (by omega)]

theorem find_nothing : findL ⟨#[]⟩ = 0 := by decide +kernel
theorem find_names (k : Int) (h : k = 1 ∨ k = 2 ∨ k = 3 ∨ k = 4 ∨ k = 5 ∨ k = 6) : findL (nameF k) = k := by
  rcases h with rfl | rfl | rfl | rfl | rfl | rfl <;> decide +kernel
theorem labels_find : findL ⟨#[32, 85, 84, 70, 56, 10]⟩ = 1 := by decide +kernel
theorem labels_name : nameF 6 = ⟨#[117, 116, 102, 45, 49, 54, 98, 101]⟩ := by decide +kernel

theorem keep_labels (w : World) : Calls Tryd.prog 4 #[] w fun e' w' => e' = .returned (.bool true) ∧ Below w.heap.size w w' := by
  have h1 : ∀ W, Calls Tryd.prog 6 #[.string ⟨#[32, 85, 84, 70, 56, 10]⟩] W fun e' w' => e' = .returned (.int .i64 1) ∧ Below W.heap.size W w' := by
    intro W
    have := find_any ⟨#[32, 85, 84, 70, 56, 10]⟩ W
    rwa [labels_find] at this
  have h2 : ∀ W, Calls Tryd.prog 7 #[.int .i64 6] W fun e' w' => e' = .returned (.string ⟨#[117, 116, 102, 45, 49, 54, 98, 101]⟩) ∧ Below W.heap.size W w' := by
    intro W
    have := name_any 6 W
    rwa [labels_name] at this
  have H1 := Lib.hid h1
  have H2 := Lib.hid h2
  clear h1 h2
  go_enter Tryd.func4, Tryd.ntmps4
  go_wp2_with (first
    | (go_at_call 6; refine (H1.out _).mono ?_; rintro e' w1 ⟨rfl, hb1⟩)
    | (go_at_call 7; refine (H2.out _).mono ?_; rintro e' w2 ⟨rfl, hb2⟩))
  go_ret
  exact ⟨rfl, hb1.trans (hb2.mono hb1.size)⟩

def inF (e : Int) : Int := if 1 ≤ e ∧ e ≤ 6 then 1 else 0
theorem keep_in (e : Int) (w : World) : Calls Tryd.prog 8 #[.int .i64 e] w fun e' w' => e' = .returned (.int .i64 (inF e)) ∧ w = w' := by
  have h : e < 1 ∨ (1 ≤ e ∧ 6 < e) ∨ (1 ≤ e ∧ e ≤ 6) := by omega
  rcases h with h | ⟨h, h'⟩ | ⟨h, h'⟩
  all_goals
    go_enter Tryd.func8, Tryd.ntmps8
    go_wp2
    go_ret
    refine ⟨ret_int ?_, rfl⟩
    unfold inF
    first | (rw [if_neg (by omega)]) | (rw [if_pos (by omega)])

end Go.Proofs.YtefohnbmifblkabDoor
