/- The closure of the reference's function piece that reads a unit of two bytes. -/
import Derived.Test.YtefohnbmifblkabClo
namespace Go.Proofs.Ytefohnbmifblkab
open Go.RowKit Go.BigFrame
set_option linter.unusedVariables false

set_option maxHeartbeats 2000000 in
theorem unit_0 (e x y : Int) (hx0 : -1 ≤ x ∧ x ≤ 255) (hy0 : -1 ≤ y ∧ y ≤ 255) (bs bg be : Nat) (w : World)
    (hg : w.cell? ⟨bg, 0, none⟩ = some (.func (.func 13) #[] #[.pointer (some ⟨bs, 0, none⟩)])) (he : w.cell? ⟨be, 0, none⟩ = some (.int .i64 e))
    (HX : Hid (∀ W : World, W.heap = w.heap → Calls Try.prog 13 #[.int .i64 0, .pointer (some ⟨bs, 0, none⟩)] W fun e w' => e = .returned (.int .i64 x) ∧ w' = W))
    (HY : Hid (∀ W : World, W.heap = w.heap → Calls Try.prog 13 #[.int .i64 1, .pointer (some ⟨bs, 0, none⟩)] W fun e w' => e = .returned (.int .i64 y) ∧ w' = W)) :
    Calls Try.prog 16 #[.int .i64 0, .pointer (some ⟨bg, 0, none⟩), .pointer (some ⟨be, 0, none⟩)] w fun e' w' =>
      e' = .returned (.int .i64 (if x < 0 ∨ y < 0 then -1 else if decide (e = 5) = true then 256 * y + x else 256 * x + y)) ∧ Below w.heap.size w w' := by
  go_enter Try.func16, Try.ntmps16
  go_wp2_with fail
  refine wp_region_quiet_lit (by kernel_rfl) (by kernel_rfl) ?_
  repeat (first | go_big_quiet_skip | (go_big_quiet_want; go_big_quiet_op; go_big_quiet_on))
  go_big_quiet_want
  go_big_quiet_op
  apply Exists.intro
  refine ⟨fun _ => ?_, ?_⟩
  · go_at_call 13
    exact Calls.quiet_of_same (HX.out _ rfl)
  go_big_quiet_on
  repeat (first | go_big_quiet_skip | (go_big_quiet_want; go_big_quiet_op; go_big_quiet_on))
  go_big_quiet_want
  go_big_quiet_op
  apply Exists.intro
  refine ⟨fun _ => ?_, ?_⟩
  · go_at_call 13
    exact Calls.quiet_of_same (HY.out _ rfl)
  go_big_quiet_on
  repeat (first | go_big_quiet_skip | (go_big_quiet_want; go_big_quiet_op; go_big_quiet_on))
  refine wpQuiet_nil ?_
  intro _ hw'
  obtain ⟨nq, hw''⟩ := hw'
  subst hw''
  have hcas : x < 0 ∨ (0 ≤ x ∧ y < 0) ∨ (0 ≤ x ∧ 0 ≤ y ∧ e = 5) ∨ (0 ≤ x ∧ 0 ≤ y ∧ e ≠ 5) := by omega
  rcases hcas with h | ⟨h, h'⟩ | ⟨h, h', h5⟩ | ⟨h, h', h5⟩
  · have hv : (if x < 0 ∨ y < 0 then (-1 : Int) else if decide (e = 5) = true then 256 * y + x else 256 * x + y) = -1 := by rw [if_pos (Or.inl h)]
    go_wp2_with fail
    go_ret
    exact ⟨rfl, rfl, rfl, rfl, Nat.le_refl _, fun _ _ => rfl⟩
  · have hv : (if x < 0 ∨ y < 0 then (-1 : Int) else if decide (e = 5) = true then 256 * y + x else 256 * x + y) = -1 := by rw [if_pos (Or.inr h')]
    go_wp2_with fail
    go_ret
    exact ⟨rfl, rfl, rfl, rfl, Nat.le_refl _, fun _ _ => rfl⟩
  · have hv : (if x < 0 ∨ y < 0 then (-1 : Int) else if decide (e = 5) = true then 256 * y + x else 256 * x + y) = 256 * y + x := by rw [if_neg (by omega), if_pos (by simp [h5])]
    go_wp2_with fail
    go_ret
    exact ⟨rfl, rfl, rfl, rfl, Nat.le_refl _, fun _ _ => rfl⟩
  · have hv : (if x < 0 ∨ y < 0 then (-1 : Int) else if decide (e = 5) = true then 256 * y + x else 256 * x + y) = 256 * x + y := by rw [if_neg (by omega), if_neg (by simp [h5])]
    go_wp2_with fail
    go_ret
    exact ⟨rfl, rfl, rfl, rfl, Nat.le_refl _, fun _ _ => rfl⟩

set_option maxHeartbeats 2000000 in
theorem unit_2 (e x y : Int) (hx0 : -1 ≤ x ∧ x ≤ 255) (hy0 : -1 ≤ y ∧ y ≤ 255) (bs bg be : Nat) (w : World)
    (hg : w.cell? ⟨bg, 0, none⟩ = some (.func (.func 13) #[] #[.pointer (some ⟨bs, 0, none⟩)])) (he : w.cell? ⟨be, 0, none⟩ = some (.int .i64 e))
    (HX : Hid (∀ W : World, W.heap = w.heap → Calls Try.prog 13 #[.int .i64 2, .pointer (some ⟨bs, 0, none⟩)] W fun e w' => e = .returned (.int .i64 x) ∧ w' = W))
    (HY : Hid (∀ W : World, W.heap = w.heap → Calls Try.prog 13 #[.int .i64 3, .pointer (some ⟨bs, 0, none⟩)] W fun e w' => e = .returned (.int .i64 y) ∧ w' = W)) :
    Calls Try.prog 16 #[.int .i64 2, .pointer (some ⟨bg, 0, none⟩), .pointer (some ⟨be, 0, none⟩)] w fun e' w' =>
      e' = .returned (.int .i64 (if x < 0 ∨ y < 0 then -1 else if decide (e = 5) = true then 256 * y + x else 256 * x + y)) ∧ Below w.heap.size w w' := by
  go_enter Try.func16, Try.ntmps16
  go_wp2_with fail
  refine wp_region_quiet_lit (by kernel_rfl) (by kernel_rfl) ?_
  repeat (first | go_big_quiet_skip | (go_big_quiet_want; go_big_quiet_op; go_big_quiet_on))
  go_big_quiet_want
  go_big_quiet_op
  apply Exists.intro
  refine ⟨fun _ => ?_, ?_⟩
  · go_at_call 13
    exact Calls.quiet_of_same (HX.out _ rfl)
  go_big_quiet_on
  repeat (first | go_big_quiet_skip | (go_big_quiet_want; go_big_quiet_op; go_big_quiet_on))
  go_big_quiet_want
  go_big_quiet_op
  apply Exists.intro
  refine ⟨fun _ => ?_, ?_⟩
  · go_at_call 13
    exact Calls.quiet_of_same (HY.out _ rfl)
  go_big_quiet_on
  repeat (first | go_big_quiet_skip | (go_big_quiet_want; go_big_quiet_op; go_big_quiet_on))
  refine wpQuiet_nil ?_
  intro _ hw'
  obtain ⟨nq, hw''⟩ := hw'
  subst hw''
  have hcas : x < 0 ∨ (0 ≤ x ∧ y < 0) ∨ (0 ≤ x ∧ 0 ≤ y ∧ e = 5) ∨ (0 ≤ x ∧ 0 ≤ y ∧ e ≠ 5) := by omega
  rcases hcas with h | ⟨h, h'⟩ | ⟨h, h', h5⟩ | ⟨h, h', h5⟩
  · have hv : (if x < 0 ∨ y < 0 then (-1 : Int) else if decide (e = 5) = true then 256 * y + x else 256 * x + y) = -1 := by rw [if_pos (Or.inl h)]
    go_wp2_with fail
    go_ret
    exact ⟨rfl, rfl, rfl, rfl, Nat.le_refl _, fun _ _ => rfl⟩
  · have hv : (if x < 0 ∨ y < 0 then (-1 : Int) else if decide (e = 5) = true then 256 * y + x else 256 * x + y) = -1 := by rw [if_pos (Or.inr h')]
    go_wp2_with fail
    go_ret
    exact ⟨rfl, rfl, rfl, rfl, Nat.le_refl _, fun _ _ => rfl⟩
  · have hv : (if x < 0 ∨ y < 0 then (-1 : Int) else if decide (e = 5) = true then 256 * y + x else 256 * x + y) = 256 * y + x := by rw [if_neg (by omega), if_pos (by simp [h5])]
    go_wp2_with fail
    go_ret
    exact ⟨rfl, rfl, rfl, rfl, Nat.le_refl _, fun _ _ => rfl⟩
  · have hv : (if x < 0 ∨ y < 0 then (-1 : Int) else if decide (e = 5) = true then 256 * y + x else 256 * x + y) = 256 * x + y := by rw [if_neg (by omega), if_neg (by simp [h5])]
    go_wp2_with fail
    go_ret
    exact ⟨rfl, rfl, rfl, rfl, Nat.le_refl _, fun _ _ => rfl⟩

theorem ref_unit0 (e : Int) (s : ByteArray) (hs : s.size ≤ maxLen) (bs bg be : Nat) (w : World) (hc : w.cell? ⟨bs, 0, none⟩ = some (.string s))
    (hg : w.cell? ⟨bg, 0, none⟩ = some (.func (.func 13) #[] #[.pointer (some ⟨bs, 0, none⟩)])) (he : w.cell? ⟨be, 0, none⟩ = some (.int .i64 e)) :
    Calls Try.prog 16 #[.int .i64 0, .pointer (some ⟨bg, 0, none⟩), .pointer (some ⟨be, 0, none⟩)] w fun e' w' =>
      e' = .returned (.int .i64 (unitF (decide (e = 5)) (nums s) 0)) ∧ Below w.heap.size w w' := by
  rw [unitF_nums]
  have h1 := getF_range s 0
  have h2 := getF_range s 1
  have hcell : ∀ W : World, W.heap = w.heap → W.cell? ⟨bs, 0, none⟩ = some (.string s) := fun W h => by
    rw [← hc]; unfold World.cell?; rw [h]
  have hx : ∀ W : World, W.heap = w.heap → Calls Try.prog 13 #[.int .i64 0, .pointer (some ⟨bs, 0, none⟩)] W fun e w' => e = .returned (.int .i64 (getF (nums s) 0)) ∧ w' = W :=
    fun W h => (ref_get s hs 0 bs W (hcell W h)).mono fun _ _ h => ⟨h.1, h.2.symm⟩
  have hy : ∀ W : World, W.heap = w.heap → Calls Try.prog 13 #[.int .i64 1, .pointer (some ⟨bs, 0, none⟩)] W fun e w' => e = .returned (.int .i64 (getF (nums s) 1)) ∧ w' = W :=
    fun W h => (ref_get s hs 1 bs W (hcell W h)).mono fun _ _ h => ⟨h.1, h.2.symm⟩
  rw [show (0 : Nat) + 1 = 1 from rfl]
  generalize getF (nums s) 0 = x at *
  generalize getF (nums s) 1 = y at *
  exact unit_0 e x y h1 h2 bs bg be w hg he (Lib.hid hx) (Lib.hid hy)

theorem ref_unit2 (e : Int) (s : ByteArray) (hs : s.size ≤ maxLen) (bs bg be : Nat) (w : World) (hc : w.cell? ⟨bs, 0, none⟩ = some (.string s))
    (hg : w.cell? ⟨bg, 0, none⟩ = some (.func (.func 13) #[] #[.pointer (some ⟨bs, 0, none⟩)])) (he : w.cell? ⟨be, 0, none⟩ = some (.int .i64 e)) :
    Calls Try.prog 16 #[.int .i64 2, .pointer (some ⟨bg, 0, none⟩), .pointer (some ⟨be, 0, none⟩)] w fun e' w' =>
      e' = .returned (.int .i64 (unitF (decide (e = 5)) (nums s) 2)) ∧ Below w.heap.size w w' := by
  rw [unitF_nums]
  have h1 := getF_range s 2
  have h2 := getF_range s 3
  have hcell : ∀ W : World, W.heap = w.heap → W.cell? ⟨bs, 0, none⟩ = some (.string s) := fun W h => by
    rw [← hc]; unfold World.cell?; rw [h]
  have hx : ∀ W : World, W.heap = w.heap → Calls Try.prog 13 #[.int .i64 2, .pointer (some ⟨bs, 0, none⟩)] W fun e w' => e = .returned (.int .i64 (getF (nums s) 2)) ∧ w' = W :=
    fun W h => (ref_get s hs 2 bs W (hcell W h)).mono fun _ _ h => ⟨h.1, h.2.symm⟩
  have hy : ∀ W : World, W.heap = w.heap → Calls Try.prog 13 #[.int .i64 3, .pointer (some ⟨bs, 0, none⟩)] W fun e w' => e = .returned (.int .i64 (getF (nums s) 3)) ∧ w' = W :=
    fun W h => (ref_get s hs 3 bs W (hcell W h)).mono fun _ _ h => ⟨h.1, h.2.symm⟩
  rw [show (2 : Nat) + 1 = 3 from rfl]
  generalize getF (nums s) 2 = x at *
  generalize getF (nums s) 3 = y at *
  exact unit_2 e x y h1 h2 bs bg be w hg he (Lib.hid hx) (Lib.hid hy)

end Go.Proofs.Ytefohnbmifblkab
