/- The walk through the statement LabelTells. -/
import Derived.Test.YtefohnbmifblkaaDoorLabG
namespace Go.Proofs.YtefohnbmifblkaaDoor
open Go.RowKit Go.Shelf
set_option linter.unusedVariables false

theorem labels_find : findL ⟨#[32, 85, 84, 70, 56, 10]⟩ = 1 := by decide +kernel
theorem labels_name : nameF 6 = ⟨#[117, 116, 102, 45, 49, 54, 98, 101]⟩ := by decide +kernel

theorem law_labels (w : World) : Calls Tryd.prog 10 #[] w fun e' w' => e' = .returned (.bool true) ∧ Below w.heap.size w w' := by
  have h1 : ∀ W, Calls Tryd.prog 6 #[.string ⟨#[32, 85, 84, 70, 56, 10]⟩] W fun e' w' => e' = .returned (.int .i64 1) ∧ Below W.heap.size W w' := by
    intro W
    have := find_any ⟨#[32, 85, 84, 70, 56, 10]⟩ W
    rwa [labels_find] at this
  have h2 : ∀ W, Calls Tryd.prog 8 #[.int .i64 6] W fun e' w' => e' = .returned (.string ⟨#[117, 116, 102, 45, 49, 54, 98, 101]⟩) ∧ Below W.heap.size W w' := by
    intro W
    have := name_any 6 W
    rwa [labels_name] at this
  have H1 := Lib.hid h1
  have H2 := Lib.hid h2
  clear h1 h2
  go_enter Tryd.func10, Tryd.ntmps10
  go_wp2_with (first
    | (go_at_call 6; refine (H1.out _).mono ?_; rintro e' w1 ⟨rfl, hb1⟩)
    | (go_at_call 8; refine (H2.out _).mono ?_; rintro e' w2 ⟨rfl, hb2⟩))
  go_ret
  exact ⟨rfl, hb1.trans (hb2.mono hb1.size)⟩

theorem max_cell {W : World} (h : W.ShapedOpen Tryd.prog) : ∃ m, W.cell? ⟨2, 0, none⟩ = some (.int .i64 m) := Tryd.laysM146.s1_3 W h

set_option maxRecDepth 100000 in
set_option maxHeartbeats 2000000 in
theorem tells (s : ByteArray) (e : Int) (w : World) (hs : s.size ≤ reachBytes) (hm : ∃ m, w.cell? ⟨2, 0, none⟩ = some (.int .i64 m)) :
    Calls Tryd.prog 3 #[.string s, .int .i64 e] w fun e' w' => e' = .returned (.bool true) ∧ Below w.heap.size w w' := by
  obtain ⟨m, hm⟩ := hm
  have hblk : 2 < w.heap.size := World.block_lt_of_cell? _ _ hm
  have HM := Lib.hid hm
  clear hm
  have HT1 := Lib.hid fun W => label_trim s W (by unfold reachBytes at hs; unfold maxLen; omega)
  have HT2 := Lib.hid fun W => ref_trim s W hs
  have HF1 := Lib.hid fun W => find_any s W
  have HF2 := Lib.hid fun W (h : W.cell? ⟨2, 0, none⟩ = some (.int .i64 m)) => ref_find s W m h
  have HN1 := Lib.hid fun W => name_any e W
  have HN2 := Lib.hid fun W => ref_name e W
  clear hs
  generalize trimT s = T at *
  generalize findL s = F at *
  generalize nameF e = N at *
  go_enter Tryd.func3, Tryd.ntmps3
  go_wp2_with (first
    | (go_at_call 4; refine (HT1.out _).mono ?_; rintro e' w1 ⟨rfl, hb1⟩)
    | (go_at_call 5; refine (HT2.out _).mono ?_; rintro e' w2 ⟨rfl, hb2⟩; have B2 := hb1.trans (hb2.mono hb1.size))
    | (go_at_call 6; refine (HF1.out _).mono ?_; rintro e' w3 ⟨rfl, hb3⟩; have B3 := B2.trans (hb3.mono B2.size))
    | (go_at_call 7; refine (HF2.out _ ((B3.cell (p := ⟨2, 0, none⟩) hblk).trans HM.out)).mono ?_; rintro e' w4 ⟨rfl, hb4⟩; have B4 := B3.trans (hb4.mono B3.size))
    | (go_at_call 8; refine (HN1.out _).mono ?_; rintro e' w5 ⟨rfl, hb5⟩; have B5 := B4.trans (hb5.mono B4.size))
    | (go_at_call 9; refine (HN2.out _).mono ?_; rintro e' w6 ⟨rfl, rfl⟩)
    | (go_at_call 10; refine (law_labels _).mono ?_; rintro e' w7 ⟨rfl, hb7⟩; have B7 := B5.trans (hb7.mono B5.size)))
  go_ret
  exact ⟨rfl, B7⟩

end Go.Proofs.YtefohnbmifblkaaDoor
