/- The walk through the statement LabelSame. -/
import Derived.Test.YtefohnbmifblkabDoorLabS
namespace Go.Proofs.YtefohnbmifblkabDoor
open Go.RowKit
set_option linter.unusedVariables false

theorem trimT_size (s : ByteArray) : (trimT s).size ≤ s.size := by
  unfold trimT trimZ leftZ rightZ
  rw [strOfNums_size, List.length_map]
  have h1 := (List.dropWhile_sublist isSp (l := ((nums s).reverse.dropWhile isSp).reverse)).length_le
  have h2 := (List.dropWhile_sublist isSp (l := (nums s).reverse)).length_le
  simp only [List.length_reverse] at h1 h2
  rw [nums_length] at h2
  omega

set_option maxRecDepth 100000 in
set_option maxHeartbeats 64000000 in
theorem same_walk (s g : ByteArray) (e : Int) (w : World) (hs : s.size ≤ reachBytes) (hg : g.size ≤ reachBytes) :
    Calls Tryd.prog 3 #[.string s, .string g, .int .i64 e] w fun e' w' => e' = .returned (.bool true) ∧ Below w.heap.size w w' := by
  unfold reachBytes at hs hg
  go_enter Tryd.func3, Tryd.ntmps3
  go_wp2_with fail
  go_loop [11] (fun i => ∃ k : Nat, i = .int .i64 (k : Int) ∧ k ≤ g.size ∧ ∀ x ∈ (nums g).take k, isSp x = true) (fun i => g.size - (intOf i).toNat)
  case atStart => exact ⟨0, rfl, Nat.zero_le _, by simp⟩
  case round =>
    obtain ⟨k, rfl, hk, hsp⟩ := hrel
    by_cases hlt : k < g.size
    · have hki : (k : Int) < (g.size : Int) := by omega
      have hkl : k < (nums g).length := by rw [nums_length]; exact hlt
      have hge : (nums g)[k] = (g[k].toNat : Int) := by
        have := nums_getD g k hlt
        rwa [List.getD_eq_getElem?_getD, List.getElem?_eq_getElem hkl, Option.getD_some] at this
      have HN : Hid (isSp (g[k].toNat : Int) = true → ∀ x ∈ (nums g).take (k + 1), isSp x = true) := Lib.hid fun h x hx => by
        rw [List.take_succ_eq_append_getElem hkl, hge] at hx
        rcases List.mem_append.1 hx with hx | hx
        · exact hsp x hx
        · rw [List.mem_singleton.1 hx]; exact h
      clear hsp hge
      have hq : (g[k].toNat : Int) = 32 ∨ (g[k].toNat : Int) = 9 ∨ (g[k].toNat : Int) = 10 ∨ (g[k].toNat : Int) = 12 ∨ (g[k].toNat : Int) = 13 ∨
          ((g[k].toNat : Int) ≠ 32 ∧ (g[k].toNat : Int) ≠ 9 ∧ (g[k].toNat : Int) ≠ 10 ∧ (g[k].toNat : Int) ≠ 12 ∧ (g[k].toNat : Int) ≠ 13) := by omega
      rcases hq with h | h | h | h | h | ⟨h1, h2, h3, h4, h5⟩
      iterate 5
        · go_wp2_with fail
          go_round
          case rel => exact ⟨k + 1, by go_num, by omega, HN.out (by rw [h]; decide)⟩
          case measure => simp [intOf]; omega
      · have n1 : ((g[k].toNat : Int) == 32) = false := beq_eq_false_iff_ne.2 h1
        have n2 : ((g[k].toNat : Int) == 9) = false := beq_eq_false_iff_ne.2 h2
        have m2 : ((g[k].toNat : Int) != 9) = true := bne_iff_ne.2 h2
        have n3 : ((g[k].toNat : Int) == 10) = false := beq_eq_false_iff_ne.2 h3
        have m3 : ((g[k].toNat : Int) != 10) = true := bne_iff_ne.2 h3
        have n4 : ((g[k].toNat : Int) == 12) = false := beq_eq_false_iff_ne.2 h4
        have m4 : ((g[k].toNat : Int) != 12) = true := bne_iff_ne.2 h4
        have n5 : ((g[k].toNat : Int) == 13) = false := beq_eq_false_iff_ne.2 h5
        have m5 : ((g[k].toNat : Int) != 13) = true := bne_iff_ne.2 h5
        go_wp2_with (go_at_call 4; refine (keep_labels _).mono ?_; rintro e' w1 ⟨rfl, hb1⟩)
        go_ret
        exact ⟨rfl, hb1⟩
    · obtain rfl : k = g.size := by omega
      rw [List.take_of_length_le (by rw [nums_length]; omega)] at hsp
      have HT := Lib.hid fun u W (h : u.size ≤ maxLen) => label_trim u W h
      have HF := Lib.hid fun u W => find_any u W
      have hn := trimT_twice s
      have hgp := trimT_gap hsp s
      have hfg := find_gap hsp s
      have hfn := find_names
      have hsz := trimT_size s
      have hf0 := find_nothing
      have HNM := Lib.hid fun W => name_any e W
      have hnm0 : e < 1 ∨ 6 < e → nameF e = ⟨#[]⟩ := fun h => by
        unfold nameF
        rw [if_neg (by omega), if_neg (by omega), if_neg (by omega), if_neg (by omega), if_neg (by omega), if_neg (by omega)]
      have hin1 : 1 ≤ e → e ≤ 6 → inF e = 1 := fun h h' => by unfold inF; rw [if_pos ⟨h, h'⟩]
      have hin0 : e < 1 ∨ 6 < e → inF e = 0 := fun h => by unfold inF; rw [if_neg (by omega)]
      clear hsp
      have hfe : findL (nameF e) = if 1 ≤ e ∧ e ≤ 6 then e else 0 := by
        by_cases h : 1 ≤ e ∧ e ≤ 6
        · rw [if_pos h]; exact hfn e (by omega)
        · rw [if_neg h, hnm0 (by omega)]; exact hf0
      clear hfn hf0 hnm0
      generalize trimT = tr at *
      generalize findL = fl at *
      generalize nameF e = N at *
      generalize hts : tr s = T at *
      have hTs : T.size ≤ maxLen := by unfold maxLen; omega
      have hss : s.size ≤ maxLen := by unfold maxLen; omega
      have hcs : (g ++ s ++ g).size ≤ maxLen := by unfold maxLen; simp only [ByteArray.size_append]; omega
      have had1 : g.size + s.size ≤ 9223372036854775807 := by omega
      have had2 : (g ++ s).size + g.size ≤ 9223372036854775807 := by simp only [ByteArray.size_append]; omega
      have hmul : (0 : Int) ≤ (g.size : Int) ∧ (g.size : Int) ≤ 140737488351232 := by omega
      have hq : e ≤ 0 ∨ (1 ≤ e ∧ e ≤ 6) ∨ 7 ≤ e := by omega
      have hz : s.size + 2 * g.size ≤ 40 ∨ 40 < s.size + 2 * g.size := by omega
      have HTL := Lib.hid hTs
      have HSL := Lib.hid hss
      have HCL := Lib.hid hcs
      clear hTs hss hcs
      rcases hz with hz | hz
      · have hfg := hfg hz
        have hz2 : (s.size : Int) + 2 * (g.size : Int) ≤ 40 := by omega
        rcases hq with h | ⟨h, h'⟩ | h
        all_goals
          first
            | (have hin := hin0 (by omega))
            | (have hin := hin1 (by omega) (by omega); have hrem : e.tmod 7 = e := Int.tmod_eq_of_lt (by omega) (by omega); have hmin : min e 7 = e := (by omega); have hmax : max 0 e = e := (by omega))
          first
            | (rw [if_neg (by omega)] at hfe)
            | (rw [if_pos (by omega)] at hfe)
          clear hin0 hin1
          go_wp2_with (first
            | (go_at_call 5; refine (HT.out _ _ (by first | exact HSL.out | exact HTL.out | exact HCL.out)).mono ?_; rintro e' wn ⟨rfl, hbn⟩; first | (have hBB := hBB.trans (hbn.mono hBB.size)) | (have hBB := hbn))
            | (go_at_call 6; refine (HF.out _ _).mono ?_; rintro e' wn ⟨rfl, hbn⟩; have hBB := hBB.trans (hbn.mono hBB.size))
            | (go_at_call 7; refine (HNM.out _).mono ?_; rintro e' wn ⟨rfl, hbn⟩; have hBB := hBB.trans (hbn.mono hBB.size))
            | (go_at_call 8; refine (keep_in _ _).mono ?_; rintro e' w' ⟨rfl, rfl⟩)
            | (go_at_call 4; refine (keep_labels _).mono ?_; rintro e' wn ⟨rfl, hbn⟩; have hBB := hBB.trans (hbn.mono hBB.size)))
          go_ret
          exact ⟨rfl, hBB⟩
      · clear hfg
        have hz2 : (40 : Int) < (s.size : Int) + 2 * (g.size : Int) := by omega
        rcases hq with h | ⟨h, h'⟩ | h
        all_goals
          first
            | (have hin := hin0 (by omega))
            | (have hin := hin1 (by omega) (by omega); have hrem : e.tmod 7 = e := Int.tmod_eq_of_lt (by omega) (by omega); have hmin : min e 7 = e := (by omega); have hmax : max 0 e = e := (by omega))
          first
            | (rw [if_neg (by omega)] at hfe)
            | (rw [if_pos (by omega)] at hfe)
          clear hin0 hin1
          go_wp2_with (first
            | (go_at_call 5; refine (HT.out _ _ (by first | exact HSL.out | exact HTL.out | exact HCL.out)).mono ?_; rintro e' wn ⟨rfl, hbn⟩; first | (have hBB := hBB.trans (hbn.mono hBB.size)) | (have hBB := hbn))
            | (go_at_call 6; refine (HF.out _ _).mono ?_; rintro e' wn ⟨rfl, hbn⟩; have hBB := hBB.trans (hbn.mono hBB.size))
            | (go_at_call 7; refine (HNM.out _).mono ?_; rintro e' wn ⟨rfl, hbn⟩; have hBB := hBB.trans (hbn.mono hBB.size))
            | (go_at_call 8; refine (keep_in _ _).mono ?_; rintro e' w' ⟨rfl, rfl⟩)
            | (go_at_call 4; refine (keep_labels _).mono ?_; rintro e' wn ⟨rfl, hbn⟩; have hBB := hBB.trans (hbn.mono hBB.size)))
          go_ret
          exact ⟨rfl, hBB⟩

end Go.Proofs.YtefohnbmifblkabDoor
