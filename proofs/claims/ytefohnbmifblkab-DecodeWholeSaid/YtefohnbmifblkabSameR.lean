/- The reference's function SameNumbers; the statement DecodeWhole, one theorem for each way. -/
import Derived.Test.YtefohnbmifblkabDecodes
import Derived.Test.YtefohnbmifblkabRefW
import Derived.Deep.QuietTactic
import Derived.BigQuiet
namespace Go.Proofs.Ytefohnbmifblkab
open Go.RowKit
set_option linter.unusedVariables false

set_option maxHeartbeats 1000000 in
theorem ref_same (W : World) (b1 b2 : Nat) (v1 v2 : Value) (xs : List Int) (hlen : xs.length ≤ 1000000) (h1 : Ints W b1 v1 xs) (h2 : Ints W b2 v2 xs) :
    Calls Try.prog 6 #[v1, v2] W fun e' w' => e' = .returned (.bool true) ∧ Below W.heap.size W w' := by
  by_cases hne : xs = []
  · subst hne
    rcases h1.2 with ⟨rfl, _⟩ | ⟨g, cap, cur, rfl, _, _, _, hm, _⟩
    all_goals rcases h2.2 with ⟨rfl, _⟩ | ⟨g2, cap2, cur2, rfl, _, _, _, hm2, _⟩
    all_goals
      clear h1 h2
      go_enter Try.func6, Try.ntmps6
      go_wp2
      refine wp_loop_rounds 1 ?_
      rw [rounds_succ]
      go_wp2
      go_ret
      exact ⟨rfl, Below.refl _ _⟩
  · obtain ⟨g1, c1, rfl, _, hc1, hm1, hcell1⟩ := h1.at hne
    obtain ⟨g2, c2, rfl, _, hc2, hm2, hcell2⟩ := h2.at hne
    have hl1 : g1 < W.heap.size := (h1.lt g1 rfl).2
    have hl2 : g2 < W.heap.size := (h2.lt g2 rfl).2
    have H1 := Lib.hid hcell1
    have H2 := Lib.hid hcell2
    clear hcell1 hcell2 h1 h2
    go_enter Try.func6, Try.ntmps6
    go_wp2
    go_loopw [13] (fun i wr => ∃ k : Nat, i = .int .i64 k ∧ k ≤ xs.length ∧ Below W.heap.size W wr) (fun i _ => xs.length - (intOf i).toNat)
    case atStart => exact ⟨0, rfl, Nat.zero_le _, Below.refl _ _⟩
    case round =>
      obtain ⟨k, rfl, hk, hb⟩ := hrel
      by_cases hlt : k < xs.length
      · have ha : wr.cell? ⟨g1, k, none⟩ = some (.int .i64 xs[k]) := (hb.cell (p := ⟨g1, k, none⟩) hl1).trans (H1.out k hlt)
        have hb' : wr.cell? ⟨g2, k, none⟩ = some (.int .i64 xs[k]) := (hb.cell (p := ⟨g2, k, none⟩) hl2).trans (H2.out k hlt)
        have hki : (k : Int) < (xs.length : Int) := by omega
        generalize xs[k] = x at *
        go_wp2_with fail
        go_quiet (fail)
        go_wp2_with fail
        go_roundw
        case rel => exact ⟨k + 1, by go_num, by omega, ⟨hb.os, hb.tape, hb.output, hb.size, hb.block⟩⟩
        case measure => simp [intOf]; omega
      · obtain rfl : k = xs.length := by omega
        go_wp2_with fail
        go_ret
        exact ⟨rfl, hb⟩


theorem whole_length (e : Int) (s : ByteArray) (hs : s.size ≤ 4000) : (wholeS e (nums s)).length ≤ 1000000 := by
  have h1 := feed_lenS e {} (nums s)
  have h2 := end_len (feedS e {} (nums s)).1
  rw [nums_length] at h1
  unfold wholeS
  rw [List.length_append]
  omega

set_option maxHeartbeats 1000000 in
theorem law_whole (e : Int) (s : ByteArray) (xs : List Int) (f : Int) (hlen : xs.length ≤ 1000000) (w : World)
    (HA : Hid (∀ W, Calls Try.prog 4 #[.int .i64 e, .string s] W (Post2 xs f W)))
    (HB : Hid (∀ W, Calls Try.prog 5 #[.int .i64 e, .string s] W (Post2 xs f W))) :
    Calls Try.prog 3 #[.int .i64 e, .string s] w fun e' w' => e' = .returned (.bool true) ∧ Below w.heap.size w w' := by
  go_enter Try.func3, Try.ntmps3
  go_wp2_with (first
    | (go_at_call 4; refine (HA.out _).mono ?_; rintro e' w1 ⟨v1, rfl, hi1, hb1⟩)
    | (go_at_call 5; refine (HB.out _).mono ?_; rintro e' w2 ⟨v2, rfl, hi2, hb2⟩)
    | (go_at_call 6; refine (ref_same _ _ _ v1 v2 xs hlen (hi1.below hb2 (Nat.le_refl _)) hi2).mono ?_; rintro e' w3 ⟨rfl, hb3⟩)
    | (go_at_call 7; refine (law_decodes _).mono ?_; rintro e' w4 ⟨rfl, hb4⟩))
  go_ret
  have B2 := hb1.trans (hb2.mono hb1.size)
  have B3 := B2.trans (hb3.mono B2.size)
  exact ⟨rfl, B3.trans (hb4.mono B3.size)⟩

theorem law_whole_any (e : Int) (s : ByteArray) (w : World) :
    Calls Try.prog 3 #[.int .i64 e, .string s] w fun e' w' => e' = .returned (.bool true) ∧ Below w.heap.size w w' := by
  by_cases hk : e < 1 ∨ 6 < e
  · exact law_whole e s [] 2 (by simp) w (Lib.hid fun W => whole_kind e s hk W) (Lib.hid fun W => ref_whole_kind e s hk W)
  · have h1 : 1 ≤ e := by omega
    have h6 : e ≤ 6 := by omega
    by_cases hl : 4000 < s.size
    · exact law_whole e s [] 4 (by simp) w (Lib.hid fun W => whole_long e s h1 h6 hl W) (Lib.hid fun W => ref_whole_long e s h1 h6 hl W)
    · have hs : s.size ≤ 4000 := by omega
      exact law_whole e s _ 0 (whole_length e s hs) w (Lib.hid fun W => whole_ok e h1 h6 s hs W) (Lib.hid fun W => ref_whole e h1 h6 s hs W)

end Go.Proofs.Ytefohnbmifblkab
