/- The statements' own functions same and pick: two lists alike; a number brought into a range. -/
import Derived.Test.YtefohnbmifblkaaDecodes
import Derived.Test.YtefohnbmifblkaaAutoC
import Derived.Deep.QuietTactic
import Derived.BigQuiet
namespace Go.Proofs.Ytefohnbmifblkaa
open Go.RowKit
set_option linter.unusedVariables false

set_option maxHeartbeats 1000000 in
theorem keep_same (W : World) (b1 b2 : Nat) (v1 v2 : Value) (xs : List Int) (hlen : xs.length ≤ 1000000) (h1 : Ints W b1 v1 xs) (h2 : Ints W b2 v2 xs) :
    Calls Try.prog 38 #[v1, v2] W fun e' w' => e' = .returned (.bool true) ∧ Below W.heap.size W w' := by
  by_cases hne : xs = []
  · subst hne
    rcases h1.2 with ⟨rfl, _⟩ | ⟨g, cap, cur, rfl, _, _, _, hm, _⟩
    all_goals rcases h2.2 with ⟨rfl, _⟩ | ⟨g2, cap2, cur2, rfl, _, _, _, hm2, _⟩
    all_goals
      clear h1 h2
      go_enter Try.func38, Try.ntmps38
      go_wp2
      refine wp_loop_rounds 1 ?_
      rw [rounds_succ]
      go_wp2
      go_ret
      exact ⟨rfl, Below.refl _ _⟩
  · obtain ⟨g1, c1, rfl, _, hc1, hm1, hcell1⟩ := h1.at hne
    obtain ⟨g2, c2, rfl, _, hc2, hm2, hcell2⟩ := h2.at hne
    have hl1 : g1 < W.heap.size := (h1.lt g1 rfl).2
    have hl2 : g2 < W.heap.size := (h2.lt g2 rfl).2
    have H1 := Lib.hid hcell1
    have H2 := Lib.hid hcell2
    clear hcell1 hcell2 h1 h2
    go_enter Try.func38, Try.ntmps38
    go_wp2
    go_loopw [13] (fun i wr => ∃ k : Nat, i = .int .i64 k ∧ k ≤ xs.length ∧ Below W.heap.size W wr) (fun i _ => xs.length - (intOf i).toNat)
    case atStart => exact ⟨0, rfl, Nat.zero_le _, Below.refl _ _⟩
    case round =>
      obtain ⟨k, rfl, hk, hb⟩ := hrel
      by_cases hlt : k < xs.length
      · have ha : wr.cell? ⟨g1, k, none⟩ = some (.int .i64 xs[k]) := (hb.cell (p := ⟨g1, k, none⟩) hl1).trans (H1.out k hlt)
        have hb' : wr.cell? ⟨g2, k, none⟩ = some (.int .i64 xs[k]) := (hb.cell (p := ⟨g2, k, none⟩) hl2).trans (H2.out k hlt)
        have hki : (k : Int) < (xs.length : Int) := by omega
        generalize xs[k] = x at *
        go_wp2_with fail
        go_quiet (fail)
        go_wp2_with fail
        go_roundw
        case rel => exact ⟨k + 1, by go_num, by omega, ⟨hb.os, hb.tape, hb.output, hb.size, hb.block⟩⟩
        case measure => simp [intOf]; omega
      · obtain rfl : k = xs.length := by omega
        go_wp2_with fail
        go_ret
        exact ⟨rfl, hb⟩

/-- A number brought to 0 to n - 1. -/
theorem keep_pick (k n : Int) (w0 : (Lit.int .i64 k).wf = true) (hn : 1 ≤ n) (hn2 : n ≤ 5000) (w : World) :
    Calls Try.prog 37 #[.int .i64 k, .int .i64 n] w fun e' w' => (∃ j : Nat, e' = .returned (.int .i64 (j : Int)) ∧ (j : Int) < n) ∧ w = w' := by
  have ht := Int.tmod_lt_of_pos k (show 0 < n by omega)
  have ht2 : -n < k.tmod n := by
    have := Int.lt_tmod_of_pos k (show 0 < n by omega)
    omega
  go_enter Try.func37, Try.ntmps37
  go_wp2
  · go_ret
    exact ⟨⟨(k.tmod n + n).toNat, ret_int (by have : k.tmod n < 0 := by assumption
                                              omega), by omega⟩, rfl⟩
  · go_ret
    exact ⟨⟨(k.tmod n).toNat, ret_int (by have : 0 ≤ k.tmod n := by assumption
                                          omega), by omega⟩, rfl⟩

end Go.Proofs.Ytefohnbmifblkaa
