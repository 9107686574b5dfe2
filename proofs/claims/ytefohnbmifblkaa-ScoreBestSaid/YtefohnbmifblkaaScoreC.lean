/- Best and Whole of the program's package score. -/
import Derived.Test.YtefohnbmifblkaaScoreB
import Derived.Deep.QuietTactic
import Derived.BigQuiet
import Derived.Deep.DeepCutAuto
import Derived.Deep.RegionLaw
namespace Go.Proofs.Ytefohnbmifblkaa
open Go.RowKit Go.BigFrame
set_option linter.unusedVariables false

theorem sc_st (st sm : Nat → Int) (j : Nat) (h : j ≤ 6) : (sc st sm)[j * 2]? = some (.int .i64 (st j)) := by
  have : j = 0 ∨ j = 1 ∨ j = 2 ∨ j = 3 ∨ j = 4 ∨ j = 5 ∨ j = 6 := by omega
  rcases this with rfl | rfl | rfl | rfl | rfl | rfl | rfl <;> rfl
theorem sc_sm (st sm : Nat → Int) (j : Nat) (h : j ≤ 6) : (sc st sm)[j * 2 + 1]? = some (.int .i64 (sm j)) := by
  have : j = 0 ∨ j = 1 ∨ j = 2 ∨ j = 3 ∨ j = 4 ∨ j = 5 ∨ j = 6 := by omega
  rcases this with rfl | rfl | rfl | rfl | rfl | rfl | rfl <;> rfl

set_option maxRecDepth 100000 in
set_option maxHeartbeats 4000000 in
theorem score_best (st sm : Nat → Int) (F : Int → Bool) (S : Int → Int) (hF : ∀ e : Nat, 1 ≤ e → e ≤ 6 → F e = endsF e (st e)) (hS : ∀ e : Nat, S e = sm e) (w : World) :
    Calls Try.prog 49 #[.agg (sc st sm)] w fun e' w' => e' = .returned (.int .i64 (bestN F S 6)) ∧ Below w.heap.size w w' := by
  have HF := Lib.hid hF
  have HS := Lib.hid hS
  clear hF hS
  go_enter Try.func49, Try.ntmps49
  go_wp2_with fail
  go_loopw [3, 4] (fun b i wr => ∃ k : Nat, b = .int .i64 (bestN F S k) ∧ i = .int .i64 ((k : Int) + 1) ∧ k ≤ 6 ∧ Arr wr w.heap.size (sc st sm) ∧ Below w.heap.size w wr) (fun _ i _ => 7 - (intOf i).toNat)
  case atStart => exact ⟨0, rfl, rfl, by omega, heap_new _ _ _ rfl, below_alloc (Below.refl _ _) _⟩
  case round =>
    obtain ⟨k, rfl, rfl, hk, ha, hb⟩ := hrel
    by_cases hlt : k < 6
    · have hr := bestN_range F S k
      obtain ⟨j, hj⟩ : ∃ j : Nat, bestN F S k = j := ⟨(bestN F S k).toNat, by omega⟩
      have hjk : j ≤ k := by omega
      have hnx : bestN F S (k + 1) = if F ((k : Int) + 1) = true ∧ ((j : Int) = 0 ∨ sm j < sm (k + 1)) then (k : Int) + 1 else (j : Int) := by
        show (if _ then _ else _) = _
        have e1 := HS.out j
        have e2 := HS.out (k + 1)
        have e3 : (((k + 1 : Nat) : Int)) = (k : Int) + 1 := by omega
        rw [e3] at e2
        rw [hj, e1, e2]
      have hen := HF.out (k + 1) (by omega) (by omega)
      rw [show (((k + 1 : Nat) : Int)) = (k : Int) + 1 by omega] at hen
      have hc1 : wr.cell? ⟨w.heap.size, (k + 1) * 2, none⟩ = some (.int .i64 (st (k + 1))) := (ha.cell _).trans (sc_st st sm (k + 1) (by omega))
      have hc2 : wr.cell? ⟨w.heap.size, (k + 1) * 2 + 1, none⟩ = some (.int .i64 (sm (k + 1))) := (ha.cell _).trans (sc_sm st sm (k + 1) (by omega))
      have hc3 : wr.cell? ⟨w.heap.size, j * 2 + 1, none⟩ = some (.int .i64 (sm j)) := (ha.cell _).trans (sc_sm st sm j (by omega))
      rw [hj]
      generalize hx : sm (k + 1) = x at *
      generalize hy : sm j = y at *
      generalize hz : st (k + 1) = z at *
      generalize hE : F ((k : Int) + 1) = E at *
      have HN := Lib.hid hnx
      clear hnx hj
      have HE : Hid (∀ W, Calls Try.prog 17 #[.int .i64 ((k : Int) + 1), .int .i64 z] W fun e' w' => e' = .returned (.bool E) ∧ w' = W) := Lib.hid (fun W => by have := auto_ends ((k : Int) + 1) z W; rw [← hen] at this; exact this.mono fun _ _ h => ⟨h.1, h.2.symm⟩)
      clear hen
      rcases E with _ | _
      · go_wp2_with fail
        go_quiet ((go_at_call 17; exact Calls.quiet_of_same (HE.out _)))
        go_wp2_with fail
        refine ⟨⟨k + 1, ?_, congrArg (Value.int .i64) (by omega), by omega, ha, ⟨hb.os, hb.tape, hb.output, hb.size, hb.block⟩⟩, by simp [intOf]; omega⟩
        exact congrArg (Value.int .i64) (by rw [HN.out, if_neg (by simp)])
      · have hq : j = 0 ∨ (j ≠ 0 ∧ y < x) ∨ (j ≠ 0 ∧ ¬ y < x) := by omega
        rcases hq with rfl | ⟨hj0, hxy⟩ | ⟨hj0, hxy⟩
        · go_wp2_with fail
          go_quiet ((go_at_call 17; exact Calls.quiet_of_same (HE.out _)))
          go_wp2_with fail
          refine ⟨⟨k + 1, ?_, congrArg (Value.int .i64) (by omega), by omega, ha, ⟨hb.os, hb.tape, hb.output, hb.size, hb.block⟩⟩, by simp [intOf]; omega⟩
          exact congrArg (Value.int .i64) (by rw [HN.out, if_pos ⟨trivial, Or.inl rfl⟩])
        · have hjb : ((j : Int) == 0) = false := beq_eq_false_iff_ne.2 (by omega)
          go_wp2_with fail
          go_quiet ((go_at_call 17; exact Calls.quiet_of_same (HE.out _)))
          go_wp2_with fail
          refine ⟨⟨k + 1, ?_, congrArg (Value.int .i64) (by omega), by omega, ha, ⟨hb.os, hb.tape, hb.output, hb.size, hb.block⟩⟩, by simp [intOf]; omega⟩
          exact congrArg (Value.int .i64) (by rw [HN.out, if_pos ⟨trivial, Or.inr hxy⟩])
        · have hjb : ((j : Int) == 0) = false := beq_eq_false_iff_ne.2 (by omega)
          have hxd : decide (y < x) = false := decide_eq_false hxy
          go_wp2_with fail
          go_quiet ((go_at_call 17; exact Calls.quiet_of_same (HE.out _)))
          go_wp2_with fail
          refine ⟨⟨k + 1, ?_, congrArg (Value.int .i64) (by omega), by omega, ha, ⟨hb.os, hb.tape, hb.output, hb.size, hb.block⟩⟩, by simp [intOf]; omega⟩
          exact congrArg (Value.int .i64) (by rw [HN.out, if_neg (by rintro ⟨_, h | h⟩ <;> omega)])
    · obtain rfl : k = 6 := by omega
      go_wp2_with fail
      go_ret
      exact ⟨rfl, hb⟩

theorem score_step (st sm : Nat → Int) (last b : Int) (hl : last = -1 ∨ 0 ≤ last) (hsm : ∀ e, -1000000 ≤ sm e ∧ sm e ≤ 1000000) (w : World) :
    Calls Try.prog 48 #[.agg (sc st sm), .int .i64 last, .int .i64 b] w fun e' w' => e' = .returned (.agg (sc (stNext st b) (smNext sm last b))) ∧ Below w.heap.size w w' := by
  rcases hl with rfl | hl
  · exact score_step_first st sm b hsm w
  · exact score_step_next st sm last hl b hsm w

/-- The scores behind k bytes, and the byte ahead. -/
def stK (l : List Int) (k : Nat) (e : Nat) : Int := if e = 0 then 0 else autoAll (e : Int) 0 (l.take k)
def smK (l : List Int) (k : Nat) (e : Nat) : Int := sumN (e : Int) l k
def lastK (l : List Int) (k : Nat) : Int := if k = 0 then -1 else l.getD (k - 1) 0

theorem weight_zero (a b : Int) : weightF 0 a b = 0 := by
  unfold weightF weighF
  simp
theorem stK_next {s : ByteArray} {k : Nat} (h : k < s.size) : stNext (stK (nums s) k) (s[k].toNat : Int) = stK (nums s) (k + 1) := by
  funext e
  unfold stNext stK
  by_cases he : e = 0
  · simp [he]
  · rw [if_neg he, if_neg he, if_neg he, nums_take s k h, autoAll_snoc]
theorem nums_getD {s : ByteArray} {k : Nat} (h : k < s.size) : (nums s).getD k 0 = (s[k].toNat : Int) := by
  have h2 : k < (nums s).length := by rw [nums_length]; exact h
  rw [List.getD_eq_getElem?_getD, List.getElem?_eq_getElem h2, Option.getD_some, nums_get s k h]
theorem smK_next {s : ByteArray} {k : Nat} (h : k < s.size) : smNext (smK (nums s) k) (lastK (nums s) k) (s[k].toNat : Int) = smK (nums s) (k + 1) := by
  funext e
  unfold smNext smK lastK
  show _ = sumN (e : Int) (nums s) k + (if k = 0 then 0 else weightF e ((nums s).getD (k - 1) 0) ((nums s).getD k 0))
  rw [nums_getD h]
  by_cases hk : k = 0
  · rw [if_pos hk, if_pos hk, if_pos (Or.inr (by omega))]
    omega
  · rw [if_neg hk, if_neg hk]
    by_cases he : e = 0
    · subst he
      rw [if_pos (Or.inl rfl)]
      simp [weight_zero]
    · rw [if_neg]
      rw [nums_getD (by omega : k - 1 < s.size)]
      omega
theorem smK_range {s : ByteArray} {k : Nat} (h : k ≤ s.size) (hs : s.size ≤ 4000) (e : Nat) : -1000000 ≤ smK (nums s) k e ∧ smK (nums s) k e ≤ 1000000 := by
  have := sumN_range (e : Int) (nums s) k
  unfold smK
  omega
theorem lastK_range {s : ByteArray} {k : Nat} (h : k ≤ s.size) : lastK (nums s) k = -1 ∨ 0 ≤ lastK (nums s) k := by
  unfold lastK
  by_cases hk : k = 0
  · rw [if_pos hk]; exact Or.inl rfl
  · rw [if_neg hk, nums_getD (by omega : k - 1 < s.size)]
    omega

theorem drew_arr {w w2 : World} {b : Nat} {c : Array Value} (h : Arr w b c) (hb : Below w.drew.heap.size w.drew w2) : Arr w2 b c := by
  have h2 : Arr w.drew b c := h
  exact h2.below hb h.lt

set_option maxRecDepth 100000 in
set_option maxHeartbeats 4000000 in
theorem score_whole (s : ByteArray) (hs : s.size ≤ 4000) (w : World) :
    Calls Try.prog 24 #[.string s] w fun e' w' => e' = .returned (.int .i64 (bestF (nums s))) ∧ Below w.heap.size w w' := by
  have hbest : ∀ W, Calls Try.prog 49 #[.agg (sc (stK (nums s) s.size) (smK (nums s) s.size))] W fun e' w' => e' = .returned (.int .i64 (bestF (nums s))) ∧ Below W.heap.size W w' := by
    intro W
    refine (score_best _ _ (fun e => endsF e (autoAll e 0 (nums s))) (fun e => sumN e (nums s) (nums s).length) ?_ ?_ W).mono fun _ _ h => h
    · intro e h1 _
      unfold stK
      rw [if_neg (by omega), nums_all]
    · intro e
      unfold smK
      rw [nums_length]
  have HB := Lib.hid hbest
  clear hbest
  generalize bestF (nums s) = best at *
  go_enter Try.func24, Try.ntmps24
  go_wp2_with (go_at_call 47; refine (score_new _).mono ?_; rintro e' w1 ⟨rfl, hb1⟩)
  go_loopw [4, 9] (fun v i wr => ∃ k : Nat, v = .int .i64 (lastK (nums s) k) ∧ i = .int .i64 (k : Int) ∧ k ≤ s.size ∧ Arr wr w1.heap.size (sc (stK (nums s) k) (smK (nums s) k)) ∧ Below w.heap.size w wr) (fun _ i _ => s.size - (intOf i).toNat)
  case atStart => exact ⟨0, rfl, rfl, Nat.zero_le _, heap_new _ _ _ rfl, below_alloc hb1 _⟩
  case round =>
    obtain ⟨k, rfl, rfl, hk, ha, hb⟩ := hrel
    have hlo : w.heap.size ≤ w1.heap.size := hb1.size
    have hs1 := ha.lt
    by_cases hlt : k < s.size
    · have hstep : ∀ W, Calls Try.prog 48 #[.agg (sc (stK (nums s) k) (smK (nums s) k)), .int .i64 (lastK (nums s) k), .int .i64 (s[k].toNat : Int)] W fun e' w' =>
          e' = .returned (.agg (sc (stK (nums s) (k + 1)) (smK (nums s) (k + 1)))) ∧ Below W.heap.size W w' := by
        intro W
        have := score_step (stK (nums s) k) (smK (nums s) k) (lastK (nums s) k) (s[k].toNat : Int) (lastK_range hk) (smK_range hk hs) W
        rwa [stK_next hlt, smK_next hlt] at this
      have hlast : lastK (nums s) (k + 1) = (s[k].toNat : Int) := by
        unfold lastK
        rw [if_neg (by omega), show k + 1 - 1 = k from rfl, nums_getD hlt]
      have HL := Lib.hid hlast
      clear hlast
      generalize hq1 : stK (nums s) k = st at *
      generalize hq2 : smK (nums s) k = sm at *
      generalize hq3 : stK (nums s) (k + 1) = st2 at *
      generalize hq4 : smK (nums s) (k + 1) = sm2 at *
      generalize lastK (nums s) k = la at *
      have HC := Lib.hid hstep
      have H3 := Lib.hid hq3
      have H4 := Lib.hid hq4
      clear hstep hq1 hq2 hq3 hq4
      have hc1 := ha.cell
      have hf1 := ha.frozen
      have hwb := wrap64_byte s[k]
      have hwc : IntKind.i64.wrap (s[k].toNat : Int) = (s[k].toNat : Int) := wraps_i64 _ (by omega) (by have := byte_le s[k]; omega)
      go_upto_region 5 with fail
      go_cut [18] (fun s18 wx => Arr wx w1.heap.size (sc st2 sm2) ∧ Below w.heap.size w wx)
      case first =>
        go_region_with (go_at_call 48; refine (HC.out _).mono ?_; rintro e' w2 ⟨rfl, hb2⟩; have ha2 := drew_arr ha hb2; have hc2 := ha2.cell; have hf2 := ha2.frozen)
        all_goals
          go_wp2_with fail
          go_meet
          exact ⟨ha2.put14 st2 sm2, below_put14 (hb.drew.trans (hb2.mono (by have := hb.size; show _ ≤ wr.heap.size; omega))) hlo st2 sm2⟩
      case rest =>
        clear hc1 hf1 HC
        obtain ⟨ha2, hbx⟩ := hcut
        go_wp2_with fail
        go_roundw
        case rel => exact ⟨k + 1, by rw [HL.out], by go_num, by omega, by rw [H3.out, H4.out]; exact ha2, hbx⟩
        case measure => simp [intOf]; omega
    · obtain rfl : k = s.size := by omega
      generalize stK (nums s) s.size = st at *
      generalize smK (nums s) s.size = sm at *
      have hc1 := ha.cell
      have hf1 := ha.frozen
      go_wp2_with (go_at_call 49; refine (HB.out _).mono ?_; rintro e' w2 ⟨rfl, hb2⟩)
      go_ret
      exact ⟨rfl, hb.trans (hb2.mono hb.size)⟩

end Go.Proofs.Ytefohnbmifblkaa
