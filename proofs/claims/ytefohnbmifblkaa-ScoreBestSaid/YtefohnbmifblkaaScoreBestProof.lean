/- For all bytes and every encoding, the best encoding accepts them, no accepting encoding has a greater score, and no earlier one has the same score. -/
import Derived.Test.YtefohnbmifblkaaRows
import Derived.WalkKit
import Derived.Test.YtefohnbmifblkaaScoreE
import Derived.Test.YtefohnbmifblkaaPieceA
import Derived.ProofKit
import Derived.OpenShut
import Derived.ShutString
namespace Go.Proofs.Ytefohnbmifblkaa.scoreBest
open Go.ChangeShapes Go.WideShapes Go.ChangeAt Go.RowKit
open Go.ChangeMaps (open_string shut_string)
set_option linter.unusedVariables false      -- a walk need not use every 'w<i>' (that an integer argument fits its kind)

theorem own : ownKnob Try.prog.godebug = none := by kernel_rfl

set_option maxRecDepth 100000 in
set_option maxHeartbeats 4000000 in
theorem walk (a0 : ByteArray) (a1 : Int) (w0 : a0.size ≤ maxLen) (w1 : (Lit.int .i64 a1).wf = true) (w : World) :
    Calls Try.prog 7 #[.string a0, .int .i64 a1] w fun e w' => e = .returned (.bool true) ∧ Below w.heap.size w w' := by
  by_cases hbig : 4000 < a0.size
  · have hb2 : (4000 : Int) < (a0.size : Int) := by omega
    go_enter Try.func7, Try.ntmps7
    go_wp2_with (go_at_call 23; refine (keep_scores _).mono ?_; rintro e w1 ⟨rfl, hb1⟩)
    go_ret
    exact ⟨rfl, (below_alloc (Below.refl _ _) _).trans (hb1.mono (by simp))⟩
  · have hsm : (a0.size : Int) ≤ 4000 := by omega
    have hmf := hmf
    have HW := Lib.hid (fun W => score_whole a0 (by omega) W)
    have HA := Lib.hid (fun e W => auto_accepts e a0 W (by unfold maxLen; omega))
    have HS : Hid (∀ e b W, W.cell? ⟨b, 0, none⟩ = some (.string a0) → Calls Try.prog 25 #[.int .i64 e, .pointer (some ⟨b, 0, none⟩)] W fun e' w' => e' = .returned (.int .i64 (sumN e (nums a0) a0.size)) ∧ Below W.heap.size W w' ∧ w'.heap = W.heap) :=
      Lib.hid fun e b W h => keep_sum e a0 (by omega) b W h
    have hz : bestF (nums a0) = 0 → acceptsF a1 (nums a0) = false := fun h => best_zero h
    have hy : bestF (nums a0) ≠ 0 → acceptsF (bestF (nums a0)) (nums a0) = true := fun h => best_yes h
    have hm : acceptsF a1 (nums a0) = true → sumN a1 (nums a0) a0.size ≤ sumN (bestF (nums a0)) (nums a0) a0.size ∧ (a1 < bestF (nums a0) → sumN a1 (nums a0) a0.size < sumN (bestF (nums a0)) (nums a0) a0.size) := by
      intro h
      have := best_most h
      rwa [nums_length] at this
    obtain ⟨F, hF⟩ : ∃ F : Int → Bool, ∀ e, acceptsF e (nums a0) = F e := ⟨_, fun _ => rfl⟩
    obtain ⟨S, hS⟩ : ∃ S : Int → Int, ∀ e, sumN e (nums a0) a0.size = S e := ⟨_, fun _ => rfl⟩
    simp only [hF] at HA hz hy hm
    simp only [hS] at HS hm
    clear hF hS
    generalize bestF (nums a0) = best at *
    have hbox : ∀ W : World, Below (w.alloc (.cells #[.string a0] 9)).heap.size (w.alloc (.cells #[.string a0] 9)) W → W.cell? ⟨w.heap.size, 0, none⟩ = some (.string a0) := by
      intro W h
      refine (h.cell (p := ⟨w.heap.size, 0, none⟩) (by simp)).trans ?_
      simp [go_sem]
    have HB := Lib.hid hbox
    clear hbox
    have hq : best = 0 ∨ (best ≠ 0 ∧ F a1 = false) ∨ (best ≠ 0 ∧ F a1 = true ∧ a1 < best) ∨ (best ≠ 0 ∧ F a1 = true ∧ ¬ a1 < best) := by
      cases F a1 <;> simp <;> omega
    rcases hq with rfl | ⟨h0, hf⟩ | ⟨h0, hf, hlt⟩ | ⟨h0, hf, hlt⟩
    · have hf := hz rfl
      clear hz hy hm HS
      go_enter Try.func7, Try.ntmps7
      go_wp2_with (first
        | (go_at_call 24; refine (HW.out _).mono ?_; rintro e' wn ⟨rfl, hbn⟩; have hcx := HB.out _ hbn; have hT : Below w.heap.size w wn := (below_alloc (Below.refl _ _) _).trans (hbn.mono (by simp)))
        | (go_at_call 16; refine (HA.out _ _).mono ?_; rintro e' w' ⟨rfl, rfl⟩)
        | (go_at_call 23; refine (keep_scores _).mono ?_; rintro e' wm ⟨rfl, hbm⟩))
      go_ret
      exact ⟨rfl, hT.trans (hbm.mono hT.size)⟩
    · have hy := hy h0
      have hbb : (best == 0) = false := beq_eq_false_iff_ne.2 h0
      clear hz hm HS
      go_enter Try.func7, Try.ntmps7
      go_wp2_with (first
        | (go_at_call 24; refine (HW.out _).mono ?_; rintro e' wn ⟨rfl, hbn⟩; have hcx := HB.out _ hbn; have hT : Below w.heap.size w wn := (below_alloc (Below.refl _ _) _).trans (hbn.mono (by simp)))
        | (go_at_call 16; refine (HA.out _ _).mono ?_; rintro e' w' ⟨rfl, rfl⟩)
        | (go_at_call 23; refine (keep_scores _).mono ?_; rintro e' wm ⟨rfl, hbm⟩))
      go_ret
      exact ⟨rfl, hT.trans (hbm.mono hT.size)⟩
    · have hy := hy h0
      have hbb : (best == 0) = false := beq_eq_false_iff_ne.2 h0
      have hm := hm hf
      have hd1 : decide (S best < S a1) = false := decide_eq_false (by have := hm.1; omega)
      have hd2 : (S a1 == S best) = false := beq_eq_false_iff_ne.2 (by have := hm.2 hlt; omega)
      clear hz hm
      go_enter Try.func7, Try.ntmps7
      go_wp2_with (first
        | (go_at_call 24; refine (HW.out _).mono ?_; rintro e' wn ⟨rfl, hbn⟩; have hcx := HB.out _ hbn; have hT : Below w.heap.size w wn := (below_alloc (Below.refl _ _) _).trans (hbn.mono (by simp)))
        | (go_at_call 16; refine (HA.out _ _).mono ?_; rintro e' w' ⟨rfl, rfl⟩)
        | (go_at_call 25; refine (HS.out _ _ _ hcx).mono ?_; rintro e' wn ⟨rfl, hbn, hhn⟩; have hcx := (cell_heap hhn ⟨w.heap.size, 0, none⟩).trans hcx; have hT := hT.trans (hbn.mono hT.size))
        | (go_at_call 23; refine (keep_scores _).mono ?_; rintro e' wm ⟨rfl, hbm⟩))
      go_ret
      exact ⟨rfl, hT.trans (hbm.mono hT.size)⟩
    · have hy := hy h0
      have hbb : (best == 0) = false := beq_eq_false_iff_ne.2 h0
      have hm := hm hf
      have hd1 : decide (S best < S a1) = false := decide_eq_false (by have := hm.1; omega)
      have hd2 : decide (a1 < best) = false := decide_eq_false hlt
      clear hz hm
      go_enter Try.func7, Try.ntmps7
      go_wp2_with (first
        | (go_at_call 24; refine (HW.out _).mono ?_; rintro e' wn ⟨rfl, hbn⟩; have hcx := HB.out _ hbn; have hT : Below w.heap.size w wn := (below_alloc (Below.refl _ _) _).trans (hbn.mono (by simp)))
        | (go_at_call 16; refine (HA.out _ _).mono ?_; rintro e' w' ⟨rfl, rfl⟩)
        | (go_at_call 25; refine (HS.out _ _ _ hcx).mono ?_; rintro e' wn ⟨rfl, hbn, hhn⟩; have hcx := (cell_heap hhn ⟨w.heap.size, 0, none⟩).trans hcx; have hT := hT.trans (hbn.mono hT.size))
        | (go_at_call 23; refine (keep_scores _).mono ?_; rintro e' wm ⟨rfl, hbm⟩))
      go_ret
      exact ⟨rfl, hT.trans (hbm.mono hT.size)⟩

set_option maxRecDepth 100000 in
theorem lifted (os : Os) (started : os.Started) (H : Type) (enc : TypeId × Value → H) :
    ReturnsInHanded {} Try.checked os 7 .any (Rows.scoreBestSpec.pre6 enc Try.prog Try.f7 Rows.scoreBestRow.domain false) (Rows.scoreBestSpec.post enc Try.prog Try.f7 false true false false) := by
  refine returnsInHanded_of_change (C := Try.checked) own started (by kernel_rfl) Try.func7
    (ChangeSpec.witness6 (enc := enc) (C := Try.checked) false ⟨#[], #[.string ByteArray.empty, .int .i64 0], []⟩ 8 (by kernel_rfl) (by kernel_rfl) (by kernel_rfl) (by kernel_rfl)) ?_
  intro W base args ds gs before hval0 hW hcnd _
  have hval : ∀ (j : Nat) t v, Try.f7.params[j]? = some t → args[j]? = some v → Value.okWide Try.prog W .any base t v := hval0
  have hW' := hW
  obtain ⟨p, q, hA0, hV, rfl, hfz, hnd⟩ := hW
  have hA : DataW.TrodAll enc Try.prog W 0 (fun _ => true) true Try.f7.params.toList args.toList ds p := hA0
  rw [Try.params7] at hA hval
  obtain ⟨v0, vs0, d0, ds0, p0, q0, hargs, rfl, rfl, h0, r0⟩ := trodAll_cons hA
  obtain ⟨v1, vs1, d1, ds1, p1, q1, rfl, rfl, rfl, h1, r1⟩ := trodAll_cons r0
  obtain ⟨rfl, rfl, rfl⟩ := trodAll_nil r1
  obtain rfl : args = #[v0, v1] := by cases args; simp_all
  obtain ⟨rfl, rfl⟩ := trodVars_none hV
  obtain ⟨a0, rfl, rfl, rfl, w0⟩ := open_string Try.underlying9 (hval 0 9 v0 rfl rfl) h0
  obtain ⟨a1, rfl, rfl, rfl, w1⟩ := open_int Try.underlying3 (hval 1 3 v1 rfl rfl) h1
  clear hA0 hval0
  simp only [List.append_nil] at hW'
  refine (walk a0 a1 w0 w1 W).mono fun e W' ⟨he, hg⟩ => ?_
  subst he
  exact ⟨_, rfl, ⟨_, _, _, [], [], [], hW', (trodAll_cons_mk (shut_bool Try.underlying4 _) trodAll_mk0), (trodAll_cons_mk (shut_string Try.underlying9 w0) (trodAll_cons_mk (shut_int Try.underlying3 w1) trodAll_mk0)), rfl, hg.frame _, fun h => by cases h⟩⟩

theorem over : Rows.scoreBestRow.holds Try.pinned (OpenSpec.ofChange Rows.scoreBestSpec) :=
  OpenClaim.holds_of_wide 7 Try.f7 rfl rfl rfl rfl rfl rfl rfl ⟨rfl, rfl, rfl, rfl, rfl⟩ rfl rfl rfl rfl rfl (by kernel_rfl) Try.func7 (by kernel_rfl)
    (of_decide_eq_true (by kernel_rfl)) (by unfold Func.isWrapper; first | (rw [if_pos (by decide +kernel)]; kernel_rfl) | (rw [if_neg (by decide +kernel)]; exact ⟨rfl, rfl⟩))
    (fun os started H enc _ => lifted os started H enc)

theorem proved : Rows.ScoreBestSaid :=
  over
#print axioms proved
end Go.Proofs.Ytefohnbmifblkaa.scoreBest
