/- For all bytes: they are accepted exactly if decoding them gives no Bad. -/
import Derived.Test.YtefohnbmifblkaaRows
import Derived.WalkKit
import Derived.Test.YtefohnbmifblkaaDecodes
import Derived.Test.YtefohnbmifblkaaAutoC
import Derived.Test.YtefohnbmifblkaaBad
import Derived.Test.YtefohnbmifblkaaFew
import Derived.ProofKit
import Derived.OpenShut
import Derived.ShutString
namespace Go.Proofs.Ytefohnbmifblkaa.autoDecodes
open Go.ChangeShapes Go.WideShapes Go.ChangeAt Go.RowKit
open Go.ChangeMaps (open_string shut_string)
set_option linter.unusedVariables false      -- a walk need not use every 'w<i>' (that an integer argument fits its kind)

theorem own : ownKnob Try.prog.godebug = none := by kernel_rfl

theorem walk (a0 : Int) (a1 : ByteArray) (w0 : (Lit.int .i64 a0).wf = true) (w1 : a1.size ≤ maxLen) (w : World) :
    Calls Try.prog 6 #[.int .i64 a0, .string a1] w fun e w' => e = .returned (.bool true) ∧ Below w.heap.size w w' := by
  have hin : a0 < 1 ∨ 6 < a0 ∨ (1 ≤ a0 ∧ a0 ≤ 6) := by omega
  by_cases hbig : 4000 < a1.size
  · have hb2 : (4000 : Int) < (a1.size : Int) := by omega
    go_enter Try.func6, Try.ntmps6
    go_wp2_with (go_at_call 18; refine (keep_autos _).mono ?_; rintro e w' ⟨rfl, rfl⟩)
    go_ret
    exact ⟨rfl, Below.refl _ _⟩
  · have hsm : (a1.size : Int) ≤ 4000 := by omega
    have hacc : ∀ W, Calls Try.prog 16 #[.int .i64 a0, .string a1] W fun e' w' => e' = .returned (.bool (acceptsF a0 (nums a1))) ∧ W = w' :=
      fun W => auto_accepts a0 a1 W (by unfold maxLen; omega)
    by_cases hie : 1 ≤ a0 ∧ a0 ≤ 6
    · obtain ⟨he1, he6⟩ := hie
      have haw : acceptsF a0 (nums a1) = !decide (-1 ∈ wholeS a0 (nums a1)) := by
        rw [accepts_whole he1 he6 _ (nums_range a1)]; simp
      have hcall : ∀ W, Calls Try.prog 21 #[.int .i64 a0, .string a1] W (Post2 (wholeS a0 (nums a1)) 0 W) := fun W => whole_ok a0 he1 he6 a1 (by omega) W
      rw [haw] at hacc
      generalize wholeS a0 (nums a1) = xs at *
      have HC := Lib.hid hcall
      clear hcall hin haw
      by_cases hne : xs = []
      · subst hne
        have hcall : ∀ W, Calls Try.prog 21 #[.int .i64 a0, .string a1] W fun e' w' => (∃ a c, e' = .returned (.tuple #[.slice a 0 c, .int .i64 0])) ∧ Below W.heap.size W w' := by
          intro W
          refine (HC.out W).mono ?_
          rintro e' w' ⟨v, rfl, hi, hb⟩
          refine ⟨?_, hb⟩
          rcases hi.2 with ⟨rfl, _⟩ | ⟨g, cap, cur, rfl, _⟩
          · exact ⟨none, 0, rfl⟩
          · exact ⟨_, cap, rfl⟩
        have hacc : ∀ W, Calls Try.prog 16 #[.int .i64 a0, .string a1] W fun e' w' => e' = .returned (.bool true) ∧ W = w' := by simpa using hacc
        have HD := Lib.hid hcall
        have HA := Lib.hid hacc
        clear hcall hacc
        go_enter Try.func6, Try.ntmps6
        go_wp2_with (go_at_call 21; refine (HD.out _).mono ?_; rintro e w1 ⟨⟨a, c, rfl⟩, hb1⟩)
        refine wp_loop_rounds 1 ?_
        rw [rounds_succ]
        go_wp2_with (first
          | (go_at_call 16; refine (HA.out _).mono ?_; rintro e w' ⟨rfl, rfl⟩)
          | (go_at_call 18; refine (keep_autos _).mono ?_; rintro e w' ⟨rfl, rfl⟩)
          | (go_at_call 22; refine (keep_decodes _).mono ?_; rintro e w2 ⟨rfl, hb2⟩))
        go_ret
        exact ⟨rfl, hb1.trans (hb2.mono hb1.size)⟩
      · have hcall : ∀ W, Calls Try.prog 21 #[.int .i64 a0, .string a1] W fun e' w' => ∃ g c, e' = .returned (.tuple #[.slice (some ⟨g, 0, none⟩) xs.length c, .int .i64 0]) ∧ xs.length ≤ c ∧ c ≤ maxLen
            ∧ (∀ j (hj : j < xs.length), w'.cell? ⟨g, j, none⟩ = some (.int .i64 xs[j])) ∧ g < w'.heap.size ∧ Below W.heap.size W w' := by
          intro W
          refine (HC.out W).mono ?_
          rintro e' w' ⟨v, rfl, hi, hb⟩
          obtain ⟨g, cap, rfl, _, hcap, hm, hc⟩ := hi.at hne
          exact ⟨g, cap, rfl, hcap, hm, hc, (hi.lt g rfl).2, hb⟩
        have HD := Lib.hid hcall
        have HA := Lib.hid hacc
        clear hcall hacc
        go_enter Try.func6, Try.ntmps6
        go_wp2_with (go_at_call 21; refine (HD.out _).mono ?_; rintro e w1 ⟨g, c, rfl, hc1, hc2, hcells, hgl, hb1⟩; unfold maxLen at hc2; have HX := Lib.hid hcells; clear hcells)
        go_loop [7, 24] (fun x i => ∃ k : Nat, k ≤ xs.length ∧ i = .int .i64 k ∧ x = .bool (decide (-1 ∈ xs.take k))) (fun _ i => xs.length - (intOf i).toNat)
        case atStart => exact ⟨0, Nat.zero_le _, rfl, by simp⟩
        case round =>
          obtain ⟨k, hk, rfl, rfl⟩ := hrel
          by_cases hlt : k < xs.length
          · have ha := HX.out k hlt
            have hst := bad_snoc xs k hlt
            have hki : (k : Int) < (xs.length : Int) := by omega
            generalize xs[k] = x at *
            generalize decide (-1 ∈ xs.take k) = B at *
            have HS := Lib.hid hst
            clear hst
            by_cases hx : x = -1
            all_goals rcases B with _ | _
            all_goals
              go_wp2_with fail
              go_round
              case rel => exact ⟨k + 1, by omega, by go_num, by rw [HS.out]; simp [hx]⟩
              case measure => simp [intOf]; omega
          · obtain rfl : k = xs.length := by omega
            have HA2 := HA.out
            have htk : xs.take xs.length = xs := List.take_length
            rw [htk]
            generalize decide (-1 ∈ xs) = B at *
            have HA := Lib.hid HA2
            clear HA2 htk
            rcases B with _ | _
            all_goals
              go_wp2_with (first
                | (go_at_call 16; refine (HA.out _).mono ?_; rintro e w' ⟨rfl, rfl⟩)
                | (go_at_call 18; refine (keep_autos _).mono ?_; rintro e w' ⟨rfl, rfl⟩)
                | (go_at_call 22; refine (keep_decodes _).mono ?_; rintro e w2 ⟨rfl, hb2⟩))
              go_ret
              exact ⟨rfl, hb1.trans (hb2.mono hb1.size)⟩
    · have hko : a0 < 1 ∨ 6 < a0 := by omega
      have hcall : ∀ W, Calls Try.prog 21 #[.int .i64 a0, .string a1] W fun e' w' => (∃ a c, e' = .returned (.tuple #[.slice a 0 c, .int .i64 2])) ∧ Below W.heap.size W w' := by
        intro W
        refine (whole_kind a0 a1 hko W).mono ?_
        rintro e' w' ⟨v, rfl, hi, hb⟩
        refine ⟨?_, hb⟩
        rcases hi.2 with ⟨rfl, _⟩ | ⟨g, cap, cur, rfl, _⟩
        · exact ⟨none, 0, rfl⟩
        · exact ⟨_, cap, rfl⟩
      rw [accepts_kind hko] at hacc
      have HD := Lib.hid hcall
      have HA := Lib.hid hacc
      clear hcall hacc hin hie hko
      go_enter Try.func6, Try.ntmps6
      go_wp2_with (go_at_call 21; refine (HD.out _).mono ?_; rintro e w1 ⟨⟨a, c, rfl⟩, hb1⟩)
      refine wp_loop_rounds 1 ?_
      rw [rounds_succ]
      go_wp2_with (first
        | (go_at_call 16; refine (HA.out _).mono ?_; rintro e w' ⟨rfl, rfl⟩)
        | (go_at_call 18; refine (keep_autos _).mono ?_; rintro e w' ⟨rfl, rfl⟩)
        | (go_at_call 22; refine (keep_decodes _).mono ?_; rintro e w2 ⟨rfl, hb2⟩))
      go_ret
      exact ⟨rfl, hb1.trans (hb2.mono hb1.size)⟩

set_option maxRecDepth 100000 in
theorem lifted (os : Os) (started : os.Started) (H : Type) (enc : TypeId × Value → H) :
    ReturnsInHanded {} Try.checked os 6 .any (Rows.autoDecodesSpec.pre6 enc Try.prog Try.f6 Rows.autoDecodesRow.domain false) (Rows.autoDecodesSpec.post enc Try.prog Try.f6 false true false false) := by
  refine returnsInHanded_of_change (C := Try.checked) own started (by kernel_rfl) Try.func6
    (ChangeSpec.witness6 (enc := enc) (C := Try.checked) false ⟨#[], #[.int .i64 0, .string ByteArray.empty], []⟩ 8 (by kernel_rfl) (by kernel_rfl) (by kernel_rfl) (by kernel_rfl)) ?_
  intro W base args ds gs before hval0 hW hcnd _
  have hval : ∀ (j : Nat) t v, Try.f6.params[j]? = some t → args[j]? = some v → Value.okWide Try.prog W .any base t v := hval0
  have hW' := hW
  obtain ⟨p, q, hA0, hV, rfl, hfz, hnd⟩ := hW
  have hA : DataW.TrodAll enc Try.prog W 0 (fun _ => true) true Try.f6.params.toList args.toList ds p := hA0
  rw [Try.params6] at hA hval
  obtain ⟨v0, vs0, d0, ds0, p0, q0, hargs, rfl, rfl, h0, r0⟩ := trodAll_cons hA
  obtain ⟨v1, vs1, d1, ds1, p1, q1, rfl, rfl, rfl, h1, r1⟩ := trodAll_cons r0
  obtain ⟨rfl, rfl, rfl⟩ := trodAll_nil r1
  obtain rfl : args = #[v0, v1] := by cases args; simp_all
  obtain ⟨rfl, rfl⟩ := trodVars_none hV
  obtain ⟨a0, rfl, rfl, rfl, w0⟩ := open_int Try.underlying3 (hval 0 3 v0 rfl rfl) h0
  obtain ⟨a1, rfl, rfl, rfl, w1⟩ := open_string Try.underlying9 (hval 1 9 v1 rfl rfl) h1
  clear hA0 hval0
  simp only [List.append_nil] at hW'
  refine (walk a0 a1 w0 w1 W).mono fun e W' ⟨he, hg⟩ => ?_
  subst he
  exact ⟨_, rfl, ⟨_, _, _, [], [], [], hW', (trodAll_cons_mk (shut_bool Try.underlying4 _) trodAll_mk0), (trodAll_cons_mk (shut_int Try.underlying3 w0) (trodAll_cons_mk (shut_string Try.underlying9 w1) trodAll_mk0)), rfl, hg.frame _, fun h => by cases h⟩⟩

theorem over : Rows.autoDecodesRow.holds Try.pinned (OpenSpec.ofChange Rows.autoDecodesSpec) :=
  OpenClaim.holds_of_wide 6 Try.f6 rfl rfl rfl rfl rfl rfl rfl ⟨rfl, rfl, rfl, rfl, rfl⟩ rfl rfl rfl rfl rfl (by kernel_rfl) Try.func6 (by kernel_rfl)
    (of_decide_eq_true (by kernel_rfl)) (by unfold Func.isWrapper; first | (rw [if_pos (by decide +kernel)]; kernel_rfl) | (rw [if_neg (by decide +kernel)]; exact ⟨rfl, rfl⟩))
    (fun os started H enc _ => lifted os started H enc)

theorem proved : Rows.AutoDecodesSaid :=
  over
#print axioms proved
end Go.Proofs.Ytefohnbmifblkaa.autoDecodes
