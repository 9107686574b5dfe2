/- The law AutoNever returns true: for every integer e and all strings s and t within the form's reach. -/
import Derived.Test.YtefohnbmifblkaaRows
import Derived.WalkKit
import Derived.Test.YtefohnbmifblkaaAutoC
import Derived.ProofKit
import Derived.SizedLaws
import Derived.OpenShut
import Derived.ShutString
namespace Go.Proofs.Ytefohnbmifblkaa.autoNever
open Go.ChangeShapes Go.WideShapes Go.ChangeAt Go.RowKit
open Go.ChangeMaps (open_string shut_string)
set_option linter.unusedVariables false      -- a walk need not use every 'w<i>' (that an integer argument fits its kind)

theorem own : ownKnob Try.prog.godebug = none := by kernel_rfl

theorem walk (a0 : Int) (a1 : ByteArray) (a2 : ByteArray) (w0 : (Lit.int .i64 a0).wf = true) (w1 : a1.size ≤ reachBytes) (w2 : a2.size ≤ reachBytes) (w : World) :
    Calls Try.prog 4 #[.int .i64 a0, .string a1, .string a2] w fun e w' => e = .returned (.bool true) ∧ Grown w w' := by
  unfold reachBytes at w1 w2
  have hin : inF a0 = 0 ∨ (1 ≤ a0 ∧ a0 ≤ 6) := by unfold inF; split <;> omega
  have hacc : ∀ (h1 : 1 ≤ a0) (h2 : a0 ≤ 6), acceptsF a0 (nums (a1 ++ a2)) = endsF a0 (autoAll a0 (autoAll a0 0 (nums a1)) (nums a2)) := acceptsF_append a0 a1 a2
  have HACC := Lib.hid hacc
  have HIN := Lib.hid hin
  clear hacc hin
  go_enter Try.func4, Try.ntmps4
  go_wp2
  go_loop [7, 13] (fun x i => ∃ k : Nat, k ≤ a1.size ∧ i = .int .i64 k ∧ x = .int .i64 (autoAll a0 0 ((nums a1).take k))) (fun _ i => a1.size - (intOf i).toNat)
  case atStart => exact ⟨0, Nat.zero_le _, rfl, rfl⟩
  case round =>
    obtain ⟨k, hk, rfl, rfl⟩ := hrel
    by_cases hlt : k < a1.size
    · have HS : Hid (autoAll a0 0 ((nums a1).take (k + 1)) = autoF a0 (autoAll a0 0 ((nums a1).take k)) (a1[k].toNat : Int)) := by
        rw [nums_take a1 k hlt, autoAll_snoc]; trivial
      have hwb := wrap64_byte a1[k]
      go_wp2_with (go_at_call 14; refine (auto_step _ _ _ _).mono ?_; rintro e w' ⟨rfl, rfl⟩)
      go_round
      case rel => exact ⟨k + 1, by omega, by go_num, by rw [HS.out]⟩
      case measure => simp [intOf]; omega
    · obtain rfl : k = a1.size := by omega
      clear hlt
      have hx0 : ∀ l, (nums a1).take a1.size = l → l = nums a1 := fun l h => by rw [← h, nums_all]
      have HX := Lib.hid hx0
      clear hx0
      go_wp2
      go_loop [7, 26] (fun x i => ∃ k : Nat, k ≤ a2.size ∧ i = .int .i64 k ∧ x = .int .i64 (autoAll a0 (autoAll a0 0 (nums a1)) ((nums a2).take k))) (fun _ i => a2.size - (intOf i).toNat)
      case atStart => exact ⟨0, Nat.zero_le _, rfl, by rw [nums_all]; rfl⟩
      case round =>
        obtain ⟨k, hk, rfl, rfl⟩ := hrel
        by_cases hlt : k < a2.size
        · have HS : Hid (autoAll a0 (autoAll a0 0 (nums a1)) ((nums a2).take (k + 1)) = autoF a0 (autoAll a0 (autoAll a0 0 (nums a1)) ((nums a2).take k)) (a2[k].toNat : Int)) := by
            rw [nums_take a2 k hlt, autoAll_snoc]; trivial
          have hwb := wrap64_byte a2[k]
          generalize hX : autoAll a0 (autoAll a0 0 (nums a1)) ((nums a2).take k) = X at *
          have HXX := Lib.hid hX
          clear hX
          have hr := autoF_range a0 X (a2[k].toNat : Int)
          have hn := autoF_never a0 (a2[k].toNat : Int)
          by_cases hX9 : X = 9
          · subst hX9
            go_wp2_with (go_at_call 14; refine (auto_step _ _ _ _).mono ?_; rintro e w' ⟨rfl, rfl⟩)
            go_round
            case rel => exact ⟨k + 1, by omega, by go_num, by rw [HS.out, hn]⟩
            case measure => simp [intOf]; omega
          · clear hn
            go_wp2_with (go_at_call 14; refine (auto_step _ _ _ _).mono ?_; rintro e w' ⟨rfl, rfl⟩)
            go_round
            case rel => exact ⟨k + 1, by omega, by go_num, by rw [HS.out]⟩
            case measure => simp [intOf]; omega
        · obtain rfl : k = a2.size := by omega
          clear hlt
          rcases HIN.out with hin | ⟨h1, h2⟩
          · go_wp2_with (first
              | (go_at_call 15; refine (keep_in _ _).mono ?_; rintro e w' ⟨rfl, rfl⟩)
              | (go_at_call 18; refine (keep_autos _).mono ?_; rintro e w' ⟨rfl, rfl⟩))
            go_ret
            exact ⟨rfl, Grown.refl _⟩
          · have hi : inF a0 = 1 := by unfold inF; rw [if_pos ⟨h1, h2⟩]
            have hac := HACC.out h1 h2
            have hall := nums_all a2
            have hcs : (a1 ++ a2).size ≤ maxLen := by unfold maxLen; simp; omega
            go_wp2_with (first
              | (go_at_call 15; refine (keep_in _ _).mono ?_; rintro e w' ⟨rfl, rfl⟩)
              | (go_at_call 16; refine (auto_accepts _ _ _ hcs).mono ?_; rintro e w' ⟨rfl, rfl⟩)
              | (go_at_call 17; refine (auto_ends _ _ _).mono ?_; rintro e w' ⟨rfl, rfl⟩)
              | (go_at_call 18; refine (keep_autos _).mono ?_; rintro e w' ⟨rfl, rfl⟩))
            go_ret
            exact ⟨rfl, Grown.refl _⟩

set_option maxRecDepth 100000 in
theorem lifted (os : Os) (started : os.Started) (H : Type) (enc : TypeId × Value → H) :
    ReturnsInHanded {} Try.checked os 4 .any (Rows.autoNeverSpec.pre6 enc Try.prog Try.f4 Rows.autoNeverRow.domain false) (Rows.autoNeverSpec.post enc Try.prog Try.f4 false true false false) := by
  refine returnsInHanded_of_change_sized (C := Try.checked) own started (by kernel_rfl) Try.func4
    (ChangeSpec.witness6 (enc := enc) (C := Try.checked) false ⟨#[], #[.int .i64 0, .string ByteArray.empty, .string ByteArray.empty], []⟩ 8 (by kernel_rfl) (by kernel_rfl) (by kernel_rfl) (by kernel_rfl)) ?_
  intro W base args ds gs before hval0 hW hcnd hsz0 _
  have hval : ∀ (j : Nat) t v, Try.f4.params[j]? = some t → args[j]? = some v → Value.okWide Try.prog W .any base t v := hval0
  have hW' := hW
  obtain ⟨p, q, hA0, hV, rfl, hfz, hnd⟩ := hW
  have hA : DataW.TrodAll enc Try.prog W 0 (fun _ => true) true Try.f4.params.toList args.toList ds p := hA0
  have hsz : (DataW.weightsEach Try.prog (Try.f4.params.toList ++ Rows.autoNeverSpec.plain.varTypes Try.prog) (ds ++ gs)).all (· ≤ reachBytes) = true := hsz0
  clear hsz0
  rw [Try.params4] at hA hval hsz
  obtain ⟨v0, vs0, d0, ds0, p0, q0, hargs, rfl, rfl, h0, r0⟩ := trodAll_cons hA
  obtain ⟨v1, vs1, d1, ds1, p1, q1, rfl, rfl, rfl, h1, r1⟩ := trodAll_cons r0
  obtain ⟨v2, vs2, d2, ds2, p2, q2, rfl, rfl, rfl, h2, r2⟩ := trodAll_cons r1
  obtain ⟨rfl, rfl, rfl⟩ := trodAll_nil r2
  obtain rfl : args = #[v0, v1, v2] := by cases args; simp_all
  obtain ⟨rfl, rfl⟩ := trodVars_none hV
  obtain ⟨a0, rfl, rfl, rfl, w0⟩ := open_int Try.underlying3 (hval 0 3 v0 rfl rfl) h0
  obtain ⟨a1, rfl, rfl, rfl, w1⟩ := open_string Try.underlying9 (hval 1 9 v1 rfl rfl) h1
  obtain ⟨a2, rfl, rfl, rfl, w2⟩ := open_string Try.underlying9 (hval 2 9 v2 rfl rfl) h2
  have r1 : a1.size ≤ reachBytes := by have := sized_string hsz (j := 1) rfl rfl; simpa using this
  have r2 : a2.size ≤ reachBytes := by have := sized_string hsz (j := 2) rfl rfl; simpa using this
  clear hA0 hval0
  simp only [List.append_nil] at hW'
  refine (walk a0 a1 a2 w0 r1 r2 W).mono fun e W' ⟨he, hg⟩ => ?_
  subst he
  exact ⟨_, rfl, post_of_same (pa := []) (pv := []) hW' (fun _ _ _ => (trodAll_cons_mk (shut_bool Try.underlying4 _) trodAll_mk0)) (fun sp _ => (trodAll_cons_mk (shut_int Try.underlying3 w0) (trodAll_cons_mk (shut_string Try.underlying9 w1) (trodAll_cons_mk (shut_string Try.underlying9 w2) trodAll_mk0)))) (fun _ _ => rfl) rfl
    (hg.frame _) hg.2.1 (ok_one (by kernel_rfl) rfl (okWide_bool_mk Try.underlying4 _))⟩

theorem over : Rows.autoNeverRow.holds Try.pinned (OpenSpec.ofChange Rows.autoNeverSpec) :=
  OpenClaim.holds_of_wide 4 Try.f4 rfl rfl rfl rfl rfl rfl rfl ⟨rfl, rfl, rfl, rfl, rfl⟩ rfl rfl rfl rfl rfl (by kernel_rfl) Try.func4 (by kernel_rfl)
    (of_decide_eq_true (by kernel_rfl)) (by unfold Func.isWrapper; first | (rw [if_pos (by decide +kernel)]; kernel_rfl) | (rw [if_neg (by decide +kernel)]; exact ⟨rfl, rfl⟩))
    (fun os started H enc _ => lifted os started H enc)

theorem proved : Rows.AutoNeverSaid :=
  over
#print axioms proved
end Go.Proofs.Ytefohnbmifblkaa.autoNever
