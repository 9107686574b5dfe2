/- In every encoding except UTF-16, letters, digits, punctuation and spaces are decoded to themselves. -/
import Derived.Test.YtefohnbmifblkaaRows
import Derived.WalkKit
import Derived.Test.YtefohnbmifblkaaDecodes
import Derived.Test.YtefohnbmifblkaaAutoC
import Derived.Test.YtefohnbmifblkaaLawsD
import Derived.Test.YtefohnbmifblkaaFew
import Derived.ProofKit
import Derived.OpenShut
import Derived.ShutString
namespace Go.Proofs.Ytefohnbmifblkaa.decodePlain
open Go.ChangeShapes Go.WideShapes Go.ChangeAt Go.RowKit
open Go.ChangeMaps (open_string shut_string)
set_option linter.unusedVariables false      -- a walk need not use every 'w<i>' (that an integer argument fits its kind)

theorem own : ownKnob Try.prog.godebug = none := by kernel_rfl

theorem walk (a0 : Int) (a1 : ByteArray) (w0 : (Lit.int .i64 a0).wf = true) (w1 : a1.size ≤ maxLen) (w : World) :
    Calls Try.prog 11 #[.int .i64 a0, .string a1] w fun e w' => e = .returned (.bool true) ∧ Below w.heap.size w w' := by
  unfold maxLen at w1
  have hset : (∀ j (hj : j < a1.size), j < a1.size → 32 ≤ (a1[j].toNat : Int) ∧ (a1[j].toNat : Int) ≤ 126) → 1 ≤ a0 → a0 ≤ 4 → wholeS a0 (nums a1) = nums a1 := by
    intro h h1 h4
    refine whole_plain h1 h4 _ fun b hb => ?_
    obtain ⟨j, hj, rfl⟩ := List.getElem_of_mem hb
    rw [nums_length] at hj
    rw [nums_get a1 j hj]
    exact h j hj hj
  have HSET := Lib.hid hset
  clear hset
  go_enter Try.func11, Try.ntmps11
  go_wp2_with fail
  go_loop [11] (fun i => ∃ k : Nat, i = .int .i64 k ∧ k ≤ a1.size ∧ ∀ j (hj : j < a1.size), j < k → 32 ≤ (a1[j].toNat : Int) ∧ (a1[j].toNat : Int) ≤ 126) (fun i => a1.size - (intOf i).toNat)
  case atStart => exact ⟨0, rfl, Nat.zero_le _, fun j _ h => absurd h (Nat.not_lt_zero _)⟩
  case round =>
    obtain ⟨k, rfl, hk, hall⟩ := hrel
    have HALL := Lib.hid hall
    clear hall
    by_cases hlt : k < a1.size
    · by_cases hu1 : (a1[k].toNat : Int) < 32
      · go_wp2_with (go_at_call 22; refine (keep_decodes _).mono ?_; rintro e w2 ⟨rfl, hb2⟩)
        go_ret
        exact ⟨rfl, hb2⟩
      · by_cases hu2 : 126 < (a1[k].toNat : Int)
        · go_wp2_with (go_at_call 22; refine (keep_decodes _).mono ?_; rintro e w2 ⟨rfl, hb2⟩)
          go_ret
          exact ⟨rfl, hb2⟩
        · go_wp2_with fail
          go_round
          case rel =>
            refine ⟨k + 1, by go_num, by omega, fun j hj hjk => ?_⟩
            by_cases e : j = k
            · subst e; omega
            · exact HALL.out j hj (by omega)
          case measure => simp [intOf]; omega
    · obtain rfl : k = a1.size := by omega
      by_cases hbig : 4000 < a1.size
      · have hb2 : (4000 : Int) < (a1.size : Int) := by omega
        go_wp2_with (go_at_call 22; refine (keep_decodes _).mono ?_; rintro e w2 ⟨rfl, hb2⟩)
        go_ret
        exact ⟨rfl, hb2⟩
      have hsm : (a1.size : Int) ≤ 4000 := by omega
      by_cases he1 : a0 < 1
      · go_wp2_with (go_at_call 22; refine (keep_decodes _).mono ?_; rintro e w2 ⟨rfl, hb2⟩)
        go_ret
        exact ⟨rfl, hb2⟩
      by_cases he4 : 4 < a0
      · go_wp2_with (go_at_call 22; refine (keep_decodes _).mono ?_; rintro e w2 ⟨rfl, hb2⟩)
        go_ret
        exact ⟨rfl, hb2⟩
      have hcall : ∀ W, Calls Try.prog 21 #[.int .i64 a0, .string a1] W (Post2 (wholeS a0 (nums a1)) 0 W) := fun W => whole_ok a0 (by omega) (by omega) a1 (by omega) W
      rw [HSET.out HALL.out (by omega) (by omega)] at hcall
      have HC := Lib.hid hcall
      clear hcall HSET HALL
      by_cases hne : nums a1 = []
      · have h0 : a1.size = 0 := by rw [← nums_length, hne]; rfl
        have h0' : (a1.size : Int) = 0 := by omega
        have hcall : ∀ W, Calls Try.prog 21 #[.int .i64 a0, .string a1] W fun e' w' => (∃ a c, e' = .returned (.tuple #[.slice a 0 c, .int .i64 0])) ∧ Below W.heap.size W w' := by
          intro W
          have h := HC.out W
          rw [hne] at h
          refine h.mono ?_
          rintro e' w' ⟨v, rfl, hi, hb⟩
          refine ⟨?_, hb⟩
          rcases hi.2 with ⟨rfl, _⟩ | ⟨g, cap, cur, rfl, _⟩
          · exact ⟨none, 0, rfl⟩
          · exact ⟨_, cap, rfl⟩
        have HD := Lib.hid hcall
        clear hcall
        go_wp2_with (go_at_call 21; refine (HD.out _).mono ?_; rintro e w1 ⟨⟨a, c, rfl⟩, hb1⟩)
        refine wp_loop_rounds 1 ?_
        rw [rounds_succ]
        go_wp2_with (go_at_call 22; refine (keep_decodes _).mono ?_; rintro e w2 ⟨rfl, hb2⟩)
        go_ret
        exact ⟨rfl, hb1.trans (hb2.mono hb1.size)⟩
      · have hcall : ∀ W, Calls Try.prog 21 #[.int .i64 a0, .string a1] W fun e' w' => ∃ g c, e' = .returned (.tuple #[.slice (some ⟨g, 0, none⟩) a1.size c, .int .i64 0]) ∧ a1.size ≤ c ∧ c ≤ maxLen
            ∧ (∀ j (hj : j < a1.size), w'.cell? ⟨g, j, none⟩ = some (.int .i64 (a1[j].toNat : Int))) ∧ g < w'.heap.size ∧ Below W.heap.size W w' := by
          intro W
          refine (HC.out W).mono ?_
          rintro e' w' ⟨v, rfl, hi, hb⟩
          obtain ⟨g, cap, rfl, _, hcap, hm, hc⟩ := hi.at hne
          rw [nums_length] at hcap
          refine ⟨g, cap, by rw [nums_length], hcap, hm, fun j hj => ?_, (hi.lt g rfl).2, hb⟩
          rw [hc j (by rw [nums_length]; exact hj), nums_get a1 j hj]
        have HD := Lib.hid hcall
        clear hcall
        go_wp2_with (go_at_call 21; refine (HD.out _).mono ?_; rintro e w1 ⟨g, c, rfl, hc1, hc2, hcells, hgl, hb1⟩; have HX := Lib.hid hcells; clear hcells)
        go_loopw [55] (fun i wr => ∃ k : Nat, i = .int .i64 k ∧ k ≤ a1.size ∧ Below w1.heap.size w1 wr) (fun i _ => a1.size - (intOf i).toNat)
        case atStart => exact ⟨0, rfl, Nat.zero_le _, Below.refl _ _⟩
        case round =>
          obtain ⟨k, rfl, hk, hb⟩ := hrel
          by_cases hlt : k < a1.size
          · have ha : wr.cell? ⟨g, k, none⟩ = some (.int .i64 (a1[k].toNat : Int)) := (hb.cell (p := ⟨g, k, none⟩) hgl).trans (HX.out k hlt)
            have hki : (k : Int) < (a1.size : Int) := by omega
            have hwb := wrap64_byte a1[k]
            have hwc : IntKind.i64.wrap (a1[k].toNat : Int) = (a1[k].toNat : Int) := wraps_i64 _ (by omega) (by have := byte_le a1[k]; omega)
            go_wp2_with fail
            go_quiet (fail)
            go_wp2_with fail
            go_roundw
            case rel => exact ⟨k + 1, by go_num, by omega, ⟨hb.os, hb.tape, hb.output, hb.size, hb.block⟩⟩
            case measure => simp [intOf]; omega
          · obtain rfl : k = a1.size := by omega
            go_wp2_with (go_at_call 22; refine (keep_decodes _).mono ?_; rintro e w2 ⟨rfl, hb2⟩)
            go_ret
            exact ⟨rfl, (hb1.trans (hb.mono hb1.size)).trans (hb2.mono (Nat.le_trans hb1.size hb.size))⟩

set_option maxRecDepth 100000 in
theorem lifted (os : Os) (started : os.Started) (H : Type) (enc : TypeId × Value → H) :
    ReturnsInHanded {} Try.checked os 11 .any (Rows.decodePlainSpec.pre6 enc Try.prog Try.f11 Rows.decodePlainRow.domain false) (Rows.decodePlainSpec.post enc Try.prog Try.f11 false true false false) := by
  refine returnsInHanded_of_change (C := Try.checked) own started (by kernel_rfl) Try.func11
    (ChangeSpec.witness6 (enc := enc) (C := Try.checked) false ⟨#[], #[.int .i64 0, .string ByteArray.empty], []⟩ 8 (by kernel_rfl) (by kernel_rfl) (by kernel_rfl) (by kernel_rfl)) ?_
  intro W base args ds gs before hval0 hW hcnd _
  have hval : ∀ (j : Nat) t v, Try.f11.params[j]? = some t → args[j]? = some v → Value.okWide Try.prog W .any base t v := hval0
  have hW' := hW
  obtain ⟨p, q, hA0, hV, rfl, hfz, hnd⟩ := hW
  have hA : DataW.TrodAll enc Try.prog W 0 (fun _ => true) true Try.f11.params.toList args.toList ds p := hA0
  rw [Try.params11] at hA hval
  obtain ⟨v0, vs0, d0, ds0, p0, q0, hargs, rfl, rfl, h0, r0⟩ := trodAll_cons hA
  obtain ⟨v1, vs1, d1, ds1, p1, q1, rfl, rfl, rfl, h1, r1⟩ := trodAll_cons r0
  obtain ⟨rfl, rfl, rfl⟩ := trodAll_nil r1
  obtain rfl : args = #[v0, v1] := by cases args; simp_all
  obtain ⟨rfl, rfl⟩ := trodVars_none hV
  obtain ⟨a0, rfl, rfl, rfl, w0⟩ := open_int Try.underlying3 (hval 0 3 v0 rfl rfl) h0
  obtain ⟨a1, rfl, rfl, rfl, w1⟩ := open_string Try.underlying9 (hval 1 9 v1 rfl rfl) h1
  clear hA0 hval0
  simp only [List.append_nil] at hW'
  refine (walk a0 a1 w0 w1 W).mono fun e W' ⟨he, hg⟩ => ?_
  subst he
  exact ⟨_, rfl, ⟨_, _, _, [], [], [], hW', (trodAll_cons_mk (shut_bool Try.underlying4 _) trodAll_mk0), (trodAll_cons_mk (shut_int Try.underlying3 w0) (trodAll_cons_mk (shut_string Try.underlying9 w1) trodAll_mk0)), rfl, hg.frame _, fun h => by cases h⟩⟩

theorem over : Rows.decodePlainRow.holds Try.pinned (OpenSpec.ofChange Rows.decodePlainSpec) :=
  OpenClaim.holds_of_wide 11 Try.f11 rfl rfl rfl rfl rfl rfl rfl ⟨rfl, rfl, rfl, rfl, rfl⟩ rfl rfl rfl rfl rfl (by kernel_rfl) Try.func11 (by kernel_rfl)
    (of_decide_eq_true (by kernel_rfl)) (by unfold Func.isWrapper; first | (rw [if_pos (by decide +kernel)]; kernel_rfl) | (rw [if_neg (by decide +kernel)]; exact ⟨rfl, rfl⟩))
    (fun os started H enc _ => lifted os started H enc)

theorem proved : Rows.DecodePlainSaid :=
  over
#print axioms proved
end Go.Proofs.Ytefohnbmifblkaa.decodePlain
