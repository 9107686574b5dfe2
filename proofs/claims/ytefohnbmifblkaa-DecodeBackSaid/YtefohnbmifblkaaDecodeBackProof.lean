/- Every Unicode scalar, encoded in UTF-8 and in both forms of UTF-16, is decoded to itself. -/
import Derived.Test.YtefohnbmifblkaaRows
import Derived.WalkKit
import Derived.Test.YtefohnbmifblkaaBackW
import Derived.ProofKit
import Derived.OpenShut
import Derived.ShutString
namespace Go.Proofs.Ytefohnbmifblkaa.decodeBack
open Go.ChangeShapes Go.WideShapes Go.ChangeAt Go.RowKit
open Go.ChangeMaps (open_string shut_string)
set_option linter.unusedVariables false      -- a walk need not use every 'w<i>' (that an integer argument fits its kind)

theorem own : ownKnob Try.prog.godebug = none := by kernel_rfl

theorem walk (a0 : Int) (a1 : Bool) (w0 : (Lit.int .i64 a0).wf = true) (w : World) :
    Calls Try.prog 12 #[.int .i64 a0, .bool a1] w fun e w' => e = .returned (.bool true) ∧ Below w.heap.size w w' := by
  by_cases hin : a0 < 0 ∨ 1114111 < a0 ∨ (55296 ≤ a0 ∧ a0 ≤ 57343)
  · have hc : a0 < 0 ∨ (0 ≤ a0 ∧ 1114111 < a0) ∨ (0 ≤ a0 ∧ a0 ≤ 1114111 ∧ 55296 ≤ a0 ∧ a0 ≤ 57343) := by omega
    clear hin
    rcases hc with h | ⟨h, h'⟩ | ⟨h, h', h2, h3⟩
    all_goals
      go_enter Try.func12, Try.ntmps12
      go_wp2_with (go_at_call 22; refine (keep_decodes _).mono ?_; rintro e w1 ⟨rfl, hb⟩)
      go_ret
      exact ⟨rfl, hb⟩
  · have h0 : 0 ≤ a0 := by omega
    have h1 : a0 ≤ 1114111 := by omega
    have h2 : a0 < 55296 ∨ 57343 < a0 := by omega
    clear hin
    have HU := Lib.hid fun W => whole_tells (e := 1) (n := a0) (by omega) (by omega) (utf_length a0) (back_utf h0 h1 h2) (Utf8.encode a0) W (nums_encode h0 h1 h2)
    rcases a1 with _ | _
    · by_cases hp : a0 ≤ 65535
      · have HP := Lib.hid fun t W ht => whole_tells (e := 6) (n := a0) (by omega) (by omega) (l := [a0 / 256, a0 % 256]) (by simp) (back_unit false h2) t W ht
        rcases h2 with h2 | h2
        · exact back_high_a a0 h0 h2 w HU HP
        · exact back_high_b a0 h2 hp w HU HP
      · have HP := Lib.hid fun t W ht => whole_tells (e := 6) (n := a0) (by omega) (by omega)
          (l := [(55296 + (a0 - 65536) / 1024) / 256, (55296 + (a0 - 65536) / 1024) % 256, (56320 + (a0 - 65536) % 1024) / 256, (56320 + (a0 - 65536) % 1024) % 256]) (by simp) (back_pair false (by omega) h1) t W ht
        exact back_high_c a0 (by omega) h1 w HU HP
    · by_cases hp : a0 ≤ 65535
      · have HP := Lib.hid fun t W ht => whole_tells (e := 5) (n := a0) (by omega) (by omega) (l := [a0 % 256, a0 / 256]) (by simp) (back_unit true h2) t W ht
        rcases h2 with h2 | h2
        · exact back_low_a a0 h0 h2 w HU HP
        · exact back_low_b a0 h2 hp w HU HP
      · have HP := Lib.hid fun t W ht => whole_tells (e := 5) (n := a0) (by omega) (by omega)
          (l := [(55296 + (a0 - 65536) / 1024) % 256, (55296 + (a0 - 65536) / 1024) / 256, (56320 + (a0 - 65536) % 1024) % 256, (56320 + (a0 - 65536) % 1024) / 256]) (by simp) (back_pair true (by omega) h1) t W ht
        exact back_low_c a0 (by omega) h1 w HU HP

set_option maxRecDepth 100000 in
theorem lifted (os : Os) (started : os.Started) (H : Type) (enc : TypeId × Value → H) :
    ReturnsInHanded {} Try.checked os 12 .any (Rows.decodeBackSpec.pre6 enc Try.prog Try.f12 Rows.decodeBackRow.domain false) (Rows.decodeBackSpec.post enc Try.prog Try.f12 false true false false) := by
  refine returnsInHanded_of_change (C := Try.checked) own started (by kernel_rfl) Try.func12
    (ChangeSpec.witness6 (enc := enc) (C := Try.checked) false ⟨#[], #[.int .i64 0, .bool false], []⟩ 8 (by kernel_rfl) (by kernel_rfl) (by kernel_rfl) (by kernel_rfl)) ?_
  intro W base args ds gs before hval0 hW hcnd _
  have hval : ∀ (j : Nat) t v, Try.f12.params[j]? = some t → args[j]? = some v → Value.okWide Try.prog W .any base t v := hval0
  have hW' := hW
  obtain ⟨p, q, hA0, hV, rfl, hfz, hnd⟩ := hW
  have hA : DataW.TrodAll enc Try.prog W 0 (fun _ => true) true Try.f12.params.toList args.toList ds p := hA0
  rw [Try.params12] at hA hval
  obtain ⟨v0, vs0, d0, ds0, p0, q0, hargs, rfl, rfl, h0, r0⟩ := trodAll_cons hA
  obtain ⟨v1, vs1, d1, ds1, p1, q1, rfl, rfl, rfl, h1, r1⟩ := trodAll_cons r0
  obtain ⟨rfl, rfl, rfl⟩ := trodAll_nil r1
  obtain rfl : args = #[v0, v1] := by cases args; simp_all
  obtain ⟨rfl, rfl⟩ := trodVars_none hV
  obtain ⟨a0, rfl, rfl, rfl, w0⟩ := open_int Try.underlying3 (hval 0 3 v0 rfl rfl) h0
  obtain ⟨a1, rfl, rfl, rfl⟩ := open_bool Try.underlying4 (hval 1 4 v1 rfl rfl) h1
  clear hA0 hval0
  simp only [List.append_nil] at hW'
  refine (walk a0 a1 w0 W).mono fun e W' ⟨he, hg⟩ => ?_
  subst he
  exact ⟨_, rfl, ⟨_, _, _, [], [], [], hW', (trodAll_cons_mk (shut_bool Try.underlying4 _) trodAll_mk0), (trodAll_cons_mk (shut_int Try.underlying3 w0) (trodAll_cons_mk (shut_bool Try.underlying4 _) trodAll_mk0)), rfl, hg.frame _, fun h => by cases h⟩⟩

theorem over : Rows.decodeBackRow.holds Try.pinned (OpenSpec.ofChange Rows.decodeBackSpec) :=
  OpenClaim.holds_of_wide 12 Try.f12 rfl rfl rfl rfl rfl rfl rfl ⟨rfl, rfl, rfl, rfl, rfl⟩ rfl rfl rfl rfl rfl (by kernel_rfl) Try.func12 (by kernel_rfl)
    (of_decide_eq_true (by kernel_rfl)) (by unfold Func.isWrapper; first | (rw [if_pos (by decide +kernel)]; kernel_rfl) | (rw [if_neg (by decide +kernel)]; exact ⟨rfl, rfl⟩))
    (fun os started H enc _ => lifted os started H enc)

theorem proved : Rows.DecodeBackSaid :=
  over
#print axioms proved
end Go.Proofs.Ytefohnbmifblkaa.decodeBack
