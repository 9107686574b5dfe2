/- For every encoding, decoding bytes in two parts gives the output of decoding them at once. -/
import Derived.Test.YtefohnbmifblkaaRows
import Derived.WalkKit
import Derived.Test.YtefohnbmifblkaaParts
import Derived.Test.YtefohnbmifblkaaFew
import Derived.ProofKit
import Derived.OpenShut
import Derived.ShutString
namespace Go.Proofs.Ytefohnbmifblkaa.decodeParts
open Go.ChangeShapes Go.WideShapes Go.ChangeAt Go.RowKit
open Go.ChangeMaps (open_string shut_string)
set_option linter.unusedVariables false      -- a walk need not use every 'w<i>' (that an integer argument fits its kind)

theorem own : ownKnob Try.prog.godebug = none := by kernel_rfl

set_option maxRecDepth 100000 in
set_option maxHeartbeats 4000000 in
theorem walk (a0 : Int) (a1 : ByteArray) (a2 : Int) (w0 : (Lit.int .i64 a0).wf = true) (w1 : a1.size ≤ maxLen) (w2 : (Lit.int .i64 a2).wf = true) (w : World) :
    Calls Try.prog 10 #[.int .i64 a0, .string a1, .int .i64 a2] w fun e w' => e = .returned (.bool true) ∧ Below w.heap.size w w' := by
  have hin : a0 < 1 ∨ 6 < a0 ∨ (1 ≤ a0 ∧ a0 ≤ 6) := by omega
  by_cases hbig : 4000 < a1.size
  · have hb2 : (4000 : Int) < (a1.size : Int) := by omega
    go_enter Try.func10, Try.ntmps10
    go_wp2_with (first
      | (go_at_call 15; refine (keep_in _ _).mono ?_; rintro e w' ⟨rfl, rfl⟩)
      | (go_at_call 22; refine (keep_decodes _).mono ?_; rintro e w1 ⟨rfl, hb⟩))
    go_ret
    exact ⟨rfl, hb⟩
  have hsm : (a1.size : Int) ≤ 4000 := by omega
  by_cases hie : 1 ≤ a0 ∧ a0 ≤ 6
  rotate_left
  · have hi0 : inF a0 = 0 := by unfold inF; rw [if_neg hie]
    clear hin hie
    go_enter Try.func10, Try.ntmps10
    go_wp2_with (first
      | (go_at_call 15; refine (keep_in _ _).mono ?_; rintro e w' ⟨rfl, rfl⟩)
      | (go_at_call 22; refine (keep_decodes _).mono ?_; rintro e w1 ⟨rfl, hb⟩))
    go_ret
    exact ⟨rfl, hb⟩
  obtain ⟨he1, he6⟩ := hie
  have hi0 : inF a0 = 1 := by unfold inF; rw [if_pos ⟨he1, he6⟩]
  have hpick : ∀ W, Calls Try.prog 37 #[.int .i64 a2, .int .i64 ((a1.size : Int) + 1)] W fun e' w' => (∃ j : Nat, e' = .returned (.int .i64 (j : Int)) ∧ j ≤ a1.size) ∧ W = w' := by
    intro W
    refine (keep_pick a2 ((a1.size : Int) + 1) w2 (by omega) (by omega) W).mono ?_
    rintro e' w' ⟨⟨j, rfl, hj⟩, rfl⟩
    exact ⟨⟨j, rfl, by omega⟩, rfl⟩
  have hrest : ∀ j : Nat, j ≤ a1.size → ∃ (p q : St × List Int) (zs : List Int),
      (∀ W, Calls Try.prog 33 #[.int .i64 a0, .agg #[.int .i64 0, .int .i64 0, .int .i64 0, .int .i64 0, .string ⟨#[]⟩, .int .i64 0, .int .i64 0], .string (a1.extract 0 j)] W (PostF p W)) ∧
      (∀ W, Calls Try.prog 33 #[.int .i64 a0, .agg #[.int .i64 p.1.need, .int .i64 p.1.code, .int .i64 p.1.frm, .int .i64 p.1.upto, .string (strOfNums p.1.kept), .int .i64 p.1.half, .int .i64 p.1.mode], .string (a1.extract j a1.size)] W (PostF q W)) ∧
      (∀ W, Calls Try.prog 34 #[.int .i64 a0, .agg #[.int .i64 q.1.need, .int .i64 q.1.code, .int .i64 q.1.frm, .int .i64 q.1.upto, .string (strOfNums q.1.kept), .int .i64 q.1.half, .int .i64 q.1.mode]] W (Post2 zs 0 W)) ∧
      (∀ W, Calls Try.prog 21 #[.int .i64 a0, .string a1] W (Post2 ((p.2 ++ q.2) ++ zs) 0 W)) ∧
      (∀ W, Calls Try.prog 36 #[.int .i64 a0, .agg #[.int .i64 p.1.need, .int .i64 p.1.code, .int .i64 p.1.frm, .int .i64 p.1.upto, .string (strOfNums p.1.kept), .int .i64 p.1.half, .int .i64 p.1.mode]] W fun e' w' => e' = .returned (.bool true) ∧ w' = W.alloc (.cells p.1.cells 36)) ∧
      p.2.length ≤ 24000 ∧ q.2.length ≤ 24000 ∧ zs.length ≤ 2 := by
    intro j hj
    have hz1 : (a1.extract 0 j).size ≤ 4000 := by simp; omega
    have hz2 : (a1.extract j a1.size).size ≤ 4000 := by simp; omega
    have ho1 : okS a0 (feedS a0 {} (nums (a1.extract 0 j))).1 := feed_okS he1 he6 (ok_init a0 he1 he6) _ (by rw [← nums_all]; exact nums_bytes _ _)
    have ho2 : okS a0 (feedS a0 (feedS a0 {} (nums (a1.extract 0 j))).1 (nums (a1.extract j a1.size))).1 := feed_okS he1 he6 ho1 _ (by rw [← nums_all]; exact nums_bytes _ _)
    refine ⟨feedS a0 {} (nums (a1.extract 0 j)), feedS a0 (feedS a0 {} (nums (a1.extract 0 j))).1 (nums (a1.extract j a1.size)), endS (feedS a0 (feedS a0 {} (nums (a1.extract 0 j))).1 (nums (a1.extract j a1.size))).1, ?_, ?_, ?_, ?_, ?_, ?_, ?_, ?_⟩
    · exact fun W => feed_any a0 he1 he6 {} _ hz1 (ok_init a0 he1 he6) W
    · exact fun W => feed_any a0 he1 he6 _ _ hz2 ho1 W
    · exact fun W => end_ok a0 he1 he6 _ ho2 W
    · intro W
      have h := whole_ok a0 he1 he6 a1 (by omega) W
      rw [whole_parts a0 (nums a1) j, ← nums_front, ← nums_behind] at h
      exact h
    · intro W
      have h := good_st a0 _ ho1.2 W
      rw [ho1.1] at h
      exact h
    · exact feed_lens _ _ _ (by rw [nums_length]; exact hz1)
    · exact feed_lens _ _ _ (by rw [nums_length]; exact hz2)
    · exact end_len _
  have HP := Lib.hid hpick
  have HR := Lib.hid hrest
  clear hpick hrest hin hbig
  go_enter Try.func10, Try.ntmps10
  go_upto_region 4 with (first
    | (go_at_call 15; refine (keep_in _ _).mono ?_; rintro e w' ⟨rfl, rfl⟩)
    | (go_at_call 37; refine (HP.out _).mono ?_; rintro e w' ⟨⟨j, rfl, hj⟩, rfl⟩; obtain ⟨p, q, zs, hc1, hc2, hc3, hc4, hc5, hl1, hl2, hl3⟩ := HR.out j hj; have H1 := Lib.hid hc1; have H2 := Lib.hid hc2; have H3 := Lib.hid hc3; have H4 := Lib.hid hc4; have H5 := Lib.hid hc5; clear hc1 hc2 hc3 hc4 hc5 HR HP))
  go_cut [7, 8, 9] (fun s7 s8 s9 wx => ∃ B1, s7 = .pointer (some ⟨B1, 0, none⟩) ∧ s9 = .int .i64 0 ∧ PartA w p s8 B1 wx)
  case first =>
    go_wp2_with (go_at_call 33; refine (H1.out _).mono ?_; rintro e wa ⟨v1, rfl, hi1, hb1⟩)
    go_meet
    exact ⟨_, rfl, rfl, PartA.start hi1 hb1⟩
  case rest =>
    obtain ⟨B1, rfl, rfl, hA⟩ := hcut
    have hlt := hA.x1.lt
    have hc1 := hA.x1.cell
    have hf1 := hA.x1.frozen
    have hne1 : ¬ B1 = wc.heap.size := by omega
    have hne2 : ¬ wc.heap.size = B1 := by omega
    go_upto_region 5 with fail
    go_cut [10, 11, 12] (fun s10 s11 s12 wx => ∃ B2, s10 = .pointer (some ⟨B2, 0, none⟩) ∧ s12 = .int .i64 0 ∧ PartB w p u8 B1 q s11 B2 wx)
    case first =>
      go_region_with (go_at_call 33; refine (H2.out _).mono ?_; rintro e' w2 ⟨v2, rfl, hi2, hb2⟩; first | (have hz : Box w2 wc.heap.size {} := drew_alloc_box {} rfl hb2; have hzc := hz.cell; have hzf := hz.frozen) | skip)
      all_goals
        go_wp2_with fail
        go_meet
        first
          | (have hz2 := hz; exact ⟨_, rfl, rfl, part_before rfl hA hi2 hb2⟩)
          | exact ⟨_, rfl, rfl, part_behind hA hi2 hb2⟩
    case rest =>
      clear hc1 hf1 hne1 hne2 hlt hA H1 H2
      obtain ⟨B2, rfl, rfl, hB⟩ := hcut
      have hx1 := hB.x2.cell
      have hx2 := hB.x2.frozen
      go_wp2_with (first
        | (go_at_call 34; refine (H3.out _).mono ?_; rintro e w3 ⟨v3, rfl, hi3, hb3⟩)
        | (go_at_call 21; refine (H4.out _).mono ?_; rintro e w4 ⟨v4, rfl, hi4, hb4⟩; have hC := hB.lists hi3 hb3 hi4 hb4; have hBk := (hB.keep hb3).keep hb4; have hk1 := hBk.a.x1.cell; have hk2 := hBk.a.x1.frozen)
        | (go_at_call 36; refine (H5.out _).mono ?_; rintro e w5 ⟨rfl, rfl⟩; have hC2 := hC.alloc (.cells p.1.cells 36); clear hC)
        | (at_builtin; refine wpList_appG rfl _ _ rfl w.heap.size w.heap.size _ _ p.2 q.2 rfl rfl hC2.i1 hC2.i2 (by omega) hC2.below.size ?_; rintro v5 w5 hi5 hg5 ho5; have hD := hC2.app hi5 hg5 ho5; clear hC2 hi5 hg5 ho5)
        | (at_builtin; refine wpList_appG rfl _ _ rfl w.heap.size w.heap.size _ _ (p.2 ++ q.2) zs rfl rfl hD.i5 hD.i3 (by simp; omega) hD.below.size ?_; rintro v6 w6 hi6 hg6 ho6; obtain ⟨hf6, hf4, hfb⟩ := hD.app hi6 hg6; clear hi6 hg6 ho6 hD)
        | (go_at_call 38; refine (keep_same _ _ _ _ _ _ (by simp; omega) hf6 hf4).mono ?_; rintro e w7 ⟨rfl, hb7⟩)
        | (go_at_call 22; refine (keep_decodes _).mono ?_; rintro e w8 ⟨rfl, hb8⟩))
      go_ret
      exact ⟨rfl, (hfb.trans (hb7.mono hfb.size)).trans (hb8.mono (Nat.le_trans hfb.size hb7.size))⟩

set_option maxRecDepth 100000 in
theorem lifted (os : Os) (started : os.Started) (H : Type) (enc : TypeId × Value → H) :
    ReturnsInHanded {} Try.checked os 10 .any (Rows.decodePartsSpec.pre6 enc Try.prog Try.f10 Rows.decodePartsRow.domain false) (Rows.decodePartsSpec.post enc Try.prog Try.f10 false true false false) := by
  refine returnsInHanded_of_change (C := Try.checked) own started (by kernel_rfl) Try.func10
    (ChangeSpec.witness6 (enc := enc) (C := Try.checked) false ⟨#[], #[.int .i64 0, .string ByteArray.empty, .int .i64 0], []⟩ 8 (by kernel_rfl) (by kernel_rfl) (by kernel_rfl) (by kernel_rfl)) ?_
  intro W base args ds gs before hval0 hW hcnd _
  have hval : ∀ (j : Nat) t v, Try.f10.params[j]? = some t → args[j]? = some v → Value.okWide Try.prog W .any base t v := hval0
  have hW' := hW
  obtain ⟨p, q, hA0, hV, rfl, hfz, hnd⟩ := hW
  have hA : DataW.TrodAll enc Try.prog W 0 (fun _ => true) true Try.f10.params.toList args.toList ds p := hA0
  rw [Try.params10] at hA hval
  obtain ⟨v0, vs0, d0, ds0, p0, q0, hargs, rfl, rfl, h0, r0⟩ := trodAll_cons hA
  obtain ⟨v1, vs1, d1, ds1, p1, q1, rfl, rfl, rfl, h1, r1⟩ := trodAll_cons r0
  obtain ⟨v2, vs2, d2, ds2, p2, q2, rfl, rfl, rfl, h2, r2⟩ := trodAll_cons r1
  obtain ⟨rfl, rfl, rfl⟩ := trodAll_nil r2
  obtain rfl : args = #[v0, v1, v2] := by cases args; simp_all
  obtain ⟨rfl, rfl⟩ := trodVars_none hV
  obtain ⟨a0, rfl, rfl, rfl, w0⟩ := open_int Try.underlying3 (hval 0 3 v0 rfl rfl) h0
  obtain ⟨a1, rfl, rfl, rfl, w1⟩ := open_string Try.underlying9 (hval 1 9 v1 rfl rfl) h1
  obtain ⟨a2, rfl, rfl, rfl, w2⟩ := open_int Try.underlying3 (hval 2 3 v2 rfl rfl) h2
  clear hA0 hval0
  simp only [List.append_nil] at hW'
  refine (walk a0 a1 a2 w0 w1 w2 W).mono fun e W' ⟨he, hg⟩ => ?_
  subst he
  exact ⟨_, rfl, ⟨_, _, _, [], [], [], hW', (trodAll_cons_mk (shut_bool Try.underlying4 _) trodAll_mk0), (trodAll_cons_mk (shut_int Try.underlying3 w0) (trodAll_cons_mk (shut_string Try.underlying9 w1) (trodAll_cons_mk (shut_int Try.underlying3 w2) trodAll_mk0))), rfl, hg.frame _, fun h => by cases h⟩⟩

theorem over : Rows.decodePartsRow.holds Try.pinned (OpenSpec.ofChange Rows.decodePartsSpec) :=
  OpenClaim.holds_of_wide 10 Try.f10 rfl rfl rfl rfl rfl rfl rfl ⟨rfl, rfl, rfl, rfl, rfl⟩ rfl rfl rfl rfl rfl (by kernel_rfl) Try.func10 (by kernel_rfl)
    (of_decide_eq_true (by kernel_rfl)) (by unfold Func.isWrapper; first | (rw [if_pos (by decide +kernel)]; kernel_rfl) | (rw [if_neg (by decide +kernel)]; exact ⟨rfl, rfl⟩))
    (fun os started H enc _ => lifted os started H enc)

theorem proved : Rows.DecodePartsSaid :=
  over
#print axioms proved
end Go.Proofs.Ytefohnbmifblkaa.decodeParts
