/- The reference's functions IsRight and right say what Accepts says. -/
import Derived.Test.YtefohnbmifblkaaRefW
import Derived.Test.YtefohnbmifblkaaBad
import Derived.Test.YtefohnbmifblkaaDecodes
import Derived.Test.YtefohnbmifblkaaFew
namespace Go.Proofs.Ytefohnbmifblkaa
open Go.RowKit
set_option linter.unusedVariables false

theorem extract_all (s : ByteArray) : s.extract 0 s.size = s := by simp

theorem whole_noBad (e : Int) (h1 : 1 ≤ e) (h6 : e ≤ 6) (s : ByteArray) : acceptsF e (nums s) = !decide (-1 ∈ wholeS e (nums s)) := by
  rw [accepts_whole h1 h6 _ (nums_range s)]; simp

/-- A list as a call's result: empty. -/
theorem list_nil {W : World} {b : Nat} {v : Value} (h : Ints W b v []) : ∃ a c, v = .slice a 0 c := by
  rcases h.2 with ⟨rfl, _⟩ | ⟨g, cap, cur, rfl, _⟩
  · exact ⟨none, 0, rfl⟩
  · exact ⟨_, cap, rfl⟩
/-- A list as a call's result: of one number. -/
theorem list_one {W : World} {b : Nat} {v : Value} {x : Int} (h : Ints W b v [x]) : ∃ g c, v = .slice (some ⟨g, 0, none⟩) 1 c ∧ 1 ≤ c ∧ c ≤ maxLen ∧ W.cell? ⟨g, 0, none⟩ = some (.int .i64 x) := by
  obtain ⟨g, cap, rfl, _, hcap, hm, hc⟩ := h.at (by simp)
  exact ⟨g, cap, rfl, hcap, hm, hc 0 (by simp)⟩

set_option maxRecDepth 100000 in
set_option maxHeartbeats 2000000 in
theorem ref_right (e : Int) (he1 : 1 ≤ e) (he6 : e ≤ 6) (s : ByteArray) (hs : s.size ≤ 4000) (w : World) :
    Calls Try.prog 50 #[.int .i64 e, .string s] w fun e' w' => e' = .returned (.bool (acceptsF e (nums s))) ∧ Below w.heap.size w w' := by
  rw [whole_noBad e he1 he6]
  have hsz : (s.size : Int) ≤ 4000 := by omega
  generalize hA : wholeS e (nums s) = R
  have HA := Lib.hid hA
  clear hA
  go_enter Try.func50, Try.ntmps50
  go_wp2_with fail
  go_loopw [1, 5] (fun sv mv wr => ∃ (t : ByteArray) (m : Int) (out : List Int), sv = .string t ∧ mv = .int .i64 m ∧ t.size ≤ s.size ∧ modeOk e m ∧ out ++ fromS e (mst m) (nums t) = R ∧ -1 ∉ out ∧
    Below w.heap.size w wr) (fun sv _ _ => strLen sv)
  case atStart => exact ⟨s, 0, [], rfl, rfl, Nat.le_refl _, Or.inl rfl, by rw [← HA.out]; rfl, by simp, Below.refl _ _⟩
  case round =>
    obtain ⟨t, m, out, rfl, rfl, ht, hm, hout, hbad, hb⟩ := hrel
    by_cases h0 : t.size = 0
    · obtain rfl := empty_str h0
      have hn : nums ⟨#[]⟩ = [] := rfl
      have hR : R = out := by rw [← hout, hn, from_nil]; simp [endS]
      subst hR
      have hd : (!decide (-1 ∈ R)) = true := by simp [hbad]
      go_wp2_with fail
      go_ret
      exact ⟨ret_bool hd.symm, hb⟩
    · obtain ⟨o, n, next, hcall, hn1, hn2, hmn, hol, hfr⟩ := piece_of e he1 he6 t (by omega) (by unfold maxLen; omega) m hm
      have hne : ¬ t.toList = [] := fun h => h0 (by rw [size_toList, h]; rfl)
      have hne2 : (t.toList == []) = false := by simpa using hne
      rw [hfr, ← List.append_assoc] at hout
      have hn3 : (n : Int) ≤ (t.size : Int) := by omega
      match o, hol with
      | [], _ =>
        have hc2 : ∀ W, Calls Try.prog 56 #[.int .i64 e, .string t, .int .i64 m] W fun e' w' =>
            (∃ a c, e' = .returned (.tuple #[.slice a 0 c, .int .i64 (n : Int), .int .i64 next])) ∧ Below W.heap.size W w' := by
          intro W
          refine (hcall W).mono ?_
          rintro e' w' ⟨v, rfl, hi, hb⟩
          obtain ⟨a, c, rfl⟩ := list_nil hi
          exact ⟨⟨a, c, rfl⟩, hb⟩
        have HC := Lib.hid hc2
        have HO := Lib.hid hout
        clear hcall hc2 hout hfr
        go_wp2_with (go_at_call 56; refine (HC.out _).mono ?_; rintro e' w1 ⟨⟨a, c, rfl⟩, hb1⟩)
        refine wp_loop_rounds 1 ?_
        rw [rounds_succ]
        go_wp2_with fail
        go_roundw
        case rel => exact ⟨t.extract n t.size, next, out ++ [], by go_num, rfl, by simp; omega, hmn, HO.out, by simpa using hbad, hb.trans (hb1.mono hb.size)⟩
        case measure => simp [strLen]; omega
      | [x], _ =>
        have hc2 : ∀ W, Calls Try.prog 56 #[.int .i64 e, .string t, .int .i64 m] W fun e' w' =>
            (∃ g c, e' = .returned (.tuple #[.slice (some ⟨g, 0, none⟩) 1 c, .int .i64 (n : Int), .int .i64 next]) ∧ 1 ≤ c ∧ c ≤ maxLen ∧ w'.cell? ⟨g, 0, none⟩ = some (.int .i64 x)) ∧ Below W.heap.size W w' := by
          intro W
          refine (hcall W).mono ?_
          rintro e' w' ⟨v, rfl, hi, hb⟩
          obtain ⟨g, c, rfl, h1, h2, h3⟩ := list_one hi
          exact ⟨⟨g, c, rfl, h1, h2, h3⟩, hb⟩
        have HC := Lib.hid hc2
        by_cases hx : x = -1
        · subst hx
          have hd : (!decide (-1 ∈ R)) = false := by rw [← hout]; simp
          clear hcall hc2 hout hfr
          go_wp2_with (go_at_call 56; refine (HC.out _).mono ?_; rintro e' w1 ⟨⟨g, c, rfl, hc1, hc2, hcx⟩, hb1⟩)
          refine wp_loop_rounds 2 ?_
          rw [rounds_succ]
          go_wp2_with fail
          go_ret
          exact ⟨ret_bool hd.symm, hb.trans (hb1.mono hb.size)⟩
        · have HO := Lib.hid hout
          have hx2 : (x == -1) = false := beq_eq_false_iff_ne.2 hx
          clear hcall hc2 hout hfr
          go_wp2_with (go_at_call 56; refine (HC.out _).mono ?_; rintro e' w1 ⟨⟨g, c, rfl, hc1, hc2, hcx⟩, hb1⟩)
          refine wp_loop_rounds 2 ?_
          rw [rounds_succ]
          go_wp2_with fail
          rw [rounds_succ]
          go_wp2_with fail
          go_roundw
          case rel => exact ⟨t.extract n t.size, next, out ++ [x], by go_num, rfl, by simp; omega, hmn, HO.out, by simp [hbad]; omega, hb.trans (hb1.mono hb.size)⟩
          case measure => simp [strLen]; omega

set_option maxRecDepth 100000 in
set_option maxHeartbeats 2000000 in
theorem ref_isRight (e : Int) (s : ByteArray) (hs : s.size ≤ 4000) (w : World) :
    Calls Try.prog 20 #[.int .i64 e, .string s] w fun e' w' => e' = .returned (.bool (acceptsF e (nums s))) ∧ Below w.heap.size w w' := by
  have hsz : (s.size : Int) ≤ 4000 := by omega
  have hmin : min (s.size : Int) 4000 = (s.size : Int) := by omega
  have hmin2 : ¬ (4000 : Int) < (s.size : Int) := by omega
  have hex := extract_all s
  by_cases hie : 1 ≤ e ∧ e ≤ 6
  · obtain ⟨he1, he6⟩ := hie
    rw [whole_noBad e he1 he6]
    have hw : ∀ W, Calls Try.prog 46 #[.int .i64 e, .string s] W (Post2 (wholeS e (nums s)) 0 W) := fun W => ref_whole e he1 he6 s hs W
    generalize wholeS e (nums s) = xs at *
    by_cases hne : xs = []
    · subst hne
      have hc2 : ∀ W, Calls Try.prog 46 #[.int .i64 e, .string s] W fun e' w' => (∃ a c, e' = .returned (.tuple #[.slice a 0 c, .int .i64 0])) ∧ Below W.heap.size W w' := by
        intro W
        refine (hw W).mono ?_
        rintro e' w' ⟨v, rfl, hi, hb⟩
        obtain ⟨a, c, rfl⟩ := list_nil hi
        exact ⟨⟨a, c, rfl⟩, hb⟩
      have HC := Lib.hid hc2
      clear hw hc2
      go_enter Try.func20, Try.ntmps20
      go_wp2_with (go_at_call 46; refine (HC.out _).mono ?_; rintro e' w1 ⟨⟨a, c, rfl⟩, hb1⟩)
      refine wp_loop_rounds 1 ?_
      rw [rounds_succ]
      go_wp2_with fail
      go_ret
      exact ⟨ret_bool (by simp), hb1⟩
    · have hc2 : ∀ W, Calls Try.prog 46 #[.int .i64 e, .string s] W fun e' w' => (∃ g c, e' = .returned (.tuple #[.slice (some ⟨g, 0, none⟩) xs.length c, .int .i64 0]) ∧ xs.length ≤ c ∧ c ≤ maxLen
          ∧ (∀ j (hj : j < xs.length), w'.cell? ⟨g, j, none⟩ = some (.int .i64 xs[j]))) ∧ Below W.heap.size W w' := by
        intro W
        refine (hw W).mono ?_
        rintro e' w' ⟨v, rfl, hi, hb⟩
        obtain ⟨g, cap, rfl, _, hcap, hm, hc⟩ := hi.at hne
        exact ⟨⟨g, cap, rfl, hcap, hm, hc⟩, hb⟩
      have HC := Lib.hid hc2
      clear hw hc2
      go_enter Try.func20, Try.ntmps20
      go_wp2_with (go_at_call 46; refine (HC.out _).mono ?_; rintro e' w1 ⟨⟨g, c, rfl, hc1, hc2, hcells⟩, hb1⟩; unfold maxLen at hc2; have HX := Lib.hid hcells; clear hcells)
      go_loop [21] (fun i => ∃ k : Nat, i = .int .i64 k ∧ k ≤ xs.length ∧ -1 ∉ xs.take k) (fun i => xs.length - (intOf i).toNat)
      case atStart => exact ⟨0, rfl, Nat.zero_le _, by simp⟩
      case round =>
        obtain ⟨k, rfl, hk, hbad⟩ := hrel
        by_cases hlt : k < xs.length
        · have ha := HX.out k hlt
          have hki : (k : Int) < (xs.length : Int) := by omega
          by_cases hx : xs[k] = -1
          · have hd : (!decide (-1 ∈ xs)) = false := by simp [← hx]
            rw [hx] at ha
            go_wp2_with fail
            go_ret
            first | exact ⟨rfl, hb1⟩ | exact ⟨ret_bool hd.symm, hb1⟩
          · have hst : -1 ∉ xs.take (k + 1) := by
              have := bad_snoc xs k hlt
              simp only [hx, decide_false, Bool.or_false] at this
              rw [decide_eq_decide] at this
              exact fun h => hbad (this.1 h)
            generalize xs[k] = x at *
            have hx2 : (x == -1) = false := beq_eq_false_iff_ne.2 hx
            go_wp2_with fail
            go_round
            case rel => first | exact ⟨k + 1, by go_num, by omega, hst⟩ | ((repeat apply Exists.intro); refine ⟨?_, rfl, rfl, rfl⟩; exact ⟨k + 1, by go_num, by omega, hst⟩)
            case measure => simp [intOf]; omega
        · obtain rfl : k = xs.length := by omega
          rw [List.take_length] at hbad
          have hd : (!decide (-1 ∈ xs)) = true := by simp [hbad]
          go_wp2_with fail
          go_ret
          first | exact ⟨rfl, hb1⟩ | exact ⟨ret_bool hd.symm, hb1⟩
  · have hko : e < 1 ∨ 6 < e := by omega
    rw [accepts_kind hko]
    have hc2 : ∀ W, Calls Try.prog 46 #[.int .i64 e, .string s] W fun e' w' => (∃ a c, e' = .returned (.tuple #[.slice a 0 c, .int .i64 2])) ∧ Below W.heap.size W w' := by
      intro W
      refine (ref_whole_kind e s hko W).mono ?_
      rintro e' w' ⟨v, rfl, hi, hb⟩
      obtain ⟨a, c, rfl⟩ := list_nil hi
      exact ⟨⟨a, c, rfl⟩, hb⟩
    have HC := Lib.hid hc2
    clear hc2
    go_enter Try.func20, Try.ntmps20
    go_wp2_with (go_at_call 46; refine (HC.out _).mono ?_; rintro e' w1 ⟨⟨a, c, rfl⟩, hb1⟩)
    refine wp_loop_rounds 1 ?_
    rw [rounds_succ]
    go_wp2_with fail
    go_ret
    exact ⟨rfl, hb1⟩

end Go.Proofs.Ytefohnbmifblkaa
