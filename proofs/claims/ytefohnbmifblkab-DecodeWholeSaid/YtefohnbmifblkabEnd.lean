/- What a state tells at the end: the program's function End of package decode computes endS; what Step and End refuse. -/
import Derived.Test.YtefohnbmifblkabStep
namespace Go.Proofs.Ytefohnbmifblkab
open Go.RowKit
set_option linter.unusedVariables false

/-- The end of End and of Whole: a list and an error's number. -/
def Post2 (out : List Int) (code : Int) (w : World) (e : Ending) (w' : World) : Prop :=
  ∃ v, e = .returned (.tuple #[v, .int .i64 code]) ∧ Ints w' w.heap.size v out ∧ Below w.heap.size w w'

theorem heap_third (w : World) (a b c : Obj) : (((w.alloc a).alloc b).alloc c).heap[w.heap.size]? = some a :=
  (heap_old _ _ _ (by simp <;> omega)).trans ((heap_old _ _ _ (by simp)).trans (heap_new _ _ _ rfl))

set_option maxRecDepth 100000 in
set_option maxHeartbeats 1000000 in
theorem end_none (e : Int) (he1 : 1 ≤ e) (he6 : e ≤ 6) (m : Int) (hg : goodS e (St.mk 0 0 0 0 [] 0 m) = true) (w : World) :
    Calls Try.prog 9 #[.int .i64 e, (St.mk 0 0 0 0 [] 0 m).val] w (Post2 [] 0 w) := by
  have ek : strOfNums [] = ⟨#[]⟩ := rfl
  have hgood := fun W => good_st e (St.mk 0 0 0 0 [] 0 m) (by simp) W
  rw [hg] at hgood
  simp only [St.val, St.cells, ek] at hgood
  have HG := Lib.hid hgood
  clear hgood hg
  simp only [St.val, ek]
  all_goals
    go_enter Try.func9, Try.ntmps9
    go_wp2_with (go_at_call 12; refine (HG.out _).mono ?_; rintro e' w' ⟨rfl, rfl⟩)
    refine bodyPost_ret (v := .tuple #[.slice none 0 0, .int .i64 0]) (by simp [results, Try.results9, go_sem]) rfl ⟨_, rfl, ints_nil _ _, ?_⟩
    repeat (first | exact Below.refl _ _ | apply Below.drew | apply below_alloc)

set_option maxRecDepth 100000 in
set_option maxHeartbeats 1000000 in
theorem end_need (e : Int) (he1 : 1 ≤ e) (he6 : e ≤ 6) (n c f t : Int) (hn : 1 ≤ n) (hg : goodS e (St.mk n c f t [] 0 0) = true) (w : World) :
    Calls Try.prog 9 #[.int .i64 e, (St.mk n c f t [] 0 0).val] w (Post2 [-1] 0 w) := by
  have ek : strOfNums [] = ⟨#[]⟩ := rfl
  have hgood := fun W => good_st e (St.mk n c f t [] 0 0) (by simp) W
  rw [hg] at hgood
  simp only [St.val, St.cells, ek] at hgood
  have HG := Lib.hid hgood
  clear hgood hg
  simp only [St.val, ek]
  all_goals
    go_enter Try.func9, Try.ntmps9
    go_wp2_with (go_at_call 12; refine (HG.out _).mono ?_; rintro e' w' ⟨rfl, rfl⟩)
    refine bodyPost_ret (v := .tuple #[_, .int .i64 0]) (by simp [results, Try.results9, go_sem] <;> exact ⟨rfl, rfl⟩) rfl ⟨_, rfl, ints_grown _ _ _ [-1] 1 0 _ _ ?_ ?_ rfl (by omega) rfl, ?_⟩
    · exact heap_last _ _ _ (by simp)
    · omega
    repeat (first | exact Below.refl _ _ | apply Below.drew | apply below_alloc)

set_option maxRecDepth 100000 in
set_option maxHeartbeats 1000000 in
theorem end_half (e : Int) (he1 : 1 ≤ e) (he6 : e ≤ 6) (h : Int) (hh1 : 55296 ≤ h) (hh2 : h ≤ 56319) (hg : goodS e (St.mk 0 0 0 0 [] h 0) = true) (w : World) :
    Calls Try.prog 9 #[.int .i64 e, (St.mk 0 0 0 0 [] h 0).val] w (Post2 [-1] 0 w) := by
  have ek : strOfNums [] = ⟨#[]⟩ := rfl
  have hgood := fun W => good_st e (St.mk 0 0 0 0 [] h 0) (by simp) W
  rw [hg] at hgood
  simp only [St.val, St.cells, ek] at hgood
  have HG := Lib.hid hgood
  clear hgood hg
  simp only [St.val, ek]
  all_goals
    go_enter Try.func9, Try.ntmps9
    go_wp2_with (go_at_call 12; refine (HG.out _).mono ?_; rintro e' w' ⟨rfl, rfl⟩)
    refine bodyPost_ret (v := .tuple #[_, .int .i64 0]) (by simp [results, Try.results9, go_sem] <;> exact ⟨rfl, rfl⟩) rfl ⟨_, rfl, ints_grown _ _ _ [-1] 1 0 _ _ ?_ ?_ rfl (by omega) rfl, ?_⟩
    · exact heap_last _ _ _ (by simp)
    · omega
    repeat (first | exact Below.refl _ _ | apply Below.drew | apply below_alloc)

set_option maxRecDepth 100000 in
set_option maxHeartbeats 1000000 in
theorem end_halfk (e : Int) (he1 : 1 ≤ e) (he6 : e ≤ 6) (u : UInt8) (h : Int) (hh1 : 55296 ≤ h) (hh2 : h ≤ 56319) (hg : goodS e (St.mk 0 0 0 0 [(u.toNat : Int)] h 0) = true) (w : World) :
    Calls Try.prog 9 #[.int .i64 e, (St.mk 0 0 0 0 [(u.toNat : Int)] h 0).val] w (Post2 [-1] 0 w) := by
  have hidx := idx1 u
  have ek := str1 u
  have hgood := fun W => good_st e (St.mk 0 0 0 0 [(u.toNat : Int)] h 0) (by intro x hx; have := byte_le u; simp at hx; omega) W
  rw [hg] at hgood
  simp only [St.val, St.cells, ek] at hgood
  have HG := Lib.hid hgood
  clear hgood hg
  simp only [St.val, ek]
  all_goals
    go_enter Try.func9, Try.ntmps9
    go_wp2_with (go_at_call 12; refine (HG.out _).mono ?_; rintro e' w' ⟨rfl, rfl⟩)
    refine bodyPost_ret (v := .tuple #[_, .int .i64 0]) (by simp [results, Try.results9, go_sem] <;> exact ⟨rfl, rfl⟩) rfl ⟨_, rfl, ints_grown _ _ _ [-1] 1 0 _ _ ?_ ?_ rfl (by omega) rfl, ?_⟩
    · exact heap_last _ _ _ (by simp)
    · omega
    repeat (first | exact Below.refl _ _ | apply Below.drew | apply below_alloc)

set_option maxRecDepth 100000 in
set_option maxHeartbeats 1000000 in
theorem end_kept (e : Int) (he1 : 1 ≤ e) (he6 : e ≤ 6) (u : UInt8) (m : Int) (hg : goodS e (St.mk 0 0 0 0 [(u.toNat : Int)] 0 m) = true) (w : World) :
    Calls Try.prog 9 #[.int .i64 e, (St.mk 0 0 0 0 [(u.toNat : Int)] 0 m).val] w (Post2 [-1] 0 w) := by
  have hidx := idx1 u
  have ek := str1 u
  have hgood := fun W => good_st e (St.mk 0 0 0 0 [(u.toNat : Int)] 0 m) (by intro x hx; have := byte_le u; simp at hx; omega) W
  rw [hg] at hgood
  simp only [St.val, St.cells, ek] at hgood
  have HG := Lib.hid hgood
  clear hgood hg
  simp only [St.val, ek]
  all_goals
    go_enter Try.func9, Try.ntmps9
    go_wp2_with (go_at_call 12; refine (HG.out _).mono ?_; rintro e' w' ⟨rfl, rfl⟩)
    refine bodyPost_ret (v := .tuple #[_, .int .i64 0]) (by simp [results, Try.results9, go_sem] <;> exact ⟨rfl, rfl⟩) rfl ⟨_, rfl, ints_grown _ _ _ [-1] 1 0 _ _ ?_ ?_ rfl (by omega) rfl, ?_⟩
    · exact heap_last _ _ _ (by simp)
    · omega
    repeat (first | exact Below.refl _ _ | apply Below.drew | apply below_alloc)

set_option maxRecDepth 100000 in
set_option maxHeartbeats 1000000 in
theorem end_two040 (e : Int) (he1 : 1 ≤ e) (he6 : e ≤ 6)  (hg : goodS e (St.mk 0 0 0 0 [27, 40] 0 0) = true) (w : World) :
    Calls Try.prog 9 #[.int .i64 e, (St.mk 0 0 0 0 [27, 40] 0 0).val] w (Post2 [-1, 40] 0 w) := by
  have hi0 : ∀ h, (⟨#[27, 40]⟩ : ByteArray)[1]'h = 40 := fun _ => rfl
  have ek : strOfNums [27, 40] = ⟨#[27, 40]⟩ := by decide
  have hgood := fun W => good_st e (St.mk 0 0 0 0 [27, 40] 0 0) (by simp) W
  rw [hg] at hgood
  simp only [St.val, St.cells, ek] at hgood
  have HG := Lib.hid hgood
  clear hgood hg
  simp only [St.val, ek]
  all_goals
    go_enter Try.func9, Try.ntmps9
    go_wp2_with (first
      | (go_at_call 12; refine (HG.out _).mono ?_; rintro e' w' ⟨rfl, rfl⟩)
      | (at_builtin; refine wpList_app rfl _ _ rfl (w.heap.size + 1) (w.heap.size + 1) (.slice none 0 0) _ [] [-1] rfl rfl (ints_nil _ _) ?_ (by decide) ?_ ?_; (exact ints_lit1 _ _ _ _ (heap_new _ _ _ (by simp)) (by omega)); (simp <;> omega); rintro v1 w1 hi1 hb1; have hs1 := hb1.size; have hbx : Box w1 w.heap.size (St.mk 0 0 0 0 [27, 40] 0 0) := Box.below (heap_third _ _ _ _) hb1 (by omega); have hg2 := hbx.cell; have hh2 := hbx.frozen)
      | (at_builtin; refine wpList_app rfl _ _ rfl (w.heap.size + 1) (w.heap.size + 1) _ _ [-1] [40] rfl rfl (Ints.alloc hi1 _) ?_ (by decide) ?_ ?_; (exact ints_lit1 _ _ _ _ (heap_new _ _ _ rfl) (by simp at hs1; omega)); (simp at hs1 ⊢; omega); rintro v2 w2 hi2 hb2))
    refine bodyPost_ret (v := .tuple #[v2, .int .i64 0]) (by simp [results, Try.results9, go_sem]) rfl ⟨_, rfl, hi2.mono (by omega), ?_⟩
    exact ((below_alloc (below_alloc (below_alloc (Below.refl _ w) _) _) _).trans (hb1.mono (by omega))).trans ((Below.alloc (Below.refl _ _) (by simp at hs1; omega) _).trans (hb2.mono (by omega)))

set_option maxRecDepth 100000 in
set_option maxHeartbeats 1000000 in
theorem end_two140 (e : Int) (he1 : 1 ≤ e) (he6 : e ≤ 6)  (hg : goodS e (St.mk 0 0 0 0 [27, 40] 0 1) = true) (w : World) :
    Calls Try.prog 9 #[.int .i64 e, (St.mk 0 0 0 0 [27, 40] 0 1).val] w (Post2 [-1, -1] 0 w) := by
  have hi0 : ∀ h, (⟨#[27, 40]⟩ : ByteArray)[1]'h = 40 := fun _ => rfl
  have ek : strOfNums [27, 40] = ⟨#[27, 40]⟩ := by decide
  have hgood := fun W => good_st e (St.mk 0 0 0 0 [27, 40] 0 1) (by simp) W
  rw [hg] at hgood
  simp only [St.val, St.cells, ek] at hgood
  have HG := Lib.hid hgood
  clear hgood hg
  simp only [St.val, ek]
  all_goals
    go_enter Try.func9, Try.ntmps9
    go_wp2_with (first
      | (go_at_call 12; refine (HG.out _).mono ?_; rintro e' w' ⟨rfl, rfl⟩)
      | (at_builtin; refine wpList_app rfl _ _ rfl (w.heap.size + 1) (w.heap.size + 1) (.slice none 0 0) _ [] [-1] rfl rfl (ints_nil _ _) ?_ (by decide) ?_ ?_; (exact ints_lit1 _ _ _ _ (heap_new _ _ _ (by simp)) (by omega)); (simp <;> omega); rintro v1 w1 hi1 hb1; have hs1 := hb1.size; have hbx : Box w1 w.heap.size (St.mk 0 0 0 0 [27, 40] 0 1) := Box.below (heap_third _ _ _ _) hb1 (by omega); have hg2 := hbx.cell; have hh2 := hbx.frozen)
      | (at_builtin; refine wpList_app rfl _ _ rfl (w.heap.size + 1) (w.heap.size + 1) _ _ [-1] [-1] rfl rfl (Ints.alloc hi1 _) ?_ (by decide) ?_ ?_; (exact ints_lit1 _ _ _ _ (heap_new _ _ _ rfl) (by simp at hs1; omega)); (simp at hs1 ⊢; omega); rintro v2 w2 hi2 hb2))
    refine bodyPost_ret (v := .tuple #[v2, .int .i64 0]) (by simp [results, Try.results9, go_sem]) rfl ⟨_, rfl, hi2.mono (by omega), ?_⟩
    exact ((below_alloc (below_alloc (below_alloc (Below.refl _ w) _) _) _).trans (hb1.mono (by omega))).trans ((Below.alloc (Below.refl _ _) (by simp at hs1; omega) _).trans (hb2.mono (by omega)))

set_option maxRecDepth 100000 in
set_option maxHeartbeats 1000000 in
theorem end_two036 (e : Int) (he1 : 1 ≤ e) (he6 : e ≤ 6)  (hg : goodS e (St.mk 0 0 0 0 [27, 36] 0 0) = true) (w : World) :
    Calls Try.prog 9 #[.int .i64 e, (St.mk 0 0 0 0 [27, 36] 0 0).val] w (Post2 [-1, 36] 0 w) := by
  have hi0 : ∀ h, (⟨#[27, 36]⟩ : ByteArray)[1]'h = 36 := fun _ => rfl
  have ek : strOfNums [27, 36] = ⟨#[27, 36]⟩ := by decide
  have hgood := fun W => good_st e (St.mk 0 0 0 0 [27, 36] 0 0) (by simp) W
  rw [hg] at hgood
  simp only [St.val, St.cells, ek] at hgood
  have HG := Lib.hid hgood
  clear hgood hg
  simp only [St.val, ek]
  all_goals
    go_enter Try.func9, Try.ntmps9
    go_wp2_with (first
      | (go_at_call 12; refine (HG.out _).mono ?_; rintro e' w' ⟨rfl, rfl⟩)
      | (at_builtin; refine wpList_app rfl _ _ rfl (w.heap.size + 1) (w.heap.size + 1) (.slice none 0 0) _ [] [-1] rfl rfl (ints_nil _ _) ?_ (by decide) ?_ ?_; (exact ints_lit1 _ _ _ _ (heap_new _ _ _ (by simp)) (by omega)); (simp <;> omega); rintro v1 w1 hi1 hb1; have hs1 := hb1.size; have hbx : Box w1 w.heap.size (St.mk 0 0 0 0 [27, 36] 0 0) := Box.below (heap_third _ _ _ _) hb1 (by omega); have hg2 := hbx.cell; have hh2 := hbx.frozen)
      | (at_builtin; refine wpList_app rfl _ _ rfl (w.heap.size + 1) (w.heap.size + 1) _ _ [-1] [36] rfl rfl (Ints.alloc hi1 _) ?_ (by decide) ?_ ?_; (exact ints_lit1 _ _ _ _ (heap_new _ _ _ rfl) (by simp at hs1; omega)); (simp at hs1 ⊢; omega); rintro v2 w2 hi2 hb2))
    refine bodyPost_ret (v := .tuple #[v2, .int .i64 0]) (by simp [results, Try.results9, go_sem]) rfl ⟨_, rfl, hi2.mono (by omega), ?_⟩
    exact ((below_alloc (below_alloc (below_alloc (Below.refl _ w) _) _) _).trans (hb1.mono (by omega))).trans ((Below.alloc (Below.refl _ _) (by simp at hs1; omega) _).trans (hb2.mono (by omega)))

set_option maxRecDepth 100000 in
set_option maxHeartbeats 1000000 in
theorem end_two136 (e : Int) (he1 : 1 ≤ e) (he6 : e ≤ 6)  (hg : goodS e (St.mk 0 0 0 0 [27, 36] 0 1) = true) (w : World) :
    Calls Try.prog 9 #[.int .i64 e, (St.mk 0 0 0 0 [27, 36] 0 1).val] w (Post2 [-1, -1] 0 w) := by
  have hi0 : ∀ h, (⟨#[27, 36]⟩ : ByteArray)[1]'h = 36 := fun _ => rfl
  have ek : strOfNums [27, 36] = ⟨#[27, 36]⟩ := by decide
  have hgood := fun W => good_st e (St.mk 0 0 0 0 [27, 36] 0 1) (by simp) W
  rw [hg] at hgood
  simp only [St.val, St.cells, ek] at hgood
  have HG := Lib.hid hgood
  clear hgood hg
  simp only [St.val, ek]
  all_goals
    go_enter Try.func9, Try.ntmps9
    go_wp2_with (first
      | (go_at_call 12; refine (HG.out _).mono ?_; rintro e' w' ⟨rfl, rfl⟩)
      | (at_builtin; refine wpList_app rfl _ _ rfl (w.heap.size + 1) (w.heap.size + 1) (.slice none 0 0) _ [] [-1] rfl rfl (ints_nil _ _) ?_ (by decide) ?_ ?_; (exact ints_lit1 _ _ _ _ (heap_new _ _ _ (by simp)) (by omega)); (simp <;> omega); rintro v1 w1 hi1 hb1; have hs1 := hb1.size; have hbx : Box w1 w.heap.size (St.mk 0 0 0 0 [27, 36] 0 1) := Box.below (heap_third _ _ _ _) hb1 (by omega); have hg2 := hbx.cell; have hh2 := hbx.frozen)
      | (at_builtin; refine wpList_app rfl _ _ rfl (w.heap.size + 1) (w.heap.size + 1) _ _ [-1] [-1] rfl rfl (Ints.alloc hi1 _) ?_ (by decide) ?_ ?_; (exact ints_lit1 _ _ _ _ (heap_new _ _ _ rfl) (by simp at hs1; omega)); (simp at hs1 ⊢; omega); rintro v2 w2 hi2 hb2))
    refine bodyPost_ret (v := .tuple #[v2, .int .i64 0]) (by simp [results, Try.results9, go_sem]) rfl ⟨_, rfl, hi2.mono (by omega), ?_⟩
    exact ((below_alloc (below_alloc (below_alloc (Below.refl _ w) _) _) _).trans (hb1.mono (by omega))).trans ((Below.alloc (Below.refl _ _) (by simp at hs1; omega) _).trans (hb2.mono (by omega)))

theorem end_pairs (e : Int) (he : e = 5 ∨ e = 6) (s : St) (h : okS e s) (w : World) : Calls Try.prog 9 #[.int .i64 e, s.val] w (Post2 (endS s) 0 w) := by
  have hg := h.1
  obtain ⟨k, hf, rfl, hk, hh⟩ := goodPairs_cases he hg
  rcases hk with rfl | ⟨x, rfl⟩
  · rcases hh with rfl | ⟨h1, h2⟩
    · exact end_none e (by omega) (by omega) 0 hg w
    · have e' : endS (St.mk 0 0 0 0 [] hf 0) = [-1] := by simp [endS]; omega
      rw [e']; exact end_half e (by omega) (by omega) hf h1 h2 hg w
  · obtain ⟨u, rfl⟩ := byte_of x (h.2 x (by simp)).1 (h.2 x (by simp)).2
    have e' : endS (St.mk 0 0 0 0 [(u.toNat : Int)] hf 0) = [-1] := by simp [endS]
    rw [e']
    rcases hh with rfl | ⟨h1, h2⟩
    · exact end_kept e (by omega) (by omega) u 0 hg w
    · exact end_halfk e (by omega) (by omega) u hf h1 h2 hg w

theorem end_ok (e : Int) (he1 : 1 ≤ e) (he6 : e ≤ 6) (s : St) (h : okS e s) (w : World) : Calls Try.prog 9 #[.int .i64 e, s.val] w (Post2 (endS s) 0 w) := by
  have he : e = 1 ∨ e = 2 ∨ e = 3 ∨ e = 4 ∨ e = 5 ∨ e = 6 := by omega
  have hg := h.1
  rcases he with rfl | rfl | rfl | rfl | rfl | rfl
  · rcases goodUtf_cases hg with rfl | ⟨n, c, f, t, rfl, hn, hn3, _⟩
    · exact end_none 1 he1 he6 0 hg w
    · have e : endS (St.mk n c f t [] 0 0) = [-1] := by simp [endS]; omega
      rw [e]; exact end_need 1 he1 he6 n c f t hn hg w
  · obtain ⟨k, m, rfl, hm, hk⟩ := goodShift_cases hg
    rcases hk with rfl | rfl | rfl | rfl | ⟨x, rfl, rfl, hx0, hx1⟩
    · exact end_none 2 he1 he6 m hg w
    · exact end_kept 2 he1 he6 27 m hg w
    · rcases hm with rfl | rfl
      · exact end_two040 2 he1 he6 hg w
      · exact end_two140 2 he1 he6 hg w
    · rcases hm with rfl | rfl
      · exact end_two036 2 he1 he6 hg w
      · exact end_two136 2 he1 he6 hg w
    · obtain ⟨u, rfl⟩ := byte_of x (by omega) (by omega)
      exact end_kept 2 he1 he6 u 1 hg w
  · rcases goodTwin_cases hg with rfl | ⟨x, rfl, hx0, hx1⟩
    · exact end_none 3 he1 he6 0 hg w
    · obtain ⟨u, rfl⟩ := byte_of x (by omega) (by omega)
      exact end_kept 3 he1 he6 u 0 hg w
  · have hs : s = {} := by
      simp [goodS] at hg; exact hg.2
    subst hs
    exact end_none 4 he1 he6 0 hg w
  · exact end_pairs 5 (Or.inl rfl) s h w
  · exact end_pairs 6 (Or.inr rfl) s h w

/-! What is refused: a state of any make. -/

theorem ints_of_nil (w : World) (b : Nat) : Ints w b (.slice none 0 0) [] := ints_nil w b

set_option maxHeartbeats 1000000 in
theorem end_kind (e n c f t h m : Int) (k : ByteArray) (he : e < 1 ∨ 6 < e) (w : World) :
    Calls Try.prog 9 #[.int .i64 e, .agg (stW n c f t k h m)] w (Post2 [] 2 w) := by
  rcases he with he | he
  all_goals
    go_enter Try.func9, Try.ntmps9
    go_wp2
    refine bodyPost_ret (v := .tuple #[.slice none 0 0, .int .i64 2]) (by simp [results, Try.results9, go_sem]) rfl ⟨_, rfl, ints_nil _ _, ?_⟩
    repeat (first | exact Below.refl _ _ | apply below_alloc)

set_option maxHeartbeats 1000000 in
theorem end_form (e n c f t h m : Int) (k : ByteArray) (he1 : 1 ≤ e) (he6 : e ≤ 6) (hg : goodS e (St.mk n c f t (nums k) h m) = false) (w : World) :
    Calls Try.prog 9 #[.int .i64 e, .agg (stW n c f t k h m)] w (Post2 [] 1 w) := by
  have hgood := good_any e n c f t h m k
  rw [hg] at hgood
  have HG := Lib.hid hgood
  clear hgood hg
  go_enter Try.func9, Try.ntmps9
  go_wp2_with (go_at_call 12; refine (HG.out _).mono ?_; rintro e' w' ⟨rfl, rfl⟩)
  refine bodyPost_ret (v := .tuple #[.slice none 0 0, .int .i64 1]) (by simp [results, Try.results9, go_sem]) rfl ⟨_, rfl, ints_nil _ _, ?_⟩
  repeat (first | exact Below.refl _ _ | apply below_alloc)

/-- The end of Step and Feed where they refuse: the state as it was passed. -/
def PostX (n c f t : Int) (k : ByteArray) (h m : Int) (code : Int) (w : World) (e : Ending) (w' : World) : Prop :=
  e = .returned (.tuple #[.agg (stW n c f t k h m), .slice none 0 0, .int .i64 code]) ∧ Below w.heap.size w w'

set_option maxRecDepth 100000 in
set_option maxHeartbeats 1000000 in
theorem step_kind (e n c f t h m b : Int) (k : ByteArray) (he : e < 1 ∨ 6 < e) (w : World) :
    Calls Try.prog 11 #[.int .i64 e, .agg (stW n c f t k h m), .int .i64 b] w (PostX n c f t k h m 2 w) := by
  rcases he with he | he
  all_goals
    go_enter Try.func11, Try.ntmps11
    go_wp2
    refine bodyPost_ret (v := .tuple #[.agg (stW n c f t k h m), .slice none 0 0, .int .i64 2]) (by simp [results, Try.results11, go_sem]) rfl ⟨rfl, ?_⟩
    repeat (first | exact Below.refl _ _ | apply below_alloc)

set_option maxRecDepth 100000 in
set_option maxHeartbeats 1000000 in
theorem step_byte (e n c f t h m b : Int) (k : ByteArray) (he1 : 1 ≤ e) (he6 : e ≤ 6) (hb : b < 0 ∨ 255 < b) (w : World) :
    Calls Try.prog 11 #[.int .i64 e, .agg (stW n c f t k h m), .int .i64 b] w (PostX n c f t k h m 1 w) := by
  rcases hb with hb | hb
  all_goals
    go_enter Try.func11, Try.ntmps11
    go_wp2
    refine bodyPost_ret (v := .tuple #[.agg (stW n c f t k h m), .slice none 0 0, .int .i64 1]) (by simp [results, Try.results11, go_sem]) rfl ⟨rfl, ?_⟩
    repeat (first | exact Below.refl _ _ | apply below_alloc)

set_option maxRecDepth 100000 in
set_option maxHeartbeats 1000000 in
theorem step_form (e n c f t h m b : Int) (k : ByteArray) (he1 : 1 ≤ e) (he6 : e ≤ 6) (hb0 : 0 ≤ b) (hb1 : b ≤ 255) (hg : goodS e (St.mk n c f t (nums k) h m) = false) (w : World) :
    Calls Try.prog 11 #[.int .i64 e, .agg (stW n c f t k h m), .int .i64 b] w (PostX n c f t k h m 1 w) := by
  have hgood := good_any e n c f t h m k
  rw [hg] at hgood
  have HG := Lib.hid hgood
  clear hgood hg
  go_enter Try.func11, Try.ntmps11
  go_wp2_with (go_at_call 12; refine (HG.out _).mono ?_; rintro e' w' ⟨rfl, rfl⟩)
  refine bodyPost_ret (v := .tuple #[.agg (stW n c f t k h m), .slice none 0 0, .int .i64 1]) (by simp [results, Try.results11, go_sem]) rfl ⟨rfl, ?_⟩
  repeat (first | exact Below.refl _ _ | apply below_alloc)

theorem step_any (e : Int) (he1 : 1 ≤ e) (he6 : e ≤ 6) (s : St) (b : Int) (hb0 : 0 ≤ b) (hb1 : b ≤ 255) (hok : okS e s) (w : World) :
    Calls Try.prog 11 #[.int .i64 e, s.val, .int .i64 b] w (PostE (stepS e s b).1 (stepS e s b).2 0 w) := by
  have he : e = 1 ∨ e = 2 ∨ e = 3 ∨ e = 4 ∨ e = 5 ∨ e = 6 := by omega
  rcases he with rfl | rfl | rfl | rfl | rfl | rfl
  · exact step_1 s b hb0 hb1 hok w
  · exact step_2 s b hb0 hb1 hok w
  · exact step_3 s b hb0 hb1 hok w
  · exact step_4 s b hb0 hb1 hok w
  · exact step_5 s b hb0 hb1 hok w
  · exact step_6 s b hb0 hb1 hok w

end Go.Proofs.Ytefohnbmifblkab
