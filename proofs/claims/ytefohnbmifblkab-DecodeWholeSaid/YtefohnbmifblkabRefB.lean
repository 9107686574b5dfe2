/- The reference's pieces of Twin, Latin, Low, High and Shift; then all bytes piece by piece. Plain. -/
import Derived.Test.YtefohnbmifblkabRef
namespace Go.Proofs.Ytefohnbmifblkab

/-- A byte that is taken in one round, and the rest from the same kind of state on. -/
theorem piece_one {e b m m2 : Int} {l o : List Int} (ho : o.length ≤ 1) (hm : modeOk e m2) (hl : l = b :: l.drop 1) (h : oneS e (mst m) b = (mst m2, o, false)) : pieceOk e l m (o, 1, m2) := by
  have hlen : 0 < l.length := by rw [hl]; simp
  unfold pieceOk
  dsimp only
  refine ⟨by omega, by omega, hm, ho, ?_⟩
  conv => lhs; rw [hl]
  rw [from_once _ h]
/-- Two bytes that are taken in one round each. -/
theorem piece_two {e b c m m2 : Int} {l o : List Int} {t : St} (ho : o.length ≤ 1) (hm : modeOk e m2) (hl : l = b :: l.drop 1) (h1 : l.drop 1 = c :: l.drop 2) (h : oneS e (mst m) b = (t, [], false))
    (h2 : oneS e t c = (mst m2, o, false)) : pieceOk e l m (o, 2, m2) := by
  have hlen : 1 < l.length := by rw [hl, h1]; simp
  unfold pieceOk
  dsimp only
  refine ⟨by omega, by omega, hm, ho, ?_⟩
  conv => lhs; rw [hl]
  rw [from_once _ h]
  conv => lhs; rw [h1]
  rw [from_once _ h2]
  rfl

theorem head_drop {l : List Int} (h0 : 0 < l.length) : l = getF l 0 :: l.drop 1 := by
  have := getF_drop h0
  rwa [List.drop_zero] at this

theorem piece_latin {l : List Int} {m : Int} (hm : modeOk 4 m) (h0 : 0 < l.length) : pieceOk 4 l m ([latinS (getF l 0)], 1, 0) := by
  have hm0 : m = 0 := by unfold modeOk at hm; omega
  subst hm0
  exact piece_one (by simp) (mode0 4) (head_drop h0) rfl

theorem ptwin_lead {b : Int} (h0 : 129 ≤ b) (h1 : b ≤ 159) : oneS 3 {} b = (St.mk 0 0 0 0 [b] 0 0, [], false) := by
  rw [one_3]
  simp only [twinS]
  rw [if_neg (by omega), if_pos ⟨h0, h1⟩]

theorem piece_twin {l : List Int} {m : Int} (hm : modeOk 3 m) (hb : bytesL l) (h0 : 0 < l.length) : pieceOk 3 l m (pieceTwin l (getF l 0)) := by
  have hm0 : m = 0 := by unfold modeOk at hm; omega
  subst hm0
  have hd := head_drop h0
  have hg := getF_in h0 hb
  generalize getF l 0 = b at *
  unfold pieceTwin
  by_cases c1 : b < 128
  · rw [if_pos c1]
    refine piece_one (by simp) (mode0 3) hd ?_
    rw [one_3]
    simp only [twinS]
    rw [if_pos c1]
  rw [if_neg c1]
  by_cases c2 : 161 ≤ b ∧ b ≤ 223
  · rw [if_pos c2]
    refine piece_one (by simp) (mode0 3) hd ?_
    rw [one_3]
    simp only [twinS]
    rw [if_neg c1, if_neg (by omega), if_pos c2]
  rw [if_neg c2]
  by_cases c3 : 129 ≤ b ∧ b ≤ 159
  rotate_left
  · rw [if_pos c3]
    refine piece_one (by simp) (mode0 3) hd ?_
    rw [one_3]
    simp only [twinS]
    rw [if_neg c1, if_neg c3, if_neg c2]
  rw [if_neg (by omega)]
  have e1 : oneS 3 (mst 0) b = (St.mk 0 0 0 0 [b] 0 0, [], false) := ptwin_lead c3.1 c3.2
  have hok : okS 3 (St.mk 0 0 0 0 [b] 0 0) := by
    have := one_ok (e := 3) (by omega) (by omega) hg.1 hg.2 (ok_init 3 (by omega) (by omega))
    have e2 : oneS 3 {} b = _ := e1
    rwa [e2] at this
  by_cases h1 : 1 < l.length
  · have hd1 := getF_drop h1
    have hg1 := getF_in h1 hb
    generalize getF l 1 = x at *
    by_cases c4 : 64 ≤ x ∧ x ≤ 126
    · rw [if_pos c4]
      refine piece_two (by simp) (mode0 3) hd hd1 e1 ?_
      rw [one_3]
      simp only [twinS]
      rw [if_pos c4]
      congr 3
      omega
    rw [if_neg c4]
    by_cases c5 : 128 ≤ x ∧ x ≤ 252
    · rw [if_pos c5]
      refine piece_two (by simp) (mode0 3) hd hd1 e1 ?_
      rw [one_3]
      simp only [twinS]
      rw [if_neg c4, if_pos c5]
      congr 3
      omega
    rw [if_neg c5]
    by_cases c6 : 128 ≤ x
    · rw [if_pos c6]
      refine piece_two (by simp) (mode0 3) hd hd1 e1 ?_
      rw [one_3]
      simp only [twinS]
      rw [if_neg c4, if_neg c5]
      simp; omega
    · rw [if_neg c6]
      unfold pieceOk
      dsimp only
      refine ⟨by omega, by omega, mode0 3, by simp, ?_⟩
      conv => lhs; rw [hd]
      rw [from_once _ e1, hd1]
      have e3 : oneS 3 (St.mk 0 0 0 0 [b] 0 0) x = ({}, [-1], true) := by
        rw [one_3]
        simp only [twinS]
        rw [if_neg c4, if_neg c5]
        simp; omega
      rw [from_again _ (by omega) (by omega) hok e3]
      rfl
  · have hgo := getF_out (l := l) (i := 1) (by omega)
    rw [hgo, if_neg (by omega), if_neg (by omega), if_neg (by omega)]
    unfold pieceOk
    dsimp only
    refine ⟨by omega, by omega, mode0 3, by simp, ?_⟩
    conv => lhs; rw [hd]
    rw [from_once _ e1, List.drop_of_length_le (by omega)]
    rfl

/-! ## Pairs -/

theorem pair_shape {low : Bool} {l : List Int} (i : Nat) (hb : bytesL l) (h : i + 1 < l.length) :
    0 ≤ unitF low l i ∧ unitF low l i ≤ 65535 ∧ l.drop i = unitBytes low (unitF low l i) ++ l.drop (i + 2) := by
  have h1 := getF_in (l := l) (i := i) (by omega) hb
  have h2 := getF_in (l := l) (i := i + 1) (by omega) hb
  have d1 := getF_drop (l := l) (i := i) (by omega)
  have d2 := getF_drop (l := l) (i := i + 1) (by omega)
  unfold unitF
  rw [if_neg (by omega), d1, d2]
  generalize getF l i = x at *
  generalize getF l (i + 1) = y at *
  cases low
  · refine ⟨by simp; omega, by simp; omega, ?_⟩
    have e1 : (256 * x + y) / 256 = x := by omega
    have e2 : (256 * x + y) % 256 = y := by omega
    simp [unitBytes, e1, e2]
  · refine ⟨by simp; omega, by simp; omega, ?_⟩
    have e1 : (256 * y + x) / 256 = y := by omega
    have e2 : (256 * y + x) % 256 = x := by omega
    simp [unitBytes, e1, e2]
theorem unit_none {low : Bool} {l : List Int} (i : Nat) (h : l.length ≤ i + 1) : unitF low l i = -1 := by
  unfold unitF
  rw [if_pos (Or.inr (by rw [getF_out h]; omega))]

theorem pair_kept (low : Bool) (h b : Int) : oneS (pairE low) (St.mk 0 0 0 0 [] h 0) b = (St.mk 0 0 0 0 [b] h 0, [], false) := by
  cases low <;> rfl

theorem piece_pairs {l : List Int} {m : Int} (low : Bool) (hm : modeOk (pairE low) m) (hb : bytesL l) (h0 : 0 < l.length) : pieceOk (pairE low) l m (piecePairs low l) := by
  have hm0 : m = 0 := by
    unfold modeOk pairE at hm
    cases low <;> simp at hm <;> omega
  subst hm0
  have hd := head_drop h0
  unfold piecePairs
  by_cases h1 : 1 < l.length
  rotate_left
  · rw [unit_none 0 (by omega), if_pos (by omega)]
    unfold pieceOk
    dsimp only
    refine ⟨by omega, by omega, mode0 _, by simp, ?_⟩
    conv => lhs; rw [hd]
    rw [from_once _ (pair_kept low 0 _), List.drop_of_length_le (by omega)]
    rfl
  obtain ⟨u0, u1, ud⟩ := pair_shape (low := low) 0 hb h1
  rw [List.drop_zero, Nat.zero_add] at ud
  generalize unitF low l 0 = u at *
  have hf := fun h => unit_from low (u := u) (h := h) (l.drop 2)
  rw [← ud] at hf
  rw [if_neg (by omega)]
  by_cases c1 : 56320 ≤ u ∧ u ≤ 57343
  · rw [if_pos c1]
    unfold pieceOk
    dsimp only
    refine ⟨by omega, by omega, mode0 _, by simp, ?_⟩
    exact hf 0 ({}, [-1], false) (by rw [if_neg (by omega), if_neg (by omega), if_pos c1]; rfl)
  rw [if_neg c1]
  by_cases c2 : 55296 ≤ u ∧ u ≤ 56319
  rotate_left
  · rw [if_pos c2]
    unfold pieceOk
    dsimp only
    refine ⟨by omega, by omega, mode0 _, by simp, ?_⟩
    exact hf 0 ({}, [u], false) (by rw [if_neg (by omega), if_neg c2, if_neg c1]; rfl)
  rw [if_neg (by omega)]
  have ha : fromS (pairE low) (mst 0) l = [] ++ fromS (pairE low) (St.mk 0 0 0 0 [] u 0) (l.drop 2) := hf 0 ({ half := u }, [], false) (by rw [if_neg (by omega), if_pos c2]; rfl)
  by_cases h3 : 3 < l.length
  rotate_left
  · rw [unit_none 2 (by omega), if_neg (by omega), if_pos (by omega)]
    unfold pieceOk
    dsimp only
    refine ⟨by omega, by omega, mode0 _, by simp, ?_⟩
    rw [ha, List.drop_length]
    have hu : u ≠ 0 := by omega
    by_cases h2 : 2 < l.length
    · have hd2 := getF_drop h2
      rw [hd2, from_once _ (pair_kept low u _), List.drop_of_length_le (by omega), from_nil, from_nil]
      simp [endS]
    · rw [List.drop_of_length_le (by omega), from_nil, from_nil]
      simp [endS, hu]
  obtain ⟨v0, v1, vd⟩ := pair_shape (low := low) 2 hb h3
  generalize unitF low l 2 = v at *
  have hu : u ≠ 0 := by omega
  by_cases c3 : 56320 ≤ v ∧ v ≤ 57343
  · rw [if_pos c3]
    unfold pieceOk
    dsimp only
    refine ⟨by omega, by omega, mode0 _, by simp, ?_⟩
    rw [ha, vd, unit_from low (l.drop 4) ({}, [65536 + 1024 * (u - 55296) + v - 56320], false) (by rw [if_pos ⟨hu, c3.1, c3.2⟩]; congr 3; omega)]
    rfl
  · rw [if_neg c3, if_neg (by omega)]
    unfold pieceOk
    dsimp only
    refine ⟨by omega, by omega, mode0 _, by simp, ?_⟩
    rw [ha, vd]
    rw [show (2 : Nat) + 2 = 4 from rfl]
    by_cases c4 : 55296 ≤ v ∧ v ≤ 56319
    · have ea := unit_from low (u := v) (h := u) (l.drop 4) ({ half := v }, [-1], false) (by rw [if_neg (fun h => c3 h.2), if_pos c4, if_pos hu])
      have eb : fromS (pairE low) (mst 0) _ = _ := unit_from low (u := v) (h := 0) (l.drop 4) ({ half := v }, [], false) (by rw [if_neg (by omega), if_pos c4]; rfl)
      rw [ea, eb]
      rfl
    · have ea := unit_from low (u := v) (h := u) (l.drop 4) ({}, [-1, v], false) (by rw [if_neg (fun h => c3 h.2), if_neg c4, if_neg c3, if_pos hu]; rfl)
      have eb : fromS (pairE low) (mst 0) _ = _ := unit_from low (u := v) (h := 0) (l.drop 4) ({}, [v], false) (by rw [if_neg (by omega), if_neg c4, if_neg c3]; rfl)
      rw [ea, eb]
      rfl

/-! ## Shift -/

theorem shift_mk (m : Int) (k : List Int) (b : Int) : oneS 2 (St.mk 0 0 0 0 k 0 m) b = shiftS (St.mk 0 0 0 0 k 0 m) b := rfl

theorem piece_shift {l : List Int} {m : Int} (hm : modeOk 2 m) (hb : bytesL l) (h0 : 0 < l.length) : pieceOk 2 l m (pieceShift l (getF l 0) m) := by
  have hmm : m = 0 ∨ m = 1 := by unfold modeOk at hm; omega
  have hd := head_drop h0
  have hg := getF_in h0 hb
  generalize getF l 0 = b at *
  have hm1 : modeOk 2 1 := Or.inr ⟨rfl, rfl⟩
  unfold pieceShift
  by_cases cb : b = 27
  · subst cb
    have e1 : oneS 2 (mst m) 27 = (St.mk 0 0 0 0 [27] 0 m, [], false) := rfl
    have hok1 : okS 2 (St.mk 0 0 0 0 [27] 0 m) := ok_shift _ _ hmm (Or.inr (Or.inl rfl))
    -- what is told where the mark's first byte is nothing
    have bad : ∀ x, l.drop 1 = x :: l.drop 2 → x ≠ 40 → x ≠ 36 → pieceOk 2 l m ([-1], 1, m) := by
      intro x hx n1 n2
      unfold pieceOk
      dsimp only
      refine ⟨by omega, by omega, hm, by simp, ?_⟩
      conv => lhs; rw [hd]
      rw [from_once _ e1, hx]
      have e2 : oneS 2 (St.mk 0 0 0 0 [27] 0 m) x = (mst m, [-1], true) := by
        rw [shift_mk]
        simp only [shiftS, if_true]
        rw [if_neg (by omega)]
      rw [from_again _ (by omega) (by omega) hok1 e2]
      rfl
    -- where its second byte is one by itself
    have second : ∀ y, (y = 40 ∨ y = 36) → l.drop 1 = y :: l.drop 2 → getF l 2 ≠ 66 → pieceOk 2 l m ([-1], 1, m) := by
      intro y hy hx n1
      unfold pieceOk
      dsimp only
      refine ⟨by omega, by omega, hm, by simp, ?_⟩
      conv => lhs; rw [hd]
      have e2 : oneS 2 (St.mk 0 0 0 0 [27] 0 m) y = (St.mk 0 0 0 0 [27, y] 0 m, [], false) := by
        rw [shift_mk]
        simp only [shiftS, if_true]
        rw [if_pos hy]
      have hok2 : okS 2 (St.mk 0 0 0 0 [27, y] 0 m) := by
        rcases hy with rfl | rfl
        · exact ok_shift _ _ hmm (Or.inr (Or.inr (Or.inl rfl)))
        · exact ok_shift _ _ hmm (Or.inr (Or.inr (Or.inr (Or.inl rfl))))
      have hr : fromS 2 (mst m) (l.drop 1) = if m = 0 then [y] ++ fromS 2 (mst 0) (l.drop 2) else fromS 2 (St.mk 0 0 0 0 [y] 0 1) (l.drop 2) := by
        rw [hx]
        rcases hmm with rfl | rfl
        · rw [if_pos rfl]
          refine from_once _ ?_
          rw [shift_mk]
          simp only [shiftS]
          rw [if_neg (by omega), if_pos trivial, if_neg (by omega)]
        · rw [if_neg (by omega)]
          have e3 : oneS 2 (mst 1) y = (St.mk 0 0 0 0 [y] 0 1, [], false) := by
            rw [shift_mk]
            simp only [shiftS]
            rw [if_neg (by omega), if_neg (by omega), if_neg (by omega), if_neg (by omega)]
          rw [from_once _ e3]
          rfl
      show fromS 2 (mst m) (27 :: l.drop 1) = [-1] ++ fromS 2 (mst m) (l.drop 1)
      rw [hr, from_once _ e1, hx, from_once _ e2]
      by_cases h2 : 2 < l.length
      · have hd2 := getF_drop h2
        generalize getF l 2 = z at *
        rw [hd2]
        rcases hmm with rfl | rfl
        · rw [if_pos rfl]
          have e3 : oneS 2 (St.mk 0 0 0 0 [27, y] 0 0) z = (mst 0, [-1, y], true) := by
            rw [shift_mk]
            simp only [shiftS]
            rw [if_neg n1, if_pos trivial]
          rw [from_again _ (by omega) (by omega) hok2 e3]
          rfl
        · rw [if_neg (by omega)]
          have e3 : oneS 2 (St.mk 0 0 0 0 [27, y] 0 1) z = (St.mk 0 0 0 0 [y] 0 1, [-1], true) := by
            rw [shift_mk]
            simp only [shiftS]
            rw [if_neg n1, if_neg (by omega)]
          rw [from_again _ (by omega) (by omega) hok2 e3]
          rfl
      · rw [List.drop_of_length_le (by omega)]
        rcases hmm with rfl | rfl
        · rfl
        · rfl
    have mark : ∀ y n, (y = 40 ∧ n = 0) ∨ (y = 36 ∧ n = 1) → l.drop 1 = y :: l.drop 2 → l.drop 2 = 66 :: l.drop 3 → pieceOk 2 l m ([], 3, n) := by
      intro y n hy hx hz
      have hlen : 2 < l.length := by
        by_cases h2 : 2 < l.length
        · exact h2
        · rw [List.drop_of_length_le (by omega)] at hz; cases hz
      unfold pieceOk
      dsimp only
      refine ⟨by omega, by omega, by rcases hy with ⟨_, rfl⟩ | ⟨_, rfl⟩ <;> first | exact mode0 2 | exact hm1, by simp, ?_⟩
      conv => lhs; rw [hd]
      have e2 : oneS 2 (St.mk 0 0 0 0 [27] 0 m) y = (St.mk 0 0 0 0 [27, y] 0 m, [], false) := by
        rw [shift_mk]
        simp only [shiftS, if_true]
        rw [if_pos (by omega)]
      have e3 : oneS 2 (St.mk 0 0 0 0 [27, y] 0 m) 66 = (mst n, [], false) := by
        rw [shift_mk]
        simp only [shiftS, if_true]
        rcases hy with ⟨rfl, rfl⟩ | ⟨rfl, rfl⟩ <;> rfl
      rw [from_once _ e1, hx, from_once _ e2, hz, from_once _ e3]
      rfl
    by_cases h1 : 1 < l.length
    · have hd1 := getF_drop h1
      by_cases c40 : getF l 1 = 40
      · rw [c40] at hd1 ⊢
        by_cases c66 : getF l 2 = 66
        · have h2 : 2 < l.length := by
            by_cases h2 : 2 < l.length
            · exact h2
            · rw [getF_out (by omega)] at c66; omega
          have hd2 := getF_drop h2
          rw [c66] at hd2
          rw [if_pos ⟨rfl, rfl, c66⟩]
          exact mark 40 0 (Or.inl ⟨rfl, rfl⟩) hd1 hd2
        · rw [if_neg (fun h => c66 h.2.2), if_neg (fun h => c66 h.2.2), if_pos rfl]
          exact second 40 (Or.inl rfl) hd1 c66
      by_cases c36 : getF l 1 = 36
      · rw [c36] at hd1 ⊢
        by_cases c66 : getF l 2 = 66
        · have h2 : 2 < l.length := by
            by_cases h2 : 2 < l.length
            · exact h2
            · rw [getF_out (by omega)] at c66; omega
          have hd2 := getF_drop h2
          rw [c66] at hd2
          rw [if_neg (by omega), if_pos ⟨rfl, rfl, c66⟩]
          exact mark 36 1 (Or.inr ⟨rfl, rfl⟩) hd1 hd2
        · rw [if_neg (fun h => c66 h.2.2), if_neg (fun h => c66 h.2.2), if_pos rfl]
          exact second 36 (Or.inr rfl) hd1 c66
      · rw [if_neg (fun h => c40 h.2.1), if_neg (fun h => c36 h.2.1), if_pos rfl]
        exact bad _ hd1 c40 c36
    · have hgo := getF_out (l := l) (i := 1) (by omega)
      rw [hgo, if_neg (by omega), if_neg (by omega), if_pos rfl]
      unfold pieceOk
      dsimp only
      refine ⟨by omega, by omega, hm, by simp, ?_⟩
      conv => lhs; rw [hd]
      rw [from_once _ e1, List.drop_of_length_le (by omega)]
      rcases hmm with rfl | rfl <;> rfl
  rw [if_neg (fun h => cb h.1), if_neg (fun h => cb h.1), if_neg cb]
  rcases hmm with rfl | rfl
  · by_cases c1 : 127 < b ∨ b = 14 ∨ b = 15
    · rw [if_pos ⟨rfl, c1⟩]
      refine piece_one (by simp) (mode0 2) hd ?_
      rw [shift_mk]
      simp only [shiftS]
      rw [if_neg cb, if_pos trivial, if_pos (by omega)]
    · rw [if_neg (fun h => c1 h.2), if_pos rfl]
      refine piece_one (by simp) (mode0 2) hd ?_
      rw [shift_mk]
      simp only [shiftS]
      rw [if_neg cb, if_pos trivial, if_neg (by omega)]
  rw [if_neg (fun h => by omega), if_neg (by omega)]
  by_cases c1 : b = 10
  · rw [if_pos c1]
    refine piece_one (by simp) (mode0 2) hd ?_
    rw [shift_mk]
    simp only [shiftS]
    rw [if_neg cb, if_neg (by omega), if_pos c1]
  rw [if_neg c1]
  by_cases c2 : 33 ≤ b ∧ b ≤ 126
  rotate_left
  · rw [if_pos c2]
    refine piece_one (by simp) hm1 hd ?_
    rw [shift_mk]
    simp only [shiftS]
    rw [if_neg cb, if_neg (by omega), if_neg c1, if_pos (by omega)]
  rw [if_neg (by omega)]
  have e1 : oneS 2 (mst 1) b = (St.mk 0 0 0 0 [b] 0 1, [], false) := by
    rw [shift_mk]
    simp only [shiftS]
    rw [if_neg cb, if_neg (by omega), if_neg c1, if_neg (by omega)]
  by_cases h1 : 1 < l.length
  · have hd1 := getF_drop h1
    have hg1 := getF_in h1 hb
    generalize getF l 1 = x at *
    by_cases c3 : 33 ≤ x ∧ x ≤ 126
    · rw [if_pos c3]
      refine piece_two (by simp) hm1 hd hd1 e1 ?_
      rw [shift_mk]
      simp only [shiftS]
      rw [if_neg cb, if_neg (by omega), if_neg (by omega)]
      congr 3
      omega
    rw [if_neg c3]
    by_cases c4 : x = 27
    · rw [if_pos (Or.inl c4)]
      subst c4
      unfold pieceOk
      dsimp only
      refine ⟨by omega, by omega, hm1, by simp, ?_⟩
      conv => lhs; rw [hd]
      have e2 : oneS 2 (St.mk 0 0 0 0 [b] 0 1) 27 = (St.mk 0 0 0 0 [27] 0 1, [-1], false) := by
        rw [shift_mk]
        simp only [shiftS]
        rw [if_neg cb, if_pos trivial]
      have e3 : oneS 2 (mst 1) 27 = (St.mk 0 0 0 0 [27] 0 1, [], false) := rfl
      rw [from_once _ e1, hd1, from_once _ e2, from_once _ e3]
      rfl
    · rw [if_neg (by omega)]
      refine piece_two (by simp) hm1 hd hd1 e1 ?_
      rw [shift_mk]
      simp only [shiftS]
      rw [if_neg cb, if_neg c4, if_pos (by omega)]
  · have hgo := getF_out (l := l) (i := 1) (by omega)
    rw [hgo, if_neg (by omega), if_pos (by omega)]
    unfold pieceOk
    dsimp only
    refine ⟨by omega, by omega, hm1, by simp, ?_⟩
    conv => lhs; rw [hd]
    rw [from_once _ e1, List.drop_of_length_le (by omega)]
    rfl

theorem piece_ok {e m : Int} {l : List Int} (h1 : 1 ≤ e) (h6 : e ≤ 6) (hm : modeOk e m) (hb : bytesL l) (h0 : 0 < l.length) : pieceOk e l m (pieceF e l m) := by
  have he : e = 1 ∨ e = 2 ∨ e = 3 ∨ e = 4 ∨ e = 5 ∨ e = 6 := by omega
  rcases he with rfl | rfl | rfl | rfl | rfl | rfl
  · exact piece_utf hm hb h0
  · exact piece_shift hm hb h0
  · exact piece_twin hm hb h0
  · exact piece_latin hm h0
  · exact piece_pairs true hm hb h0
  · exact piece_pairs false hm hb h0

end Go.Proofs.Ytefohnbmifblkab
