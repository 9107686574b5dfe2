/- The reference's function piece, for Low and High. -/
import Derived.Test.YtefohnbmifblkabPieceA
import Derived.Test.YtefohnbmifblkabUnit
namespace Go.Proofs.Ytefohnbmifblkab
open Go.RowKit
set_option linter.unusedVariables false

/-- What the blocks that piece makes hold in a world behind it. -/
structure PKit (w : World) (e : Int) (s : ByteArray) (W : World) : Prop where
  ce : W.cell? ⟨w.heap.size, 0, none⟩ = some (.int .i64 e)
  cs : W.cell? ⟨w.heap.size + 1, 0, none⟩ = some (.string s)
  cg : W.cell? ⟨w.heap.size + 2, 0, none⟩ = some (.func (.func 13) #[] #[.pointer (some ⟨w.heap.size + 1, 0, none⟩)])
  bad : W.heap[w.heap.size + 3]? = some (.cells #[.int .i64 (-1)] 3 (0, 0))
  below : Below w.heap.size w W
  size : w.heap.size + 4 ≤ W.heap.size
theorem PKit.start (w : World) (e : Int) (s : ByteArray) : PKit w e s ((((w.alloc (.cells #[.int .i64 e] 3)).alloc (.cells #[.string s] 9)).alloc
    (.cells #[.func (.func 13) #[] #[.pointer (some ⟨w.heap.size + 1, 0, none⟩)]] 38)).alloc (.cells #[.int .i64 (-1)] 3)) where
  ce := by simp [go_sem]
  cs := by simp [go_sem]
  cg := by simp [go_sem]
  bad := heap_new _ _ _ (by simp)
  below := below_alloc (below_alloc (below_alloc (below_alloc (Below.refl _ _) _) _) _) _
  size := by simp
theorem PKit.next {w : World} {e : Int} {s : ByteArray} {W W' : World} (h : PKit w e s W) (hb : Below W.heap.size W W') : PKit w e s W' where
  ce := (hb.cell (p := ⟨w.heap.size, 0, none⟩) (by have := h.size; show w.heap.size < _; omega)).trans h.ce
  cs := (hb.cell (p := ⟨w.heap.size + 1, 0, none⟩) (by have := h.size; show w.heap.size + 1 < _; omega)).trans h.cs
  cg := (hb.cell (p := ⟨w.heap.size + 2, 0, none⟩) (by have := h.size; show w.heap.size + 2 < _; omega)).trans h.cg
  bad := (hb.block _ (by have := h.size; omega)).trans h.bad
  below := h.below.trans (hb.mono (by have := h.size; omega))
  size := Nat.le_trans h.size hb.size

theorem unitF_range (low : Bool) (s : ByteArray) (i : Nat) : -1 ≤ unitF low (nums s) i ∧ unitF low (nums s) i ≤ 65535 := by
  have h1 := getF_range s i
  have h2 := getF_range s (i + 1)
  unfold unitF
  split
  · omega
  split <;> omega

theorem kit_unit (e : Int) (s : ByteArray) (hs : s.size ≤ maxLen) (w : World) (i : Int) (hi : i = 0 ∨ i = 2) (W : World) (h : PKit w e s W) :
    Calls Try.prog 16 #[.int .i64 i, .pointer (some ⟨w.heap.size + 2, 0, none⟩), .pointer (some ⟨w.heap.size, 0, none⟩)] W fun e' w' =>
      (∃ x, e' = .returned (.int .i64 x) ∧ (i = 0 → x = unitF (decide (e = 5)) (nums s) 0) ∧ (i = 2 → x = unitF (decide (e = 5)) (nums s) 2)) ∧ PKit w e s w' := by
  rcases hi with rfl | rfl
  · refine (ref_unit0 e s hs (w.heap.size + 1) (w.heap.size + 2) w.heap.size W h.cs h.cg h.ce).mono ?_
    rintro e' w' ⟨rfl, hb⟩
    exact ⟨⟨_, rfl, fun _ => rfl, fun h => by omega⟩, h.next hb⟩
  · refine (ref_unit2 e s hs (w.heap.size + 1) (w.heap.size + 2) w.heap.size W h.cs h.cg h.ce).mono ?_
    rintro e' w' ⟨rfl, hb⟩
    exact ⟨⟨_, rfl, fun h => by omega, fun _ => rfl⟩, h.next hb⟩

set_option maxRecDepth 100000 in
set_option maxHeartbeats 4000000 in
theorem pairs5_none (s : ByteArray) (h0 : 0 < s.size) (hs : s.size ≤ maxLen) (m : Int) (h1 : unitF (decide ((5 : Int) = 5)) (nums s) 0 < 0) (w : World) :
    Calls Try.prog 10 #[.int .i64 5, .string s, .int .i64 m] w (PostP ([-1], 1, 0) w) := by
  have hs0 := hs
  unfold maxLen at hs
  have hii : (0 : Int) < (s.size : Int) := by omega
  have hwb := wrap64_byte s[0]
  have hwc : IntKind.i64.wrap (s[0].toNat : Int) = (s[0].toNat : Int) := wraps_i64 _ (by omega) (by have := byte_le s[0]; omega)
  have hle := byte_le s[0]
  have hmf := hmf
  have hst := hstf
  have hU := unitF_range (decide ((5 : Int) = 5)) s 0
  have hV := unitF_range (decide ((5 : Int) = 5)) s 2
  have hK := fun i hi W h => kit_unit 5 s hs0 w i hi W h
  generalize unitF (decide ((5 : Int) = 5)) (nums s) 0 = U at *
  generalize unitF (decide ((5 : Int) = 5)) (nums s) 2 = V at *
  have HK := Lib.hid hK
  clear hK
  go_enter Try.func10, Try.ntmps10
  go_wp2_with (first
      | (go_at_call 16; refine (HK.out _ (by first | exact Or.inl rfl | exact Or.inr rfl) _ (by first | assumption | exact PKit.start w _ s)).mono ?_; rintro e w1 ⟨⟨x, rfl, hx0, hx2⟩, hk⟩; first | (obtain rfl := hx0 rfl) | (obtain rfl := hx2 rfl); have hcs := hk.cs)
      | (go_at_call 14; refine (ref_in_t _ _ _ _ (by omega)).mono ?_; rintro e w' ⟨rfl, rfl⟩)
      | (go_at_call 14; refine (ref_in_f _ _ _ _ (by omega)).mono ?_; rintro e w' ⟨rfl, rfl⟩))
  refine bodyPost_ret (v := .tuple #[_, .int .i64 1, .int .i64 0]) (by simp [results, Try.results10, go_sem] <;> rfl) rfl ⟨_, rfl, ints_lit1 _ _ _ _ hk.bad (by omega), hk.below⟩

set_option maxRecDepth 100000 in
set_option maxHeartbeats 4000000 in
theorem pairs5_low (s : ByteArray) (h0 : 0 < s.size) (hs : s.size ≤ maxLen) (m : Int) (h1 : 56320 ≤ unitF (decide ((5 : Int) = 5)) (nums s) 0) (h2 : unitF (decide ((5 : Int) = 5)) (nums s) 0 ≤ 57343) (w : World) :
    Calls Try.prog 10 #[.int .i64 5, .string s, .int .i64 m] w (PostP ([-1], 2, 0) w) := by
  have hs0 := hs
  unfold maxLen at hs
  have hii : (0 : Int) < (s.size : Int) := by omega
  have hwb := wrap64_byte s[0]
  have hwc : IntKind.i64.wrap (s[0].toNat : Int) = (s[0].toNat : Int) := wraps_i64 _ (by omega) (by have := byte_le s[0]; omega)
  have hle := byte_le s[0]
  have hmf := hmf
  have hst := hstf
  have hU := unitF_range (decide ((5 : Int) = 5)) s 0
  have hV := unitF_range (decide ((5 : Int) = 5)) s 2
  have hK := fun i hi W h => kit_unit 5 s hs0 w i hi W h
  generalize unitF (decide ((5 : Int) = 5)) (nums s) 0 = U at *
  generalize unitF (decide ((5 : Int) = 5)) (nums s) 2 = V at *
  have HK := Lib.hid hK
  clear hK
  go_enter Try.func10, Try.ntmps10
  go_wp2_with (first
      | (go_at_call 16; refine (HK.out _ (by first | exact Or.inl rfl | exact Or.inr rfl) _ (by first | assumption | exact PKit.start w _ s)).mono ?_; rintro e w1 ⟨⟨x, rfl, hx0, hx2⟩, hk⟩; first | (obtain rfl := hx0 rfl) | (obtain rfl := hx2 rfl); have hcs := hk.cs)
      | (go_at_call 14; refine (ref_in_t _ _ _ _ (by omega)).mono ?_; rintro e w' ⟨rfl, rfl⟩)
      | (go_at_call 14; refine (ref_in_f _ _ _ _ (by omega)).mono ?_; rintro e w' ⟨rfl, rfl⟩))
  refine bodyPost_ret (v := .tuple #[_, .int .i64 2, .int .i64 0]) (by simp [results, Try.results10, go_sem] <;> rfl) rfl ⟨_, rfl, ints_lit1 _ _ _ _ hk.bad (by omega), hk.below⟩

set_option maxRecDepth 100000 in
set_option maxHeartbeats 4000000 in
theorem pairs5_one (s : ByteArray) (h0 : 0 < s.size) (hs : s.size ≤ maxLen) (m : Int) (h1 : 0 ≤ unitF (decide ((5 : Int) = 5)) (nums s) 0) (h2 : unitF (decide ((5 : Int) = 5)) (nums s) 0 < 55296 ∨ 57343 < unitF (decide ((5 : Int) = 5)) (nums s) 0) (w : World) :
    Calls Try.prog 10 #[.int .i64 5, .string s, .int .i64 m] w (PostP ([unitF (decide ((5 : Int) = 5)) (nums s) 0], 2, 0) w) := by
  have hs0 := hs
  unfold maxLen at hs
  have hii : (0 : Int) < (s.size : Int) := by omega
  have hwb := wrap64_byte s[0]
  have hwc : IntKind.i64.wrap (s[0].toNat : Int) = (s[0].toNat : Int) := wraps_i64 _ (by omega) (by have := byte_le s[0]; omega)
  have hle := byte_le s[0]
  have hmf := hmf
  have hst := hstf
  have hU := unitF_range (decide ((5 : Int) = 5)) s 0
  have hV := unitF_range (decide ((5 : Int) = 5)) s 2
  have hK := fun i hi W h => kit_unit 5 s hs0 w i hi W h
  generalize unitF (decide ((5 : Int) = 5)) (nums s) 0 = U at *
  generalize unitF (decide ((5 : Int) = 5)) (nums s) 2 = V at *
  have HK := Lib.hid hK
  clear hK
  go_enter Try.func10, Try.ntmps10
  go_wp2_with (first
      | (go_at_call 16; refine (HK.out _ (by first | exact Or.inl rfl | exact Or.inr rfl) _ (by first | assumption | exact PKit.start w _ s)).mono ?_; rintro e w1 ⟨⟨x, rfl, hx0, hx2⟩, hk⟩; first | (obtain rfl := hx0 rfl) | (obtain rfl := hx2 rfl); have hcs := hk.cs)
      | (go_at_call 14; refine (ref_in_t _ _ _ _ (by omega)).mono ?_; rintro e w' ⟨rfl, rfl⟩)
      | (go_at_call 14; refine (ref_in_f _ _ _ _ (by omega)).mono ?_; rintro e w' ⟨rfl, rfl⟩))
  refine bodyPost_ret (v := .tuple #[_, .int .i64 2, .int .i64 0]) (by simp [results, Try.results10, go_sem] <;> rfl) rfl ⟨_, rfl, ints_lit1 _ _ _ _ (heap_new _ _ _ rfl) (by have := hk.size; omega), below_alloc hk.below _⟩

set_option maxRecDepth 100000 in
set_option maxHeartbeats 4000000 in
theorem pairs5_pair (s : ByteArray) (h0 : 0 < s.size) (hs : s.size ≤ maxLen) (m : Int) (h1 : 55296 ≤ unitF (decide ((5 : Int) = 5)) (nums s) 0) (h2 : unitF (decide ((5 : Int) = 5)) (nums s) 0 ≤ 56319) (h3 : 56320 ≤ unitF (decide ((5 : Int) = 5)) (nums s) 2) (h4 : unitF (decide ((5 : Int) = 5)) (nums s) 2 ≤ 57343) (w : World) :
    Calls Try.prog 10 #[.int .i64 5, .string s, .int .i64 m] w (PostP ([65536 + 1024 * (unitF (decide ((5 : Int) = 5)) (nums s) 0 - 55296) + unitF (decide ((5 : Int) = 5)) (nums s) 2 - 56320], 4, 0) w) := by
  have hs0 := hs
  unfold maxLen at hs
  have hii : (0 : Int) < (s.size : Int) := by omega
  have hwb := wrap64_byte s[0]
  have hwc : IntKind.i64.wrap (s[0].toNat : Int) = (s[0].toNat : Int) := wraps_i64 _ (by omega) (by have := byte_le s[0]; omega)
  have hle := byte_le s[0]
  have hmf := hmf
  have hst := hstf
  have hU := unitF_range (decide ((5 : Int) = 5)) s 0
  have hV := unitF_range (decide ((5 : Int) = 5)) s 2
  have hK := fun i hi W h => kit_unit 5 s hs0 w i hi W h
  generalize unitF (decide ((5 : Int) = 5)) (nums s) 0 = U at *
  generalize unitF (decide ((5 : Int) = 5)) (nums s) 2 = V at *
  have HK := Lib.hid hK
  clear hK
  go_enter Try.func10, Try.ntmps10
  go_wp2_with (first
      | (go_at_call 16; refine (HK.out _ (by first | exact Or.inl rfl | exact Or.inr rfl) _ (by first | assumption | exact PKit.start w _ s)).mono ?_; rintro e w1 ⟨⟨x, rfl, hx0, hx2⟩, hk⟩; first | (obtain rfl := hx0 rfl) | (obtain rfl := hx2 rfl); have hcs := hk.cs)
      | (go_at_call 14; refine (ref_in_t _ _ _ _ (by omega)).mono ?_; rintro e w' ⟨rfl, rfl⟩)
      | (go_at_call 14; refine (ref_in_f _ _ _ _ (by omega)).mono ?_; rintro e w' ⟨rfl, rfl⟩))
  refine bodyPost_ret (v := .tuple #[_, .int .i64 4, .int .i64 0]) (by simp [results, Try.results10, go_sem] <;> rfl) rfl ⟨_, rfl, ints_lit1 _ _ _ _ (heap_new _ _ _ rfl) (by have := hk.size; omega), below_alloc hk.below _⟩

set_option maxRecDepth 100000 in
set_option maxHeartbeats 4000000 in
theorem pairs5_end (s : ByteArray) (h0 : 0 < s.size) (hs : s.size ≤ maxLen) (m : Int) (h1 : 55296 ≤ unitF (decide ((5 : Int) = 5)) (nums s) 0) (h2 : unitF (decide ((5 : Int) = 5)) (nums s) 0 ≤ 56319) (h3 : unitF (decide ((5 : Int) = 5)) (nums s) 2 < 0) (w : World) :
    Calls Try.prog 10 #[.int .i64 5, .string s, .int .i64 m] w (PostP ([-1], s.size, 0) w) := by
  have hs0 := hs
  unfold maxLen at hs
  have hii : (0 : Int) < (s.size : Int) := by omega
  have hwb := wrap64_byte s[0]
  have hwc : IntKind.i64.wrap (s[0].toNat : Int) = (s[0].toNat : Int) := wraps_i64 _ (by omega) (by have := byte_le s[0]; omega)
  have hle := byte_le s[0]
  have hmf := hmf
  have hst := hstf
  have hU := unitF_range (decide ((5 : Int) = 5)) s 0
  have hV := unitF_range (decide ((5 : Int) = 5)) s 2
  have hK := fun i hi W h => kit_unit 5 s hs0 w i hi W h
  generalize unitF (decide ((5 : Int) = 5)) (nums s) 0 = U at *
  generalize unitF (decide ((5 : Int) = 5)) (nums s) 2 = V at *
  have HK := Lib.hid hK
  clear hK
  go_enter Try.func10, Try.ntmps10
  go_wp2_with (first
      | (go_at_call 16; refine (HK.out _ (by first | exact Or.inl rfl | exact Or.inr rfl) _ (by first | assumption | exact PKit.start w _ s)).mono ?_; rintro e w1 ⟨⟨x, rfl, hx0, hx2⟩, hk⟩; first | (obtain rfl := hx0 rfl) | (obtain rfl := hx2 rfl); have hcs := hk.cs)
      | (go_at_call 14; refine (ref_in_t _ _ _ _ (by omega)).mono ?_; rintro e w' ⟨rfl, rfl⟩)
      | (go_at_call 14; refine (ref_in_f _ _ _ _ (by omega)).mono ?_; rintro e w' ⟨rfl, rfl⟩))
  go_quiet (fail)
  go_wp2_with fail
  refine bodyPost_ret (v := .tuple #[_, .int .i64 (s.size : Int), .int .i64 0]) (by simp [results, Try.results10, go_sem] <;> rfl) rfl ⟨_, rfl, ints_lit1 _ _ _ _ hk.bad (by omega), hk.below.trans ⟨rfl, rfl, rfl, Nat.le_refl _, fun _ _ => rfl⟩⟩

set_option maxRecDepth 100000 in
set_option maxHeartbeats 4000000 in
theorem pairs5_alone (s : ByteArray) (h0 : 0 < s.size) (hs : s.size ≤ maxLen) (m : Int) (h1 : 55296 ≤ unitF (decide ((5 : Int) = 5)) (nums s) 0) (h2 : unitF (decide ((5 : Int) = 5)) (nums s) 0 ≤ 56319) (h3 : 0 ≤ unitF (decide ((5 : Int) = 5)) (nums s) 2) (h4 : unitF (decide ((5 : Int) = 5)) (nums s) 2 < 56320 ∨ 57343 < unitF (decide ((5 : Int) = 5)) (nums s) 2) (w : World) :
    Calls Try.prog 10 #[.int .i64 5, .string s, .int .i64 m] w (PostP ([-1], 2, 0) w) := by
  have hs0 := hs
  unfold maxLen at hs
  have hii : (0 : Int) < (s.size : Int) := by omega
  have hwb := wrap64_byte s[0]
  have hwc : IntKind.i64.wrap (s[0].toNat : Int) = (s[0].toNat : Int) := wraps_i64 _ (by omega) (by have := byte_le s[0]; omega)
  have hle := byte_le s[0]
  have hmf := hmf
  have hst := hstf
  have hU := unitF_range (decide ((5 : Int) = 5)) s 0
  have hV := unitF_range (decide ((5 : Int) = 5)) s 2
  have hK := fun i hi W h => kit_unit 5 s hs0 w i hi W h
  generalize unitF (decide ((5 : Int) = 5)) (nums s) 0 = U at *
  generalize unitF (decide ((5 : Int) = 5)) (nums s) 2 = V at *
  have HK := Lib.hid hK
  clear hK
  go_enter Try.func10, Try.ntmps10
  go_wp2_with (first
      | (go_at_call 16; refine (HK.out _ (by first | exact Or.inl rfl | exact Or.inr rfl) _ (by first | assumption | exact PKit.start w _ s)).mono ?_; rintro e w1 ⟨⟨x, rfl, hx0, hx2⟩, hk⟩; first | (obtain rfl := hx0 rfl) | (obtain rfl := hx2 rfl); have hcs := hk.cs)
      | (go_at_call 14; refine (ref_in_t _ _ _ _ (by omega)).mono ?_; rintro e w' ⟨rfl, rfl⟩)
      | (go_at_call 14; refine (ref_in_f _ _ _ _ (by omega)).mono ?_; rintro e w' ⟨rfl, rfl⟩))
  refine bodyPost_ret (v := .tuple #[_, .int .i64 2, .int .i64 0]) (by simp [results, Try.results10, go_sem] <;> rfl) rfl ⟨_, rfl, ints_lit1 _ _ _ _ hk.bad (by omega), hk.below⟩

theorem ref_piece5 (s : ByteArray) (h0 : 0 < s.size) (hs : s.size ≤ maxLen) (m : Int) (w : World) :
    Calls Try.prog 10 #[.int .i64 5, .string s, .int .i64 m] w (PostP (pieceF 5 (nums s) m) w) := by
  have hp : pieceF 5 (nums s) m = piecePairs (decide ((5 : Int) = 5)) (nums s) := rfl
  rw [hp]
  unfold piecePairs
  rw [nums_length]
  by_cases c1 : unitF (decide ((5 : Int) = 5)) (nums s) 0 < 0
  · rw [if_pos c1]; exact pairs5_none s h0 hs m c1 w
  rw [if_neg c1]
  by_cases c2 : 56320 ≤ unitF (decide ((5 : Int) = 5)) (nums s) 0 ∧ unitF (decide ((5 : Int) = 5)) (nums s) 0 ≤ 57343
  · rw [if_pos c2]; exact pairs5_low s h0 hs m c2.1 c2.2 w
  rw [if_neg c2]
  by_cases c3 : ¬ (55296 ≤ unitF (decide ((5 : Int) = 5)) (nums s) 0 ∧ unitF (decide ((5 : Int) = 5)) (nums s) 0 ≤ 56319)
  · rw [if_pos c3]; exact pairs5_one s h0 hs m (by omega) (by omega) w
  rw [if_neg c3]
  by_cases c4 : 56320 ≤ unitF (decide ((5 : Int) = 5)) (nums s) 2 ∧ unitF (decide ((5 : Int) = 5)) (nums s) 2 ≤ 57343
  · rw [if_pos c4]; exact pairs5_pair s h0 hs m (by omega) (by omega) c4.1 c4.2 w
  rw [if_neg c4]
  by_cases c5 : unitF (decide ((5 : Int) = 5)) (nums s) 2 < 0
  · rw [if_pos c5]; exact pairs5_end s h0 hs m (by omega) (by omega) c5 w
  · rw [if_neg c5]; exact pairs5_alone s h0 hs m (by omega) (by omega) (by omega) (by omega) w

set_option maxRecDepth 100000 in
set_option maxHeartbeats 4000000 in
theorem pairs6_none (s : ByteArray) (h0 : 0 < s.size) (hs : s.size ≤ maxLen) (m : Int) (h1 : unitF (decide ((6 : Int) = 5)) (nums s) 0 < 0) (w : World) :
    Calls Try.prog 10 #[.int .i64 6, .string s, .int .i64 m] w (PostP ([-1], 1, 0) w) := by
  have hs0 := hs
  unfold maxLen at hs
  have hii : (0 : Int) < (s.size : Int) := by omega
  have hwb := wrap64_byte s[0]
  have hwc : IntKind.i64.wrap (s[0].toNat : Int) = (s[0].toNat : Int) := wraps_i64 _ (by omega) (by have := byte_le s[0]; omega)
  have hle := byte_le s[0]
  have hmf := hmf
  have hst := hstf
  have hU := unitF_range (decide ((6 : Int) = 5)) s 0
  have hV := unitF_range (decide ((6 : Int) = 5)) s 2
  have hK := fun i hi W h => kit_unit 6 s hs0 w i hi W h
  generalize unitF (decide ((6 : Int) = 5)) (nums s) 0 = U at *
  generalize unitF (decide ((6 : Int) = 5)) (nums s) 2 = V at *
  have HK := Lib.hid hK
  clear hK
  go_enter Try.func10, Try.ntmps10
  go_wp2_with (first
      | (go_at_call 16; refine (HK.out _ (by first | exact Or.inl rfl | exact Or.inr rfl) _ (by first | assumption | exact PKit.start w _ s)).mono ?_; rintro e w1 ⟨⟨x, rfl, hx0, hx2⟩, hk⟩; first | (obtain rfl := hx0 rfl) | (obtain rfl := hx2 rfl); have hcs := hk.cs)
      | (go_at_call 14; refine (ref_in_t _ _ _ _ (by omega)).mono ?_; rintro e w' ⟨rfl, rfl⟩)
      | (go_at_call 14; refine (ref_in_f _ _ _ _ (by omega)).mono ?_; rintro e w' ⟨rfl, rfl⟩))
  refine bodyPost_ret (v := .tuple #[_, .int .i64 1, .int .i64 0]) (by simp [results, Try.results10, go_sem] <;> rfl) rfl ⟨_, rfl, ints_lit1 _ _ _ _ hk.bad (by omega), hk.below⟩

set_option maxRecDepth 100000 in
set_option maxHeartbeats 4000000 in
theorem pairs6_low (s : ByteArray) (h0 : 0 < s.size) (hs : s.size ≤ maxLen) (m : Int) (h1 : 56320 ≤ unitF (decide ((6 : Int) = 5)) (nums s) 0) (h2 : unitF (decide ((6 : Int) = 5)) (nums s) 0 ≤ 57343) (w : World) :
    Calls Try.prog 10 #[.int .i64 6, .string s, .int .i64 m] w (PostP ([-1], 2, 0) w) := by
  have hs0 := hs
  unfold maxLen at hs
  have hii : (0 : Int) < (s.size : Int) := by omega
  have hwb := wrap64_byte s[0]
  have hwc : IntKind.i64.wrap (s[0].toNat : Int) = (s[0].toNat : Int) := wraps_i64 _ (by omega) (by have := byte_le s[0]; omega)
  have hle := byte_le s[0]
  have hmf := hmf
  have hst := hstf
  have hU := unitF_range (decide ((6 : Int) = 5)) s 0
  have hV := unitF_range (decide ((6 : Int) = 5)) s 2
  have hK := fun i hi W h => kit_unit 6 s hs0 w i hi W h
  generalize unitF (decide ((6 : Int) = 5)) (nums s) 0 = U at *
  generalize unitF (decide ((6 : Int) = 5)) (nums s) 2 = V at *
  have HK := Lib.hid hK
  clear hK
  go_enter Try.func10, Try.ntmps10
  go_wp2_with (first
      | (go_at_call 16; refine (HK.out _ (by first | exact Or.inl rfl | exact Or.inr rfl) _ (by first | assumption | exact PKit.start w _ s)).mono ?_; rintro e w1 ⟨⟨x, rfl, hx0, hx2⟩, hk⟩; first | (obtain rfl := hx0 rfl) | (obtain rfl := hx2 rfl); have hcs := hk.cs)
      | (go_at_call 14; refine (ref_in_t _ _ _ _ (by omega)).mono ?_; rintro e w' ⟨rfl, rfl⟩)
      | (go_at_call 14; refine (ref_in_f _ _ _ _ (by omega)).mono ?_; rintro e w' ⟨rfl, rfl⟩))
  refine bodyPost_ret (v := .tuple #[_, .int .i64 2, .int .i64 0]) (by simp [results, Try.results10, go_sem] <;> rfl) rfl ⟨_, rfl, ints_lit1 _ _ _ _ hk.bad (by omega), hk.below⟩

set_option maxRecDepth 100000 in
set_option maxHeartbeats 4000000 in
theorem pairs6_one (s : ByteArray) (h0 : 0 < s.size) (hs : s.size ≤ maxLen) (m : Int) (h1 : 0 ≤ unitF (decide ((6 : Int) = 5)) (nums s) 0) (h2 : unitF (decide ((6 : Int) = 5)) (nums s) 0 < 55296 ∨ 57343 < unitF (decide ((6 : Int) = 5)) (nums s) 0) (w : World) :
    Calls Try.prog 10 #[.int .i64 6, .string s, .int .i64 m] w (PostP ([unitF (decide ((6 : Int) = 5)) (nums s) 0], 2, 0) w) := by
  have hs0 := hs
  unfold maxLen at hs
  have hii : (0 : Int) < (s.size : Int) := by omega
  have hwb := wrap64_byte s[0]
  have hwc : IntKind.i64.wrap (s[0].toNat : Int) = (s[0].toNat : Int) := wraps_i64 _ (by omega) (by have := byte_le s[0]; omega)
  have hle := byte_le s[0]
  have hmf := hmf
  have hst := hstf
  have hU := unitF_range (decide ((6 : Int) = 5)) s 0
  have hV := unitF_range (decide ((6 : Int) = 5)) s 2
  have hK := fun i hi W h => kit_unit 6 s hs0 w i hi W h
  generalize unitF (decide ((6 : Int) = 5)) (nums s) 0 = U at *
  generalize unitF (decide ((6 : Int) = 5)) (nums s) 2 = V at *
  have HK := Lib.hid hK
  clear hK
  go_enter Try.func10, Try.ntmps10
  go_wp2_with (first
      | (go_at_call 16; refine (HK.out _ (by first | exact Or.inl rfl | exact Or.inr rfl) _ (by first | assumption | exact PKit.start w _ s)).mono ?_; rintro e w1 ⟨⟨x, rfl, hx0, hx2⟩, hk⟩; first | (obtain rfl := hx0 rfl) | (obtain rfl := hx2 rfl); have hcs := hk.cs)
      | (go_at_call 14; refine (ref_in_t _ _ _ _ (by omega)).mono ?_; rintro e w' ⟨rfl, rfl⟩)
      | (go_at_call 14; refine (ref_in_f _ _ _ _ (by omega)).mono ?_; rintro e w' ⟨rfl, rfl⟩))
  refine bodyPost_ret (v := .tuple #[_, .int .i64 2, .int .i64 0]) (by simp [results, Try.results10, go_sem] <;> rfl) rfl ⟨_, rfl, ints_lit1 _ _ _ _ (heap_new _ _ _ rfl) (by have := hk.size; omega), below_alloc hk.below _⟩

set_option maxRecDepth 100000 in
set_option maxHeartbeats 4000000 in
theorem pairs6_pair (s : ByteArray) (h0 : 0 < s.size) (hs : s.size ≤ maxLen) (m : Int) (h1 : 55296 ≤ unitF (decide ((6 : Int) = 5)) (nums s) 0) (h2 : unitF (decide ((6 : Int) = 5)) (nums s) 0 ≤ 56319) (h3 : 56320 ≤ unitF (decide ((6 : Int) = 5)) (nums s) 2) (h4 : unitF (decide ((6 : Int) = 5)) (nums s) 2 ≤ 57343) (w : World) :
    Calls Try.prog 10 #[.int .i64 6, .string s, .int .i64 m] w (PostP ([65536 + 1024 * (unitF (decide ((6 : Int) = 5)) (nums s) 0 - 55296) + unitF (decide ((6 : Int) = 5)) (nums s) 2 - 56320], 4, 0) w) := by
  have hs0 := hs
  unfold maxLen at hs
  have hii : (0 : Int) < (s.size : Int) := by omega
  have hwb := wrap64_byte s[0]
  have hwc : IntKind.i64.wrap (s[0].toNat : Int) = (s[0].toNat : Int) := wraps_i64 _ (by omega) (by have := byte_le s[0]; omega)
  have hle := byte_le s[0]
  have hmf := hmf
  have hst := hstf
  have hU := unitF_range (decide ((6 : Int) = 5)) s 0
  have hV := unitF_range (decide ((6 : Int) = 5)) s 2
  have hK := fun i hi W h => kit_unit 6 s hs0 w i hi W h
  generalize unitF (decide ((6 : Int) = 5)) (nums s) 0 = U at *
  generalize unitF (decide ((6 : Int) = 5)) (nums s) 2 = V at *
  have HK := Lib.hid hK
  clear hK
  go_enter Try.func10, Try.ntmps10
  go_wp2_with (first
      | (go_at_call 16; refine (HK.out _ (by first | exact Or.inl rfl | exact Or.inr rfl) _ (by first | assumption | exact PKit.start w _ s)).mono ?_; rintro e w1 ⟨⟨x, rfl, hx0, hx2⟩, hk⟩; first | (obtain rfl := hx0 rfl) | (obtain rfl := hx2 rfl); have hcs := hk.cs)
      | (go_at_call 14; refine (ref_in_t _ _ _ _ (by omega)).mono ?_; rintro e w' ⟨rfl, rfl⟩)
      | (go_at_call 14; refine (ref_in_f _ _ _ _ (by omega)).mono ?_; rintro e w' ⟨rfl, rfl⟩))
  refine bodyPost_ret (v := .tuple #[_, .int .i64 4, .int .i64 0]) (by simp [results, Try.results10, go_sem] <;> rfl) rfl ⟨_, rfl, ints_lit1 _ _ _ _ (heap_new _ _ _ rfl) (by have := hk.size; omega), below_alloc hk.below _⟩

set_option maxRecDepth 100000 in
set_option maxHeartbeats 4000000 in
theorem pairs6_end (s : ByteArray) (h0 : 0 < s.size) (hs : s.size ≤ maxLen) (m : Int) (h1 : 55296 ≤ unitF (decide ((6 : Int) = 5)) (nums s) 0) (h2 : unitF (decide ((6 : Int) = 5)) (nums s) 0 ≤ 56319) (h3 : unitF (decide ((6 : Int) = 5)) (nums s) 2 < 0) (w : World) :
    Calls Try.prog 10 #[.int .i64 6, .string s, .int .i64 m] w (PostP ([-1], s.size, 0) w) := by
  have hs0 := hs
  unfold maxLen at hs
  have hii : (0 : Int) < (s.size : Int) := by omega
  have hwb := wrap64_byte s[0]
  have hwc : IntKind.i64.wrap (s[0].toNat : Int) = (s[0].toNat : Int) := wraps_i64 _ (by omega) (by have := byte_le s[0]; omega)
  have hle := byte_le s[0]
  have hmf := hmf
  have hst := hstf
  have hU := unitF_range (decide ((6 : Int) = 5)) s 0
  have hV := unitF_range (decide ((6 : Int) = 5)) s 2
  have hK := fun i hi W h => kit_unit 6 s hs0 w i hi W h
  generalize unitF (decide ((6 : Int) = 5)) (nums s) 0 = U at *
  generalize unitF (decide ((6 : Int) = 5)) (nums s) 2 = V at *
  have HK := Lib.hid hK
  clear hK
  go_enter Try.func10, Try.ntmps10
  go_wp2_with (first
      | (go_at_call 16; refine (HK.out _ (by first | exact Or.inl rfl | exact Or.inr rfl) _ (by first | assumption | exact PKit.start w _ s)).mono ?_; rintro e w1 ⟨⟨x, rfl, hx0, hx2⟩, hk⟩; first | (obtain rfl := hx0 rfl) | (obtain rfl := hx2 rfl); have hcs := hk.cs)
      | (go_at_call 14; refine (ref_in_t _ _ _ _ (by omega)).mono ?_; rintro e w' ⟨rfl, rfl⟩)
      | (go_at_call 14; refine (ref_in_f _ _ _ _ (by omega)).mono ?_; rintro e w' ⟨rfl, rfl⟩))
  go_quiet (fail)
  go_wp2_with fail
  refine bodyPost_ret (v := .tuple #[_, .int .i64 (s.size : Int), .int .i64 0]) (by simp [results, Try.results10, go_sem] <;> rfl) rfl ⟨_, rfl, ints_lit1 _ _ _ _ hk.bad (by omega), hk.below.trans ⟨rfl, rfl, rfl, Nat.le_refl _, fun _ _ => rfl⟩⟩

set_option maxRecDepth 100000 in
set_option maxHeartbeats 4000000 in
theorem pairs6_alone (s : ByteArray) (h0 : 0 < s.size) (hs : s.size ≤ maxLen) (m : Int) (h1 : 55296 ≤ unitF (decide ((6 : Int) = 5)) (nums s) 0) (h2 : unitF (decide ((6 : Int) = 5)) (nums s) 0 ≤ 56319) (h3 : 0 ≤ unitF (decide ((6 : Int) = 5)) (nums s) 2) (h4 : unitF (decide ((6 : Int) = 5)) (nums s) 2 < 56320 ∨ 57343 < unitF (decide ((6 : Int) = 5)) (nums s) 2) (w : World) :
    Calls Try.prog 10 #[.int .i64 6, .string s, .int .i64 m] w (PostP ([-1], 2, 0) w) := by
  have hs0 := hs
  unfold maxLen at hs
  have hii : (0 : Int) < (s.size : Int) := by omega
  have hwb := wrap64_byte s[0]
  have hwc : IntKind.i64.wrap (s[0].toNat : Int) = (s[0].toNat : Int) := wraps_i64 _ (by omega) (by have := byte_le s[0]; omega)
  have hle := byte_le s[0]
  have hmf := hmf
  have hst := hstf
  have hU := unitF_range (decide ((6 : Int) = 5)) s 0
  have hV := unitF_range (decide ((6 : Int) = 5)) s 2
  have hK := fun i hi W h => kit_unit 6 s hs0 w i hi W h
  generalize unitF (decide ((6 : Int) = 5)) (nums s) 0 = U at *
  generalize unitF (decide ((6 : Int) = 5)) (nums s) 2 = V at *
  have HK := Lib.hid hK
  clear hK
  go_enter Try.func10, Try.ntmps10
  go_wp2_with (first
      | (go_at_call 16; refine (HK.out _ (by first | exact Or.inl rfl | exact Or.inr rfl) _ (by first | assumption | exact PKit.start w _ s)).mono ?_; rintro e w1 ⟨⟨x, rfl, hx0, hx2⟩, hk⟩; first | (obtain rfl := hx0 rfl) | (obtain rfl := hx2 rfl); have hcs := hk.cs)
      | (go_at_call 14; refine (ref_in_t _ _ _ _ (by omega)).mono ?_; rintro e w' ⟨rfl, rfl⟩)
      | (go_at_call 14; refine (ref_in_f _ _ _ _ (by omega)).mono ?_; rintro e w' ⟨rfl, rfl⟩))
  refine bodyPost_ret (v := .tuple #[_, .int .i64 2, .int .i64 0]) (by simp [results, Try.results10, go_sem] <;> rfl) rfl ⟨_, rfl, ints_lit1 _ _ _ _ hk.bad (by omega), hk.below⟩

theorem ref_piece6 (s : ByteArray) (h0 : 0 < s.size) (hs : s.size ≤ maxLen) (m : Int) (w : World) :
    Calls Try.prog 10 #[.int .i64 6, .string s, .int .i64 m] w (PostP (pieceF 6 (nums s) m) w) := by
  have hp : pieceF 6 (nums s) m = piecePairs (decide ((6 : Int) = 5)) (nums s) := rfl
  rw [hp]
  unfold piecePairs
  rw [nums_length]
  by_cases c1 : unitF (decide ((6 : Int) = 5)) (nums s) 0 < 0
  · rw [if_pos c1]; exact pairs6_none s h0 hs m c1 w
  rw [if_neg c1]
  by_cases c2 : 56320 ≤ unitF (decide ((6 : Int) = 5)) (nums s) 0 ∧ unitF (decide ((6 : Int) = 5)) (nums s) 0 ≤ 57343
  · rw [if_pos c2]; exact pairs6_low s h0 hs m c2.1 c2.2 w
  rw [if_neg c2]
  by_cases c3 : ¬ (55296 ≤ unitF (decide ((6 : Int) = 5)) (nums s) 0 ∧ unitF (decide ((6 : Int) = 5)) (nums s) 0 ≤ 56319)
  · rw [if_pos c3]; exact pairs6_one s h0 hs m (by omega) (by omega) w
  rw [if_neg c3]
  by_cases c4 : 56320 ≤ unitF (decide ((6 : Int) = 5)) (nums s) 2 ∧ unitF (decide ((6 : Int) = 5)) (nums s) 2 ≤ 57343
  · rw [if_pos c4]; exact pairs6_pair s h0 hs m (by omega) (by omega) c4.1 c4.2 w
  rw [if_neg c4]
  by_cases c5 : unitF (decide ((6 : Int) = 5)) (nums s) 2 < 0
  · rw [if_pos c5]; exact pairs6_end s h0 hs m (by omega) (by omega) c5 w
  · rw [if_neg c5]; exact pairs6_alone s h0 hs m (by omega) (by omega) (by omega) (by omega) w

end Go.Proofs.Ytefohnbmifblkab
