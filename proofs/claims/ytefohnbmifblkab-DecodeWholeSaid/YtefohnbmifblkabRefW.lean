/- The reference's functions WholeOf, IsRight and right: piece by piece they tell what the decoder tells. -/
import Derived.Test.YtefohnbmifblkabPieceB
import Derived.Test.YtefohnbmifblkabPieceC
import Derived.Test.YtefohnbmifblkabPieceD
import Derived.Test.YtefohnbmifblkabPieceE
import Derived.Test.YtefohnbmifblkabRefB
import Derived.Test.YtefohnbmifblkabWhole
namespace Go.Proofs.Ytefohnbmifblkab
open Go.RowKit
set_option linter.unusedVariables false

theorem nums_behind_ref (s : ByteArray) (j : Nat) : nums (s.extract j s.size) = (nums s).drop j := by
  unfold nums
  rw [← List.map_drop]
  congr 1
  simp [ByteArray.extract, ByteArray.copySlice]
  refine List.take_of_length_le ?_
  rw [List.length_drop, Array.length_toList]
  exact Nat.le_refl _

theorem ref_piece (e : Int) (h1 : 1 ≤ e) (h6 : e ≤ 6) (s : ByteArray) (h0 : 0 < s.size) (hs : s.size ≤ maxLen) (m : Int) (hm : modeOk e m) (w : World) :
    Calls Try.prog 10 #[.int .i64 e, .string s, .int .i64 m] w (PostP (pieceF e (nums s) m) w) := by
  have he : e = 1 ∨ e = 2 ∨ e = 3 ∨ e = 4 ∨ e = 5 ∨ e = 6 := by omega
  rcases he with rfl | rfl | rfl | rfl | rfl | rfl
  · exact ref_piece1 s h0 hs m w
  · exact ref_piece2 s h0 hs m (by unfold modeOk at hm; omega) w
  · exact ref_piece3 s h0 hs m w
  · exact ref_piece4 s h0 hs m w
  · exact ref_piece5 s h0 hs m w
  · exact ref_piece6 s h0 hs m w

/-- A piece of a string: what the walks need of it. -/
theorem piece_of (e : Int) (h1 : 1 ≤ e) (h6 : e ≤ 6) (s : ByteArray) (h0 : 0 < s.size) (hs : s.size ≤ maxLen) (m : Int) (hm : modeOk e m) :
    ∃ (out : List Int) (n : Nat) (next : Int), (∀ W, Calls Try.prog 10 #[.int .i64 e, .string s, .int .i64 m] W fun e' w' =>
        ∃ v, e' = .returned (.tuple #[v, .int .i64 (n : Int), .int .i64 next]) ∧ Ints w' W.heap.size v out ∧ Below W.heap.size W w') ∧
      1 ≤ n ∧ n ≤ s.size ∧ modeOk e next ∧ out.length ≤ 1 ∧ fromS e (mst m) (nums s) = out ++ fromS e (mst next) (nums (s.extract n s.size)) := by
  have hk := piece_ok (e := e) (m := m) (l := nums s) h1 h6 hm (fun b hb => by
    obtain ⟨u, _, rfl⟩ := List.mem_map.1 hb
    have := u.toNat_lt
    omega) (by rw [nums_length]; exact h0)
  obtain ⟨k1, k2, k3, k4, k5⟩ := hk
  rw [nums_length] at k2
  refine ⟨_, _, _, fun W => ref_piece e h1 h6 s h0 hs m hm W, k1, k2, k3, k4, ?_⟩
  rw [nums_behind_ref]
  exact k5

def strLen : Value → Nat
  | .string t => t.size
  | _ => 0

theorem empty_str {t : ByteArray} (h : t.size = 0) : t = ⟨#[]⟩ := toList_nil (List.eq_nil_of_length_eq_zero (by rw [← size_toList]; exact h))

set_option maxRecDepth 100000 in
set_option maxHeartbeats 2000000 in
theorem ref_whole (e : Int) (he1 : 1 ≤ e) (he6 : e ≤ 6) (s : ByteArray) (hs : s.size ≤ 4000) (w : World) :
    Calls Try.prog 5 #[.int .i64 e, .string s] w (Post2 (wholeS e (nums s)) 0 w) := by
  have hsz : (s.size : Int) ≤ 4000 := by omega
  generalize hA : wholeS e (nums s) = R
  have HA := Lib.hid hA
  clear hA
  go_enter Try.func5, Try.ntmps5
  go_wp2_with fail
  go_loopw [1, 6, 7] (fun sv av mv wr => ∃ (t : ByteArray) (m : Int) (out : List Int), sv = .string t ∧ mv = .int .i64 m ∧ t.size ≤ s.size ∧ out.length + t.size ≤ s.size ∧ modeOk e m ∧ out ++ fromS e (mst m) (nums t) = R ∧
    Ints wr w.heap.size av out ∧ Below w.heap.size w wr) (fun sv _ _ _ => strLen sv)
  case atStart => exact ⟨s, 0, [], rfl, rfl, Nat.le_refl _, by simp, Or.inl rfl, by rw [← HA.out]; rfl, ints_nil _ _, Below.refl _ _⟩
  case round =>
    obtain ⟨t, m, out, rfl, rfl, ht, hlen, hm, hout, hi, hb⟩ := hrel
    by_cases h0 : t.size = 0
    · obtain rfl := empty_str h0
      have hn : nums ⟨#[]⟩ = [] := rfl
      have hR : R = out := by rw [← hout, hn, from_nil]; simp [endS]
      subst hR
      go_wp2_with fail
      refine bodyPost_ret (v := .tuple #[_, .int .i64 0]) (by simp [results, Try.results5, go_sem] <;> rfl) rfl ⟨_, rfl, hi, hb⟩
    · obtain ⟨o, n, next, hcall, hn1, hn2, hmn, hol, hfr⟩ := piece_of e he1 he6 t (by omega) (by unfold maxLen; omega) m hm
      have hne : ¬ t.toList = [] := fun h => h0 (by rw [size_toList, h]; rfl)
      have hne2 : (t.toList == []) = false := by simpa using hne
      rw [hfr, ← List.append_assoc] at hout
      have hn3 : (n : Int) ≤ (t.size : Int) := by omega
      have HC := Lib.hid hcall
      have HO := Lib.hid hout
      clear hcall hout hfr
      go_wp2_with (first
        | (go_at_call 10; refine (HC.out _).mono ?_; rintro e' w1 ⟨v1, rfl, hi1, hb1⟩)
        | (at_builtin; refine wpList_app rfl _ _ rfl w.heap.size _ _ _ out o rfl rfl (hi.below hb1 (Nat.le_refl _)) hi1 (by omega) (Nat.le_trans hb.size hb1.size) ?_; rintro v3 w3 hi3 hb3))
      go_roundw
      case rel => exact ⟨t.extract n t.size, next, out ++ o, by go_num, rfl, by simp; omega, by simp; omega, hmn, HO.out, hi3, (hb.trans (hb1.mono hb.size)).trans hb3⟩
      case measure => simp [strLen]; omega

theorem ref_whole_kind (e : Int) (s : ByteArray) (he : e < 1 ∨ 6 < e) (w : World) :
    Calls Try.prog 5 #[.int .i64 e, .string s] w (Post2 [] 2 w) := by
  rcases he with he | he
  all_goals
    go_enter Try.func5, Try.ntmps5
    go_wp2
    refine bodyPost_ret (v := .tuple #[.slice none 0 0, .int .i64 2]) (by simp [results, Try.results5, go_sem]) rfl ⟨_, rfl, ints_nil _ _, Below.refl _ _⟩
theorem ref_whole_long (e : Int) (s : ByteArray) (he1 : 1 ≤ e) (he6 : e ≤ 6) (hl : 4000 < s.size) (w : World) :
    Calls Try.prog 5 #[.int .i64 e, .string s] w (Post2 [] 4 w) := by
  have hl2 : (4000 : Int) < (s.size : Int) := by omega
  go_enter Try.func5, Try.ntmps5
  go_wp2
  refine bodyPost_ret (v := .tuple #[.slice none 0 0, .int .i64 4]) (by simp [results, Try.results5, go_sem]) rfl ⟨_, rfl, ints_nil _ _, Below.refl _ _⟩

end Go.Proofs.Ytefohnbmifblkab
