/- One byte: the program's function Step of package decode computes stepS, for every encoding, every good state and every byte. -/
import Derived.Test.YtefohnbmifblkabMem
import Derived.Test.YtefohnbmifblkabPlainB
import Derived.Test.YtefohnbmifblkabGood
import Derived.Test.YtefohnbmifblkabUtf
import Derived.Test.YtefohnbmifblkabTwin
import Derived.Test.YtefohnbmifblkabShiftB
import Derived.Test.YtefohnbmifblkabPairs
namespace Go.Proofs.Ytefohnbmifblkab
open Go.RowKit
set_option linter.unusedVariables false

/-- The end of Step and of Feed: the new state, what they tell, an error's number. -/
def PostE (st : St) (out : List Int) (code : Int) (w : World) (e : Ending) (w' : World) : Prop :=
  ∃ v, e = .returned (.tuple #[st.val, v, .int .i64 code]) ∧ Ints w' w.heap.size v out ∧ Below w.heap.size w w'
/-- The end of one round, its state written out. -/
def PostR (r : St × List Int × Bool) (w : World) (e : Ending) (w' : World) : Prop :=
  ∃ v, e = .returned (.tuple #[.agg #[.int .i64 r.1.need, .int .i64 r.1.code, .int .i64 r.1.frm, .int .i64 r.1.upto, .string (strOfNums r.1.kept), .int .i64 r.1.half, .int .i64 r.1.mode], v, .bool r.2.2])
    ∧ Ints w' w.heap.size v r.2.1 ∧ Below w.heap.size w w'

theorem nums_strOfNums {k : List Int} (h : ∀ x ∈ k, 0 ≤ x ∧ x ≤ 255) : nums (strOfNums k) = k := by
  unfold nums strOfNums
  simp only [List.map_map]
  refine (List.map_congr_left ?_).trans (List.map_id k)
  intro x hx
  have := h x hx
  simp [UInt8.toNat_ofNat']
  omega

/-- Good, asked of a state. -/
theorem good_st (e : Int) (s : St) (hs : ∀ x ∈ s.kept, 0 ≤ x ∧ x ≤ 255) (w : World) :
    Calls Try.prog 12 #[.int .i64 e, s.val] w fun e' w' => e' = .returned (.bool (goodS e s)) ∧ w' = w.alloc (.cells s.cells 30) := by
  have h := good_any e s.need s.code s.frm s.upto s.half s.mode (strOfNums s.kept) w
  rw [nums_strOfNums hs] at h
  exact h

theorem rounds_stop {e b : Int} {k : Nat} {s : St} {all : List Int} (hk : k < 3) (h : (oneS e s b).2.2 = false) :
    rounds e b (3 - k) s all = ((oneS e s b).1, all ++ (oneS e s b).2.1) := by
  obtain ⟨j, hj⟩ : ∃ j, 3 - k = j + 1 := ⟨2 - k, by omega⟩
  rw [hj]
  simp [rounds, h]
theorem rounds_on {e b : Int} {k : Nat} {s : St} {all : List Int} (hk : k < 3) (h : (oneS e s b).2.2 = true) :
    rounds e b (3 - (k + 1)) (oneS e s b).1 (all ++ (oneS e s b).2.1) = rounds e b (3 - k) s all := by
  obtain ⟨j, hj⟩ : ∃ j, 3 - k = j + 1 := ⟨2 - k, by omega⟩
  have hj2 : 3 - (k + 1) = j := by omega
  rw [hj, hj2]
  simp [rounds, h]

/-- What the loop of Step carries. -/
def StepRel (e : Int) (s : St) (b : Int) (w : World) (k : Nat) (s' : St) (all : List Int) (v : Value) (wr : World) : Prop :=
  k ≤ 3 ∧ Ints wr (w.heap.size + 2) v all ∧ Box wr w.heap.size s' ∧ Box wr (w.heap.size + 1) {} ∧ Below w.heap.size w wr ∧ okS e s' ∧ all.length ≤ 2 * k
    ∧ rounds e b (3 - k) s' all = rounds e b 3 s []

theorem step_end {e b : Int} {s s' : St} {all : List Int} {w W : World} {v : Value} (hq : (s', all) = rounds e b 3 s []) (hi : Ints W (w.heap.size + 2) v all) (hbl : Below w.heap.size w W) (t : St) :
    PostE (stepS e s b).1 (stepS e s b).2 0 w (.returned (.tuple #[s'.val, v, .int .i64 0])) (put7 W (w.heap.size + 1) t) := by
  have h1 : stepS e s b = (s', all) := hq.symm
  rw [h1]
  exact ⟨v, rfl, Ints.mono (Ints.put7 hi (by omega) t) (by omega), below_put7 hbl (by omega) t⟩

theorem pairs_ok (e : Int) (he : e = 5 ∨ e = 6) (s : St) (b : Int) (low : Bool) (hb0 : 0 ≤ b) (hb1 : b ≤ 255) (h : okS e s) (w : World) :
    Calls Try.prog 22 #[s.val, .int .i64 b, .bool low] w (Post3 (pairsS s b low) w) := by
  obtain ⟨k, hf, rfl, hk, hh⟩ := goodPairs_cases he h.1
  refine pairs_any 0 0 0 0 hf 0 b k low hb0 hb1 ?_ hh w
  rcases hk with rfl | ⟨x, rfl⟩
  · exact Or.inl rfl
  · exact Or.inr ⟨x, rfl, (h.2 x (by simp)).1, (h.2 x (by simp)).2⟩

set_option maxRecDepth 100000 in
set_option maxHeartbeats 1000000 in
theorem step_1 (s : St) (b : Int) (hb0 : 0 ≤ b) (hb1 : b ≤ 255) (hok : okS 1 s) (w : World) :
    Calls Try.prog 11 #[.int .i64 1, s.val, .int .i64 b] w (PostE (stepS 1 s b).1 (stepS 1 s b).2 0 w) := by
  have hg := hok.1
  have hkk := Lib.hid hok
  clear hok
  unfold St.val
  go_enter Try.func11, Try.ntmps11
  go_wp2_with (go_at_call 12; refine (good_st 1 s hkk.out.2 _).mono ?_; rintro e w' ⟨rfl, rfl⟩)
  go_loopw [9, 34] (fun v i wr => ∃ (k : Nat) (s' : St) (all : List Int), i = .int .i64 k ∧ StepRel 1 s b w k s' all v wr) (fun _ i _ => 3 - (intOf i).toNat)
  case atStart =>
    refine ⟨0, s, [], rfl, by omega, ints_nil _ _, ?_, ?_, ?_, hkk.out, by simp, rfl⟩
    · exact (heap_old _ _ _ (by simp <;> omega)).trans ((heap_old _ _ _ (by simp <;> omega)).trans (heap_new _ _ _ (by simp)))
    · exact (heap_old _ _ _ (by simp <;> omega)).trans (heap_new _ _ _ (by simp))
    · repeat (first | exact Below.refl _ _ | apply Below.drew | apply below_alloc)
  case round =>
    obtain ⟨k, s', all, rfl, hk, hi, hbx, hbr, hbl, hok', hlen, heq⟩ := hrel
    have hsz : w.heap.size + 1 < wr.heap.size := hbr.lt
    have hc1 := hbx.cell
    have hf1 := hbx.frozen
    have hg3 := hbr.cell
    have hf2 := hbr.frozen
    have hQ := Lib.hid heq
    clear heq
    by_cases hk3 : k < 3
    · obtain ⟨r, hr⟩ : ∃ r, r = utfS s' b := ⟨_, rfl⟩
      have hcall : ∀ W, Calls Try.prog 18 #[s'.val, .int .i64 b] W (PostR r W) := fun W => by rw [hr]; exact utf_any s' b hb0 hb1 hok'.1 W
      have hone : oneS 1 s' b = r := by rw [hr]; rfl
      have hro : okS 1 r.1 := by rw [← hone]; exact one_ok (by omega) (by omega) hb0 hb1 hok'
      have hrl : r.2.1.length ≤ 2 := by rw [← hone]; exact one_len 1 s' b
      have HC := Lib.hid hcall
      have HR := Lib.hid hone
      have HI := Lib.hid hi
      have HRO := Lib.hid hro
      clear hcall hr hone hi hok' hro
      rcases hag : r.2.2 with _ | _
      · go_wp2_with (first
          | (go_at_call 18; refine (HC.out _).mono ?_; rintro e w1 ⟨v1, rfl, hi1, hb1⟩; have hd1 := (hbx.below hb1 hbx.lt).cell; have he1 := (hbx.below hb1 hbx.lt).frozen; have hs1 := hb1.size)
          | (at_builtin; refine wpList_app rfl _ _ rfl (w.heap.size + 2) wr.heap.size _ _ all r.2.1 rfl rfl ?_ ?_ ?_ ?_ ?_; exact Ints.put7 (HI.out.below hb1 (Nat.le_refl _)) (by omega) r.1; exact Ints.put7 hi1 (by omega) r.1; omega; (rw [size_put7]; omega); rintro v2 w2 hi2 hb2; obtain ⟨hbx2, hbr2, hbl2⟩ := round_facts hbx hbr hbl hb1 hb2; clear hd1 he1 hb2; have hg2 := hbx2.cell; have hh2 := hbx2.frozen; have hg3 := hbr2.cell; have hh3 := hbr2.frozen))
        refine bodyPost_ret (v := .tuple #[(r.1).val, v2, .int .i64 0]) (by simp [results, Try.results11, go_sem, St.val, hg3]) rfl ?_
        exact step_end (by rw [← hQ.out, rounds_stop hk3 (by rw [HR.out]; exact hag), HR.out]) hi2 hbl2 r.1
      · go_wp2_with (first
          | (go_at_call 18; refine (HC.out _).mono ?_; rintro e w1 ⟨v1, rfl, hi1, hb1⟩; have hd1 := (hbx.below hb1 hbx.lt).cell; have he1 := (hbx.below hb1 hbx.lt).frozen; have hs1 := hb1.size)
          | (at_builtin; refine wpList_app rfl _ _ rfl (w.heap.size + 2) wr.heap.size _ _ all r.2.1 rfl rfl ?_ ?_ ?_ ?_ ?_; exact Ints.put7 (HI.out.below hb1 (Nat.le_refl _)) (by omega) r.1; exact Ints.put7 hi1 (by omega) r.1; omega; (rw [size_put7]; omega); rintro v2 w2 hi2 hb2; obtain ⟨hbx2, hbr2, hbl2⟩ := round_facts hbx hbr hbl hb1 hb2; clear hd1 he1 hb2; have hg2 := hbx2.cell; have hh2 := hbx2.frozen; have hg3 := hbr2.cell; have hh3 := hbr2.frozen))
        go_roundw
        case rel => exact ⟨k + 1, r.1, all ++ r.2.1, by go_num, by omega, hi2, hbx2, hbr2, hbl2, HRO.out, by simp; omega, by rw [← hQ.out, ← rounds_on hk3 (by rw [HR.out]; exact hag), HR.out]⟩
        case measure => simp [intOf]; omega
    · obtain rfl : k = 3 := by omega
      have HI := Lib.hid hi
      clear hi hok'
      go_wp2_with fail
      refine bodyPost_ret (v := .tuple #[(s').val, u9, .int .i64 0]) (by simp [results, Try.results11, go_sem, St.val, hg3]) rfl ?_
      exact step_end (by rw [← hQ.out]; rfl) HI.out hbl s'

set_option maxRecDepth 100000 in
set_option maxHeartbeats 1000000 in
theorem step_2 (s : St) (b : Int) (hb0 : 0 ≤ b) (hb1 : b ≤ 255) (hok : okS 2 s) (w : World) :
    Calls Try.prog 11 #[.int .i64 2, s.val, .int .i64 b] w (PostE (stepS 2 s b).1 (stepS 2 s b).2 0 w) := by
  have hg := hok.1
  have hkk := Lib.hid hok
  clear hok
  unfold St.val
  go_enter Try.func11, Try.ntmps11
  go_wp2_with (go_at_call 12; refine (good_st 2 s hkk.out.2 _).mono ?_; rintro e w' ⟨rfl, rfl⟩)
  go_loopw [9, 34] (fun v i wr => ∃ (k : Nat) (s' : St) (all : List Int), i = .int .i64 k ∧ StepRel 2 s b w k s' all v wr) (fun _ i _ => 3 - (intOf i).toNat)
  case atStart =>
    refine ⟨0, s, [], rfl, by omega, ints_nil _ _, ?_, ?_, ?_, hkk.out, by simp, rfl⟩
    · exact (heap_old _ _ _ (by simp <;> omega)).trans ((heap_old _ _ _ (by simp <;> omega)).trans (heap_new _ _ _ (by simp)))
    · exact (heap_old _ _ _ (by simp <;> omega)).trans (heap_new _ _ _ (by simp))
    · repeat (first | exact Below.refl _ _ | apply Below.drew | apply below_alloc)
  case round =>
    obtain ⟨k, s', all, rfl, hk, hi, hbx, hbr, hbl, hok', hlen, heq⟩ := hrel
    have hsz : w.heap.size + 1 < wr.heap.size := hbr.lt
    have hc1 := hbx.cell
    have hf1 := hbx.frozen
    have hg3 := hbr.cell
    have hf2 := hbr.frozen
    have hQ := Lib.hid heq
    clear heq
    by_cases hk3 : k < 3
    · obtain ⟨r, hr⟩ : ∃ r, r = shiftS s' b := ⟨_, rfl⟩
      have hcall : ∀ W, Calls Try.prog 19 #[s'.val, .int .i64 b] W (PostR r W) := fun W => by rw [hr]; exact shift_any s' b hb0 hb1 hok'.1 W
      have hone : oneS 2 s' b = r := by rw [hr]; rfl
      have hro : okS 2 r.1 := by rw [← hone]; exact one_ok (by omega) (by omega) hb0 hb1 hok'
      have hrl : r.2.1.length ≤ 2 := by rw [← hone]; exact one_len 2 s' b
      have HC := Lib.hid hcall
      have HR := Lib.hid hone
      have HI := Lib.hid hi
      have HRO := Lib.hid hro
      clear hcall hr hone hi hok' hro
      rcases hag : r.2.2 with _ | _
      · go_wp2_with (first
          | (go_at_call 19; refine (HC.out _).mono ?_; rintro e w1 ⟨v1, rfl, hi1, hb1⟩; have hd1 := (hbx.below hb1 hbx.lt).cell; have he1 := (hbx.below hb1 hbx.lt).frozen; have hs1 := hb1.size)
          | (at_builtin; refine wpList_app rfl _ _ rfl (w.heap.size + 2) wr.heap.size _ _ all r.2.1 rfl rfl ?_ ?_ ?_ ?_ ?_; exact Ints.put7 (HI.out.below hb1 (Nat.le_refl _)) (by omega) r.1; exact Ints.put7 hi1 (by omega) r.1; omega; (rw [size_put7]; omega); rintro v2 w2 hi2 hb2; obtain ⟨hbx2, hbr2, hbl2⟩ := round_facts hbx hbr hbl hb1 hb2; clear hd1 he1 hb2; have hg2 := hbx2.cell; have hh2 := hbx2.frozen; have hg3 := hbr2.cell; have hh3 := hbr2.frozen))
        refine bodyPost_ret (v := .tuple #[(r.1).val, v2, .int .i64 0]) (by simp [results, Try.results11, go_sem, St.val, hg3]) rfl ?_
        exact step_end (by rw [← hQ.out, rounds_stop hk3 (by rw [HR.out]; exact hag), HR.out]) hi2 hbl2 r.1
      · go_wp2_with (first
          | (go_at_call 19; refine (HC.out _).mono ?_; rintro e w1 ⟨v1, rfl, hi1, hb1⟩; have hd1 := (hbx.below hb1 hbx.lt).cell; have he1 := (hbx.below hb1 hbx.lt).frozen; have hs1 := hb1.size)
          | (at_builtin; refine wpList_app rfl _ _ rfl (w.heap.size + 2) wr.heap.size _ _ all r.2.1 rfl rfl ?_ ?_ ?_ ?_ ?_; exact Ints.put7 (HI.out.below hb1 (Nat.le_refl _)) (by omega) r.1; exact Ints.put7 hi1 (by omega) r.1; omega; (rw [size_put7]; omega); rintro v2 w2 hi2 hb2; obtain ⟨hbx2, hbr2, hbl2⟩ := round_facts hbx hbr hbl hb1 hb2; clear hd1 he1 hb2; have hg2 := hbx2.cell; have hh2 := hbx2.frozen; have hg3 := hbr2.cell; have hh3 := hbr2.frozen))
        go_roundw
        case rel => exact ⟨k + 1, r.1, all ++ r.2.1, by go_num, by omega, hi2, hbx2, hbr2, hbl2, HRO.out, by simp; omega, by rw [← hQ.out, ← rounds_on hk3 (by rw [HR.out]; exact hag), HR.out]⟩
        case measure => simp [intOf]; omega
    · obtain rfl : k = 3 := by omega
      have HI := Lib.hid hi
      clear hi hok'
      go_wp2_with fail
      refine bodyPost_ret (v := .tuple #[(s').val, u9, .int .i64 0]) (by simp [results, Try.results11, go_sem, St.val, hg3]) rfl ?_
      exact step_end (by rw [← hQ.out]; rfl) HI.out hbl s'

set_option maxRecDepth 100000 in
set_option maxHeartbeats 1000000 in
theorem step_3 (s : St) (b : Int) (hb0 : 0 ≤ b) (hb1 : b ≤ 255) (hok : okS 3 s) (w : World) :
    Calls Try.prog 11 #[.int .i64 3, s.val, .int .i64 b] w (PostE (stepS 3 s b).1 (stepS 3 s b).2 0 w) := by
  have hg := hok.1
  have hkk := Lib.hid hok
  clear hok
  unfold St.val
  go_enter Try.func11, Try.ntmps11
  go_wp2_with (go_at_call 12; refine (good_st 3 s hkk.out.2 _).mono ?_; rintro e w' ⟨rfl, rfl⟩)
  go_loopw [9, 34] (fun v i wr => ∃ (k : Nat) (s' : St) (all : List Int), i = .int .i64 k ∧ StepRel 3 s b w k s' all v wr) (fun _ i _ => 3 - (intOf i).toNat)
  case atStart =>
    refine ⟨0, s, [], rfl, by omega, ints_nil _ _, ?_, ?_, ?_, hkk.out, by simp, rfl⟩
    · exact (heap_old _ _ _ (by simp <;> omega)).trans ((heap_old _ _ _ (by simp <;> omega)).trans (heap_new _ _ _ (by simp)))
    · exact (heap_old _ _ _ (by simp <;> omega)).trans (heap_new _ _ _ (by simp))
    · repeat (first | exact Below.refl _ _ | apply Below.drew | apply below_alloc)
  case round =>
    obtain ⟨k, s', all, rfl, hk, hi, hbx, hbr, hbl, hok', hlen, heq⟩ := hrel
    have hsz : w.heap.size + 1 < wr.heap.size := hbr.lt
    have hc1 := hbx.cell
    have hf1 := hbx.frozen
    have hg3 := hbr.cell
    have hf2 := hbr.frozen
    have hQ := Lib.hid heq
    clear heq
    by_cases hk3 : k < 3
    · obtain ⟨r, hr⟩ : ∃ r, r = twinS s' b := ⟨_, rfl⟩
      have hcall : ∀ W, Calls Try.prog 20 #[s'.val, .int .i64 b] W (PostR r W) := fun W => by rw [hr]; exact twin_any s' b hb0 hb1 hok'.1 W
      have hone : oneS 3 s' b = r := by rw [hr]; rfl
      have hro : okS 3 r.1 := by rw [← hone]; exact one_ok (by omega) (by omega) hb0 hb1 hok'
      have hrl : r.2.1.length ≤ 2 := by rw [← hone]; exact one_len 3 s' b
      have HC := Lib.hid hcall
      have HR := Lib.hid hone
      have HI := Lib.hid hi
      have HRO := Lib.hid hro
      clear hcall hr hone hi hok' hro
      rcases hag : r.2.2 with _ | _
      · go_wp2_with (first
          | (go_at_call 20; refine (HC.out _).mono ?_; rintro e w1 ⟨v1, rfl, hi1, hb1⟩; have hd1 := (hbx.below hb1 hbx.lt).cell; have he1 := (hbx.below hb1 hbx.lt).frozen; have hs1 := hb1.size)
          | (at_builtin; refine wpList_app rfl _ _ rfl (w.heap.size + 2) wr.heap.size _ _ all r.2.1 rfl rfl ?_ ?_ ?_ ?_ ?_; exact Ints.put7 (HI.out.below hb1 (Nat.le_refl _)) (by omega) r.1; exact Ints.put7 hi1 (by omega) r.1; omega; (rw [size_put7]; omega); rintro v2 w2 hi2 hb2; obtain ⟨hbx2, hbr2, hbl2⟩ := round_facts hbx hbr hbl hb1 hb2; clear hd1 he1 hb2; have hg2 := hbx2.cell; have hh2 := hbx2.frozen; have hg3 := hbr2.cell; have hh3 := hbr2.frozen))
        refine bodyPost_ret (v := .tuple #[(r.1).val, v2, .int .i64 0]) (by simp [results, Try.results11, go_sem, St.val, hg3]) rfl ?_
        exact step_end (by rw [← hQ.out, rounds_stop hk3 (by rw [HR.out]; exact hag), HR.out]) hi2 hbl2 r.1
      · go_wp2_with (first
          | (go_at_call 20; refine (HC.out _).mono ?_; rintro e w1 ⟨v1, rfl, hi1, hb1⟩; have hd1 := (hbx.below hb1 hbx.lt).cell; have he1 := (hbx.below hb1 hbx.lt).frozen; have hs1 := hb1.size)
          | (at_builtin; refine wpList_app rfl _ _ rfl (w.heap.size + 2) wr.heap.size _ _ all r.2.1 rfl rfl ?_ ?_ ?_ ?_ ?_; exact Ints.put7 (HI.out.below hb1 (Nat.le_refl _)) (by omega) r.1; exact Ints.put7 hi1 (by omega) r.1; omega; (rw [size_put7]; omega); rintro v2 w2 hi2 hb2; obtain ⟨hbx2, hbr2, hbl2⟩ := round_facts hbx hbr hbl hb1 hb2; clear hd1 he1 hb2; have hg2 := hbx2.cell; have hh2 := hbx2.frozen; have hg3 := hbr2.cell; have hh3 := hbr2.frozen))
        go_roundw
        case rel => exact ⟨k + 1, r.1, all ++ r.2.1, by go_num, by omega, hi2, hbx2, hbr2, hbl2, HRO.out, by simp; omega, by rw [← hQ.out, ← rounds_on hk3 (by rw [HR.out]; exact hag), HR.out]⟩
        case measure => simp [intOf]; omega
    · obtain rfl : k = 3 := by omega
      have HI := Lib.hid hi
      clear hi hok'
      go_wp2_with fail
      refine bodyPost_ret (v := .tuple #[(s').val, u9, .int .i64 0]) (by simp [results, Try.results11, go_sem, St.val, hg3]) rfl ?_
      exact step_end (by rw [← hQ.out]; rfl) HI.out hbl s'

set_option maxRecDepth 100000 in
set_option maxHeartbeats 1000000 in
theorem step_5 (s : St) (b : Int) (hb0 : 0 ≤ b) (hb1 : b ≤ 255) (hok : okS 5 s) (w : World) :
    Calls Try.prog 11 #[.int .i64 5, s.val, .int .i64 b] w (PostE (stepS 5 s b).1 (stepS 5 s b).2 0 w) := by
  have hg := hok.1
  have hkk := Lib.hid hok
  clear hok
  unfold St.val
  go_enter Try.func11, Try.ntmps11
  go_wp2_with (go_at_call 12; refine (good_st 5 s hkk.out.2 _).mono ?_; rintro e w' ⟨rfl, rfl⟩)
  go_loopw [9, 34] (fun v i wr => ∃ (k : Nat) (s' : St) (all : List Int), i = .int .i64 k ∧ StepRel 5 s b w k s' all v wr) (fun _ i _ => 3 - (intOf i).toNat)
  case atStart =>
    refine ⟨0, s, [], rfl, by omega, ints_nil _ _, ?_, ?_, ?_, hkk.out, by simp, rfl⟩
    · exact (heap_old _ _ _ (by simp <;> omega)).trans ((heap_old _ _ _ (by simp <;> omega)).trans (heap_new _ _ _ (by simp)))
    · exact (heap_old _ _ _ (by simp <;> omega)).trans (heap_new _ _ _ (by simp))
    · repeat (first | exact Below.refl _ _ | apply Below.drew | apply below_alloc)
  case round =>
    obtain ⟨k, s', all, rfl, hk, hi, hbx, hbr, hbl, hok', hlen, heq⟩ := hrel
    have hsz : w.heap.size + 1 < wr.heap.size := hbr.lt
    have hc1 := hbx.cell
    have hf1 := hbx.frozen
    have hg3 := hbr.cell
    have hf2 := hbr.frozen
    have hQ := Lib.hid heq
    clear heq
    by_cases hk3 : k < 3
    · obtain ⟨r, hr⟩ : ∃ r, r = pairsS s' b true := ⟨_, rfl⟩
      have hcall : ∀ W, Calls Try.prog 22 #[s'.val, .int .i64 b, .bool true] W (PostR r W) := fun W => by rw [hr]; exact pairs_ok 5 (Or.inl rfl) s' b true hb0 hb1 hok' W
      have hone : oneS 5 s' b = r := by rw [hr]; rfl
      have hro : okS 5 r.1 := by rw [← hone]; exact one_ok (by omega) (by omega) hb0 hb1 hok'
      have hrl : r.2.1.length ≤ 2 := by rw [← hone]; exact one_len 5 s' b
      have HC := Lib.hid hcall
      have HR := Lib.hid hone
      have HI := Lib.hid hi
      have HRO := Lib.hid hro
      clear hcall hr hone hi hok' hro
      rcases hag : r.2.2 with _ | _
      · go_wp2_with (first
          | (go_at_call 22; refine (HC.out _).mono ?_; rintro e w1 ⟨v1, rfl, hi1, hb1⟩; have hd1 := (hbx.below hb1 hbx.lt).cell; have he1 := (hbx.below hb1 hbx.lt).frozen; have hs1 := hb1.size)
          | (at_builtin; refine wpList_app rfl _ _ rfl (w.heap.size + 2) wr.heap.size _ _ all r.2.1 rfl rfl ?_ ?_ ?_ ?_ ?_; exact Ints.put7 (HI.out.below hb1 (Nat.le_refl _)) (by omega) r.1; exact Ints.put7 hi1 (by omega) r.1; omega; (rw [size_put7]; omega); rintro v2 w2 hi2 hb2; obtain ⟨hbx2, hbr2, hbl2⟩ := round_facts hbx hbr hbl hb1 hb2; clear hd1 he1 hb2; have hg2 := hbx2.cell; have hh2 := hbx2.frozen; have hg3 := hbr2.cell; have hh3 := hbr2.frozen))
        refine bodyPost_ret (v := .tuple #[(r.1).val, v2, .int .i64 0]) (by simp [results, Try.results11, go_sem, St.val, hg3]) rfl ?_
        exact step_end (by rw [← hQ.out, rounds_stop hk3 (by rw [HR.out]; exact hag), HR.out]) hi2 hbl2 r.1
      · go_wp2_with (first
          | (go_at_call 22; refine (HC.out _).mono ?_; rintro e w1 ⟨v1, rfl, hi1, hb1⟩; have hd1 := (hbx.below hb1 hbx.lt).cell; have he1 := (hbx.below hb1 hbx.lt).frozen; have hs1 := hb1.size)
          | (at_builtin; refine wpList_app rfl _ _ rfl (w.heap.size + 2) wr.heap.size _ _ all r.2.1 rfl rfl ?_ ?_ ?_ ?_ ?_; exact Ints.put7 (HI.out.below hb1 (Nat.le_refl _)) (by omega) r.1; exact Ints.put7 hi1 (by omega) r.1; omega; (rw [size_put7]; omega); rintro v2 w2 hi2 hb2; obtain ⟨hbx2, hbr2, hbl2⟩ := round_facts hbx hbr hbl hb1 hb2; clear hd1 he1 hb2; have hg2 := hbx2.cell; have hh2 := hbx2.frozen; have hg3 := hbr2.cell; have hh3 := hbr2.frozen))
        go_roundw
        case rel => exact ⟨k + 1, r.1, all ++ r.2.1, by go_num, by omega, hi2, hbx2, hbr2, hbl2, HRO.out, by simp; omega, by rw [← hQ.out, ← rounds_on hk3 (by rw [HR.out]; exact hag), HR.out]⟩
        case measure => simp [intOf]; omega
    · obtain rfl : k = 3 := by omega
      have HI := Lib.hid hi
      clear hi hok'
      go_wp2_with fail
      refine bodyPost_ret (v := .tuple #[(s').val, u9, .int .i64 0]) (by simp [results, Try.results11, go_sem, St.val, hg3]) rfl ?_
      exact step_end (by rw [← hQ.out]; rfl) HI.out hbl s'

set_option maxRecDepth 100000 in
set_option maxHeartbeats 1000000 in
theorem step_6 (s : St) (b : Int) (hb0 : 0 ≤ b) (hb1 : b ≤ 255) (hok : okS 6 s) (w : World) :
    Calls Try.prog 11 #[.int .i64 6, s.val, .int .i64 b] w (PostE (stepS 6 s b).1 (stepS 6 s b).2 0 w) := by
  have hg := hok.1
  have hkk := Lib.hid hok
  clear hok
  unfold St.val
  go_enter Try.func11, Try.ntmps11
  go_wp2_with (go_at_call 12; refine (good_st 6 s hkk.out.2 _).mono ?_; rintro e w' ⟨rfl, rfl⟩)
  go_loopw [9, 34] (fun v i wr => ∃ (k : Nat) (s' : St) (all : List Int), i = .int .i64 k ∧ StepRel 6 s b w k s' all v wr) (fun _ i _ => 3 - (intOf i).toNat)
  case atStart =>
    refine ⟨0, s, [], rfl, by omega, ints_nil _ _, ?_, ?_, ?_, hkk.out, by simp, rfl⟩
    · exact (heap_old _ _ _ (by simp <;> omega)).trans ((heap_old _ _ _ (by simp <;> omega)).trans (heap_new _ _ _ (by simp)))
    · exact (heap_old _ _ _ (by simp <;> omega)).trans (heap_new _ _ _ (by simp))
    · repeat (first | exact Below.refl _ _ | apply Below.drew | apply below_alloc)
  case round =>
    obtain ⟨k, s', all, rfl, hk, hi, hbx, hbr, hbl, hok', hlen, heq⟩ := hrel
    have hsz : w.heap.size + 1 < wr.heap.size := hbr.lt
    have hc1 := hbx.cell
    have hf1 := hbx.frozen
    have hg3 := hbr.cell
    have hf2 := hbr.frozen
    have hQ := Lib.hid heq
    clear heq
    by_cases hk3 : k < 3
    · obtain ⟨r, hr⟩ : ∃ r, r = pairsS s' b false := ⟨_, rfl⟩
      have hcall : ∀ W, Calls Try.prog 22 #[s'.val, .int .i64 b, .bool false] W (PostR r W) := fun W => by rw [hr]; exact pairs_ok 6 (Or.inr rfl) s' b false hb0 hb1 hok' W
      have hone : oneS 6 s' b = r := by rw [hr]; rfl
      have hro : okS 6 r.1 := by rw [← hone]; exact one_ok (by omega) (by omega) hb0 hb1 hok'
      have hrl : r.2.1.length ≤ 2 := by rw [← hone]; exact one_len 6 s' b
      have HC := Lib.hid hcall
      have HR := Lib.hid hone
      have HI := Lib.hid hi
      have HRO := Lib.hid hro
      clear hcall hr hone hi hok' hro
      rcases hag : r.2.2 with _ | _
      · go_wp2_with (first
          | (go_at_call 22; refine (HC.out _).mono ?_; rintro e w1 ⟨v1, rfl, hi1, hb1⟩; have hd1 := (hbx.below hb1 hbx.lt).cell; have he1 := (hbx.below hb1 hbx.lt).frozen; have hs1 := hb1.size)
          | (at_builtin; refine wpList_app rfl _ _ rfl (w.heap.size + 2) wr.heap.size _ _ all r.2.1 rfl rfl ?_ ?_ ?_ ?_ ?_; exact Ints.put7 (HI.out.below hb1 (Nat.le_refl _)) (by omega) r.1; exact Ints.put7 hi1 (by omega) r.1; omega; (rw [size_put7]; omega); rintro v2 w2 hi2 hb2; obtain ⟨hbx2, hbr2, hbl2⟩ := round_facts hbx hbr hbl hb1 hb2; clear hd1 he1 hb2; have hg2 := hbx2.cell; have hh2 := hbx2.frozen; have hg3 := hbr2.cell; have hh3 := hbr2.frozen))
        refine bodyPost_ret (v := .tuple #[(r.1).val, v2, .int .i64 0]) (by simp [results, Try.results11, go_sem, St.val, hg3]) rfl ?_
        exact step_end (by rw [← hQ.out, rounds_stop hk3 (by rw [HR.out]; exact hag), HR.out]) hi2 hbl2 r.1
      · go_wp2_with (first
          | (go_at_call 22; refine (HC.out _).mono ?_; rintro e w1 ⟨v1, rfl, hi1, hb1⟩; have hd1 := (hbx.below hb1 hbx.lt).cell; have he1 := (hbx.below hb1 hbx.lt).frozen; have hs1 := hb1.size)
          | (at_builtin; refine wpList_app rfl _ _ rfl (w.heap.size + 2) wr.heap.size _ _ all r.2.1 rfl rfl ?_ ?_ ?_ ?_ ?_; exact Ints.put7 (HI.out.below hb1 (Nat.le_refl _)) (by omega) r.1; exact Ints.put7 hi1 (by omega) r.1; omega; (rw [size_put7]; omega); rintro v2 w2 hi2 hb2; obtain ⟨hbx2, hbr2, hbl2⟩ := round_facts hbx hbr hbl hb1 hb2; clear hd1 he1 hb2; have hg2 := hbx2.cell; have hh2 := hbx2.frozen; have hg3 := hbr2.cell; have hh3 := hbr2.frozen))
        go_roundw
        case rel => exact ⟨k + 1, r.1, all ++ r.2.1, by go_num, by omega, hi2, hbx2, hbr2, hbl2, HRO.out, by simp; omega, by rw [← hQ.out, ← rounds_on hk3 (by rw [HR.out]; exact hag), HR.out]⟩
        case measure => simp [intOf]; omega
    · obtain rfl : k = 3 := by omega
      have HI := Lib.hid hi
      clear hi hok'
      go_wp2_with fail
      refine bodyPost_ret (v := .tuple #[(s').val, u9, .int .i64 0]) (by simp [results, Try.results11, go_sem, St.val, hg3]) rfl ?_
      exact step_end (by rw [← hQ.out]; rfl) HI.out hbl s'

set_option maxRecDepth 100000 in
set_option maxHeartbeats 1000000 in
theorem step_4 (s : St) (b : Int) (hb0 : 0 ≤ b) (hb1 : b ≤ 255) (hok : okS 4 s) (w : World) :
    Calls Try.prog 11 #[.int .i64 4, s.val, .int .i64 b] w (PostE (stepS 4 s b).1 (stepS 4 s b).2 0 w) := by
  have hg := hok.1
  have hkk := Lib.hid hok
  clear hok
  unfold St.val
  go_enter Try.func11, Try.ntmps11
  go_wp2_with (go_at_call 12; refine (good_st 4 s hkk.out.2 _).mono ?_; rintro e w' ⟨rfl, rfl⟩)
  go_loopw [9, 34] (fun v i wr => ∃ (k : Nat) (s' : St) (all : List Int), i = .int .i64 k ∧ StepRel 4 s b w k s' all v wr) (fun _ i _ => 3 - (intOf i).toNat)
  case atStart =>
    refine ⟨0, s, [], rfl, by omega, ints_nil _ _, ?_, ?_, ?_, hkk.out, by simp, rfl⟩
    · exact (heap_old _ _ _ (by simp <;> omega)).trans ((heap_old _ _ _ (by simp <;> omega)).trans (heap_new _ _ _ (by simp)))
    · exact (heap_old _ _ _ (by simp <;> omega)).trans (heap_new _ _ _ (by simp))
    · repeat (first | exact Below.refl _ _ | apply Below.drew | apply below_alloc)
  case round =>
    obtain ⟨k, s', all, rfl, hk, hi, hbx, hbr, hbl, hok', hlen, heq⟩ := hrel
    have hsz : w.heap.size + 1 < wr.heap.size := hbr.lt
    have hc1 := hbx.cell
    have hf1 := hbx.frozen
    have hg3 := hbr.cell
    have hf2 := hbr.frozen
    have hQ := Lib.hid heq
    have HI := Lib.hid hi
    clear heq hi hok'
    by_cases hk3 : k < 3
    · go_wp2_with (first
        | (go_at_call 21; refine (latin_any b hb0 hb1 _).mono ?_; rintro e w1 ⟨rfl, rfl⟩)
        | (at_builtin; refine wpList_app rfl _ _ rfl (w.heap.size + 2) wr.heap.size _ _ all [latinS b] rfl rfl ?_ ?_ ?_ ?_ ?_; exact HI.out.alloc _; (exact ints_lit1 _ _ _ _ (heap_new _ _ _ rfl) (Nat.le_refl _)); (simp only [List.length_cons, List.length_nil]; omega); (simp <;> omega); rintro v2 w2 hi2 hb2; obtain ⟨hbx2, hbr2, hbl2⟩ := alloc_facts hbx hbr hbl hb2; clear hb2; have hg2 := hbx2.cell; have hh2 := hbx2.frozen; have hg3 := hbr2.cell; have hh3 := hbr2.frozen))
      refine bodyPost_ret (v := .tuple #[(s').val, v2, .int .i64 0]) (by simp [results, Try.results11, go_sem, St.val, hg3]) rfl ?_
      exact step_end (by rw [← hQ.out, rounds_stop hk3 rfl]; rfl) hi2 hbl2 s'
    · obtain rfl : k = 3 := by omega
      go_wp2_with fail
      refine bodyPost_ret (v := .tuple #[(s').val, u9, .int .i64 0]) (by simp [results, Try.results11, go_sem, St.val, hg3]) rfl ?_
      exact step_end (by rw [← hQ.out]; rfl) HI.out hbl s'

end Go.Proofs.Ytefohnbmifblkab
