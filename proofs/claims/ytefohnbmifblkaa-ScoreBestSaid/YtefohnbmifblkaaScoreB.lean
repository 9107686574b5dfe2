/- The scores of the encodings: fourteen cells in a block of their own; New and Step of the program's package score. -/
import Derived.Test.YtefohnbmifblkaaScoreA
import Derived.Test.YtefohnbmifblkaaMem
namespace Go.Proofs.Ytefohnbmifblkaa
open Go.RowKit
set_option linter.unusedVariables false

/-- The scores as cells. -/
abbrev sc (st sm : Nat → Int) : Array Value := #[.int .i64 (st 0), .int .i64 (sm 0), .int .i64 (st 1), .int .i64 (sm 1), .int .i64 (st 2), .int .i64 (sm 2), .int .i64 (st 3), .int .i64 (sm 3), .int .i64 (st 4), .int .i64 (sm 4), .int .i64 (st 5), .int .i64 (sm 5), .int .i64 (st 6), .int .i64 (sm 6)]

/-- Block b holds the scores. -/
def Arr (W : World) (b : Nat) (c : Array Value) : Prop := W.heap[b]? = some (.cells c 52 (0, 0))
theorem Arr.cell {W : World} {b : Nat} {c : Array Value} (h : Arr W b c) (o : Nat) : W.cell? ⟨b, o, none⟩ = c[o]? := by
  unfold World.cell?
  rw [h]
  simp
theorem Arr.frozen {W : World} {b : Nat} {c : Array Value} (h : Arr W b c) (o : Nat) : W.frozen? ⟨b, o, none⟩ = false := by
  unfold World.frozen?
  rw [h]
  simp
theorem Arr.lt {W : World} {b : Nat} {c : Array Value} (h : Arr W b c) : b < W.heap.size := (Array.getElem?_eq_some_iff.1 h).1
theorem Arr.below {W W' : World} {B b : Nat} {c : Array Value} (h : Arr W b c) (hb : Below B W W') (hlt : b < B) : Arr W' b c := by
  unfold Arr at *
  rw [hb.block b hlt]
  exact h
theorem Arr.other {W : World} {b : Nat} {c : Array Value} (h : Arr W b c) {a : Addr} (u : Value) (hne : b ≠ a.block) : Arr (W.setCell a u) b c := by
  unfold Arr at *
  rw [Below.heap_setCell _ _ _ _ hne]
  exact h
theorem Arr.set {W : World} {b : Nat} {c : Array Value} (h : Arr W b c) (o : Nat) (u : Value) : Arr (W.setCell ⟨b, o, none⟩ u) b (c.setIfInBounds o u) := heap_set W b o c _ u h

/-- The world behind fourteen stores of scores into block b. -/
abbrev put14 (W : World) (b : Nat) (st sm : Nat → Int) : World := (((((((((((((W.setCell ⟨b, 0, none⟩ (.int .i64 (st 0))).setCell ⟨b, 1, none⟩ (.int .i64 (sm 0))).setCell ⟨b, 2, none⟩ (.int .i64 (st 1))).setCell ⟨b, 3, none⟩ (.int .i64 (sm 1))).setCell ⟨b, 4, none⟩ (.int .i64 (st 2))).setCell ⟨b, 5, none⟩ (.int .i64 (sm 2))).setCell ⟨b, 6, none⟩ (.int .i64 (st 3))).setCell ⟨b, 7, none⟩ (.int .i64 (sm 3))).setCell ⟨b, 8, none⟩ (.int .i64 (st 4))).setCell ⟨b, 9, none⟩ (.int .i64 (sm 4))).setCell ⟨b, 10, none⟩ (.int .i64 (st 5))).setCell ⟨b, 11, none⟩ (.int .i64 (sm 5))).setCell ⟨b, 12, none⟩ (.int .i64 (st 6))).setCell ⟨b, 13, none⟩ (.int .i64 (sm 6))
theorem Arr.put14 {W : World} {b : Nat} {st0 sm0 : Nat → Int} (h : Arr W b (sc st0 sm0)) (st sm : Nat → Int) : Arr (put14 W b st sm) b (sc st sm) := by
  have h0 := Arr.set h 0 (.int .i64 (st 0))
  have h1 := Arr.set h0 1 (.int .i64 (sm 0))
  have h2 := Arr.set h1 2 (.int .i64 (st 1))
  have h3 := Arr.set h2 3 (.int .i64 (sm 1))
  have h4 := Arr.set h3 4 (.int .i64 (st 2))
  have h5 := Arr.set h4 5 (.int .i64 (sm 2))
  have h6 := Arr.set h5 6 (.int .i64 (st 3))
  have h7 := Arr.set h6 7 (.int .i64 (sm 3))
  have h8 := Arr.set h7 8 (.int .i64 (st 4))
  have h9 := Arr.set h8 9 (.int .i64 (sm 4))
  have h10 := Arr.set h9 10 (.int .i64 (st 5))
  have h11 := Arr.set h10 11 (.int .i64 (sm 5))
  have h12 := Arr.set h11 12 (.int .i64 (st 6))
  have h13 := Arr.set h12 13 (.int .i64 (sm 6))
  unfold Arr at h13 ⊢
  rw [h13]
  simp
theorem below_put14 {B : Nat} {a W : World} (h : Below B a W) {b : Nat} (hb : B ≤ b) (st sm : Nat → Int) : Below B a (put14 W b st sm) :=
  (((((((((((((h.setCell (p := ⟨b, 0, none⟩) hb _).setCell (p := ⟨b, 1, none⟩) hb _).setCell (p := ⟨b, 2, none⟩) hb _).setCell (p := ⟨b, 3, none⟩) hb _).setCell (p := ⟨b, 4, none⟩) hb _).setCell (p := ⟨b, 5, none⟩) hb _).setCell (p := ⟨b, 6, none⟩) hb _).setCell (p := ⟨b, 7, none⟩) hb _).setCell (p := ⟨b, 8, none⟩) hb _).setCell (p := ⟨b, 9, none⟩) hb _).setCell (p := ⟨b, 10, none⟩) hb _).setCell (p := ⟨b, 11, none⟩) hb _).setCell (p := ⟨b, 12, none⟩) hb _).setCell (p := ⟨b, 13, none⟩) hb _
theorem other_put14 {W : World} {b c : Nat} {cs : Array Value} (h : Arr W c cs) (hne : c ≠ b) (st sm : Nat → Int) : Arr (put14 W b st sm) c cs :=
  (((((((((((((h.other (a := ⟨b, 0, none⟩) _ hne).other (a := ⟨b, 1, none⟩) _ hne).other (a := ⟨b, 2, none⟩) _ hne).other (a := ⟨b, 3, none⟩) _ hne).other (a := ⟨b, 4, none⟩) _ hne).other (a := ⟨b, 5, none⟩) _ hne).other (a := ⟨b, 6, none⟩) _ hne).other (a := ⟨b, 7, none⟩) _ hne).other (a := ⟨b, 8, none⟩) _ hne).other (a := ⟨b, 9, none⟩) _ hne).other (a := ⟨b, 10, none⟩) _ hne).other (a := ⟨b, 11, none⟩) _ hne).other (a := ⟨b, 12, none⟩) _ hne).other (a := ⟨b, 13, none⟩) _ hne

/-- The scores behind one byte. -/
def stNext (st : Nat → Int) (b : Int) (e : Nat) : Int := if e = 0 then st e else autoF (e : Int) (st e) b
def smNext (sm : Nat → Int) (last b : Int) (e : Nat) : Int := if e = 0 ∨ last < 0 then sm e else sm e + weightF (e : Int) last b
/-- On the way: below k they are the new ones. -/
def mix (k : Nat) (f g : Nat → Int) (e : Nat) : Int := if e < k then g e else f e

set_option maxRecDepth 100000 in
set_option maxHeartbeats 1000000 in
theorem score_new (w : World) : Calls Try.prog 47 #[] w fun e w' => e = .returned (.agg (sc (fun _ => 0) (fun _ => 0))) ∧ Below w.heap.size w w' := by
  go_enter Try.func47, Try.ntmps47
  go_wp2
  refine bodyPost_ret (v := .agg (sc (fun _ => 0) (fun _ => 0))) (by simp [results, Try.results47, go_sem]) rfl ⟨rfl, ?_⟩
  repeat (first | exact Below.refl _ _ | apply Below.drew | apply below_alloc)

set_option maxRecDepth 100000 in
set_option maxHeartbeats 4000000 in
theorem score_step_first (st sm : Nat → Int) (b : Int) (hsm : ∀ e, -1000000 ≤ sm e ∧ sm e ≤ 1000000) (w : World) :
    Calls Try.prog 48 #[.agg (sc st sm), .int .i64 (-1), .int .i64 b] w fun e' w' => e' = .returned (.agg (sc (stNext st b) (smNext sm (-1) b))) ∧ Below w.heap.size w w' := by
  go_enter Try.func48, Try.ntmps48
  go_wp2_with fail
  go_loopw [7] (fun i wr => ∃ k : Nat, i = .int .i64 (k : Int) ∧ 1 ≤ k ∧ k ≤ 7 ∧ Arr wr w.heap.size (sc (mix k st (stNext st b)) (mix k sm (smNext sm (-1) b))) ∧ Arr wr (w.heap.size + 1) (sc (fun _ => 0) (fun _ => 0)) ∧ Below w.heap.size w wr) (fun i _ => 7 - (intOf i).toNat)
  case atStart =>
    refine ⟨1, rfl, by omega, by omega, ?_, ?_, ?_⟩
    · refine ((heap_old _ _ _ (by simp)).trans (heap_new _ _ _ rfl)).trans ?_
      simp [mix, stNext, smNext]
    · refine (heap_new _ _ _ (by simp)).trans ?_
      simp
    · exact below_alloc (below_alloc (Below.refl _ _) _) _
  case round =>
    obtain ⟨k, rfl, hk1, hk7, ha, hz, hb⟩ := hrel
    have hc1 := ha.cell
    have hf1 := ha.frozen
    have hc2 := hz.cell
    have hf2 := hz.frozen
    have hsz := hz.lt
    have hkk : k = 1 ∨ k = 2 ∨ k = 3 ∨ k = 4 ∨ k = 5 ∨ k = 6 ∨ k = 7 := by omega
    rcases hkk with rfl | rfl | rfl | rfl | rfl | rfl | rfl
    · skip
      have hne : ¬ w.heap.size = w.heap.size + 1 := by omega
      have hs1 := hsm 1
      have hme : mix 1 sm (smNext sm (-1) b) 1 = sm 1 := rfl
      have hw1 := weightF_range 1 (-1) b
      go_wp2_with (first
        | (go_at_call 14; refine (auto_step _ _ _ _).mono ?_; rintro e' w' ⟨rfl, rfl⟩)
        | (go_at_call 57; refine (score_bound _ (by omega) (by omega) _).mono ?_; rintro e' w' ⟨rfl, rfl⟩)
        | (go_at_call 26; refine (score_weight _ _ _ _).mono ?_; rintro e' w' ⟨rfl, rfl⟩))
      refine ⟨⟨2, rfl, by omega, by omega, ?_, (hz.other (a := ⟨w.heap.size, 2, none⟩) _ (by simp)), (hb.setCell (p := ⟨w.heap.size, 2, none⟩) (Nat.le_refl _) _)⟩, by simp [intOf]⟩
      have ha2 := (ha.set 2 (.int .i64 (autoF 1 (mix 1 st (stNext st b) 1) b)))
      refine Eq.trans ha2 ?_
      congr 2
      
    · skip
      have hne : ¬ w.heap.size = w.heap.size + 1 := by omega
      have hs1 := hsm 2
      have hme : mix 2 sm (smNext sm (-1) b) 2 = sm 2 := rfl
      have hw1 := weightF_range 2 (-1) b
      go_wp2_with (first
        | (go_at_call 14; refine (auto_step _ _ _ _).mono ?_; rintro e' w' ⟨rfl, rfl⟩)
        | (go_at_call 57; refine (score_bound _ (by omega) (by omega) _).mono ?_; rintro e' w' ⟨rfl, rfl⟩)
        | (go_at_call 26; refine (score_weight _ _ _ _).mono ?_; rintro e' w' ⟨rfl, rfl⟩))
      refine ⟨⟨3, rfl, by omega, by omega, ?_, (hz.other (a := ⟨w.heap.size, 4, none⟩) _ (by simp)), (hb.setCell (p := ⟨w.heap.size, 4, none⟩) (Nat.le_refl _) _)⟩, by simp [intOf]⟩
      have ha2 := (ha.set 4 (.int .i64 (autoF 2 (mix 2 st (stNext st b) 2) b)))
      refine Eq.trans ha2 ?_
      congr 2
      
    · skip
      have hne : ¬ w.heap.size = w.heap.size + 1 := by omega
      have hs1 := hsm 3
      have hme : mix 3 sm (smNext sm (-1) b) 3 = sm 3 := rfl
      have hw1 := weightF_range 3 (-1) b
      go_wp2_with (first
        | (go_at_call 14; refine (auto_step _ _ _ _).mono ?_; rintro e' w' ⟨rfl, rfl⟩)
        | (go_at_call 57; refine (score_bound _ (by omega) (by omega) _).mono ?_; rintro e' w' ⟨rfl, rfl⟩)
        | (go_at_call 26; refine (score_weight _ _ _ _).mono ?_; rintro e' w' ⟨rfl, rfl⟩))
      refine ⟨⟨4, rfl, by omega, by omega, ?_, (hz.other (a := ⟨w.heap.size, 6, none⟩) _ (by simp)), (hb.setCell (p := ⟨w.heap.size, 6, none⟩) (Nat.le_refl _) _)⟩, by simp [intOf]⟩
      have ha2 := (ha.set 6 (.int .i64 (autoF 3 (mix 3 st (stNext st b) 3) b)))
      refine Eq.trans ha2 ?_
      congr 2
      
    · skip
      have hne : ¬ w.heap.size = w.heap.size + 1 := by omega
      have hs1 := hsm 4
      have hme : mix 4 sm (smNext sm (-1) b) 4 = sm 4 := rfl
      have hw1 := weightF_range 4 (-1) b
      go_wp2_with (first
        | (go_at_call 14; refine (auto_step _ _ _ _).mono ?_; rintro e' w' ⟨rfl, rfl⟩)
        | (go_at_call 57; refine (score_bound _ (by omega) (by omega) _).mono ?_; rintro e' w' ⟨rfl, rfl⟩)
        | (go_at_call 26; refine (score_weight _ _ _ _).mono ?_; rintro e' w' ⟨rfl, rfl⟩))
      refine ⟨⟨5, rfl, by omega, by omega, ?_, (hz.other (a := ⟨w.heap.size, 8, none⟩) _ (by simp)), (hb.setCell (p := ⟨w.heap.size, 8, none⟩) (Nat.le_refl _) _)⟩, by simp [intOf]⟩
      have ha2 := (ha.set 8 (.int .i64 (autoF 4 (mix 4 st (stNext st b) 4) b)))
      refine Eq.trans ha2 ?_
      congr 2
      
    · skip
      have hne : ¬ w.heap.size = w.heap.size + 1 := by omega
      have hs1 := hsm 5
      have hme : mix 5 sm (smNext sm (-1) b) 5 = sm 5 := rfl
      have hw1 := weightF_range 5 (-1) b
      go_wp2_with (first
        | (go_at_call 14; refine (auto_step _ _ _ _).mono ?_; rintro e' w' ⟨rfl, rfl⟩)
        | (go_at_call 57; refine (score_bound _ (by omega) (by omega) _).mono ?_; rintro e' w' ⟨rfl, rfl⟩)
        | (go_at_call 26; refine (score_weight _ _ _ _).mono ?_; rintro e' w' ⟨rfl, rfl⟩))
      refine ⟨⟨6, rfl, by omega, by omega, ?_, (hz.other (a := ⟨w.heap.size, 10, none⟩) _ (by simp)), (hb.setCell (p := ⟨w.heap.size, 10, none⟩) (Nat.le_refl _) _)⟩, by simp [intOf]⟩
      have ha2 := (ha.set 10 (.int .i64 (autoF 5 (mix 5 st (stNext st b) 5) b)))
      refine Eq.trans ha2 ?_
      congr 2
      
    · skip
      have hne : ¬ w.heap.size = w.heap.size + 1 := by omega
      have hs1 := hsm 6
      have hme : mix 6 sm (smNext sm (-1) b) 6 = sm 6 := rfl
      have hw1 := weightF_range 6 (-1) b
      go_wp2_with (first
        | (go_at_call 14; refine (auto_step _ _ _ _).mono ?_; rintro e' w' ⟨rfl, rfl⟩)
        | (go_at_call 57; refine (score_bound _ (by omega) (by omega) _).mono ?_; rintro e' w' ⟨rfl, rfl⟩)
        | (go_at_call 26; refine (score_weight _ _ _ _).mono ?_; rintro e' w' ⟨rfl, rfl⟩))
      refine ⟨⟨7, rfl, by omega, by omega, ?_, (hz.other (a := ⟨w.heap.size, 12, none⟩) _ (by simp)), (hb.setCell (p := ⟨w.heap.size, 12, none⟩) (Nat.le_refl _) _)⟩, by simp [intOf]⟩
      have ha2 := (ha.set 12 (.int .i64 (autoF 6 (mix 6 st (stNext st b) 6) b)))
      refine Eq.trans ha2 ?_
      congr 2
      
    · skip
      have hm : (sc (mix 7 st (stNext st b)) (mix 7 sm (smNext sm (-1) b))) = sc (stNext st b) (smNext sm (-1) b) := rfl
      rw [hm] at ha hc1
      clear hm
      go_wp2_with fail
      refine bodyPost_ret (v := .agg (sc (stNext st b) (smNext sm (-1) b))) (by simp [results, Try.results48, go_sem, hc2]) rfl ⟨rfl, ?_⟩
      exact below_put14 hb (by omega) (stNext st b) (smNext sm (-1) b)

set_option maxRecDepth 100000 in
set_option maxHeartbeats 4000000 in
theorem score_step_next (st sm : Nat → Int) (last : Int) (hl : 0 ≤ last) (b : Int) (hsm : ∀ e, -1000000 ≤ sm e ∧ sm e ≤ 1000000) (w : World) :
    Calls Try.prog 48 #[.agg (sc st sm), .int .i64 (last), .int .i64 b] w fun e' w' => e' = .returned (.agg (sc (stNext st b) (smNext sm (last) b))) ∧ Below w.heap.size w w' := by
  go_enter Try.func48, Try.ntmps48
  go_wp2_with fail
  go_loopw [7] (fun i wr => ∃ k : Nat, i = .int .i64 (k : Int) ∧ 1 ≤ k ∧ k ≤ 7 ∧ Arr wr w.heap.size (sc (mix k st (stNext st b)) (mix k sm (smNext sm (last) b))) ∧ Arr wr (w.heap.size + 1) (sc (fun _ => 0) (fun _ => 0)) ∧ Below w.heap.size w wr) (fun i _ => 7 - (intOf i).toNat)
  case atStart =>
    refine ⟨1, rfl, by omega, by omega, ?_, ?_, ?_⟩
    · refine ((heap_old _ _ _ (by simp)).trans (heap_new _ _ _ rfl)).trans ?_
      simp [mix, stNext, smNext]
    · refine (heap_new _ _ _ (by simp)).trans ?_
      simp
    · exact below_alloc (below_alloc (Below.refl _ _) _) _
  case round =>
    obtain ⟨k, rfl, hk1, hk7, ha, hz, hb⟩ := hrel
    have hc1 := ha.cell
    have hf1 := ha.frozen
    have hc2 := hz.cell
    have hf2 := hz.frozen
    have hsz := hz.lt
    have hkk : k = 1 ∨ k = 2 ∨ k = 3 ∨ k = 4 ∨ k = 5 ∨ k = 6 ∨ k = 7 := by omega
    rcases hkk with rfl | rfl | rfl | rfl | rfl | rfl | rfl
    · skip
      have hne : ¬ w.heap.size = w.heap.size + 1 := by omega
      have hs1 := hsm 1
      have hme : mix 1 sm (smNext sm (last) b) 1 = sm 1 := rfl
      have hw1 := weightF_range 1 (last) b
      go_wp2_with (first
        | (go_at_call 14; refine (auto_step _ _ _ _).mono ?_; rintro e' w' ⟨rfl, rfl⟩)
        | (go_at_call 57; refine (score_bound _ (by omega) (by omega) _).mono ?_; rintro e' w' ⟨rfl, rfl⟩)
        | (go_at_call 26; refine (score_weight _ _ _ _).mono ?_; rintro e' w' ⟨rfl, rfl⟩))
      refine ⟨⟨2, rfl, by omega, by omega, ?_, ((hz.other (a := ⟨w.heap.size, 2, none⟩) _ (by simp)).other (a := ⟨w.heap.size, 3, none⟩) _ (by simp)), ((hb.setCell (p := ⟨w.heap.size, 2, none⟩) (Nat.le_refl _) _).setCell (p := ⟨w.heap.size, 3, none⟩) (Nat.le_refl _) _)⟩, by simp [intOf]⟩
      have ha2 := ((ha.set 2 (.int .i64 (autoF 1 (mix 1 st (stNext st b) 1) b))).set 3 (.int .i64 (mix 1 sm (smNext sm (last) b) 1 + weightF 1 last b)))
      refine Eq.trans ha2 ?_
      congr 2
      simp [mix, stNext, smNext]
      intro h
      omega
    · skip
      have hne : ¬ w.heap.size = w.heap.size + 1 := by omega
      have hs1 := hsm 2
      have hme : mix 2 sm (smNext sm (last) b) 2 = sm 2 := rfl
      have hw1 := weightF_range 2 (last) b
      go_wp2_with (first
        | (go_at_call 14; refine (auto_step _ _ _ _).mono ?_; rintro e' w' ⟨rfl, rfl⟩)
        | (go_at_call 57; refine (score_bound _ (by omega) (by omega) _).mono ?_; rintro e' w' ⟨rfl, rfl⟩)
        | (go_at_call 26; refine (score_weight _ _ _ _).mono ?_; rintro e' w' ⟨rfl, rfl⟩))
      refine ⟨⟨3, rfl, by omega, by omega, ?_, ((hz.other (a := ⟨w.heap.size, 4, none⟩) _ (by simp)).other (a := ⟨w.heap.size, 5, none⟩) _ (by simp)), ((hb.setCell (p := ⟨w.heap.size, 4, none⟩) (Nat.le_refl _) _).setCell (p := ⟨w.heap.size, 5, none⟩) (Nat.le_refl _) _)⟩, by simp [intOf]⟩
      have ha2 := ((ha.set 4 (.int .i64 (autoF 2 (mix 2 st (stNext st b) 2) b))).set 5 (.int .i64 (mix 2 sm (smNext sm (last) b) 2 + weightF 2 last b)))
      refine Eq.trans ha2 ?_
      congr 2
      simp [mix, stNext, smNext]
      intro h
      omega
    · skip
      have hne : ¬ w.heap.size = w.heap.size + 1 := by omega
      have hs1 := hsm 3
      have hme : mix 3 sm (smNext sm (last) b) 3 = sm 3 := rfl
      have hw1 := weightF_range 3 (last) b
      go_wp2_with (first
        | (go_at_call 14; refine (auto_step _ _ _ _).mono ?_; rintro e' w' ⟨rfl, rfl⟩)
        | (go_at_call 57; refine (score_bound _ (by omega) (by omega) _).mono ?_; rintro e' w' ⟨rfl, rfl⟩)
        | (go_at_call 26; refine (score_weight _ _ _ _).mono ?_; rintro e' w' ⟨rfl, rfl⟩))
      refine ⟨⟨4, rfl, by omega, by omega, ?_, ((hz.other (a := ⟨w.heap.size, 6, none⟩) _ (by simp)).other (a := ⟨w.heap.size, 7, none⟩) _ (by simp)), ((hb.setCell (p := ⟨w.heap.size, 6, none⟩) (Nat.le_refl _) _).setCell (p := ⟨w.heap.size, 7, none⟩) (Nat.le_refl _) _)⟩, by simp [intOf]⟩
      have ha2 := ((ha.set 6 (.int .i64 (autoF 3 (mix 3 st (stNext st b) 3) b))).set 7 (.int .i64 (mix 3 sm (smNext sm (last) b) 3 + weightF 3 last b)))
      refine Eq.trans ha2 ?_
      congr 2
      simp [mix, stNext, smNext]
      intro h
      omega
    · skip
      have hne : ¬ w.heap.size = w.heap.size + 1 := by omega
      have hs1 := hsm 4
      have hme : mix 4 sm (smNext sm (last) b) 4 = sm 4 := rfl
      have hw1 := weightF_range 4 (last) b
      go_wp2_with (first
        | (go_at_call 14; refine (auto_step _ _ _ _).mono ?_; rintro e' w' ⟨rfl, rfl⟩)
        | (go_at_call 57; refine (score_bound _ (by omega) (by omega) _).mono ?_; rintro e' w' ⟨rfl, rfl⟩)
        | (go_at_call 26; refine (score_weight _ _ _ _).mono ?_; rintro e' w' ⟨rfl, rfl⟩))
      refine ⟨⟨5, rfl, by omega, by omega, ?_, ((hz.other (a := ⟨w.heap.size, 8, none⟩) _ (by simp)).other (a := ⟨w.heap.size, 9, none⟩) _ (by simp)), ((hb.setCell (p := ⟨w.heap.size, 8, none⟩) (Nat.le_refl _) _).setCell (p := ⟨w.heap.size, 9, none⟩) (Nat.le_refl _) _)⟩, by simp [intOf]⟩
      have ha2 := ((ha.set 8 (.int .i64 (autoF 4 (mix 4 st (stNext st b) 4) b))).set 9 (.int .i64 (mix 4 sm (smNext sm (last) b) 4 + weightF 4 last b)))
      refine Eq.trans ha2 ?_
      congr 2
      simp [mix, stNext, smNext]
      intro h
      omega
    · skip
      have hne : ¬ w.heap.size = w.heap.size + 1 := by omega
      have hs1 := hsm 5
      have hme : mix 5 sm (smNext sm (last) b) 5 = sm 5 := rfl
      have hw1 := weightF_range 5 (last) b
      go_wp2_with (first
        | (go_at_call 14; refine (auto_step _ _ _ _).mono ?_; rintro e' w' ⟨rfl, rfl⟩)
        | (go_at_call 57; refine (score_bound _ (by omega) (by omega) _).mono ?_; rintro e' w' ⟨rfl, rfl⟩)
        | (go_at_call 26; refine (score_weight _ _ _ _).mono ?_; rintro e' w' ⟨rfl, rfl⟩))
      refine ⟨⟨6, rfl, by omega, by omega, ?_, ((hz.other (a := ⟨w.heap.size, 10, none⟩) _ (by simp)).other (a := ⟨w.heap.size, 11, none⟩) _ (by simp)), ((hb.setCell (p := ⟨w.heap.size, 10, none⟩) (Nat.le_refl _) _).setCell (p := ⟨w.heap.size, 11, none⟩) (Nat.le_refl _) _)⟩, by simp [intOf]⟩
      have ha2 := ((ha.set 10 (.int .i64 (autoF 5 (mix 5 st (stNext st b) 5) b))).set 11 (.int .i64 (mix 5 sm (smNext sm (last) b) 5 + weightF 5 last b)))
      refine Eq.trans ha2 ?_
      congr 2
      simp [mix, stNext, smNext]
      intro h
      omega
    · skip
      have hne : ¬ w.heap.size = w.heap.size + 1 := by omega
      have hs1 := hsm 6
      have hme : mix 6 sm (smNext sm (last) b) 6 = sm 6 := rfl
      have hw1 := weightF_range 6 (last) b
      go_wp2_with (first
        | (go_at_call 14; refine (auto_step _ _ _ _).mono ?_; rintro e' w' ⟨rfl, rfl⟩)
        | (go_at_call 57; refine (score_bound _ (by omega) (by omega) _).mono ?_; rintro e' w' ⟨rfl, rfl⟩)
        | (go_at_call 26; refine (score_weight _ _ _ _).mono ?_; rintro e' w' ⟨rfl, rfl⟩))
      refine ⟨⟨7, rfl, by omega, by omega, ?_, ((hz.other (a := ⟨w.heap.size, 12, none⟩) _ (by simp)).other (a := ⟨w.heap.size, 13, none⟩) _ (by simp)), ((hb.setCell (p := ⟨w.heap.size, 12, none⟩) (Nat.le_refl _) _).setCell (p := ⟨w.heap.size, 13, none⟩) (Nat.le_refl _) _)⟩, by simp [intOf]⟩
      have ha2 := ((ha.set 12 (.int .i64 (autoF 6 (mix 6 st (stNext st b) 6) b))).set 13 (.int .i64 (mix 6 sm (smNext sm (last) b) 6 + weightF 6 last b)))
      refine Eq.trans ha2 ?_
      congr 2
      simp [mix, stNext, smNext]
      intro h
      omega
    · skip
      have hm : (sc (mix 7 st (stNext st b)) (mix 7 sm (smNext sm (last) b))) = sc (stNext st b) (smNext sm (last) b) := rfl
      rw [hm] at ha hc1
      clear hm
      go_wp2_with fail
      refine bodyPost_ret (v := .agg (sc (stNext st b) (smNext sm (last) b))) (by simp [results, Try.results48, go_sem, hc2]) rfl ⟨rfl, ?_⟩
      exact below_put14 hb (by omega) (stNext st b) (smNext sm (last) b)

end Go.Proofs.Ytefohnbmifblkaa
