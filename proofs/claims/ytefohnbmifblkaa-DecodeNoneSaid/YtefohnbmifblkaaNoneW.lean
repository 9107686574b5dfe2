/- The law DecodeNone, way by way. -/
import Derived.Test.YtefohnbmifblkaaNone
namespace Go.Proofs.Ytefohnbmifblkaa
open Go.RowKit
set_option linter.unusedVariables false

set_option maxRecDepth 100000 in
set_option maxHeartbeats 4000000 in
theorem none_low (e b : Int) (s t u : St) (n3 : Nat) (he : e < 1)
    (HS : Hid (∀ W, Calls Try.prog 32 #[.int .i64 e, .agg #[.int .i64 s.need, .int .i64 s.code, .int .i64 s.frm, .int .i64 s.upto, .string (strOfNums s.kept), .int .i64 s.half, .int .i64 s.mode], .int .i64 b] W (PostS s 0 2 W)))
    (HF : Hid (∀ W, Calls Try.prog 33 #[.int .i64 e, .agg #[.int .i64 s.need, .int .i64 s.code, .int .i64 s.frm, .int .i64 s.upto, .string (strOfNums s.kept), .int .i64 s.half, .int .i64 s.mode], .string ⟨#[]⟩] W (PostS u 0 2 W)))
    (HE : Hid (∀ W, Calls Try.prog 34 #[.int .i64 e, .agg #[.int .i64 s.need, .int .i64 s.code, .int .i64 s.frm, .int .i64 s.upto, .string (strOfNums s.kept), .int .i64 s.half, .int .i64 s.mode]] W (PostL 0 2 W)))
    (w : World) : Calls Try.prog 9 #[.int .i64 e, .agg #[.int .i64 s.need, .int .i64 s.code, .int .i64 s.frm, .int .i64 s.upto, .string (strOfNums s.kept), .int .i64 s.half, .int .i64 s.mode], .int .i64 b] w fun e' w' => e' = .returned (.bool true) ∧ Below w.heap.size w w' := by
  unfold PostS at HS HF
  unfold PostL at HE
  go_enter Try.func9, Try.ntmps9
  go_wp2_with (first
    | (go_at_call 32; refine (HS.out _).mono ?_; rintro e' w1 ⟨⟨p1, c1, rfl⟩, hb1⟩; have x1 : Box w1 w.heap.size s := Box.below (B := w.heap.size + 1) (heap_new _ _ _ rfl) (hb1.mono (by simp)) (by omega); have B1 : Below w.heap.size w w1 := (below_alloc (Below.refl _ w) _).trans (hb1.mono (by simp)); have sz1 : w.heap.size < w1.heap.size := x1.lt; have xc1 := x1.cell; have xf1 := x1.frozen)
    | (go_at_call 33; refine (HF.out _).mono ?_; rintro e' w2 ⟨⟨p2, c2, rfl⟩, hb2⟩; have x2 : Box w2 w.heap.size s := Box.below (B := w1.heap.size + 1) ((heap_old _ _ _ sz1).trans x1) (hb2.mono (by simp)) (by omega); have y2 : Box w2 w1.heap.size s := Box.below (B := w1.heap.size + 1) (heap_new _ _ _ rfl) (hb2.mono (by simp)) (by omega); have B2 : Below w.heap.size w w2 := (below_alloc B1 _).trans (hb2.mono (by simp <;> omega)); have sz2 : w1.heap.size < w2.heap.size := y2.lt; have sy2 : w.heap.size < w2.heap.size := x2.lt; have ne2 : ¬ w.heap.size = w2.heap.size := (by omega); have ne2' : ¬ w1.heap.size = w2.heap.size := (by omega); have xc2 := x2.cell; have xf2 := x2.frozen; have yc2 := y2.cell; have yf2 := y2.frozen)
    | (go_at_call 34; refine (HE.out _).mono ?_; rintro e' w3 ⟨⟨p3, c3, rfl⟩, hb3⟩; have x3 : Box w3 w.heap.size s := Box.below (B := w2.heap.size + 1) ((heap_old _ _ _ (by omega)).trans x2) (hb3.mono (by simp)) (by omega); have y3 : Box w3 w1.heap.size s := Box.below (B := w2.heap.size + 1) ((heap_old _ _ _ (by omega)).trans y2) (hb3.mono (by simp)) (by omega); have B3 : Below w.heap.size w w3 := (below_alloc B2 _).trans (hb3.mono (by simp <;> omega)); have sz3 : w1.heap.size < w3.heap.size := y3.lt; have sz4 : w.heap.size < w3.heap.size := x3.lt; have ne3 : ¬ w.heap.size = w3.heap.size := (by omega); have ne3' : ¬ w1.heap.size = w3.heap.size := (by omega); have xc3 := x3.cell; have xf3 := x3.frozen; have yc3 := y3.cell; have yf3 := y3.frozen)
    | (go_at_call 35; refine (law_decodes _).mono ?_; rintro e' w5 ⟨rfl, hb5⟩))
  go_ret
  exact ⟨rfl, B3.trans (hb5.mono B3.size)⟩

set_option maxRecDepth 100000 in
set_option maxHeartbeats 4000000 in
theorem none_high (e b : Int) (s t u : St) (n3 : Nat) (he : 6 < e)
    (HS : Hid (∀ W, Calls Try.prog 32 #[.int .i64 e, .agg #[.int .i64 s.need, .int .i64 s.code, .int .i64 s.frm, .int .i64 s.upto, .string (strOfNums s.kept), .int .i64 s.half, .int .i64 s.mode], .int .i64 b] W (PostS s 0 2 W)))
    (HF : Hid (∀ W, Calls Try.prog 33 #[.int .i64 e, .agg #[.int .i64 s.need, .int .i64 s.code, .int .i64 s.frm, .int .i64 s.upto, .string (strOfNums s.kept), .int .i64 s.half, .int .i64 s.mode], .string ⟨#[]⟩] W (PostS u 0 2 W)))
    (HE : Hid (∀ W, Calls Try.prog 34 #[.int .i64 e, .agg #[.int .i64 s.need, .int .i64 s.code, .int .i64 s.frm, .int .i64 s.upto, .string (strOfNums s.kept), .int .i64 s.half, .int .i64 s.mode]] W (PostL 0 2 W)))
    (w : World) : Calls Try.prog 9 #[.int .i64 e, .agg #[.int .i64 s.need, .int .i64 s.code, .int .i64 s.frm, .int .i64 s.upto, .string (strOfNums s.kept), .int .i64 s.half, .int .i64 s.mode], .int .i64 b] w fun e' w' => e' = .returned (.bool true) ∧ Below w.heap.size w w' := by
  unfold PostS at HS HF
  unfold PostL at HE
  go_enter Try.func9, Try.ntmps9
  go_wp2_with (first
    | (go_at_call 32; refine (HS.out _).mono ?_; rintro e' w1 ⟨⟨p1, c1, rfl⟩, hb1⟩; have x1 : Box w1 w.heap.size s := Box.below (B := w.heap.size + 1) (heap_new _ _ _ rfl) (hb1.mono (by simp)) (by omega); have B1 : Below w.heap.size w w1 := (below_alloc (Below.refl _ w) _).trans (hb1.mono (by simp)); have sz1 : w.heap.size < w1.heap.size := x1.lt; have xc1 := x1.cell; have xf1 := x1.frozen)
    | (go_at_call 33; refine (HF.out _).mono ?_; rintro e' w2 ⟨⟨p2, c2, rfl⟩, hb2⟩; have x2 : Box w2 w.heap.size s := Box.below (B := w1.heap.size + 1) ((heap_old _ _ _ sz1).trans x1) (hb2.mono (by simp)) (by omega); have y2 : Box w2 w1.heap.size s := Box.below (B := w1.heap.size + 1) (heap_new _ _ _ rfl) (hb2.mono (by simp)) (by omega); have B2 : Below w.heap.size w w2 := (below_alloc B1 _).trans (hb2.mono (by simp <;> omega)); have sz2 : w1.heap.size < w2.heap.size := y2.lt; have sy2 : w.heap.size < w2.heap.size := x2.lt; have ne2 : ¬ w.heap.size = w2.heap.size := (by omega); have ne2' : ¬ w1.heap.size = w2.heap.size := (by omega); have xc2 := x2.cell; have xf2 := x2.frozen; have yc2 := y2.cell; have yf2 := y2.frozen)
    | (go_at_call 34; refine (HE.out _).mono ?_; rintro e' w3 ⟨⟨p3, c3, rfl⟩, hb3⟩; have x3 : Box w3 w.heap.size s := Box.below (B := w2.heap.size + 1) ((heap_old _ _ _ (by omega)).trans x2) (hb3.mono (by simp)) (by omega); have y3 : Box w3 w1.heap.size s := Box.below (B := w2.heap.size + 1) ((heap_old _ _ _ (by omega)).trans y2) (hb3.mono (by simp)) (by omega); have B3 : Below w.heap.size w w3 := (below_alloc B2 _).trans (hb3.mono (by simp <;> omega)); have sz3 : w1.heap.size < w3.heap.size := y3.lt; have sz4 : w.heap.size < w3.heap.size := x3.lt; have ne3 : ¬ w.heap.size = w3.heap.size := (by omega); have ne3' : ¬ w1.heap.size = w3.heap.size := (by omega); have xc3 := x3.cell; have xf3 := x3.frozen; have yc3 := y3.cell; have yf3 := y3.frozen)
    | (go_at_call 35; refine (law_decodes _).mono ?_; rintro e' w5 ⟨rfl, hb5⟩))
  go_ret
  exact ⟨rfl, B3.trans (hb5.mono B3.size)⟩

set_option maxRecDepth 100000 in
set_option maxHeartbeats 4000000 in
theorem none_form (e b : Int) (s t u : St) (n3 : Nat) (he1 : 1 ≤ e) (he6 : e ≤ 6)
    (HS : Hid (∀ W, Calls Try.prog 32 #[.int .i64 e, .agg #[.int .i64 s.need, .int .i64 s.code, .int .i64 s.frm, .int .i64 s.upto, .string (strOfNums s.kept), .int .i64 s.half, .int .i64 s.mode], .int .i64 b] W (PostS s 0 1 W)))
    (HF : Hid (∀ W, Calls Try.prog 33 #[.int .i64 e, .agg #[.int .i64 s.need, .int .i64 s.code, .int .i64 s.frm, .int .i64 s.upto, .string (strOfNums s.kept), .int .i64 s.half, .int .i64 s.mode], .string ⟨#[]⟩] W (PostS u 0 1 W)))
    (HE : Hid (∀ W, Calls Try.prog 34 #[.int .i64 e, .agg #[.int .i64 s.need, .int .i64 s.code, .int .i64 s.frm, .int .i64 s.upto, .string (strOfNums s.kept), .int .i64 s.half, .int .i64 s.mode]] W (PostL 0 1 W)))
    (HG : Hid (∀ W, Calls Try.prog 36 #[.int .i64 e, .agg #[.int .i64 s.need, .int .i64 s.code, .int .i64 s.frm, .int .i64 s.upto, .string (strOfNums s.kept), .int .i64 s.half, .int .i64 s.mode]] W fun e' w' => e' = .returned (.bool false) ∧ w' = W.alloc (.cells s.cells 36)))
    (w : World) : Calls Try.prog 9 #[.int .i64 e, .agg #[.int .i64 s.need, .int .i64 s.code, .int .i64 s.frm, .int .i64 s.upto, .string (strOfNums s.kept), .int .i64 s.half, .int .i64 s.mode], .int .i64 b] w fun e' w' => e' = .returned (.bool true) ∧ Below w.heap.size w w' := by
  unfold PostS at HS HF
  unfold PostL at HE
  go_enter Try.func9, Try.ntmps9
  go_wp2_with (first
    | (go_at_call 32; refine (HS.out _).mono ?_; rintro e' w1 ⟨⟨p1, c1, rfl⟩, hb1⟩; have x1 : Box w1 w.heap.size s := Box.below (B := w.heap.size + 1) (heap_new _ _ _ rfl) (hb1.mono (by simp)) (by omega); have B1 : Below w.heap.size w w1 := (below_alloc (Below.refl _ w) _).trans (hb1.mono (by simp)); have sz1 : w.heap.size < w1.heap.size := x1.lt; have xc1 := x1.cell; have xf1 := x1.frozen)
    | (go_at_call 33; refine (HF.out _).mono ?_; rintro e' w2 ⟨⟨p2, c2, rfl⟩, hb2⟩; have x2 : Box w2 w.heap.size s := Box.below (B := w1.heap.size + 1) ((heap_old _ _ _ sz1).trans x1) (hb2.mono (by simp)) (by omega); have y2 : Box w2 w1.heap.size s := Box.below (B := w1.heap.size + 1) (heap_new _ _ _ rfl) (hb2.mono (by simp)) (by omega); have B2 : Below w.heap.size w w2 := (below_alloc B1 _).trans (hb2.mono (by simp <;> omega)); have sz2 : w1.heap.size < w2.heap.size := y2.lt; have sy2 : w.heap.size < w2.heap.size := x2.lt; have ne2 : ¬ w.heap.size = w2.heap.size := (by omega); have ne2' : ¬ w1.heap.size = w2.heap.size := (by omega); have xc2 := x2.cell; have xf2 := x2.frozen; have yc2 := y2.cell; have yf2 := y2.frozen)
    | (go_at_call 34; refine (HE.out _).mono ?_; rintro e' w3 ⟨⟨p3, c3, rfl⟩, hb3⟩; have x3 : Box w3 w.heap.size s := Box.below (B := w2.heap.size + 1) ((heap_old _ _ _ (by omega)).trans x2) (hb3.mono (by simp)) (by omega); have y3 : Box w3 w1.heap.size s := Box.below (B := w2.heap.size + 1) ((heap_old _ _ _ (by omega)).trans y2) (hb3.mono (by simp)) (by omega); have B3 : Below w.heap.size w w3 := (below_alloc B2 _).trans (hb3.mono (by simp <;> omega)); have sz3 : w1.heap.size < w3.heap.size := y3.lt; have sz4 : w.heap.size < w3.heap.size := x3.lt; have ne3 : ¬ w.heap.size = w3.heap.size := (by omega); have ne3' : ¬ w1.heap.size = w3.heap.size := (by omega); have xc3 := x3.cell; have xf3 := x3.frozen; have yc3 := y3.cell; have yf3 := y3.frozen)
    | (go_at_call 36; refine (HG.out _).mono ?_; rintro e' w4 ⟨rfl, rfl⟩)
    | (go_at_call 35; refine (law_decodes _).mono ?_; rintro e' w5 ⟨rfl, hb5⟩))
  go_ret
  exact ⟨rfl, (below_alloc B3 _).trans (hb5.mono (below_alloc B3 _).size)⟩

set_option maxRecDepth 100000 in
set_option maxHeartbeats 4000000 in
theorem none_blow (e b : Int) (s t u : St) (n3 : Nat) (he1 : 1 ≤ e) (he6 : e ≤ 6) (hb : b < 0) (n2 : Nat)
    (HS : Hid (∀ W, Calls Try.prog 32 #[.int .i64 e, .agg #[.int .i64 s.need, .int .i64 s.code, .int .i64 s.frm, .int .i64 s.upto, .string (strOfNums s.kept), .int .i64 s.half, .int .i64 s.mode], .int .i64 b] W (PostS s 0 1 W)))
    (HF : Hid (∀ W, Calls Try.prog 33 #[.int .i64 e, .agg #[.int .i64 s.need, .int .i64 s.code, .int .i64 s.frm, .int .i64 s.upto, .string (strOfNums s.kept), .int .i64 s.half, .int .i64 s.mode], .string ⟨#[]⟩] W (PostS u n2 0 W)))
    (HE : Hid (∀ W, Calls Try.prog 34 #[.int .i64 e, .agg #[.int .i64 s.need, .int .i64 s.code, .int .i64 s.frm, .int .i64 s.upto, .string (strOfNums s.kept), .int .i64 s.half, .int .i64 s.mode]] W (PostL n3 0 W)))
    (HG : Hid (∀ s', s' = s ∨ s' = s → ∀ W, Calls Try.prog 36 #[.int .i64 e, .agg #[.int .i64 s'.need, .int .i64 s'.code, .int .i64 s'.frm, .int .i64 s'.upto, .string (strOfNums s'.kept), .int .i64 s'.half, .int .i64 s'.mode]] W fun e' w' => e' = .returned (.bool true) ∧ w' = W.alloc (.cells s'.cells 36)))
    (w : World) : Calls Try.prog 9 #[.int .i64 e, .agg #[.int .i64 s.need, .int .i64 s.code, .int .i64 s.frm, .int .i64 s.upto, .string (strOfNums s.kept), .int .i64 s.half, .int .i64 s.mode], .int .i64 b] w fun e' w' => e' = .returned (.bool true) ∧ Below w.heap.size w w' := by
  unfold PostS at HS HF
  unfold PostL at HE
  go_enter Try.func9, Try.ntmps9
  go_wp2_with (first
    | (go_at_call 32; refine (HS.out _).mono ?_; rintro e' w1 ⟨⟨p1, c1, rfl⟩, hb1⟩; have x1 : Box w1 w.heap.size s := Box.below (B := w.heap.size + 1) (heap_new _ _ _ rfl) (hb1.mono (by simp)) (by omega); have B1 : Below w.heap.size w w1 := (below_alloc (Below.refl _ w) _).trans (hb1.mono (by simp)); have sz1 : w.heap.size < w1.heap.size := x1.lt; have xc1 := x1.cell; have xf1 := x1.frozen)
    | (go_at_call 33; refine (HF.out _).mono ?_; rintro e' w2 ⟨⟨p2, c2, rfl⟩, hb2⟩; have x2 : Box w2 w.heap.size s := Box.below (B := w1.heap.size + 1) ((heap_old _ _ _ sz1).trans x1) (hb2.mono (by simp)) (by omega); have y2 : Box w2 w1.heap.size s := Box.below (B := w1.heap.size + 1) (heap_new _ _ _ rfl) (hb2.mono (by simp)) (by omega); have B2 : Below w.heap.size w w2 := (below_alloc B1 _).trans (hb2.mono (by simp <;> omega)); have sz2 : w1.heap.size < w2.heap.size := y2.lt; have sy2 : w.heap.size < w2.heap.size := x2.lt; have ne2 : ¬ w.heap.size = w2.heap.size := (by omega); have ne2' : ¬ w1.heap.size = w2.heap.size := (by omega); have xc2 := x2.cell; have xf2 := x2.frozen; have yc2 := y2.cell; have yf2 := y2.frozen)
    | (go_at_call 34; refine (HE.out _).mono ?_; rintro e' w3 ⟨⟨p3, c3, rfl⟩, hb3⟩; have x3 : Box w3 w.heap.size s := Box.below (B := w2.heap.size + 1) ((heap_old _ _ _ (by omega)).trans x2) (hb3.mono (by simp)) (by omega); have y3 : Box w3 w1.heap.size s := Box.below (B := w2.heap.size + 1) ((heap_old _ _ _ (by omega)).trans y2) (hb3.mono (by simp)) (by omega); have B3 : Below w.heap.size w w3 := (below_alloc B2 _).trans (hb3.mono (by simp <;> omega)); have sz3 : w1.heap.size < w3.heap.size := y3.lt; have sz4 : w.heap.size < w3.heap.size := x3.lt; have ne3 : ¬ w.heap.size = w3.heap.size := (by omega); have ne3' : ¬ w1.heap.size = w3.heap.size := (by omega); have xc3 := x3.cell; have xf3 := x3.frozen; have yc3 := y3.cell; have yf3 := y3.frozen)
    | (go_at_call 36; refine (HG.out _ (by first | exact Or.inl rfl | exact Or.inr rfl) _).mono ?_; rintro e' w4 ⟨rfl, rfl⟩)
    | (go_at_call 35; refine (law_decodes _).mono ?_; rintro e' w5 ⟨rfl, hb5⟩))
  go_ret
  exact ⟨rfl, (below_alloc B3 _).trans (hb5.mono (below_alloc B3 _).size)⟩

set_option maxRecDepth 100000 in
set_option maxHeartbeats 4000000 in
theorem none_bhigh (e b : Int) (s t u : St) (n3 : Nat) (he1 : 1 ≤ e) (he6 : e ≤ 6) (hb : 255 < b) (n2 : Nat)
    (HS : Hid (∀ W, Calls Try.prog 32 #[.int .i64 e, .agg #[.int .i64 s.need, .int .i64 s.code, .int .i64 s.frm, .int .i64 s.upto, .string (strOfNums s.kept), .int .i64 s.half, .int .i64 s.mode], .int .i64 b] W (PostS s 0 1 W)))
    (HF : Hid (∀ W, Calls Try.prog 33 #[.int .i64 e, .agg #[.int .i64 s.need, .int .i64 s.code, .int .i64 s.frm, .int .i64 s.upto, .string (strOfNums s.kept), .int .i64 s.half, .int .i64 s.mode], .string ⟨#[]⟩] W (PostS u n2 0 W)))
    (HE : Hid (∀ W, Calls Try.prog 34 #[.int .i64 e, .agg #[.int .i64 s.need, .int .i64 s.code, .int .i64 s.frm, .int .i64 s.upto, .string (strOfNums s.kept), .int .i64 s.half, .int .i64 s.mode]] W (PostL n3 0 W)))
    (HG : Hid (∀ s', s' = s ∨ s' = s → ∀ W, Calls Try.prog 36 #[.int .i64 e, .agg #[.int .i64 s'.need, .int .i64 s'.code, .int .i64 s'.frm, .int .i64 s'.upto, .string (strOfNums s'.kept), .int .i64 s'.half, .int .i64 s'.mode]] W fun e' w' => e' = .returned (.bool true) ∧ w' = W.alloc (.cells s'.cells 36)))
    (w : World) : Calls Try.prog 9 #[.int .i64 e, .agg #[.int .i64 s.need, .int .i64 s.code, .int .i64 s.frm, .int .i64 s.upto, .string (strOfNums s.kept), .int .i64 s.half, .int .i64 s.mode], .int .i64 b] w fun e' w' => e' = .returned (.bool true) ∧ Below w.heap.size w w' := by
  unfold PostS at HS HF
  unfold PostL at HE
  go_enter Try.func9, Try.ntmps9
  go_wp2_with (first
    | (go_at_call 32; refine (HS.out _).mono ?_; rintro e' w1 ⟨⟨p1, c1, rfl⟩, hb1⟩; have x1 : Box w1 w.heap.size s := Box.below (B := w.heap.size + 1) (heap_new _ _ _ rfl) (hb1.mono (by simp)) (by omega); have B1 : Below w.heap.size w w1 := (below_alloc (Below.refl _ w) _).trans (hb1.mono (by simp)); have sz1 : w.heap.size < w1.heap.size := x1.lt; have xc1 := x1.cell; have xf1 := x1.frozen)
    | (go_at_call 33; refine (HF.out _).mono ?_; rintro e' w2 ⟨⟨p2, c2, rfl⟩, hb2⟩; have x2 : Box w2 w.heap.size s := Box.below (B := w1.heap.size + 1) ((heap_old _ _ _ sz1).trans x1) (hb2.mono (by simp)) (by omega); have y2 : Box w2 w1.heap.size s := Box.below (B := w1.heap.size + 1) (heap_new _ _ _ rfl) (hb2.mono (by simp)) (by omega); have B2 : Below w.heap.size w w2 := (below_alloc B1 _).trans (hb2.mono (by simp <;> omega)); have sz2 : w1.heap.size < w2.heap.size := y2.lt; have sy2 : w.heap.size < w2.heap.size := x2.lt; have ne2 : ¬ w.heap.size = w2.heap.size := (by omega); have ne2' : ¬ w1.heap.size = w2.heap.size := (by omega); have xc2 := x2.cell; have xf2 := x2.frozen; have yc2 := y2.cell; have yf2 := y2.frozen)
    | (go_at_call 34; refine (HE.out _).mono ?_; rintro e' w3 ⟨⟨p3, c3, rfl⟩, hb3⟩; have x3 : Box w3 w.heap.size s := Box.below (B := w2.heap.size + 1) ((heap_old _ _ _ (by omega)).trans x2) (hb3.mono (by simp)) (by omega); have y3 : Box w3 w1.heap.size s := Box.below (B := w2.heap.size + 1) ((heap_old _ _ _ (by omega)).trans y2) (hb3.mono (by simp)) (by omega); have B3 : Below w.heap.size w w3 := (below_alloc B2 _).trans (hb3.mono (by simp <;> omega)); have sz3 : w1.heap.size < w3.heap.size := y3.lt; have sz4 : w.heap.size < w3.heap.size := x3.lt; have ne3 : ¬ w.heap.size = w3.heap.size := (by omega); have ne3' : ¬ w1.heap.size = w3.heap.size := (by omega); have xc3 := x3.cell; have xf3 := x3.frozen; have yc3 := y3.cell; have yf3 := y3.frozen)
    | (go_at_call 36; refine (HG.out _ (by first | exact Or.inl rfl | exact Or.inr rfl) _).mono ?_; rintro e' w4 ⟨rfl, rfl⟩)
    | (go_at_call 35; refine (law_decodes _).mono ?_; rintro e' w5 ⟨rfl, hb5⟩))
  go_ret
  exact ⟨rfl, (below_alloc B3 _).trans (hb5.mono (below_alloc B3 _).size)⟩

set_option maxRecDepth 100000 in
set_option maxHeartbeats 4000000 in
theorem none_ok (e b : Int) (s t u : St) (n3 : Nat) (he1 : 1 ≤ e) (he6 : e ≤ 6) (hb0 : 0 ≤ b) (hb1 : b ≤ 255) (hn3 : (n3 : Int) ≤ 2) (n1 n2 : Nat)
    (HS : Hid (∀ W, Calls Try.prog 32 #[.int .i64 e, .agg #[.int .i64 s.need, .int .i64 s.code, .int .i64 s.frm, .int .i64 s.upto, .string (strOfNums s.kept), .int .i64 s.half, .int .i64 s.mode], .int .i64 b] W (PostS t n1 0 W)))
    (HF : Hid (∀ W, Calls Try.prog 33 #[.int .i64 e, .agg #[.int .i64 s.need, .int .i64 s.code, .int .i64 s.frm, .int .i64 s.upto, .string (strOfNums s.kept), .int .i64 s.half, .int .i64 s.mode], .string ⟨#[]⟩] W (PostS u n2 0 W)))
    (HE : Hid (∀ W, Calls Try.prog 34 #[.int .i64 e, .agg #[.int .i64 s.need, .int .i64 s.code, .int .i64 s.frm, .int .i64 s.upto, .string (strOfNums s.kept), .int .i64 s.half, .int .i64 s.mode]] W (PostL n3 0 W)))
    (HG : Hid (∀ s', s' = s ∨ s' = t → ∀ W, Calls Try.prog 36 #[.int .i64 e, .agg #[.int .i64 s'.need, .int .i64 s'.code, .int .i64 s'.frm, .int .i64 s'.upto, .string (strOfNums s'.kept), .int .i64 s'.half, .int .i64 s'.mode]] W fun e' w' => e' = .returned (.bool true) ∧ w' = W.alloc (.cells s'.cells 36)))
    (w : World) : Calls Try.prog 9 #[.int .i64 e, .agg #[.int .i64 s.need, .int .i64 s.code, .int .i64 s.frm, .int .i64 s.upto, .string (strOfNums s.kept), .int .i64 s.half, .int .i64 s.mode], .int .i64 b] w fun e' w' => e' = .returned (.bool true) ∧ Below w.heap.size w w' := by
  unfold PostS at HS HF
  unfold PostL at HE
  go_enter Try.func9, Try.ntmps9
  go_wp2_with (first
    | (go_at_call 32; refine (HS.out _).mono ?_; rintro e' w1 ⟨⟨p1, c1, rfl⟩, hb1⟩; have x1 : Box w1 w.heap.size s := Box.below (B := w.heap.size + 1) (heap_new _ _ _ rfl) (hb1.mono (by simp)) (by omega); have B1 : Below w.heap.size w w1 := (below_alloc (Below.refl _ w) _).trans (hb1.mono (by simp)); have sz1 : w.heap.size < w1.heap.size := x1.lt; have xc1 := x1.cell; have xf1 := x1.frozen)
    | (go_at_call 33; refine (HF.out _).mono ?_; rintro e' w2 ⟨⟨p2, c2, rfl⟩, hb2⟩; have x2 : Box w2 w.heap.size s := Box.below (B := w1.heap.size + 1) ((heap_old _ _ _ sz1).trans x1) (hb2.mono (by simp)) (by omega); have y2 : Box w2 w1.heap.size t := Box.below (B := w1.heap.size + 1) (heap_new _ _ _ rfl) (hb2.mono (by simp)) (by omega); have B2 : Below w.heap.size w w2 := (below_alloc B1 _).trans (hb2.mono (by simp <;> omega)); have sz2 : w1.heap.size < w2.heap.size := y2.lt; have sy2 : w.heap.size < w2.heap.size := x2.lt; have ne2 : ¬ w.heap.size = w2.heap.size := (by omega); have ne2' : ¬ w1.heap.size = w2.heap.size := (by omega); have xc2 := x2.cell; have xf2 := x2.frozen; have yc2 := y2.cell; have yf2 := y2.frozen)
    | (go_at_call 34; refine (HE.out _).mono ?_; rintro e' w3 ⟨⟨p3, c3, rfl⟩, hb3⟩; have x3 : Box w3 w.heap.size s := Box.below (B := w2.heap.size + 1) ((heap_old _ _ _ (by omega)).trans x2) (hb3.mono (by simp)) (by omega); have y3 : Box w3 w1.heap.size t := Box.below (B := w2.heap.size + 1) ((heap_old _ _ _ (by omega)).trans y2) (hb3.mono (by simp)) (by omega); have B3 : Below w.heap.size w w3 := (below_alloc B2 _).trans (hb3.mono (by simp <;> omega)); have sz3 : w1.heap.size < w3.heap.size := y3.lt; have sz4 : w.heap.size < w3.heap.size := x3.lt; have ne3 : ¬ w.heap.size = w3.heap.size := (by omega); have ne3' : ¬ w1.heap.size = w3.heap.size := (by omega); have xc3 := x3.cell; have xf3 := x3.frozen; have yc3 := y3.cell; have yf3 := y3.frozen)
    | (go_at_call 36; refine (HG.out _ (by first | exact Or.inl rfl | exact Or.inr rfl) _).mono ?_; rintro e' w4 ⟨rfl, rfl⟩)
    | (go_at_call 35; refine (law_decodes _).mono ?_; rintro e' w5 ⟨rfl, hb5⟩))
  go_ret
  exact ⟨rfl, (below_alloc (below_alloc B3 _) _).trans (hb5.mono (below_alloc (below_alloc B3 _) _).size)⟩

theorem none_any (e b : Int) (s : St) (hk : bytesOf s) (w : World) :
    Calls Try.prog 9 #[.int .i64 e, s.val, .int .i64 b] w fun e' w' => e' = .returned (.bool true) ∧ Below w.heap.size w w' := by
  by_cases he1 : e < 1
  · exact none_low e b s s s 0 he1 (Lib.hid fun W => step_kind_s e s b (Or.inl he1) W) (Lib.hid fun W => feed_kind_s e s _ (Or.inl he1) W) (Lib.hid fun W => end_kind_s e s (Or.inl he1) W) w
  by_cases he6 : 6 < e
  · exact none_high e b s s s 0 he6 (Lib.hid fun W => step_kind_s e s b (Or.inr he6) W) (Lib.hid fun W => feed_kind_s e s _ (Or.inr he6) W) (Lib.hid fun W => end_kind_s e s (Or.inr he6) W) w
  have he1' : 1 ≤ e := by omega
  have he6' : e ≤ 6 := by omega
  cases hg : goodS e s
  · exact none_form e b s s s 0 he1' he6' (Lib.hid fun W => step_form_s e s hk he1' he6' b hg W) (Lib.hid fun W => feed_form_s e s hk he1' he6' hg W) (Lib.hid fun W => end_form_s e s hk he1' he6' hg W)
      (Lib.hid fun W => by have h := good_st e s hk W; rw [hg] at h; exact h) w
  have hok : okS e s := ⟨hg, hk⟩
  have hf : ∀ W, Calls Try.prog 33 #[.int .i64 e, s.val, .string ⟨#[]⟩] W (PostS s 0 0 W) := fun W => by
    have h := feed_any e he1' he6' s ⟨#[]⟩ (by decide) hok W
    have h0 : feedS e s (nums ⟨#[]⟩) = (s, []) := rfl
    rw [h0] at h
    exact h.mono fun _ _ h => postE_s h
  have hend : ∀ W, Calls Try.prog 34 #[.int .i64 e, s.val] W (PostL (endS s).length 0 W) := fun W => (end_ok e he1' he6' s hok W).mono fun _ _ h => post2_l h
  have hgs : ∀ s', okS e s' → ∀ W, Calls Try.prog 36 #[.int .i64 e, s'.val] W fun e' w' => e' = .returned (.bool true) ∧ w' = W.alloc (.cells s'.cells 36) := fun s' h W => by
    have hh := good_st e s' h.2 W
    rw [h.1] at hh
    exact hh
  by_cases hb0 : b < 0
  · exact none_blow e b s s s _ he1' he6' hb0 _ (Lib.hid fun W => step_byte_s e s he1' he6' b (Or.inl hb0) W) (Lib.hid hf) (Lib.hid hend) (Lib.hid fun s' h => hgs s' (by rcases h with rfl | rfl <;> exact hok)) w
  by_cases hb1 : 255 < b
  · exact none_bhigh e b s s s _ he1' he6' hb1 _ (Lib.hid fun W => step_byte_s e s he1' he6' b (Or.inr hb1) W) (Lib.hid hf) (Lib.hid hend) (Lib.hid fun s' h => hgs s' (by rcases h with rfl | rfl <;> exact hok)) w
  have hlast := end_len s
  refine none_ok e b s (stepS e s b).1 s _ he1' he6' (by omega) (by omega) (by omega) _ _ (Lib.hid fun W => (step_any e he1' he6' s b (by omega) (by omega) hok W).mono fun _ _ h => postE_s h) (Lib.hid hf) (Lib.hid hend)
    (Lib.hid fun s' h => hgs s' ?_) w
  rcases h with rfl | rfl
  · exact hok
  · exact step_ok he1' he6' (by omega) (by omega) hok

end Go.Proofs.Ytefohnbmifblkaa
