/- What the walk through DecodeNone needs: what Step, Feed and End refuse, asked of a state whose kept bytes are bytes. -/
import Derived.Test.YtefohnbmifblkaaDecodes
import Derived.Test.YtefohnbmifblkaaLaws
namespace Go.Proofs.Ytefohnbmifblkaa
open Go.RowKit
set_option linter.unusedVariables false

theorem strOfNums_nums (k : ByteArray) : strOfNums (nums k) = k := by
  unfold strOfNums nums
  rw [List.map_map]
  have : ((fun x : Int => UInt8.ofNat x.toNat) ∘ fun b : UInt8 => (b.toNat : Int)) = id := by
    funext b
    simp
  first
    | (rw [this]; simp)
    | (simp [Function.comp_def])

def bytesOf (s : St) : Prop := ∀ x ∈ s.kept, 0 ≤ x ∧ x ≤ 255
theorem st_same {s : St} (h : bytesOf s) : St.mk s.need s.code s.frm s.upto (nums (strOfNums s.kept)) s.half s.mode = s := by
  rw [nums_strOfNums h]

theorem slice_nil {W : World} {b : Nat} {v : Value} (h : Ints W b v []) : ∃ a c, v = .slice a 0 c := by
  rcases h.2 with ⟨rfl, _⟩ | ⟨g, cap, cur, rfl, _⟩
  · exact ⟨none, 0, rfl⟩
  · exact ⟨_, cap, rfl⟩
theorem slice_any {W : World} {b : Nat} {v : Value} {xs : List Int} (h : Ints W b v xs) : ∃ a c, v = .slice a xs.length c := by
  rcases h.2 with ⟨rfl, hn⟩ | ⟨g, cap, cur, rfl, _⟩
  · exact ⟨none, 0, by rw [hn]⟩
  · exact ⟨_, cap, rfl⟩

/-- The end of Step and Feed: a state, a list of so many numbers, an error's number. -/
def PostS (t : St) (n : Nat) (code : Int) (w : World) (e : Ending) (w' : World) : Prop :=
  (∃ a c, e = .returned (.tuple #[.agg #[.int .i64 t.need, .int .i64 t.code, .int .i64 t.frm, .int .i64 t.upto, .string (strOfNums t.kept), .int .i64 t.half, .int .i64 t.mode], .slice a n c, .int .i64 code])) ∧ Below w.heap.size w w'
/-- The end of End likewise. -/
def PostL (n : Nat) (code : Int) (w : World) (e : Ending) (w' : World) : Prop := (∃ a c, e = .returned (.tuple #[.slice a n c, .int .i64 code])) ∧ Below w.heap.size w w'

theorem post2_l {xs : List Int} {code : Int} {w : World} {e : Ending} {w' : World} (h : Post2 xs code w e w') : PostL xs.length code w e w' := by
  obtain ⟨v, rfl, hi, hb⟩ := h
  obtain ⟨a, c, rfl⟩ := slice_any hi
  exact ⟨⟨a, c, rfl⟩, hb⟩
theorem postE_s {t : St} {xs : List Int} {code : Int} {w : World} {e : Ending} {w' : World} (h : PostE t xs code w e w') : PostS t xs.length code w e w' := by
  obtain ⟨v, rfl, hi, hb⟩ := h
  obtain ⟨a, c, rfl⟩ := slice_any hi
  exact ⟨⟨a, c, rfl⟩, hb⟩
theorem postX_s {t : St} {code : Int} {w : World} {e : Ending} {w' : World} (h : PostX t.need t.code t.frm t.upto (strOfNums t.kept) t.half t.mode code w e w') : PostS t 0 code w e w' := by
  obtain ⟨rfl, hb⟩ := h
  exact ⟨⟨none, 0, rfl⟩, hb⟩

theorem end_form_s (e : Int) (s : St) (hk : bytesOf s) (he1 : 1 ≤ e) (he6 : e ≤ 6) (hg : goodS e s = false) (w : World) : Calls Try.prog 34 #[.int .i64 e, s.val] w (PostL 0 1 w) :=
  (end_form e s.need s.code s.frm s.upto s.half s.mode (strOfNums s.kept) he1 he6 (by rw [st_same hk]; exact hg) w).mono fun _ _ h => post2_l h
theorem step_form_s (e : Int) (s : St) (hk : bytesOf s) (he1 : 1 ≤ e) (he6 : e ≤ 6) (b : Int) (hg : goodS e s = false) (w : World) : Calls Try.prog 32 #[.int .i64 e, s.val, .int .i64 b] w (PostS s 0 1 w) := by
  by_cases hb : 0 ≤ b ∧ b ≤ 255
  · exact (step_form e s.need s.code s.frm s.upto s.half s.mode b (strOfNums s.kept) he1 he6 hb.1 hb.2 (by rw [st_same hk]; exact hg) w).mono fun _ _ h => postX_s h
  · exact (step_byte e s.need s.code s.frm s.upto s.half s.mode b (strOfNums s.kept) he1 he6 (by omega) w).mono fun _ _ h => postX_s h
theorem step_byte_s (e : Int) (s : St) (he1 : 1 ≤ e) (he6 : e ≤ 6) (b : Int) (hb : b < 0 ∨ 255 < b) (w : World) : Calls Try.prog 32 #[.int .i64 e, s.val, .int .i64 b] w (PostS s 0 1 w) :=
  (step_byte e s.need s.code s.frm s.upto s.half s.mode b (strOfNums s.kept) he1 he6 hb w).mono fun _ _ h => postX_s h
theorem step_kind_s (e : Int) (s : St) (b : Int) (he : e < 1 ∨ 6 < e) (w : World) : Calls Try.prog 32 #[.int .i64 e, s.val, .int .i64 b] w (PostS s 0 2 w) :=
  (step_kind e s.need s.code s.frm s.upto s.half s.mode b (strOfNums s.kept) he w).mono fun _ _ h => postX_s h
theorem feed_kind_s (e : Int) (s : St) (l : ByteArray) (he : e < 1 ∨ 6 < e) (w : World) : Calls Try.prog 33 #[.int .i64 e, s.val, .string l] w (PostS s 0 2 w) :=
  (feed_kind e s.need s.code s.frm s.upto s.half s.mode (strOfNums s.kept) l he w).mono fun _ _ h => postX_s h
theorem end_kind_s (e : Int) (s : St) (he : e < 1 ∨ 6 < e) (w : World) : Calls Try.prog 34 #[.int .i64 e, s.val] w (PostL 0 2 w) :=
  (end_kind e s.need s.code s.frm s.upto s.half s.mode (strOfNums s.kept) he w).mono fun _ _ h => post2_l h

set_option maxRecDepth 100000 in
set_option maxHeartbeats 1000000 in
theorem feed_form_s (e : Int) (s : St) (hk : bytesOf s) (he1 : 1 ≤ e) (he6 : e ≤ 6) (hg : goodS e s = false) (w : World) :
    Calls Try.prog 33 #[.int .i64 e, s.val, .string ⟨#[]⟩] w (PostS s 0 1 w) := by
  have HE := Lib.hid (fun W => end_form_s e s hk he1 he6 hg W)
  unfold PostL at HE
  clear hg hk
  unfold St.val at *
  go_enter Try.func33, Try.ntmps33
  go_wp2_with (go_at_call 34; refine (HE.out _).mono ?_; rintro e' w1 ⟨⟨a, cc, rfl⟩, hb1⟩; have hx : Box w1 w.heap.size s := Box.below (B := w.heap.size + 1 + 1) ((heap_old _ _ _ (by simp)).trans (heap_new _ _ _ rfl)) (hb1.mono (by simp)) (by omega); have hy : Box w1 (w.heap.size + 1) {} := Box.below (B := w.heap.size + 1 + 1) (heap_new _ _ _ (by simp)) (hb1.mono (by simp)) (by omega); have hc1 := hx.cell; have hf1 := hx.frozen; have hc2 := hy.cell; have hf2 := hy.frozen)
  refine bodyPost_ret (v := .tuple #[.agg #[.int .i64 s.need, .int .i64 s.code, .int .i64 s.frm, .int .i64 s.upto, .string (strOfNums s.kept), .int .i64 s.half, .int .i64 s.mode], .slice none 0 0, .int .i64 1]) (by simp [results, Try.results33, go_sem, hc2]) rfl ⟨⟨none, 0, rfl⟩, ?_⟩
  exact below_put7 ((below_alloc (below_alloc (Below.refl _ w) _) _).trans (hb1.mono (by simp <;> omega))) (by omega) s

end Go.Proofs.Ytefohnbmifblkaa
