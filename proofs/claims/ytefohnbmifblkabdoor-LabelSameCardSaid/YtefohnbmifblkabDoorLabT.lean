/- label.Trim: a label without the spaces about it, in small letters. -/
import Derived.Test.YtefohnbmifblkabDoorLay
import Derived.Test.YtefohnbmifblkabDoorLabP
import Derived.WalkKit
import Derived.BigQuiet
import Derived.Lib.Hide
import Derived.Laws.IdiomStrings
namespace Go.Proofs.YtefohnbmifblkabDoor
open Go.RowKit
set_option linter.unusedVariables false

theorem ret_int {k : IntKind} {a b : Int} (h : a = b) : Ending.returned (.int k a) = .returned (.int k b) := by rw [h]
theorem ret_bool {a b : Bool} (h : a = b) : Ending.returned (.bool a) = .returned (.bool b) := by rw [h]
theorem wrap64_byte (x : UInt8) : wrap64 (x.toNat : Int) = (x.toNat : Int) := IntWalk.wrap64_in _ (by have := x.toNat_lt; omega)
theorem byte_le (u : UInt8) : (u.toNat : Int) ≤ 255 := by have := u.toNat_lt; omega
theorem below_alloc {w W : World} (h : Below w.heap.size w W) (o : Obj) : Below w.heap.size w (W.alloc o) := h.alloc h.size o
theorem wraps_i64 (n : Int) (h₀ : 0 ≤ n) (h₁ : n < 2 ^ 63) : IntKind.i64.wrap n = n := by rw [IntKind.wrap_i64]; omega

/-- Block b holds n bytes, told by a function. -/
def Row (W : World) (b n : Nat) (f : Nat → Int) : Prop :=
  ∃ C t fr, W.heap[b]? = some (.cells C t fr) ∧ ∀ j, j < n → C[j]? = some (.int .u8 (f j)) ∧ (decide (fr.1 ≤ j) && decide (j < fr.2)) = false
theorem Row.cell {W : World} {b n : Nat} {f : Nat → Int} (h : Row W b n f) (j : Nat) (hj : j < n) : W.cell? ⟨b, j, none⟩ = some (.int .u8 (f j)) := by
  obtain ⟨C, t, fr, hh, hc⟩ := h
  unfold World.cell?
  rw [hh]
  simpa using (hc j hj).1
theorem Row.frozen {W : World} {b n : Nat} {f : Nat → Int} (h : Row W b n f) (j : Nat) (hj : j < n) : W.frozen? ⟨b, j, none⟩ = false := by
  obtain ⟨C, t, ⟨lo, hi⟩, hh, hc⟩ := h
  unfold World.frozen?
  rw [hh]
  simpa using (hc j hj).2
theorem Row.set {W : World} {b n : Nat} {f g : Nat → Int} (h : Row W b n f) (k : Nat) (v : Int) (hg : ∀ j, j < n → g j = if j = k then v else f j) : Row (W.setCell ⟨b, k, none⟩ (.int .u8 v)) b n g := by
  obtain ⟨C, t, fr, hh, hc⟩ := h
  refine ⟨C.setIfInBounds k (.int .u8 v), t, fr, ?_, fun j hj => ⟨?_, (hc j hj).2⟩⟩
  · simp only [World.setCell, Array.getElem?_modify]
    simp [hh]
  · rw [hg j hj, Array.getElem?_setIfInBounds]
    have hs : j < C.size := (Array.getElem?_eq_some_iff.1 (hc j hj).1).1
    by_cases e : k = j
    · subst e
      simp [hs]
    · rw [if_neg e, if_neg fun h => e h.symm]
      exact (hc j hj).1
theorem Row.congr {W : World} {b n : Nat} {f g : Nat → Int} (h : Row W b n f) (hg : ∀ j, j < n → g j = f j) : Row W b n g := by
  obtain ⟨C, t, fr, hh, hc⟩ := h
  exact ⟨C, t, fr, hh, fun j hj => by rw [hg j hj]; exact hc j hj⟩
theorem Row.lt {W : World} {b n : Nat} {f : Nat → Int} (h : Row W b n f) : b < W.heap.size := by
  obtain ⟨C, t, fr, hh, _⟩ := h
  exact (Array.getElem?_eq_some_iff.1 hh).1
def byteAt (s : ByteArray) (j : Nat) : Int := (nums s).getD j 0
theorem byteAt_range (s : ByteArray) (j : Nat) (h : j < s.size) : 0 ≤ byteAt s j ∧ byteAt s j ≤ 255 := by
  unfold byteAt
  rw [nums_getD s j h]
  have := byte_le s[j]
  omega
theorem row_bytes (w : World) (s : ByteArray) (e : TypeId) (cap : Nat) : Row (w.alloc (.cells (bytesRow s cap) e ((bytesRow s cap).size, (bytesRow s cap).size + 1))).drew w.heap.size s.size (byteAt s) := by
  refine ⟨bytesRow s cap, e, ((bytesRow s cap).size, (bytesRow s cap).size + 1), ?_, fun j hj => ⟨?_, ?_⟩⟩
  · show (w.heap.push _)[w.heap.size]? = _
    simp
  · unfold byteAt
    rw [bytesRow_at s cap j hj, nums_getD s j hj]
    rfl
  · have h : j < (bytesRow s cap).size := by unfold bytesRow; simp; exact Nat.lt_of_lt_of_le hj (Nat.le_add_right _ _)
    have h2 : decide ((bytesRow s cap).size ≤ j) = false := decide_eq_false (by omega)
    show (decide ((bytesRow s cap).size ≤ j) && _) = false
    rw [h2]
    rfl
theorem low_at (s : ByteArray) (j : Nat) (h : j < s.size) : ((nums s).map lowI).getD j 0 = lowI (byteAt s j) := by
  have h2 : j < (nums s).length := by rw [nums_length]; exact h
  unfold byteAt
  simp [List.getD_eq_getElem?_getD, List.getElem?_eq_getElem h2]
theorem Row.string {W : World} {b n : Nat} {f : Nat → Int} (h : Row W b n f) (xs : List Int) (hx : xs.length = n) (hf : ∀ j, j < n → xs.getD j 0 = f j) (cap : Nat) :
    (convert 29 9 (.slice (some ⟨b, 0, none⟩) n cap)).run Tryd.prog W = .ok (.string (strOfNums xs)) W := by
  refine run_convert_bytes_arg W 29 5 Tryd.underlying29 Tryd.underlying5 b 0 n cap xs hx ?_ 9 Tryd.underlying9
  intro i hi
  rw [Nat.zero_add, h.cell i hi, hf i hi]

theorem lib_trim (s : ByteArray) (w : World) (hs : s.size ≤ maxLen) :
    Calls Tryd.prog 9 #[.string s, .string ⟨#[32, 9, 10, 12, 13]⟩] w fun e w' => e = .returned (.string ⟨(Lib.trimS s.data.toList [32, 9, 10, 12, 13]).toArray⟩) ∧ Below w.heap.size w w' :=
  Any.strings_Trim_laid Tryd.lays160 (by kernel_rfl) s ⟨#[32, 9, 10, 12, 13]⟩ w (by unfold maxLen at hs; omega) (by decide) (ascii_of_all (by decide))

set_option maxRecDepth 100000 in
set_option maxHeartbeats 2000000 in
theorem label_trim (s : ByteArray) (w : World) (hs : s.size ≤ maxLen) :
    Calls Tryd.prog 5 #[.string s] w fun e w' => e = .returned (.string (trimT s)) ∧ Below w.heap.size w w' := by
  have hcon := lib_trim s w hs
  have hT : trimT s = strOfNums ((nums ⟨(Lib.trimS s.data.toList [32, 9, 10, 12, 13]).toArray⟩).map lowI) := by
    unfold trimT nums
    rw [← trimS_nums]
  have hle : (⟨(Lib.trimS s.data.toList [32, 9, 10, 12, 13]).toArray⟩ : ByteArray).size ≤ s.size := by
    show (Lib.trimS s.data.toList [32, 9, 10, 12, 13]).toArray.size ≤ s.data.size
    unfold Lib.trimS Lib.trimLeftS Lib.trimRightS
    have h1 := (List.dropWhile_sublist (([32, 9, 10, 12, 13] : List UInt8).contains ·) (l := (s.data.toList.reverse.dropWhile (([32, 9, 10, 12, 13] : List UInt8).contains ·)).reverse)).length_le
    have h2 := (List.dropWhile_sublist (([32, 9, 10, 12, 13] : List UInt8).contains ·) (l := s.data.toList.reverse)).length_le
    simp only [List.length_reverse, Array.length_toList] at h1 h2
    simp only [List.size_toArray]
    omega
  rw [hT]
  generalize (⟨(Lib.trimS s.data.toList [32, 9, 10, 12, 13]).toArray⟩ : ByteArray) = t at *
  unfold maxLen at hs
  have hts : t.size ≤ 9223372036854775807 := by omega
  have hcv := fun W => run_bytes_of_string (P := Tryd.prog) W 9 29 5 t Tryd.underlying9 Tryd.underlying29 Tryd.underlying5
  go_enter Tryd.func5, Tryd.ntmps5
  go_wp2_with (go_at_call 9; refine hcon.mono ?_; rintro e' w1 ⟨rfl, hb1⟩)
  go_loopw [12] (fun i wr => ∃ k : Nat, i = .int .i64 (k : Int) ∧ k ≤ t.size ∧ Row wr w1.heap.size t.size (fun j => if j < k then lowI (byteAt t j) else byteAt t j) ∧ Below w.heap.size w wr) (fun i _ => t.size - (intOf i).toNat)
  case atStart =>
    refine ⟨0, rfl, Nat.zero_le _, (row_bytes w1 t _ _).congr fun j _ => by simp, ?_⟩
    exact (below_alloc hb1 _).drew
  case round =>
    obtain ⟨k, rfl, hk, hr, hb⟩ := hrel
    have hlo : w.heap.size ≤ w1.heap.size := hb1.size
    by_cases hlt : k < t.size
    · have hc := hr.cell k hlt
      have hf := hr.frozen k hlt
      rw [if_neg (Nat.lt_irrefl k)] at hc
      have hrg := byteAt_range t k hlt
      have HS : ∀ v, (∀ c, byteAt t k = c → v = lowI c) → Row (wr.setCell ⟨w1.heap.size, k, none⟩ (.int .u8 v)) w1.heap.size t.size (fun j => if j < k + 1 then lowI (byteAt t j) else byteAt t j) := by
        intro v hv
        refine hr.set k v fun j hj => ?_
        by_cases e : j = k
        · subst e
          rw [if_pos (by omega), if_pos rfl]
          exact (hv _ rfl).symm
        · rw [if_neg e]
          by_cases h : j < k
          · rw [if_pos h, if_pos (by omega)]
          · rw [if_neg h, if_neg (by omega)]
      have HN : lowI (byteAt t k) = byteAt t k → Row wr w1.heap.size t.size (fun j => if j < k + 1 then lowI (byteAt t j) else byteAt t j) := by
        intro h0
        refine hr.congr fun j hj => ?_
        by_cases e : j = k
        · subst e
          rw [if_pos (by omega), if_neg (by omega)]
          exact h0
        · by_cases h : j < k
          · rw [if_pos h, if_pos (by omega)]
          · rw [if_neg h, if_neg (by omega)]
      have HS := Lib.hid HS
      have HN := Lib.hid HN
      have hkt : (k : Int) < (t.size : Int) := by omega
      generalize byteAt t k = c at *
      have hq : c < 65 ∨ (65 ≤ c ∧ c ≤ 90) ∨ (65 ≤ c ∧ 90 < c) := by omega
      rcases hq with h | ⟨h, h'⟩ | ⟨h, h'⟩
      · go_wp2_with fail
        go_roundw
        case rel => exact ⟨k + 1, by go_num, by omega, HN.out (by unfold lowI; rw [if_neg (by omega)]), hb⟩
        case measure => simp [intOf]; omega
      · go_wp2_with fail
        go_roundw
        case rel => exact ⟨k + 1, by go_num, by omega, HS.out _ (fun d hd => by unfold lowI; rw [← hd, if_pos ⟨h, h'⟩]; omega), hb.setCell (p := ⟨w1.heap.size, k, none⟩) hlo _⟩
        case measure => simp [intOf]; omega
      · go_wp2_with fail
        go_roundw
        case rel => exact ⟨k + 1, by go_num, by omega, HN.out (by unfold lowI; rw [if_neg (by omega)]), hb⟩
        case measure => simp [intOf]; omega
    · obtain rfl : k = t.size := by omega
      have hst := hr.string ((nums t).map lowI) (by simp [nums_length]) (fun j hj => by rw [low_at t j hj, if_pos hj])
      go_wp2_with fail
      go_ret
      exact ⟨rfl, hb⟩

end Go.Proofs.YtefohnbmifblkabDoor
