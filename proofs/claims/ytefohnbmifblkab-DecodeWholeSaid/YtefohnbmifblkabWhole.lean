/- All bytes at once: the program's function Whole of package decode computes wholeS, for every encoding and every string of at most 4000 bytes; what Feed and Whole refuse. -/
import Derived.Test.YtefohnbmifblkabFeed
namespace Go.Proofs.Ytefohnbmifblkab
open Go.RowKit
set_option linter.unusedVariables false

set_option maxRecDepth 100000 in
set_option maxHeartbeats 1000000 in
theorem feed_kind (e n c f t h m : Int) (k l : ByteArray) (he : e < 1 ∨ 6 < e) (w : World) :
    Calls Try.prog 8 #[.int .i64 e, .agg (stW n c f t k h m), .string l] w (PostX n c f t k h m 2 w) := by
  rcases he with he | he
  all_goals
    go_enter Try.func8, Try.ntmps8
    go_wp2
    refine bodyPost_ret (v := .tuple #[.agg (stW n c f t k h m), .slice none 0 0, .int .i64 2]) (by simp [results, Try.results8, go_sem]) rfl ⟨rfl, ?_⟩
    repeat (first | exact Below.refl _ _ | apply below_alloc)

set_option maxRecDepth 100000 in
set_option maxHeartbeats 1000000 in
theorem feed_long (e n c f t h m : Int) (k l : ByteArray) (he1 : 1 ≤ e) (he6 : e ≤ 6) (hl : 4000 < l.size) (w : World) :
    Calls Try.prog 8 #[.int .i64 e, .agg (stW n c f t k h m), .string l] w (PostX n c f t k h m 4 w) := by
  have hl2 : (4000 : Int) < (l.size : Int) := by omega
  go_enter Try.func8, Try.ntmps8
  go_wp2
  refine bodyPost_ret (v := .tuple #[.agg (stW n c f t k h m), .slice none 0 0, .int .i64 4]) (by simp [results, Try.results8, go_sem]) rfl ⟨rfl, ?_⟩
  repeat (first | exact Below.refl _ _ | apply below_alloc)

/-- The end of Feed, its state written out. -/
def PostF (p : St × List Int) (w : World) (e : Ending) (w' : World) : Prop :=
  ∃ v, e = .returned (.tuple #[.agg #[.int .i64 p.1.need, .int .i64 p.1.code, .int .i64 p.1.frm, .int .i64 p.1.upto, .string (strOfNums p.1.kept), .int .i64 p.1.half, .int .i64 p.1.mode], v, .int .i64 0])
    ∧ Ints w' w.heap.size v p.2 ∧ Below w.heap.size w w'
theorem end_len (s : St) : (endS s).length ≤ 2 := by
  unfold endS
  rw [List.length_append]
  split <;> split <;> simp

set_option maxRecDepth 100000 in
set_option maxHeartbeats 1000000 in
theorem whole_ok (e : Int) (he1 : 1 ≤ e) (he6 : e ≤ 6) (l : ByteArray) (hl : l.size ≤ 4000) (w : World) :
    Calls Try.prog 4 #[.int .i64 e, .string l] w (Post2 (wholeS e (nums l)) 0 w) := by
  have hcall : ∀ W, Calls Try.prog 8 #[.int .i64 e, .agg #[.int .i64 0, .int .i64 0, .int .i64 0, .int .i64 0, .string ⟨#[]⟩, .int .i64 0, .int .i64 0], .string l] W (PostF (feedS e {} (nums l)) W) :=
    fun W => feed_any e he1 he6 {} l hl (ok_init e he1 he6) W
  have hok : okS e (feedS e {} (nums l)).1 := feed_okS he1 he6 (ok_init e he1 he6) _ (by rw [← nums_all l]; exact nums_bytes l _)
  have hlen := feed_lenS e {} (nums l)
  rw [nums_length] at hlen
  unfold wholeS
  generalize feedS e {} (nums l) = p at *
  have hend : ∀ W, Calls Try.prog 9 #[.int .i64 e, p.1.val] W (Post2 (endS p.1) 0 W) := fun W => end_ok e he1 he6 p.1 hok W
  have hel := end_len p.1
  have HC := Lib.hid hcall
  have HE := Lib.hid hend
  clear hcall hend hok
  go_enter Try.func4, Try.ntmps4
  go_wp2_with (first
    | (go_at_call 8; refine (HC.out _).mono ?_; rintro e' w1 ⟨v1, rfl, hi1, hb1⟩)
    | (go_at_call 9; refine (HE.out _).mono ?_; rintro e' w2 ⟨v2, rfl, hi2, hb2⟩)
    | (at_builtin; refine wpList_app rfl _ _ rfl w.heap.size _ _ _ p.2 (endS p.1) rfl rfl ?_ hi2 ?_ ?_ ?_; exact (hi1.alloc _).below hb2 (Nat.le_refl _); omega; exact Nat.le_trans (below_alloc hb1 _).size hb2.size; rintro v3 w3 hi3 hb3))
  refine bodyPost_ret (v := .tuple #[v3, .int .i64 0]) (by simp [results, Try.results4, go_sem]) rfl ⟨_, rfl, hi3, ?_⟩
  exact ((below_alloc hb1 _).trans (hb2.mono (below_alloc hb1 _).size)).trans hb3

set_option maxHeartbeats 1000000 in
theorem whole_kind (e : Int) (l : ByteArray) (he : e < 1 ∨ 6 < e) (w : World) :
    Calls Try.prog 4 #[.int .i64 e, .string l] w (Post2 [] 2 w) := by
  have hcall : ∀ W, Calls Try.prog 8 #[.int .i64 e, .agg #[.int .i64 0, .int .i64 0, .int .i64 0, .int .i64 0, .string ⟨#[]⟩, .int .i64 0, .int .i64 0], .string l] W (PostX 0 0 0 0 ⟨#[]⟩ 0 0 2 W) :=
    fun W => feed_kind e 0 0 0 0 0 0 ⟨#[]⟩ l he W
  have HC := Lib.hid hcall
  clear hcall
  go_enter Try.func4, Try.ntmps4
  go_wp2_with (go_at_call 8; refine (HC.out _).mono ?_; rintro e' w1 ⟨rfl, hb1⟩)
  refine bodyPost_ret (v := .tuple #[.slice none 0 0, .int .i64 2]) (by simp [results, Try.results4, go_sem]) rfl ⟨_, rfl, ints_nil _ _, below_alloc hb1 _⟩

set_option maxHeartbeats 1000000 in
theorem whole_long (e : Int) (l : ByteArray) (he1 : 1 ≤ e) (he6 : e ≤ 6) (hl : 4000 < l.size) (w : World) :
    Calls Try.prog 4 #[.int .i64 e, .string l] w (Post2 [] 4 w) := by
  have hcall : ∀ W, Calls Try.prog 8 #[.int .i64 e, .agg #[.int .i64 0, .int .i64 0, .int .i64 0, .int .i64 0, .string ⟨#[]⟩, .int .i64 0, .int .i64 0], .string l] W (PostX 0 0 0 0 ⟨#[]⟩ 0 0 4 W) :=
    fun W => feed_long e 0 0 0 0 0 0 ⟨#[]⟩ l he1 he6 hl W
  have HC := Lib.hid hcall
  clear hcall
  go_enter Try.func4, Try.ntmps4
  go_wp2_with (go_at_call 8; refine (HC.out _).mono ?_; rintro e' w1 ⟨rfl, hb1⟩)
  refine bodyPost_ret (v := .tuple #[.slice none 0 0, .int .i64 4]) (by simp [results, Try.results4, go_sem]) rfl ⟨_, rfl, ints_nil _ _, below_alloc hb1 _⟩

end Go.Proofs.Ytefohnbmifblkab
