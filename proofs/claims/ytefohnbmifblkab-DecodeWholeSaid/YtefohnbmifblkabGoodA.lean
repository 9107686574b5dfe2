/- The program's function Good of package decode: the ways on which a mode or a half strays, and those of Utf and Latin. -/
import Derived.Test.YtefohnbmifblkabDec
namespace Go.Proofs.Ytefohnbmifblkab
open Go.RowKit
set_option linter.unusedVariables false

set_option maxRecDepth 100000 in
set_option maxHeartbeats 4000000 in
theorem good_a1 (e n c f t h m : Int)  (k : ByteArray) (hm : ¬ m = 0) (he : ¬ e = 2) (w : World) :
    Calls Try.prog 12 #[.int .i64 e, .agg #[.int .i64 n, .int .i64 c, .int .i64 f, .int .i64 t, .string k, .int .i64 h, .int .i64 m]] w fun e' w' => e' = .returned (.bool false) ∧ w' = w.alloc (.cells #[.int .i64 n, .int .i64 c, .int .i64 f, .int .i64 t, .string k, .int .i64 h, .int .i64 m] 30) := by
  have hma : (m == 0) = false := by simpa using hm
  have hmb : (m != 0) = true := by simpa using hm
  have hea : (e == 2) = false := by simpa using he
  have heb : (e != 2) = true := by simpa using he
  all_goals
    go_enter Try.func12, Try.ntmps12
    go_wp2
    go_ret
    exact ⟨rfl, rfl⟩

set_option maxRecDepth 100000 in
set_option maxHeartbeats 4000000 in
theorem good_a2 (n c f t h m : Int)  (k : ByteArray) (hm : ¬ m = 0) (hn : ¬ m = 1) (w : World) :
    Calls Try.prog 12 #[.int .i64 2, .agg #[.int .i64 n, .int .i64 c, .int .i64 f, .int .i64 t, .string k, .int .i64 h, .int .i64 m]] w fun e' w' => e' = .returned (.bool false) ∧ w' = w.alloc (.cells #[.int .i64 n, .int .i64 c, .int .i64 f, .int .i64 t, .string k, .int .i64 h, .int .i64 m] 30) := by
  have hma : (m == 0) = false := by simpa using hm
  have hmb : (m != 0) = true := by simpa using hm
  have hna : (m == 1) = false := by simpa using hn
  have hnb : (m != 1) = true := by simpa using hn
  all_goals
    go_enter Try.func12, Try.ntmps12
    go_wp2
    go_ret
    exact ⟨rfl, rfl⟩

set_option maxRecDepth 100000 in
set_option maxHeartbeats 4000000 in
theorem good_b1 (e n c f t h : Int)  (k : ByteArray) (hh : ¬ h = 0) (he : e < 5) (w : World) :
    Calls Try.prog 12 #[.int .i64 e, .agg #[.int .i64 n, .int .i64 c, .int .i64 f, .int .i64 t, .string k, .int .i64 h, .int .i64 0]] w fun e' w' => e' = .returned (.bool false) ∧ w' = w.alloc (.cells #[.int .i64 n, .int .i64 c, .int .i64 f, .int .i64 t, .string k, .int .i64 h, .int .i64 0] 30) := by
  have hha : (h == 0) = false := by simpa using hh
  have hhb : (h != 0) = true := by simpa using hh
  all_goals
    go_enter Try.func12, Try.ntmps12
    go_wp2
    go_ret
    exact ⟨rfl, rfl⟩

set_option maxRecDepth 100000 in
set_option maxHeartbeats 4000000 in
theorem good_b1m (n c f t h : Int)  (k : ByteArray) (hh : ¬ h = 0) (w : World) :
    Calls Try.prog 12 #[.int .i64 2, .agg #[.int .i64 n, .int .i64 c, .int .i64 f, .int .i64 t, .string k, .int .i64 h, .int .i64 1]] w fun e' w' => e' = .returned (.bool false) ∧ w' = w.alloc (.cells #[.int .i64 n, .int .i64 c, .int .i64 f, .int .i64 t, .string k, .int .i64 h, .int .i64 1] 30) := by
  have hha : (h == 0) = false := by simpa using hh
  have hhb : (h != 0) = true := by simpa using hh
  all_goals
    go_enter Try.func12, Try.ntmps12
    go_wp2
    go_ret
    exact ⟨rfl, rfl⟩

set_option maxRecDepth 100000 in
set_option maxHeartbeats 4000000 in
theorem good_b2 (e n c f t h : Int)  (k : ByteArray) (hh : ¬ h = 0) (he : 5 ≤ e) (hl : h < 55296) (w : World) :
    Calls Try.prog 12 #[.int .i64 e, .agg #[.int .i64 n, .int .i64 c, .int .i64 f, .int .i64 t, .string k, .int .i64 h, .int .i64 0]] w fun e' w' => e' = .returned (.bool false) ∧ w' = w.alloc (.cells #[.int .i64 n, .int .i64 c, .int .i64 f, .int .i64 t, .string k, .int .i64 h, .int .i64 0] 30) := by
  have hha : (h == 0) = false := by simpa using hh
  have hhb : (h != 0) = true := by simpa using hh
  all_goals
    go_enter Try.func12, Try.ntmps12
    go_wp2
    go_ret
    exact ⟨rfl, rfl⟩

set_option maxRecDepth 100000 in
set_option maxHeartbeats 4000000 in
theorem good_b3 (e n c f t h : Int)  (k : ByteArray) (he : 5 ≤ e) (hl : 56319 < h) (w : World) :
    Calls Try.prog 12 #[.int .i64 e, .agg #[.int .i64 n, .int .i64 c, .int .i64 f, .int .i64 t, .string k, .int .i64 h, .int .i64 0]] w fun e' w' => e' = .returned (.bool false) ∧ w' = w.alloc (.cells #[.int .i64 n, .int .i64 c, .int .i64 f, .int .i64 t, .string k, .int .i64 h, .int .i64 0] 30) := by
  have hh : ¬ h = 0 := by omega
  have hha : (h == 0) = false := by simpa using hh
  have hhb : (h != 0) = true := by simpa using hh
  all_goals
    go_enter Try.func12, Try.ntmps12
    go_wp2
    go_ret
    exact ⟨rfl, rfl⟩

set_option maxRecDepth 100000 in
set_option maxHeartbeats 4000000 in
theorem good_none1 (e n c f t : Int)  (k : ByteArray) (he : e < 1) (w : World) :
    Calls Try.prog 12 #[.int .i64 e, .agg #[.int .i64 n, .int .i64 c, .int .i64 f, .int .i64 t, .string k, .int .i64 0, .int .i64 0]] w fun e' w' => e' = .returned (.bool false) ∧ w' = w.alloc (.cells #[.int .i64 n, .int .i64 c, .int .i64 f, .int .i64 t, .string k, .int .i64 0, .int .i64 0] 30) := by
  all_goals
    go_enter Try.func12, Try.ntmps12
    go_wp2
    go_ret
    exact ⟨rfl, rfl⟩

set_option maxRecDepth 100000 in
set_option maxHeartbeats 4000000 in
theorem good_none2 (e n c f t h : Int)  (k : ByteArray) (he : 6 < e) (hh : h = 0 ∨ (55296 ≤ h ∧ h ≤ 56319)) (w : World) :
    Calls Try.prog 12 #[.int .i64 e, .agg #[.int .i64 n, .int .i64 c, .int .i64 f, .int .i64 t, .string k, .int .i64 h, .int .i64 0]] w fun e' w' => e' = .returned (.bool false) ∧ w' = w.alloc (.cells #[.int .i64 n, .int .i64 c, .int .i64 f, .int .i64 t, .string k, .int .i64 h, .int .i64 0] 30) := by
  rcases hh with rfl | ⟨h1, h2⟩
  all_goals
    go_enter Try.func12, Try.ntmps12
    go_wp2
    go_ret
    exact ⟨rfl, rfl⟩

set_option maxRecDepth 100000 in
set_option maxHeartbeats 4000000 in
theorem good_u_k (n c f t : Int)  (k : ByteArray) (hk : ¬ k.toList = []) (w : World) :
    Calls Try.prog 12 #[.int .i64 1, .agg #[.int .i64 n, .int .i64 c, .int .i64 f, .int .i64 t, .string k, .int .i64 0, .int .i64 0]] w fun e' w' => e' = .returned (.bool false) ∧ w' = w.alloc (.cells #[.int .i64 n, .int .i64 c, .int .i64 f, .int .i64 t, .string k, .int .i64 0, .int .i64 0] 30) := by
  have hk2 : k.toList.isEmpty = false := by simpa using hk
  all_goals
    go_enter Try.func12, Try.ntmps12
    go_wp2
    go_ret
    exact ⟨rfl, rfl⟩

set_option maxRecDepth 100000 in
set_option maxHeartbeats 4000000 in
theorem good_u_init   (w : World) :
    Calls Try.prog 12 #[.int .i64 1, .agg #[.int .i64 0, .int .i64 0, .int .i64 0, .int .i64 0, .string ⟨#[]⟩, .int .i64 0, .int .i64 0]] w fun e' w' => e' = .returned (.bool true) ∧ w' = w.alloc (.cells #[.int .i64 0, .int .i64 0, .int .i64 0, .int .i64 0, .string ⟨#[]⟩, .int .i64 0, .int .i64 0] 30) := by
  all_goals
    go_enter Try.func12, Try.ntmps12
    go_wp2
    go_ret
    exact ⟨rfl, rfl⟩

set_option maxRecDepth 100000 in
set_option maxHeartbeats 4000000 in
theorem good_u_n0 (c f t : Int) (hz : ¬ c = 0 ∨ (c = 0 ∧ ¬ f = 0) ∨ (c = 0 ∧ f = 0 ∧ ¬ t = 0)) (w : World) :
    Calls Try.prog 12 #[.int .i64 1, .agg #[.int .i64 0, .int .i64 c, .int .i64 f, .int .i64 t, .string ⟨#[]⟩, .int .i64 0, .int .i64 0]] w fun e' w' => e' = .returned (.bool false) ∧ w' = w.alloc (.cells #[.int .i64 0, .int .i64 c, .int .i64 f, .int .i64 t, .string ⟨#[]⟩, .int .i64 0, .int .i64 0] 30) := by
  rcases hz with hz | ⟨rfl, hz⟩ | ⟨rfl, rfl, hz⟩
  all_goals
    go_enter Try.func12, Try.ntmps12
    go_wp2
    go_ret
    exact ⟨rfl, rfl⟩

set_option maxRecDepth 100000 in
set_option maxHeartbeats 4000000 in
theorem good_u_lo (n c f t : Int) (hn : n < 0) (w : World) :
    Calls Try.prog 12 #[.int .i64 1, .agg #[.int .i64 n, .int .i64 c, .int .i64 f, .int .i64 t, .string ⟨#[]⟩, .int .i64 0, .int .i64 0]] w fun e' w' => e' = .returned (.bool false) ∧ w' = w.alloc (.cells #[.int .i64 n, .int .i64 c, .int .i64 f, .int .i64 t, .string ⟨#[]⟩, .int .i64 0, .int .i64 0] 30) := by
  have h0 : ¬ n = 0 := by omega
  all_goals
    go_enter Try.func12, Try.ntmps12
    go_wp2
    go_ret
    exact ⟨rfl, rfl⟩

set_option maxRecDepth 100000 in
set_option maxHeartbeats 4000000 in
theorem good_u_hi (n c f t : Int) (hn : 3 < n) (w : World) :
    Calls Try.prog 12 #[.int .i64 1, .agg #[.int .i64 n, .int .i64 c, .int .i64 f, .int .i64 t, .string ⟨#[]⟩, .int .i64 0, .int .i64 0]] w fun e' w' => e' = .returned (.bool false) ∧ w' = w.alloc (.cells #[.int .i64 n, .int .i64 c, .int .i64 f, .int .i64 t, .string ⟨#[]⟩, .int .i64 0, .int .i64 0] 30) := by
  have h0 : ¬ n = 0 := by omega
  all_goals
    go_enter Try.func12, Try.ntmps12
    go_wp2
    go_ret
    exact ⟨rfl, rfl⟩

set_option maxRecDepth 100000 in
set_option maxHeartbeats 4000000 in
theorem good_u_c (n c f t : Int) (hn : 1 ≤ n) (hn3 : n ≤ 3) (hc : c < 0) (w : World) :
    Calls Try.prog 12 #[.int .i64 1, .agg #[.int .i64 n, .int .i64 c, .int .i64 f, .int .i64 t, .string ⟨#[]⟩, .int .i64 0, .int .i64 0]] w fun e' w' => e' = .returned (.bool false) ∧ w' = w.alloc (.cells #[.int .i64 n, .int .i64 c, .int .i64 f, .int .i64 t, .string ⟨#[]⟩, .int .i64 0, .int .i64 0] 30) := by
  have h0 : ¬ n = 0 := by omega
  all_goals
    go_enter Try.func12, Try.ntmps12
    go_wp2
    go_ret
    exact ⟨rfl, rfl⟩

set_option maxRecDepth 100000 in
set_option maxHeartbeats 4000000 in
theorem good_u_c1 (c f t : Int) (hc : 32768 ≤ c) (w : World) :
    Calls Try.prog 12 #[.int .i64 1, .agg #[.int .i64 1, .int .i64 c, .int .i64 f, .int .i64 t, .string ⟨#[]⟩, .int .i64 0, .int .i64 0]] w fun e' w' => e' = .returned (.bool false) ∧ w' = w.alloc (.cells #[.int .i64 1, .int .i64 c, .int .i64 f, .int .i64 t, .string ⟨#[]⟩, .int .i64 0, .int .i64 0] 30) := by
  all_goals
    go_enter Try.func12, Try.ntmps12
    go_wp2
    go_ret
    exact ⟨rfl, rfl⟩

set_option maxRecDepth 100000 in
set_option maxHeartbeats 4000000 in
theorem good_u_f1 (c f t : Int) (hc : 0 ≤ c) (hc1 : c < 32768) (hf : f < 128) (w : World) :
    Calls Try.prog 12 #[.int .i64 1, .agg #[.int .i64 1, .int .i64 c, .int .i64 f, .int .i64 t, .string ⟨#[]⟩, .int .i64 0, .int .i64 0]] w fun e' w' => e' = .returned (.bool false) ∧ w' = w.alloc (.cells #[.int .i64 1, .int .i64 c, .int .i64 f, .int .i64 t, .string ⟨#[]⟩, .int .i64 0, .int .i64 0] 30) := by
  all_goals
    go_enter Try.func12, Try.ntmps12
    go_wp2
    go_ret
    exact ⟨rfl, rfl⟩

set_option maxRecDepth 100000 in
set_option maxHeartbeats 4000000 in
theorem good_u_t1 (c f t : Int) (hc : 0 ≤ c) (hc1 : c < 32768) (hf : 128 ≤ f) (ht : 191 < t) (w : World) :
    Calls Try.prog 12 #[.int .i64 1, .agg #[.int .i64 1, .int .i64 c, .int .i64 f, .int .i64 t, .string ⟨#[]⟩, .int .i64 0, .int .i64 0]] w fun e' w' => e' = .returned (.bool false) ∧ w' = w.alloc (.cells #[.int .i64 1, .int .i64 c, .int .i64 f, .int .i64 t, .string ⟨#[]⟩, .int .i64 0, .int .i64 0] 30) := by
  have g : decide (t ≤ 191) = false := by simp; omega
  all_goals
    go_enter Try.func12, Try.ntmps12
    go_wp2
    go_ret
    exact ⟨rfl, rfl⟩

set_option maxRecDepth 100000 in
set_option maxHeartbeats 4000000 in
theorem good_u_y1 (c f t : Int) (hc : 0 ≤ c) (hc1 : c < 32768) (hf : 128 ≤ f) (ht : t ≤ 191) (w : World) :
    Calls Try.prog 12 #[.int .i64 1, .agg #[.int .i64 1, .int .i64 c, .int .i64 f, .int .i64 t, .string ⟨#[]⟩, .int .i64 0, .int .i64 0]] w fun e' w' => e' = .returned (.bool true) ∧ w' = w.alloc (.cells #[.int .i64 1, .int .i64 c, .int .i64 f, .int .i64 t, .string ⟨#[]⟩, .int .i64 0, .int .i64 0] 30) := by
  all_goals
    go_enter Try.func12, Try.ntmps12
    go_wp2
    go_ret
    exact ⟨rfl, rfl⟩

set_option maxRecDepth 100000 in
set_option maxHeartbeats 4000000 in
theorem good_u_c2 (c f t : Int) (hc : 512 ≤ c) (w : World) :
    Calls Try.prog 12 #[.int .i64 1, .agg #[.int .i64 2, .int .i64 c, .int .i64 f, .int .i64 t, .string ⟨#[]⟩, .int .i64 0, .int .i64 0]] w fun e' w' => e' = .returned (.bool false) ∧ w' = w.alloc (.cells #[.int .i64 2, .int .i64 c, .int .i64 f, .int .i64 t, .string ⟨#[]⟩, .int .i64 0, .int .i64 0] 30) := by
  all_goals
    go_enter Try.func12, Try.ntmps12
    go_wp2
    go_ret
    exact ⟨rfl, rfl⟩

set_option maxRecDepth 100000 in
set_option maxHeartbeats 4000000 in
theorem good_u_f2 (c f t : Int) (hc : 0 ≤ c) (hc1 : c < 512) (hf : f < 128) (w : World) :
    Calls Try.prog 12 #[.int .i64 1, .agg #[.int .i64 2, .int .i64 c, .int .i64 f, .int .i64 t, .string ⟨#[]⟩, .int .i64 0, .int .i64 0]] w fun e' w' => e' = .returned (.bool false) ∧ w' = w.alloc (.cells #[.int .i64 2, .int .i64 c, .int .i64 f, .int .i64 t, .string ⟨#[]⟩, .int .i64 0, .int .i64 0] 30) := by
  all_goals
    go_enter Try.func12, Try.ntmps12
    go_wp2
    go_ret
    exact ⟨rfl, rfl⟩

set_option maxRecDepth 100000 in
set_option maxHeartbeats 4000000 in
theorem good_u_t2 (c f t : Int) (hc : 0 ≤ c) (hc1 : c < 512) (hf : 128 ≤ f) (ht : 191 < t) (w : World) :
    Calls Try.prog 12 #[.int .i64 1, .agg #[.int .i64 2, .int .i64 c, .int .i64 f, .int .i64 t, .string ⟨#[]⟩, .int .i64 0, .int .i64 0]] w fun e' w' => e' = .returned (.bool false) ∧ w' = w.alloc (.cells #[.int .i64 2, .int .i64 c, .int .i64 f, .int .i64 t, .string ⟨#[]⟩, .int .i64 0, .int .i64 0] 30) := by
  have g : decide (t ≤ 191) = false := by simp; omega
  all_goals
    go_enter Try.func12, Try.ntmps12
    go_wp2
    go_ret
    exact ⟨rfl, rfl⟩

set_option maxRecDepth 100000 in
set_option maxHeartbeats 4000000 in
theorem good_u_y2 (c f t : Int) (hc : 0 ≤ c) (hc1 : c < 512) (hf : 128 ≤ f) (ht : t ≤ 191) (w : World) :
    Calls Try.prog 12 #[.int .i64 1, .agg #[.int .i64 2, .int .i64 c, .int .i64 f, .int .i64 t, .string ⟨#[]⟩, .int .i64 0, .int .i64 0]] w fun e' w' => e' = .returned (.bool true) ∧ w' = w.alloc (.cells #[.int .i64 2, .int .i64 c, .int .i64 f, .int .i64 t, .string ⟨#[]⟩, .int .i64 0, .int .i64 0] 30) := by
  all_goals
    go_enter Try.func12, Try.ntmps12
    go_wp2
    go_ret
    exact ⟨rfl, rfl⟩

set_option maxRecDepth 100000 in
set_option maxHeartbeats 4000000 in
theorem good_u_c3 (c f t : Int) (hc : 8 ≤ c) (w : World) :
    Calls Try.prog 12 #[.int .i64 1, .agg #[.int .i64 3, .int .i64 c, .int .i64 f, .int .i64 t, .string ⟨#[]⟩, .int .i64 0, .int .i64 0]] w fun e' w' => e' = .returned (.bool false) ∧ w' = w.alloc (.cells #[.int .i64 3, .int .i64 c, .int .i64 f, .int .i64 t, .string ⟨#[]⟩, .int .i64 0, .int .i64 0] 30) := by
  all_goals
    go_enter Try.func12, Try.ntmps12
    go_wp2
    go_ret
    exact ⟨rfl, rfl⟩

set_option maxRecDepth 100000 in
set_option maxHeartbeats 4000000 in
theorem good_u_f3 (c f t : Int) (hc : 0 ≤ c) (hc1 : c < 8) (hf : f < 128) (w : World) :
    Calls Try.prog 12 #[.int .i64 1, .agg #[.int .i64 3, .int .i64 c, .int .i64 f, .int .i64 t, .string ⟨#[]⟩, .int .i64 0, .int .i64 0]] w fun e' w' => e' = .returned (.bool false) ∧ w' = w.alloc (.cells #[.int .i64 3, .int .i64 c, .int .i64 f, .int .i64 t, .string ⟨#[]⟩, .int .i64 0, .int .i64 0] 30) := by
  all_goals
    go_enter Try.func12, Try.ntmps12
    go_wp2
    go_ret
    exact ⟨rfl, rfl⟩

set_option maxRecDepth 100000 in
set_option maxHeartbeats 4000000 in
theorem good_u_t3 (c f t : Int) (hc : 0 ≤ c) (hc1 : c < 8) (hf : 128 ≤ f) (ht : 191 < t) (w : World) :
    Calls Try.prog 12 #[.int .i64 1, .agg #[.int .i64 3, .int .i64 c, .int .i64 f, .int .i64 t, .string ⟨#[]⟩, .int .i64 0, .int .i64 0]] w fun e' w' => e' = .returned (.bool false) ∧ w' = w.alloc (.cells #[.int .i64 3, .int .i64 c, .int .i64 f, .int .i64 t, .string ⟨#[]⟩, .int .i64 0, .int .i64 0] 30) := by
  have g : decide (t ≤ 191) = false := by simp; omega
  all_goals
    go_enter Try.func12, Try.ntmps12
    go_wp2
    go_ret
    exact ⟨rfl, rfl⟩

set_option maxRecDepth 100000 in
set_option maxHeartbeats 4000000 in
theorem good_u_y3 (c f t : Int) (hc : 0 ≤ c) (hc1 : c < 8) (hf : 128 ≤ f) (ht : t ≤ 191) (w : World) :
    Calls Try.prog 12 #[.int .i64 1, .agg #[.int .i64 3, .int .i64 c, .int .i64 f, .int .i64 t, .string ⟨#[]⟩, .int .i64 0, .int .i64 0]] w fun e' w' => e' = .returned (.bool true) ∧ w' = w.alloc (.cells #[.int .i64 3, .int .i64 c, .int .i64 f, .int .i64 t, .string ⟨#[]⟩, .int .i64 0, .int .i64 0] 30) := by
  all_goals
    go_enter Try.func12, Try.ntmps12
    go_wp2
    go_ret
    exact ⟨rfl, rfl⟩

set_option maxRecDepth 100000 in
set_option maxHeartbeats 4000000 in
theorem good_l_y   (w : World) :
    Calls Try.prog 12 #[.int .i64 4, .agg #[.int .i64 0, .int .i64 0, .int .i64 0, .int .i64 0, .string ⟨#[]⟩, .int .i64 0, .int .i64 0]] w fun e' w' => e' = .returned (.bool true) ∧ w' = w.alloc (.cells #[.int .i64 0, .int .i64 0, .int .i64 0, .int .i64 0, .string ⟨#[]⟩, .int .i64 0, .int .i64 0] 30) := by
  all_goals
    go_enter Try.func12, Try.ntmps12
    go_wp2
    go_ret
    exact ⟨rfl, rfl⟩

set_option maxRecDepth 100000 in
set_option maxHeartbeats 4000000 in
theorem good_l_k   (k : ByteArray) (hk : ¬ k.toList = []) (w : World) :
    Calls Try.prog 12 #[.int .i64 4, .agg #[.int .i64 0, .int .i64 0, .int .i64 0, .int .i64 0, .string k, .int .i64 0, .int .i64 0]] w fun e' w' => e' = .returned (.bool false) ∧ w' = w.alloc (.cells #[.int .i64 0, .int .i64 0, .int .i64 0, .int .i64 0, .string k, .int .i64 0, .int .i64 0] 30) := by
  have hk2 : k.toList.isEmpty = false := by simpa using hk
  all_goals
    go_enter Try.func12, Try.ntmps12
    go_wp2
    go_ret
    exact ⟨rfl, rfl⟩

set_option maxRecDepth 100000 in
set_option maxHeartbeats 4000000 in
theorem good_l_n (n c f t : Int)  (k : ByteArray)(hz : ¬ n = 0 ∨ (n = 0 ∧ ¬ c = 0) ∨ (n = 0 ∧ c = 0 ∧ ¬ f = 0) ∨ (n = 0 ∧ c = 0 ∧ f = 0 ∧ ¬ t = 0)) (w : World) :
    Calls Try.prog 12 #[.int .i64 4, .agg #[.int .i64 n, .int .i64 c, .int .i64 f, .int .i64 t, .string k, .int .i64 0, .int .i64 0]] w fun e' w' => e' = .returned (.bool false) ∧ w' = w.alloc (.cells #[.int .i64 n, .int .i64 c, .int .i64 f, .int .i64 t, .string k, .int .i64 0, .int .i64 0] 30) := by
  rcases hz with hz | ⟨rfl, hz⟩ | ⟨rfl, rfl, hz⟩ | ⟨rfl, rfl, rfl, hz⟩
  all_goals
    go_enter Try.func12, Try.ntmps12
    go_wp2
    go_ret
    exact ⟨rfl, rfl⟩

end Go.Proofs.Ytefohnbmifblkab
