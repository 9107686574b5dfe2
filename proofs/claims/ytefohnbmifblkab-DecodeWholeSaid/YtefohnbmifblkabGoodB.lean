/- The program's function Good of package decode: the ways of Shift, Twin, Low and High. -/
import Derived.Test.YtefohnbmifblkabDec
namespace Go.Proofs.Ytefohnbmifblkab
open Go.RowKit
set_option linter.unusedVariables false

set_option maxRecDepth 100000 in
set_option maxHeartbeats 4000000 in
theorem good_q2 (n c f t m : Int)  (k : ByteArray) (hz : ¬ n = 0 ∨ (n = 0 ∧ ¬ c = 0) ∨ (n = 0 ∧ c = 0 ∧ ¬ f = 0) ∨ (n = 0 ∧ c = 0 ∧ f = 0 ∧ ¬ t = 0)) (hm : m = 0 ∨ m = 1) (w : World) :
    Calls Try.prog 12 #[.int .i64 2, .agg #[.int .i64 n, .int .i64 c, .int .i64 f, .int .i64 t, .string k, .int .i64 0, .int .i64 m]] w fun e' w' => e' = .returned (.bool false) ∧ w' = w.alloc (.cells #[.int .i64 n, .int .i64 c, .int .i64 f, .int .i64 t, .string k, .int .i64 0, .int .i64 m] 30) := by
  rcases hm with rfl | rfl
  all_goals rcases hz with hz | ⟨rfl, hz⟩ | ⟨rfl, rfl, hz⟩ | ⟨rfl, rfl, rfl, hz⟩
  all_goals
    go_enter Try.func12, Try.ntmps12
    go_wp2
    go_ret
    exact ⟨rfl, rfl⟩

set_option maxRecDepth 100000 in
set_option maxHeartbeats 4000000 in
theorem good_q3 (n c f t : Int)  (k : ByteArray) (hz : ¬ n = 0 ∨ (n = 0 ∧ ¬ c = 0) ∨ (n = 0 ∧ c = 0 ∧ ¬ f = 0) ∨ (n = 0 ∧ c = 0 ∧ f = 0 ∧ ¬ t = 0)) (w : World) :
    Calls Try.prog 12 #[.int .i64 3, .agg #[.int .i64 n, .int .i64 c, .int .i64 f, .int .i64 t, .string k, .int .i64 0, .int .i64 0]] w fun e' w' => e' = .returned (.bool false) ∧ w' = w.alloc (.cells #[.int .i64 n, .int .i64 c, .int .i64 f, .int .i64 t, .string k, .int .i64 0, .int .i64 0] 30) := by
  rcases hz with hz | ⟨rfl, hz⟩ | ⟨rfl, rfl, hz⟩ | ⟨rfl, rfl, rfl, hz⟩
  all_goals
    go_enter Try.func12, Try.ntmps12
    go_wp2
    go_ret
    exact ⟨rfl, rfl⟩

set_option maxRecDepth 100000 in
set_option maxHeartbeats 4000000 in
theorem good_q5 (n c f t h : Int)  (k : ByteArray) (hz : ¬ n = 0 ∨ (n = 0 ∧ ¬ c = 0) ∨ (n = 0 ∧ c = 0 ∧ ¬ f = 0) ∨ (n = 0 ∧ c = 0 ∧ f = 0 ∧ ¬ t = 0)) (hh : h = 0 ∨ (55296 ≤ h ∧ h ≤ 56319)) (w : World) :
    Calls Try.prog 12 #[.int .i64 5, .agg #[.int .i64 n, .int .i64 c, .int .i64 f, .int .i64 t, .string k, .int .i64 h, .int .i64 0]] w fun e' w' => e' = .returned (.bool false) ∧ w' = w.alloc (.cells #[.int .i64 n, .int .i64 c, .int .i64 f, .int .i64 t, .string k, .int .i64 h, .int .i64 0] 30) := by
  rcases hh with rfl | ⟨h1, h2⟩
  all_goals rcases hz with hz | ⟨rfl, hz⟩ | ⟨rfl, rfl, hz⟩ | ⟨rfl, rfl, rfl, hz⟩
  all_goals
    go_enter Try.func12, Try.ntmps12
    go_wp2
    go_ret
    exact ⟨rfl, rfl⟩

set_option maxRecDepth 100000 in
set_option maxHeartbeats 4000000 in
theorem good_q6 (n c f t h : Int)  (k : ByteArray) (hz : ¬ n = 0 ∨ (n = 0 ∧ ¬ c = 0) ∨ (n = 0 ∧ c = 0 ∧ ¬ f = 0) ∨ (n = 0 ∧ c = 0 ∧ f = 0 ∧ ¬ t = 0)) (hh : h = 0 ∨ (55296 ≤ h ∧ h ≤ 56319)) (w : World) :
    Calls Try.prog 12 #[.int .i64 6, .agg #[.int .i64 n, .int .i64 c, .int .i64 f, .int .i64 t, .string k, .int .i64 h, .int .i64 0]] w fun e' w' => e' = .returned (.bool false) ∧ w' = w.alloc (.cells #[.int .i64 n, .int .i64 c, .int .i64 f, .int .i64 t, .string k, .int .i64 h, .int .i64 0] 30) := by
  rcases hh with rfl | ⟨h1, h2⟩
  all_goals rcases hz with hz | ⟨rfl, hz⟩ | ⟨rfl, rfl, hz⟩ | ⟨rfl, rfl, rfl, hz⟩
  all_goals
    go_enter Try.func12, Try.ntmps12
    go_wp2
    go_ret
    exact ⟨rfl, rfl⟩

set_option maxRecDepth 100000 in
set_option maxHeartbeats 4000000 in
theorem good_s_y (m : Int)  (hm : m = 0 ∨ m = 1) (w : World) :
    Calls Try.prog 12 #[.int .i64 2, .agg #[.int .i64 0, .int .i64 0, .int .i64 0, .int .i64 0, .string ⟨#[]⟩, .int .i64 0, .int .i64 m]] w fun e' w' => e' = .returned (.bool true) ∧ w' = w.alloc (.cells #[.int .i64 0, .int .i64 0, .int .i64 0, .int .i64 0, .string ⟨#[]⟩, .int .i64 0, .int .i64 m] 30) := by
  rcases hm with rfl | rfl
  all_goals
    go_enter Try.func12, Try.ntmps12
    go_wp2
    go_ret
    exact ⟨rfl, rfl⟩

set_option maxRecDepth 100000 in
set_option maxHeartbeats 4000000 in
theorem good_s_y27 (m : Int)  (hm : m = 0 ∨ m = 1) (w : World) :
    Calls Try.prog 12 #[.int .i64 2, .agg #[.int .i64 0, .int .i64 0, .int .i64 0, .int .i64 0, .string ⟨#[27]⟩, .int .i64 0, .int .i64 m]] w fun e' w' => e' = .returned (.bool true) ∧ w' = w.alloc (.cells #[.int .i64 0, .int .i64 0, .int .i64 0, .int .i64 0, .string ⟨#[27]⟩, .int .i64 0, .int .i64 m] 30) := by
  rcases hm with rfl | rfl
  all_goals
    go_enter Try.func12, Try.ntmps12
    go_wp2
    go_ret
    exact ⟨rfl, rfl⟩

set_option maxRecDepth 100000 in
set_option maxHeartbeats 4000000 in
theorem good_s_y40 (m : Int)  (hm : m = 0 ∨ m = 1) (w : World) :
    Calls Try.prog 12 #[.int .i64 2, .agg #[.int .i64 0, .int .i64 0, .int .i64 0, .int .i64 0, .string ⟨#[27, 40]⟩, .int .i64 0, .int .i64 m]] w fun e' w' => e' = .returned (.bool true) ∧ w' = w.alloc (.cells #[.int .i64 0, .int .i64 0, .int .i64 0, .int .i64 0, .string ⟨#[27, 40]⟩, .int .i64 0, .int .i64 m] 30) := by
  rcases hm with rfl | rfl
  all_goals
    go_enter Try.func12, Try.ntmps12
    go_wp2
    go_ret
    exact ⟨rfl, rfl⟩

set_option maxRecDepth 100000 in
set_option maxHeartbeats 4000000 in
theorem good_s_y36 (m : Int)  (hm : m = 0 ∨ m = 1) (w : World) :
    Calls Try.prog 12 #[.int .i64 2, .agg #[.int .i64 0, .int .i64 0, .int .i64 0, .int .i64 0, .string ⟨#[27, 36]⟩, .int .i64 0, .int .i64 m]] w fun e' w' => e' = .returned (.bool true) ∧ w' = w.alloc (.cells #[.int .i64 0, .int .i64 0, .int .i64 0, .int .i64 0, .string ⟨#[27, 36]⟩, .int .i64 0, .int .i64 m] 30) := by
  rcases hm with rfl | rfl
  all_goals
    go_enter Try.func12, Try.ntmps12
    go_wp2
    go_ret
    exact ⟨rfl, rfl⟩

set_option maxRecDepth 100000 in
set_option maxHeartbeats 4000000 in
theorem good_s_m0   (k : ByteArray) (hk : ¬ k.toList = []) (hk1 : ¬ k.toList = [27]) (hk2 : ¬ k.toList = [27, 40]) (hk3 : ¬ k.toList = [27, 36]) (w : World) :
    Calls Try.prog 12 #[.int .i64 2, .agg #[.int .i64 0, .int .i64 0, .int .i64 0, .int .i64 0, .string k, .int .i64 0, .int .i64 0]] w fun e' w' => e' = .returned (.bool false) ∧ w' = w.alloc (.cells #[.int .i64 0, .int .i64 0, .int .i64 0, .int .i64 0, .string k, .int .i64 0, .int .i64 0] 30) := by
  have hk9 : k.toList.isEmpty = false := by simpa using hk
  have g1 : (k.toList == [27]) = false := by simpa using hk1
  have g2 : (k.toList == [27, 40]) = false := by simpa using hk2
  have g3 : (k.toList == [27, 36]) = false := by simpa using hk3
  all_goals
    go_enter Try.func12, Try.ntmps12
    go_wp2
    go_ret
    exact ⟨rfl, rfl⟩

set_option maxRecDepth 100000 in
set_option maxHeartbeats 4000000 in
theorem good_s_sz   (k : ByteArray) (hk : ¬ k.toList = []) (hk1 : ¬ k.toList = [27]) (hk2 : ¬ k.toList = [27, 40]) (hk3 : ¬ k.toList = [27, 36]) (hs : ¬ k.size = 1) (w : World) :
    Calls Try.prog 12 #[.int .i64 2, .agg #[.int .i64 0, .int .i64 0, .int .i64 0, .int .i64 0, .string k, .int .i64 0, .int .i64 1]] w fun e' w' => e' = .returned (.bool false) ∧ w' = w.alloc (.cells #[.int .i64 0, .int .i64 0, .int .i64 0, .int .i64 0, .string k, .int .i64 0, .int .i64 1] 30) := by
  have hk9 : k.toList.isEmpty = false := by simpa using hk
  have g1 : (k.toList == [27]) = false := by simpa using hk1
  have g2 : (k.toList == [27, 40]) = false := by simpa using hk2
  have g3 : (k.toList == [27, 36]) = false := by simpa using hk3
  have g4 : (k.size == 1) = false := by simpa using hs
  have g5 : ((k.size : Int) == 1) = false := by simp; omega
  all_goals
    go_enter Try.func12, Try.ntmps12
    go_wp2
    go_ret
    exact ⟨rfl, rfl⟩

set_option maxRecDepth 100000 in
set_option maxHeartbeats 4000000 in
theorem good_s_lo   (u : UInt8) (hu27 : ¬ u = 27) (hu : (u.toNat : Int) < 33) (w : World) :
    Calls Try.prog 12 #[.int .i64 2, .agg #[.int .i64 0, .int .i64 0, .int .i64 0, .int .i64 0, .string ⟨#[u]⟩, .int .i64 0, .int .i64 1]] w fun e' w' => e' = .returned (.bool false) ∧ w' = w.alloc (.cells #[.int .i64 0, .int .i64 0, .int .i64 0, .int .i64 0, .string ⟨#[u]⟩, .int .i64 0, .int .i64 1] 30) := by
  have hidx := idx1 u
  have hb : (u == 27) = false := by simpa using hu27
  all_goals
    go_enter Try.func12, Try.ntmps12
    go_wp2
    go_ret
    exact ⟨rfl, rfl⟩

set_option maxRecDepth 100000 in
set_option maxHeartbeats 4000000 in
theorem good_s_hi   (u : UInt8) (hu27 : ¬ u = 27) (hu : 126 < (u.toNat : Int)) (w : World) :
    Calls Try.prog 12 #[.int .i64 2, .agg #[.int .i64 0, .int .i64 0, .int .i64 0, .int .i64 0, .string ⟨#[u]⟩, .int .i64 0, .int .i64 1]] w fun e' w' => e' = .returned (.bool false) ∧ w' = w.alloc (.cells #[.int .i64 0, .int .i64 0, .int .i64 0, .int .i64 0, .string ⟨#[u]⟩, .int .i64 0, .int .i64 1] 30) := by
  have hidx := idx1 u
  have hb : (u == 27) = false := by simpa using hu27
  have hul : 33 ≤ (u.toNat : Int) := by omega
  have g : decide ((u.toNat : Int) ≤ 126) = false := by simp; omega
  all_goals
    go_enter Try.func12, Try.ntmps12
    go_wp2
    go_ret
    exact ⟨rfl, rfl⟩

set_option maxRecDepth 100000 in
set_option maxHeartbeats 4000000 in
theorem good_s_ok   (u : UInt8) (hu27 : ¬ u = 27) (hul : 33 ≤ (u.toNat : Int)) (hu : (u.toNat : Int) ≤ 126) (w : World) :
    Calls Try.prog 12 #[.int .i64 2, .agg #[.int .i64 0, .int .i64 0, .int .i64 0, .int .i64 0, .string ⟨#[u]⟩, .int .i64 0, .int .i64 1]] w fun e' w' => e' = .returned (.bool true) ∧ w' = w.alloc (.cells #[.int .i64 0, .int .i64 0, .int .i64 0, .int .i64 0, .string ⟨#[u]⟩, .int .i64 0, .int .i64 1] 30) := by
  have hidx := idx1 u
  have hb : (u == 27) = false := by simpa using hu27
  all_goals
    go_enter Try.func12, Try.ntmps12
    go_wp2
    go_ret
    exact ⟨rfl, rfl⟩

set_option maxRecDepth 100000 in
set_option maxHeartbeats 4000000 in
theorem good_t_y   (w : World) :
    Calls Try.prog 12 #[.int .i64 3, .agg #[.int .i64 0, .int .i64 0, .int .i64 0, .int .i64 0, .string ⟨#[]⟩, .int .i64 0, .int .i64 0]] w fun e' w' => e' = .returned (.bool true) ∧ w' = w.alloc (.cells #[.int .i64 0, .int .i64 0, .int .i64 0, .int .i64 0, .string ⟨#[]⟩, .int .i64 0, .int .i64 0] 30) := by
  all_goals
    go_enter Try.func12, Try.ntmps12
    go_wp2
    go_ret
    exact ⟨rfl, rfl⟩

set_option maxRecDepth 100000 in
set_option maxHeartbeats 4000000 in
theorem good_t_sz   (k : ByteArray) (hk : ¬ k.toList = []) (hs : ¬ k.size = 1) (w : World) :
    Calls Try.prog 12 #[.int .i64 3, .agg #[.int .i64 0, .int .i64 0, .int .i64 0, .int .i64 0, .string k, .int .i64 0, .int .i64 0]] w fun e' w' => e' = .returned (.bool false) ∧ w' = w.alloc (.cells #[.int .i64 0, .int .i64 0, .int .i64 0, .int .i64 0, .string k, .int .i64 0, .int .i64 0] 30) := by
  have hk9 : k.toList.isEmpty = false := by simpa using hk
  have g4 : (k.size == 1) = false := by simpa using hs
  have g5 : ((k.size : Int) == 1) = false := by simp; omega
  all_goals
    go_enter Try.func12, Try.ntmps12
    go_wp2
    go_ret
    exact ⟨rfl, rfl⟩

set_option maxRecDepth 100000 in
set_option maxHeartbeats 4000000 in
theorem good_t_lo   (u : UInt8) (hu : (u.toNat : Int) < 129) (w : World) :
    Calls Try.prog 12 #[.int .i64 3, .agg #[.int .i64 0, .int .i64 0, .int .i64 0, .int .i64 0, .string ⟨#[u]⟩, .int .i64 0, .int .i64 0]] w fun e' w' => e' = .returned (.bool false) ∧ w' = w.alloc (.cells #[.int .i64 0, .int .i64 0, .int .i64 0, .int .i64 0, .string ⟨#[u]⟩, .int .i64 0, .int .i64 0] 30) := by
  have hidx := idx1 u
  all_goals
    go_enter Try.func12, Try.ntmps12
    go_wp2
    go_ret
    exact ⟨rfl, rfl⟩

set_option maxRecDepth 100000 in
set_option maxHeartbeats 4000000 in
theorem good_t_hi   (u : UInt8) (hu : 159 < (u.toNat : Int)) (w : World) :
    Calls Try.prog 12 #[.int .i64 3, .agg #[.int .i64 0, .int .i64 0, .int .i64 0, .int .i64 0, .string ⟨#[u]⟩, .int .i64 0, .int .i64 0]] w fun e' w' => e' = .returned (.bool false) ∧ w' = w.alloc (.cells #[.int .i64 0, .int .i64 0, .int .i64 0, .int .i64 0, .string ⟨#[u]⟩, .int .i64 0, .int .i64 0] 30) := by
  have hidx := idx1 u
  have hul : 129 ≤ (u.toNat : Int) := by omega
  have g : decide ((u.toNat : Int) ≤ 159) = false := by simp; omega
  all_goals
    go_enter Try.func12, Try.ntmps12
    go_wp2
    go_ret
    exact ⟨rfl, rfl⟩

set_option maxRecDepth 100000 in
set_option maxHeartbeats 4000000 in
theorem good_t_ok   (u : UInt8) (hul : 129 ≤ (u.toNat : Int)) (hu : (u.toNat : Int) ≤ 159) (w : World) :
    Calls Try.prog 12 #[.int .i64 3, .agg #[.int .i64 0, .int .i64 0, .int .i64 0, .int .i64 0, .string ⟨#[u]⟩, .int .i64 0, .int .i64 0]] w fun e' w' => e' = .returned (.bool true) ∧ w' = w.alloc (.cells #[.int .i64 0, .int .i64 0, .int .i64 0, .int .i64 0, .string ⟨#[u]⟩, .int .i64 0, .int .i64 0] 30) := by
  have hidx := idx1 u
  all_goals
    go_enter Try.func12, Try.ntmps12
    go_wp2
    go_ret
    exact ⟨rfl, rfl⟩

set_option maxRecDepth 100000 in
set_option maxHeartbeats 4000000 in
theorem good_p5_y (h : Int)  (k : ByteArray) (hh : h = 0 ∨ (55296 ≤ h ∧ h ≤ 56319)) (hs : k.size ≤ 1) (w : World) :
    Calls Try.prog 12 #[.int .i64 5, .agg #[.int .i64 0, .int .i64 0, .int .i64 0, .int .i64 0, .string k, .int .i64 h, .int .i64 0]] w fun e' w' => e' = .returned (.bool true) ∧ w' = w.alloc (.cells #[.int .i64 0, .int .i64 0, .int .i64 0, .int .i64 0, .string k, .int .i64 h, .int .i64 0] 30) := by
  have g4 : decide (k.size ≤ 1) = true := by simpa using hs
  have g5 : decide ((k.size : Int) ≤ 1) = true := by simp; omega
  rcases hh with rfl | ⟨h1, h2⟩
  all_goals
    go_enter Try.func12, Try.ntmps12
    go_wp2
    go_ret
    exact ⟨rfl, rfl⟩

set_option maxRecDepth 100000 in
set_option maxHeartbeats 4000000 in
theorem good_p5_n (h : Int)  (k : ByteArray) (hh : h = 0 ∨ (55296 ≤ h ∧ h ≤ 56319)) (hs : 1 < k.size) (w : World) :
    Calls Try.prog 12 #[.int .i64 5, .agg #[.int .i64 0, .int .i64 0, .int .i64 0, .int .i64 0, .string k, .int .i64 h, .int .i64 0]] w fun e' w' => e' = .returned (.bool false) ∧ w' = w.alloc (.cells #[.int .i64 0, .int .i64 0, .int .i64 0, .int .i64 0, .string k, .int .i64 h, .int .i64 0] 30) := by
  have g4 : decide (k.size ≤ 1) = false := by simpa using hs
  have g5 : decide ((k.size : Int) ≤ 1) = false := by simp; omega
  rcases hh with rfl | ⟨h1, h2⟩
  all_goals
    go_enter Try.func12, Try.ntmps12
    go_wp2
    go_ret
    exact ⟨rfl, rfl⟩

set_option maxRecDepth 100000 in
set_option maxHeartbeats 4000000 in
theorem good_p6_y (h : Int)  (k : ByteArray) (hh : h = 0 ∨ (55296 ≤ h ∧ h ≤ 56319)) (hs : k.size ≤ 1) (w : World) :
    Calls Try.prog 12 #[.int .i64 6, .agg #[.int .i64 0, .int .i64 0, .int .i64 0, .int .i64 0, .string k, .int .i64 h, .int .i64 0]] w fun e' w' => e' = .returned (.bool true) ∧ w' = w.alloc (.cells #[.int .i64 0, .int .i64 0, .int .i64 0, .int .i64 0, .string k, .int .i64 h, .int .i64 0] 30) := by
  have g4 : decide (k.size ≤ 1) = true := by simpa using hs
  have g5 : decide ((k.size : Int) ≤ 1) = true := by simp; omega
  rcases hh with rfl | ⟨h1, h2⟩
  all_goals
    go_enter Try.func12, Try.ntmps12
    go_wp2
    go_ret
    exact ⟨rfl, rfl⟩

set_option maxRecDepth 100000 in
set_option maxHeartbeats 4000000 in
theorem good_p6_n (h : Int)  (k : ByteArray) (hh : h = 0 ∨ (55296 ≤ h ∧ h ≤ 56319)) (hs : 1 < k.size) (w : World) :
    Calls Try.prog 12 #[.int .i64 6, .agg #[.int .i64 0, .int .i64 0, .int .i64 0, .int .i64 0, .string k, .int .i64 h, .int .i64 0]] w fun e' w' => e' = .returned (.bool false) ∧ w' = w.alloc (.cells #[.int .i64 0, .int .i64 0, .int .i64 0, .int .i64 0, .string k, .int .i64 h, .int .i64 0] 30) := by
  have g4 : decide (k.size ≤ 1) = false := by simpa using hs
  have g5 : decide ((k.size : Int) ≤ 1) = false := by simp; omega
  rcases hh with rfl | ⟨h1, h2⟩
  all_goals
    go_enter Try.func12, Try.ntmps12
    go_wp2
    go_ret
    exact ⟨rfl, rfl⟩

end Go.Proofs.Ytefohnbmifblkab
