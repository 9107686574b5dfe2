/- The program's function Good of package decode computes goodS, for every integer and every state. -/
import Derived.Test.YtefohnbmifblkabGoodA
import Derived.Test.YtefohnbmifblkabGoodB
namespace Go.Proofs.Ytefohnbmifblkab
open Go.RowKit

/-- The value of a state whose kept bytes are a string. -/
abbrev stW (n c f t : Int) (k : ByteArray) (h m : Int) : Array Value := #[.int .i64 n, .int .i64 c, .int .i64 f, .int .i64 t, .string k, .int .i64 h, .int .i64 m]

theorem toList_nil {k : ByteArray} (h : k.toList = []) : k = ⟨#[]⟩ := by
  obtain ⟨⟨l⟩⟩ := k
  rw [ByteArray.toList_mk] at h
  rw [h]
theorem toList_lit {k : ByteArray} {l : List UInt8} (h : k.toList = l) : k = ⟨l.toArray⟩ := by
  obtain ⟨⟨x⟩⟩ := k
  rw [ByteArray.toList_mk] at h
  rw [h]
theorem nums_toList (k : ByteArray) : nums k = k.toList.map fun b => (b.toNat : Int) := by rw [ByteArray.toList_eq]; rfl
theorem size_toList (k : ByteArray) : k.size = k.toList.length := by rw [ByteArray.toList_eq]; rfl
theorem nums_one {k : ByteArray} (h : k.size = 1) : ∃ u : UInt8, k = ⟨#[u]⟩ := by
  rw [size_toList] at h
  match hk : k.toList, h with
  | [u], _ => exact ⟨u, toList_lit hk⟩

theorem good_any (e n c f t h m : Int) (k : ByteArray) (w : World) :
    Calls Try.prog 12 #[.int .i64 e, .agg (stW n c f t k h m)] w fun e' w' =>
      e' = .returned (.bool (goodS e (St.mk n c f t (nums k) h m))) ∧ w' = w.alloc (.cells (stW n c f t k h m) 30) := by
  -- a mode that strays
  by_cases hm : m = 0 ∨ (e = 2 ∧ m = 1)
  case neg =>
    have hf : goodS e (St.mk n c f t (nums k) h m) = false := by
      have hs : strays e (St.mk n c f t (nums k) h m) = true := by
        simp only [strays, Bool.or_eq_true, Bool.and_eq_true, decide_eq_true_eq]; omega
      simp [goodS, hs]
    rw [hf]
    by_cases he : e = 2
    · subst he; exact good_a2 n c f t h m k (by omega) (by omega) w
    · exact good_a1 e n c f t h m k (by omega) he w
  -- a half that strays
  by_cases hh : h = 0 ∨ (5 ≤ e ∧ 55296 ≤ h ∧ h ≤ 56319)
  case neg =>
    have hf : goodS e (St.mk n c f t (nums k) h m) = false := by
      have hs : strays e (St.mk n c f t (nums k) h m) = true := by
        simp only [strays, Bool.or_eq_true, Bool.and_eq_true, decide_eq_true_eq]; omega
      simp [goodS, hs]
    rw [hf]
    rcases hm with rfl | ⟨rfl, rfl⟩
    · by_cases he : e < 5
      · exact good_b1 e n c f t h k (by omega) he w
      · by_cases hl : h < 55296
        · exact good_b2 e n c f t h k (by omega) (by omega) hl w
        · exact good_b3 e n c f t h k (by omega) (by omega) w
    · exact good_b1m n c f t h k (by omega) w
  have hs : strays e (St.mk n c f t (nums k) h m) = false := by
    simp only [strays, Bool.or_eq_false_iff, Bool.and_eq_false_iff, decide_eq_false_iff_not]; omega
  have hk0 : nums k = [] ↔ k.toList = [] := by rw [nums_toList]; simp
  have hq : quiet (St.mk n c f t (nums k) h m) = decide (n = 0 ∧ c = 0 ∧ f = 0 ∧ t = 0) := by
    simp [quiet, Bool.and_assoc]
  have hz : (n = 0 ∧ c = 0 ∧ f = 0 ∧ t = 0) ∨ (¬ n = 0 ∨ (n = 0 ∧ ¬ c = 0) ∨ (n = 0 ∧ c = 0 ∧ ¬ f = 0) ∨ (n = 0 ∧ c = 0 ∧ f = 0 ∧ ¬ t = 0)) := by omega
  by_cases e1 : e = 1
  · subst e1
    obtain rfl : m = 0 := by omega
    obtain rfl : h = 0 := by omega
    by_cases hk : k.toList = []
    · obtain rfl := toList_nil hk
      have hg : goodS 1 (St.mk n c f t (nums ⟨#[]⟩) 0 0) = (decide (n = 0 ∧ c = 0 ∧ f = 0 ∧ t = 0) || (decide (1 ≤ n) && decide (n ≤ 3) && decide (0 ≤ c)
          && decide (c < (if n = 1 then 32768 else if n = 2 then 512 else 8)) && decide (128 ≤ f) && decide (t ≤ 191))) := by
        have en : nums ⟨#[]⟩ = [] := rfl
        rw [en]
        simp [goodS, goodUtf, strays]
      rw [hg]
      rcases hz with ⟨rfl, rfl, rfl, rfl⟩ | hz
      · exact good_u_init w
      · by_cases n0 : n = 0
        · subst n0
          have : decide ((0 : Int) = 0 ∧ c = 0 ∧ f = 0 ∧ t = 0) = false := by simp; omega
          rw [this]
          exact good_u_n0 c f t (by omega) w
        · have hd : decide (n = 0 ∧ c = 0 ∧ f = 0 ∧ t = 0) = false := by simp [n0]
          rw [hd, Bool.false_or]
          by_cases hlo : n < 0
          · have : decide (1 ≤ n) = false := by simp; omega
            rw [this]; exact good_u_lo n c f t hlo w
          · by_cases hhi : 3 < n
            · have : decide (n ≤ 3) = false := by simp; omega
              rw [this, Bool.and_false]; exact good_u_hi n c f t hhi w
            · by_cases hc : c < 0
              · have : decide (0 ≤ c) = false := by simp; omega
                rw [this, Bool.and_false]; exact good_u_c n c f t (by omega) (by omega) hc w
              · have d1 : decide (1 ≤ n) = true := by simp; omega
                have d2 : decide (n ≤ 3) = true := by simp; omega
                have d3 : decide (0 ≤ c) = true := by simp; omega
                rw [d1, d2, d3]
                have hn : n = 1 ∨ n = 2 ∨ n = 3 := by omega
                rcases hn with rfl | rfl | rfl
                · by_cases h1 : 32768 ≤ c
                  · have : decide (c < (if (1 : Int) = 1 then 32768 else if (1 : Int) = 2 then 512 else 8)) = false := by simp; omega
                    rw [this]; exact good_u_c1 c f t h1 w
                  · have : decide (c < (if (1 : Int) = 1 then 32768 else if (1 : Int) = 2 then 512 else 8)) = true := by simp; omega
                    rw [this]
                    by_cases h2 : f < 128
                    · have : decide (128 ≤ f) = false := by simp; omega
                      rw [this]; exact good_u_f1 c f t (by omega) (by omega) h2 w
                    · have : decide (128 ≤ f) = true := by simp; omega
                      rw [this]
                      by_cases h3 : 191 < t
                      · have : decide (t ≤ 191) = false := by simp; omega
                        rw [this]; exact good_u_t1 c f t (by omega) (by omega) (by omega) h3 w
                      · have : decide (t ≤ 191) = true := by simp; omega
                        rw [this]; exact good_u_y1 c f t (by omega) (by omega) (by omega) (by omega) w
                · by_cases h1 : 512 ≤ c
                  · have : decide (c < (if (2 : Int) = 1 then 32768 else if (2 : Int) = 2 then 512 else 8)) = false := by simp; omega
                    rw [this]; exact good_u_c2 c f t h1 w
                  · have : decide (c < (if (2 : Int) = 1 then 32768 else if (2 : Int) = 2 then 512 else 8)) = true := by simp; omega
                    rw [this]
                    by_cases h2 : f < 128
                    · have : decide (128 ≤ f) = false := by simp; omega
                      rw [this]; exact good_u_f2 c f t (by omega) (by omega) h2 w
                    · have : decide (128 ≤ f) = true := by simp; omega
                      rw [this]
                      by_cases h3 : 191 < t
                      · have : decide (t ≤ 191) = false := by simp; omega
                        rw [this]; exact good_u_t2 c f t (by omega) (by omega) (by omega) h3 w
                      · have : decide (t ≤ 191) = true := by simp; omega
                        rw [this]; exact good_u_y2 c f t (by omega) (by omega) (by omega) (by omega) w
                · by_cases h1 : 8 ≤ c
                  · have : decide (c < (if (3 : Int) = 1 then 32768 else if (3 : Int) = 2 then 512 else 8)) = false := by simp; omega
                    rw [this]; exact good_u_c3 c f t h1 w
                  · have : decide (c < (if (3 : Int) = 1 then 32768 else if (3 : Int) = 2 then 512 else 8)) = true := by simp; omega
                    rw [this]
                    by_cases h2 : f < 128
                    · have : decide (128 ≤ f) = false := by simp; omega
                      rw [this]; exact good_u_f3 c f t (by omega) (by omega) h2 w
                    · have : decide (128 ≤ f) = true := by simp; omega
                      rw [this]
                      by_cases h3 : 191 < t
                      · have : decide (t ≤ 191) = false := by simp; omega
                        rw [this]; exact good_u_t3 c f t (by omega) (by omega) (by omega) h3 w
                      · have : decide (t ≤ 191) = true := by simp; omega
                        rw [this]; exact good_u_y3 c f t (by omega) (by omega) (by omega) (by omega) w
    · have hg : goodS 1 (St.mk n c f t (nums k) 0 0) = false := by
        simp [goodS, goodUtf, hk0, hk]
      rw [hg]; exact good_u_k n c f t k hk w
  by_cases e2 : e = 2
  · subst e2
    obtain rfl : h = 0 := by omega
    have hm1 : m = 0 ∨ m = 1 := by omega
    rcases hz with ⟨rfl, rfl, rfl, rfl⟩ | hz
    · by_cases hk : k.toList = []
      · obtain rfl := toList_nil hk
        have hg : goodS 2 (St.mk 0 0 0 0 (nums ⟨#[]⟩) 0 m) = true := by
          have en : nums ⟨#[]⟩ = [] := rfl
          rw [en] at hs ⊢
          simp [goodS, hs, goodShift, quiet]
        rw [hg]; exact good_s_y m hm1 w
      by_cases hk1 : k.toList = [27]
      · obtain rfl := toList_lit hk1
        have hg : goodS 2 (St.mk 0 0 0 0 (nums ⟨#[27]⟩) 0 m) = true := by
          have en : nums ⟨#[27]⟩ = [27] := rfl
          rw [en] at hs ⊢
          simp [goodS, hs, goodShift, quiet]
        rw [hg]; exact good_s_y27 m hm1 w
      by_cases hk2 : k.toList = [27, 40]
      · obtain rfl := toList_lit hk2
        have hg : goodS 2 (St.mk 0 0 0 0 (nums ⟨#[27, 40]⟩) 0 m) = true := by
          have en : nums ⟨#[27, 40]⟩ = [27, 40] := rfl
          rw [en] at hs ⊢
          simp [goodS, hs, goodShift, quiet]
        rw [hg]; exact good_s_y40 m hm1 w
      by_cases hk3 : k.toList = [27, 36]
      · obtain rfl := toList_lit hk3
        have hg : goodS 2 (St.mk 0 0 0 0 (nums ⟨#[27, 36]⟩) 0 m) = true := by
          have en : nums ⟨#[27, 36]⟩ = [27, 36] := rfl
          rw [en] at hs ⊢
          simp [goodS, hs, goodShift, quiet]
        rw [hg]; exact good_s_y36 m hm1 w
      have inj : ∀ (l : List UInt8), nums k = l.map (fun b => (b.toNat : Int)) → k.toList = l := by
        intro l hl
        rw [nums_toList] at hl
        exact List.map_inj_right (fun a b hab => by
          have : a.toNat = b.toNat := by exact_mod_cast hab
          exact UInt8.toNat_inj.1 this) |>.1 hl
      have x0 : ¬ nums k = [] := fun hx => hk (hk0.1 hx)
      have x1 : ¬ nums k = [27] := fun hx => hk1 (inj [27] (by simpa using hx))
      have x2 : ¬ nums k = [27, 40] := fun hx => hk2 (inj [27, 40] (by simpa using hx))
      have x3 : ¬ nums k = [27, 36] := fun hx => hk3 (inj [27, 36] (by simpa using hx))
      rcases hm1 with rfl | rfl
      · have hg : goodS 2 (St.mk 0 0 0 0 (nums k) 0 0) = false := by
          simp [goodS, goodShift, x0, x1, x2, x3]
        rw [hg]; exact good_s_m0 k hk hk1 hk2 hk3 w
      · by_cases hsz : k.size = 1
        · obtain ⟨u, rfl⟩ := nums_one hsz
          have en : nums ⟨#[u]⟩ = [(u.toNat : Int)] := rfl
          have hu27 : ¬ u = 27 := by
            rintro rfl; exact x1 rfl
          rw [en] at hs x0 x1 x2 x3 ⊢
          by_cases hlo : (u.toNat : Int) < 33
          · have hg : goodS 2 (St.mk 0 0 0 0 [(u.toNat : Int)] 0 1) = false := by
              simp [goodS, goodShift, x1]; omega
            rw [hg]; exact good_s_lo u hu27 hlo w
          · by_cases hhi : 126 < (u.toNat : Int)
            · have hg : goodS 2 (St.mk 0 0 0 0 [(u.toNat : Int)] 0 1) = false := by
                simp [goodS, goodShift, x1]; omega
              rw [hg]; exact good_s_hi u hu27 hhi w
            · have hg : goodS 2 (St.mk 0 0 0 0 [(u.toNat : Int)] 0 1) = true := by
                simp [goodS, hs, goodShift, quiet]; omega
              rw [hg]; exact good_s_ok u hu27 (by omega) (by omega) w
        · have hg : goodS 2 (St.mk 0 0 0 0 (nums k) 0 1) = false := by
            have hl : ¬ (nums k).length = 1 := by rw [nums_length]; exact hsz
            simp [goodS, goodShift, x0, x1, x2, x3, hl]
          rw [hg]; exact good_s_sz k hk hk1 hk2 hk3 hsz w
    · have hqf : quiet (St.mk n c f t (nums k) 0 m) = false := by rw [hq]; simp; omega
      have hg : goodS 2 (St.mk n c f t (nums k) 0 m) = false := by simp [goodS, goodShift, hqf]
      rw [hg]; exact good_q2 n c f t m k hz hm1 w
  obtain rfl : m = 0 := by omega
  by_cases e3 : e = 3
  · subst e3
    obtain rfl : h = 0 := by omega
    rcases hz with ⟨rfl, rfl, rfl, rfl⟩ | hz
    · by_cases hk : k.toList = []
      · obtain rfl := toList_nil hk
        exact good_t_y w
      · have x0 : ¬ nums k = [] := fun hx => hk (hk0.1 hx)
        by_cases hsz : k.size = 1
        · obtain ⟨u, rfl⟩ := nums_one hsz
          have en : nums ⟨#[u]⟩ = [(u.toNat : Int)] := rfl
          rw [en] at hs ⊢
          by_cases hlo : (u.toNat : Int) < 129
          · have hg : goodS 3 (St.mk 0 0 0 0 [(u.toNat : Int)] 0 0) = false := by simp [goodS, goodTwin]; omega
            rw [hg]; exact good_t_lo u hlo w
          · by_cases hhi : 159 < (u.toNat : Int)
            · have hg : goodS 3 (St.mk 0 0 0 0 [(u.toNat : Int)] 0 0) = false := by simp [goodS, goodTwin]; omega
              rw [hg]; exact good_t_hi u hhi w
            · have hg : goodS 3 (St.mk 0 0 0 0 [(u.toNat : Int)] 0 0) = true := by simp [goodS, hs, goodTwin, quiet]; omega
              rw [hg]; exact good_t_ok u (by omega) (by omega) w
        · have hg : goodS 3 (St.mk 0 0 0 0 (nums k) 0 0) = false := by
            have hl : ¬ (nums k).length = 1 := by rw [nums_length]; exact hsz
            simp [goodS, goodTwin, x0, hl]
          rw [hg]; exact good_t_sz k hk hsz w
    · have hqf : quiet (St.mk n c f t (nums k) 0 0) = false := by rw [hq]; simp; omega
      have hg : goodS 3 (St.mk n c f t (nums k) 0 0) = false := by simp [goodS, goodTwin, hqf]
      rw [hg]; exact good_q3 n c f t k hz w
  by_cases e4 : e = 4
  · subst e4
    obtain rfl : h = 0 := by omega
    rcases hz with ⟨rfl, rfl, rfl, rfl⟩ | hz
    · by_cases hk : k.toList = []
      · obtain rfl := toList_nil hk
        exact good_l_y w
      · have x0 : ¬ nums k = [] := fun hx => hk (hk0.1 hx)
        have hg : goodS 4 (St.mk 0 0 0 0 (nums k) 0 0) = false := by simp [goodS, x0]
        rw [hg]; exact good_l_k k hk w
    · have hg : goodS 4 (St.mk n c f t (nums k) 0 0) = false := by simp [goodS]; omega
      rw [hg]; exact good_l_n n c f t k hz w
  have hh2 : 5 ≤ e → h = 0 ∨ (55296 ≤ h ∧ h ≤ 56319) := by omega
  by_cases e5 : e = 5
  · subst e5
    have hh3 := hh2 (by omega)
    rcases hz with ⟨rfl, rfl, rfl, rfl⟩ | hz
    · by_cases hsz : k.size ≤ 1
      · have hg : goodS 5 (St.mk 0 0 0 0 (nums k) h 0) = true := by
          simp [goodS, hs, goodPairs, quiet, nums_length, hsz]
        rw [hg]; exact good_p5_y h k hh3 hsz w
      · have hg : goodS 5 (St.mk 0 0 0 0 (nums k) h 0) = false := by
          simp [goodS, goodPairs, nums_length]; omega
        rw [hg]; exact good_p5_n h k hh3 (by omega) w
    · have hqf : quiet (St.mk n c f t (nums k) h 0) = false := by rw [hq]; simp; omega
      have hg : goodS 5 (St.mk n c f t (nums k) h 0) = false := by simp [goodS, goodPairs, hqf]
      rw [hg]; exact good_q5 n c f t h k hz hh3 w
  by_cases e6 : e = 6
  · subst e6
    have hh3 := hh2 (by omega)
    rcases hz with ⟨rfl, rfl, rfl, rfl⟩ | hz
    · by_cases hsz : k.size ≤ 1
      · have hg : goodS 6 (St.mk 0 0 0 0 (nums k) h 0) = true := by
          simp [goodS, hs, goodPairs, quiet, nums_length, hsz]
        rw [hg]; exact good_p6_y h k hh3 hsz w
      · have hg : goodS 6 (St.mk 0 0 0 0 (nums k) h 0) = false := by
          simp [goodS, goodPairs, nums_length]; omega
        rw [hg]; exact good_p6_n h k hh3 (by omega) w
    · have hqf : quiet (St.mk n c f t (nums k) h 0) = false := by rw [hq]; simp; omega
      have hg : goodS 6 (St.mk n c f t (nums k) h 0) = false := by simp [goodS, goodPairs, hqf]
      rw [hg]; exact good_q6 n c f t h k hz hh3 w
  have hg : goodS e (St.mk n c f t (nums k) h 0) = false := by
    simp [goodS, e1, e2, e3, e4, e5, e6]
  rw [hg]
  by_cases hlo : e < 1
  · obtain rfl : h = 0 := by omega
    exact good_none1 e n c f t k hlo w
  · exact good_none2 e n c f t h k (by omega) (hh2 (by omega)) w

end Go.Proofs.Ytefohnbmifblkab
