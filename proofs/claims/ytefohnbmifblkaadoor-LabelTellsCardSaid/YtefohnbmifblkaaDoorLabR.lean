/- The reference's Trimmed. -/
import Derived.Test.YtefohnbmifblkaaDoorLabF
import Derived.OwnWalk
namespace Go.Proofs.YtefohnbmifblkaaDoor
open Go.RowKit
set_option linter.unusedVariables false

theorem sp_byte (b : Int) (w : World) : Calls Tryd.prog 12 #[.int .u8 b] w fun e w' => e = .returned (.bool (isSp b)) ∧ w = w' := by
  have h : b = 32 ∨ (b ≠ 32 ∧ b < 9) ∨ (b ≠ 32 ∧ 9 ≤ b ∧ 13 < b) ∨ (9 ≤ b ∧ b ≤ 13 ∧ b = 11) ∨ (9 ≤ b ∧ b ≤ 13 ∧ b ≠ 11) := by omega
  rcases h with rfl | ⟨h, h'⟩ | ⟨h, h', h''⟩ | ⟨h, h', rfl⟩ | ⟨h, h', h''⟩
  all_goals
    go_enter Tryd.func12, Tryd.ntmps12
    go_wp2
    go_ret
    exact ⟨ret_bool (by rw [Bool.eq_iff_iff]; simp [isSp]; try omega), rfl⟩

theorem nil_str {t : ByteArray} (h : t.size = 0) : t = ⟨#[]⟩ := by
  obtain ⟨⟨l⟩⟩ := t
  have : l.length = 0 := h
  simp at this
  subst this
  rfl
theorem nums_nil : nums ⟨#[]⟩ = [] := rfl
theorem toList_size (t : ByteArray) : t.toList.length = t.size := by rw [Lib.toList_data, ← Lib.size_eq]

def strSize : Value → Nat
  | .string t => t.size
  | _ => 0

theorem infoU8 : (Tryd.prog.info? 5).map (fun i => (i.zero, i.size, i.bytes)) = some (some (.int .u8 0), 1, 1) := by kernel_rfl
theorem make_bytes (n : Nat) (hn : n ≤ 140737488351232) (W : World) :
    (Instr.makeSlice 28 (.int .i64 (n : Int)) (.int .i64 (n : Int))).run Tryd.prog W = .ok (.slice (some ⟨W.heap.size, 0, none⟩) n n) (W.alloc (.cells (madeCells #[.int .u8 0] n) 5)) := by
  obtain ⟨i, hi, hz, hs, hb⟩ := info_parts infoU8
  have h := run_make (P := Tryd.prog) W 28 5 i (.int .u8 0) Tryd.underlying28 hi hz .i64 .i64 (n : Int) (n : Int) (by omega) (by omega) (by rw [hb]; omega) (by omega)
  rw [hs] at h
  simpa [Value.cells] using h
theorem row_made (W : World) (n : Nat) (t : TypeId) : Row (W.alloc (.cells (madeCells #[.int .u8 0] n) t)) W.heap.size n (fun _ => 0) := by
  refine ⟨madeCells #[.int .u8 0] n, t, (0, 0), ?_, fun j hj => ⟨?_, by simp⟩⟩
  · show (W.heap.push _)[W.heap.size]? = _
    simp
  · have : j % 1 = 0 := by omega
    simp [madeCells, hj, this]

set_option maxRecDepth 100000 in
set_option maxHeartbeats 8000000 in
theorem ref_trim (s : ByteArray) (w : World) (hs : s.size ≤ reachBytes) :
    Calls Tryd.prog 5 #[.string s] w fun e w' => e = .returned (.string (trimT s)) ∧ Below w.heap.size w w' := by
  have hT : trimT s = strOfNums ((rightZ (leftZ (nums s))).map lowI) := by
    unfold trimT trimZ
    rw [trim_comm]
  rw [hT]
  unfold reachBytes at hs
  generalize hL : leftZ (nums s) = L
  have HL := Lib.hid hL
  clear hL hT
  go_enter Tryd.func5, Tryd.ntmps5
  go_wp2_with fail
  go_loop [0] (fun v => ∃ t : ByteArray, v = .string t ∧ t.size ≤ s.size ∧ leftZ (nums t) = L) (fun v => strSize v)
  case atStart => exact ⟨s, rfl, Nat.le_refl _, HL.out⟩
  case round =>
    obtain ⟨t, rfl, ht, hl⟩ := hrel
    clear HL
    have hcas : t.size = 0 ∨ (0 < t.size) := by omega
    rcases hcas with h0 | h0
    rotate_left
    · have hne : (t.toList == []) = false := by
        have := toList_size t
        cases h : t.toList with
        | nil => rw [h] at this; simp at this; omega
        | cons a l => rfl
      have hne2 : ¬ t.toList = [] := by simpa using hne
      have hh := nums_head t h0
      have h01 : (0 : Int) < (t.size : Int) := by omega
      have HS := Lib.hid (fun W => sp_byte (t[0].toNat : Int) W)
      cases hsp : isSp (t[0].toNat : Int)
      rotate_left
      · rw [hh, leftZ_skip hsp] at hl
        rw [hsp] at HS
        have HL2 := Lib.hid hl
        clear hl hh
        go_wp2_with (go_at_call 12; refine (HS.out _).mono ?_; rintro e w' ⟨rfl, rfl⟩)
        go_round
        case rel => exact ⟨t.extract 1 t.size, rfl, by simp; omega, by rw [nums_behind]; exact HL2.out⟩
        case measure => simp [strSize]; omega
      · rw [hh, leftZ_stay hsp, ← hh] at hl
        rw [hsp] at HS
        have HL2 := Lib.hid hl
        clear hl hh hsp
        go_wp2_with (go_at_call 12; refine (HS.out _).mono ?_; rintro e w' ⟨rfl, rfl⟩)
        go_loop [0] (fun v => ∃ t2 : ByteArray, v = .string t2 ∧ t2.size ≤ s.size ∧ rightZ (nums t2) = rightZ L) (fun v => strSize v)
        case atStart => exact ⟨_, rfl, ht, by rw [HL2.out]⟩
        case round =>
          obtain ⟨t2, rfl, ht2, hl2⟩ := hrel
          clear HL2
          generalize hR : rightZ L = R at *
          have HR := Lib.hid hR
          clear hR
          have hcas : t2.size = 0 ∨ ∃ m, t2.size = m + 1 := by
            cases h : t2.size with
            | zero => exact Or.inl rfl
            | succ m => exact Or.inr ⟨m, rfl⟩
          rcases hcas with h0 | ⟨m, hm⟩
          rotate_left
          · have hne : (t2.toList == []) = false := by
              have := toList_size t2
              cases h : t2.toList with
              | nil => rw [h] at this; simp at this; omega
              | cons a l => rfl
            have hne2 : ¬ t2.toList = [] := by simpa using hne
            have hml : m < t2.size := by omega
            have hh : nums t2 = (nums t2).take m ++ [((t2[m]'hml).toNat : Int)] := nums_last t2 m hm
            have h01 : (m : Int) < (t2.size : Int) := by omega
            have h02 : (t2.size : Int) - 1 = (m : Int) := by omega
            clear hm
            have HS := Lib.hid (fun W => sp_byte (t2[m].toNat : Int) W)
            cases hsp : isSp (t2[m].toNat : Int)
            rotate_left
            · rw [hh, rightZ_skip hsp] at hl2
              rw [hsp] at HS
              have HL3 := Lib.hid hl2
              clear hl2 hh
              go_wp2_with (go_at_call 12; refine (HS.out _).mono ?_; rintro e w' ⟨rfl, rfl⟩)
              go_round
              case rel => exact ⟨t2.extract 0 m, rfl, by simp; omega, by rw [nums_front]; exact HL3.out⟩
              case measure => simp [strSize]; omega
            · rw [hh, rightZ_stay hsp, ← hh] at hl2
              rw [hsp] at HS
              have HL3 := Lib.hid hl2
              clear hl2 hh hsp
              have hmk := make_bytes t2.size (by omega)
              go_wp2_with (go_at_call 12; refine (HS.out _).mono ?_; rintro e w' ⟨rfl, rfl⟩)
              go_loopw [37] (fun i wr => ∃ k : Nat, i = .int .i64 (k : Int) ∧ k ≤ t2.size ∧ Row wr w.heap.size t2.size (fun j => if j < k then lowI (byteAt t2 j) else 0) ∧ Below w.heap.size w wr) (fun i _ => t2.size - (intOf i).toNat)
              case atStart => exact ⟨0, rfl, Nat.zero_le _, (row_made w t2.size _).congr fun j _ => by simp, below_alloc (Below.refl _ _) _⟩
              case round =>
                obtain ⟨k, rfl, hk, hr, hb⟩ := hrel
                by_cases hlt : k < t2.size
                · have hc := hr.cell k hlt
                  have hf := hr.frozen k hlt
                  rw [if_neg (Nat.lt_irrefl k)] at hc
                  have hrg := byteAt_range t2 k hlt
                  have hbc : byteAt t2 k = (t2[k].toNat : Int) := nums_getD t2 k hlt
                  have HS : ∀ v, lowI (byteAt t2 k) = v → Row (wr.setCell ⟨w.heap.size, k, none⟩ (.int .u8 v)) w.heap.size t2.size (fun j => if j < k + 1 then lowI (byteAt t2 j) else 0) := by
                    intro v hv
                    refine hr.set k v fun j hj => ?_
                    by_cases e : j = k
                    · subst e
                      rw [if_pos (by omega), if_pos rfl]
                      exact hv
                    · rw [if_neg e]
                      by_cases h : j < k
                      · rw [if_pos h, if_pos (by omega)]
                      · rw [if_neg h, if_neg (by omega)]
                  have HS2 : ∀ u v, lowI (byteAt t2 k) = v → Row ((wr.setCell ⟨w.heap.size, k, none⟩ (.int .u8 u)).setCell ⟨w.heap.size, k, none⟩ (.int .u8 v)) w.heap.size t2.size (fun j => if j < k + 1 then lowI (byteAt t2 j) else 0) := by
                    intro u v hv
                    have h1 : Row (wr.setCell ⟨w.heap.size, k, none⟩ (.int .u8 u)) w.heap.size t2.size (fun j => if j = k then u else if j < k then lowI (byteAt t2 j) else 0) := hr.set k u fun j hj => rfl
                    refine h1.set k v fun j hj => ?_
                    by_cases e : j = k
                    · subst e
                      rw [if_pos (by omega), if_pos rfl]
                      exact hv
                    · rw [if_neg e, if_neg e]
                      by_cases h : j < k
                      · rw [if_pos h, if_pos (by omega)]
                      · rw [if_neg h, if_neg (by omega)]
                  have HS := Lib.hid HS
                  have HS2 := Lib.hid HS2
                  rw [hbc] at hrg
                  have HB := Lib.hid hbc
                  clear hbc
                  have hkt : (k : Int) < (t2.size : Int) := by omega
                  have hq : (t2[k].toNat : Int) < 65 ∨ (65 ≤ (t2[k].toNat : Int) ∧ (t2[k].toNat : Int) ≤ 90) ∨ (65 ≤ (t2[k].toNat : Int) ∧ 90 < (t2[k].toNat : Int)) := by omega
                  rcases hq with h | ⟨h, h'⟩ | ⟨h, h'⟩
                  · go_wp2_with fail
                    go_roundw
                    case rel => exact ⟨k + 1, by go_num, by omega, HS.out _ (by rw [HB.out]; unfold lowI; rw [if_neg (by omega)]), hb.setCell (p := ⟨w.heap.size, k, none⟩) (Nat.le_refl _) _⟩
                    case measure => simp [intOf]; omega
                  · go_wp2_with fail
                    go_roundw
                    case rel => exact ⟨k + 1, by go_num, by omega, HS2.out _ _ (by rw [HB.out]; unfold lowI; rw [if_pos ⟨h, h'⟩]), (hb.setCell (p := ⟨w.heap.size, k, none⟩) (Nat.le_refl _) _).setCell (p := ⟨w.heap.size, k, none⟩) (Nat.le_refl _) _⟩
                    case measure => simp [intOf]; omega
                  · go_wp2_with fail
                    go_roundw
                    case rel => exact ⟨k + 1, by go_num, by omega, HS.out _ (by rw [HB.out]; unfold lowI; rw [if_neg (by omega)]), hb.setCell (p := ⟨w.heap.size, k, none⟩) (Nat.le_refl _) _⟩
                    case measure => simp [intOf]; omega
                · obtain rfl : k = t2.size := by omega
                  have hst := hr.string ((nums t2).map lowI) (by simp [nums_length]) (fun j hj => by rw [low_at t2 j hj, if_pos hj])
                  rw [HL3.out] at hst
                  go_wp2_with fail
                  go_ret
                  exact ⟨by rw [HR.out]; rfl, hb⟩
          · obtain rfl := nil_str h0
            have HL3 : Hid (nums ⟨#[]⟩ = R) := Lib.hid (by rw [← hl2, nums_nil]; rfl)
            clear hl2 h0
            have hmk : ∀ W, (Instr.makeSlice 28 (.int .i64 0) (.int .i64 0)).run Tryd.prog W = .ok (.slice (some ⟨W.heap.size, 0, none⟩) 0 0) (W.alloc (.cells (madeCells #[.int .u8 0] 0) 5)) := make_bytes 0 (by decide)
            go_wp2_with fail
            obtain rfl : R = [] := HL3.out.symm
            have hst := fun c => (row_made w 0 5).string [] rfl (fun j hj => absurd hj (by omega)) c
            refine wp_loop_rounds 1 ?_
            rw [rounds_succ]
            go_wp2_with fail
            go_ret
            exact ⟨by rw [HR.out]; rfl, below_alloc (Below.refl _ _) _⟩
    · obtain rfl := nil_str h0
      have HL2 : Hid (nums ⟨#[]⟩ = L) := Lib.hid (by rw [← hl, nums_nil]; rfl)
      clear hl h0
      go_wp2_with fail
      go_loop [0] (fun v => ∃ t2 : ByteArray, v = .string t2 ∧ t2.size ≤ s.size ∧ rightZ (nums t2) = rightZ L) (fun v => strSize v)
      case atStart => exact ⟨_, rfl, ht, by rw [HL2.out]⟩
      case round =>
        obtain ⟨t2, rfl, ht2, hl2⟩ := hrel
        clear HL2
        generalize hR : rightZ L = R at *
        have HR := Lib.hid hR
        clear hR
        have hcas : t2.size = 0 ∨ ∃ m, t2.size = m + 1 := by
          cases h : t2.size with
          | zero => exact Or.inl rfl
          | succ m => exact Or.inr ⟨m, rfl⟩
        rcases hcas with h0 | ⟨m, hm⟩
        rotate_left
        · have hne : (t2.toList == []) = false := by
            have := toList_size t2
            cases h : t2.toList with
            | nil => rw [h] at this; simp at this; omega
            | cons a l => rfl
          have hne2 : ¬ t2.toList = [] := by simpa using hne
          have hml : m < t2.size := by omega
          have hh : nums t2 = (nums t2).take m ++ [((t2[m]'hml).toNat : Int)] := nums_last t2 m hm
          have h01 : (m : Int) < (t2.size : Int) := by omega
          have h02 : (t2.size : Int) - 1 = (m : Int) := by omega
          clear hm
          have HS := Lib.hid (fun W => sp_byte (t2[m].toNat : Int) W)
          cases hsp : isSp (t2[m].toNat : Int)
          rotate_left
          · rw [hh, rightZ_skip hsp] at hl2
            rw [hsp] at HS
            have HL3 := Lib.hid hl2
            clear hl2 hh
            go_wp2_with (go_at_call 12; refine (HS.out _).mono ?_; rintro e w' ⟨rfl, rfl⟩)
            go_round
            case rel => exact ⟨t2.extract 0 m, rfl, by simp; omega, by rw [nums_front]; exact HL3.out⟩
            case measure => simp [strSize]; omega
          · rw [hh, rightZ_stay hsp, ← hh] at hl2
            rw [hsp] at HS
            have HL3 := Lib.hid hl2
            clear hl2 hh hsp
            have hmk := make_bytes t2.size (by omega)
            go_wp2_with (go_at_call 12; refine (HS.out _).mono ?_; rintro e w' ⟨rfl, rfl⟩)
            go_loopw [37] (fun i wr => ∃ k : Nat, i = .int .i64 (k : Int) ∧ k ≤ t2.size ∧ Row wr w.heap.size t2.size (fun j => if j < k then lowI (byteAt t2 j) else 0) ∧ Below w.heap.size w wr) (fun i _ => t2.size - (intOf i).toNat)
            case atStart => exact ⟨0, rfl, Nat.zero_le _, (row_made w t2.size _).congr fun j _ => by simp, below_alloc (Below.refl _ _) _⟩
            case round =>
              obtain ⟨k, rfl, hk, hr, hb⟩ := hrel
              by_cases hlt : k < t2.size
              · have hc := hr.cell k hlt
                have hf := hr.frozen k hlt
                rw [if_neg (Nat.lt_irrefl k)] at hc
                have hrg := byteAt_range t2 k hlt
                have hbc : byteAt t2 k = (t2[k].toNat : Int) := nums_getD t2 k hlt
                have HS : ∀ v, lowI (byteAt t2 k) = v → Row (wr.setCell ⟨w.heap.size, k, none⟩ (.int .u8 v)) w.heap.size t2.size (fun j => if j < k + 1 then lowI (byteAt t2 j) else 0) := by
                  intro v hv
                  refine hr.set k v fun j hj => ?_
                  by_cases e : j = k
                  · subst e
                    rw [if_pos (by omega), if_pos rfl]
                    exact hv
                  · rw [if_neg e]
                    by_cases h : j < k
                    · rw [if_pos h, if_pos (by omega)]
                    · rw [if_neg h, if_neg (by omega)]
                have HS2 : ∀ u v, lowI (byteAt t2 k) = v → Row ((wr.setCell ⟨w.heap.size, k, none⟩ (.int .u8 u)).setCell ⟨w.heap.size, k, none⟩ (.int .u8 v)) w.heap.size t2.size (fun j => if j < k + 1 then lowI (byteAt t2 j) else 0) := by
                  intro u v hv
                  have h1 : Row (wr.setCell ⟨w.heap.size, k, none⟩ (.int .u8 u)) w.heap.size t2.size (fun j => if j = k then u else if j < k then lowI (byteAt t2 j) else 0) := hr.set k u fun j hj => rfl
                  refine h1.set k v fun j hj => ?_
                  by_cases e : j = k
                  · subst e
                    rw [if_pos (by omega), if_pos rfl]
                    exact hv
                  · rw [if_neg e, if_neg e]
                    by_cases h : j < k
                    · rw [if_pos h, if_pos (by omega)]
                    · rw [if_neg h, if_neg (by omega)]
                have HS := Lib.hid HS
                have HS2 := Lib.hid HS2
                rw [hbc] at hrg
                have HB := Lib.hid hbc
                clear hbc
                have hkt : (k : Int) < (t2.size : Int) := by omega
                have hq : (t2[k].toNat : Int) < 65 ∨ (65 ≤ (t2[k].toNat : Int) ∧ (t2[k].toNat : Int) ≤ 90) ∨ (65 ≤ (t2[k].toNat : Int) ∧ 90 < (t2[k].toNat : Int)) := by omega
                rcases hq with h | ⟨h, h'⟩ | ⟨h, h'⟩
                · go_wp2_with fail
                  go_roundw
                  case rel => exact ⟨k + 1, by go_num, by omega, HS.out _ (by rw [HB.out]; unfold lowI; rw [if_neg (by omega)]), hb.setCell (p := ⟨w.heap.size, k, none⟩) (Nat.le_refl _) _⟩
                  case measure => simp [intOf]; omega
                · go_wp2_with fail
                  go_roundw
                  case rel => exact ⟨k + 1, by go_num, by omega, HS2.out _ _ (by rw [HB.out]; unfold lowI; rw [if_pos ⟨h, h'⟩]), (hb.setCell (p := ⟨w.heap.size, k, none⟩) (Nat.le_refl _) _).setCell (p := ⟨w.heap.size, k, none⟩) (Nat.le_refl _) _⟩
                  case measure => simp [intOf]; omega
                · go_wp2_with fail
                  go_roundw
                  case rel => exact ⟨k + 1, by go_num, by omega, HS.out _ (by rw [HB.out]; unfold lowI; rw [if_neg (by omega)]), hb.setCell (p := ⟨w.heap.size, k, none⟩) (Nat.le_refl _) _⟩
                  case measure => simp [intOf]; omega
              · obtain rfl : k = t2.size := by omega
                have hst := hr.string ((nums t2).map lowI) (by simp [nums_length]) (fun j hj => by rw [low_at t2 j hj, if_pos hj])
                rw [HL3.out] at hst
                go_wp2_with fail
                go_ret
                exact ⟨by rw [HR.out]; rfl, hb⟩
        · obtain rfl := nil_str h0
          have HL3 : Hid (nums ⟨#[]⟩ = R) := Lib.hid (by rw [← hl2, nums_nil]; rfl)
          clear hl2 h0
          have hmk : ∀ W, (Instr.makeSlice 28 (.int .i64 0) (.int .i64 0)).run Tryd.prog W = .ok (.slice (some ⟨W.heap.size, 0, none⟩) 0 0) (W.alloc (.cells (madeCells #[.int .u8 0] 0) 5)) := make_bytes 0 (by decide)
          go_wp2_with fail
          obtain rfl : R = [] := HL3.out.symm
          have hst := fun c => (row_made w 0 5).string [] rfl (fun j hj => absurd hj (by omega)) c
          refine wp_loop_rounds 1 ?_
          rw [rounds_succ]
          go_wp2_with fail
          go_ret
          exact ⟨by rw [HR.out]; rfl, below_alloc (Below.refl _ _) _⟩

end Go.Proofs.YtefohnbmifblkaaDoor
