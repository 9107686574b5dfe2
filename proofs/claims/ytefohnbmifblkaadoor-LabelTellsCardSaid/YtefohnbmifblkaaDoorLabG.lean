/- The reference's FindLabel. -/
import Derived.Test.YtefohnbmifblkaaDoorLabR
namespace Go.Proofs.YtefohnbmifblkaaDoor
open Go.RowKit Go.Shelf
set_option linter.unusedVariables false

/-- A group of names as one text, and its names. -/
def groupS : Nat → ByteArray
  | 0 => ⟨#[117, 116, 102, 45, 56, 32, 117, 116, 102, 56, 32, 117, 110, 105, 99, 111, 100, 101, 45, 49, 45, 49, 45, 117, 116, 102, 45, 56]⟩
  | 1 => ⟨#[115, 104, 105, 102, 116, 32, 105, 115, 111, 45, 50, 48, 50, 50]⟩
  | 2 => ⟨#[116, 119, 105, 110, 32, 120, 45, 116, 119, 105, 110, 32, 109, 115, 95, 116, 119, 105, 110]⟩
  | 3 => ⟨#[108, 97, 116, 105, 110, 32, 108, 97, 116, 105, 110, 49, 32, 97, 115, 99, 105, 105, 32, 117, 115, 45, 97, 115, 99, 105, 105, 32, 119, 105, 110, 100, 111, 119, 115, 45, 49, 50, 53, 50]⟩
  | 4 => ⟨#[117, 116, 102, 45, 49, 54, 32, 117, 116, 102, 45, 49, 54, 108, 101]⟩
  | _ => ⟨#[117, 116, 102, 45, 49, 54, 98, 101]⟩
def groupL : Nat → List ByteArray
  | 0 => [⟨#[117, 116, 102, 45, 56]⟩, ⟨#[117, 116, 102, 56]⟩, ⟨#[117, 110, 105, 99, 111, 100, 101, 45, 49, 45, 49, 45, 117, 116, 102, 45, 56]⟩]
  | 1 => [⟨#[115, 104, 105, 102, 116]⟩, ⟨#[105, 115, 111, 45, 50, 48, 50, 50]⟩]
  | 2 => [⟨#[116, 119, 105, 110]⟩, ⟨#[120, 45, 116, 119, 105, 110]⟩, ⟨#[109, 115, 95, 116, 119, 105, 110]⟩]
  | 3 => [⟨#[108, 97, 116, 105, 110]⟩, ⟨#[108, 97, 116, 105, 110, 49]⟩, ⟨#[97, 115, 99, 105, 105]⟩, ⟨#[117, 115, 45, 97, 115, 99, 105, 105]⟩, ⟨#[119, 105, 110, 100, 111, 119, 115, 45, 49, 50, 53, 50]⟩]
  | 4 => [⟨#[117, 116, 102, 45, 49, 54]⟩, ⟨#[117, 116, 102, 45, 49, 54, 108, 101]⟩]
  | _ => [⟨#[117, 116, 102, 45, 49, 54, 98, 101]⟩]

theorem group_split (k : Nat) (hk : k < 6) : Lib.splitB ⟨#[32]⟩ 0 (Lib.countB (groupS k) ⟨#[32]⟩) (groupS k) = groupL k ∧ Lib.countB (groupS k) ⟨#[32]⟩ + 1 = (groupL k).length ∧ (groupS k).size < 4294967281 ∧ (groupL k).length ≤ 5 := by
  have : k = 0 ∨ k = 1 ∨ k = 2 ∨ k = 3 ∨ k = 4 ∨ k = 5 := by omega
  rcases this with rfl | rfl | rfl | rfl | rfl | rfl <;> decide +kernel

theorem str_eq {T : ByteArray} {l : List UInt8} (h : T.toList = l) : T = ⟨l.toArray⟩ := by
  obtain ⟨⟨m⟩⟩ := T
  rw [Lib.toList_data] at h
  subst h
  rfl
theorem find_hit {k : Nat} (hk : k < 6) {T : ByteArray} (h : T ∈ groupL k) : findF T.toList = (k : Int) + 1 := by
  have : k = 0 ∨ k = 1 ∨ k = 2 ∨ k = 3 ∨ k = 4 ∨ k = 5 := by omega
  rcases this with rfl | rfl | rfl | rfl | rfl | rfl
  · simp only [groupL, List.mem_cons, List.mem_nil_iff, or_false] at h
    rcases h with rfl | rfl | rfl <;> decide +kernel
  · simp only [groupL, List.mem_cons, List.mem_nil_iff, or_false] at h
    rcases h with rfl | rfl <;> decide +kernel
  · simp only [groupL, List.mem_cons, List.mem_nil_iff, or_false] at h
    rcases h with rfl | rfl | rfl <;> decide +kernel
  · simp only [groupL, List.mem_cons, List.mem_nil_iff, or_false] at h
    rcases h with rfl | rfl | rfl | rfl | rfl <;> decide +kernel
  · simp only [groupL, List.mem_cons, List.mem_nil_iff, or_false] at h
    rcases h with rfl | rfl <;> decide +kernel
  · simp only [groupL, List.mem_cons, List.mem_nil_iff, or_false] at h
    subst h
    decide +kernel
theorem find_miss {T : ByteArray} (h : ∀ k, k < 6 → T ∉ groupL k) : findF T.toList = 0 := by
  have h0 : (T.toList == [117, 116, 102, 45, 56]) = false := beq_eq_false_iff_ne.2 fun e => h 0 (by omega) (by rw [str_eq e]; simp [groupL])
  have h1 : (T.toList == [117, 116, 102, 56]) = false := beq_eq_false_iff_ne.2 fun e => h 0 (by omega) (by rw [str_eq e]; simp [groupL])
  have h2 : (T.toList == [117, 110, 105, 99, 111, 100, 101, 45, 49, 45, 49, 45, 117, 116, 102, 45, 56]) = false := beq_eq_false_iff_ne.2 fun e => h 0 (by omega) (by rw [str_eq e]; simp [groupL])
  have h3 : (T.toList == [115, 104, 105, 102, 116]) = false := beq_eq_false_iff_ne.2 fun e => h 1 (by omega) (by rw [str_eq e]; simp [groupL])
  have h4 : (T.toList == [105, 115, 111, 45, 50, 48, 50, 50]) = false := beq_eq_false_iff_ne.2 fun e => h 1 (by omega) (by rw [str_eq e]; simp [groupL])
  have h5 : (T.toList == [116, 119, 105, 110]) = false := beq_eq_false_iff_ne.2 fun e => h 2 (by omega) (by rw [str_eq e]; simp [groupL])
  have h6 : (T.toList == [120, 45, 116, 119, 105, 110]) = false := beq_eq_false_iff_ne.2 fun e => h 2 (by omega) (by rw [str_eq e]; simp [groupL])
  have h7 : (T.toList == [109, 115, 95, 116, 119, 105, 110]) = false := beq_eq_false_iff_ne.2 fun e => h 2 (by omega) (by rw [str_eq e]; simp [groupL])
  have h8 : (T.toList == [108, 97, 116, 105, 110]) = false := beq_eq_false_iff_ne.2 fun e => h 3 (by omega) (by rw [str_eq e]; simp [groupL])
  have h9 : (T.toList == [108, 97, 116, 105, 110, 49]) = false := beq_eq_false_iff_ne.2 fun e => h 3 (by omega) (by rw [str_eq e]; simp [groupL])
  have h10 : (T.toList == [97, 115, 99, 105, 105]) = false := beq_eq_false_iff_ne.2 fun e => h 3 (by omega) (by rw [str_eq e]; simp [groupL])
  have h11 : (T.toList == [117, 115, 45, 97, 115, 99, 105, 105]) = false := beq_eq_false_iff_ne.2 fun e => h 3 (by omega) (by rw [str_eq e]; simp [groupL])
  have h12 : (T.toList == [119, 105, 110, 100, 111, 119, 115, 45, 49, 50, 53, 50]) = false := beq_eq_false_iff_ne.2 fun e => h 3 (by omega) (by rw [str_eq e]; simp [groupL])
  have h13 : (T.toList == [117, 116, 102, 45, 49, 54]) = false := beq_eq_false_iff_ne.2 fun e => h 4 (by omega) (by rw [str_eq e]; simp [groupL])
  have h14 : (T.toList == [117, 116, 102, 45, 49, 54, 108, 101]) = false := beq_eq_false_iff_ne.2 fun e => h 4 (by omega) (by rw [str_eq e]; simp [groupL])
  have h15 : (T.toList == [117, 116, 102, 45, 49, 54, 98, 101]) = false := beq_eq_false_iff_ne.2 fun e => h 5 (by omega) (by rw [str_eq e]; simp [groupL])
  simp only [findF, h0, h1, h2, h3, h4, h5, h6, h7, h8, h9, h10, h11, h12, h13, h14, h15, Bool.false_eq_true, if_false]

theorem lib_split (k : Nat) (hk : k < 6) (m : Int) (W : World) (hm : W.cell? ⟨2, 0, none⟩ = some (.int .i64 m)) :
    Calls Tryd.prog 13 #[.string (groupS k), .string ⟨#[32]⟩] W fun e w' => e = .returned (.slice (some ⟨W.heap.size, 0, none⟩) (groupL k).length (groupL k).length) ∧ w' = W.alloc (.cells ((groupL k).map Value.string).toArray 9) := by
  obtain ⟨h1, h2, h3, _⟩ := group_split k hk
  have h := Any.strings_Split { Tryd.laysM146 with } Tryd.laysM146.i9 (groupS k) ⟨#[32]⟩ m W h3 hm (by decide)
  rw [h1, h2] at h
  exact h
theorem group_cell (W : World) (k j : Nat) (h : j < (groupL k).length) : (W.alloc (.cells ((groupL k).map Value.string).toArray 9)).cell? ⟨W.heap.size, j, none⟩ = some (.string (groupL k)[j]) := by
  rw [World.cell?_alloc_mark]
  simp [h]
theorem groups_cell (W : World) (k : Nat) (hk : k < 6) : (W.alloc (.cells #[.string ⟨#[117, 116, 102, 45, 56, 32, 117, 116, 102, 56, 32, 117, 110, 105, 99, 111, 100, 101, 45, 49, 45, 49, 45, 117, 116, 102, 45, 56]⟩, .string ⟨#[115, 104, 105, 102, 116, 32, 105, 115, 111, 45, 50, 48, 50, 50]⟩, .string ⟨#[116, 119, 105, 110, 32, 120, 45, 116, 119, 105, 110, 32, 109, 115, 95, 116, 119, 105, 110]⟩, .string ⟨#[108, 97, 116, 105, 110, 32, 108, 97, 116, 105, 110, 49, 32, 97, 115, 99, 105, 105, 32, 117, 115, 45, 97, 115, 99, 105, 105, 32, 119, 105, 110, 100, 111, 119, 115, 45, 49, 50, 53, 50]⟩, .string ⟨#[117, 116, 102, 45, 49, 54, 32, 117, 116, 102, 45, 49, 54, 108, 101]⟩, .string ⟨#[117, 116, 102, 45, 49, 54, 98, 101]⟩] 9)).cell? ⟨W.heap.size, k, none⟩ = some (.string (groupS k)) := by
  rw [World.cell?_alloc_mark]
  have : k = 0 ∨ k = 1 ∨ k = 2 ∨ k = 3 ∨ k = 4 ∨ k = 5 := by omega
  rcases this with rfl | rfl | rfl | rfl | rfl | rfl <;> rfl

set_option maxRecDepth 100000 in
set_option maxHeartbeats 4000000 in
theorem ref_find_name (s T : ByteArray) (w : World) (hs : (s.size : Int) ≤ 40) (m : Int) (hm : w.cell? ⟨2, 0, none⟩ = some (.int .i64 m))
    (HT : Hid (∀ W, Calls Tryd.prog 5 #[.string s] W fun e w' => e = .returned (.string T) ∧ Below W.heap.size W w')) :
    Calls Tryd.prog 7 #[.string s] w fun e w' => e = .returned (.int .i64 (findF T.toList)) ∧ Below w.heap.size w w' := by
  have hblk : 2 < w.heap.size := World.block_lt_of_cell? _ _ hm
  have HH := Lib.hid (fun (k : Nat) (hk : k < 6) (h : T ∈ groupL k) => find_hit hk h)
  have HM := Lib.hid (fun (h : ∀ k, k < 6 → T ∉ groupL k) => find_miss h)
  generalize findF T.toList = F at *
  have HG := Lib.hid (groups_cell w)
  have HMX := Lib.hid hm
  clear hm
  go_enter Tryd.func7, Tryd.ntmps7
  go_wp2_with fail
  generalize hW0 : w.alloc (.cells #[.string ⟨#[117, 116, 102, 45, 56, 32, 117, 116, 102, 56, 32, 117, 110, 105, 99, 111, 100, 101, 45, 49, 45, 49, 45, 117, 116, 102, 45, 56]⟩, .string ⟨#[115, 104, 105, 102, 116, 32, 105, 115, 111, 45, 50, 48, 50, 50]⟩, .string ⟨#[116, 119, 105, 110, 32, 120, 45, 116, 119, 105, 110, 32, 109, 115, 95, 116, 119, 105, 110]⟩, .string ⟨#[108, 97, 116, 105, 110, 32, 108, 97, 116, 105, 110, 49, 32, 97, 115, 99, 105, 105, 32, 117, 115, 45, 97, 115, 99, 105, 105, 32, 119, 105, 110, 100, 111, 119, 115, 45, 49, 50, 53, 50]⟩, .string ⟨#[117, 116, 102, 45, 49, 54, 32, 117, 116, 102, 45, 49, 54, 108, 101]⟩, .string ⟨#[117, 116, 102, 45, 49, 54, 98, 101]⟩] 9) = W0 at *
  have hsz0 : W0.heap.size = w.heap.size + 1 := by rw [← hW0]; simp
  have hB0 : Below w.heap.size w W0 := by rw [← hW0]; exact below_alloc (Below.refl _ _) _
  clear hW0
  go_loopw [12] (fun i wr => ∃ k : Nat, i = .int .i64 (k : Int) ∧ k ≤ 6 ∧ (∀ i, i < k → T ∉ groupL i) ∧ Below W0.heap.size W0 wr) (fun i _ => 6 - (intOf i).toNat)
  case atStart => exact ⟨0, rfl, by omega, fun i hi => absurd hi (by omega), Below.refl _ _⟩
  case round =>
    obtain ⟨k, rfl, hk, hmiss, hb⟩ := hrel
    have hbw : Below w.heap.size w wr := hB0.trans (hb.mono (by omega))
    have hszr := hb.size
    by_cases hlt : k < 6
    · have hc : wr.cell? ⟨w.heap.size, k, none⟩ = some (.string (groupS k)) := (hb.cell (p := ⟨w.heap.size, k, none⟩) (by show w.heap.size < _; omega)).trans (HG.out k hlt)
      have HSP := Lib.hid (lib_split k hlt m wr ((hbw.cell (p := ⟨2, 0, none⟩) hblk).trans HMX.out))
      have HGC := Lib.hid (group_cell wr k)
      have hn5 := (group_split k hlt).2.2.2
      have HHk := Lib.hid (HH.out k hlt)
      have HMS := Lib.hid hmiss
      clear hmiss
      have hk6 : (k : Int) < 6 := by omega
      generalize groupS k = g at *
      generalize hpl : groupL k = pl at *
      have HPL := Lib.hid hpl
      clear hpl
      go_wp2_with (go_at_call 13; refine HSP.out.mono ?_; rintro e' w' ⟨rfl, rfl⟩)
      generalize hW1 : wr.alloc (.cells (pl.map Value.string).toArray 9) = W1 at *
      have hsz1 : W1.heap.size = wr.heap.size + 1 := by rw [← hW1]; simp
      have hB1 : Below w.heap.size w W1 := by rw [← hW1]; exact below_alloc hbw _
      have hB2 : Below W0.heap.size W0 W1 := by rw [← hW1]; exact below_alloc hb _
      clear hW1
      generalize hbo : wr.heap.size = B1 at *
      have HBO := Lib.hid hbo
      clear hbo
      go_loopw [20] (fun i wr => ∃ j : Nat, i = .int .i64 (j : Int) ∧ j ≤ pl.length ∧ (∀ i (hi : i < pl.length), i < j → pl[i] ≠ T) ∧ Below W1.heap.size W1 wr) (fun i _ => pl.length - (intOf i).toNat)
      case atStart => exact ⟨0, rfl, Nat.zero_le _, fun i _ hi => absurd hi (by omega), Below.refl _ _⟩
      case round =>
        obtain ⟨j, rfl, hj, hno, hbi⟩ := hrel
        have hbiw : Below w.heap.size w wr := hB1.trans (hbi.mono hB1.size)
        by_cases hjl : j < pl.length
        · have hcj : wr.cell? ⟨B1, j, none⟩ = some (.string pl[j]) := (hbi.cell (p := ⟨B1, j, none⟩) (by show B1 < _; omega)).trans (HGC.out j hjl)
          have hjp : (j : Int) < (pl.length : Int) := by omega
          have HNO := Lib.hid hno
          clear hno
          by_cases hpT : pl[j] = T
          · have HR : Hid (F = (k : Int) + 1) := Lib.hid (HHk.out (by rw [← hpT]; exact List.getElem_mem hjl))
            rw [hpT] at hcj
            have hbt : (T.toList == T.toList) = true := by simp
            go_wp2_with (go_at_call 5; refine (HT.out _).mono ?_; rintro e' w3 ⟨rfl, hb3⟩)
            go_ret
            exact ⟨by rw [HR.out]; rfl, hbiw.trans (hb3.mono hbiw.size)⟩
          · have hbt : (pl[j].toList == T.toList) = false := beq_eq_false_iff_ne.2 fun e => hpT (by rw [str_eq e, Lib.toList_data])
            have HNN : Hid (∀ i (hi : i < pl.length), i < j + 1 → pl[i] ≠ T) := Lib.hid fun i hi h => by
              by_cases e : i = j
              · subst e; exact hpT
              · exact HNO.out i hi (by omega)
            clear hpT
            generalize pl[j] = pj at *
            go_wp2_with (go_at_call 5; refine (HT.out _).mono ?_; rintro e' w3 ⟨rfl, hb3⟩)
            go_roundw
            case rel => exact ⟨j + 1, by go_num, by omega, HNN.out, hbi.trans (hb3.mono hbi.size)⟩
            case measure => simp [intOf]; omega
        · obtain rfl : j = pl.length := by omega
          have HMS2 : Hid (∀ i, i < k + 1 → T ∉ groupL i) := Lib.hid fun i hi hmem => by
            by_cases e : i = k
            · subst e
              rw [HPL.out] at hmem
              obtain ⟨x, hx, rfl⟩ := List.getElem_of_mem hmem
              exact hno x hx hx rfl
            · exact HMS.out i (by omega) hmem
          clear hno
          go_wp2_with fail
          go_roundw
          case rel => exact ⟨k + 1, by go_num, by omega, HMS2.out, hB2.trans (hbi.mono hB2.size)⟩
          case measure => simp [intOf]; omega
    · obtain rfl : k = 6 := by omega
      have HR : Hid (F = 0) := Lib.hid (HM.out hmiss)
      clear hmiss
      go_wp2_with fail
      go_ret
      exact ⟨by rw [HR.out]; rfl, hbw⟩

theorem ref_find (s : ByteArray) (w : World) (m : Int) (hm : w.cell? ⟨2, 0, none⟩ = some (.int .i64 m)) : Calls Tryd.prog 7 #[.string s] w fun e w' => e = .returned (.int .i64 (findL s)) ∧ Below w.heap.size w w' := by
  unfold findL
  by_cases hl : 40 < s.size
  · rw [if_pos hl]
    have h2 : (40 : Int) < (s.size : Int) := by omega
    go_enter Tryd.func7, Tryd.ntmps7
    go_wp2_with fail
    go_ret
    exact ⟨rfl, Below.refl _ _⟩
  · rw [if_neg hl]
    exact ref_find_name s (trimT s) w (by omega) m hm (Lib.hid fun W => ref_trim s W (by unfold reachBytes; omega))

end Go.Proofs.YtefohnbmifblkaaDoor
