/- The reference's pieces: what stands in front of bytes that are all there, on lists of integers; piece by piece the decoder's answer comes out. Plain. -/
import Derived.Test.YtefohnbmifblkabBack
namespace Go.Proofs.Ytefohnbmifblkab

def getF (l : List Int) (i : Nat) : Int := (l[i]?).getD (-1)

/-- What follows the first byte of Utf: k bytes more, from place i on. -/
def contF (l : List Int) : Nat → Nat → Int → Int → Int → List Int × Nat × Int
  | 0, i, code, _, _ => ([code], i, 0)
  | k + 1, i, code, lo, hi => if lo ≤ getF l i ∧ getF l i ≤ hi then contF l k (i + 1) (64 * code + getF l i - 128) 128 191 else ([-1], i, 0)

def pieceUtf (l : List Int) (b : Int) : List Int × Nat × Int :=
  if b < 128 then ([b], 1, 0)
  else if b < 194 then ([-1], 1, 0)
  else if b ≤ 223 then contF l 1 1 (b % 32) 128 191
  else if b ≤ 239 then contF l 2 1 (b % 16) (if b = 224 then 160 else 128) (if b = 237 then 159 else 191)
  else if b ≤ 244 then contF l 3 1 (b % 8) (if b = 240 then 144 else 128) (if b = 244 then 143 else 191)
  else ([-1], 1, 0)

def pieceTwin (l : List Int) (b : Int) : List Int × Nat × Int :=
  if b < 128 then ([b], 1, 0)
  else if 161 ≤ b ∧ b ≤ 223 then ([65377 + b - 161], 1, 0)
  else if ¬ (129 ≤ b ∧ b ≤ 159) then ([-1], 1, 0)
  else if 64 ≤ getF l 1 ∧ getF l 1 ≤ 126 then ([19968 + 188 * (b - 129) + getF l 1 - 64], 2, 0)
  else if 128 ≤ getF l 1 ∧ getF l 1 ≤ 252 then ([19968 + 188 * (b - 129) + getF l 1 - 65], 2, 0)
  else if 128 ≤ getF l 1 then ([-1], 2, 0)
  else ([-1], 1, 0)

def unitF (low : Bool) (l : List Int) (i : Nat) : Int :=
  if getF l i < 0 ∨ getF l (i + 1) < 0 then -1 else if low then 256 * getF l (i + 1) + getF l i else 256 * getF l i + getF l (i + 1)

def piecePairs (low : Bool) (l : List Int) : List Int × Nat × Int :=
  if unitF low l 0 < 0 then ([-1], 1, 0)
  else if 56320 ≤ unitF low l 0 ∧ unitF low l 0 ≤ 57343 then ([-1], 2, 0)
  else if ¬ (55296 ≤ unitF low l 0 ∧ unitF low l 0 ≤ 56319) then ([unitF low l 0], 2, 0)
  else if 56320 ≤ unitF low l 2 ∧ unitF low l 2 ≤ 57343 then ([65536 + 1024 * (unitF low l 0 - 55296) + unitF low l 2 - 56320], 4, 0)
  else if unitF low l 2 < 0 then ([-1], l.length, 0)
  else ([-1], 2, 0)

def pieceShift (l : List Int) (b mode : Int) : List Int × Nat × Int :=
  if b = 27 ∧ getF l 1 = 40 ∧ getF l 2 = 66 then ([], 3, 0)
  else if b = 27 ∧ getF l 1 = 36 ∧ getF l 2 = 66 then ([], 3, 1)
  else if b = 27 then ([-1], 1, mode)
  else if mode = 0 ∧ (127 < b ∨ b = 14 ∨ b = 15) then ([-1], 1, 0)
  else if mode = 0 then ([b], 1, 0)
  else if b = 10 then ([10], 1, 0)
  else if ¬ (33 ≤ b ∧ b ≤ 126) then ([-1], 1, 1)
  else if 33 ≤ getF l 1 ∧ getF l 1 ≤ 126 then ([12288 + 94 * (b - 33) + getF l 1 - 33], 2, 1)
  else if getF l 1 = 27 ∨ getF l 1 < 0 then ([-1], 1, 1)
  else ([-1], 2, 1)

def pieceF (e : Int) (l : List Int) (mode : Int) : List Int × Nat × Int :=
  if e = 1 then pieceUtf l (getF l 0) else if e = 3 then pieceTwin l (getF l 0) else if e = 4 then ([latinS (getF l 0)], 1, 0)
  else if e = 5 ∨ e = 6 then piecePairs (decide (e = 5)) l else pieceShift l (getF l 0) mode

def modeOk (e m : Int) : Prop := m = 0 ∨ (e = 2 ∧ m = 1)
abbrev mst (m : Int) : St := St.mk 0 0 0 0 [] 0 m
def bytesL (l : List Int) : Prop := ∀ b ∈ l, 0 ≤ b ∧ b ≤ 255

/-- A piece is what it should be: it takes bytes, and what it tells stands in front of what the rest tells. -/
def pieceOk (e : Int) (l : List Int) (mode : Int) (r : List Int × Nat × Int) : Prop :=
  1 ≤ r.2.1 ∧ r.2.1 ≤ l.length ∧ modeOk e r.2.2 ∧ r.1.length ≤ 1 ∧ fromS e (mst mode) l = r.1 ++ fromS e (mst r.2.2) (l.drop r.2.1)

theorem getF_drop {l : List Int} {i : Nat} (h : i < l.length) : l.drop i = getF l i :: l.drop (i + 1) := by
  rw [List.drop_eq_getElem_cons h]
  simp [getF, h]
theorem getF_in {l : List Int} {i : Nat} (h : i < l.length) (hb : bytesL l) : 0 ≤ getF l i ∧ getF l i ≤ 255 := by
  have : getF l i = l[i] := by simp [getF, h]
  rw [this]
  exact hb _ (List.getElem_mem h)
theorem getF_out {l : List Int} {i : Nat} (h : l.length ≤ i) : getF l i = -1 := by
  simp [getF, h]

theorem mode0 (e : Int) : modeOk e 0 := Or.inl rfl

theorem putf_stop {n c f t b : Int} (hn : 1 ≤ n) (h : b < f ∨ t < b) : oneS 1 (St.mk n c f t [] 0 0) b = ({}, [-1], true) := by
  rw [one_1]
  unfold utfS
  dsimp only
  rw [if_neg (by omega), if_pos h]

theorem cont_ok {l : List Int} (hb : bytesL l) : ∀ (k i : Nat) (c lo hi : Int), 1 ≤ i → i ≤ l.length → 128 ≤ lo → hi ≤ 191 → okS 1 (St.mk (k + 1) c lo hi [] 0 0) →
    1 ≤ (contF l (k + 1) i c lo hi).2.1 ∧ (contF l (k + 1) i c lo hi).2.1 ≤ l.length ∧ (contF l (k + 1) i c lo hi).2.2 = 0 ∧ (contF l (k + 1) i c lo hi).1.length ≤ 1 ∧
      fromS 1 (St.mk (k + 1) c lo hi [] 0 0) (l.drop i) = (contF l (k + 1) i c lo hi).1 ++ fromS 1 {} (l.drop (contF l (k + 1) i c lo hi).2.1) := by
  intro k
  induction k with
  | zero =>
    intro i c lo hi h1 hl hlo hhi hok
    unfold contF
    by_cases hi' : i < l.length
    · have hg := getF_in hi' hb
      rw [getF_drop hi']
      by_cases hc : lo ≤ getF l i ∧ getF l i ≤ hi
      · rw [if_pos hc]
        unfold contF
        dsimp only
        refine ⟨by omega, by omega, rfl, by simp, ?_⟩
        rw [show (((0 : Nat) : Int) + 1) = 1 from rfl, from_once _ (putf_last hc.1 hc.2)]
        congr 2
        omega
      · rw [if_neg hc]
        refine ⟨h1, hl, rfl, by simp, ?_⟩
        rw [from_again _ (by omega) (by omega) hok (putf_stop (by omega) (by omega))]
        dsimp only
        rw [getF_drop hi']
    · have he : i = l.length := by omega
      have hg := getF_out (l := l) (i := i) (by omega)
      rw [if_neg (by omega)]
      refine ⟨h1, hl, rfl, by simp, ?_⟩
      dsimp only
      rw [List.drop_of_length_le (by omega)]
      rfl
  | succ k ih =>
    intro i c lo hi h1 hl hlo hhi hok
    unfold contF
    by_cases hi' : i < l.length
    · have hg := getF_in hi' hb
      by_cases hc : lo ≤ getF l i ∧ getF l i ≤ hi
      · rw [if_pos hc]
        have e1 : oneS 1 (St.mk ((k + 1 : Nat) + 1) c lo hi [] 0 0) (getF l i) = (St.mk ((k : Int) + 1) (64 * c + getF l i - 128) 128 191 [] 0 0, [], false) := by
          rw [putf_tail (by omega) hc.1 hc.2]
          congr 2 <;> omega
        have hok2 := one_ok (e := 1) (by omega) (by omega) hg.1 hg.2 hok
        rw [e1] at hok2
        have := ih (i + 1) (64 * c + getF l i - 128) 128 191 (by omega) (by omega) (by omega) (by omega) hok2
        refine ⟨this.1, this.2.1, this.2.2.1, this.2.2.2.1, ?_⟩
        rw [getF_drop hi', from_once _ e1]
        exact this.2.2.2.2
      · rw [if_neg hc]
        refine ⟨h1, hl, rfl, by simp, ?_⟩
        dsimp only
        rw [getF_drop hi', from_again _ (by omega) (by omega) hok (putf_stop (by omega) (by omega))]
    · have he : i = l.length := by omega
      have hg := getF_out (l := l) (i := i) (by omega)
      rw [if_neg (by omega)]
      refine ⟨h1, hl, rfl, by simp, ?_⟩
      dsimp only
      rw [List.drop_of_length_le (by omega), from_nil]
      unfold endS
      dsimp only
      rw [if_pos (by omega)]
      rfl

theorem piece_utf {l : List Int} {m : Int} (hm : modeOk 1 m) (hb : bytesL l) (h0 : 0 < l.length) : pieceOk 1 l m (pieceUtf l (getF l 0)) := by
  have hm0 : m = 0 := by unfold modeOk at hm; omega
  subst hm0
  have hg := getF_in h0 hb
  have hd := getF_drop h0
  rw [List.drop_zero] at hd
  unfold pieceUtf
  generalize hB : getF l 0 = b at *
  have key : ∀ (k : Nat) (c lo hi : Int), 128 ≤ lo → hi ≤ 191 → oneS 1 {} b = (St.mk (k + 1) c lo hi [] 0 0, [], false) → pieceOk 1 l 0 (contF l (k + 1) 1 c lo hi) := by
    intro k c lo hi hlo hhi e1
    have hok := one_ok (e := 1) (by omega) (by omega) hg.1 hg.2 (ok_init 1 (by omega) (by omega))
    rw [e1] at hok
    have := cont_ok hb k 1 c lo hi (by omega) (by omega) hlo hhi hok
    unfold pieceOk
    refine ⟨this.1, this.2.1, by rw [this.2.2.1]; exact mode0 1, this.2.2.2.1, ?_⟩
    rw [this.2.2.1]
    show fromS 1 {} l = _ ++ fromS 1 {} _
    rw [← this.2.2.2.2]
    conv => lhs; rw [hd]
    rw [from_once _ e1]
    rfl
  have single : ∀ o : Int, oneS 1 {} b = ({}, [o], false) → pieceOk 1 l 0 ([o], 1, 0) := by
    intro o e1
    unfold pieceOk
    dsimp only
    refine ⟨by omega, by omega, mode0 1, by simp, ?_⟩
    show fromS 1 {} l = _ ++ fromS 1 {} _
    conv => lhs; rw [hd]
    rw [from_once _ e1]
  by_cases c1 : b < 128
  · rw [if_pos c1]
    exact single _ (putf_one c1)
  rw [if_neg c1]
  by_cases c2 : b < 194
  · rw [if_pos c2]
    refine single _ ?_
    rw [one_1]
    unfold utfS
    rw [if_pos rfl, if_neg c1, if_pos c2]
  rw [if_neg c2]
  by_cases c3 : b ≤ 223
  · rw [if_pos c3]
    exact key 0 _ _ _ (by omega) (by omega) (putf_two (by omega) c3)
  rw [if_neg c3]
  by_cases c4 : b ≤ 239
  · rw [if_pos c4]
    exact key 1 _ _ _ (by split <;> omega) (by split <;> omega) (putf_three (by omega) c4)
  rw [if_neg c4]
  by_cases c5 : b ≤ 244
  · rw [if_pos c5]
    exact key 2 _ _ _ (by split <;> omega) (by split <;> omega) (putf_four (by omega) c5)
  · rw [if_neg c5]
    refine single _ ?_
    rw [one_1]
    unfold utfS
    rw [if_pos rfl, if_neg c1, if_neg c2, if_neg c3, if_neg c4, if_neg c5]

end Go.Proofs.Ytefohnbmifblkab
