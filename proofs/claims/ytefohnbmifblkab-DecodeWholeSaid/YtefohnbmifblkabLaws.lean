/- Plain laws of the decoder on lists of integers: bytes in two parts; signs that are themselves; what is accepted is what is decoded without Bad. -/
import Derived.Test.YtefohnbmifblkabPlainB
namespace Go.Proofs.Ytefohnbmifblkab

theorem feed_acc (e : Int) : ∀ (l : List Int) (p : St × List Int),
    l.foldl (fun p b => ((stepS e p.1 b).1, p.2 ++ (stepS e p.1 b).2)) p = ((feedS e p.1 l).1, p.2 ++ (feedS e p.1 l).2)
  | [], p => by simp [feedS]
  | b :: l, p => by
    have h1 := feed_acc e l ((stepS e p.1 b).1, p.2 ++ (stepS e p.1 b).2)
    have h2 := feed_acc e l ((stepS e p.1 b).1, [] ++ (stepS e p.1 b).2)
    simp only [feedS, List.foldl_cons] at h1 h2 ⊢
    rw [h1, h2]
    simp

theorem feed_append (e : Int) (s : St) (l m : List Int) : feedS e s (l ++ m) = ((feedS e (feedS e s l).1 m).1, (feedS e s l).2 ++ (feedS e (feedS e s l).1 m).2) := by
  have h := feed_acc e m (feedS e s l)
  unfold feedS at h ⊢
  rw [List.foldl_append, h]

theorem feed_nil (e : Int) (s : St) : feedS e s [] = (s, []) := rfl
theorem feed_cons (e : Int) (s : St) (b : Int) (l : List Int) : feedS e s (b :: l) = ((feedS e (stepS e s b).1 l).1, (stepS e s b).2 ++ (feedS e (stepS e s b).1 l).2) := by
  have h := feed_append e s [b] l
  simpa [feedS] using h

theorem whole_parts (e : Int) (l : List Int) (k : Nat) :
    wholeS e l = ((feedS e {} (l.take k)).2 ++ (feedS e (feedS e {} (l.take k)).1 (l.drop k)).2) ++ endS (feedS e (feedS e {} (l.take k)).1 (l.drop k)).1 := by
  have h := feed_append e {} (l.take k) (l.drop k)
  rw [List.take_append_drop] at h
  unfold wholeS
  rw [h]

/-! ## Signs -/

theorem step_plain {e b : Int} (h1 : 1 ≤ e) (h4 : e ≤ 4) (hb0 : 32 ≤ b) (hb1 : b ≤ 126) : stepS e {} b = ({}, [b]) := by
  have he : e = 1 ∨ e = 2 ∨ e = 3 ∨ e = 4 := by omega
  have hu : oneS e {} b = ({}, [b], false) := by
    rcases he with rfl | rfl | rfl | rfl
    · show utfS {} b = _
      unfold utfS
      rw [if_pos rfl, if_pos (by omega)]
    · show shiftS {} b = _
      unfold shiftS
      dsimp only
      rw [if_neg (by omega), if_pos rfl, if_neg (by omega)]
    · show twinS {} b = _
      unfold twinS
      dsimp only
      rw [if_pos (by omega)]
    · show (({} : St), [latinS b], false) = _
      unfold latinS
      rw [if_neg (by omega), if_neg (by omega)]
  unfold stepS rounds
  rw [hu]
  rfl
theorem whole_plain {e : Int} (h1 : 1 ≤ e) (h4 : e ≤ 4) (l : List Int) (hl : ∀ b ∈ l, 32 ≤ b ∧ b ≤ 126) : wholeS e l = l := by
  have hf : feedS e {} l = ({}, l) := by
    induction l with
    | nil => rfl
    | cons b l ih =>
      have hb := hl b (by simp)
      rw [feed_cons, step_plain h1 h4 hb.1 hb.2, ih fun x hx => hl x (by simp [hx])]
      rfl
  unfold wholeS
  rw [hf]
  simp [endS]

/-! ## One byte as a whole -/

theorem again_once {e b : Int} {s : St} (h1 : 1 ≤ e) (h6 : e ≤ 6) (h : okS e s) (ha : (oneS e s b).2.2 = true) : (oneS e (oneS e s b).1 b).2.2 = false := by
  have he : e = 1 ∨ e = 2 ∨ e = 3 ∨ e = 4 ∨ e = 5 ∨ e = 6 := by omega
  rcases he with rfl | rfl | rfl | rfl | rfl | rfl
  · have z : (utfS {} b).2.2 = false := by
      unfold utfS
      rw [if_pos rfl]
      (repeat' split) <;> rfl
    change (utfS s b).2.2 = true at ha
    change (utfS (utfS s b).1 b).2.2 = false
    rcases goodUtf_cases h.1 with rfl | ⟨n, c, f, t, rfl, hn, hn3, _⟩
    · rw [z] at ha; cases ha
    · have n0 : ¬ n = 0 := by omega
      unfold utfS at ha
      dsimp only at ha
      rw [if_neg n0] at ha
      split at ha
      · rename_i hc
        have e1 : utfS (St.mk n c f t [] 0 0) b = ({}, [-1], true) := by
          unfold utfS
          dsimp only
          rw [if_neg n0, if_pos hc]
        rw [e1]
        exact z
      · split at ha <;> simp at ha
  · change (shiftS s b).2.2 = true at ha
    change (shiftS (shiftS s b).1 b).2.2 = false
    obtain ⟨k, m, rfl, hm, hk⟩ := goodShift_cases h.1
    have zn : ∀ m, (shiftS (St.mk 0 0 0 0 [] 0 m) b).2.2 = false := by
      intro m
      simp only [shiftS]
      (repeat' split) <;> rfl
    have zx : ∀ x m, x ≠ 27 → (shiftS (St.mk 0 0 0 0 [x] 0 m) b).2.2 = false := by
      intro x m hx
      simp only [shiftS]
      rw [if_neg hx]
      (repeat' split) <;> rfl
    rcases hk with rfl | rfl | rfl | rfl | ⟨x, rfl, rfl, hx0, hx1⟩
    · rw [zn] at ha; cases ha
    · simp only [shiftS, if_true] at ha
      split at ha
      · cases ha
      · rename_i hc
        have e1 : shiftS (St.mk 0 0 0 0 [27] 0 m) b = (St.mk 0 0 0 0 [] 0 m, [-1], true) := by
          simp only [shiftS, if_true]
          rw [if_neg hc]
        rw [e1]
        exact zn m
    · simp only [shiftS] at ha
      split at ha
      · cases ha
      · rename_i hc
        split at ha
        · rename_i h0
          have e1 : shiftS (St.mk 0 0 0 0 [27, 40] 0 m) b = (St.mk 0 0 0 0 [] 0 m, [-1, 40], true) := by
            simp only [shiftS]
            rw [if_neg hc, if_pos h0]
          rw [e1]
          exact zn m
        · rename_i h0
          have e1 : shiftS (St.mk 0 0 0 0 [27, 40] 0 m) b = (St.mk 0 0 0 0 [40] 0 m, [-1], true) := by
            simp only [shiftS]
            rw [if_neg hc, if_neg h0]
          rw [e1]
          exact zx 40 m (by omega)
    · simp only [shiftS] at ha
      split at ha
      · cases ha
      · rename_i hc
        split at ha
        · rename_i h0
          have e1 : shiftS (St.mk 0 0 0 0 [27, 36] 0 m) b = (St.mk 0 0 0 0 [] 0 m, [-1, 36], true) := by
            simp only [shiftS]
            rw [if_neg hc, if_pos h0]
          rw [e1]
          exact zn m
        · rename_i h0
          have e1 : shiftS (St.mk 0 0 0 0 [27, 36] 0 m) b = (St.mk 0 0 0 0 [36] 0 m, [-1], true) := by
            simp only [shiftS]
            rw [if_neg hc, if_neg h0]
          rw [e1]
          exact zx 36 m (by omega)
    · rw [zx x 1 (by omega)] at ha; cases ha
  · change (twinS s b).2.2 = true at ha
    change (twinS (twinS s b).1 b).2.2 = false
    have zn : (twinS {} b).2.2 = false := by
      simp only [twinS]
      (repeat' split) <;> rfl
    rcases goodTwin_cases h.1 with rfl | ⟨x, rfl, hx0, hx1⟩
    · rw [zn] at ha; cases ha
    · simp only [twinS] at ha ⊢
      split at ha
      · cases ha
      split at ha
      · cases ha
      · rename_i h2 h3
        rw [if_neg h2, if_neg h3]
        exact zn
  · cases ha
  all_goals
    exfalso
    first
      | change (pairsS s b true).2.2 = true at ha
      | change (pairsS s b false).2.2 = true at ha
    obtain ⟨k, hf, rfl, hk, hh⟩ := goodPairs_cases (by omega) h.1
    rcases hk with rfl | ⟨x, rfl⟩
    · cases ha
    · revert ha
      simp only [pairsS]
      (repeat' split) <;> simp

theorem rounds_acc (e b : Int) : ∀ (k : Nat) (s : St) (all : List Int), rounds e b k s all = ((rounds e b k s []).1, all ++ (rounds e b k s []).2)
  | 0, s, all => by simp [rounds]
  | k + 1, s, all => by
    unfold rounds
    dsimp only
    split
    · rw [rounds_acc e b k _ (all ++ _), rounds_acc e b k _ ([] ++ _)]
      simp
    · simp
theorem step_once {e b : Int} {s : St} (h : (oneS e s b).2.2 = false) : stepS e s b = ((oneS e s b).1, (oneS e s b).2.1) := by
  unfold stepS rounds
  dsimp only
  rw [if_neg (by rw [h]; decide)]
  rfl
theorem step_again {e b : Int} {s : St} (h1 : 1 ≤ e) (h6 : e ≤ 6) (h : okS e s) (ha : (oneS e s b).2.2 = true) :
    stepS e s b = ((stepS e (oneS e s b).1 b).1, (oneS e s b).2.1 ++ (stepS e (oneS e s b).1 b).2) := by
  have h2 := again_once h1 h6 h ha
  rw [step_once h2]
  unfold stepS rounds
  dsimp only
  rw [if_pos ha]
  unfold rounds
  dsimp only
  rw [if_neg (by rw [h2]; decide)]
  rfl

/-! ## What is accepted is decoded without Bad -/

def atS (s : St) (k : List Int) (h m : Int) : Prop := s = St.mk 0 0 0 0 k h m
/-- Which state of the decoder goes with which state of the automaton. -/
def goes (e a : Int) (s : St) : Prop :=
  if e = 1 then (a = 0 ∧ s = {}) ∨ (∃ c f t, s = St.mk 1 c f t [] 0 0 ∧ ((a = 1 ∧ f = 128 ∧ t = 191))) ∨
      (∃ c f t, s = St.mk 2 c f t [] 0 0 ∧ ((a = 2 ∧ f = 128 ∧ t = 191) ∨ (a = 4 ∧ f = 160 ∧ t = 191) ∨ (a = 5 ∧ f = 128 ∧ t = 159))) ∨
      (∃ c f t, s = St.mk 3 c f t [] 0 0 ∧ ((a = 3 ∧ f = 128 ∧ t = 191) ∨ (a = 6 ∧ f = 144 ∧ t = 191) ∨ (a = 7 ∧ f = 128 ∧ t = 143)))
  else if e = 2 then (∃ m, (m = 0 ∨ m = 1) ∧ ((a = m ∧ atS s [] 0 m) ∨ (a = 2 + 3 * m ∧ atS s [27] 0 m) ∨ (a = 3 + 3 * m ∧ atS s [27, 40] 0 m) ∨ (a = 4 + 3 * m ∧ atS s [27, 36] 0 m))) ∨
      (a = 8 ∧ ∃ x, 33 ≤ x ∧ x ≤ 126 ∧ atS s [x] 0 1)
  else if e = 3 then (a = 0 ∧ s = {}) ∨ (a = 1 ∧ ∃ x, 129 ≤ x ∧ x ≤ 159 ∧ atS s [x] 0 0)
  else if e = 4 then a = 0 ∧ s = {}
  else if e = 5 then (∃ h : Int, (h = 0 ∨ 55296 ≤ h) ∧ ((a = (if h = 0 then 0 else 2) ∧ atS s [] h 0) ∨ (a = (if h = 0 then 1 else 3) ∧ ∃ x, 0 ≤ x ∧ x ≤ 255 ∧ atS s [x] h 0)))
  else (a = 0 ∧ s = {}) ∨ (a = 1 ∧ ∃ x, 0 ≤ x ∧ x ≤ 255 ∧ (x < 216 ∨ 223 < x) ∧ atS s [x] 0 0) ∨ (a = 2 ∧ ∃ x, 216 ≤ x ∧ x ≤ 219 ∧ atS s [x] 0 0) ∨
    (∃ h : Int, 55296 ≤ h ∧ ((a = 3 ∧ atS s [] h 0) ∨ (a = 4 ∧ ∃ x, 220 ≤ x ∧ x ≤ 223 ∧ atS s [x] h 0)))
/-- A byte is kept with which something wrong will be told, whatever comes. -/
def doomed (e : Int) (s : St) : Prop := e = 6 ∧ ∃ x h, atS s [x] h 0 ∧ 0 ≤ x ∧ x ≤ 255 ∧ ((h = 0 ∧ 220 ≤ x ∧ x ≤ 223) ∨ (55296 ≤ h ∧ (x < 220 ∨ 223 < x)))

def hit (e a b : Int) (s : St) : Prop := autoF e a b = 9 ∧ (-1 ∈ (oneS e s b).2.1 ∨ ((oneS e s b).2.2 = false ∧ doomed e (oneS e s b).1))
def fit (e a b : Int) (s : St) : Prop := autoF e a b ≠ 9 ∧ (oneS e s b).2.2 = false ∧ -1 ∉ (oneS e s b).2.1 ∧ goes e (autoF e a b) (oneS e s b).1

end Go.Proofs.Ytefohnbmifblkab
