/- What a state tells of the rest of the bytes; each scalar's bytes in Utf and in both forms of pairs tell it. Plain. -/
import Derived.Test.YtefohnbmifblkabLaws
namespace Go.Proofs.Ytefohnbmifblkab

/-- What is told of the bytes from a state on, the end too. -/
def fromS (e : Int) (s : St) (l : List Int) : List Int := (feedS e s l).2 ++ endS (feedS e s l).1
theorem whole_from (e : Int) (l : List Int) : wholeS e l = fromS e {} l := rfl
theorem from_nil (e : Int) (s : St) : fromS e s [] = endS s := rfl
theorem from_step (e : Int) (s : St) (b : Int) (l : List Int) : fromS e s (b :: l) = (stepS e s b).2 ++ fromS e (stepS e s b).1 l := by
  unfold fromS
  rw [feed_cons, List.append_assoc]
/-- One round, and the byte is taken. -/
theorem from_once {e b : Int} {s t : St} {o : List Int} (l : List Int) (h : oneS e s b = (t, o, false)) : fromS e s (b :: l) = o ++ fromS e t l := by
  rw [from_step, step_once (by rw [h]), h]
/-- One round, and the byte is taken once more. -/
theorem from_again {e b : Int} {s t : St} {o : List Int} (l : List Int) (h1 : 1 ≤ e) (h6 : e ≤ 6) (hok : okS e s) (h : oneS e s b = (t, o, true)) : fromS e s (b :: l) = o ++ fromS e t (b :: l) := by
  rw [from_step, from_step, step_again h1 h6 hok (by rw [h]), h, List.append_assoc]

theorem one_1 (s : St) (b : Int) : oneS 1 s b = utfS s b := rfl
theorem one_2 (s : St) (b : Int) : oneS 2 s b = shiftS s b := rfl
theorem one_3 (s : St) (b : Int) : oneS 3 s b = twinS s b := rfl
theorem one_4 (s : St) (b : Int) : oneS 4 s b = (s, [latinS b], false) := rfl
theorem one_5 (s : St) (b : Int) : oneS 5 s b = pairsS s b true := rfl
theorem one_6 (s : St) (b : Int) : oneS 6 s b = pairsS s b false := rfl

theorem putf_tail {n c f t b : Int} (hn : 2 ≤ n) (h0 : f ≤ b) (h1 : b ≤ t) : oneS 1 (St.mk n c f t [] 0 0) b = (St.mk (n - 1) (c * 64 + b % 64) 128 191 [] 0 0, [], false) := by
  rw [one_1]
  unfold utfS
  dsimp only
  rw [if_neg (by omega), if_neg (by omega), if_neg (by omega)]
theorem putf_last {c f t b : Int} (h0 : f ≤ b) (h1 : b ≤ t) : oneS 1 (St.mk 1 c f t [] 0 0) b = ({}, [c * 64 + b % 64], false) := by
  rw [one_1]
  unfold utfS
  dsimp only
  rw [if_neg (by omega), if_neg (by omega), if_pos rfl]
theorem putf_one {b : Int} (h : b < 128) : oneS 1 {} b = ({}, [b], false) := by
  rw [one_1]
  unfold utfS
  rw [if_pos rfl, if_pos h]
theorem putf_two {b : Int} (h0 : 194 ≤ b) (h1 : b ≤ 223) : oneS 1 {} b = (St.mk 1 (b % 32) 128 191 [] 0 0, [], false) := by
  rw [one_1]
  unfold utfS
  rw [if_pos rfl, if_neg (by omega), if_neg (by omega), if_pos h1]
theorem putf_three {b : Int} (h0 : 224 ≤ b) (h1 : b ≤ 239) : oneS 1 {} b = (St.mk 2 (b % 16) (if b = 224 then 160 else 128) (if b = 237 then 159 else 191) [] 0 0, [], false) := by
  rw [one_1]
  unfold utfS
  rw [if_pos rfl, if_neg (by omega), if_neg (by omega), if_neg (by omega), if_pos h1]
theorem putf_four {b : Int} (h0 : 240 ≤ b) (h1 : b ≤ 244) : oneS 1 {} b = (St.mk 3 (b % 8) (if b = 240 then 144 else 128) (if b = 244 then 143 else 191) [] 0 0, [], false) := by
  rw [one_1]
  unfold utfS
  rw [if_pos rfl, if_neg (by omega), if_neg (by omega), if_neg (by omega), if_neg (by omega), if_pos h1]

def utfBytes (n : Int) : List Int :=
  if n < 128 then [n] else if n < 2048 then [192 + n / 64, 128 + n % 64] else if n < 65536 then [224 + n / 4096, 128 + n / 64 % 64, 128 + n % 64]
  else [240 + n / 262144, 128 + n / 4096 % 64, 128 + n / 64 % 64, 128 + n % 64]
theorem end_init : endS {} = [] := rfl
theorem back_utf {n : Int} (h0 : 0 ≤ n) (h1 : n ≤ 1114111) (h2 : n < 55296 ∨ 57343 < n) : wholeS 1 (utfBytes n) = [n] := by
  rw [whole_from]
  unfold utfBytes
  split
  · rw [from_once _ (putf_one (by omega)), from_nil]
    rfl
  split
  · rw [from_once _ (putf_two (by omega) (by omega)), from_once _ (putf_last (by omega) (by omega)), from_nil, end_init]
    simp only [List.nil_append, List.append_nil, List.cons.injEq, and_true]
    omega
  split
  · rw [from_once _ (putf_three (by omega) (by omega)), from_once _ (putf_tail (by omega) (by split <;> omega) (by split <;> omega)), show (2 : Int) - 1 = 1 from rfl, from_once _ (putf_last (by omega) (by omega)), from_nil, end_init]
    simp only [List.nil_append, List.append_nil, List.cons.injEq, and_true]
    omega
  · rw [from_once _ (putf_four (by omega) (by omega)), from_once _ (putf_tail (by omega) (by split <;> omega) (by split <;> omega)), show (3 : Int) - 1 = 2 from rfl, from_once _ (putf_tail (by omega) (by omega) (by omega)),
      show (2 : Int) - 1 = 1 from rfl, from_once _ (putf_last (by omega) (by omega)), from_nil, end_init]
    simp only [List.nil_append, List.append_nil, List.cons.injEq, and_true]
    omega

/-- One unit of pairs. -/
def unitBytes (low : Bool) (u : Int) : List Int := if low then [u % 256, u / 256] else [u / 256, u % 256]
def pairE (low : Bool) : Int := if low then 5 else 6
theorem unit_from (low : Bool) {u h : Int} (l : List Int) (r : St × List Int × Bool)
    (hr : (if h ≠ 0 ∧ 56320 ≤ u ∧ u ≤ 57343 then (({} : St), [65536 + (h - 55296) * 1024 + u - 56320], false)
      else if 55296 ≤ u ∧ u ≤ 56319 then ({ half := u }, if h ≠ 0 then [-1] else [], false)
      else if 56320 ≤ u ∧ u ≤ 57343 then ({}, (if h ≠ 0 then [-1] else []) ++ [-1], false)
      else ({}, (if h ≠ 0 then [-1] else []) ++ [u], false)) = r) : fromS (pairE low) (St.mk 0 0 0 0 [] h 0) (unitBytes low u ++ l) = r.2.1 ++ fromS (pairE low) r.1 l := by
  have h2 : u / 256 * 256 + u % 256 = u := by omega
  cases low
  · show fromS 6 _ (u / 256 :: u % 256 :: l) = r.2.1 ++ fromS 6 r.1 l
    have e1 : oneS 6 (St.mk 0 0 0 0 [] h 0) (u / 256) = (St.mk 0 0 0 0 [u / 256] h 0, [], false) := rfl
    have e2 : oneS 6 (St.mk 0 0 0 0 [u / 256] h 0) (u % 256) = r := by
      rw [← hr]
      rw [one_6]
      simp only [pairsS, Bool.false_eq_true, if_false, h2]
    have e3 : (oneS 6 (St.mk 0 0 0 0 [u / 256] h 0) (u % 256)).2.2 = false := by
      rw [e2, ← hr]
      (repeat' split) <;> rfl
    rw [from_once _ e1, from_step, step_once e3, e2]
    rfl
  · show fromS 5 _ (u % 256 :: u / 256 :: l) = r.2.1 ++ fromS 5 r.1 l
    have e1 : oneS 5 (St.mk 0 0 0 0 [] h 0) (u % 256) = (St.mk 0 0 0 0 [u % 256] h 0, [], false) := rfl
    have e2 : oneS 5 (St.mk 0 0 0 0 [u % 256] h 0) (u / 256) = r := by
      rw [← hr]
      rw [one_5]
      simp only [pairsS, if_true, h2]
    have e3 : (oneS 5 (St.mk 0 0 0 0 [u % 256] h 0) (u / 256)).2.2 = false := by
      rw [e2, ← hr]
      (repeat' split) <;> rfl
    rw [from_once _ e1, from_step, step_once e3, e2]
    rfl

theorem back_unit (low : Bool) {n : Int} (h2 : n < 55296 ∨ 57343 < n) : wholeS (pairE low) (unitBytes low n) = [n] := by
  have h := unit_from low (u := n) (h := 0) [] ({}, [n], false) (by rw [if_neg (by omega), if_neg (by omega), if_neg (by omega)]; rfl)
  rw [List.append_nil] at h
  rw [whole_from]
  exact h
theorem back_pair (low : Bool) {n : Int} (h0 : 65536 ≤ n) (h1 : n ≤ 1114111) :
    wholeS (pairE low) (unitBytes low (55296 + (n - 65536) / 1024) ++ unitBytes low (56320 + (n - 65536) % 1024)) = [n] := by
  rw [whole_from]
  have ha := unit_from low (u := 55296 + (n - 65536) / 1024) (h := 0) (unitBytes low (56320 + (n - 65536) % 1024)) ({ half := 55296 + (n - 65536) / 1024 }, [], false)
    (by rw [if_neg (by omega), if_pos (by omega)]; rfl)
  have hb := unit_from low (u := 56320 + (n - 65536) % 1024) (h := 55296 + (n - 65536) / 1024) [] ({}, [n], false)
    (by rw [if_pos (by omega)]; congr 3; omega)
  rw [List.append_nil] at hb
  have h : fromS (pairE low) {} _ = _ := ha
  rw [h]
  dsimp only
  rw [hb]
  rfl

end Go.Proofs.Ytefohnbmifblkab
