/- How well bytes go together, on lists of integers; the best encoding. Plain. -/
import Derived.Test.YtefohnbmifblkaaPlain
namespace Go.Proofs.Ytefohnbmifblkaa

def classF (b : Int) : Int :=
  if (97 ≤ b ∧ b ≤ 122) ∨ (65 ≤ b ∧ b ≤ 90) then 0
  else if b = 32 ∨ b = 10 ∨ b = 9 ∨ b = 13 then 1
  else if 48 ≤ b ∧ b ≤ 57 then 2
  else if b < 32 ∨ b = 127 then 4
  else if 191 < b then 6
  else if 127 < b then 5 else 3

theorem classF_range (b : Int) : 0 ≤ classF b ∧ classF b ≤ 6 := by
  unfold classF
  (repeat' split) <;> omega

/-- The weight of two bytes of classes x, y. -/
def weighF (e a b x y : Int) : Int :=
  if e = 1 then (if x = 6 ∧ y = 5 then 6 else if x < 4 ∧ y < 4 then 2 else 0)
  else if e = 2 then (if a = 27 ∨ b = 27 then 8 else if x < 4 ∧ y < 4 then 1 else 0)
  else if e = 3 then (if x = 5 ∧ y ≠ 4 then 4 else if x < 4 ∧ y < 4 then 2 else 0)
  else if e = 4 then (if (x = 0 ∧ y = 6) ∨ (x = 6 ∧ y = 0) then 5 else if x < 4 ∧ y < 4 then 2 else -1)
  else if e = 5 then (if y = 4 ∧ x < 4 then 4 else 0)
  else if e = 6 then (if x = 4 ∧ y < 4 then 4 else 0)
  else 0
def weightF (e a b : Int) : Int := weighF e a b (classF a) (classF b)

theorem weightF_range (e a b : Int) : -1 ≤ weightF e a b ∧ weightF e a b ≤ 8 := by
  unfold weightF weighF
  (repeat' split) <;> omega

/-- The sum of an encoding over the first k bytes. -/
def sumN (e : Int) (l : List Int) : Nat → Int
  | 0 => 0
  | k + 1 => sumN e l k + (if k = 0 then 0 else weightF e (l.getD (k - 1) 0) (l.getD k 0))

theorem sumN_range (e : Int) (l : List Int) : ∀ k : Nat, -(k : Int) ≤ sumN e l k ∧ sumN e l k ≤ 8 * (k : Int)
  | 0 => by simp [sumN]
  | k + 1 => by
    have h := sumN_range e l k
    have hw := weightF_range e (l.getD (k - 1) 0) (l.getD k 0)
    unfold sumN
    split <;> omega

/-- The best of the first k encodings. -/
def bestN (ok : Int → Bool) (sum : Int → Int) : Nat → Int
  | 0 => 0
  | k + 1 => if ok ((k : Int) + 1) = true ∧ (bestN ok sum k = 0 ∨ sum (bestN ok sum k) < sum ((k : Int) + 1)) then (k : Int) + 1 else bestN ok sum k

theorem bestN_range (ok : Int → Bool) (sum : Int → Int) : ∀ k : Nat, 0 ≤ bestN ok sum k ∧ bestN ok sum k ≤ k
  | 0 => by simp [bestN]
  | k + 1 => by
    have h := bestN_range ok sum k
    unfold bestN
    split <;> omega
theorem bestN_ok (ok : Int → Bool) (sum : Int → Int) : ∀ k : Nat, bestN ok sum k ≠ 0 → ok (bestN ok sum k) = true
  | 0, h => absurd rfl h
  | k + 1, h => by
    unfold bestN at h ⊢
    split
    · rename_i hc; exact hc.1
    · rename_i hc
      rw [if_neg hc] at h
      exact bestN_ok ok sum k h
theorem bestN_most (ok : Int → Bool) (sum : Int → Int) : ∀ (k : Nat) (e : Int), 1 ≤ e → e ≤ k → ok e = true →
    bestN ok sum k ≠ 0 ∧ sum e ≤ sum (bestN ok sum k) ∧ (e < bestN ok sum k → sum e < sum (bestN ok sum k))
  | 0, e, h1, h2, _ => by omega
  | k + 1, e, h1, h2, h3 => by
    have hr := bestN_range ok sum k
    unfold bestN
    by_cases hc : ok ((k : Int) + 1) = true ∧ (bestN ok sum k = 0 ∨ sum (bestN ok sum k) < sum ((k : Int) + 1))
    · rw [if_pos hc]
      by_cases he : e = (k : Int) + 1
      · subst he
        exact ⟨by omega, Int.le_refl _, fun h => by omega⟩
      · have ih := bestN_most ok sum k e h1 (by omega) h3
        rcases hc.2 with h0 | h0
        · exact absurd h0 ih.1
        · exact ⟨by omega, by omega, fun _ => by omega⟩
    · rw [if_neg hc]
      by_cases he : e = (k : Int) + 1
      · subst he
        have h4 : ¬ (bestN ok sum k = 0 ∨ sum (bestN ok sum k) < sum ((k : Int) + 1)) := fun h => hc ⟨h3, h⟩
        exact ⟨fun h => h4 (Or.inl h), by omega, fun h => by omega⟩
      · exact bestN_most ok sum k e h1 (by omega) h3
theorem bestN_congr {ok ok' : Int → Bool} {sum sum' : Int → Int} : ∀ (k : Nat), (∀ e : Int, 1 ≤ e → e ≤ (k : Int) → ok e = ok' e) → (∀ e, sum e = sum' e) → bestN ok sum k = bestN ok' sum' k
  | 0, _, _ => rfl
  | k + 1, h, h' => by
    unfold bestN
    rw [bestN_congr k (fun e h1 h2 => h e h1 (by omega)) h', h _ (by omega) (by omega)]
    simp only [h']

/-- All scores behind k bytes. -/
def stN (e : Int) (l : List Int) (k : Nat) : Int := autoAll e 0 (l.take k)

/-- The best encoding of bytes. -/
def bestF (l : List Int) : Int := bestN (fun e => endsF e (autoAll e 0 l)) (fun e => sumN e l l.length) 6

/-- The reference's weights are the program's. -/
def classR (b : Int) : Int :=
  if 192 ≤ b then 6 else if 128 ≤ b then 5 else if b = 9 ∨ b = 10 ∨ b = 13 ∨ b = 32 then 1 else if b < 32 ∨ b = 127 then 4
  else if 48 ≤ b ∧ b ≤ 57 then 2 else if (65 ≤ b ∧ b ≤ 90) ∨ (97 ≤ b ∧ b ≤ 122) then 0 else 3
theorem classR_eq (b : Int) : classR b = classF b := by
  unfold classR classF
  (repeat' split) <;> omega

end Go.Proofs.Ytefohnbmifblkaa
