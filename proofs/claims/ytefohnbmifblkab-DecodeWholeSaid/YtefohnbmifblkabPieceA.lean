/- What the walks through the reference's function piece share. -/
import Derived.Test.YtefohnbmifblkabClo
import Derived.Test.YtefohnbmifblkabMem
namespace Go.Proofs.Ytefohnbmifblkab
open Go.RowKit
set_option linter.unusedVariables false

/-- The end of a piece: what it tells, how many bytes it takes, the way of reading then. -/
def PostP (r : List Int × Nat × Int) (w : World) (e : Ending) (w' : World) : Prop :=
  ∃ v, e = .returned (.tuple #[v, .int .i64 (r.2.1 : Int), .int .i64 r.2.2]) ∧ Ints w' w.heap.size v r.1 ∧ Below w.heap.size w w'

theorem latin_in (u : UInt8) : 0 ≤ Lib.indexByte (⟨#[129, 141, 143, 144, 157]⟩ : ByteArray).data.toList u ↔ ((u.toNat : Int) = 129 ∨ (u.toNat : Int) = 141 ∨ (u.toNat : Int) = 143 ∨ (u.toNat : Int) = 144 ∨ (u.toNat : Int) = 157) := by
  have h : ∀ i : Fin 256, 0 ≤ Lib.indexByte (⟨#[129, 141, 143, 144, 157]⟩ : ByteArray).data.toList (UInt8.ofNat i.val) ↔
      (((UInt8.ofNat i.val).toNat : Int) = 129 ∨ ((UInt8.ofNat i.val).toNat : Int) = 141 ∨ ((UInt8.ofNat i.val).toNat : Int) = 143 ∨ ((UInt8.ofNat i.val).toNat : Int) = 144 ∨ ((UInt8.ofNat i.val).toNat : Int) = 157) := by decide +kernel
  have := h ⟨u.toNat, u.toNat_lt⟩
  simpa using this
theorem toUInt8_byte (u : UInt8) : (u.toNat : Int).toNat.toUInt8 = u := by simp

theorem hmf : ∀ (fn : Fn) (first cap : Array Value) (w : World), (Instr.makeFunc fn first cap).run Try.prog w = .ok (.func fn first cap) w := fun _ _ _ _ => rfl
theorem hstf : ∀ (a : Addr) (f : Fn) (x y : Array Value) (m : Mode) (w : World), (store a (.func f x y) m).run Try.prog w = stored Try.prog w a (.func f x y) m := fun _ _ _ _ _ _ => run_store Try.prog _ _ _ _ rfl

theorem ref_in_t (x lo hi : Int) (w : World) (h : lo ≤ x ∧ x ≤ hi) : Calls Try.prog 14 #[.int .i64 x, .int .i64 lo, .int .i64 hi] w fun e w' => e = .returned (.bool true) ∧ w = w' := by
  have := ref_in x lo hi w
  rwa [decide_eq_true h] at this
theorem ref_in_f (x lo hi : Int) (w : World) (h : ¬ (lo ≤ x ∧ x ≤ hi)) : Calls Try.prog 14 #[.int .i64 x, .int .i64 lo, .int .i64 hi] w fun e w' => e = .returned (.bool false) ∧ w = w' := by
  have := ref_in x lo hi w
  rwa [decide_eq_false h] at this

/-- The prefix of three bytes. -/
theorem prefix3 (s : ByteArray) (a b c : UInt8) : Lib.hasPrefix s.data.toList [a, b, c] = decide (getF (nums s) 0 = (a.toNat : Int) ∧ getF (nums s) 1 = (b.toNat : Int) ∧ getF (nums s) 2 = (c.toNat : Int)) := by
  have hu : ∀ x y : UInt8, (x == y) = decide ((y.toNat : Int) = (x.toNat : Int)) := by
    intro x y
    rw [Bool.eq_iff_iff, beq_iff_eq, decide_eq_true_eq]
    constructor
    · rintro rfl; rfl
    · intro h
      exact (UInt8.toNat_inj.1 (by omega)).symm
  have hn : ∀ x : UInt8, ¬ (-1 : Int) = (x.toNat : Int) := by intro x; omega
  unfold getF nums
  match s.data.toList with
  | [] => simp [Lib.hasPrefix, hn]
  | [x] => simp [Lib.hasPrefix, List.isPrefixOf, hn]
  | [x, y] => simp [Lib.hasPrefix, List.isPrefixOf, hn]
  | x :: y :: z :: l => simp [Lib.hasPrefix, List.isPrefixOf, hu]

end Go.Proofs.Ytefohnbmifblkab
