/- What the walks through package decode share: a state as a value, a list of integers that a call made, the shape of a step's end. -/
import Derived.Test.YtefohnbmifblkabAutoB
import Derived.Laws.BitsLemmas
import Derived.Laws.BytesArg
import Derived.Laws.AppendOwnNone
namespace Go.Proofs.Ytefohnbmifblkab
open Go.RowKit

def St.val (s : St) : Value :=
  .agg #[.int .i64 s.need, .int .i64 s.code, .int .i64 s.frm, .int .i64 s.upto, .string (strOfNums s.kept), .int .i64 s.half, .int .i64 s.mode]

/-- A slice of integers that is nil or lies in a block of its own from base on. -/
def Ints (w : World) (base : Nat) (v : Value) (xs : List Int) : Prop := w.ownsRow base 3 1 v xs.length (xs.map (Value.int .i64))

theorem ints_nil (w : World) (base : Nat) : Ints w base (.slice none 0 0) [] := World.ownsRow_nil w base _ _

theorem heap_new (W : World) (o : Obj) (k : Nat) (h : k = W.heap.size) : (W.alloc o).heap[k]? = some o := by
  subst h; show (W.heap.push o)[W.heap.size]? = _; simp
theorem heap_old (W : World) (o : Obj) (k : Nat) (h : k < W.heap.size) : (W.alloc o).heap[k]? = W.heap[k]? := by
  show (W.heap.push o)[k]? = _
  rw [Array.getElem?_push, if_neg (by omega)]
theorem heap_drew (W : World) (k : Nat) : W.drew.heap[k]? = W.heap[k]? := rfl

theorem heap_last (W : World) (o : Obj) (k : Nat) (h : k = W.heap.size) : (W.alloc o).drew.heap[k]? = some o := heap_new W o k h

/-- A block that is written out holds a list of integers. -/
theorem ints_block (W : World) (base k cap : Nat) (xs : List Int) (cur : Array Value) (hk : W.heap[k]? = some (.cells cur 3 (0, 0))) (hb : base ≤ k)
    (hn : xs.length ≤ cap) (hm : cap ≤ maxLen) (hs : cur.size = cap) (ht : cur.toList.take xs.length = xs.map (Value.int .i64)) :
    Ints W base (.slice (some ⟨k, 0, none⟩) xs.length cap) xs :=
  ⟨by simp, .inr ⟨k, cap, cur, rfl, hb, hk, hn, hm, by simpa using hs, by simpa using ht⟩⟩

theorem ints_lit1 (W : World) (base k : Nat) (x : Int) (hk : W.heap[k]? = some (.cells #[.int .i64 x] 3 (0, 0))) (hb : base ≤ k) :
    Ints W base (.slice (some ⟨k, 0, none⟩) 1 1) [x] :=
  ints_block W base k 1 [x] _ hk hb (by simp) (by decide) rfl rfl
theorem ints_lit2 (W : World) (base k : Nat) (x y : Int) (hk : W.heap[k]? = some (.cells #[.int .i64 x, .int .i64 y] 3 (0, 0))) (hb : base ≤ k) :
    Ints W base (.slice (some ⟨k, 0, none⟩) 2 2) [x, y] :=
  ints_block W base k 2 [x, y] _ hk hb (by simp) (by decide) rfl rfl

/-- What an append that grows has laid. -/
theorem ints_grown (W : World) (base k : Nat) (xs : List Int) (need old t : Nat) (C : Array Value)
    (hk : W.heap[k]? = some (.cells (C ++ Builtin.zeroCells #[.int .i64 0] ((Question.appendCap need old 3).cut t - need)) 3 (0, 0))) (hb : base ≤ k)
    (hn : xs.length = need) (h8 : need ≤ 8) (hC : C.toList = xs.map (Value.int .i64)) :
    Ints W base (.slice (some ⟨k, 0, none⟩) need ((Question.appendCap need old 3).cut t)) xs := by
  subst hn
  have hCs : C.size = xs.length := by rw [← Array.length_toList, hC]; simp
  have hc : (Question.appendCap xs.length old 3).cut t = xs.length + t % (2 ^ 63 - xs.length) := rfl
  have hlt := Nat.mod_lt t (show 0 < 2 ^ 63 - xs.length by omega)
  refine ints_block W base k _ xs _ hk hb (by rw [hc]; omega) (by rw [hc]; unfold maxLen; omega) ?_ ?_
  · simp [Builtin.zeroCells, hCs]; rw [hc]; omega
  · simp only [Array.toList_append]
    rw [List.take_append_of_le_length (by rw [hC]; simp), hC]
    exact List.take_of_length_le (by simp)

theorem below_alloc {w W : World} (h : Below w.heap.size w W) (o : Obj) : Below w.heap.size w (W.alloc o) := h.alloc h.size o

/-- The end of one round of a decoder: the new state, what it tells, whether the byte is to be taken once more. -/
def Post3 (r : St × List Int × Bool) (w : World) (e : Ending) (w' : World) : Prop :=
  ∃ v, e = .returned (.tuple #[r.1.val, v, .bool r.2.2]) ∧ Ints w' w.heap.size v r.2.1 ∧ Below w.heap.size w w'

theorem wraps_i64 (n : Int) (h₀ : 0 ≤ n) (h₁ : n < 2 ^ 63) : IntKind.i64.wrap n = n := by rw [IntKind.wrap_i64]; omega
theorem i64_or8 (x y : Int) (hx : 0 ≤ x) (hx1 : x ≤ 255) (hy : 0 ≤ y) (hy1 : y ≤ 255) : bits .or .i64 (x * 256) y = x * 256 + y :=
  bits_join .i64 63 (by decide) wraps_i64 8 _ _ (by omega) (by omega) (by omega) hy (by omega) (by omega)
theorem i64_or6 (x y : Int) (hx : 0 ≤ x) (hx1 : x ≤ 65535) (hy : 0 ≤ y) (hy1 : y ≤ 63) : bits .or .i64 (x * 64) y = x * 64 + y :=
  bits_join .i64 63 (by decide) wraps_i64 6 _ _ (by omega) (by omega) (by omega) hy (by omega) (by omega)
theorem i64_and63 (x : Int) (hx : 0 ≤ x) (hx1 : x ≤ 255) : bits .and .i64 x 63 = x % 64 := bits_mask .i64 63 (by decide) wraps_i64 6 (by decide) x hx (by omega)
theorem i64_and31 (x : Int) (hx : 0 ≤ x) (hx1 : x ≤ 255) : bits .and .i64 x 31 = x % 32 := bits_mask .i64 63 (by decide) wraps_i64 5 (by decide) x hx (by omega)
theorem i64_and15 (x : Int) (hx : 0 ≤ x) (hx1 : x ≤ 255) : bits .and .i64 x 15 = x % 16 := bits_mask .i64 63 (by decide) wraps_i64 4 (by decide) x hx (by omega)
theorem i64_and7 (x : Int) (hx : 0 ≤ x) (hx1 : x ≤ 255) : bits .and .i64 x 7 = x % 8 := bits_mask .i64 63 (by decide) wraps_i64 3 (by decide) x hx (by omega)

/-- A byte as an integer comes from a byte. -/
theorem byte_of (x : Int) (h0 : 0 ≤ x) (h1 : x ≤ 255) : ∃ u : UInt8, x = (u.toNat : Int) :=
  ⟨UInt8.ofNat x.toNat, by simp [UInt8.toNat_ofNat']; omega⟩
theorem byte_le (u : UInt8) : (u.toNat : Int) ≤ 255 := by have := u.toNat_lt; omega
theorem str1 (u : UInt8) : strOfNums [(u.toNat : Int)] = ⟨#[u]⟩ := by simp [strOfNums]
theorem idx1 (u : UInt8) (h : 0 < (⟨#[u]⟩ : ByteArray).size) : (⟨#[u]⟩ : ByteArray)[0]'h = u := rfl

theorem run_conv1 (W : World) (s : Nat) (x : Int) (hs : W.heap.size = s) :
    (convert 46 9 (.slice (some ⟨s, 0, none⟩) 1 1)).run Try.prog (W.alloc (.cells #[.int .u8 x] 5)) = .ok (.string (strOfNums [x])) (W.alloc (.cells #[.int .u8 x] 5)) := by
  subst hs
  refine run_convert_bytes_arg (W.alloc (.cells #[.int .u8 x] 5)) 46 5 Try.underlying46 Try.underlying5 W.heap.size 0 1 1 [x] rfl ?_ 9 Try.underlying9
  intro i hi
  obtain rfl : i = 0 := by omega
  simp [go_sem]

end Go.Proofs.Ytefohnbmifblkab
