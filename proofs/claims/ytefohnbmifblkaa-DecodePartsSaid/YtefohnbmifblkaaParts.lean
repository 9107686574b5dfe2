/- Memory that the walk through DecodeParts carries: two states in blocks of their own, four lists. -/
import Derived.Test.YtefohnbmifblkaaApp
import Derived.Test.YtefohnbmifblkaaSame
import Derived.Test.YtefohnbmifblkaaLawsD
namespace Go.Proofs.Ytefohnbmifblkaa
open Go.RowKit
set_option linter.unusedVariables false

theorem nums_front (s : ByteArray) (j : Nat) : nums (s.extract 0 j) = (nums s).take j := by
  unfold nums
  rw [← List.map_take]
  congr 1
  simp [ByteArray.extract, ByteArray.copySlice]
theorem nums_behind (s : ByteArray) (j : Nat) : nums (s.extract j s.size) = (nums s).drop j := by
  unfold nums
  rw [← List.map_drop]
  congr 1
  simp [ByteArray.extract, ByteArray.copySlice]
  refine List.take_of_length_le ?_
  rw [List.length_drop, Array.length_toList]
  exact Nat.le_refl _

theorem Ints.grow {W W' : World} {base : Nat} {v : Value} {xs : List Int} {row : Option Nat} (h : Ints W base v xs) (hg : W.grownBy W' row) (hne : ∀ k, v.ownBlock = some k → some k ≠ row) : Ints W' base v xs :=
  h.of_heap fun k hk => hg.block k (h.lt k hk).2 (hne k hk)

/-- Behind the first Feed and the store of its state. -/
structure PartA (w : World) (r1 : St × List Int) (v1 : Value) (B1 : Nat) (W : World) : Prop where
  i1 : Ints W w.heap.size v1 r1.2
  x1 : Box W B1 r1.1
  lo : w.heap.size ≤ B1
  ne : ∀ k, v1.ownBlock = some k → k ≠ B1
  below : Below w.heap.size w W
theorem PartA.start {w w1 : World} {r1 : St × List Int} {v1 : Value} (h : Ints w1 w.heap.size v1 r1.2) (hb : Below w.heap.size w w1) : PartA w r1 v1 w1.heap.size (w1.alloc (.cells r1.1.cells 36)) where
  i1 := h.alloc _
  x1 := heap_new _ _ _ rfl
  lo := hb.size
  ne k hk := by have := (h.lt k hk).2; omega
  below := below_alloc hb _
theorem PartA.keep {w W W' : World} {r1 : St × List Int} {v1 : Value} {B1 : Nat} (h : PartA w r1 v1 B1 W) (hb : Below W.heap.size W W') : PartA w r1 v1 B1 W' where
  i1 := h.i1.below hb (Nat.le_refl _)
  x1 := h.x1.below hb h.x1.lt
  lo := h.lo
  ne := h.ne
  below := h.below.trans (hb.mono (Nat.le_trans (by have := h.lo; have := h.x1.lt; omega) (Nat.le_refl _)))
theorem PartA.drew {w W : World} {r1 : St × List Int} {v1 : Value} {B1 : Nat} (h : PartA w r1 v1 B1 W) : PartA w r1 v1 B1 W.drew :=
  h.keep ⟨rfl, rfl, rfl, Nat.le_refl _, fun _ _ => rfl⟩
theorem PartA.alloc {w W : World} {r1 : St × List Int} {v1 : Value} {B1 : Nat} (h : PartA w r1 v1 B1 W) (o : Obj) : PartA w r1 v1 B1 (W.alloc o) :=
  h.keep (below_alloc (Below.refl _ _) o)

/-- Behind the second Feed too. -/
structure PartB (w : World) (r1 : St × List Int) (v1 : Value) (B1 : Nat) (r2 : St × List Int) (v2 : Value) (B2 : Nat) (W : World) : Prop where
  a : PartA w r1 v1 B1 W
  i2 : Ints W w.heap.size v2 r2.2
  x2 : Box W B2 r2.1
theorem PartB.keep {w W W' : World} {r1 r2 : St × List Int} {v1 v2 : Value} {B1 B2 : Nat} (h : PartB w r1 v1 B1 r2 v2 B2 W) (hb : Below W.heap.size W W') : PartB w r1 v1 B1 r2 v2 B2 W' where
  a := h.a.keep hb
  i2 := h.i2.below hb (Nat.le_refl _)
  x2 := h.x2.below hb h.x2.lt

/-- The second state is stored behind the call. -/
theorem part_behind {w W w2 : World} {r1 r2 : St × List Int} {v1 v2 : Value} {B1 : Nat} (h : PartA w r1 v1 B1 W) (hi : Ints w2 W.drew.heap.size v2 r2.2) (hb : Below W.drew.heap.size W.drew w2) :
    PartB w r1 v1 B1 r2 v2 w2.heap.size (w2.alloc (.cells r2.1.cells 36)) := by
  have hd := h.drew.keep hb
  have hlo : w.heap.size ≤ W.drew.heap.size := h.drew.below.size
  exact ⟨hd.alloc _, (hi.alloc _).mono hlo, heap_new _ _ _ rfl⟩
/-- Its block is made ahead of the call. -/
theorem part_before {w W w2 : World} {r1 r2 : St × List Int} {v1 v2 : Value} {B1 : Nat} {o : Obj} (ho : o = .cells (St.cells {}) 36) (h : PartA w r1 v1 B1 W) (hi : Ints w2 (W.drew.alloc o).heap.size v2 r2.2)
    (hb : Below (W.drew.alloc o).heap.size (W.drew.alloc o) w2) : PartB w r1 v1 B1 r2 v2 W.heap.size (put7 w2 W.heap.size r2.1) := by
  have hs : (W.drew.alloc o).heap.size = W.heap.size + 1 := by show (W.heap.push o).size = _; simp
  have hd := (h.drew.alloc o).keep hb
  have hlo : w.heap.size ≤ W.heap.size := h.below.size
  have hz : Box w2 W.heap.size {} := by
    unfold Box
    rw [hb.block _ (by omega)]
    subst ho
    exact heap_new W.drew _ _ rfl
  have hx1 := h.x1.lt
  have hv : ∀ k, v1.ownBlock = some k → k ≠ W.heap.size := fun k hk => by have := (h.i1.lt k hk).2; omega
  refine ⟨⟨hd.i1.of_heap fun k hk => heap_put7 _ _ _ _ (hv k hk), hd.x1.put7 (b := W.heap.size) (by omega) r2.1, h.lo, h.ne, below_put7 hd.below hlo r2.1⟩, ?_, hz.store r2.1⟩
  exact (Ints.put7 hi (by omega) r2.1).mono (by omega)

/-- Behind End and Whole: the four lists. -/
structure PartC (w : World) (xs ys zs ls : List Int) (v1 v2 v3 v4 : Value) (W : World) : Prop where
  i1 : Ints W w.heap.size v1 xs
  i2 : Ints W w.heap.size v2 ys
  i3 : Ints W w.heap.size v3 zs
  i4 : Ints W w.heap.size v4 ls
  n3 : ∀ k, v3.ownBlock = some k → some k ≠ v1.ownBlock
  n4 : ∀ k, v4.ownBlock = some k → some k ≠ v1.ownBlock
  below : Below w.heap.size w W
theorem PartB.lists {w W w3 w4 : World} {r1 r2 : St × List Int} {v1 v2 v3 v4 : Value} {B1 B2 : Nat} {zs ls : List Int} (h : PartB w r1 v1 B1 r2 v2 B2 W) (hi3 : Ints w3 W.heap.size v3 zs) (hb3 : Below W.heap.size W w3)
    (hi4 : Ints w4 w3.heap.size v4 ls) (hb4 : Below w3.heap.size w3 w4) : PartC w r1.2 r2.2 zs ls v1 v2 v3 v4 w4 := by
  have hk := (h.keep hb3).keep hb4
  have h1 := h.a.below.size
  have h3 := hb3.size
  refine ⟨hk.a.i1, hk.i2, (hi3.below hb4 (Nat.le_refl _)).mono h1, hi4.mono (by omega), ?_, ?_, hk.a.below⟩
  · intro k hk3 he
    have := (h.a.i1.lt k he.symm).2
    have := (hi3.lt k hk3).1
    omega
  · intro k hk4 he
    have := (h.a.i1.lt k he.symm).2
    have := (hi4.lt k hk4).1
    omega
theorem PartC.alloc {w W : World} {xs ys zs ls : List Int} {v1 v2 v3 v4 : Value} (h : PartC w xs ys zs ls v1 v2 v3 v4 W) (o : Obj) : PartC w xs ys zs ls v1 v2 v3 v4 (W.alloc o) :=
  ⟨h.i1.alloc o, h.i2.alloc o, h.i3.alloc o, h.i4.alloc o, h.n3, h.n4, below_alloc h.below o⟩

/-- Behind the first append. -/
structure PartD (w : World) (xs zs ls : List Int) (v5 v3 v4 : Value) (W : World) : Prop where
  i5 : Ints W w.heap.size v5 xs
  i3 : Ints W w.heap.size v3 zs
  i4 : Ints W w.heap.size v4 ls
  n4 : ∀ k, v4.ownBlock = some k → some k ≠ v5.ownBlock
  below : Below w.heap.size w W
theorem PartC.app {w W W' : World} {xs ys zs ls : List Int} {v1 v2 v3 v4 v5 : Value} (h : PartC w xs ys zs ls v1 v2 v3 v4 W) (hi : Ints W' w.heap.size v5 (xs ++ ys)) (hg : W.grownBy W' v1.ownBlock)
    (ho : ∀ k, v5.ownBlock = some k → v1.ownBlock = some k ∨ W.heap.size ≤ k) : PartD w (xs ++ ys) zs ls v5 v3 v4 W' := by
  refine ⟨hi, h.i3.grow hg h.n3, h.i4.grow hg h.n4, ?_, h.below.grown hg h.below.size fun k hk => (h.i1.lt k hk).1⟩
  intro k hk he
  rcases ho k he.symm with h' | h'
  · exact h.n4 k hk h'.symm
  · have := (h.i4.lt k hk).2
    omega
theorem PartD.app {w W W' : World} {xs zs ls : List Int} {v5 v3 v4 v6 : Value} (h : PartD w xs zs ls v5 v3 v4 W) (hi : Ints W' w.heap.size v6 (xs ++ zs)) (hg : W.grownBy W' v5.ownBlock) :
    Ints W' w.heap.size v6 (xs ++ zs) ∧ Ints W' w.heap.size v4 ls ∧ Below w.heap.size w W' :=
  ⟨hi, h.i4.grow hg h.n4, h.below.grown hg h.below.size fun k hk => (h.i5.lt k hk).1⟩

theorem feed_lens (e : Int) (s : St) (l : List Int) (hl : l.length ≤ 4000) : (feedS e s l).2.length ≤ 24000 := by
  have := feed_lenS e s l
  omega

end Go.Proofs.Ytefohnbmifblkaa
