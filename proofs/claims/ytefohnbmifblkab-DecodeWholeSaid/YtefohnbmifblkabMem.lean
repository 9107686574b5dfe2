/- Memory that the walks through package decode carry: a state in a block of its own, and the append of one list of integers to another. -/
import Derived.Test.YtefohnbmifblkabDec
import Derived.OwnWalk
namespace Go.Proofs.Ytefohnbmifblkab
open Go.RowKit

/-- The cells of a state. -/
abbrev St.cells (s : St) : Array Value :=
  #[.int .i64 s.need, .int .i64 s.code, .int .i64 s.frm, .int .i64 s.upto, .string (strOfNums s.kept), .int .i64 s.half, .int .i64 s.mode]
theorem St.val_cells (s : St) : s.val = .agg s.cells := rfl

/-- Block b holds the state s. -/
def Box (W : World) (b : Nat) (s : St) : Prop := W.heap[b]? = some (.cells s.cells 30 (0, 0))

theorem Box.cell {W : World} {b : Nat} {s : St} (h : Box W b s) (o : Nat) : W.cell? ⟨b, o, none⟩ =
    (#[.int .i64 s.need, .int .i64 s.code, .int .i64 s.frm, .int .i64 s.upto, .string (strOfNums s.kept), .int .i64 s.half, .int .i64 s.mode] : Array Value)[o]? := by
  unfold World.cell?
  rw [h]
  simp
theorem Box.frozen {W : World} {b : Nat} {s : St} (h : Box W b s) (o : Nat) : W.frozen? ⟨b, o, none⟩ = false := by
  unfold World.frozen?
  rw [h]
  simp
theorem Box.lt {W : World} {b : Nat} {s : St} (h : Box W b s) : b < W.heap.size := (Array.getElem?_eq_some_iff.1 h).1
theorem Box.below {W W' : World} {B b : Nat} {s : St} (h : Box W b s) (hb : Below B W W') (hlt : b < B) : Box W' b s := by
  unfold Box at *
  rw [hb.block b hlt]
  exact h
theorem Box.other {W : World} {b : Nat} {s : St} (h : Box W b s) {a : Addr} (u : Value) (hne : b ≠ a.block) : Box (W.setCell a u) b s := by
  unfold Box at *
  rw [Below.heap_setCell _ _ _ _ hne]
  exact h

theorem heap_set (W : World) (b o : Nat) (C : Array Value) (t : TypeId) (u : Value) (h : W.heap[b]? = some (.cells C t (0, 0))) :
    (W.setCell ⟨b, o, none⟩ u).heap[b]? = some (.cells (C.setIfInBounds o u) t (0, 0)) := by
  simp only [World.setCell, Array.getElem?_modify]
  simp [h]

/-- Seven stores write a state anew. -/
theorem Box.store {W : World} {b : Nat} {s : St} (h : Box W b s) (t : St) :
    Box (((((((W.setCell ⟨b, 0, none⟩ (.int .i64 t.need)).setCell ⟨b, 1, none⟩ (.int .i64 t.code)).setCell ⟨b, 2, none⟩ (.int .i64 t.frm)).setCell ⟨b, 3, none⟩ (.int .i64 t.upto)).setCell ⟨b, 4, none⟩ (.string (strOfNums t.kept))).setCell ⟨b, 5, none⟩ (.int .i64 t.half)).setCell ⟨b, 6, none⟩ (.int .i64 t.mode)) b t := by
  have h0 := heap_set _ b 0 _ _ (.int .i64 t.need) h
  have h1 := heap_set _ b 1 _ _ (.int .i64 t.code) h0
  have h2 := heap_set _ b 2 _ _ (.int .i64 t.frm) h1
  have h3 := heap_set _ b 3 _ _ (.int .i64 t.upto) h2
  have h4 := heap_set _ b 4 _ _ (.string (strOfNums t.kept)) h3
  have h5 := heap_set _ b 5 _ _ (.int .i64 t.half) h4
  have h6 := heap_set _ b 6 _ _ (.int .i64 t.mode) h5
  unfold Box
  rw [h6]
  simp

theorem Ints.lt {W : World} {base : Nat} {v : Value} {xs : List Int} (h : Ints W base v xs) : ∀ k, v.ownBlock = some k → base ≤ k ∧ k < W.heap.size := World.ownsRow.lt h
theorem Ints.setCell {W : World} {base : Nat} {v : Value} {xs : List Int} (h : Ints W base v xs) {a : Addr} (ha : a.block < base) (u : Value) : Ints (W.setCell a u) base v xs := ownsRow_setCell_below h ha u
theorem Ints.mono {W : World} {base base' : Nat} {v : Value} {xs : List Int} (h : Ints W base v xs) (hb : base' ≤ base) : Ints W base' v xs := by
  obtain ⟨h1, h2⟩ := h
  refine ⟨h1, ?_⟩
  rcases h2 with h2 | ⟨g, cap, cur, hv, hg, r⟩
  · exact Or.inl h2
  · exact Or.inr ⟨g, cap, cur, hv, by omega, r⟩
theorem Ints.alloc {W : World} {base : Nat} {v : Value} {xs : List Int} (h : Ints W base v xs) (o : Obj) : Ints (W.alloc o) base v xs := World.ownsRow.alloc h o
theorem Ints.below {W W' : World} {B base : Nat} {v : Value} {xs : List Int} (h : Ints W base v xs) (hb : Below B W W') (hB : W.heap.size ≤ B) : Ints W' base v xs := by
  obtain ⟨h1, h2⟩ := h
  refine ⟨h1, ?_⟩
  rcases h2 with h2 | ⟨g, cap, cur, hv, hg, hh, r⟩
  · exact Or.inl h2
  · refine Or.inr ⟨g, cap, cur, hv, hg, ?_, r⟩
    have := (Array.getElem?_eq_some_iff.1 hh).1
    rw [hb.block g (by omega)]
    exact hh

/-- The world behind seven stores of a state into block b. -/
abbrev put7 (W : World) (b : Nat) (t : St) : World :=
  ((((((W.setCell ⟨b, 0, none⟩ (.int .i64 t.need)).setCell ⟨b, 1, none⟩ (.int .i64 t.code)).setCell ⟨b, 2, none⟩ (.int .i64 t.frm)).setCell ⟨b, 3, none⟩ (.int .i64 t.upto)).setCell ⟨b, 4, none⟩ (.string (strOfNums t.kept))).setCell ⟨b, 5, none⟩ (.int .i64 t.half)).setCell ⟨b, 6, none⟩ (.int .i64 t.mode)
theorem Ints.put7 {W : World} {base : Nat} {v : Value} {xs : List Int} (h : Ints W base v xs) {b : Nat} (hb : b < base) (t : St) : Ints (put7 W b t) base v xs :=
  ((((((h.setCell (a := ⟨b, 0, none⟩) hb _).setCell (a := ⟨b, 1, none⟩) hb _).setCell (a := ⟨b, 2, none⟩) hb _).setCell (a := ⟨b, 3, none⟩) hb _).setCell (a := ⟨b, 4, none⟩) hb _).setCell (a := ⟨b, 5, none⟩) hb _).setCell (a := ⟨b, 6, none⟩) hb _
theorem Box.put7 {W : World} {b c : Nat} {s : St} (h : Box W c s) (hne : c ≠ b) (t : St) : Box (put7 W b t) c s :=
  ((((((h.other (a := ⟨b, 0, none⟩) _ hne).other (a := ⟨b, 1, none⟩) _ hne).other (a := ⟨b, 2, none⟩) _ hne).other (a := ⟨b, 3, none⟩) _ hne).other (a := ⟨b, 4, none⟩) _ hne).other (a := ⟨b, 5, none⟩) _ hne).other (a := ⟨b, 6, none⟩) _ hne
theorem below_put7 {B : Nat} {a W : World} (h : Below B a W) {b : Nat} (hb : B ≤ b) (t : St) : Below B a (put7 W b t) :=
  ((((((h.setCell (p := ⟨b, 0, none⟩) hb _).setCell (p := ⟨b, 1, none⟩) hb _).setCell (p := ⟨b, 2, none⟩) hb _).setCell (p := ⟨b, 3, none⟩) hb _).setCell (p := ⟨b, 4, none⟩) hb _).setCell (p := ⟨b, 5, none⟩) hb _).setCell (p := ⟨b, 6, none⟩) hb _
theorem size_put7 (W : World) (b : Nat) (t : St) : (put7 W b t).heap.size = W.heap.size := by simp [World.setCell]

theorem info3 : (Try.prog.info? 3).map (fun i => (i.zero, i.size, i.bytes)) = some (some (.int .i64 0), 1, 8) := by kernel_rfl

/-- append(s, x...) on two lists of integers that the call made: a list of both; below base nothing has turned. -/
theorem wpList_app {w : World} {ops : Array Oper} {rest : List Oper} {o : Oper} {a : Act} {Q : Exit → Act → World → Prop} (hgd : o.guard = none) (s x : Operand)
    (ho : o.op = .call { callee := .builtin .append, args := #[s, x], argTypes := #[22, 22] })
    (base base' : Nat) (v sv : Value) (xs ys : List Int) (hs : a.eval s = v) (hx : a.eval x = sv) (hv : Ints w base v xs) (hsv : Ints w base' sv ys)
    (hlen : xs.length + ys.length ≤ 1000000) (hbase : base ≤ w.heap.size)
    (h : ∀ v' w', Ints w' base v' (xs ++ ys) → Below base w w' → wpList Try.prog ops Q rest (a.put o.dst v') w') : wpList Try.prog ops Q (o :: rest) a w := by
  obtain ⟨i0, hi, hz0, hz1, hz2⟩ := info_parts info3
  rcases hsv.2 with ⟨rfl, hn⟩ | ⟨g, cap, cur, rfl, hg, hh, hcap, hm, hsz, htake⟩
  · have hys : ys = [] := List.eq_nil_of_length_eq_zero hn
    subst hys
    refine wpList_append_own_none hgd s x 22 ho base 3 i0 1 Try.underlying22 hi v xs.length _ hs hv hx ?_
    exact h v w (by simpa using hv) (Below.refl _ _)
  · refine wpList_append_own w hgd s x 22 ho base 3 i0 (.int .i64 0) 1 8 Try.underlying22 hi hz0 hz1 hz2 rfl (by decide) v xs.length _ hs hv
      ⟨g, 0, none⟩ ys.length cap (ys.map (Value.int .i64)) hx (by simp) ?_ ?_ (by unfold maxLen; omega) (by omega) hbase ?_
    · exact World.ownsRow.cells hsv rfl
    · intro u hu
      obtain ⟨n, _, rfl⟩ := List.mem_map.1 hu
      rfl
    · intro v' w' hown hgrow _
      refine h v' w' ?_ ?_
      · unfold Ints
        rw [List.length_append, List.map_append]
        exact hown
      · exact (Below.refl base w).grown hgrow hbase fun k hk => (hv.lt k hk).1

/-- Behind one round of Step's loop: the state lies in its block, the result's block is as it was, nothing that was there has turned. -/
theorem round_facts {w wr w1 w2 : World} {s t z : St} (hbx : Box wr w.heap.size s) (hbr : Box wr (w.heap.size + 1) z) (hbl : Below w.heap.size w wr)
    (hb1 : Below wr.heap.size wr w1) (hb2 : Below (w.heap.size + 2) (put7 w1 w.heap.size t) w2) :
    Box w2 w.heap.size t ∧ Box w2 (w.heap.size + 1) z ∧ Below w.heap.size w w2 := by
  have hsz := hbr.lt
  have hx1 : Box w1 w.heap.size s := hbx.below hb1 hbx.lt
  have hr1 : Box w1 (w.heap.size + 1) z := hbr.below hb1 hbr.lt
  have hx2 : Box (put7 w1 w.heap.size t) w.heap.size t := hx1.store t
  have hr2 : Box (put7 w1 w.heap.size t) (w.heap.size + 1) z := hr1.put7 (b := w.heap.size) (by omega) t
  have hA : Below w.heap.size w w1 := hbl.trans (hb1.mono (by omega))
  have hB : Below w.heap.size w (put7 w1 w.heap.size t) := below_put7 hA (Nat.le_refl _) t
  have hC : Below w.heap.size (put7 w1 w.heap.size t) w2 := hb2.mono (by omega)
  exact ⟨hx2.below hb2 (by omega), hr2.below hb2 (by omega), hB.trans hC⟩

/-- The same behind a round that makes one block and stores no state. -/
theorem alloc_facts {w wr w2 : World} {s z : St} {o : Obj} (hbx : Box wr w.heap.size s) (hbr : Box wr (w.heap.size + 1) z) (hbl : Below w.heap.size w wr)
    (hb2 : Below (w.heap.size + 2) (wr.alloc o) w2) : Box w2 w.heap.size s ∧ Box w2 (w.heap.size + 1) z ∧ Below w.heap.size w w2 := by
  have hsz := hbr.lt
  have hx1 : Box (wr.alloc o) w.heap.size s := by unfold Box; rw [heap_old _ _ _ (by omega)]; exact hbx
  have hr1 : Box (wr.alloc o) (w.heap.size + 1) z := by unfold Box; rw [heap_old _ _ _ hsz]; exact hbr
  have hC : Below w.heap.size (wr.alloc o) w2 := hb2.mono (by omega)
  exact ⟨hx1.below hb2 (by omega), hr1.below hb2 (by omega), (below_alloc hbl o).trans hC⟩

end Go.Proofs.Ytefohnbmifblkab
