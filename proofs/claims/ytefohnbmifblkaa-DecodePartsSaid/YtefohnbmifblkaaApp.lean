/- Appending one list of integers to another, in full: what the result is, in which block it lies, what has turned. -/
import Derived.Test.YtefohnbmifblkaaMem
import Derived.ArgAppend
namespace Go.Proofs.Ytefohnbmifblkaa
open Go.RowKit

theorem ints_cells {w : World} {base g n cap : Nat} {ys : List Int} (h : Ints w base (.slice (some ⟨g, 0, none⟩) n cap) ys) :
    ∀ j u, (ys.map (Value.int .i64))[j]? = some u → w.cell? ((⟨g, 0, none⟩ : Addr).add j) = some u := World.ownsRow.cells h rfl

theorem run_app {w : World} (ty : TypeId) (base base' : Nat) (v sv : Value) (xs ys : List Int) (hv : Ints w base v xs) (hsv : Ints w base' sv ys)
    (hlen : xs.length + ys.length ≤ 1000000) (hbase : base ≤ w.heap.size) :
    ∃ v' w', (Builtin.append_ #[28, 28] ty #[v, sv]).run Try.prog w = .ok v' w' ∧ Ints w' base v' (xs ++ ys) ∧ w.grownBy w' v.ownBlock ∧
      (∀ k, v'.ownBlock = some k → v.ownBlock = some k ∨ w.heap.size ≤ k) := by
  obtain ⟨i0, hi, hz0, hz1, hz2⟩ := info_parts info3
  rcases hsv.2 with ⟨rfl, hn⟩ | ⟨g, cap, cur, rfl, hg, hh, hcap, hm, hsz, htake⟩
  · have hys : ys = [] := List.eq_nil_of_length_eq_zero hn
    subst hys
    refine ⟨v, w, run_append_owned_none (P := Try.prog) w base 28 ty 3 i0 1 Try.underlying28 hi v xs.length _ hv, by simpa using hv, World.grownBy.refl _ _, fun k hk => Or.inl hk⟩
  · have hcells := ints_cells hsv
    have hone : ∀ u ∈ ys.map (Value.int .i64), u.oneCell' = true := by
      intro u hu
      obtain ⟨n, _, rfl⟩ := List.mem_map.1 hu
      rfl
    have hb : (xs.length + ys.length) * 8 ≤ 140737488355328 := by omega
    have hmx : xs.length + ys.length ≤ maxLen := by unfold maxLen; omega
    have up : ∀ {w' : World} {v' : Value}, w'.ownsRow w.heap.size 3 1 v' (xs.length + ys.length) (xs.map (Value.int .i64) ++ ys.map (Value.int .i64)) → Ints w' base v' (xs ++ ys) ∧ ∀ k, v'.ownBlock = some k → w.heap.size ≤ k := by
      intro w' v' h
      have h' : Ints w' w.heap.size v' (xs ++ ys) := by
        unfold Ints
        rw [List.length_append, List.map_append]
        exact h
      exact ⟨h'.mono hbase, fun k hk => (h'.lt k hk).1⟩
    rcases hv.2 with ⟨rfl, hx0⟩ | ⟨g1, cap1, cur1, rfl, hg1, hh1, hcap1, hm1, hsz1, htake1⟩
    · have hxs : xs = [] := List.eq_nil_of_length_eq_zero hx0
      subst hxs
      obtain ⟨v', w', hrun, h1, h2, _⟩ := run_append_own (P := Try.prog) w w.heap.size 28 ty 3 i0 (.int .i64 0) 1 8 Try.underlying28 hi hz0 hz1 hz2 rfl (by decide) (.slice none 0 0) 0 [] (World.ownsRow_nil w _ _ _)
        ⟨g, 0, none⟩ ys.length cap (ys.map (Value.int .i64)) (by simp) hcells hone (by simpa using hmx) (by simpa using hb) (Nat.le_refl _)
      have h1' := up (by simpa using h1)
      exact ⟨v', w', hrun, h1'.1, h2, fun k hk => Or.inr (h1'.2 k hk)⟩
    · by_cases hfit : xs.length + ys.length ≤ cap1
      · obtain ⟨w', hrun, h1, h2⟩ := run_append_fits (P := Try.prog) w base 28 ty 3 i0 1 Try.underlying28 hi hz1 g1 xs.length cap1 _ hv ⟨g, 0, none⟩ ys.length cap (ys.map (Value.int .i64)) (by simp) hcells hone hfit
        refine ⟨_, w', hrun, ?_, h2, fun k hk => Or.inl hk⟩
        unfold Ints
        rw [List.length_append, List.map_append]
        exact h1
      · have hc1 := ints_cells hv
        obtain ⟨v', w', hrun, h1, h2⟩ := run_append_arg_grows (P := Try.prog) w 28 ty 3 i0 (.int .i64 0) 1 8 Try.underlying28 hi hz0 hz1 hz2 rfl (by decide) ⟨g1, 0, none⟩ xs.length cap1 _ (by simp) hc1
          ⟨g, 0, none⟩ ys.length cap (ys.map (Value.int .i64)) (by simp) hcells (by omega) hmx hb
        have h1' := up h1
        exact ⟨v', w', hrun, h1'.1, ⟨h2.os, h2.tape, h2.output, h2.size, fun k hk _ => h2.block k hk (by simp)⟩, fun k hk => Or.inr (h1'.2 k hk)⟩

/-- The same in a walk, guarded or not. -/
theorem wpList_appG {w : World} {ops : Array Oper} {rest : List Oper} {o : Oper} {a : Act} {Q : Exit → Act → World → Prop} (hw : Region.wanted o (yielded ops a.tmps) = true) (s x : Operand)
    (ho : o.op = .call { callee := .builtin .append, args := #[s, x], argTypes := #[28, 28] })
    (base base' : Nat) (v sv : Value) (xs ys : List Int) (hs : a.eval s = v) (hx : a.eval x = sv) (hv : Ints w base v xs) (hsv : Ints w base' sv ys)
    (hlen : xs.length + ys.length ≤ 1000000) (hbase : base ≤ w.heap.size)
    (h : ∀ v' w', Ints w' base v' (xs ++ ys) → w.grownBy w' v.ownBlock → (∀ k, v'.ownBlock = some k → v.ownBlock = some k ∨ w.heap.size ≤ k) → wpList Try.prog ops Q rest (a.put o.dst v') w') :
    wpList Try.prog ops Q (o :: rest) a w := by
  refine BigFrame.wpList_want hw fun K hK => ?_
  obtain ⟨v', w', hrun, h1, h2, h3⟩ := run_app o.type base base' v sv xs ys hv hsv hlen hbase
  unfold Oper.wp
  simp [execOp, ho, resolve, invoke, builtin, hs, hx, hrun, Result.andThen]
  exact hK _ _ (h _ _ h1 h2 h3)

end Go.Proofs.Ytefohnbmifblkaa
