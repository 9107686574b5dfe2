/- Several bytes: the program's function Feed of package decode computes feedS, for every encoding, every good state and every string of at most 4000 bytes. -/
import Derived.Test.YtefohnbmifblkabEnd
import Derived.Deep.RegionLaw
import Derived.Deep.DeepCutAuto
namespace Go.Proofs.Ytefohnbmifblkab
open Go.RowKit
set_option linter.unusedVariables false

/-- The append of two lists of the call's own, as one step of a region that draws its order. -/
theorem step_app {w : World} {ops : Array Oper} {o : Oper} {a : Act} {K : Act → World → Prop} {Q : Exit → Act → World → Prop} {E : Prop} (hgd : o.guard = none) (s x : Operand)
    (ho : o.op = .call { callee := .builtin .append, args := #[s, x], argTypes := #[22, 22] })
    (base base' : Nat) (v sv : Value) (xs ys : List Int) (hs : a.eval s = v) (hx : a.eval x = sv) (hv : Ints w base v xs) (hsv : Ints w base' sv ys)
    (hlen : xs.length + ys.length ≤ 1000000) (hbase : base ≤ w.heap.size)
    (h : ∀ v' w', Ints w' base v' (xs ++ ys) → w.grownBy w' v.ownBlock → K (a.put o.dst v') w') :
    if Region.wanted o (yielded ops a.tmps) = true then Oper.wp Try.prog o a w K Q else E := by
  have hw : Region.wanted o (yielded ops a.tmps) = true := by simp [Region.wanted, hgd]
  rw [if_pos hw]
  obtain ⟨i0, hi, hz0, hz1, hz2⟩ := info_parts info3
  rcases hsv.2 with ⟨rfl, hn⟩ | ⟨g, cap, cur, rfl, hg, hh, hcap, hm, hsz, htake⟩
  · have hys : ys = [] := List.eq_nil_of_length_eq_zero hn
    subst hys
    have hrun := run_append_owned_none (P := Try.prog) (w := w) base 22 o.type 3 i0 1 Try.underlying22 hi v xs.length _ hv
    unfold Oper.wp
    simp [execOp, ho, resolve, invoke, builtin, hs, hx, hrun, Result.andThen]
    exact h v w (by simpa using hv) ⟨rfl, rfl, rfl, Nat.le_refl _, fun _ _ _ => rfl⟩
  · refine wp_append_own w s x 22 ho base 3 i0 (.int .i64 0) 1 8 Try.underlying22 hi hz0 hz1 hz2 rfl (by decide) v xs.length _ hs hv
      ⟨g, 0, none⟩ ys.length cap (ys.map (Value.int .i64)) hx (by simp) ?_ ?_ (by unfold maxLen; omega) (by omega) hbase ?_
    · exact World.ownsRow.cells hsv rfl
    · intro u hu
      obtain ⟨n, _, rfl⟩ := List.mem_map.1 hu
      rfl
    · intro v' w' hown hgrow _
      refine h v' w' ?_ ?_
      · unfold Ints
        rw [List.length_append, List.map_append]
        exact hown
      · exact hgrow

/-- The end of Step, its state written out. -/
def PostEX (st : St) (out : List Int) (w : World) (e : Ending) (w' : World) : Prop :=
  ∃ v, e = .returned (.tuple #[.agg #[.int .i64 st.need, .int .i64 st.code, .int .i64 st.frm, .int .i64 st.upto, .string (strOfNums st.kept), .int .i64 st.half, .int .i64 st.mode], v, .int .i64 0])
    ∧ Ints w' w.heap.size v out ∧ Below w.heap.size w w'

theorem feedS_snoc (e : Int) (s : St) (l : List Int) (b : Int) : feedS e s (l ++ [b]) = ((stepS e (feedS e s l).1 b).1, (feedS e s l).2 ++ (stepS e (feedS e s l).1 b).2) := by
  simp [feedS]
theorem feed_okS_from {e : Int} (h1 : 1 ≤ e) (h6 : e ≤ 6) : ∀ (l : List Int) (p : St × List Int), okS e p.1 → (∀ b ∈ l, 0 ≤ b ∧ b ≤ 255) →
    okS e (l.foldl (fun p b => ((stepS e p.1 b).1, p.2 ++ (stepS e p.1 b).2)) p).1
  | [], p, h, _ => h
  | b :: l, p, h, hl => feed_okS_from h1 h6 l _ (step_ok h1 h6 (hl b (by simp)).1 (hl b (by simp)).2 h) fun x hx => hl x (by simp [hx])
theorem feed_okS {e : Int} {s : St} (h1 : 1 ≤ e) (h6 : e ≤ 6) (h : okS e s) (l : List Int) (hl : ∀ b ∈ l, 0 ≤ b ∧ b ≤ 255) : okS e (feedS e s l).1 :=
  feed_okS_from h1 h6 l (s, []) h hl
theorem feed_lenS_from (e : Int) : ∀ (l : List Int) (p : St × List Int), (l.foldl (fun p b => ((stepS e p.1 b).1, p.2 ++ (stepS e p.1 b).2)) p).2.length ≤ p.2.length + 6 * l.length
  | [], p => by simp
  | b :: l, p => by
    have h := step_len e b p.1
    have := feed_lenS_from e l ((stepS e p.1 b).1, p.2 ++ (stepS e p.1 b).2)
    simp at this ⊢
    omega
theorem feed_lenS (e : Int) (s : St) (l : List Int) : (feedS e s l).2.length ≤ 6 * l.length := by
  have := feed_lenS_from e l (s, [])
  simpa [feedS] using this

/-- What the loop of Feed carries. -/
def FeedRel (e : Int) (s : St) (l : List Int) (w : World) (k : Nat) (v : Value) (wr : World) : Prop :=
  Ints wr (w.heap.size + 2) v (feedS e s (l.take k)).2 ∧ Box wr w.heap.size (feedS e s (l.take k)).1 ∧ Box wr (w.heap.size + 1) {} ∧ Below w.heap.size w wr

theorem nums_bytes (l : ByteArray) (k : Nat) : ∀ b ∈ (nums l).take k, 0 ≤ b ∧ b ≤ 255 := by
  intro b hb
  obtain ⟨u, _, rfl⟩ := List.mem_map.1 (List.mem_of_mem_take hb)
  have := byte_le u
  omega

theorem Ints.of_heap {W W' : World} {base : Nat} {v : Value} {xs : List Int} (h : Ints W base v xs) (hh : ∀ k, v.ownBlock = some k → W'.heap[k]? = W.heap[k]?) : Ints W' base v xs := by
  obtain ⟨h1, h2⟩ := h
  refine ⟨h1, ?_⟩
  rcases h2 with h2 | ⟨g, cap, cur, rfl, hg, hc, r⟩
  · exact Or.inl h2
  · exact Or.inr ⟨g, cap, cur, rfl, hg, by rw [hh g rfl]; exact hc, r⟩
theorem heap_put7 (W : World) (b : Nat) (t : St) (k : Nat) (h : k ≠ b) : (put7 W b t).heap[k]? = W.heap[k]? := by
  rw [Below.heap_setCell _ _ _ _ h, Below.heap_setCell _ _ _ _ h, Below.heap_setCell _ _ _ _ h, Below.heap_setCell _ _ _ _ h, Below.heap_setCell _ _ _ _ h, Below.heap_setCell _ _ _ _ h, Below.heap_setCell _ _ _ _ h]

/-- Behind the call of Step in Feed's round: the new state in a block of its own, the rest as it was. -/
def NextRel (w : World) (u : Value) (all : List Int) (s' : St) (r : St × List Int) (s13 s14 : Value) (wx : World) : Prop :=
  ∃ B, s13 = .pointer (some ⟨B, 0, none⟩) ∧ w.heap.size + 2 ≤ B ∧ (∀ k, u.ownBlock = some k → k ≠ B) ∧ Box wx B r.1 ∧ Ints wx (w.heap.size + 2) s14 r.2 ∧ Ints wx (w.heap.size + 2) u all
    ∧ Box wx w.heap.size s' ∧ Box wx (w.heap.size + 1) {} ∧ Below w.heap.size w wx

theorem meet_before {w wr w2 : World} {u v2 : Value} {all : List Int} {s' : St} {r : St × List Int} {o : Obj} (ho : o = .cells (St.cells {}) 30) (hi : Ints wr (w.heap.size + 2) u all) (hbx : Box wr w.heap.size s') (hbr : Box wr (w.heap.size + 1) {})
    (hbl : Below w.heap.size w wr) (hi2 : Ints w2 (wr.drew.alloc o).heap.size v2 r.2) (hb2 : Below (wr.drew.alloc o).heap.size (wr.drew.alloc o) w2) :
    NextRel w u all s' r (.pointer (some ⟨wr.heap.size, 0, none⟩)) v2 (put7 w2 wr.heap.size r.1) := by
  have hsz := hbr.lt
  have hs : (wr.drew.alloc o).heap.size = wr.heap.size + 1 := by show (wr.heap.push o).size = _; simp
  rw [hs] at hi2 hb2
  have old : ∀ k, k < wr.heap.size → w2.heap[k]? = wr.heap[k]? := fun k hk => (hb2.block k (by omega)).trans (heap_old wr.drew o k hk)
  have hz : Box w2 wr.heap.size {} := by
    unfold Box
    rw [hb2.block _ (by omega)]
    subst ho
    exact heap_new wr.drew _ _ rfl
  have hbl2 : Below w.heap.size w w2 := (below_alloc (hbl.drew) o).trans (hb2.mono (by omega))
  refine ⟨wr.heap.size, rfl, by omega, fun k hk => ?_, hz.store r.1, ?_, ?_, ?_, ?_, below_put7 hbl2 (by omega) r.1⟩
  · have := (hi.lt k hk).2; omega
  · exact (Ints.put7 hi2 (by omega) r.1).mono (by omega)
  · exact hi.of_heap fun k hk => by
      have := (hi.lt k hk).2
      rw [heap_put7 _ _ _ _ (by omega), old k this]
  · unfold Box; rw [heap_put7 _ _ _ _ (by omega), old _ (by omega)]; exact hbx
  · unfold Box; rw [heap_put7 _ _ _ _ (by omega), old _ hsz]; exact hbr
theorem meet_behind {w wr w2 : World} {u v2 : Value} {all : List Int} {s' : St} {r : St × List Int} (hi : Ints wr (w.heap.size + 2) u all) (hbx : Box wr w.heap.size s') (hbr : Box wr (w.heap.size + 1) {})
    (hbl : Below w.heap.size w wr) (hi2 : Ints w2 wr.drew.heap.size v2 r.2) (hb2 : Below wr.drew.heap.size wr.drew w2) :
    NextRel w u all s' r (.pointer (some ⟨w2.heap.size, 0, none⟩)) v2 (w2.alloc (.cells r.1.cells 30)) := by
  have hsz := hbr.lt
  have hs : wr.drew.heap.size = wr.heap.size := rfl
  rw [hs] at hi2 hb2
  have h2 := hb2.size
  have h2' : wr.heap.size ≤ w2.heap.size := h2
  have old : ∀ k, k < wr.heap.size → (w2.alloc (.cells r.1.cells 30)).heap[k]? = wr.heap[k]? := fun k hk => (heap_old _ _ k (by omega)).trans (hb2.block k hk)
  have hbl2 : Below w.heap.size w w2 := (hbl.drew).trans (hb2.mono (by omega))
  refine ⟨w2.heap.size, rfl, by omega, fun k hk => ?_, heap_new _ _ _ rfl, (hi2.alloc _).mono (by omega), ?_, ?_, ?_, below_alloc hbl2 _⟩
  · have := (hi.lt k hk).2; omega
  · exact hi.of_heap fun k hk => old k (hi.lt k hk).2
  · unfold Box; rw [old _ (by omega)]; exact hbx
  · unfold Box; rw [old _ hsz]; exact hbr

/-- Behind the second statement of Feed's round. -/
theorem meet_round {e : Int} {s : St} {l : List Int} {k : Nat} {w wc w3 : World} {u v3 : Value} {all : List Int} {s' : St} {r : St × List Int}
    (hf : feedS e s (l.take (k + 1)) = (r.1, all ++ r.2)) (hiu : Ints wc (w.heap.size + 2) u all) (hx : Box wc w.heap.size s') (hr : Box wc (w.heap.size + 1) {}) (hbl : Below w.heap.size w wc)
    (hi3 : Ints w3 (w.heap.size + 2) v3 (all ++ r.2)) (hg : wc.drew.grownBy w3 u.ownBlock) : FeedRel e s l w (k + 1) v3 (put7 w3 w.heap.size r.1) := by
  have hlt := hr.lt
  have hb : Below (w.heap.size + 2) wc w3 := (Below.refl (w.heap.size + 2) wc).drew.grown hg (by show w.heap.size + 2 ≤ wc.heap.size; omega) fun k hk => (hiu.lt k hk).1
  have hx3 : Box w3 w.heap.size s' := hx.below hb (by omega)
  have hr3 : Box w3 (w.heap.size + 1) {} := hr.below hb (by omega)
  have hbl3 : Below w.heap.size w w3 := hbl.trans (hb.mono (by omega))
  unfold FeedRel
  rw [hf]
  exact ⟨Ints.put7 hi3 (by omega) r.1, hx3.store r.1, hr3.put7 (b := w.heap.size) (by omega) r.1, below_put7 hbl3 (Nat.le_refl _) r.1⟩

/-- What the append of Feed's round leaves of the states' blocks. -/
theorem app_boxes {w wc w3 : World} {u : Value} {all : List Int} {s' t : St} {B : Nat} (hiu : Ints wc (w.heap.size + 2) u all) (hx : Box wc w.heap.size s') (hB : Box wc B t)
    (hne : ∀ k, u.ownBlock = some k → k ≠ B) (hg : wc.drew.grownBy w3 u.ownBlock) : Box w3 w.heap.size s' ∧ Box w3 B t := by
  constructor
  · unfold Box
    rw [hg.block _ hx.lt fun h => by have := (hiu.lt _ h.symm).1; omega]
    exact hx
  · unfold Box
    rw [hg.block _ hB.lt fun h => hne _ h.symm rfl]
    exact hB

theorem drew_alloc_box {w w2 : World} {o : Obj} (z : St) (ho : o = .cells z.cells 30) (hb : Below (w.drew.alloc o).heap.size (w.drew.alloc o) w2) : Box w2 w.heap.size z := by
  subst ho
  have h : Box (w.drew.alloc (.cells z.cells 30)) w.heap.size z := heap_new w.drew _ _ rfl
  exact h.below hb h.lt

set_option maxRecDepth 100000 in
set_option maxHeartbeats 2000000 in
theorem feed_any (e : Int) (he1 : 1 ≤ e) (he6 : e ≤ 6) (s : St) (l : ByteArray) (hl : l.size ≤ 4000) (hok : okS e s) (w : World) :
    Calls Try.prog 8 #[.int .i64 e, s.val, .string l] w (PostE (feedS e s (nums l)).1 (feedS e s (nums l)).2 0 w) := by
  have HOK := Lib.hid hok
  clear hok
  unfold St.val
  go_enter Try.func8, Try.ntmps8
  go_wp2_with (go_at_call 9; refine (end_ok e he1 he6 s HOK.out _).mono ?_; rintro e' w1 ⟨v1, rfl, hi1, hb1⟩)
  go_loopw [11, 41] (fun v i wr => ∃ k : Nat, i = .int .i64 k ∧ k ≤ l.size ∧ FeedRel e s (nums l) w k v wr) (fun _ i _ => l.size - (intOf i).toNat)
  case atStart =>
    refine ⟨0, rfl, Nat.zero_le _, ints_nil _ _, ?_, ?_, ?_⟩
    · exact Box.below (B := w.heap.size + 1 + 1) ((heap_old _ _ _ (by simp)).trans (heap_new _ _ _ rfl)) (hb1.mono (by simp)) (by omega)
    · exact Box.below (B := w.heap.size + 1 + 1) (heap_new _ _ _ (by simp)) (hb1.mono (by simp)) (by omega)
    · exact (below_alloc (below_alloc (Below.refl _ w) _) _).trans (hb1.mono (by simp <;> omega))
  case round =>
    obtain ⟨k, rfl, hk, hi, hbx, hbr, hbl⟩ := hrel
    have hsz : w.heap.size + 1 < wr.heap.size := hbr.lt
    by_cases hlt : k < l.size
    · have hsn : (nums l).take (k + 1) = (nums l).take k ++ [(l[k].toNat : Int)] := nums_take l k hlt
      have hfs := feedS_snoc e s ((nums l).take k) (l[k].toNat : Int)
      rw [← hsn] at hfs
      have hokk : okS e (feedS e s ((nums l).take k)).1 := feed_okS he1 he6 HOK.out _ (nums_bytes l k)
      have hlen := feed_lenS e s ((nums l).take k)
      have hlk : ((nums l).take k).length ≤ k := List.length_take_le _ _
      have hlo := step_len e (l[k].toNat : Int) (feedS e s ((nums l).take k)).1
      have hcall : ∀ W, Calls Try.prog 11 #[.int .i64 e, (feedS e s ((nums l).take k)).1.val, .int .i64 (l[k].toNat : Int)] W
          (PostEX (stepS e (feedS e s ((nums l).take k)).1 (l[k].toNat : Int)).1 (stepS e (feedS e s ((nums l).take k)).1 (l[k].toNat : Int)).2 W) :=
        fun W => step_any e he1 he6 _ _ (by omega) (byte_le _) hokk W
      have HFS := Lib.hid hfs
      clear hsn hfs hokk
      generalize hS' : (feedS e s ((nums l).take k)).1 = s' at *
      generalize hA' : (feedS e s ((nums l).take k)).2 = all at *
      generalize hN' : stepS e s' (l[k].toNat : Int) = r at *
      have HS := Lib.hid hS'
      have HA := Lib.hid hA'
      have HN := Lib.hid hN'
      have HC := Lib.hid hcall
      have HI := Lib.hid hi
      clear hS' hA' hN' hcall hi
      have hc1 := hbx.cell
      have hf1 := hbx.frozen
      have hne1 : ¬ w.heap.size = wr.heap.size := by omega
      have hne2 : ¬ wr.heap.size = w.heap.size := by omega
      have hne3 : w.heap.size < wr.heap.size := by omega
      have hwb := wrap64_byte l[k]
      have hwc : IntKind.i64.wrap (l[k].toNat : Int) = (l[k].toNat : Int) := wraps_i64 _ (by omega) (by have := byte_le l[k]; omega)
      go_upto_region 12 with fail
      go_cut [13, 14] (fun s13 s14 wx => NextRel w u11 all s' r s13 s14 wx)
      case first =>
        go_region_with (go_at_call 11; refine (HC.out _).mono ?_; rintro e' w2 ⟨v2, rfl, hi2, hb2⟩; first | (have hz : Box w2 wr.heap.size {} := drew_alloc_box {} rfl hb2; have hzc := hz.cell; have hzf := hz.frozen) | skip)
        all_goals
          go_wp2_with fail
          go_meet
          first
            | (have hz2 := hz; exact meet_before rfl HI.out hbx hbr hbl hi2 hb2)
            | exact meet_behind HI.out hbx hbr hbl hi2 hb2
      case rest =>
        clear hc1 hf1 HC hne1 hne2 hne3 hwb hwc
        obtain ⟨B, rfl, hB, hneB, hxB, hi14, hi11, hx, hrr, hbl2⟩ := hcut
        have hc1 := hxB.cell
        have hf1 := hxB.frozen
        have hc2 := hx.cell
        have hf2 := hx.frozen
        have hrl := hrr.lt
        go_upto_region 13 with fail
        go_region_law (refine step_app rfl _ _ rfl (w.heap.size + 2) (w.heap.size + 2) _ _ all r.2 rfl rfl ?_ ?_ ?_ ?_ ?_; exact hi11; exact hi14; omega; exact hrl; rintro v3 w3 hi3 hg3; obtain ⟨hq1, hq2⟩ := app_boxes hi11 hx hxB hneB hg3; have hd1 := hq1.cell; have hd2 := hq1.frozen; have hd3 := hq2.cell; have hd4 := hq2.frozen)
        all_goals
          go_wp2_with fail
          go_roundw
          case rel => exact ⟨k + 1, by go_num, by omega, meet_round HFS.out hi11 hx hrr hbl2 hi3 hg3⟩
          case measure => simp [intOf]; omega
    · obtain rfl : k = l.size := by omega
      have hc1 := hbx.cell
      have hf1 := hbx.frozen
      have hg3 := hbr.cell
      have hf3 := hbr.frozen
      rw [nums_all] at hi hbx hc1
      generalize hP' : feedS e s (nums l) = P at *
      have HI := Lib.hid hi
      clear hP' hi
      go_wp2_with fail
      refine bodyPost_ret (v := .tuple #[P.1.val, u11, .int .i64 0]) (by simp [results, Try.results8, go_sem, St.val, hg3]) rfl ?_
      exact ⟨u11, rfl, Ints.mono (Ints.put7 HI.out (by omega) P.1) (by omega), below_put7 hbl (by omega) P.1⟩

end Go.Proofs.Ytefohnbmifblkab
