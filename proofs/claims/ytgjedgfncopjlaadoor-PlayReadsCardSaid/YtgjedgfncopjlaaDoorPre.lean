/- play.Read: its contract. -/
import Derived.Test.YtgjedgfncopjlaaDoorPrd
namespace Go.Proofs.YtgjedgfncopjlaaDoor.Lines
open Go Go.RowKit Go.Shelf Go.Proofs.YtgjedgfncopjlaaDoorW.PrintWords Go.Proofs.YtgjedgfncopjlaaDoorW.PrintLast Go.Proofs.YtgjedgfncopjlaaDoorW.PrintMore Go.Proofs.YtgjedgfncopjlaaDoor.PPlayReads
attribute [local go_sem] Oper.semAt_some
set_option linter.unusedVariables false
set_option linter.unusedSimpArgs false
theorem RI_step (w W w2 w3 : World) (pre : List (List UInt8)) (x : List UInt8) (v v' : Value) (tmp : Obj) (hB : Below w.heap.size w W) (hc : w.heap.size + 1 + 1 + 1 < W.heap.size)
    (b0 : Boxed W w.heap.size 22 (.slice none 0 0)) (b1 : Boxed W (w.heap.size + 1) 23 (.int .i64 0)) (b2 : Boxed W (w.heap.size + 1 + 1) 22 v)
    (hown : W.ownsRow w.heap.size 38 3 v pre.length (cellsP pre)) (hvb : ∀ b, v.ownBlock = some b → w.heap.size + 1 + 1 + 1 < b) (hok : pre.all okP = true) (hx : okP x = true)
    (h12 : Below W.heap.size W w2) (hown' : w3.ownsRow w.heap.size 38 3 v' (pre.length + 1) (cellsP pre ++ [.int .i64 (mkP x).f0, .int .i64 (mkP x).f1, .int .i64 (mkP x).f2])) (hgrow : (w2.alloc tmp).grownBy w3 v.ownBlock) (hat : v'.ownBlock = v.ownBlock ∨ v'.ownBlock = some (w2.alloc tmp).heap.size) (B : Nat) :
    KeepsFrom B W (w3.setCell ⟨w.heap.size + 1 + 1, 0, none⟩ v') ∧ (w3.setCell ⟨w.heap.size + 1 + 1, 0, none⟩ v').heap[w.heap.size + 1 + 1 + 1]? = W.heap[w.heap.size + 1 + 1 + 1]? ∧ RI w (pre ++ [x]) (w3.setCell ⟨w.heap.size + 1 + 1, 0, none⟩ v') := by
  have hne : ∀ g, g ≤ w.heap.size + 1 + 1 + 1 → some g ≠ v.ownBlock := fun g hg e => by have := hvb g e.symm; omega
  have hne' : ∀ g, g ≤ w.heap.size + 1 + 1 + 1 → some g ≠ v'.ownBlock := fun g hg e => by
    rcases hat with h | h
    · rw [h] at e; exact hne g hg e
    · rw [h] at e
      injection e with e
      have := h12.size
      simp at e
      omega
  have hsz : W.heap.size ≤ w3.heap.size := by have h1 := h12.size; have h2 := hgrow.size; simp at h2; omega
  have up : ∀ k, k < W.heap.size → some k ≠ v.ownBlock → w3.heap[k]? = W.heap[k]? := fun k hk hn =>
    (hgrow.block k (by have := h12.size; simp; omega) hn).trans ((Below.heap_alloc w2 tmp k (by have := h12.size; omega)).trans (h12.block k hk))
  have far : ∀ k, k ≠ w.heap.size + 1 + 1 → (w3.setCell ⟨w.heap.size + 1 + 1, 0, none⟩ v').heap[k]? = w3.heap[k]? := fun k hk => Below.heap_setCell _ _ _ k hk
  have g2 : w3.grownBy (w3.setCell ⟨w.heap.size + 1 + 1, 0, none⟩ v') (some (w.heap.size + 1 + 1)) := grownBy_setCell' w3 _ v'
  refine ⟨⟨Nat.le_trans hsz g2.size, fun k o hk hko ho => ?_⟩, ?_, ?_⟩
  · have hk1 : k ≠ w.heap.size + 1 + 1 := by
      rintro rfl
      have := hko.symm.trans b2
      injection this with this
      subst this
      cases ho
    rw [far k hk1, up k (Array.getElem?_eq_some_iff.1 hko).1 ?_]
    · exact hko
    · intro e
      rcases hown.2 with ⟨rfl, _⟩ | ⟨g, cap, cur, rfl, _, hgb, _⟩
      · simp [Value.ownBlock] at e
      · obtain rfl : k = g := by simpa [Value.ownBlock] using e
        rw [hgb] at hko; cases hko; cases ho
  · rw [far _ (by omega), up _ hc (hne _ (by omega))]
  · refine ⟨?_, ?_, ⟨v', ?_, ?_, fun b hb => ?_⟩, ?_, ?_, ?_⟩
    · exact (far _ (by omega)).trans ((up _ (Boxed.lt b0) (hne _ (by omega))).trans b0)
    · exact (far _ (by omega)).trans ((up _ (Boxed.lt b1) (hne _ (by omega))).trans b1)
    · exact Boxed.set v' ((up _ (Boxed.lt b2) (hne _ (by omega))).trans b2)
    · rw [cellsP_snoc, List.length_append, List.length_singleton]
      exact hown'.kept g2 (.inr (hne' _ (by omega)).symm)
    · have := hne' b
      rcases Nat.lt_or_ge (w.heap.size + 1 + 1 + 1) b with h | h
      · exact h
      · exact absurd hb.symm (this h)
    · rw [List.all_append, hok]; simpa using hx
    · refine ((((hB.trans ⟨h12.os, h12.tape, h12.output, h12.size, fun k hk => h12.block k (Nat.lt_of_lt_of_le hk hB.size)⟩).alloc (Nat.le_trans hB.size h12.size) tmp).grown hgrow (by have := h12.size; have := hB.size; simp; omega) fun j ej => ?_).setCell (p := ⟨w.heap.size + 1 + 1, 0, none⟩) (by simp; omega) v')
      have := hvb j ej
      omega
    · exact Nat.lt_of_lt_of_le hc (Nat.le_trans hsz g2.size)
theorem RX_step (w W w2 : World) (l : List UInt8) (pre : List (List UInt8)) (x : List UInt8) (B : Nat) (hbad : (linesL l).all okP = false) (hB : Below w.heap.size w W) (h12 : Below W.heap.size W w2) (b0 : w2.heap[w.heap.size]? = some (.cells #[.slice none 0 0] 22)) (b1 : w2.heap[w.heap.size + 1]? = some (.cells #[.int .i64 0] 23)) :
    KeepsFrom B W ((w2.setCell ⟨w.heap.size, 0, none⟩ (.slice none 0 0)).setCell ⟨w.heap.size + 1, 0, none⟩ (.int .i64 3)) ∧ RX w l .ret (pre ++ [x]) ((w2.setCell ⟨w.heap.size, 0, none⟩ (.slice none 0 0)).setCell ⟨w.heap.size + 1, 0, none⟩ (.int .i64 3)) := by
  refine ⟨((KeepsOthers.of_grownBy (row := none) (grown_of_below h12 none) (fun j o e => by cases e)).trans ((KeepsOthers.setCell _ _ _).trans (KeepsOthers.setCell _ _ _))).from _, ?_, ?_, fun _ => hbad, ?_⟩
  · exact (Below.heap_setCell _ _ _ _ (by simp)).trans (Boxed.set _ b0)
  · exact Boxed.set _ ((Below.heap_setCell _ _ _ _ (by simp)).trans b1)
  · exact ((below_step hB h12).setCell (p := ⟨w.heap.size, 0, none⟩) (Nat.le_refl _) _).setCell (p := ⟨w.heap.size + 1, 0, none⟩) (Nat.le_succ _) _
theorem reps_cells (w : World) (base : Nat) (ok : Nat → Prop) (pre : List (List UInt8)) : Reps (k38.M w base ok) 3 (pre.map mkP) (cellsP pre) := by
  have h : ∀ l : List (List UInt8), Reps (k38.M w base ok) 3 (l.reverse.map mkP) (cellsP l.reverse) := fun l => by
    induction l with
    | nil => exact Reps.none _ _
    | cons x r ih =>
      rw [List.reverse_cons, List.map_append, cellsP_snoc]
      exact Reps.snoc ih (k38_mkM _ _ _ (mkP x)) rfl
  have := h pre.reverse
  rwa [List.reverse_reverse] at this
theorem fin_ret (W w : World) (D : Nat) (c : Int) (v : Value) (l : List UInt8) (xs : List (List UInt8)) (tmps : Array Value) (hD : w.heap.size + 1 + 1 < D) (hK : W.heap[D]? = some (.deferred (some [])))
    (b0 : Boxed W w.heap.size 22 v) (b1 : Boxed W (w.heap.size + 1) 23 (.int .i64 c)) (hown : W.ownsRow w.heap.size 38 3 v xs.length (cellsP xs)) (hr : readP l = (xs.map mkP, c)) (hB : Below w.heap.size w W)
    (t2 : tmps.getD 2 undef = .pointer (some ⟨w.heap.size, 0, none⟩)) (t3 : tmps.getD 3 undef = .pointer (some ⟨w.heap.size + 1, 0, none⟩)) :
    bodyPostM Fence.wide 5 Tryd.prog Tryd.f5 (fun e w' => ∃ v, e = .returned (.tuple #[v, .int .i64 (readP l).2]) ∧ Kd.R k38 38 w' w.heap.size (fun _ => True) v (readP l).1 ∧ Below w.heap.size w w') .ret { tmps := tmps, defers := [{ target := .collected D, args := #[] }] } W := by
  refine ⟨by simp, .inl ⟨_, _, rfl, run_takeDeferred hK, ?_⟩⟩
  have g : W.grownBy (W.putObj D (.deferred none)) (some D) := grownBy_putObj' W D _
  have d0 : Boxed (W.putObj D (.deferred none)) w.heap.size 22 v := b0.kept g (fun e => by injection e; omega)
  have d1 : Boxed (W.putObj D (.deferred none)) (w.heap.size + 1) 23 (.int .i64 c) := b1.kept g (fun e => by injection e; omega)
  have e0 := d0.cell
  have e1 := d1.cell
  refine ⟨.tuple #[v, .int .i64 c], ?_, v, ?_, ⟨fun _ _ => trivial, cellsP xs, ?_, ?_⟩, ?_⟩
  · rw [Array.getD_eq_getD_getElem?] at t2 t3
    simp [results, Tryd.results5, go_sem, t2, t3, e0, e1]
  · rw [hr]
  · rw [hr, List.length_map]
    exact ownsRow_putObj hown _ hK rfl
  · rw [hr]; exact reps_cells _ _ _ xs
  · exact hB.grown g hB.size (fun k e => by cases e; omega)
theorem info_mv : (Tryd.prog.info? 38).map (fun i => (i.zero, i.size, i.bytes)) = some (some (.agg #[.int .i64 0, .int .i64 0, .int .i64 0]), 3, 24) := by kernel_rfl
set_option maxRecDepth 100000 in
set_option maxHeartbeats 4000000 in
theorem read_in (l : List UInt8) (hl : l.length ≤ 5000000) (w : World) (hv : Vars w) (hf : Forms w) : CallsIn Fence.wide 5 Tryd.prog 5 #[.string ⟨l.toArray⟩] w fun e w' => ∃ v, e = .returned (.tuple #[v, .int .i64 (readP l).2]) ∧ Kd.R k38 38 w' w.heap.size (fun _ => True) v (readP l).1 ∧ Below w.heap.size w w' := by
  obtain ⟨i0, hi, hz0, hz1, hz2⟩ := info_parts info_mv
  have hll := lines_len l
  have hle := lines_le l
  have HR : Aside0 (readP l = if (linesL l).all okP = true then (if 100000 < (linesL l).length then ([], 1) else ((linesL l).map mkP, 0)) else ([], 3)) := ⟨by unfold readP; rw [if_neg (by omega)]⟩
  refine callsIn_of_wp_marks Tryd.func5 rfl trivial ?_ rfl
  simp only [Tryd.ntmps5, List.size_toArray, List.length_cons, List.length_nil, Nat.reduceAdd, Nat.reduceSub, Array.replicate_succ, Array.replicate_zero, List.push_toArray, List.append_toArray, List.nil_append, List.cons_append]
  have HV := Lib.hid hv
  have HF := Lib.hid hf
  have HLE := Lib.hid hle
  clear hv hf hle
  have e0 : decide (5000000 < (l.length : Int)) = false := decide_eq_false (by omega)
  gi_wp2_with (refine ⟨trivial, ?_⟩; gi_at_call 11; refine (callsIn_wide.2 (Lines_calls l _)).mono ?_; rintro e w' ⟨rfl, rfl⟩)
  have bA := Boxed.new w 22 (.slice none 0 0)
  have bB := Boxed.new (w.alloc (.cells #[.slice none 0 0] 22)) 23 (.int .i64 0)
  have bC := Boxed.new ((w.alloc (.cells #[.slice none 0 0] 22)).alloc (.cells #[.int .i64 0] 23)) 22 (.slice none 0 0)
  have bD := Boxed.new (((w.alloc (.cells #[.slice none 0 0] 22)).alloc (.cells #[.int .i64 0] 23)).alloc (.cells #[.slice none 0 0] 22)) 9 (.string ⟨l.toArray⟩)
  simp only [World.size_alloc] at bB bC bD
  have hB0 := below_alloc (below_alloc (below_alloc (below_alloc (Below.refl w.heap.size w) (.cells #[.slice none 0 0] 22)) (.cells #[.int .i64 0] 23)) (.cells #[.slice none 0 0] 22)) (.cells #[.string ⟨l.toArray⟩] 9)
  refine range_lines (by omega) (w.heap.size + 1 + 1 + 1) l rfl (by omega) (by simp) bD.cell bD.frozen (RI w) (RX w l)
    (fun pre W W' row h hg hr => RI_keep w pre W W' row _ (by simp) h hg hr) (fun j pre W W' row h hg hr => RX_keep w l j pre W W' row _ (by simp) h hg hr)
    ⟨((bA.alloc _).alloc _).alloc _, (bB.alloc _).alloc _, ⟨_, bC.alloc _, World.ownsRow_nil _ _ _ _, fun b hb => by simp [Value.ownBlock] at hb⟩, rfl, hB0, by simp⟩
    (fun x => { tmps := #[.string ⟨l.toArray⟩, undef, .pointer (some ⟨w.heap.size, 0, none⟩), .pointer (some ⟨w.heap.size + 1, 0, none⟩), .pointer (some ⟨w.heap.size + 1 + 1, 0, none⟩), .string ⟨x.toArray⟩, undef, undef, undef, .string ⟨l.toArray⟩, .int .i64 l.length, .bool false, .string ⟨l.toArray⟩, .func (.func 19) #[] #[.pointer (some ⟨w.heap.size + 1 + 1 + 1, 0, none⟩)], .string ⟨x.toArray⟩, undef, undef, undef, undef, undef, undef, undef, undef, undef, undef, undef, undef, undef, undef, undef, undef, undef, undef, undef, undef, undef, undef], defers := [] }) ?assign ?body ?done ?stop
  case assign =>
    intro l' x W K hK
    gi_wp2
    exact hK
  case body =>
    clear bA bB bC bD hB0
    rintro L pre x W ⟨hb0, hb1, ⟨v, hb2, hown, hvb⟩, hok, hB, hcw⟩ hx
    have HCW : Aside0 (w.heap.size + 1 + 1 + 1 < W.heap.size) := ⟨hcw⟩
    clear hcw
    have hxl := HLE.out x (hx.subset (by simp))
    have hpl : pre.length + 1 ≤ 5000000 := by have := hx.length_le; simp at this; omega
    have hd : 1 ≤ 5 - 1 - 1 := by decide
    have MC := Lib.hid (move_calls x (by omega) W (HV.out.below hB HV.out.n9) (HF.out.below hB HV.out.n9))
    have hag : again x = lineP (mkP x).f0 (mkP x).f1 (mkP x).f2 := rfl
    have MC2 : Aside0 (Calls Tryd.prog 12 #[.string ⟨x.toArray⟩] W fun e w' => e = .returned (.agg #[.int .i64 (mkP x).f0, .int .i64 (mkP x).f1, .int .i64 (mkP x).f2]) ∧ Below W.heap.size W w') := ⟨MC.out⟩
    clear MC
    generalize hmk : mkP x = m at MC2 hag
    obtain ⟨k, a, n⟩ := m
    simp only at hag
    have HMK := Lib.hid hmk
    have HOK := Lib.hid hok
    have HX := Lib.hid hx
    clear hmk hok hx
    generalize hlp : lineP k a n = LP at hag
    have HAG := Lib.hid hag
    have HLP := Lib.hid hlp
    clear hag hlp
    have HB := Lib.hid hB
    have HB0 := Lib.hid hb0
    have HB1 := Lib.hid hb1
    have HB2 := Lib.hid hb2
    have HOW0 := Lib.hid hown
    have HVB := Lib.hid hvb
    clear hB hb0 hb1 hb2 hown hvb
    have LC : Aside0 (∀ W, Vars W → Forms W → Calls Tryd.prog 13 #[.agg #[.int .i64 k, .int .i64 a, .int .i64 n]] W fun e w' => e = .returned (.tuple #[.string ⟨LP.1.toArray⟩, .int .i64 LP.2]) ∧ Below W.heap.size W w') := ⟨fun W h1 h2 => by rw [← HLP.out]; exact line_calls k a n W h1 h2⟩
    obtain ⟨s1, c1⟩ := LP
    simp only at LC
    by_cases hg : s1 = x ∧ c1 = 0
    · obtain ⟨rfl, rfl⟩ := hg
      have HG : Aside0 (okP s1 = true) := ⟨by unfold okP; rw [HAG.out]; simp⟩
      gi_wp2_with (first
      | (refine ⟨trivial, ?_⟩; gi_at_call 12; refine (CallsIn.inRound L (callsIn_wide.2 MC2.out)).mono ?_; rintro e w1 ⟨rfl, hbm⟩; replace hbm := Lib.hid hbm)
      | (refine ⟨trivial, ?_⟩; gi_at_call 13; refine (CallsIn.inRound L (callsIn_wide.2 (LC.out _ (by exact HV.out.below (below_alloc (below_step HB.out hbm.out) _) HV.out.n9) (by exact HF.out.below (below_alloc (below_step HB.out hbm.out) _) HV.out.n9)))).mono ?_; rintro e w2 ⟨rfl, hbl⟩; have hb12 := below_step (below_alloc hbm.out (.cells #[.int .i64 k, .int .i64 a, .int .i64 n] 38)) hbl; have HOW := Lib.hid (HOW0.out.kept (grown_of_below hb12 none) (Classical.em _)); have HB12 := Lib.hid hb12; clear hb12; have hb0 := blk_below (blk_alloc (blk_below HB0.out hbm.out) _) hbl; have hb1 := blk_below (blk_alloc (blk_below HB1.out hbm.out) _) hbl; have hb2 := blk_below (blk_alloc (blk_below HB2.out hbm.out) _) hbl; have hbn := blk_below (blk_new w1 (.cells #[.int .i64 k, .int .i64 a, .int .i64 n] 38)) hbl; have c0 := Boxed.cell hb0; have c1 := Boxed.cell hb1; have c2 := Boxed.cell hb2; have f0 := Boxed.frozen hb0; have f1 := Boxed.frozen hb1; have f2 := Boxed.frozen hb2; have d0 := (blk_cell hbn 0).trans rfl; have d1 := (blk_cell hbn 1).trans rfl; have d2 := (blk_cell hbn 2).trans rfl; replace hb0 := Lib.hid hb0; replace hb1 := Lib.hid hb1; replace hb2 := Lib.hid hb2; clear hbn; replace hbl := Lib.hid hbl)
      | (gi_at_builtin; (refine wpListIn_append_own_at _ rfl (.tmp 29) (.tmp 31) 22 rfl w.heap.size 38 i0 (.agg #[.int .i64 0, .int .i64 0, .int .i64 0]) 3 24 Tryd.underlying22 hi hz0 hz1 hz2 rfl (by decide) v pre.length (cellsP pre) rfl (by exact HOW.out.alloc _) ⟨w2.heap.size, 0, none⟩ 1 1 [.int .i64 k, .int .i64 a, .int .i64 n] rfl rfl ?g1 ?g2 ?g3 ?g4 ?g5 ?_); rotate_left 5; (intro v' w3 hown' hgrow _ hat; have hbx : Boxed w3 (w.heap.size + 1 + 1) 22 v := (Boxed.alloc hb2.out _).kept hgrow (fun e => by have := HVB.out _ e.symm; omega); have c3 := hbx.cell; have f3 := hbx.frozen; clear hbx; obtain ⟨g', cap', rfl⟩ := ownsRow_succ hown'; replace hown' := Lib.hid hown'; replace hgrow := Lib.hid hgrow; replace hat := Lib.hid hat)))
      case g1 =>
        intro j u hj
        have h9 := blk_cell (blk_new w2 (.cells #[.int .i64 k, .int .i64 a, .int .i64 n] 38)) j
        have h10 : (#[Value.int .i64 k, .int .i64 a, .int .i64 n] : Array Value)[j]? = some u := by simpa using hj
        rw [h10] at h9
        have ea : (⟨w2.heap.size, 0, none⟩ : Addr).add j = ⟨w2.heap.size, j, none⟩ := by
          unfold Addr.add
          split <;> simp_all
        rw [ea]
        exact h9
      case g2 => simp [Value.oneCell']
      case g3 => unfold maxLen; omega
      case g4 => omega
      case g5 => have h1 := HB.out.size; have h2 := HB12.out.size; simp; omega
      have hm : ∀ z : Mv, z = ⟨k, a, n⟩ → [Value.int .i64 k, .int .i64 a, .int .i64 n] = [.int .i64 z.f0, .int .i64 z.f1, .int .i64 z.f2] := fun z hz => by rw [hz]
      have h9 := hown'.out
      rw [hm (mkP s1) HMK.out] at h9
      exact RI_step w W w2 w3 pre s1 v _ _ HB.out HCW.out HB0.out HB1.out HB2.out HOW0.out HVB.out HOK.out HG.out HB12.out h9 hgrow.out hat.out _
    · have HG : Aside0 (okP x = false) := ⟨by
        unfold okP; rw [HAG.out]
        by_cases h : c1 = 0
        · have : ¬ s1 = x := fun h' => hg ⟨h', h⟩
          simp [this]
        · simp [h]⟩
      have HBAD : Aside0 ((linesL l).all okP = false) := ⟨by
        rw [Bool.eq_false_iff]
        intro h
        have := List.all_eq_true.1 h x (HX.out.subset (by simp))
        rw [HG.out] at this
        cases this⟩
      by_cases h : c1 = 0
      · subst h
        have e1 : (s1 == x) = false := by simpa using fun h' : s1 = x => hg ⟨h', rfl⟩
        clear hg
        gi_wp2_with (first
      | (refine ⟨trivial, ?_⟩; gi_at_call 12; refine (CallsIn.inRound L (callsIn_wide.2 MC2.out)).mono ?_; rintro e w1 ⟨rfl, hbm⟩; replace hbm := Lib.hid hbm)
      | (refine ⟨trivial, ?_⟩; gi_at_call 13; refine (CallsIn.inRound L (callsIn_wide.2 (LC.out _ (by exact HV.out.below (below_alloc (below_step HB.out hbm.out) _) HV.out.n9) (by exact HF.out.below (below_alloc (below_step HB.out hbm.out) _) HV.out.n9)))).mono ?_; rintro e w2 ⟨rfl, hbl⟩; have hb12 := below_step (below_alloc hbm.out (.cells #[.int .i64 k, .int .i64 a, .int .i64 n] 38)) hbl; have HOW := Lib.hid (HOW0.out.kept (grown_of_below hb12 none) (Classical.em _)); have HB12 := Lib.hid hb12; clear hb12; have hb0 := blk_below (blk_alloc (blk_below HB0.out hbm.out) _) hbl; have hb1 := blk_below (blk_alloc (blk_below HB1.out hbm.out) _) hbl; have hb2 := blk_below (blk_alloc (blk_below HB2.out hbm.out) _) hbl; have hbn := blk_below (blk_new w1 (.cells #[.int .i64 k, .int .i64 a, .int .i64 n] 38)) hbl; have c0 := Boxed.cell hb0; have c1 := Boxed.cell hb1; have c2 := Boxed.cell hb2; have f0 := Boxed.frozen hb0; have f1 := Boxed.frozen hb1; have f2 := Boxed.frozen hb2; have d0 := (blk_cell hbn 0).trans rfl; have d1 := (blk_cell hbn 1).trans rfl; have d2 := (blk_cell hbn 2).trans rfl; replace hb0 := Lib.hid hb0; replace hb1 := Lib.hid hb1; replace hb2 := Lib.hid hb2; clear hbn; replace hbl := Lib.hid hbl))
        exact RX_step w W w2 l pre x _ HBAD.out HB.out HB12.out hb0.out hb1.out
      · have e1 : (c1 != 0) = true := by simpa using h
        clear hg h
        gi_wp2_with (first
      | (refine ⟨trivial, ?_⟩; gi_at_call 12; refine (CallsIn.inRound L (callsIn_wide.2 MC2.out)).mono ?_; rintro e w1 ⟨rfl, hbm⟩; replace hbm := Lib.hid hbm)
      | (refine ⟨trivial, ?_⟩; gi_at_call 13; refine (CallsIn.inRound L (callsIn_wide.2 (LC.out _ (by exact HV.out.below (below_alloc (below_step HB.out hbm.out) _) HV.out.n9) (by exact HF.out.below (below_alloc (below_step HB.out hbm.out) _) HV.out.n9)))).mono ?_; rintro e w2 ⟨rfl, hbl⟩; have hb12 := below_step (below_alloc hbm.out (.cells #[.int .i64 k, .int .i64 a, .int .i64 n] 38)) hbl; have HOW := Lib.hid (HOW0.out.kept (grown_of_below hb12 none) (Classical.em _)); have HB12 := Lib.hid hb12; clear hb12; have hb0 := blk_below (blk_alloc (blk_below HB0.out hbm.out) _) hbl; have hb1 := blk_below (blk_alloc (blk_below HB1.out hbm.out) _) hbl; have hb2 := blk_below (blk_alloc (blk_below HB2.out hbm.out) _) hbl; have hbn := blk_below (blk_new w1 (.cells #[.int .i64 k, .int .i64 a, .int .i64 n] 38)) hbl; have c0 := Boxed.cell hb0; have c1 := Boxed.cell hb1; have c2 := Boxed.cell hb2; have f0 := Boxed.frozen hb0; have f1 := Boxed.frozen hb1; have f2 := Boxed.frozen hb2; have d0 := (blk_cell hbn 0).trans rfl; have d1 := (blk_cell hbn 1).trans rfl; have d2 := (blk_cell hbn 2).trans rfl; replace hb0 := Lib.hid hb0; replace hb1 := Lib.hid hb1; replace hb2 := Lib.hid hb2; clear hbn; replace hbl := Lib.hid hbl))
        exact RX_step w W w2 l pre x _ HBAD.out HB.out HB12.out hb0.out hb1.out
  case done =>
    clear bA bB bC bD hB0
    rintro D W hD ⟨hb0, hb1, ⟨v, hb2, hown, hvb⟩, hok, hB, hcw⟩ hK
    have c0 := hb0.cell
    have c1 := hb1.cell
    have c2 := hb2.cell
    have f0 := hb0.frozen
    have f1 := hb1.frozen
    have HOW := Lib.hid hown
    have HB0 := Lib.hid hb0
    have HB1 := Lib.hid hb1
    have HB2 := Lib.hid hb2
    have HVB := Lib.hid hvb
    have HB := Lib.hid hB
    have HK := Lib.hid hK
    have HRT : Aside0 (readP l = if 100000 < (linesL l).length then ([], 1) else ((linesL l).map mkP, 0)) := ⟨by rw [HR.out, if_pos hok]⟩
    obtain ⟨A, cap, rfl⟩ : ∃ A cap, v = .slice A (linesL l).length cap := by
      rcases hown.2 with ⟨hv, h0⟩ | ⟨g, cap, cur, rfl, _⟩
      · exact ⟨none, 0, by rw [hv, h0]⟩
      · exact ⟨_, _, rfl⟩
    clear hok hcw hown hb0 hb1 hb2 hvb hB hK
    rcases Nat.lt_or_ge 100000 (linesL l).length with hn | hn
    · have e1 : decide (100000 < ((linesL l).length : Int)) = true := decide_eq_true (by omega)
      gi_wp2
      refine fin_ret _ w D 1 (.slice none 0 0) l [] _ (by simp at hD; omega) ?_ ?_ ?_ (World.ownsRow_nil _ _ _ _) (by rw [HRT.out, if_pos hn]; rfl) ?_ rfl rfl
      · exact (Below.heap_setCell _ _ _ _ (by simp at hD; simp; omega)).trans ((Below.heap_setCell _ _ _ _ (by simp at hD; simp; omega)).trans HK.out)
      · exact (Below.heap_setCell _ _ _ _ (by simp)).trans (Boxed.set _ HB0.out)
      · exact Boxed.set _ ((Below.heap_setCell _ _ _ _ (by simp)).trans HB1.out)
      · exact (HB.out.setCell (p := ⟨w.heap.size, 0, none⟩) (Nat.le_refl _) _).setCell (p := ⟨w.heap.size + 1, 0, none⟩) (Nat.le_succ _) _
    · have e1 : decide (100000 < ((linesL l).length : Int)) = false := decide_eq_false (by omega)
      gi_wp2
      refine fin_ret _ w D 0 (.slice A (linesL l).length cap) l (linesL l) _ (by simp at hD; omega) ?_ ?_ ?_ ?_ (by rw [HRT.out, if_neg (by omega)]) ?_ rfl rfl
      · exact (Below.heap_setCell _ _ _ _ (by simp at hD; simp; omega)).trans ((Below.heap_setCell _ _ _ _ (by simp at hD; simp; omega)).trans HK.out)
      · exact (Below.heap_setCell _ _ _ _ (by simp)).trans (Boxed.set _ HB0.out)
      · exact Boxed.set _ ((Below.heap_setCell _ _ _ _ (by simp)).trans HB1.out)
      · have h1 : ∀ b, b ≤ w.heap.size + 1 + 1 + 1 → (Value.slice A (linesL l).length cap).ownBlock ≠ some b := fun b h e => by have := HVB.out b e; omega
        exact (HOW.out.kept (grownBy_setCell' _ _ _) (.inr (h1 _ (by omega)))).kept (grownBy_setCell' _ _ _) (.inr (h1 _ (by omega)))
      · exact (HB.out.setCell (p := ⟨w.heap.size, 0, none⟩) (Nat.le_refl _) _).setCell (p := ⟨w.heap.size + 1, 0, none⟩) (Nat.le_succ _) _
  case stop =>
    clear bA bB bC bD hB0
    rintro D j pre W hD hpre hx hK
    cases j with
    | ret =>
      obtain ⟨hb0, hb1, hbad, hB⟩ := hx
      have HRT : Aside0 (readP l = ([], 3)) := ⟨by rw [HR.out, if_neg (by rw [hbad hpre]; simp)]⟩
      have HB0 := Lib.hid hb0
      have HB1 := Lib.hid hb1
      have HB := Lib.hid hB
      have HK := Lib.hid hK
      clear hb0 hb1 hbad hB hK hpre
      gi_wp2
      exact fin_ret _ w D 3 (.slice none 0 0) l [] _ (by simp at hD; omega) HK.out HB0.out HB1.out (World.ownsRow_nil _ _ _ _) HRT.out HB.out rfl rfl
    | _ => exact hx.elim
set_option maxRecDepth 100000 in
set_option maxHeartbeats 1000000 in
theorem read_big (l : List UInt8) (hl : 5000000 < l.length) (hm : l.length ≤ 9223372036854775807) (w : World) : Calls Tryd.prog 5 #[.string ⟨l.toArray⟩] w fun e w' => ∃ v, e = .returned (.tuple #[v, .int .i64 1]) ∧ Kd.R k38 38 w' w.heap.size (fun _ => True) v [] ∧ Below w.heap.size w w' := by
  have e0 : decide (5000000 < (l.length : Int)) = true := decide_eq_true (by omega)
  go_enter Tryd.func5, Tryd.ntmps5
  go_wp2
  exact bodyPost_ret (v := .tuple #[.slice none 0 0, .int .i64 1]) (by simp [results, Tryd.results5, go_sem]) rfl ⟨_, rfl, Kd.R_nil _ _ _ _ _, below_alloc (below_alloc (Below.refl _ _) _) _⟩
/-- play.Read: the moves of a text. -/
theorem read_calls (l : List UInt8) (hm : l.length ≤ 9223372036854775807) (w : World) (hv : Vars w) (hf : Forms w) : Calls Tryd.prog 5 #[.string ⟨l.toArray⟩] w fun e w' => ∃ v, e = .returned (.tuple #[v, .int .i64 (readP l).2]) ∧ Kd.R k38 38 w' w.heap.size (fun _ => True) v (readP l).1 ∧ Below w.heap.size w w' := by
  rcases Nat.lt_or_ge 5000000 l.length with h | h
  · have e : readP l = ([], 1) := by unfold readP; rw [if_pos h]
    rw [e]
    exact read_big l h hm w
  · exact callsIn_wide.1 (read_in l h w hv hf)
end Go.Proofs.YtgjedgfncopjlaaDoor.Lines
