/- sheet.Read: its contract. -/
import Derived.Test.YtgjedgfncopjlaaDoorGrd
import Derived.Test.YtgjedgfncopjlaaDoorLnl
namespace Go.Proofs.YtgjedgfncopjlaaDoor.Lines
open Go Go.RowKit Go.Shelf Go.Proofs.YtgjedgfncopjlaaDoorW.PrintWords Go.Proofs.YtgjedgfncopjlaaDoorW.PrintLast Go.Proofs.YtgjedgfncopjlaaDoorW.PrintMore Go.Proofs.YtgjedgfncopjlaaDoor.Reg
attribute [local go_sem] Oper.semAt_some
set_option linter.unusedVariables false
set_option linter.unusedSimpArgs false
def graphP (l : List UInt8) : Int × List Ed × Int := if 20000 < l.length then (0, [], 1) else if showP (nG (linesL l)) (esG (linesL l)) = (l, 0) then (nG (linesL l), esG (linesL l), 0) else (0, [], 3)
theorem info_ed : (Tryd.prog.info? 45).map (fun i => (i.zero, i.size, i.bytes)) = some (some (.agg #[.int .i64 0, .int .i64 0, .int .i64 0]), 3, 24) := by kernel_rfl
theorem list3 {α : Type} : ∀ {l : List α}, l.length = 3 → ∃ a b c, l = [a, b, c]
  | [a, b, c], _ => ⟨a, b, c, rfl⟩
theorem cell_alloc {w : World} {a : Addr} {v : Value} (h : w.cell? a = some v) (o : Obj) : (w.alloc o).cell? a = some v :=
  ((Below.refl w.heap.size w).alloc (Nat.le_refl _) o |>.cell (World.block_lt_of_cell? w _ h)).trans h
theorem edgeL_three {x : List UInt8} {a b c : Int} (h : numP x = [a, b, c]) : edgeL x = [⟨a, b, c⟩] := by unfold edgeL; rw [h]
theorem edgeL_none {x : List UInt8} (h : (numP x).length ≠ 3) : edgeL x = [] := by
  unfold edgeL
  split
  · rename_i h1; rw [h1] at h; simp at h
  · rfl
theorem reps_E (w : World) (base : Nat) (ok : Nat → Prop) (es : List Ed) : Reps (kE.M w base ok) 3 es (cellsE es) := by
  have h : ∀ l : List Ed, Reps (kE.M w base ok) 3 l.reverse (cellsE l.reverse) := fun l => by
    induction l with
    | nil => exact Reps.none _ _
    | cons x r ih =>
      rw [List.reverse_cons, cellsE_snoc]
      exact Reps.snoc ih (PSheetReads.k45_mkM _ _ _ x) rfl
  have := h es.reverse
  rwa [List.reverse_reverse] at this
theorem fin_graph (W w : World) (D : Nat) (n c : Int) (v : Value) (es : List Ed) (l : List UInt8) (tmps : Array Value) (hD : w.heap.size < D) (hK : W.heap[D]? = some (.deferred (some [])))
    (b0 : W.heap[w.heap.size]? = some (gC n v)) (hown : W.ownsRow w.heap.size 45 3 v es.length (cellsE es)) (hr : graphP l = (n, es, c)) (hB : Below w.heap.size w W)
    (t2 : tmps.getD 2 undef = .pointer (some ⟨w.heap.size, 0, none⟩)) (t3 : tmps.getD 3 undef = .int .i64 c) :
    bodyPostM Fence.wide 5 Tryd.prog Tryd.f8 (fun e w' => ∃ v, e = .returned (.tuple #[.agg #[.int .i64 (graphP l).1, v], .int .i64 (graphP l).2.2]) ∧ Kd.R kE 45 w' w.heap.size (fun _ => True) v (graphP l).2.1 ∧ Below w.heap.size w w') .ret { tmps := tmps, defers := [{ target := .collected D, args := #[] }] } W := by
  refine ⟨by simp, .inl ⟨_, _, rfl, run_takeDeferred hK, ?_⟩⟩
  have g : W.grownBy (W.putObj D (.deferred none)) (some D) := grownBy_putObj' W D _
  have d0 : (W.putObj D (.deferred none)).heap[w.heap.size]? = some (gC n v) := blk_kept b0 g (fun e => by injection e; omega)
  have e0 : (W.putObj D (.deferred none)).cell? ⟨w.heap.size, 0, none⟩ = some (.int .i64 n) := (blk_cell d0 0).trans rfl
  have e1 : (W.putObj D (.deferred none)).cell? ⟨w.heap.size, 1, none⟩ = some v := (blk_cell d0 1).trans rfl
  refine ⟨.tuple #[.agg #[.int .i64 n, v], .int .i64 c], ?_, v, ?_, ⟨fun _ _ => trivial, cellsE es, ?_, ?_⟩, ?_⟩
  · rw [Array.getD_eq_getD_getElem?] at t2 t3
    simp [results, Tryd.results8, go_sem, t2, t3, e0, e1]
  · rw [hr]
  · rw [hr]
    exact ownsRow_putObj hown _ hK rfl
  · rw [hr]; exact reps_E _ _ _ es
  · exact hB.grown g hB.size (fun k e => by cases e; omega)
set_option maxRecDepth 100000 in
set_option maxHeartbeats 4000000 in
theorem sread_in (l : List UInt8) (hl : l.length ≤ 20000) (w : World) (hv : Vars w) : CallsIn Fence.wide 5 Tryd.prog 8 #[.string ⟨l.toArray⟩] w fun e w' => ∃ v, e = .returned (.tuple #[.agg #[.int .i64 (graphP l).1, v], .int .i64 (graphP l).2.2]) ∧ Kd.R kE 45 w' w.heap.size (fun _ => True) v (graphP l).2.1 ∧ Below w.heap.size w w' := by
  obtain ⟨i0, hi, hz0, hz1, hz2⟩ := info_parts info_ed
  have hll := lines_len l
  have hle := lines_le l
  have HR : Aside0 (graphP l = if showP (nG (linesL l)) (esG (linesL l)) = (l, 0) then (nG (linesL l), esG (linesL l), 0) else (0, [], 3)) := ⟨by unfold graphP; rw [if_neg (by omega)]⟩
  refine callsIn_of_wp_marks Tryd.func8 rfl trivial ?_ rfl
  simp only [Tryd.ntmps8, List.size_toArray, List.length_cons, List.length_nil, Nat.reduceAdd, Nat.reduceSub, Array.replicate_succ, Array.replicate_zero, List.push_toArray, List.append_toArray, List.nil_append, List.cons_append]
  have HV := Lib.hid hv
  have HLE := Lib.hid hle
  clear hv hle
  have e0 : decide (20000 < (l.length : Int)) = false := decide_eq_false (by omega)
  gi_wp2_with (refine ⟨trivial, ?_⟩; gi_at_call 11; refine (callsIn_wide.2 (Lines_calls l _)).mono ?_; rintro e w' ⟨rfl, rfl⟩)
  have bA := blk_new w (gC 0 (.slice none 0 0))
  have bB := blk_new (w.alloc (gC 0 (.slice none 0 0))) (gC 0 (.slice none 0 0))
  have bC := blk_new ((w.alloc (gC 0 (.slice none 0 0))).alloc (gC 0 (.slice none 0 0))) (.cells #[.bool true] 4)
  have bD := Boxed.new (((w.alloc (gC 0 (.slice none 0 0))).alloc (gC 0 (.slice none 0 0))).alloc (.cells #[.bool true] 4)) 9 (.string ⟨l.toArray⟩)
  simp only [World.size_alloc] at bB bC bD
  have hB0 := below_alloc (below_alloc (below_alloc (below_alloc (Below.refl w.heap.size w) (gC 0 (.slice none 0 0))) (gC 0 (.slice none 0 0))) (.cells #[.bool true] 4)) (.cells #[.string ⟨l.toArray⟩] 9)
  refine range_lines (by omega) (w.heap.size + 1 + 1 + 1) l rfl (by omega) (by simp) bD.cell bD.frozen (RG w) (fun _ _ _ => False)
    (fun pre W W' row h hg hr => RG_keep w pre W W' row _ (by simp) h hg hr) (fun j pre W W' row h hg hr => h)
    ⟨blk_alloc (blk_alloc (blk_alloc bA _) _) _, ⟨.slice none 0 0, blk_alloc (blk_alloc bB _) _, World.ownsRow_nil _ _ _ _, fun b hb => by simp [Value.ownBlock] at hb⟩, blk_alloc bC _, hB0, by simp⟩
    (fun x => { tmps := #[.string ⟨l.toArray⟩, undef, .pointer (some ⟨w.heap.size, 0, none⟩), .int .i64 0, .pointer (some ⟨w.heap.size + 1, 0, none⟩), .pointer (some ⟨w.heap.size + 1 + 1, 0, none⟩), .string ⟨x.toArray⟩, undef, undef, undef, .string ⟨l.toArray⟩, .int .i64 l.length, .bool false, undef, .string ⟨l.toArray⟩, .func (.func 19) #[] #[.pointer (some ⟨w.heap.size + 1 + 1 + 1, 0, none⟩)], .string ⟨x.toArray⟩, undef, undef, undef, undef, undef, undef, undef, undef, undef, undef, undef, undef, undef, undef, undef, undef, undef, undef, undef, undef, undef, undef, undef, undef, undef, undef, undef, undef, undef, undef, undef, undef, undef, undef, undef, undef, undef, undef, undef], defers := [] }) ?assign ?body ?done ?stop
  case assign =>
    intro l' x W K hK
    gi_wp2
    exact hK
  case stop =>
    rintro D j pre W hD hpre hx hK
    exact hx.elim
  case body =>
    clear bA bB bC bD hB0
    rintro L pre x W hRG hx
    have HRG := Lib.hid hRG
    obtain ⟨h1, ⟨v, h3, h4, h5⟩, h2, h7, h8⟩ := hRG
    have hxl := HLE.out x (hx.subset (by simp))
    have hpl : pre.length + 1 ≤ 20000 := by have := hx.length_le; simp at this; omega
    have hd : 1 ≤ 5 - 1 - 1 := by decide
    have NC := Lib.hid (numbers_calls x (by omega) W (HV.out.below h7 HV.out.n9))
    have H1 := Lib.hid h1
    have H2 := Lib.hid h2
    have H3 := Lib.hid h3
    have H4 := Lib.hid h4
    have H5 := Lib.hid h5
    have H7 := Lib.hid h7
    have H8 : Aside0 (w.heap.size + 1 + 1 + 1 < W.heap.size) := ⟨h8⟩
    have HNE := Lib.hid (numP_ne x)
    clear h1 h2 h3 h4 h5 h7 h8 hx
    by_cases hp : pre = []
    · subst hp
      obtain ⟨n0, ns, hns⟩ : ∃ n0 ns, numP x = n0 :: ns := by
        cases h : numP x with
        | nil => exact absurd h HNE.out
        | cons a r => exact ⟨a, r, rfl⟩
      have HN : Aside0 ((numP x).headD 0 = n0) := ⟨by rw [hns]; rfl⟩
      rw [hns] at NC
      clear hns
      gi_wp2_with (first
        | (refine ⟨trivial, ?_⟩; gi_at_call 15; refine (CallsIn.inRound L (callsIn_wide.2 NC.out)).mono ?_; rintro e w1 ⟨⟨g, cap, rfl, hg, hgs, hcs⟩, hb1⟩; have z0 := hcs 0 n0 rfl; clear hcs; have hgs' : (g : Nat) < w1.heap.size := hgs; have c5 : w1.cell? ⟨w.heap.size + 1 + 1, 0, none⟩ = some (.bool true) := (blk_cell (blk_below H2.out hb1) 0).trans rfl; have f5 := blk_frozen (blk_below H2.out hb1) 0; have c4 : w1.cell? ⟨w.heap.size + 1, 0, none⟩ = some (.int .i64 (nG [])) := (blk_cell (blk_below H3.out hb1) 0).trans rfl; have f4 := blk_frozen (blk_below H3.out hb1) 0; replace hb1 := Lib.hid hb1))
      exact RG_first w W w1 x n0 _ HN.out HRG.out hb1.out
    · have HP := Lib.hid hp
      have HPE : Aside0 (pre.isEmpty = false) := ⟨by
        match pre, hp with
        | y :: r, _ => rfl⟩
      clear hp
      by_cases hn3 : (numP x).length = 3
      · obtain ⟨na, nb, nc, hns⟩ := list3 hn3
        have HX := Lib.hid (edgeL_three hns)
        rw [hns] at NC
        clear hns hn3
        have hes : (esG pre).length ≤ 20000 := by
          have h : ∀ q : List (List UInt8), (q.flatMap edgeL).length ≤ q.length := by
            intro q
            induction q with
            | nil => simp
            | cons y r ih =>
              have : (edgeL y).length ≤ 1 := by unfold edgeL; split <;> simp
              rw [List.flatMap_cons, List.length_append, List.length_cons]; omega
          have h2 := h pre.tail
          have h3 := List.length_tail (l := pre)
          unfold esG
          omega
        gi_wp2_with (first
          | (refine ⟨trivial, ?_⟩; gi_at_call 15; refine (CallsIn.inRound L (callsIn_wide.2 NC.out)).mono ?_; rintro e w1 ⟨⟨g, cap, rfl, hg, hgs, hcs⟩, hb1⟩; have z0 := hcs 0 na rfl; have z1 := hcs 1 nb rfl; have z2 := hcs 2 nc rfl; clear hcs; have c5 : w1.cell? ⟨w.heap.size + 1 + 1, 0, none⟩ = some (.bool false) := (blk_cell (blk_below H2.out hb1) 0).trans (by rw [HPE.out]; rfl); replace hb1 := Lib.hid hb1))
        have HG : Aside0 (W.heap.size ≤ g) := ⟨hg⟩
        have S0 : w1.cell? ⟨w.heap.size + 1, 1, none⟩ = some v := (blk_cell (blk_below H3.out hb1.out) 1).trans rfl
        refine region_plan_in (fun W' => W'.cell? ⟨w.heap.size + 1, 1, none⟩ = some v ∧ W'.cell? ⟨g, 0, none⟩ = some (.int .i64 na) ∧ W'.cell? ⟨g, 1, none⟩ = some (.int .i64 nb) ∧ W'.cell? ⟨g, 2, none⟩ = some (.int .i64 nc)) [.pure [(0, 27), (1, 28), (2, 29), (3, 30), (4, 31), (5, 32), (6, 33), (7, 34), (8, 35), (9, 36), (10, 37), (11, 38)], .eff 12 (some 39), .eff 13 (some 40), .pure [(14, 41)], .last 15 none] rfl rfl (by kernel_rfl) (by kernel_rfl) (fun _ _ _ _ h => h) (fun ⟨_, _, h⟩ => h) ⟨S0, z0, z1, z2⟩ ?_
        refine plan_pure (a' := ?_) ?_ ?_
        rotate_left
        · rintro w' ⟨s0, s1, s2, s3⟩
          repeat (refine Runs.step (v := ?_) (a1 := ?_) rfl rfl ?_ ?_ ?_; rotate_left 2; (go_simp; with_reducible rfl); (simp only [Act.put, List.setIfInBounds_toArray, List.set_cons_zero, List.set_cons_succ, i64_w, i32_w]; with_reducible rfl))
          exact Runs.nil
        have q0 : w1.drew.cell? ⟨w.heap.size + 1, 1, none⟩ = some v := S0
        have q1 : w1.drew.cell? ⟨g, 0, none⟩ = some (.int .i64 na) := z0
        have q2 : w1.drew.cell? ⟨g, 1, none⟩ = some (.int .i64 nb) := z1
        have q3 : w1.drew.cell? ⟨g, 2, none⟩ = some (.int .i64 nc) := z2
        have hbd : Below W.heap.size W w1.drew := below_drew1 hb1.out
        have hgd : g < w1.drew.heap.size := hgs
        clear S0 z0 z1 z2 hgs c5
        generalize w1.drew = wd at *
        have HBD := Lib.hid hbd
        refine plan_val (w1 := wd.alloc (.cells #[.int .i64 na, .int .i64 nb, .int .i64 nc] 45)) (v := .slice (some ⟨wd.heap.size, 0, none⟩) 1 1) rfl rfl rfl (by go_simp) ⟨cell_alloc q0 _, cell_alloc q1 _, cell_alloc q2 _, cell_alloc q3 _⟩ ?_
        have hown1 := (H4.out.kept (grown_of_below hbd none) (Classical.em _)).alloc (.cells #[.int .i64 na, .int .i64 nb, .int .i64 nc] 45)
        have hsz := hbd.size
        have hnew := blk_new wd (.cells #[.int .i64 na, .int .i64 nb, .int .i64 nc] 45)
        have hbase := HRG.out.2.2.2.1.size
        obtain ⟨v', w3, hr, hown', hgrow, -, hat⟩ := run_append_own_at (P := Tryd.prog) (wd.alloc (.cells #[.int .i64 na, .int .i64 nb, .int .i64 nc] 45)) w.heap.size 28 28 45 i0 (.agg #[.int .i64 0, .int .i64 0, .int .i64 0]) 3 24 Tryd.underlying28 hi hz0 hz1 hz2 rfl (by decide) v (esG pre).length (cellsE (esG pre)) hown1 ⟨wd.heap.size, 0, none⟩ 1 1 [.int .i64 na, .int .i64 nb, .int .i64 nc] rfl (fun j u hj => by
          have h9 := blk_cell hnew j
          have h10 : (#[Value.int .i64 na, .int .i64 nb, .int .i64 nc] : Array Value)[j]? = some u := by simpa using hj
          rw [h10] at h9
          have ea : (⟨wd.heap.size, 0, none⟩ : Addr).add j = ⟨wd.heap.size, j, none⟩ := by
            unfold Addr.add
            split <;> simp_all
          rw [ea]
          exact h9) (by simp [Value.oneCell']) (by unfold maxLen; omega) (by omega) (by simp; omega)
        have hlt : ∀ b, v.ownBlock = some b → b < W.heap.size := fun b hb => (H4.out.lt b hb).2
        have far : ∀ (k : Nat) (i : Nat) (u : Value), k < wd.heap.size → v.ownBlock ≠ some k → wd.cell? ⟨k, i, none⟩ = some u → w3.cell? ⟨k, i, none⟩ = some u := fun k i u hk hne hc => by
          rw [World.cell?_of_block (a := ⟨k, i, none⟩) (hgrow.block k (by simp; omega) (fun e => hne e.symm))]
          exact cell_alloc hc _
        have hnv : ∀ k, k ≤ w.heap.size + 1 + 1 + 1 → v.ownBlock ≠ some k := fun k hk e => by have := H5.out k e; omega
        have hng : v.ownBlock ≠ some g := fun e => by have := hlt g e; omega
        refine plan_val (w1 := w3) (v := v') rfl rfl rfl ?_ ⟨far _ _ _ (by have := H8.out; omega) (hnv _ (by omega)) q0, far _ _ _ hgd hng q1, far _ _ _ hgd hng q2, far _ _ _ hgd hng q3⟩ ?_
        · simp [execOp, resolve, invoke, builtin, Act.eval, Act.put, hr, Result.andThen]
        obtain ⟨g2, cap2, rfl⟩ := ownsRow_succ hown'
        have hb3 : w3.heap[w.heap.size + 1]? = some (gC (nG pre) v) := (hgrow.block _ (by have := H8.out; simp; omega) (fun e => hnv _ (by omega) e.symm)).trans (blk_alloc (blk_below H3.out hbd) _)
        have d1 : w3.cell? ⟨w.heap.size + 1, 1, none⟩ = some v := (blk_cell hb3 1).trans rfl
        have f1 := blk_frozen hb3 1
        refine plan_pure (a' := ?_) ?_ ?_
        rotate_left
        · rintro w' -
          repeat (refine Runs.step (v := ?_) (a1 := ?_) rfl rfl ?_ ?_ ?_; rotate_left 2; (go_simp; with_reducible rfl); (simp only [Act.put, List.setIfInBounds_toArray, List.set_cons_zero, List.set_cons_succ, i64_w, i32_w]; with_reducible rfl))
          exact Runs.nil
        refine plan_store_last (w1 := w3.setCell ⟨w.heap.size + 1, 1, none⟩ (.slice (some ⟨g2, 0, none⟩) ((esG pre).length + 1) cap2)) rfl rfl rfl ?_ ?_
        · go_simp
        refine plan_nil ?_
        exact RG_add w W wd w3 pre x ⟨na, nb, nc⟩ v _ _ _ HP.out HX.out HRG.out HBD.out H3.out H5.out hown' hgrow hat (fun b hb => by
          rcases H4.out.2 with ⟨hv, _⟩ | ⟨g', cap', cur, hv, _, hgb, _⟩
          · rw [hv] at hb; simp [Value.ownBlock] at hb
          · rw [hv] at hb
            obtain rfl : g' = b := by simpa [Value.ownBlock] using hb
            exact ⟨_, _, _, hgb⟩)
      · have HX := Lib.hid (edgeL_none hn3)
        have e3 : (((numP x).length : Int) == 3) = false := by rw [beq_eq_false_iff_ne]; omega
        clear hn3
        generalize (numP x).length = k at *
        gi_wp2_with (first
          | (refine ⟨trivial, ?_⟩; gi_at_call 15; refine (CallsIn.inRound L (callsIn_wide.2 NC.out)).mono ?_; rintro e w1 ⟨⟨g, cap, rfl, hg, hgs, hcs⟩, hb1⟩; clear hcs; have c5 : w1.cell? ⟨w.heap.size + 1 + 1, 0, none⟩ = some (.bool false) := (blk_cell (blk_below H2.out hb1) 0).trans (by rw [HPE.out]; rfl); replace hb1 := Lib.hid hb1))
        exact RG_skip w W w1 pre x _ HP.out HX.out HRG.out hb1.out
  case done =>
    clear bA bB bC bD hB0
    rintro D W hD ⟨h1, ⟨v, h3, h4, h5⟩, h2, h7, h8⟩ hK
    have hR : Kd.R kE 45 W w.heap.size (fun _ => True) v (esG (linesL l)) := ⟨fun _ _ => trivial, _, h4, reps_E _ _ _ _⟩
    obtain ⟨A, cp, rfl, hA, hC⟩ := Kd.R_reads hR
    have SC := Lib.hid (show_calls (nG (linesL l)) A cp (esG (linesL l)) W (HV.out.below h7 HV.out.n9) hC hA)
    have z0 : W.cell? ⟨w.heap.size + 1, 0, none⟩ = some (.int .i64 (nG (linesL l))) := (blk_cell h3 0).trans rfl
    have z1 : W.cell? ⟨w.heap.size + 1, 1, none⟩ = some (.slice A (esG (linesL l)).length cp) := (blk_cell h3 1).trans rfl
    have H1 := Lib.hid h1
    have H3 := Lib.hid h3
    have H4 := Lib.hid h4
    have H5 := Lib.hid h5
    have H7 := Lib.hid h7
    have HK := Lib.hid hK
    have HD : Aside0 (w.heap.size + 1 + 1 + 1 < D) := ⟨by simp at hD; omega⟩
    clear h1 h2 h3 h4 h5 h7 h8 hK hR hA hC hD HLE hll
    generalize nG (linesL l) = n at *
    generalize esG (linesL l) = es at *
    generalize showP n es = S at *
    obtain ⟨s1, c1⟩ := S
    have hne : ∀ (b : Nat), b ≤ w.heap.size + 1 + 1 + 1 → (Value.slice A es.length cp).ownBlock ≠ some b := fun b h e => by have := H5.out b e; omega
    have HNE := Lib.hid hne
    clear hne
    by_cases hg : s1 = l ∧ c1 = 0
    · obtain ⟨rfl, rfl⟩ := hg
      have HRT : Aside0 (graphP s1 = (n, es, 0)) := ⟨by rw [HR.out, if_pos rfl]⟩
      clear HR
      gi_wp2_with (first
        | (refine ⟨trivial, ?_⟩; gi_at_call 16; refine (callsIn_wide.2 SC.out).mono ?_; rintro e w1 ⟨rfl, hb1⟩; have hg0 := blk_below H1.out hb1; have y0 : w1.cell? ⟨w.heap.size + 1, 0, none⟩ = some (.int .i64 n) := (blk_cell (blk_below H3.out hb1) 0).trans rfl; have y1 : w1.cell? ⟨w.heap.size + 1, 1, none⟩ = some (.slice A es.length cp) := (blk_cell (blk_below H3.out hb1) 1).trans rfl; have r0 : w1.cell? ⟨w.heap.size, 0, none⟩ = some (.int .i64 0) := (blk_cell hg0 0).trans rfl; have r1 : w1.cell? ⟨w.heap.size, 1, none⟩ = some (.slice none 0 0) := (blk_cell hg0 1).trans rfl; have f0 := blk_frozen hg0 0; have f1 := blk_frozen hg0 1; replace hg0 := Lib.hid hg0; replace hb1 := Lib.hid hb1))
      refine fin_graph _ w D n 0 (.slice A es.length cp) es s1 _ (by have := HD.out; omega) ?_ ?_ ?_ HRT.out ?_ rfl rfl
      · exact (Below.heap_setCell _ _ _ _ (by have := HD.out; simp; omega)).trans ((Below.heap_setCell _ _ _ _ (by have := HD.out; simp; omega)).trans (blk_below HK.out hb1.out))
      · exact (blk_set (blk_set hg0.out 0 _) 1 _).trans rfl
      · exact ((H4.out.kept (grown_of_below hb1.out none) (Classical.em _)).kept (grownBy_set _ _ _ _) (.inr (HNE.out _ (by omega)))).kept (grownBy_set _ _ _ _) (.inr (HNE.out _ (by omega)))
      · exact ((below_step H7.out hb1.out).setCell (p := ⟨w.heap.size, 0, none⟩) (Nat.le_refl _) _).setCell (p := ⟨w.heap.size, 1, none⟩) (Nat.le_refl _) _
    · have HRT : Aside0 (graphP l = (0, [], 3)) := ⟨by rw [HR.out, if_neg (fun h => hg (by injection h with h1 h2; exact ⟨h1, h2⟩))]⟩
      clear HR
      by_cases hc : c1 = 0
      · subst hc
        have e1 : (s1 == l) = false := by simpa using fun h' : s1 = l => hg ⟨h', rfl⟩
        clear hg
        gi_wp2_with (first
          | (refine ⟨trivial, ?_⟩; gi_at_call 16; refine (callsIn_wide.2 SC.out).mono ?_; rintro e w1 ⟨rfl, hb1⟩; have hg0 := blk_below H1.out hb1; have r0 : w1.cell? ⟨w.heap.size, 0, none⟩ = some (.int .i64 0) := (blk_cell hg0 0).trans rfl; have r1 : w1.cell? ⟨w.heap.size, 1, none⟩ = some (.slice none 0 0) := (blk_cell hg0 1).trans rfl; have f0 := blk_frozen hg0 0; have f1 := blk_frozen hg0 1; replace hg0 := Lib.hid hg0; replace hb1 := Lib.hid hb1))
        refine fin_graph _ w D 0 3 (.slice none 0 0) [] l _ (by have := HD.out; omega) ?_ ?_ (World.ownsRow_nil _ _ _ _) HRT.out ?_ rfl rfl
        · exact (Below.heap_setCell _ _ _ _ (by have := HD.out; simp; omega)).trans ((Below.heap_setCell _ _ _ _ (by have := HD.out; simp; omega)).trans (blk_below HK.out hb1.out))
        · exact (blk_set (blk_set hg0.out 0 _) 1 _).trans rfl
        · exact ((below_step H7.out hb1.out).setCell (p := ⟨w.heap.size, 0, none⟩) (Nat.le_refl _) _).setCell (p := ⟨w.heap.size, 1, none⟩) (Nat.le_refl _) _
      · have e1 : (c1 != 0) = true := by simpa using hc
        clear hg hc
        gi_wp2_with (first
          | (refine ⟨trivial, ?_⟩; gi_at_call 16; refine (callsIn_wide.2 SC.out).mono ?_; rintro e w1 ⟨rfl, hb1⟩; have hg0 := blk_below H1.out hb1; have r0 : w1.cell? ⟨w.heap.size, 0, none⟩ = some (.int .i64 0) := (blk_cell hg0 0).trans rfl; have r1 : w1.cell? ⟨w.heap.size, 1, none⟩ = some (.slice none 0 0) := (blk_cell hg0 1).trans rfl; have f0 := blk_frozen hg0 0; have f1 := blk_frozen hg0 1; replace hg0 := Lib.hid hg0; replace hb1 := Lib.hid hb1))
        refine fin_graph _ w D 0 3 (.slice none 0 0) [] l _ (by have := HD.out; omega) ?_ ?_ (World.ownsRow_nil _ _ _ _) HRT.out ?_ rfl rfl
        · exact (Below.heap_setCell _ _ _ _ (by have := HD.out; simp; omega)).trans ((Below.heap_setCell _ _ _ _ (by have := HD.out; simp; omega)).trans (blk_below HK.out hb1.out))
        · exact (blk_set (blk_set hg0.out 0 _) 1 _).trans rfl
        · exact ((below_step H7.out hb1.out).setCell (p := ⟨w.heap.size, 0, none⟩) (Nat.le_refl _) _).setCell (p := ⟨w.heap.size, 1, none⟩) (Nat.le_refl _) _
set_option maxRecDepth 100000 in
set_option maxHeartbeats 1000000 in
theorem sread_big (l : List UInt8) (hl : 20000 < l.length) (hm : l.length ≤ 9223372036854775807) (w : World) : Calls Tryd.prog 8 #[.string ⟨l.toArray⟩] w fun e w' => ∃ v, e = .returned (.tuple #[.agg #[.int .i64 0, v], .int .i64 1]) ∧ Kd.R kE 45 w' w.heap.size (fun _ => True) v [] ∧ Below w.heap.size w w' := by
  have e0 : decide (20000 < (l.length : Int)) = true := decide_eq_true (by omega)
  have hb := blk_new w (gC 0 (.slice none 0 0))
  have HB := Lib.hid hb
  clear hb
  go_enter Tryd.func8, Tryd.ntmps8
  go_wp2
  have c0 : (w.alloc (gC 0 (.slice none 0 0))).cell? ⟨w.heap.size, 0, none⟩ = some (.int .i64 0) := (blk_cell HB.out 0).trans rfl
  have c1 : (w.alloc (gC 0 (.slice none 0 0))).cell? ⟨w.heap.size, 1, none⟩ = some (.slice none 0 0) := (blk_cell HB.out 1).trans rfl
  exact bodyPost_ret (v := .tuple #[.agg #[.int .i64 0, .slice none 0 0], .int .i64 1]) (by simp [results, Tryd.results8, go_sem, c0, c1]) rfl ⟨_, rfl, Kd.R_nil _ _ _ _ _, below_alloc (Below.refl _ _) _⟩
/-- sheet.Read: the graph of a text. -/
theorem sread_calls (l : List UInt8) (hm : l.length ≤ 9223372036854775807) (w : World) (hv : Vars w) : Calls Tryd.prog 8 #[.string ⟨l.toArray⟩] w fun e w' => ∃ v, e = .returned (.tuple #[.agg #[.int .i64 (graphP l).1, v], .int .i64 (graphP l).2.2]) ∧ Kd.R kE 45 w' w.heap.size (fun _ => True) v (graphP l).2.1 ∧ Below w.heap.size w w' := by
  rcases Nat.lt_or_ge 20000 l.length with h | h
  · have e : graphP l = (0, [], 1) := by unfold graphP; rw [if_pos h]
    rw [e]
    exact sread_big l h hm w
  · exact callsIn_wide.1 (sread_in l h w hv)
end Go.Proofs.YtgjedgfncopjlaaDoor.Lines
