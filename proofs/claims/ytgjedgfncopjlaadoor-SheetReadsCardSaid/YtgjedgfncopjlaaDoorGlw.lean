/- The law SheetReads: its walk, out of the contracts. -/
import Derived.Test.YtgjedgfncopjlaaDoorGre
import Derived.Test.YtgjedgfncopjlaaDoorPSheetReadsx57
import Derived.Test.YtgjedgfncopjlaaDoorPSheetReadsx58
namespace Go.Proofs.YtgjedgfncopjlaaDoor.Lines
open Go Go.RowKit Go.Shelf Go.Proofs.YtgjedgfncopjlaaDoorW.PrintWords Go.Proofs.YtgjedgfncopjlaaDoorW.PrintLast Go.Proofs.YtgjedgfncopjlaaDoorW.PrintMore Go.Proofs.YtgjedgfncopjlaaDoor.PSheetReads
set_option linter.unusedVariables false
set_option linter.unusedSimpArgs false
set_option maxRecDepth 100000 in
set_option maxHeartbeats 1000000 in
theorem sheet_walk (l : List UInt8) (hm : l.length ≤ 9223372036854775807) (k : Nat) (h1 : pacelineref_GraphRead.f k ⟨l.toArray⟩ = some (graphP l)) (h2 : pacelinelaw_sameGraph.f k (graphP l).1 (graphP l).2.1 (graphP l).1 (graphP l).2.1 = some true) (w : World) (hv : Vars w) :
    Calls Tryd.prog 4 #[.string ⟨l.toArray⟩] w fun e w' => e = .returned (.bool true) ∧ Below w.heap.size w w' := by
  have RC := Lib.hid (sread_calls l hm w hv)
  clear hv hm
  generalize graphP l = R at *
  obtain ⟨n, m, c⟩ := R
  have H1 := Lib.hid h1
  have H2 := Lib.hid h2
  clear h1 h2
  go_enter Tryd.func4, Tryd.ntmps4
  go_wp2_with (first
    | (go_at_call 8; with_reducible refine RC.out.mono ?_; rintro e w1 ⟨v, rfl, hR, hb⟩; obtain ⟨A, cp, rfl, hA, hC⟩ := Kd.R_reads hR; clear hR; replace hA := Lib.hid hA; replace hC := Lib.hid hC; replace hb := Lib.hid hb)
    | (go_at_call 9; with_reducible refine (pacelineref_GraphRead.calls k _ n m c _ H1.out).mono ?_; rintro e w2 ⟨v2, rfl, hR2, hb2⟩; obtain ⟨A2, cp2, rfl, hA2, hC2⟩ := Kd.R_reads hR2; clear hR2; have ha := blk_below (blk_new w1 (.cells #[.int .i64 n, .slice A m.length cp] 30)) hb2; have d0 : ∀ o, (w2.alloc o).cell? ⟨w1.heap.size, 0, none⟩ = some (.int .i64 n) := fun o => (blk_cell (blk_alloc ha o) 0).trans rfl; have d1 : ∀ o, (w2.alloc o).cell? ⟨w1.heap.size, 1, none⟩ = some (.slice A m.length cp) := fun o => (blk_cell (blk_alloc ha o) 1).trans rfl; clear ha; replace hA2 := Lib.hid hA2; replace hC2 := Lib.hid hC2; replace hb2 := Lib.hid hb2)
    | (go_at_call 10; with_reducible refine (pacelinelaw_sameGraph.calls k n A cp m n A2 cp2 m true _ (Kd.C_below hC.out ((below_alloc (Below.refl _ _) _).trans (below_weak (by simp) (below_alloc hb2.out _)))) hA.out (Kd.C_below hC2.out (below_alloc (Below.refl _ _) _)) hA2.out H2.out).mono ?_; rintro e w3 ⟨rfl, hb3⟩; replace hb3 := Lib.hid hb3))
  go_ret
  exact ⟨rfl, below_step (below_alloc (below_step (below_alloc hb.out _) hb2.out) _) hb3.out⟩
end Go.Proofs.YtgjedgfncopjlaaDoor.Lines
