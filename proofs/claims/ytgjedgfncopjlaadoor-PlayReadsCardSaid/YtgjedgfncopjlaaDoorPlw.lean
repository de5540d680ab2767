/- The law PlayReads: its walk, out of the contracts. -/
import Derived.Test.YtgjedgfncopjlaaDoorPre
namespace Go.Proofs.YtgjedgfncopjlaaDoor.Lines
open Go Go.RowKit Go.Shelf Go.Proofs.YtgjedgfncopjlaaDoorW.PrintWords Go.Proofs.YtgjedgfncopjlaaDoorW.PrintLast Go.Proofs.YtgjedgfncopjlaaDoorW.PrintMore Go.Proofs.YtgjedgfncopjlaaDoor.PPlayReads
set_option linter.unusedVariables false
set_option linter.unusedSimpArgs false
set_option maxRecDepth 100000 in
set_option maxHeartbeats 1000000 in
theorem play_walk (l : List UInt8) (hm : l.length ≤ 9223372036854775807) (k : Nat) (h1 : pacelineref_MovesRead.f k ⟨l.toArray⟩ = some (readP l)) (h2 : pacelinelaw_sameMoves.f k (readP l).1 (readP l).1 = some true) (w : World) (hv : Vars w) (hf : Forms w) :
    Calls Tryd.prog 3 #[.string ⟨l.toArray⟩] w fun e w' => e = .returned (.bool true) ∧ Below w.heap.size w w' := by
  have RC := Lib.hid (read_calls l hm w hv hf)
  clear hv hf hm
  generalize readP l = R at *
  obtain ⟨m, c⟩ := R
  have H1 := Lib.hid h1
  have H2 := Lib.hid h2
  clear h1 h2
  go_enter Tryd.func3, Tryd.ntmps3
  go_wp2_with (first
    | (go_at_call 5; with_reducible refine RC.out.mono ?_; rintro e w1 ⟨v, rfl, hR, hb⟩; obtain ⟨A, cp, rfl, hA, hC⟩ := Kd.R_reads hR; clear hR; replace hA := Lib.hid hA; replace hC := Lib.hid hC; replace hb := Lib.hid hb)
    | (go_at_call 6; with_reducible refine (pacelineref_MovesRead.calls k _ m c _ H1.out).mono ?_; rintro e w2 ⟨v2, rfl, hR2, hb2⟩; obtain ⟨A2, cp2, rfl, hA2, hC2⟩ := Kd.R_reads hR2; clear hR2; replace hA2 := Lib.hid hA2; replace hC2 := Lib.hid hC2; replace hb2 := Lib.hid hb2)
    | (go_at_call 7; with_reducible refine (pacelinelaw_sameMoves.calls k A cp m A2 cp2 m true _ (Kd.C_below hC.out hb2.out) hA.out hC2.out hA2.out H2.out).mono ?_; rintro e w3 ⟨rfl, ⟨⟨nd, rfl⟩⟩⟩))
  go_ret
  exact ⟨rfl, pw_below_drewN (below_step hb.out hb2.out) _⟩
end Go.Proofs.YtgjedgfncopjlaaDoor.Lines
