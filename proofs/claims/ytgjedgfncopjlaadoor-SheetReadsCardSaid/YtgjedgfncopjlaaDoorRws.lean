/- Proved: pacelinelaw.SheetReads returns true at every string, and the string reads behind the call as it read before. Conditions: those of the given row alone (the listed package variables hold what the program text lays). -/
import Derived.Test.YtgjedgfncopjlaaDoorLaid
import Derived.Test.YtgjedgfncopjlaaDoorGpc
import Derived.Test.YtgjedgfncopjlaaDoorTie
import Derived.Test.YtgjedgfncopjlaaDoorCards
import Derived.Deep.DeepHandedRow
import Derived.WalkKit
import Derived.ProofKit
import Derived.OpenShut
import Derived.ShutString
import Derived.ChangeOld
import Derived.Below
import Derived.SizedLaws
import Derived.Lay
import Derived.JoinedCond
import Derived.LaidByTextLater
import Derived.SevenTiedAt
namespace Go.Proofs.YtgjedgfncopjlaaDoor.sheetReads
open Go Go.ChangeShapes Go.WideShapes Go.ChangeAt Go.RowKit
open Go.ChangeMaps (open_string shut_string)
set_option linter.unusedVariables false
set_option maxRecDepth 100000 in
theorem lifted (os : Os) (started : os.Started) (H : Type) (enc : TypeId × Value → H) (F : Stop.Interp) :
    ReturnsInHanded {} Tryd.checked os 4 .any ((OpenSpec.ofChange Rows.sheetReadsSpec).preRow enc Tryd.prog Tryd.f4 Rows.sheetReadsRow.domain false Rows.sheetReadsRow.laid) (((OpenSpec.ofChange Rows.sheetReadsSpec).at F).post enc Tryd.prog Tryd.f4 false true false false) := by
  have own : ownKnob Tryd.prog.godebug = none := by kernel_rfl
  refine returnsInHanded_of_row (C := Tryd.checked) (s := OpenSpec.ofChange Rows.sheetReadsSpec) own started (by kernel_rfl) Tryd.func4
    (ChangeSpec.witness_shaped (enc := enc) (C := Tryd.checked) (os := os) (s := Rows.sheetReadsSpec) (X := fun w _ => laidMetH Tryd.prog Rows.sheetReadsRow.laid w) false (World.laidAll Tryd.prog os Rows.sheetReadsRow.laid) #[.string ⟨#[]⟩] 8 (World.laidAll_os _ _ _)
      (World.shaped_of_ZipB (by kernel_rfl) (by kernel_rfl)) (by kernel_rfl) (by kernel_rfl) (by kernel_rfl)
      (by rw [MakeChecks.laidMetH_plain _ _ _ (by kernel_rfl)]; exact laidMet_laidAll _ (by kernel_rfl) (by kernel_rfl))) ?_
  intro W base args ds gs before hval0 hW _ _ hsz0 hL hsh _
  have hsz : (DataW.weightsEach Tryd.prog (Tryd.f4.params.toList ++ Rows.sheetReadsSpec.plain.varTypes Tryd.prog) (ds ++ gs)).all (· ≤ reachBytes) = true := hsz0
  have hval : ∀ (j : Nat) t v, Tryd.f4.params[j]? = some t → args[j]? = some v → Value.okWide Tryd.prog W .any base t v := hval0
  have hW' := hW
  obtain ⟨p, q, hA0, hV, rfl, _, _⟩ := hW
  have hA : DataW.TrodAll enc Tryd.prog W 0 (fun _ => true) true Tryd.f4.params.toList args.toList ds p := hA0
  have hp : Tryd.f4.params = #[9] := by kernel_rfl
  have u9 : Tryd.prog.underlying 9 = some .string := by kernel_rfl
  have u4 : Tryd.prog.underlying 4 = some .bool := by kernel_rfl
  rw [hp] at hA hval hsz
  obtain ⟨v0, d0, rfl, rfl, h0⟩ := trodAll_one hA
  obtain ⟨rfl, rfl⟩ := trodVars_none hV
  obtain ⟨s, rfl, rfl, rfl, hs⟩ := open_string u9 (hval 0 9 v0 rfl rfl) h0
  clear hA0 hval0 hsz0
  simp only [List.append_nil] at hW'
  rw [MakeChecks.laidMetH_plain _ _ _ (by kernel_rfl)] at hL
  have hv : Lines.Vars W := Lines.vars_of hL hsh
  have hm : s.data.toList.length ≤ 9223372036854775807 := by
    have h1 := sized_string hsz (j := 0) (t := 9) rfl rfl
    have h2 := reachBytes_lt
    have e3 : (2 : Nat) ^ 47 = 140737488355328 := by decide
    omega
  obtain ⟨k, k1, k2⟩ := Lines.sheet_plain s.data.toList
  refine (Lines.sheet_walk s.data.toList hm k k1 k2 W hv).mono ?_
  rintro e W' ⟨rfl, bel⟩
  exact ⟨_, rfl, _, _, _, [], [], [], hW', trodAll_mk1 (shut_bool u4 _), trodAll_mk1 (shut_string u9 hs), rfl, bel.frame _, fun h => by cases h⟩
theorem holds : Rows.SheetReadsSaid :=
  OpenClaim.holds_of_cond 4 Tryd.f4 rfl rfl rfl rfl rfl rfl rfl ⟨rfl, rfl, rfl, rfl, rfl⟩ rfl rfl rfl rfl rfl (by kernel_rfl) Tryd.func4 (by kernel_rfl)
    (of_decide_eq_true (by kernel_rfl)) (by unfold Func.isWrapper; first | (rw [if_pos (by decide +kernel)]; kernel_rfl) | (rw [if_neg (by decide +kernel)]; exact ⟨rfl, rfl⟩))
    (fun os started H enc _ F0 => by rw [OpenClaim.pre_eq_preRow]; exact lifted os started H enc F0)
/-- The card. -/
theorem card_holds : Rows.SheetReadsCardSaid :=
  Claim7.holds_tied_plain_at .later [] [.data, .data, .data, .data, .sentinel, .sentinel, .pinned] true (true, "ae121cccac29150aa49763e03f3640a681f6c08ffb3d5d7ea4c714f84c1da24d") true
    holds (fun _ h => by cases h) (by kernel_rfl) (fun _ h => by cases h) sheetReads_row_tie rfl ⟨rfl, rfl⟩ (by kernel_rfl) rfl
    (fun f fn hf hfn => by
      obtain rfl : f = 4 := Option.some.inj ((show Tryd.prog.funcNamed "paceline/pacelinelaw.SheetReads" = some 4 by kernel_rfl).symm.trans hf) |>.symm
      obtain rfl : fn = Tryd.f4 := (Option.some.inj (Tryd.func4.symm.trans hfn)).symm
      exact ⟨by kernel_rfl, fun j t ht => by
        rw [show Tryd.f4.params = #[9] by kernel_rfl] at ht
        have hm : t ∈ [9] := by simpa using Array.mem_of_getElem? ht
        have hall : ([9].all fun u => !Tryd.prog.wantsStandIn u) = true := by kernel_rfl
        exact (show Tryd.prog.wantsStandIn t = false by simpa using List.all_eq_true.1 hall t hm)⟩)
    (by kernel_rfl)
end Go.Proofs.YtgjedgfncopjlaaDoor.sheetReads
namespace Go.Proofs.YtgjedgfncopjlaaDoor
/-- The card, under a short name, for the claim. -/
theorem sheetReads_card : Rows.SheetReadsCardSaid := sheetReads.card_holds
#print axioms sheetReads_card
end Go.Proofs.YtgjedgfncopjlaaDoor
