/- sheet.Show: its contract. -/
import Derived.Test.YtgjedgfncopjlaaDoorShl
import Derived.Test.YtgjedgfncopjlaaDoorChk
namespace Go.Proofs.YtgjedgfncopjlaaDoor.Lines
open Go Go.RowKit Go.Shelf Go.Proofs.YtgjedgfncopjlaaDoorW.PrintWords Go.Proofs.YtgjedgfncopjlaaDoorW.PrintLast Go.Proofs.YtgjedgfncopjlaaDoorW.PrintMore
set_option linter.unusedVariables false
set_option linter.unusedSimpArgs false
def lineE (x : Ed) : List UInt8 := wS [x.f0, x.f1, x.f2] ++ [10]
def accG (n : Int) (es : List Ed) : List UInt8 := wS [n] ++ [10] ++ es.flatMap lineE
def showP (n : Int) (es : List Ed) : List UInt8 × Int := if checkP n es = 0 then (accG n es, 0) else ([], checkP n es)
theorem below_weak {m n : Nat} {w w' : World} (h : m ≤ n) (hb : Below n w w') : Below m w w' := ⟨hb.os, hb.tape, hb.output, hb.size, fun k hk => hb.block k (Nat.lt_of_lt_of_le hk h)⟩
theorem edge_bounds {n : Int} {x : Ed} (hn : n ≤ 200) (h : edgeOk n x = true) : ∀ y ∈ [x.f0, x.f1, x.f2], 0 ≤ y ∧ y ≤ 1152921504606846976 := by
  unfold edgeOk inP at h
  simp at h
  intro y hy
  simp at hy
  rcases hy with rfl | rfl | rfl <;> omega
theorem accG_len (n : Int) (es : List Ed) (hn : 0 ≤ n ∧ n ≤ 200) (h : es.all (edgeOk n) = true) : (accG n es).length ≤ 23 + 67 * es.length := by
  have h0 := wS_len [n] (by intro x hx; simp at hx; subst hx; omega)
  have h1 : ∀ l : List Ed, l.all (edgeOk n) = true → (l.flatMap lineE).length ≤ 67 * l.length := by
    intro l
    induction l with
    | nil => intro; simp
    | cons x r ih =>
      intro h
      rw [List.all_cons, Bool.and_eq_true] at h
      have h2 := ih h.2
      have h3 := wS_len _ (edge_bounds hn.2 h.1)
      rw [List.flatMap_cons, List.length_append, lineE, List.length_append]
      simp only [List.length_cons, List.length_nil] at h3 ⊢
      omega
  have h2 := h1 es h
  rw [accG, List.length_append, List.length_append]
  simp only [List.length_cons, List.length_nil] at h0 ⊢
  omega
theorem accG_snoc (n : Int) (es : List Ed) (x : Ed) : accG n (es ++ [x]) = accG n es ++ (wS [x.f0, x.f1, x.f2] ++ [10]) := by
  simp [accG, lineE]
theorem check_zero {n : Int} {es : List Ed} (h : checkP n es = 0) : (0 ≤ n ∧ n ≤ 200) ∧ es.length ≤ 600 ∧ es.all (edgeOk n) = true := by
  unfold checkP at h
  split at h
  · omega
  · split at h
    · rename_i h1 h2
      exact ⟨by omega, by omega, h2⟩
    · omega
theorem show1_one (B b s : Nat) (bs : List UInt8) (n : Int) (hn : 0 ≤ n ∧ n ≤ 200) (hlen : bs.length + 23 ≤ 140737488355328) (w : World) (hv : Vars w)
    (h : Lib.IsBuilderF tB tU B b (Lib.byteCells bs) w) (h9 : 9 ≤ B) (hBw : B ≤ w.heap.size) (hs : w.heap[s]? = some (.cells #[.int .i64 n] 3)) (hsb : s ≠ b) :
    Calls Tryd.prog 28 #[.slice (some ⟨s, 0, none⟩) 1 1, .pointer (some ⟨b, 0, none⟩)] w fun e w' => e = .returned (.tuple #[]) ∧ Lib.IsBuilderF tB tU B b (Lib.byteCells (bs ++ wS [n] ++ [10])) w' ∧ Below B w w' :=
  show1_calls B b s bs [n] (by intro x hx; simp at hx; subst hx; omega) (by simp; omega) w hv h h9 hBw hs hsb
theorem show1_three (B b s : Nat) (bs : List UInt8) (x0 x1 x2 : Int) (hx : ∀ y ∈ [x0, x1, x2], 0 ≤ y ∧ y ≤ 1152921504606846976) (hlen : bs.length + 67 ≤ 140737488355328) (w : World) (hv : Vars w)
    (h : Lib.IsBuilderF tB tU B b (Lib.byteCells bs) w) (h9 : 9 ≤ B) (hBw : B ≤ w.heap.size) (hs : w.heap[s]? = some (.cells #[.int .i64 x0, .int .i64 x1, .int .i64 x2] 3)) (hsb : s ≠ b) :
    Calls Tryd.prog 28 #[.slice (some ⟨s, 0, none⟩) 3 3, .pointer (some ⟨b, 0, none⟩)] w fun e w' => e = .returned (.tuple #[]) ∧ Lib.IsBuilderF tB tU B b (Lib.byteCells (bs ++ wS [x0, x1, x2] ++ [10])) w' ∧ Below B w w' :=
  show1_calls B b s bs [x0, x1, x2] hx (by simp; omega) w hv h h9 hBw hs hsb
theorem bld_new (w : World) : Lib.IsBuilderF tB tU w.heap.size w.heap.size (Lib.byteCells []) (w.alloc (.cells #[.pointer none, .slice none 0 0] tB)) :=
  .inl ⟨Nat.le_refl _, .slice none 0 0, blk_new _ _, World.ownsRowF_nil _ _ _ _, by simp [Value.ownBlock]⟩
def RelG (w : World) (b : Nat) (n : Int) (es : List Ed) (v23 : Value) (w' : World) : Prop :=
  ∃ i : Nat, i ≤ es.length ∧ v23 = .int .i64 i ∧ Lib.IsBuilderF tB tU b b (Lib.byteCells (accG n (es.take i))) w' ∧ Below w.heap.size w w' ∧ b < w'.heap.size
set_option maxRecDepth 100000 in
set_option maxHeartbeats 2000000 in
theorem show_calls (n : Int) (A : Option Addr) (c : Nat) (es : List Ed) (w : World) (hv : Vars w) (hC : Kd.C kE w A es.length es) (hc : es.length ≤ c) : Calls Tryd.prog 16 #[.agg #[.int .i64 n, .slice A es.length c]] w fun e w' => e = .returned (.tuple #[.string ⟨(showP n es).1.toArray⟩, .int .i64 (showP n es).2]) ∧ Below w.heap.size w w' := by
  have HC := Lib.hid hC
  have HV := Lib.hid hv
  have HB := Lib.hid (below_alloc (Below.refl w.heap.size w) (.cells #[.int .i64 n, .slice A es.length c] 30))
  have CC := Lib.hid (check_calls n A c es _ (Kd.C_below hC HB.out) hc)
  clear hC hv
  have HP : Aside0 (showP n es = if checkP n es = 0 then (accG n es, 0) else ([], checkP n es)) := ⟨rfl⟩
  have HZ : Aside0 (checkP n es = 0 → (0 ≤ n ∧ n ≤ 200) ∧ es.length ≤ 600 ∧ es.all (edgeOk n) = true) := ⟨fun h => check_zero h⟩
  generalize checkP n es = r at *
  generalize showP n es = R at *
  by_cases hr : r = 0
  · subst hr
    obtain ⟨hn, hl, hall⟩ := HZ.out rfl
    have HR : Aside0 (R = (accG n es, 0)) := ⟨by rw [HP.out, if_pos rfl]⟩
    have HL := accG_len n
    have HAll := Lib.hid hall
    clear HP HZ hall
    go_enter Tryd.func16, Tryd.ntmps16
    go_wp2_with (first
      | (go_at_call 27; with_reducible refine CC.out.mono ?_; rintro e w1 ⟨rfl, hb1⟩; have dg := blk_below (blk_new w (.cells #[.int .i64 n, .slice A es.length c] 30)) hb1; have d0 : ∀ o, (w1.alloc o).cell? ⟨w.heap.size, 0, none⟩ = some (.int .i64 n) := fun o => (blk_cell (blk_alloc dg o) 0).trans rfl; replace dg := Lib.hid dg; replace hb1 := Lib.hid hb1)
      | (go_at_call 28; with_reducible refine (show1_one w1.heap.size w1.heap.size (w1.heap.size + 1) [] n hn (by simp) _ (HV.out.below (below_alloc (below_alloc (below_step HB.out hb1.out) _) _) HV.out.n9) (bld_below (bld_new w1) (below_alloc (Below.refl _ _) _)) (by have := HV.out.n9; have := hb1.out.size; simp at this; omega) (by simp; omega) (by have h := blk_new (w1.alloc (.cells #[.pointer none, .slice none 0 0] tB)) (.cells #[.int .i64 n] 3); rwa [World.size_alloc] at h) (by omega)).mono ?_; rintro e w2 ⟨rfl, hbd, hb2⟩; have e1 : w2.cell? ⟨w.heap.size, 1, none⟩ = some (.slice A es.length c) := (blk_cell ((hb2.block w.heap.size (by have := hb1.out.size; simp at this; omega)).trans (blk_alloc (blk_alloc dg.out _) _)) 1).trans rfl; replace hbd := Lib.hid hbd; replace hb2 := Lib.hid hb2))
    have hw1 : w.heap.size < w1.heap.size := by have := hb1.out.size; simp at this; omega
    have HB2 := Lib.hid ((below_alloc (below_alloc (below_step HB.out hb1.out) _) _).trans (below_weak (Nat.le_of_lt hw1) hb2.out))
    have HBX := Lib.hid hb2.out.size
    clear hb1 dg d0 e1 hb2 CC HB
    generalize hb : w1.heap.size = b at *
    go_loopw [23] (fun v23 w' => RelG w b n es v23 w') (fun v23 _ => es.length - (intOf v23).toNat)
    case atStart =>
      refine ⟨0, by omega, rfl, ?_, HB2.out, ?_⟩
      · have h := hbd.out
        simpa [accG] using h
      · have := HBX.out
        simp at this
        omega
    case round =>
      obtain ⟨i, hi, rfl, hbi, hB, hbs⟩ := hrel
      have HBI := Lib.hid hbi
      have HBE := Lib.hid hB
      clear hbi hB hbd HB2 HBX
      rcases Nat.lt_or_ge i es.length with h8 | h8
      · obtain ⟨ad, rfl, z0, z1, z2⟩ := PSheetReads.at_T45 (Kd.C_below HC.out HBE.out) (i : Int) (by omega) (by omega)
        have HT : Aside0 (es.take (i + 1) = es.take i ++ [es[i]'h8]) := ⟨by simp⟩
        have HM := Lib.hid (edge_bounds hn.2 (List.all_eq_true.1 HAll.out _ (List.getElem_mem h8)))
        have HLT : Aside0 ((accG n (es.take i)).length + 67 ≤ 140737488355328) := ⟨by
          have h1 := HL (es.take i) hn (by rw [List.all_eq_true]; exact fun x hx => List.all_eq_true.1 HAll.out x (List.mem_of_mem_take hx))
          rw [List.length_take] at h1
          omega⟩
        have hrd : PSheetReads.rd_T45 es i = es[i]'h8 := by unfold PSheetReads.rd_T45; simp [h8]
        rw [hrd] at z0 z1 z2
        rw [Int.toNat_natCast] at z0 z1 z2
        clear hrd
        generalize es[i]'h8 = x at *
        obtain ⟨x0, x1, x2⟩ := x
        simp only at z0 z1 z2 HM
        go_wp2_with (first
          | (go_at_call 28; with_reducible refine (show1_three b b (wr.heap.size + 1) (accG n (es.take i)) x0 x1 x2 HM.out HLT.out _ (HV.out.below (below_alloc (below_alloc HBE.out _) _) HV.out.n9) (bld_below HBI.out (below_alloc (below_alloc (Below.refl _ _) _) _)) (by have := HV.out.n9; omega) (by simp; omega) (by have h := blk_new (wr.alloc (.cells #[.int .i64 x0, .int .i64 x1, .int .i64 x2] 45)) (.cells #[.int .i64 x0, .int .i64 x1, .int .i64 x2] 3); rwa [World.size_alloc] at h) (by omega)).mono ?_; rintro e w3 ⟨rfl, hbd, hb2⟩; replace hbd := Lib.hid hbd; replace hb2 := Lib.hid hb2))
        go_roundw
        case rel =>
          refine ⟨i + 1, h8, by go_num, ?_, (below_alloc (below_alloc HBE.out _) _).trans (below_weak (Nat.le_of_lt hw1) hb2.out), Nat.lt_of_lt_of_le (by simp; omega) hb2.out.size⟩
          rw [HT.out, accG_snoc, ← List.append_assoc]
          exact hbd.out
        case measure => simp [intOf]; omega
      · obtain rfl : i = es.length := by omega
        go_wp2_with (first | (go_at_call 31; with_reducible refine (Tryd.Builder_String_any_f b b _ _ HBI.out (Nat.le_of_lt hbs)).mono ?_; rintro e w3 ⟨rfl, -, hb2⟩; replace hb2 := Lib.hid hb2))
        go_ret2
        refine ⟨?_, HBE.out.trans (below_weak (Nat.le_of_lt hw1) hb2.out)⟩
        rw [HR.out]
        rfl
  · have e1 : (r != 0) = true := by simpa using hr
    have HR : Aside0 (R = ([], r)) := ⟨by rw [HP.out, if_neg hr]⟩
    clear HP HZ
    go_enter Tryd.func16, Tryd.ntmps16
    go_wp2_with (first
      | (go_at_call 27; with_reducible refine CC.out.mono ?_; rintro e w1 ⟨rfl, hb1⟩; replace hb1 := Lib.hid hb1))
    go_ret2
    exact ⟨by rw [HR.out]; rfl, below_step HB.out hb1.out⟩
end Go.Proofs.YtgjedgfncopjlaaDoor.Lines
