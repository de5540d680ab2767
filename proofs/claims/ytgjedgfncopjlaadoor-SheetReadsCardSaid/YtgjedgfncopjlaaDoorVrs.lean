/- What the library's variables hold; strconv.Atoi at every string. -/
import Derived.Test.YtgjedgfncopjlaaDoorLns
import Derived.Test.YtgjedgfncopjlaaDoorWMore
namespace Go.Proofs.YtgjedgfncopjlaaDoor.Lines
open Go Go.RowKit Go.Shelf Go.Proofs.YtgjedgfncopjlaaDoorW.PrintWords Go.Proofs.YtgjedgfncopjlaaDoorW.PrintLast Go.Proofs.YtgjedgfncopjlaaDoorW.PrintMore
set_option linter.unusedVariables false
set_option linter.unusedSimpArgs false
def IsErr (v : Value) : Prop := v = .nilIface ∨ ∃ te pe, v = .iface te pe
structure Vars (w : World) : Prop where
  n9 : 9 ≤ w.heap.size
  mx : ∃ m, w.cell? ⟨1, 0, none⟩ = some (.int .i64 m)
  es : ∃ ev, w.cell? ⟨2, 0, none⟩ = some ev ∧ IsErr ev
  er : ∃ ev, w.cell? ⟨3, 0, none⟩ = some ev ∧ IsErr ev
  tab : Lib.TabIs Tryd.prog w "internal/strconv.uint64pow10" .u64 Lib.pow10Tab
theorem Vars.below {n : Nat} {w w' : World} (h : Vars w) (hb : Below n w w') (hn : 9 ≤ n) : Vars w' where
  n9 := Nat.le_trans h.n9 hb.size
  mx := by obtain ⟨m, hm⟩ := h.mx; exact ⟨m, (hb.cell (p := ⟨_, 0, none⟩) (by simp; omega)).trans hm⟩
  es := by obtain ⟨m, hm, hi⟩ := h.es; exact ⟨m, (hb.cell (p := ⟨_, 0, none⟩) (by simp; omega)).trans hm, hi⟩
  er := by obtain ⟨m, hm, hi⟩ := h.er; exact ⟨m, (hb.cell (p := ⟨_, 0, none⟩) (by simp; omega)).trans hm, hi⟩
  tab := by
    have ht := h.tab
    have hg : Tryd.prog.globalNamed "internal/strconv.uint64pow10" = some 4 := by kernel_rfl
    unfold Lib.TabIs World.var? at *
    rw [hg] at *
    simp only [Option.bind_some] at ht ⊢
    rw [hb.block 4 (by omega)]
    exact ht
/-- strconv.Atoi: the number, and whether there was no error. -/
def atoiP (l : List UInt8) : Int × Bool := match Lib.atoiAll l with
  | .ok v => (v, true)
  | .range => (Lib.atoiSat l, false)
  | _ => (0, false)
theorem atoi_calls (l : List UInt8) (hlim : l.length ≤ 281474976710656) (w : World) (hv : Vars w) : Calls Tryd.prog 23 #[.string ⟨l.toArray⟩] w fun e w' => (∃ er, e = .returned (.tuple #[.int .i64 (atoiP l).1, er]) ∧ ((atoiP l).2 = true → er = .nilIface) ∧ ((atoiP l).2 = false → ∃ N, er = .iface 85 (.pointer (some ⟨N, 0, none⟩)))) ∧ Below w.heap.size w w' := by
  have hs : (⟨l.toArray⟩ : ByteArray).size = l.length := by rw [Lib.size_eq]
  unfold atoiP
  cases h : Lib.atoiAll l
  case ok v =>
    refine (Tryd.strconv_Atoi_ok ⟨l.toArray⟩ (by omega) v (by simpa using h) w).mono ?_
    rintro e w' ⟨rfl, hw⟩
    refine ⟨⟨_, rfl, fun _ => rfl, fun h => by simp at h⟩, ?_⟩
    rcases hw with rfl | ⟨t, rfl⟩
    · exact Below.refl _ _
    · exact Lib.bytesWorld_below _ _ _
  case range =>
    obtain ⟨ev, h1, h2⟩ := hv.er
    refine (Tryd.strconv_Atoi_range ⟨l.toArray⟩ (by omega) (by simpa using h) ev w h1 h2).mono ?_
    rintro e w' ⟨N, rfl, -, -, hb⟩
    exact ⟨⟨_, rfl, fun h => by simp at h, fun _ => ⟨N, rfl⟩⟩, hb⟩
  obtain ⟨ev, h1, h2⟩ := hv.es
  refine (Tryd.strconv_Atoi_syntax ⟨l.toArray⟩ (by omega) (by rw [show (⟨l.toArray⟩ : ByteArray).data.toList = l by simp]; exact h) ev w h1 h2).mono ?_
  rintro e w' ⟨N, rfl, -, -, hb⟩
  exact ⟨⟨_, rfl, fun h => by simp at h, fun _ => ⟨N, rfl⟩⟩, hb⟩
/-- A line's words: what stands between blanks. -/
def splitL : List UInt8 → List (List UInt8)
  | [] => [[]]
  | c :: r => if c = 32 then [] :: splitL r else match splitL r with
    | [] => [[c]]
    | x :: xs => (c :: x) :: xs
theorem splitL_ne : ∀ l, splitL l ≠ []
  | [] => by simp [splitL]
  | c :: r => by
    unfold splitL
    split
    · simp
    · split <;> simp
theorem split_nf : ∀ l : List UInt8, Lib.indexByte l 32 = -1 → splitL l = [l]
  | [], _ => rfl
  | c :: r, h => by
    unfold Lib.indexByte at h
    by_cases hc : c = 32
    · simp [hc] at h
    · rw [if_neg (by simpa using hc)] at h
      have hr : Lib.indexByte r 32 = -1 := by
        have := Lib.indexByte_ge r 32
        by_cases h1 : Lib.indexByte r 32 = -1
        · exact h1
        · rw [if_neg (by simpa using h1)] at h
          omega
      rw [splitL, if_neg hc, split_nf r hr]
theorem split_hit : ∀ (l : List UInt8) (i : Nat), Lib.indexByte l 32 = i → splitL l = l.take i :: splitL (l.drop (i + 1))
  | [], i, h => by simp [Lib.indexByte] at h
  | c :: r, i, h => by
    unfold Lib.indexByte at h
    by_cases hc : c = 32
    · rw [if_pos (by simpa using hc)] at h
      obtain rfl : i = 0 := by omega
      rw [splitL, if_pos hc]
      simp
    · rw [if_neg (by simpa using hc)] at h
      by_cases h1 : Lib.indexByte r 32 = -1
      · rw [if_pos (by simpa using h1)] at h
        omega
      · rw [if_neg (by simpa using h1)] at h
        obtain ⟨j, rfl⟩ : ∃ j, i = j + 1 := ⟨i - 1, by have := Lib.indexByte_ge r 32; omega⟩
        rw [splitL, if_neg hc, split_hit r j (by omega)]
        simp
abbrev blank : ByteArray := ⟨#[32]⟩
theorem indexB_blank (s : ByteArray) : Lib.indexB s blank = Lib.indexByte s.data.toList 32 := by
  rw [← Lib.index_one]
theorem splitB_blank : ∀ (n : Nat) (s : ByteArray), s.size ≤ n → Lib.splitB blank 0 (Lib.countB s blank) s = (splitL s.data.toList).map (fun x => ⟨x.toArray⟩) := by
  intro n
  induction n with
  | zero =>
    intro s hs
    have h : s.data.toList = [] := List.eq_nil_of_length_eq_zero (by rw [← Lib.size_eq]; omega)
    have hi : Lib.indexB s blank = -1 := by rw [indexB_blank, h]; rfl
    rw [Lib.splitB_miss _ _ _ _ hi, split_nf _ (by rw [← indexB_blank]; exact hi)]
    simp
  | succ n ih =>
    intro s hs
    by_cases hi : Lib.indexB s blank = -1
    · rw [Lib.splitB_miss _ _ _ _ hi, split_nf _ (by rw [← indexB_blank]; exact hi)]
      simp
    · have hge := Lib.indexByte_ge s.data.toList 32
      rw [indexB_blank] at hi
      obtain ⟨i, he⟩ := Int.eq_ofNat_of_zero_le (by omega : 0 ≤ Lib.indexByte s.data.toList 32)
      have hi' : Lib.indexB s blank = (i : Int) := by rw [indexB_blank]; exact he
      have hlt : i < s.size := by
        rw [Lib.size_eq]
        exact (List.getElem?_eq_some_iff.1 (Lib.indexByte_some he).1).1
      have h1 : blank.size = 1 := rfl
      rw [Lib.countB_hit s blank i (by decide) hi', Nat.add_comm, Lib.splitB_hit _ _ _ _ i hi', h1, ih _ (by simp; omega), split_hit _ i he, List.map_cons, Lib.extract_to_end]
      congr 1
      rw [Nat.add_zero, Lib.extract_eq, Nat.sub_zero, List.drop_zero]
theorem split_calls (l : List UInt8) (hl : l.length < 4294967281) (w : World) (hv : Vars w) : Calls Tryd.prog 21 #[.string ⟨l.toArray⟩, .string ⟨#[32]⟩] w fun e w' => e = .returned (.slice (some ⟨w.heap.size, 0, none⟩) (splitL l).length (splitL l).length) ∧ w' = w.alloc (.cells ((splitL l).map (fun x => Value.string ⟨x.toArray⟩)).toArray 9) := by
  obtain ⟨m, hm⟩ := hv.mx
  have hs : (⟨l.toArray⟩ : ByteArray).size = l.length := by rw [Lib.size_eq]
  have hb := splitB_blank _ (⟨l.toArray⟩ : ByteArray) (Nat.le_refl _)
  have hc := Lib.splitB_all blank (by decide) 0 _ (⟨l.toArray⟩ : ByteArray) rfl
  rw [hb, List.length_map] at hc
  refine (Tryd.strings_Split ⟨l.toArray⟩ blank m w (by omega) hm (by decide)).mono ?_
  rintro e w' ⟨rfl, rfl⟩
  rw [hb, ← hc, List.map_map]
  exact ⟨rfl, rfl⟩
theorem itoa_calls (n : Int) (h0 : 0 ≤ n) (h1 : n ≤ 1152921504606846976) (w : World) (hv : Vars w) : Calls Tryd.prog 24 #[.int .i64 n] w fun e w' => e = .returned (.string ⟨(Lib.itoa n).toArray⟩) ∧ Below w.heap.size w w' := by
  refine (Tryd.strconv_Itoa n (by omega) (by omega) w hv.tab).mono ?_
  rintro e w' ⟨rfl, k, os, rfl⟩
  exact ⟨rfl, rfl, rfl, rfl, by simp [Sort.grow], fun i hi => by show (w.heap ++ os)[i]? = w.heap[i]?; rw [Array.getElem?_append_left hi]⟩
end Go.Proofs.YtgjedgfncopjlaaDoor.Lines
