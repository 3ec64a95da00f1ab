/-
  Words of the reference and of the program: the pieces of a text between blanks, in a row of their own.
-/
import Derived.Test.YtmfogabkpeoagaaDoorPieces
import Derived.Test.YtmfogabkpeoagaaDoorMarks
import Derived.Test.YtmfogabkpeoagaaDoorShelfS
namespace Go.Proofs.YtmfogabkpeoagaaDoor
open Go.RowKit
set_option linter.unusedVariables false
set_option linter.unusedSimpArgs false

theorem infoStrW : (Tryd.prog.info? 9).map (fun i => (i.zero, i.size, i.bytes)) = some (some (.string ⟨#[]⟩), 1, 16) := by kernel_rfl
theorem one_wv (s : ByteArray) : ∀ u ∈ #[Value.string s].toList, u.oneCell' = true := by
  intro u hu; simp at hu; subst hu; rfl
/-- What the loop has cut: acc; no blank stands from 'from' to i. -/
def WordRel (s : ByteArray) (w : World) (o fr i : Value) (wr : World) : Prop :=
  ∃ (f j : Nat) (acc : List ByteArray), f ≤ j ∧ j ≤ s.size ∧ fr = .int .i64 f ∧ i = .int .i64 j ∧ acc.length ≤ f ∧ (32 : UInt8) ∉ (s.data.toList.drop f).take (j - f) ∧ acc ++ (pieces 32 (s.data.toList.drop f)).map str = cutAt 32 s ∧
    wr.ownsRow w.heap.size 9 1 o acc.length (acc.map tv) ∧ Below w.heap.size w wr
theorem ext_piece (s : ByteArray) (f j : Nat) : s.extract f j = str ((s.data.toList.drop f).take (j - f)) := by
  apply ByteArray.ext
  apply Array.ext'
  rw [ByteArray.data_extract, Array.toList_extract]
  rfl
theorem word_more {s : ByteArray} {f j : Nat} (hf : f ≤ j) (hj : j < s.size) (h : (32 : UInt8) ∉ (s.data.toList.drop f).take (j - f)) (hb : s[j] ≠ 32) : (32 : UInt8) ∉ (s.data.toList.drop f).take (j + 1 - f) := by
  have hsz : s.data.toList.length = s.size := rfl
  rw [show j + 1 - f = j - f + 1 by omega, List.take_succ_eq_append_getElem (by rw [List.length_drop]; omega)]
  intro hm
  rcases List.mem_append.1 hm with hm | hm
  · exact h hm
  · simp only [List.mem_singleton, List.getElem_drop] at hm
    apply hb
    rw [hm]
    show s.data.toList[j] = s.data.toList[f + (j - f)]'(by omega)
    simp only [show f + (j - f) = j by omega]
theorem word_cut {s : ByteArray} {f j : Nat} (hf : f ≤ j) (hj : j < s.size) (h : (32 : UInt8) ∉ (s.data.toList.drop f).take (j - f)) (hb : s[j] = 32) : pieces 32 (s.data.toList.drop f) = (s.data.toList.drop f).take (j - f) :: pieces 32 (s.data.toList.drop (j + 1)) := by
  have hjl : j < s.data.toList.length := hj
  have e : s.data.toList.drop f = (s.data.toList.drop f).take (j - f) ++ 32 :: s.data.toList.drop (j + 1) := by
    conv => lhs; rw [← List.take_append_drop (j - f) (s.data.toList.drop f)]
    congr 1
    rw [List.drop_drop, show f + (j - f) = j by omega, List.drop_eq_getElem_cons hjl]
    congr 1
  conv => lhs; rw [e]
  exact pieces_hit _ h
theorem word_end {s : ByteArray} {f : Nat} (h : (32 : UInt8) ∉ (s.data.toList.drop f).take (s.size - f)) : pieces 32 (s.data.toList.drop f) = [(s.data.toList.drop f).take (s.size - f)] := by
  have e : (s.data.toList.drop f).take (s.size - f) = s.data.toList.drop f := List.take_of_length_le (by rw [List.length_drop]; exact Nat.le_refl _)
  rw [e] at h ⊢
  exact pieces_none h

set_option maxHeartbeats 2000000 in
theorem specWords (s : ByteArray) (w : World) (hs : s.size ≤ 1048576) :
    Calls Tryd.prog 23 #[.string s] w fun e w' => ∃ o, e = .returned o ∧ w'.ownsRow w.heap.size 9 1 o (cutAt 32 s).length ((cutAt 32 s).map tv) ∧ Below w.heap.size w w' := by
  go_enter Tryd.func23, Tryd.ntmps23
  go_wp2_with fail
  go_loopw [3, 4, 5] (fun o f i wr => WordRel s w o f i wr) (fun _ _ i _ => s.size - (intOf i).toNat)
  case atStart => exact ⟨0, 0, [], Nat.le_refl _, Nat.zero_le _, rfl, rfl, Nat.zero_le _, by simp, rfl, own_empty w _ _, (Below.refl _ _).alloc (Nat.le_refl _) _⟩
  case round =>
    obtain ⟨f, j, acc, hf, hj, rfl, rfl, ha, hno, hacc, hown, hb⟩ := hrel
    have HN := Lib.hid hno
    have HA := Lib.hid hacc
    have HO := Lib.hid hown
    clear hno hacc hown
    by_cases hlt : j < s.size
    · have hu : s[j].toNat < 256 := UInt8.toNat_lt _
      by_cases h32 : s[j] = 32
      · have q : ((s[j].toNat : Int) == 32) = true := by rw [h32]; rfl
        have e1 := word_cut hf hlt HN.out h32
        have HE := Lib.hid e1
        have hx := ext_piece s f j
        have HX := Lib.hid hx
        have hcn := cells_new wr #[.string (s.extract f j)] 9
        have HC := Lib.hid hcn
        clear e1 hx hcn h32
        go_wp2_with (at_builtin; refine wpList_app rfl (.tmp 17) (.tmp 22) 31 rfl w.heap.size 9 Tryd.underlying31 infoStrW rfl (by decide) (W := w) rfl (HO.out.alloc _) (hb.alloc hb.size _) (Nat.le_trans hb.size (by simp)) _ 1 1 _ rfl rfl HC.out (one_wv _) (by unfold maxLen; omega) (by omega) ?_; intro v' w' hown' hb' hB')
        have HO2 := Lib.hid hown'
        clear hown'
        go_roundw
        case rel => exact ⟨j + 1, j + 1, acc ++ [s.extract f j], Nat.le_refl _, by omega, by go_num, by go_num, by simp; omega, by simp, by
          rw [← HA.out, HE.out, HX.out]; simp, by simpa [tv] using HO2.out, hb'⟩
        case measure => simp [intOf]; omega
      · have q : ((s[j].toNat : Int) == 32) = false := by
          rw [beq_eq_false_iff_ne]
          intro e
          apply h32
          apply UInt8.toNat_inj.1
          show s[j].toNat = 32
          omega
        have HM := Lib.hid (word_more hf hlt HN.out h32)
        clear h32
        go_wp2_with fail
        go_roundw
        case rel => exact ⟨f, j + 1, acc, by omega, by omega, rfl, by go_num, ha, HM.out, HA.out, HO.out, hb⟩
        case measure => simp [intOf]; omega
    · obtain rfl : j = s.size := by omega
      have HE := Lib.hid (word_end HN.out)
      have HX := Lib.hid (ext_piece s f s.size)
      have hcn := cells_new wr #[.string (s.extract f s.size)] 9
      have HC := Lib.hid hcn
      clear hcn
      go_wp2_with (at_builtin; refine wpList_app rfl (.tmp 26) (.tmp 30) 31 rfl w.heap.size 9 Tryd.underlying31 infoStrW rfl (by decide) (W := w) rfl (HO.out.alloc _) (hb.alloc hb.size _) (Nat.le_trans hb.size (by simp)) _ 1 1 _ rfl rfl HC.out (one_wv _) (by unfold maxLen; omega) (by omega) ?_; intro v' w' hown' hb' hB')
      have HO2 := Lib.hid hown'
      clear hown'
      go_ret
      have hfin : cutAt 32 s = acc ++ [s.extract f s.size] := by rw [← HA.out, HE.out, HX.out]; simp
      exact ⟨_, rfl, by rw [hfin]; simpa [tv] using HO2.out, hb'⟩
/-- The library's variable MaxLen holds a number. -/
def MX (w : World) : Prop := ∃ m, w.cell? ⟨2, 0, none⟩ = some (.int .i64 m)
theorem MX.below {w w' : World} (h : MX w) (hb : Below w.heap.size w w') : MX w' := by
  obtain ⟨m, hm⟩ := h
  exact ⟨m, by rw [hb.cell (block_lt_of_cell hm)]; exact hm⟩
theorem own_row {w : World} {e : TypeId} (l : List ByteArray) (hl : l.length ≤ 10000000) : (w.alloc (.cells (l.map Value.string).toArray e)).ownsRow w.heap.size e 1 (.slice (some ⟨w.heap.size, 0, none⟩) l.length l.length) l.length (l.map tv) :=
  ⟨by simp, .inr ⟨w.heap.size, l.length, _, rfl, Nat.le_refl _, heap_alloc_new w _, Nat.le_refl _, by unfold maxLen; omega, by simp, by
    rw [Nat.mul_one, List.take_of_length_le (by simp)]
    rfl⟩⟩

set_option maxHeartbeats 1000000 in
theorem implWords (s : ByteArray) (w : World) (hs : s.size ≤ 1048576) (hm : MX w) :
    Calls Tryd.prog 24 #[.string s] w fun e w' => ∃ o, e = .returned o ∧ w'.ownsRow w.heap.size 9 1 o (cutAt 32 s).length ((cutAt 32 s).map tv) ∧ Below w.heap.size w w' := by
  obtain ⟨m, hm⟩ := hm
  have hsep : (⟨#[32]⟩ : ByteArray).data.toList = [32] := rfl
  have hcs := split_cutAt 32 s ⟨#[32]⟩ hsep
  have hlen := Lib.splitB_all ⟨#[32]⟩ (by decide) 0 _ s rfl
  rw [hcs] at hlen
  have hle := cutAt_len 32 s
  have HC := Lib.hid (Tryd.strings_Split s ⟨#[32]⟩ m w (by omega) hm (by decide))
  have HS := Lib.hid hcs
  have HL := Lib.hid hlen
  have hO := own_row (w := w) (e := 9) (cutAt 32 s) (by omega)
  have HO := Lib.hid hO
  clear hm hcs hlen hO
  go_enter Tryd.func24, Tryd.ntmps24
  go_wp2_with fail
  refine HC.out.mono ?_
  rintro e w1 ⟨rfl, rfl⟩
  rw [← HL.out, HS.out]
  go_wp2_with fail
  go_ret
  exact ⟨_, rfl, HO.out, (Below.refl _ _).alloc (Nat.le_refl _) _⟩
end Go.Proofs.YtmfogabkpeoagaaDoor
