/-
  PutPath of the program.
-/
import Derived.Test.YtlgonfdodmipeaaDoorPathA
namespace Go.Proofs.YtlgonfdodmipeaaDoor
open Go.RowKit
set_option linter.unusedVariables false
set_option linter.unusedSimpArgs false
set_option maxRecDepth 100000

/-- The library's variable MaxLen holds a number. -/
def MXL (w : World) : Prop := ∃ m, w.cell? ⟨2, 0, none⟩ = some (.int .i64 m)
theorem MXL.below {w w' : World} {B : Nat} (h : MXL w) (hb : Below B w w') (hB : w.heap.size ≤ B) : MXL w' := by
  obtain ⟨m, hm⟩ := h
  exact ⟨m, by rw [hb.cell (Nat.lt_of_lt_of_le (block_lt_of_cell hm) hB)]; exact hm⟩
theorem rep_call (s old new : ByteArray) (w : World) (hs : s.size ≤ 100000) (h1 : 1 ≤ old.size) (hn : new.size ≤ 100) (hM : MXL w) :
    Calls Tryd.prog 49 #[.string s, .string old, .string new] w fun e w' => e = .returned (.string (str (Lib.replaceAll s.data.toList old.data.toList new.data.toList))) ∧ Below w.heap.size w w' := by
  obtain ⟨m, hm⟩ := hM
  have hc := Lib.countB_le old h1 s.size s (Nat.le_refl _)
  have hmul : Lib.countB s old * new.size ≤ 100000 * 100 := Nat.mul_le_mul (by omega) hn
  exact Tryd.strings_ReplaceAll s old new m w (by omega) hm h1 (by omega)
theorem strD (l : List UInt8) : (str l).data.toList = l := by simp [str]
theorem esc_len1 (l : List UInt8) : (Lib.replaceAll l [126] [126, 48]).length ≤ 2 * l.length := by
  rw [rep_one (by decide)]
  induction l with
  | nil => simp
  | cons b l ih =>
    have : (if b = 126 then [126, 48] else [b] : List UInt8).length ≤ 2 := by split <;> simp
    simp only [List.flatMap_cons, List.length_append, List.length_cons]
    omega
theorem slash_str (l : List UInt8) : (⟨#[47]⟩ : ByteArray) ++ str l = str (47 :: l) := by
  apply ByteArray.ext
  apply Array.ext'
  simp [str]

set_option maxHeartbeats 4000000 in
theorem implPutPath (l : List ByteArray) (A : Option Addr) (cap : Nat) (w : World) (hl : l.length ≤ 1048576) (hs : ∀ s ∈ l, s.size ≤ 1048576) (hT : Tabs w) (hM : MXL w) (hat : At1 w w.heap.size A (l.map Value.string)) :
    Calls Tryd.prog 26 #[.slice A l.length cap] w fun e w' => e = .returned (.string (str (pathB l))) ∧ Below w.heap.size w w' := by
  have HI := Lib.hid (implAre l A cap w hl hs hT hat)
  have HA := Lib.hid hat
  have HM := Lib.hid hM
  cases hok : stepsOk l with
  | false =>
    have HB : Hid (pathB l = []) := Lib.hid (by unfold pathB; rw [hok]; rfl)
    rw [hok] at HI
    clear hok hT hM hs hat
    go_enter Tryd.func26, Tryd.ntmps26
    go_wp2_with fail
    refine HI.out.mono ?_
    rintro e w1 ⟨rfl, hb1⟩
    go_wp2_with fail
    go_ret
    exact ⟨ret_eq (by rw [HB.out]; rfl), hb1⟩
  | true =>
    have HB : Hid (pathB l = pathS l) := Lib.hid (by unfold pathB; rw [hok]; rfl)
    have hok2 := hok
    unfold stepsOk at hok2
    rw [Bool.and_eq_true, decide_eq_true_iff, List.all_eq_true] at hok2
    have h12 : l.length ≤ 12 := hok2.1
    have hsz : ∀ j (h : j < l.length), (l[j]).size ≤ 2000 := fun j h => by
      have := hok2.2 l[j] (List.getElem_mem h)
      unfold stepOk at this
      rw [Bool.and_eq_true, decide_eq_true_iff] at this
      exact this.1
    have hall : ∀ s ∈ l, s.size ≤ 2000 := fun s hs => by
      have := hok2.2 s hs
      unfold stepOk at this
      rw [Bool.and_eq_true, decide_eq_true_iff] at this
      exact this.1
    have HL : Hid (∀ j, j ≤ l.length → (pathS (l.take j)).length ≤ 60000) := Lib.hid (fun j hj => by
      have h1 := pathS_len (l.take j) (fun s hs => hall s (List.mem_of_mem_take hs))
      rw [List.length_take] at h1
      omega)
    have HC1 : Hid (∀ j (h : j < l.length) (W : World), MXL W → Calls Tryd.prog 49 #[.string l[j], .string ⟨#[126]⟩, .string ⟨#[126, 48]⟩] W fun e w' => e = .returned (.string (str (Lib.replaceAll (l[j]).data.toList [126] [126, 48]))) ∧ Below W.heap.size W w') := Lib.hid (fun j h W hM => rep_call l[j] ⟨#[126]⟩ ⟨#[126, 48]⟩ W (by have := hsz j h; omega) (by decide) (by decide) hM)
    have HC2 : Hid (∀ j (h : j < l.length) (W : World), MXL W → Calls Tryd.prog 49 #[.string (str (Lib.replaceAll (l[j]).data.toList [126] [126, 48])), .string ⟨#[47]⟩, .string ⟨#[126, 49]⟩] W fun e w' => e = .returned (.string (str (escS (l[j]).data.toList))) ∧ Below W.heap.size W w') := Lib.hid (fun j h W hM => by
      have h1 := esc_len1 (l[j]).data.toList
      have h2 := hsz j h
      have h3 : (l[j]).data.toList.length = (l[j]).size := rfl
      have h := rep_call (str (Lib.replaceAll (l[j]).data.toList [126] [126, 48])) ⟨#[47]⟩ ⟨#[126, 49]⟩ W (by rw [str_len]; omega) (by decide) (by decide) hM
      rw [strD] at h
      rw [← esc_two]
      exact h)
    have HSTEP := Lib.hid (pathS_step l)
    have HEL : Hid (∀ j (h : j < l.length), (escS (l[j]).data.toList).length ≤ 4000) := Lib.hid (fun j h => by
      have h1 := escS_len (l[j]).data.toList
      have h2 := hsz j h
      have h3 : (l[j]).data.toList.length = (l[j]).size := rfl
      omega)
    rw [hok] at HI
    clear hok hok2 hT hM hs hat hsz hall hl
    go_enter Tryd.func26, Tryd.ntmps26
    go_wp2_with fail
    refine HI.out.mono ?_
    rintro e w1 ⟨rfl, hb1⟩
    have hs1 := hb1.size
    go_wp2_with fail
    have F0 := BF.new w1 w1.heap.size (Nat.le_refl _)
    have b0 : Below w.heap.size w (w1.alloc (.cells #[.pointer none, .slice none 0 0] 63)) := hb1.alloc hs1 _
    go_loopw [5, 11] (fun s5 i wr => ∃ j : Nat, j ≤ l.length ∧ i = .int .i64 j ∧ BF w1.heap.size w1.heap.size (pathS (l.take j)) wr ∧ Below w.heap.size w wr ∧ w1.heap.size ≤ wr.heap.size) (fun _ i _ => l.length - (intOf i).toNat)
    case atStart => exact ⟨0, Nat.zero_le _, rfl, by simpa [pathS, pathL] using F0, b0, by simp⟩
    case round =>
      obtain ⟨j, hj, rfl, F, hb, hz⟩ := hrel
      have HF := Lib.hid F
      have hlen := HL.out j hj
      clear F F0 b0
      by_cases hlt : j < l.length
      · obtain ⟨b, off, rfl, hbl, hc⟩ := (HA.out.below hb (Nat.le_refl _)).get (j := j) (by simpa using hlt)
        rw [List.getElem_map] at hc
        go_wp2_with fail
        refine (HC1.out j hlt wr (HM.out.below hb (Nat.le_refl _))).mono ?_
        rintro e w2 ⟨rfl, hb2⟩
        have b2 := hb.trans (hb2.mono hb.size)
        go_wp2_with fail
        refine (HC2.out j hlt w2 (HM.out.below b2 (Nat.le_refl _))).mono ?_
        rintro e w3 ⟨rfl, hb3⟩
        have b3 := b2.trans (hb3.mono b2.size)
        have F3 := (HF.out.below hb2).below hb3
        have hz3 : w1.heap.size ≤ w3.heap.size := Nat.le_trans hz (Nat.le_trans hb2.size hb3.size)
        have hel := HEL.out j hlt
        have HX := Lib.hid (slash_str (escS (l[j]).data.toList))
        have hsE : (str (escS (l[j]).data.toList)).size ≤ 4000 := by rw [str_len]; exact hel
        have HLT := Lib.hid hlt
        have HF3 := Lib.hid F3
        have HST := Lib.hid (HSTEP.out j hlt)
        generalize str (escS (l[j]).data.toList) = E at HX hsE ⊢
        clear hb hb2 hb3 b2 F3 hc
        go_wp2_with fail
        rw [HX.out]
        refine (bfWrite w1.heap.size w1.heap.size _ _ w3 HF3.out (by rw [str_len, List.length_cons]; omega) hz3).mono ?_
        rintro e w4 ⟨rfl, F4, b4, k4⟩
        rw [strD, ← HST.out] at F4
        have b4' := b3.trans (b4.mono hs1)
        have hz4 : w1.heap.size ≤ w4.heap.size := Nat.le_trans hz3 b4.size
        have HF4 := Lib.hid F4
        clear F4 k4
        go_wp2_with fail
        go_roundw
        case rel => exact ⟨j + 1, HLT.out, by go_num, HF4.out, b4', hz4⟩
        case measure => have := HLT.out; simp [intOf]; omega
      · obtain rfl : j = l.length := by omega
        have hfin : pathS (l.take l.length) = pathS l := by rw [List.take_length]
        rw [hfin] at HF
        go_wp2_with fail
        refine (bfString w1.heap.size w1.heap.size _ wr HF.out hz).mono ?_
        rintro e w5 ⟨rfl, hb5⟩
        go_wp2_with fail
        go_ret
        exact ⟨ret_eq (by rw [HB.out]; rfl), hb.trans (hb5.mono hs1)⟩
end Go.Proofs.YtlgonfdodmipeaaDoor
