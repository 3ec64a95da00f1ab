/-
  GetPath of the program.
-/
import Derived.Test.YtlgonfdodmipeaaDoorPathG
import Derived.Test.YtlgonfdodmipeaaDoorPathI
import Derived.Test.YtlgonfdodmipeaaDoorMarkTl
import Derived.Test.YtlgonfdodmipeaaDoorToS
import Derived.Test.YtlgonfdodmipeaaDoorShelfS
namespace Go.Proofs.YtlgonfdodmipeaaDoor
open Go.RowKit
set_option linter.unusedVariables false
set_option linter.unusedSimpArgs false
set_option maxRecDepth 100000

theorem rep_short {old new : List UInt8} (hne : old ≠ []) (hon : old ≠ new) (hlen : new.length ≤ old.length) : ∀ (N : Nat) (l : List UInt8), l.length ≤ N → (Lib.replaceAll l old new).length ≤ l.length := by
  intro N
  induction N with
  | zero =>
    intro l h
    have : l = [] := List.eq_nil_of_length_eq_zero (by omega)
    subst this
    rw [rep_nil hne hon]; exact Nat.le_refl _
  | succ N ih =>
    intro l h
    cases l with
    | nil => rw [rep_nil hne hon]; exact Nat.le_refl _
    | cons b l =>
      cases hp : old.isPrefixOf (b :: l) with
      | false =>
        rw [rep_skip hne hon hp]
        have := ih l (by simp at h; omega)
        simp only [List.length_cons]; omega
      | true =>
        obtain ⟨r, hr⟩ := List.isPrefixOf_iff_prefix.1 hp
        rw [← hr, rep_hit hne hon]
        have hl : (old ++ r).length ≤ N + 1 := by rw [hr]; exact h
        have h0 : 0 < old.length := List.length_pos_iff.2 hne
        rw [List.length_append] at hl
        have := ih r (by omega)
        simp only [List.length_append]; omega
theorem pieces_each (c : UInt8) : ∀ (l : List UInt8), ∀ x ∈ pieces c l, x.length ≤ l.length
  | [], x, hx => by simp [pieces] at hx; subst hx; simp
  | b :: r, x, hx => by
    have ih := pieces_each c r
    unfold pieces at hx
    split at hx
    · rcases List.mem_cons.1 hx with rfl | hx
      · simp
      · have := ih x hx; simp; omega
    · split at hx
      · simp at hx; subst hx; simp
      · rename_i h t e
        rw [e] at ih
        rcases List.mem_cons.1 hx with rfl | hx
        · have := ih h (by simp); simp; omega
        · have := ih x (by simp [hx]); simp; omega
theorem unS_len (l : List UInt8) : (unS l).length ≤ l.length := by
  unfold unS
  exact Nat.le_trans (rep_short (by simp) (by simp) (by simp) _ _ (Nat.le_refl _)) (rep_short (by simp) (by simp) (by simp) _ _ (Nat.le_refl _))
/-- The steps as they stand in the text. -/
def rawB (s : ByteArray) : List ByteArray := (pieces 47 s.data.toList).tail.map str
theorem raw_len (s : ByteArray) : (rawB s).length ≤ s.size := by
  unfold rawB
  rw [List.length_map, List.length_tail]
  have := pieces_len 47 s.data.toList
  have e : s.data.toList.length = s.size := rfl
  omega
theorem raw_cut (s : ByteArray) : ∃ x, cutAt 47 s = x :: rawB s := by
  unfold cutAt rawB
  cases h : pieces 47 s.data.toList with
  | nil => exact absurd h (pieces_ne _ _)
  | cons a r => exact ⟨str a, rfl⟩
theorem steps_raw (s : ByteArray) : stepsB s = (rawB s).map fun x => str (unS x.data.toList) := by
  unfold stepsB stepsL rawB
  rw [List.map_map, List.map_map]
  apply List.map_congr_left
  intro x _
  simp [str]
theorem raw_sz (s : ByteArray) : ∀ x ∈ rawB s, x.size ≤ s.size := fun x hx => by
  unfold rawB at hx
  obtain ⟨y, hy, rfl⟩ := List.mem_map.1 hx
  rw [str_len]
  exact pieces_each 47 s.data.toList y (List.mem_of_mem_tail hy)
theorem rep_callG (s old new : ByteArray) (w : World) (hs : s.size ≤ 1048576) (h1 : 1 ≤ old.size) (hn : new.size ≤ 100) (hM : MXL w) :
    Calls Tryd.prog 49 #[.string s, .string old, .string new] w fun e w' => e = .returned (.string (str (Lib.replaceAll s.data.toList old.data.toList new.data.toList))) ∧ Below w.heap.size w w' := by
  obtain ⟨m, hm⟩ := hM
  have hc := Lib.countB_le old h1 s.size s (Nat.le_refl _)
  have hmul : Lib.countB s old * new.size ≤ 1048576 * 100 := Nat.mul_le_mul (by omega) hn
  exact Tryd.strings_ReplaceAll s old new m w (by omega) hm h1 (by omega)
theorem own_rowG {w : World} {e : TypeId} (l : List ByteArray) (hl : l.length ≤ 10000000) : (w.alloc (.cells (l.map Value.string).toArray e)).ownsRow w.heap.size e 1 (.slice (some ⟨w.heap.size, 0, none⟩) l.length l.length) l.length (l.map tv) :=
  ⟨by simp, .inr ⟨w.heap.size, l.length, _, rfl, Nat.le_refl _, heap_alloc_new w _, Nat.le_refl _, by unfold maxLen; omega, by simp, by
    rw [Nat.mul_one, List.take_of_length_le (by simp)]
    rfl⟩⟩
theorem TailOf.at1 {w : World} {b g c1 n : Nat} {x : Value} {l : List ByteArray} (h : TailOf w b g c1 n x (l.map tv)) : At1 w w.heap.size (some ⟨g, 1, none⟩) (l.map Value.string) :=
  .inr ⟨g, 1, rfl, h.lt.2, fun j hj => h.cell j (by have := h.len; simp at this hj; omega) hj⟩
/-- GetPath's row: nothing, or what stands behind the first of the pieces. -/
def GRow (w : World) (b : Nat) (l : List ByteArray) (o : Value) : Prop := (l = [] ∧ o = .slice none 0 0) ∨ ∃ g c c1 x, o = .slice (some ⟨g, 1, none⟩) l.length c ∧ TailOf w b g c1 l.length x (l.map tv)
theorem GRow.below {w w' : World} {b : Nat} {l : List ByteArray} {o : Value} (h : GRow w b l o) {B : Nat} (hB : w.heap.size ≤ B) (hb : Below B w w') : GRow w' b l o := by
  rcases h with h | ⟨g, c, c1, x, h1, h2⟩
  · exact .inl h
  · exact .inr ⟨g, c, c1, x, h1, h2.below hB hb⟩
theorem own_none (w : World) (b : Nat) (e : TypeId) : w.ownsRow b e 1 (.slice none 0 0) 0 [] := ⟨rfl, .inl ⟨rfl, rfl⟩⟩
theorem eqG (l : List ByteArray) (o p : Value) (b1 b2 : Nat) (w : World) (hn : l.length ≤ 10000000) (ho : GRow w b1 l o) (hp : w.ownsRow b2 9 1 p l.length (l.map tv)) :
    Calls Tryd.prog 27 #[o, p] w fun e w' => e = .returned (.bool true) ∧ Below w.heap.size w w' := by
  rcases ho with ⟨rfl, rfl⟩ | ⟨g, c, c1, x, rfl, h⟩
  · exact eqRow [] _ p b1 b2 w hn (own_none _ _ _) hp
  · exact eqTail l g c c1 x p b1 b2 w hn h hp
theorem markG (l : List ByteArray) (o : Value) (b : Nat) (w : World) (hn : l.length ≤ 10000000) (hB : b ≤ w.heap.size) (ho : GRow w b l o) :
    Calls Tryd.prog 30 #[o, .int .i64 1] w fun e w' => e = .returned (.int .i64 ((1 + l.length : Nat) : Int)) ∧ GRow w' b (marksOf 1 l.length) o ∧ Below b w w' := by
  rcases ho with ⟨rfl, rfl⟩ | ⟨g, c, c1, x, rfl, h⟩
  · refine (markRow 0 1 (.slice none 0 0) b w [] (by omega) (by omega) (by omega) hB (own_none _ _ _)).mono ?_
    rintro e w' ⟨rfl, _, h⟩
    exact ⟨rfl, .inl ⟨rfl, rfl⟩, h⟩
  · refine (markTail l.length 1 g c c1 x b w _ hn (by omega) (by omega) hB h).mono ?_
    rintro e w' ⟨rfl, h1, h2⟩
    exact ⟨rfl, .inr ⟨g, c, c1, x, by rw [marksOf_len], by rw [marksOf_len]; exact h1⟩, h2⟩
theorem heldG (n : Nat) (o : Value) (b : Nat) (w : World) (hn : n ≤ 10000000) (ho : GRow w b (marksOf 1 n) o) :
    Calls Tryd.prog 31 #[o, .int .i64 1] w fun e w' => e = .returned (.int .i64 ((1 + n : Nat) : Int)) ∧ Below w.heap.size w w' := by
  rcases ho with ⟨h0, rfl⟩ | ⟨g, c, c1, x, rfl, h⟩
  · have : n = 0 := by rw [← marksOf_len 1 n, h0]; rfl
    subst this
    exact heldRow 0 1 (.slice none 0 0) b w (by omega) (by omega) (by omega) (own_none _ _ _)
  · rw [marksOf_len] at h
    have hh := heldTail n 1 g c c1 x b w hn (by omega) (by omega) h
    rw [← marksOf_len 1 n] at hh
    rw [← marksOf_len 1 n]
    rw [marksOf_len 1 (marksOf 1 n).length] at *
    exact hh

set_option maxHeartbeats 4000000 in
theorem implGetPath (s : ByteArray) (w : World) (hs : s.size ≤ 1048576) (hT : Tabs w) (hM : MXL w) :
    Calls Tryd.prog 29 #[.string s] w fun e w' => ∃ o, e = .returned (.tuple #[o, .bool (gpOk s)]) ∧ GRow w' w.heap.size (gpR s) o ∧ Below w.heap.size w w' := by
  by_cases h0 : s.size = 0
  · have hnil : s.data.toList = [] := List.eq_nil_of_length_eq_zero h0
    have hse : s = ⟨#[]⟩ := by
      apply ByteArray.ext
      apply Array.ext'
      rw [hnil]
    subst hse
    have HG : Hid (gpOk ⟨#[]⟩ = true) := Lib.hid (by unfold gpOk; rw [stepsB_nil rfl]; decide)
    have HR : Hid (gpR ⟨#[]⟩ = []) := Lib.hid (by unfold gpR; rw [HG.out, stepsB_nil rfl]; rfl)
    clear hnil h0 hs hT hM
    go_enter Tryd.func29, Tryd.ntmps29
    go_wp2_with fail
    go_ret2
    exact ⟨.slice none 0 0, by rw [HG.out]; rfl, .inl ⟨HR.out, rfl⟩, Below.refl _ _⟩
  obtain ⟨x0, hx0⟩ := raw_cut s
  have hrl := raw_len s
  obtain ⟨m, hm⟩ := hM
  have hM : MXL w := ⟨m, hm⟩
  have hcs := split_cutAt 47 s ⟨#[47]⟩ rfl
  have hlen := Lib.splitB_all ⟨#[47]⟩ (by decide) 0 _ s rfl
  rw [hcs, hx0, List.length_cons] at hlen
  have HC := Lib.hid (Tryd.strings_Split s ⟨#[47]⟩ m w (by omega) hm (by decide))
  have HSTEP := Lib.hid (steps_raw s)
  have HSZ := Lib.hid (raw_sz s)
  rw [hx0] at hcs
  have HO : Hid (TailOf (w.alloc (.cells ((x0 :: rawB s).map Value.string).toArray 9)) w.heap.size w.heap.size ((rawB s).length + 1) (rawB s).length (tv x0) ((rawB s).map tv)) := Lib.hid (by
    have h := own_rowG (w := w) (e := 9) (x0 :: rawB s) (by rw [List.length_cons]; omega)
    exact h)
  have qs : (s.toList == []) = false := by
    rw [beq_eq_false_iff_ne, ByteArray.toList_eq]
    intro e
    apply h0
    rw [Lib.size_eq, e]; rfl
  have HPUT := Lib.hid (fun (W : World) (A : Option Addr) (c : Nat) (h1 : (stepsB s).length ≤ 1048576) (hT : Tabs W) (hM : MXL W) (hat : At1 W W.heap.size A ((stepsB s).map Value.string)) =>
    implPutPath (stepsB s) A c W h1 (fun x hx => by
      rw [steps_raw] at hx
      obtain ⟨y, hy, rfl⟩ := List.mem_map.1 hx
      rw [str_len]
      have h1 := unS_len y.data.toList
      have h2 := raw_sz s y hy
      have h3 : y.data.toList.length = y.size := rfl
      omega) hT hM hat)
  have HC1 : Hid (∀ j (h : j < (rawB s).length) (W : World), MXL W → Calls Tryd.prog 49 #[.string (rawB s)[j], .string ⟨#[126, 49]⟩, .string ⟨#[47]⟩] W fun e w' => e = .returned (.string (str (Lib.replaceAll ((rawB s)[j]).data.toList [126, 49] [47]))) ∧ Below W.heap.size W w') := Lib.hid (fun j h W hM => rep_callG (rawB s)[j] ⟨#[126, 49]⟩ ⟨#[47]⟩ W (by have := raw_sz s _ (List.getElem_mem h); omega) (by decide) (by decide) hM)
  have HC2 : Hid (∀ j (h : j < (rawB s).length) (W : World), MXL W → Calls Tryd.prog 49 #[.string (str (Lib.replaceAll ((rawB s)[j]).data.toList [126, 49] [47])), .string ⟨#[126, 48]⟩, .string ⟨#[126]⟩] W fun e w' => e = .returned (.string (str (unS ((rawB s)[j]).data.toList))) ∧ Below W.heap.size W w') := Lib.hid (fun j h W hM => by
    have h1 := rep_short (old := [126, 49]) (new := [47]) (by simp) (by simp) (by simp) _ ((rawB s)[j]).data.toList (Nat.le_refl _)
    have h2 := raw_sz s _ (List.getElem_mem h)
    have h3 : ((rawB s)[j]).data.toList.length = ((rawB s)[j]).size := rfl
    have h := rep_callG (str (Lib.replaceAll ((rawB s)[j]).data.toList [126, 49] [47])) ⟨#[126, 48]⟩ ⟨#[126]⟩ W (by rw [str_len]; omega) (by decide) (by decide) hM
    rw [strD] at h
    exact h)
  have HF : Hid (∀ j (h : j < (rawB s).length), (fillS ((stepsB s).map tv) ((rawB s).map tv) j)[j]? = some (.string (rawB s)[j]) ∧ (fillS ((stepsB s).map tv) ((rawB s).map tv) j).set j (.string (str (unS ((rawB s)[j]).data.toList))) = fillS ((stepsB s).map tv) ((rawB s).map tv) (j + 1)) := Lib.hid (fun j h => by
    have hl : (stepsB s).length = (rawB s).length := by rw [steps_raw]; simp
    refine ⟨?_, ?_⟩
    · unfold fillS
      have e : (((stepsB s).map tv).take j).length = j := by rw [List.length_take, List.length_map]; omega
      rw [List.getElem?_append_right (by omega), e, Nat.sub_self]
      simp [h, tv]
    · have := fillS_step ((stepsB s).map tv) ((rawB s).map tv) j (by simpa [hl] using h) (by simp [hl])
      rw [← this]
      congr 1
      rw [List.getElem_map]
      unfold tv
      congr 1
      simp [steps_raw])
  have HFZ : Hid (fillS ((stepsB s).map tv) ((rawB s).map tv) 0 = (rawB s).map tv) := Lib.hid (by simp [fillS])
  have HFA : Hid (fillS ((stepsB s).map tv) ((rawB s).map tv) (rawB s).length = (stepsB s).map tv) := Lib.hid (by
    have hl : (stepsB s).length = (rawB s).length := by rw [steps_raw]; simp
    have := fillS_all ((stepsB s).map tv) ((rawB s).map tv) (by simp [hl])
    rw [List.length_map, hl] at this
    exact this)
  have hsl : (stepsB s).length = (rawB s).length := by rw [steps_raw]; simp
  have HSL := Lib.hid hsl
  have HS := Lib.hid hcs
  have HL := Lib.hid hlen
  have HM := Lib.hid hM
  have HT := Lib.hid hT
  clear hcs hlen hM hm hT hx0 hsl
  go_enter Tryd.func29, Tryd.ntmps29
  go_wp2_with fail
  refine HC.out.mono ?_
  rintro e w1 ⟨rfl, rfl⟩
  rw [← HL.out, HS.out]
  generalize hR : rawB s = R at *
  generalize hP : stepsB s = P at *
  have HR := Lib.hid hR
  have HP := Lib.hid hP
  clear hR hP
  have b0 : Below w.heap.size w (w.alloc (.cells ((x0 :: R).map Value.string).toArray 9)) := (Below.refl _ _).alloc (Nat.le_refl _) _
  have hT0 := HO.out
  generalize w.alloc (.cells ((x0 :: R).map Value.string).toArray 9) = W0 at b0 hT0 ⊢
  have HT0 := Lib.hid hT0
  clear hT0
  by_cases hR0 : R.length = 0
  · have HG : Hid (gpOk s = false) := Lib.hid (by
      unfold gpOk
      have hPn : P = [] := List.eq_nil_of_length_eq_zero (by rw [HSL.out]; exact hR0)
      rw [HP.out, hPn]
      apply decide_eq_false
      intro e
      apply h0
      show s.data.toList.length = 0
      rw [← e]
      rfl)
    have HGR : Hid (gpR s = []) := Lib.hid (by unfold gpR; rw [HG.out]; rfl)
    rw [hR0]
    go_wp2_with fail
    go_loopw [14] (fun i wr => i = .int .i64 0 ∧ Below w.heap.size w wr) (fun _ _ => 0)
    case atStart => exact ⟨rfl, b0⟩
    case round =>
      obtain ⟨rfl, hb⟩ := hrel
      go_wp2_with fail
      go_ret2
      exact ⟨.slice none 0 0, by rw [HG.out]; rfl, .inl ⟨HGR.out, rfl⟩, hb⟩
  have hR1 : (0 : Int) < (R.length : Int) := by omega
  have hR2 : ¬ ((R.length : Nat) : Int) = 0 := by omega
  go_wp2_with fail
  go_loopw [5, 6, 14] (fun _ _ i wr => ∃ j : Nat, j ≤ R.length ∧ i = .int .i64 j ∧ TailOf wr w.heap.size w.heap.size (R.length + 1) R.length (tv x0) (fillS (P.map tv) (R.map tv) j) ∧ Below w.heap.size w wr) (fun _ _ i _ => R.length - (intOf i).toNat)
  case atStart => exact ⟨0, Nat.zero_le _, rfl, by rw [HFZ.out]; exact HT0.out, b0⟩
  case round =>
    obtain ⟨j, hj, rfl, hown, hb⟩ := hrel
    by_cases hlt : j < R.length
    · have hc := hown.cell j hlt (by rw [hown.len]; exact hlt)
      have hfx := (HF.out j hlt).1
      rw [List.getElem?_eq_getElem (by rw [hown.len]; exact hlt)] at hfx
      have d0 : wr.cell? ⟨w.heap.size, 1 + j, none⟩ = some (.string R[j]) := hc.trans hfx
      have HO2 := Lib.hid hown
      clear hc hfx hown
      go_wp2_with fail
      refine (HC1.out j hlt wr (HM.out.below hb (Nat.le_refl _))).mono ?_
      rintro e w2 ⟨rfl, hb2⟩
      have b2 := hb.trans (hb2.mono hb.size)
      go_wp2_with fail
      refine (HC2.out j hlt w2 (HM.out.below b2 (Nat.le_refl _))).mono ?_
      rintro e w3 ⟨rfl, hb3⟩
      have b3 := b2.trans (hb3.mono b2.size)
      have hown3 := (HO2.out.below (Nat.le_refl _) hb2).below (Nat.le_refl _) hb3
      obtain ⟨u0, e0⟩ : ∃ u, w3.cell? ⟨w.heap.size, 1 + j, none⟩ = some u := ⟨_, hown3.cell j hlt (by rw [hown3.len]; exact hlt)⟩
      have k0 := hown3.soft j
      have HFJ := Lib.hid (HF.out j hlt).2
      have HO3 := Lib.hid hown3
      have HLT := Lib.hid hlt
      clear hown3 hb hb2 hb3 b2 d0
      go_wp2_with fail
      go_roundw
      case rel => exact ⟨j + 1, HLT.out, by go_num, by rw [← HFJ.out]; exact HO3.out.set j _, b3.setCell (Nat.le_refl _) _⟩
      case measure => have := HLT.out; simp [intOf]; omega
    · obtain rfl : j = R.length := by omega
      rw [HFA.out] at hown
      have HO2 := Lib.hid hown
      have A1 : At1 wr wr.heap.size (some ⟨w.heap.size, 1, none⟩) (P.map Value.string) := TailOf.at1 hown
      clear hown
      by_cases hz : R.length = 0
      · exact absurd hz hR0
      · have hz2 : ¬ ((R.length : Nat) : Int) = 0 := by omega
        have HCP := Lib.hid (HPUT.out wr (some ⟨w.heap.size, 1, none⟩) R.length (by rw [HSL.out]; omega) (HT.out.below hb) (HM.out.below hb (Nat.le_refl _)) A1)
        rw [HSL.out] at HCP
        clear A1
        go_wp2_with fail
        refine HCP.out.mono ?_
        rintro e w4 ⟨rfl, hb4⟩
        have b4 := hb.trans (hb4.mono hb.size)
        have HO4 := Lib.hid (HO2.out.below (Nat.le_refl _) hb4)
        cases hgo : gpOk s with
        | true =>
          have q : ((str (pathB P)).toList == s.toList) = true := by
            have h1 : pathB P = s.data.toList := by rw [← HP.out]; exact of_decide_eq_true hgo
            rw [h1, beq_iff_eq, ByteArray.toList_eq, ByteArray.toList_eq]
            simp [str]
          have HGR : Hid (gpR s = P) := Lib.hid (by unfold gpR; rw [hgo, ← HP.out]; rfl)
          go_wp2_with fail
          go_ret2
          refine ⟨.slice (some ⟨w.heap.size, 1, none⟩) R.length R.length, by rw [hgo]; rfl, ?_, b4⟩
          rw [HGR.out]
          exact .inr ⟨w.heap.size, _, R.length + 1, tv x0, by rw [HSL.out], by rw [HSL.out]; exact HO4.out⟩
        | false =>
          have q : ((str (pathB P)).toList == s.toList) = false := by
            rw [beq_eq_false_iff_ne, ByteArray.toList_eq, ByteArray.toList_eq]
            intro e
            have h1 : pathB P = s.data.toList := by rw [← e]; simp [str]
            rw [← HP.out] at h1
            have : gpOk s = true := decide_eq_true h1
            rw [hgo] at this
            cases this
          have HGR : Hid (gpR s = []) := Lib.hid (by unfold gpR; rw [hgo]; rfl)
          go_wp2_with fail
          go_ret2
          exact ⟨.slice none 0 0, by rw [hgo]; rfl, .inl ⟨HGR.out, rfl⟩, b4⟩
end Go.Proofs.YtlgonfdodmipeaaDoor
