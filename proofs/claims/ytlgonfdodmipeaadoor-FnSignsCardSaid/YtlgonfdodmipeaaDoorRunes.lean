/-
  The signs of a text, plainly: one by one from a place on; a text that is right.
-/
import Derived.Test.YtlgonfdodmipeaaDoorSgn
import Derived.Lib.ValidLaws
namespace Go.Proofs.YtlgonfdodmipeaaDoor
open Go.RowKit
set_option linter.unusedVariables false

/-- The signs from a place on, none where there is a wrong one. -/
def restG (s : ByteArray) : Nat → Nat → Option (List Nat)
  | 0, _ => some []
  | f + 1, i => if i < s.size then (if gsOk s (i : Int) then (restG s f (i + (Utf8.decode s i).2)).map ((Utf8.decode s i).1 :: ·) else none) else some []
def restF (s : ByteArray) (i : Nat) : Option (List Nat) := restG s (s.size - i) i
theorem dec_pos (s : ByteArray) (i : Nat) : 1 ≤ (Utf8.decode s i).2 := Lib.width_pos s i
theorem restG_fuel (s : ByteArray) : ∀ f g i, s.size - i ≤ f → s.size - i ≤ g → restG s f i = restG s g i
  | 0, 0, _, _, _ => rfl
  | 0, g + 1, i, h, _ => by rw [restG, restG, if_neg (by omega)]
  | f + 1, 0, i, _, h => by rw [restG, restG, if_neg (by omega)]
  | f + 1, g + 1, i, h1, h2 => by
    rw [restG, restG]
    by_cases hi : i < s.size
    · have := dec_pos s i
      rw [if_pos hi, if_pos hi, restG_fuel s f g _ (by omega) (by omega)]
    · rw [if_neg hi, if_neg hi]
theorem restF_end (s : ByteArray) (i : Nat) (h : s.size ≤ i) : restF s i = some [] := by
  unfold restF
  rw [show s.size - i = 0 by omega]
  rfl
theorem restF_ok (s : ByteArray) (i : Nat) (h : i < s.size) (hok : gsOk s (i : Int)) : restF s i = (restF s (i + (Utf8.decode s i).2)).map ((Utf8.decode s i).1 :: ·) := by
  have := dec_pos s i
  unfold restF
  obtain ⟨f, hf⟩ : ∃ f, s.size - i = f + 1 := ⟨s.size - i - 1, by omega⟩
  rw [hf, restG, if_pos h, if_pos hok, restG_fuel s f _ _ (by omega) (Nat.le_refl _)]
theorem restF_bad (s : ByteArray) (i : Nat) (h : i < s.size) (hok : ¬ gsOk s (i : Int)) : restF s i = none := by
  unfold restF
  obtain ⟨f, hf⟩ : ∃ f, s.size - i = f + 1 := ⟨s.size - i - 1, by omega⟩
  rw [hf, restG, if_pos h, if_neg hok]
/-- A text is right. -/
def textOk (s : ByteArray) : Bool := (restF s 0).isSome
/-- The signs of a text, none if it isn't right. -/
def signsL (s : ByteArray) : List Nat := (restF s 0).getD []

theorem dec_65533 (s : ByteArray) (i : Nat) : ((Utf8.decode s i).1 = 65533 ∧ (Utf8.decode s i).2 < 3) ↔ ((Utf8.decode s i).1 = 65533 ∧ (Utf8.decode s i).2 = 1) := by
  rw [Lib.decode_at]
  have h0 := (s.get! i).toNat_lt
  have h1 := (s.get! (i + 1)).toNat_lt
  generalize (s.get! i).toNat = b0 at *
  generalize (s.get! (i + 1)).toNat = b1 at *
  unfold Lib.decodeN
  repeat' split
  all_goals simp
  all_goals omega
theorem gsOk_nat (s : ByteArray) (i : Nat) (h : i < s.size) : gsOk s (i : Int) ↔ ¬ ((Utf8.decode s i).1 = 65533 ∧ (Utf8.decode s i).2 = 1) := by
  unfold gsOk
  rw [Int.toNat_natCast, ← dec_65533]
  constructor
  · exact fun h => h.2.2
  · exact fun h => ⟨by omega, by omega, h⟩
theorem valid_rest (s : ByteArray) : ∀ n i, s.size - i ≤ n → Lib.validD (s.data.toList.drop i) = (restF s i).isSome := by
  have hl : s.data.toList.length = s.size := rfl
  intro n
  induction n with
  | zero =>
    intro i h
    rw [restF_end s i (by omega), List.drop_eq_nil_of_le (by omega)]
    rfl
  | succ n ih =>
    intro i h
    by_cases hi : i < s.size
    · have hne : s.data.toList.drop i ≠ [] := by
        intro h
        have := congrArg List.length h
        simp at this
        have e : s.data.size = s.size := rfl
        omega
      have hp := dec_pos s i
      rw [Lib.validD_step _ hne, Lib.decodeL_drop, List.drop_drop]
      by_cases hok : gsOk s (i : Int)
      · rw [if_neg ((gsOk_nat s i hi).1 hok), restF_ok s i hi hok, ih _ (by omega)]
        simp
      · rw [if_pos (by
          have := hok
          rw [gsOk_nat s i hi] at this
          exact Classical.not_not.1 this), restF_bad s i hi hok]
        rfl
    · rw [restF_end s i (by omega), List.drop_eq_nil_of_le (by omega)]
      rfl
theorem valid_textOk (s : ByteArray) : Lib.validD s.data.toList = textOk s := by
  have := valid_rest s _ 0 (Nat.le_refl _)
  simpa [textOk] using this
theorem textOk_signs (s : ByteArray) : textOk s = (decide (s.size = 0) || decide (0 < (signsL s).length)) := by
  unfold textOk signsL
  by_cases h0 : s.size = 0
  · rw [restF_end s 0 (by omega)]; simp [h0]
  · by_cases hok : gsOk s ((0 : Nat) : Int)
    · rw [restF_ok s 0 (by omega) hok]
      cases restF s (0 + (Utf8.decode s 0).2) <;> simp [h0]
    · rw [restF_bad s 0 (by omega) hok]; simp [h0]

/-- What has been read ahead of a place. -/
def ReadTo (s : ByteArray) (i : Nat) (pre : List Nat) : Prop := i ≤ s.size ∧ pre.length ≤ i ∧ restF s 0 = (restF s i).map (pre ++ ·)
theorem readTo_zero (s : ByteArray) : ReadTo s 0 [] := ⟨Nat.zero_le _, Nat.le_refl _, by cases restF s 0 <;> simp⟩
theorem dec_le (s : ByteArray) (i : Nat) (h : i < s.size) : i + (Utf8.decode s i).2 ≤ s.size := by
  rw [Lib.decode_at]
  unfold Lib.decodeN
  repeat' split
  all_goals simp
  all_goals omega
theorem readTo_next {s : ByteArray} {i : Nat} {pre : List Nat} (h : ReadTo s i pre) (hi : i < s.size) (hok : gsOk s (i : Int)) : ReadTo s (i + (Utf8.decode s i).2) (pre ++ [(Utf8.decode s i).1]) := by
  have hp := dec_pos s i
  refine ⟨dec_le s i hi, by have := h.2.1; simp; omega, ?_⟩
  rw [h.2.2, restF_ok s i hi hok]
  cases restF s (i + (Utf8.decode s i).2) <;> simp
theorem readTo_bad {s : ByteArray} {i : Nat} {pre : List Nat} (h : ReadTo s i pre) (hi : i < s.size) (hok : ¬ gsOk s (i : Int)) : signsL s = [] ∧ textOk s = false := by
  unfold signsL textOk
  rw [h.2.2, restF_bad s i hi hok]
  exact ⟨rfl, rfl⟩
theorem readTo_end {s : ByteArray} {i : Nat} {pre : List Nat} (h : ReadTo s i pre) (hi : ¬ i < s.size) : signsL s = pre ∧ textOk s = true := by
  unfold signsL textOk
  rw [h.2.2, restF_end s i (by omega)]
  simp
theorem signsL_len (s : ByteArray) : (signsL s).length ≤ s.size := by
  have : ∀ f i l, restG s f i = some l → l.length ≤ f := by
    intro f
    induction f with
    | zero => intro i l h; simp [restG] at h; subst h; simp
    | succ f ih =>
      intro i l h
      rw [restG] at h
      split at h
      · split at h
        · cases hr : restG s f (i + (Utf8.decode s i).2) with
          | none => rw [hr] at h; simp at h
          | some l' =>
            rw [hr] at h
            simp at h
            subst h
            have := ih _ _ hr
            simp; omega
        · cases h
      · simp at h; subst h; simp
  unfold signsL
  cases h : restF s 0 with
  | none => simp
  | some l => have := this _ _ _ h; simpa using this
end Go.Proofs.YtlgonfdodmipeaaDoor
