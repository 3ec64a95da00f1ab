/-
  A text cut at a byte, plainly.
-/
import Derived.Test.YtlgonfdodmipeaaDoorPlain
import Derived.Shelf.Strings.SplitShaped
namespace Go.Proofs.YtlgonfdodmipeaaDoor
open Go.RowKit
set_option linter.unusedVariables false

/-- What lies between the bytes c. -/
def pieces (c : UInt8) : List UInt8 → List (List UInt8)
  | [] => [[]]
  | b :: r => if b = c then [] :: pieces c r else match pieces c r with
    | [] => [[b]]
    | h :: t => (b :: h) :: t
theorem pieces_ne (c : UInt8) (l : List UInt8) : pieces c l ≠ [] := by
  cases l with
  | nil => simp [pieces]
  | cons b r =>
    unfold pieces
    split
    · simp
    · split <;> simp
theorem pieces_none {c : UInt8} : ∀ {l : List UInt8}, c ∉ l → pieces c l = [l]
  | [], _ => rfl
  | b :: r, h => by
    have hb : b ≠ c := fun e => h (by rw [e]; simp)
    have hr : c ∉ r := fun e => h (by simp [e])
    unfold pieces
    rw [if_neg hb, pieces_none hr]
theorem pieces_hit {c : UInt8} : ∀ {a : List UInt8} (b : List UInt8), c ∉ a → pieces c (a ++ c :: b) = a :: pieces c b
  | [], b, _ => by
    rw [List.nil_append]
    conv => lhs; unfold pieces
    rw [if_pos rfl]
  | x :: r, b, h => by
    have hb : x ≠ c := fun e => h (by rw [e]; simp)
    have hr : c ∉ r := fun e => h (by simp [e])
    rw [List.cons_append]
    conv => lhs; unfold pieces
    rw [if_neg hb, pieces_hit b hr]
theorem pieces_len (c : UInt8) : ∀ l : List UInt8, (pieces c l).length ≤ l.length + 1
  | [] => by simp [pieces]
  | b :: r => by
    have ih := pieces_len c r
    unfold pieces
    split
    · simp only [List.length_cons]; omega
    · split
      · simp
      · rename_i h t e
        rw [e] at ih
        simp only [List.length_cons] at *
        omega
theorem split_pieces (c : UInt8) : ∀ (N : Nat) (l : List UInt8), l.length ≤ N → Lib.splitK [c] 0 (Lib.count l [c]) l = pieces c l := by
  intro N
  induction N with
  | zero =>
    intro l h
    have : l = [] := List.eq_nil_of_length_eq_zero (by omega)
    subst this
    rfl
  | succ N ih =>
    intro l h
    have hge := Lib.index_ge l [c]
    by_cases hm : Lib.index l [c] = -1
    · rw [Lib.count_miss hm]
      rw [Lib.index_one] at hm
      have hn : c ∉ l := fun hc => by
        obtain ⟨k, hk, e⟩ := List.mem_iff_getElem.1 hc
        exact Lib.indexByte_none hm k (by rw [List.getElem?_eq_getElem hk, e])
      rw [pieces_none hn]
      rfl
    · obtain ⟨i, hi⟩ : ∃ i : Nat, Lib.index l [c] = i := ⟨(Lib.index l [c]).toNat, by omega⟩
      rw [Lib.count_hit (by simp) hi, Nat.add_comm]
      have hs := hi
      rw [Lib.index_one] at hs
      obtain ⟨h1, h2⟩ := Lib.indexByte_some hs
      have hil : i < l.length := by
        rcases Nat.lt_or_ge i l.length with hlt | hge2
        · exact hlt
        · rw [List.getElem?_eq_none hge2] at h1; cases h1
      have e1 : l = l.take i ++ c :: l.drop (i + 1) := by
        rw [List.getElem?_eq_getElem hil] at h1
        injection h1 with h1
        rw [← h1, ← List.drop_eq_getElem_cons hil, List.take_append_drop]
      have hn : c ∉ l.take i := fun hc => by
        obtain ⟨k, hk, e⟩ := List.mem_iff_getElem.1 hc
        rw [List.length_take] at hk
        rw [List.getElem_take] at e
        exact h2 k (by omega) (by rw [List.getElem?_eq_getElem (by omega), e])
      unfold Lib.splitK
      rw [if_neg (by rw [hi, beq_iff_eq]; omega), hi, Int.toNat_natCast, Nat.add_zero]
      simp only [List.length_cons, List.length_nil, Nat.zero_add]
      rw [ih (l.drop (i + 1)) (by rw [List.length_drop]; omega)]
      conv => rhs; rw [e1]
      rw [pieces_hit _ hn]
/-- The words of a text. -/
def cutAt (c : UInt8) (s : ByteArray) : List ByteArray := (pieces c s.data.toList).map str
theorem cutAt_len (c : UInt8) (s : ByteArray) : (cutAt c s).length ≤ s.size + 1 := by
  unfold cutAt
  rw [List.length_map]
  have := pieces_len c s.data.toList
  have e : s.data.toList.length = s.size := rfl
  omega
theorem split_cutAt (c : UInt8) (s sep : ByteArray) (h : sep.data.toList = [c]) : Lib.splitB sep 0 (Lib.countB s sep) s = cutAt c s := by
  have h1 := Lib.splitB_data sep 0 (Lib.countB s sep) s
  have hc : Lib.countB s sep = Lib.count s.data.toList [c] := congrArg (Lib.count s.data.toList) h
  rw [hc, h] at h1
  rw [split_pieces c _ _ (Nat.le_refl _)] at h1
  unfold cutAt
  rw [← h1, hc, List.map_map]
  conv => lhs; rw [← List.map_id (Lib.splitB sep 0 (Lib.count s.data.toList [c]) s)]
  apply List.map_congr_left
  intro x _
  simp [str]
end Go.Proofs.YtlgonfdodmipeaaDoor
