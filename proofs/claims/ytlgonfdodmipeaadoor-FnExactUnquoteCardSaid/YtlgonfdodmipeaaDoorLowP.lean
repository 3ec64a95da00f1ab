/-
  Lower case, plainly: a byte of 128 or more leaves a byte that is no hexadecimal digit.
-/
import Derived.Test.YtlgonfdodmipeaaDoorUnqS
import Derived.Shelf.Strings.CaseAny
namespace Go.Proofs.YtlgonfdodmipeaaDoor
open Go.RowKit
set_option linter.unusedVariables false
set_option linter.unusedSimpArgs false
set_option maxRecDepth 1000000

/-- A row under which no great sign becomes a digit. -/
def rowOff (x : Lib.CaseRow) : Bool :=
  if x.delta 1 > 1114111 then decide (103 ≤ x.1)
  else decide (x.2.1 ≤ 127) || decide ((x.2.1 : Int) + x.delta 1 < 48) || decide (102 < ((max x.1 128 : Nat) : Int) + x.delta 1) || (decide (57 < ((max x.1 128 : Nat) : Int) + x.delta 1) && decide ((x.2.1 : Int) + x.delta 1 < 97))
theorem rowsOff : Lib.caseT.all rowOff = true := by decide
theorem caseA_off (i : Nat) (hi : i < Lib.caseA.size) : rowOff (Lib.caseA.getD i (0, 0, 0, 0, 0)) = true := by
  have hm : Lib.caseA.getD i (0, 0, 0, 0, 0) ∈ Lib.caseT := by
    unfold Lib.caseA at hi ⊢
    simp only [List.size_toArray] at hi
    simp [Array.getD, hi]
  exact List.all_eq_true.1 rowsOff _ hm
/-- A number that is a digit's. -/
def hexZ (v : Int) : Prop := (48 ≤ v ∧ v ≤ 57) ∨ (97 ≤ v ∧ v ≤ 102)
theorem lower_off {r : Int} (h : 128 ≤ r) : ¬ hexZ (Lib.toLowerU r) := by
  unfold Lib.toLowerU hexZ
  rw [if_neg (by omega)]
  unfold Lib.toR Lib.lookupGo
  cases hi : Lib.lookupIdx Lib.caseA r (Lib.caseA.size + 1) 0 Lib.caseA.size with
  | none =>
    show ¬ ((48 ≤ r ∧ r ≤ 57) ∨ (97 ≤ r ∧ r ≤ 102))
    omega
  | some i =>
    obtain ⟨hil, hlo, hhi⟩ := Lib.lookupIdx_some Lib.caseA r _ _ _ i hi
    have hr := caseA_off i hil
    show ¬ ((48 ≤ Lib.convertR 1 r (Lib.caseA.getD i (0, 0, 0, 0, 0)) ∧ Lib.convertR 1 r (Lib.caseA.getD i (0, 0, 0, 0, 0)) ≤ 57) ∨ (97 ≤ Lib.convertR 1 r (Lib.caseA.getD i (0, 0, 0, 0, 0)) ∧ Lib.convertR 1 r (Lib.caseA.getD i (0, 0, 0, 0, 0)) ≤ 102))
    generalize Lib.caseA.getD i (0, 0, 0, 0, 0) = x at *
    unfold Lib.convertR
    unfold rowOff at hr
    split at hr
    · rename_i hd
      rw [if_pos hd]
      simp at hr
      omega
    · rename_i hd
      rw [if_neg hd]
      simp only [Bool.or_eq_true, Bool.and_eq_true, decide_eq_true_eq] at hr
      omega
theorem dgV_lt {c : Nat} (h : ¬ hexZ c) : dgV c < 0 := by
  unfold hexZ at h
  unfold dgV
  rw [if_neg (by omega), if_neg (by omega)]
  omega
/-- What is written of a sign that is no digit begins with a byte that is no digit. -/
theorem enc_off {r : Int} (h0 : 0 ≤ r) (h : ¬ hexZ r) : ∃ b ∈ Lib.encodeRune r, dgV b.toNat < 0 := by
  unfold Lib.encodeRune Lib.encodeRuneZ
  have big : ∀ n : Int, 128 ≤ n → n < 256 → dgV n.toNat.toUInt8.toNat < 0 := fun n h1 h2 => by
    have e : n.toNat.toUInt8.toNat = n.toNat := by
      show (UInt8.ofNat n.toNat).toNat = n.toNat
      rw [UInt8.toNat_ofNat']
      omega
    rw [e]
    apply dgV_lt
    unfold hexZ
    omega
  split
  · rename_i h1
    refine ⟨r.toNat.toUInt8, by simp, ?_⟩
    have e : r.toNat.toUInt8.toNat = r.toNat := by
      show (UInt8.ofNat r.toNat).toNat = r.toNat
      rw [UInt8.toNat_ofNat']
      omega
    rw [e]
    apply dgV_lt
    rw [Int.toNat_of_nonneg h0]
    exact h
  · split
    · exact ⟨_, by simp, big (192 + r / 64) (by omega) (by omega)⟩
    · split
      · exact ⟨_, by simp, big (224 + r / 4096) (by omega) (by omega)⟩
      · split
        · exact ⟨_, by simp, big (240 + r / 262144) (by omega) (by omega)⟩
        · exact ⟨_, by simp, big 239 (by omega) (by omega)⟩
theorem decode_high (b : UInt8) (t : List UInt8) (h : 128 ≤ b.toNat) : 128 ≤ (Lib.decodeL (b :: t)).1 ∧ (Lib.decodeL (b :: t)).1 ≤ 1114111 := by
  unfold Lib.decodeL
  rw [Lib.decode_at]
  have e : (ByteArray.mk (b :: t).toArray).get! 0 = b := rfl
  rw [e]
  have h0 := b.toNat_lt
  have h1 := ((ByteArray.mk (b :: t).toArray).get! (0 + 1)).toNat_lt
  have h2 := ((ByteArray.mk (b :: t).toArray).get! (0 + 2)).toNat_lt
  have h3 := ((ByteArray.mk (b :: t).toArray).get! (0 + 3)).toNat_lt
  generalize ((ByteArray.mk (b :: t).toArray).get! (0 + 1)).toNat = b1 at *
  generalize ((ByteArray.mk (b :: t).toArray).get! (0 + 2)).toNat = b2 at *
  generalize ((ByteArray.mk (b :: t).toArray).get! (0 + 3)).toNat = b3 at *
  generalize b.toNat = b0 at *
  unfold Lib.decodeN
  repeat' split
  all_goals simp
  all_goals omega
theorem lower_bad : ∀ (l : List UInt8), (∃ b ∈ l, 128 ≤ b.toNat) → ∃ b ∈ Lib.toLowerD l, dgV b.toNat < 0
  | [], h => by obtain ⟨b, hb, _⟩ := h; simp at hb
  | b :: t, h => by
    unfold Lib.toLowerD
    rw [Lib.mapD_step Lib.toLowerU (b :: t) (by simp)]
    by_cases hb : b.toNat < 128
    · rw [Lib.decodeL_ascii b t hb]
      obtain ⟨c, hc, h2⟩ := h
      have hct : c ∈ t := by
        rcases List.mem_cons.1 hc with rfl | hc
        · omega
        · exact hc
      obtain ⟨x, hx, hx2⟩ := lower_bad t ⟨c, hct, h2⟩
      exact ⟨x, List.mem_append_right _ (by simpa [Lib.toLowerD] using hx), hx2⟩
    · have hd := decode_high b t (by omega)
      have hr := Lib.toLowerU_range (Lib.decodeL (b :: t)).1 hd.2
      rw [if_pos hr.1]
      obtain ⟨x, hx, hx2⟩ := enc_off hr.1 (lower_off (by omega))
      exact ⟨x, List.mem_append_left _ hx, hx2⟩
theorem lower_one (b : UInt8) (h : b.toNat < 128) : dgV (Lib.lowerB b).toNat = hxV b.toNat := by
  have : ∀ i : Fin 128, dgV (Lib.lowerB (UInt8.ofNat i.val)).toNat = hxV (UInt8.ofNat i.val).toNat := by decide
  have h2 := this ⟨b.toNat, h⟩
  simpa using h2
end Go.Proofs.YtlgonfdodmipeaaDoor
