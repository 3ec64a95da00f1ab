/-
  Signs and their bytes, back and forth, plainly.
-/
import Derived.Test.YtlgonfdodmipeaaDoorUnqP
namespace Go.Proofs.YtlgonfdodmipeaaDoor
open Go.RowKit
set_option linter.unusedVariables false
set_option linter.unusedSimpArgs false
set_option maxRecDepth 100000

theorem isSg_range {n : Nat} (h : isSg (n : Int) = true) : n < 55296 ∨ (57343 < n ∧ n < 1114112) := by
  unfold isSg at h
  simp at h
  omega
theorem sig_bytes {n : Nat} (h : isSg (n : Int) = true) : (signB (n : Int)).data.toList.map UInt8.toNat = encN n := by
  rw [sgN_eq]
  unfold sgN
  rw [if_pos (isSg_range h)]
theorem get_map (s : ByteArray) (k : Nat) (h : k < s.size) (h2 : k < (s.data.toList.map UInt8.toNat).length) : (s.data.toList.map UInt8.toNat)[k] = (s.get! k).toNat := by
  rw [List.getElem_map, ← get_get! s k h]
  rfl
theorem sig_get {n : Nat} (h : isSg (n : Int) = true) (k : Nat) (hk : k < (encN n).length) : ((signB (n : Int)).get! k).toNat = (encN n)[k] := by
  have hb := sig_bytes h
  have hl : (signB (n : Int)).size = (encN n).length := by rw [← hb, List.length_map, ← Lib.size_eq]
  have h1 := get_map (signB (n : Int)) k (by omega) (by rw [hb]; exact hk)
  rw [← h1]
  simp only [hb]
theorem signB_zero (n : Int) : (signB n).size = 0 ↔ isSg n = false := by
  cases h : isSg n with
  | false => unfold signB; rw [if_neg (by rw [h]; decide)]; exact ⟨fun _ => rfl, fun _ => rfl⟩
  | true =>
    refine ⟨fun h2 => ?_, fun h2 => by cases h2⟩
    exfalso
    obtain ⟨k, rfl⟩ := Int.eq_ofNat_of_zero_le (isSg_pos h)
    have h1 := congrArg List.length (sgN_eq k)
    rw [List.length_map] at h1
    have h3 : (signB (k : Int)).data.toList.length = (signB (k : Int)).size := (Lib.size_eq _).symm
    rw [h3, h2] at h1
    have h4 : sgN k = encN k := by
      unfold sgN
      rw [if_pos]
      unfold isSg at h
      simp at h
      omega
    rw [h4] at h1
    unfold encN at h1
    repeat' split at h1
    all_goals simp at h1
theorem gs_back {n : Nat} (h : isSg (n : Int) = true) : gsOk (signB (n : Int)) 0 ∧ Utf8.decode (signB (n : Int)) 0 = (n, (signB (n : Int)).size) := by
  have hb := sig_bytes h
  have hg := sig_get h
  have hr := isSg_range h
  have hl : (signB (n : Int)).size = (encN n).length := by rw [← hb, List.length_map, ← Lib.size_eq]
  have hp : pcN (signB (n : Int)) 0 (signB (n : Int)).size = sgN n := by
    rw [← pcN_eq _ 0 _ (by omega), ← sgN_eq]
    unfold piece
    rw [List.drop_zero, List.take_of_length_le (by rw [← Lib.size_eq]; exact Nat.le_refl _)]
  have key : manyN ((signB (n : Int)).get! 0).toNat = (signB (n : Int)).size ∧ accN (signB (n : Int)) 0 ((signB (n : Int)).size - 1) = n := by
    rw [hl]
    revert hg
    unfold encN
    split
    · intro hg
      have h0 := hg 0 (by simp)
      simp only [List.getElem_cons_zero] at h0
      refine ⟨?_, ?_⟩
      · rw [h0]; unfold manyN; rw [if_pos (by omega)]; rfl
      · show headN _ = _
        rw [h0]; unfold headN; rw [if_pos (by omega)]
    · split
      · intro hg
        have h0 := hg 0 (by simp)
        have h1 := hg 1 (by simp)
        simp only [List.getElem_cons_zero, List.getElem_cons_succ] at h0 h1
        refine ⟨?_, ?_⟩
        · rw [h0]; unfold manyN; rw [if_neg (by omega), if_pos (by omega)]; rfl
        · show headN _ * 64 + ((signB (n : Int)).get! (0 + 0 + 1)).toNat % 64 = n
          rw [h0, show (0 + 0 + 1 : Nat) = 1 from rfl, h1]; unfold headN; rw [if_neg (by omega), if_pos (by omega)]; omega
      · split
        · intro hg
          have h0 := hg 0 (by simp)
          have h1 := hg 1 (by simp)
          have h2 := hg 2 (by simp)
          simp only [List.getElem_cons_zero, List.getElem_cons_succ] at h0 h1 h2
          refine ⟨?_, ?_⟩
          · rw [h0]; unfold manyN; rw [if_neg (by omega), if_neg (by omega), if_pos (by omega)]; rfl
          · show (headN _ * 64 + ((signB (n : Int)).get! (0 + 0 + 1)).toNat % 64) * 64 + ((signB (n : Int)).get! (0 + 1 + 1)).toNat % 64 = n
            rw [h0, show (0 + 0 + 1 : Nat) = 1 from rfl, h1, show (0 + 1 + 1 : Nat) = 2 from rfl, h2]; unfold headN; rw [if_neg (by omega), if_neg (by omega), if_pos (by omega)]; omega
        · intro hg
          have h0 := hg 0 (by simp)
          have h1 := hg 1 (by simp)
          have h2 := hg 2 (by simp)
          have h3 := hg 3 (by simp)
          simp only [List.getElem_cons_zero, List.getElem_cons_succ] at h0 h1 h2 h3
          refine ⟨?_, ?_⟩
          · rw [h0]; unfold manyN; rw [if_neg (by omega), if_neg (by omega), if_neg (by omega), if_pos (by omega)]; rfl
          · show ((headN _ * 64 + ((signB (n : Int)).get! (0 + 0 + 1)).toNat % 64) * 64 + ((signB (n : Int)).get! (0 + 1 + 1)).toNat % 64) * 64 + ((signB (n : Int)).get! (0 + 2 + 1)).toNat % 64 = n
            rw [h0, show (0 + 0 + 1 : Nat) = 1 from rfl, h1, show (0 + 1 + 1 : Nat) = 2 from rfl, h2, show (0 + 2 + 1 : Nat) = 3 from rfl, h3]; unfold headN; rw [if_neg (by omega), if_neg (by omega), if_neg (by omega), if_pos (by omega)]; omega
  have hpos : 0 < (signB (n : Int)).size := by
    have := (signB_zero (n : Int))
    rcases Nat.eq_zero_or_pos (signB (n : Int)).size with h0 | h0
    · rw [this.1 h0] at h; cases h
    · exact h0
  have hs := sgn_some (signB (n : Int)) 0 (signB (n : Int)).size key.1.symm hpos (by omega)
  have hok : gsOk (signB (n : Int)) ((0 : Nat) : Int) := hs.1.2 (by rw [key.2, hp])
  exact ⟨hok, by rw [hs.2 hok, key.2]⟩
theorem gs_back2 {z : Int} (h : isSg z = true) : (signB z).size ≠ 0 ∧ gsN (signB z) 0 = z ∧ gsE (signB z) 0 = ((signB z).size : Int) := by
  have hne : (signB z).size ≠ 0 := fun h0 => absurd ((signB_zero z).1 h0) (by rw [h]; decide)
  obtain ⟨n, rfl⟩ := Int.eq_ofNat_of_zero_le (isSg_pos h)
  have hg := gs_back h
  clear h
  generalize signB (n : Int) = S at *
  have e : Utf8.decode S (Int.toNat 0) = (n, S.size) := hg.2
  unfold gsN gsE
  rw [if_pos hg.1, if_pos hg.1, e]
  exact ⟨hne, rfl, Int.zero_add _⟩
/-- The signs read of a text are all of its bytes. -/
theorem rest_all (s : ByteArray) : ∀ (N i : Nat) (l : List Nat), s.size - i ≤ N → i ≤ s.size → restF s i = some l → l.flatMap (fun (n : Nat) => (signB (n : Int)).data.toList) = s.data.toList.drop i
  | 0, i, l, hN, hi, h => by
    rw [restF_end s i (by omega)] at h
    injection h with h
    subst h
    rw [List.drop_eq_nil_of_le (by rw [← Lib.size_eq]; omega)]
    rfl
  | N + 1, i, l, hN, hi, h => by
    by_cases hlt : i < s.size
    · by_cases hok : gsOk s (i : Int)
      · rw [restF_ok s i hlt hok] at h
        cases hr : restF s (i + (Utf8.decode s i).2) with
        | none => rw [hr] at h; cases h
        | some r =>
          rw [hr] at h
          injection h with h
          subst h
          have hd := dec_pos s i
          have hl := dec_le s i hlt
          have ih := rest_all s N (i + (Utf8.decode s i).2) r (by omega) hl hr
          rw [List.flatMap_cons, ih, (sign_piece hlt hok).2]
          unfold piece
          rw [← List.drop_drop, List.take_append_drop]
      · rw [restF_bad s i hlt hok] at h; cases h
    · rw [restF_end s i (by omega)] at h
      injection h with h
      subst h
      rw [List.drop_eq_nil_of_le (by rw [← Lib.size_eq]; omega)]
      rfl
/-- A text's signs, one behind the other, are the text. -/
def sigsTo (l : List Nat) : List UInt8 := l.flatMap fun (n : Nat) => (signB (n : Int)).data.toList
theorem sigs_all {s : ByteArray} (h : textOk s = true) : sigsTo (signsL s) = s.data.toList := by
  unfold textOk at h
  unfold signsL sigsTo
  cases hr : restF s 0 with
  | none => rw [hr] at h; cases h
  | some l =>
    have := rest_all s _ 0 l (Nat.le_refl _) (Nat.zero_le _) hr
    rw [List.drop_zero] at this
    exact this
theorem sigs_step (l : List Nat) (j : Nat) (h : j < l.length) : sigsTo (l.take (j + 1)) = sigsTo (l.take j) ++ (signB ((l[j] : Nat) : Int)).data.toList := by
  unfold sigsTo
  rw [List.take_add_one, List.getElem?_eq_getElem h, List.flatMap_append]
  simp
theorem sigs_len (l : List Nat) (j : Nat) : (sigsTo (l.take j)).length ≤ 4 * j := by
  unfold sigsTo
  induction j with
  | zero => simp
  | succ j ih =>
    by_cases h : j < l.length
    · have := sigs_step l j h
      unfold sigsTo at this
      rw [this, List.length_append]
      have h2 := signB_len ((l[j] : Nat) : Int)
      rw [Lib.size_eq] at h2
      omega
    · rw [List.take_of_length_le (by omega)] at ih ⊢
      omega
/-- Signs that are read are below a bound. -/
theorem rest_lt (s : ByteArray) : ∀ (N i : Nat) (l : List Nat), s.size - i ≤ N → i ≤ s.size → restF s i = some l → ∀ n ∈ l, n < 4294967296
  | 0, i, l, hN, hi, h => by
    rw [restF_end s i (by omega)] at h
    injection h with h
    subst h
    intro n hn; cases hn
  | N + 1, i, l, hN, hi, h => by
    by_cases hlt : i < s.size
    · by_cases hok : gsOk s (i : Int)
      · rw [restF_ok s i hlt hok] at h
        cases hr : restF s (i + (Utf8.decode s i).2) with
        | none => rw [hr] at h; cases h
        | some r =>
          rw [hr] at h
          injection h with h
          subst h
          have hd := dec_pos s i
          have hl := dec_le s i hlt
          have ih := rest_lt s N (i + (Utf8.decode s i).2) r (by omega) hl hr
          intro n hn
          rcases List.mem_cons.1 hn with rfl | hn
          · rw [Lib.decode_at]
            have h0 := (s.get! i).toNat_lt
            have h1 := (s.get! (i + 1)).toNat_lt
            have h2 := (s.get! (i + 2)).toNat_lt
            have h3 := (s.get! (i + 3)).toNat_lt
            unfold Lib.decodeN
            repeat' split
            all_goals simp
            all_goals omega
          · exact ih n hn
      · rw [restF_bad s i hlt hok] at h; cases h
    · rw [restF_end s i (by omega)] at h
      injection h with h
      subst h
      intro n hn; cases hn
theorem signs_lt (s : ByteArray) : ∀ n ∈ signsL s, n < 4294967296 := by
  unfold signsL
  cases hr : restF s 0 with
  | none => intro n hn; cases hn
  | some l => exact rest_lt s _ 0 l (Nat.le_refl _) (Nat.zero_le _) hr
end Go.Proofs.YtlgonfdodmipeaaDoor
