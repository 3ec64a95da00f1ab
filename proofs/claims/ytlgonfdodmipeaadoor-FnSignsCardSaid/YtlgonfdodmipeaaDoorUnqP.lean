/-
  Unquote, plainly: what a backslash begins, and what is read from a place on.
-/
import Derived.Test.YtlgonfdodmipeaaDoorRunes
namespace Go.Proofs.YtlgonfdodmipeaaDoor
open Go.RowKit
set_option linter.unusedVariables false

/-- The number of a hexadecimal digit, great or small, or -1. -/
def hxV (c : Nat) : Int := if 48 ≤ c ∧ c ≤ 57 then (c : Int) - 48 else if 97 ≤ c ∧ c ≤ 102 then (c : Int) - 87 else if 65 ≤ c ∧ c ≤ 70 then (c : Int) - 55 else -1
theorem hxV_range (c : Nat) : -1 ≤ hxV c ∧ hxV c ≤ 15 := by
  unfold hxV
  repeat' split
  all_goals omega
/-- All of j bytes from a place on are hexadecimal digits. -/
def hexTo (s : ByteArray) (i j : Nat) : Prop := ∀ k, k < j → 0 ≤ hxV (s.get! (i + k)).toNat
instance (s : ByteArray) (i j : Nat) : Decidable (hexTo s i j) := by unfold hexTo; infer_instance
/-- Their number. -/
def accH (s : ByteArray) (i : Nat) : Nat → Int
  | 0 => 0
  | j + 1 => 16 * accH s i j + hxV (s.get! (i + j)).toNat
theorem accH_range (s : ByteArray) (i : Nat) : ∀ j, j ≤ 4 → hexTo s i j → 0 ≤ accH s i j ∧ accH s i j < 16 ^ j
  | 0, _, _ => by simp [accH]
  | j + 1, hj, h => by
    have ih := accH_range s i j (by omega) (fun k hk => h k (by omega))
    have h1 := h j (by omega)
    have h2 := hxV_range (s.get! (i + j)).toNat
    rw [Int.pow_succ]
    unfold accH
    omega
/-- The number of four digits from a place on, or -1. -/
def unitZ (s : ByteArray) (i : Nat) : Int := if i + 4 ≤ s.size ∧ hexTo s i 4 then accH s i 4 else -1
theorem unitZ_range (s : ByteArray) (i : Nat) : -1 ≤ unitZ s i ∧ unitZ s i < 65536 := by
  unfold unitZ
  split
  · rename_i h
    have := accH_range s i 4 (by omega) h.2
    omega
  · omega
theorem unitZ_bad {s : ByteArray} {i j : Nat} (hj : j < 4) (h : hxV (s.get! (i + j)).toNat < 0) : unitZ s i = -1 := by
  unfold unitZ
  rw [if_neg]
  intro h2
  have := h2.2 j hj
  omega

/-- The byte that a letter behind a backslash stands for, 0 if it is none. -/
def longOf (c : Nat) : Nat := if c = 34 then 34 else if c = 92 then 92 else if c = 98 then 8 else if c = 102 then 12 else if c = 110 then 10 else if c = 114 then 13 else if c = 116 then 9 else if c = 47 then 47 else 0
theorem longOf_lt (c : Nat) : longOf c < 128 := by unfold longOf; repeat' split
                                                   all_goals omega
/-- A number that two units give. -/
def pairZ (n m : Int) : Int := 65536 + 1024 * (n - 55296) + m - 56320
/-- What a backslash at a place begins: the text, and the place behind; none if it begins nothing. -/
def escAt (s : ByteArray) (i : Nat) : Option (ByteArray × Nat) :=
  if s.size ≤ i + 1 then none
  else if longOf (s.get! (i + 1)).toNat ≠ 0 then some (str [UInt8.ofNat (longOf (s.get! (i + 1)).toNat)], i + 2)
  else if (s.get! (i + 1)).toNat = 117 then
    if 55296 ≤ unitZ s (i + 2) ∧ unitZ s (i + 2) ≤ 56319 then
      if i + 8 ≤ s.size ∧ (s.get! (i + 6)).toNat = 92 ∧ (s.get! (i + 7)).toNat = 117 ∧ 56320 ≤ unitZ s (i + 8) ∧ unitZ s (i + 8) ≤ 57343 then some (signB (pairZ (unitZ s (i + 2)) (unitZ s (i + 8))), i + 12) else none
    else if isSg (unitZ s (i + 2)) then some (signB (unitZ s (i + 2)), i + 6) else none
  else none
theorem unitZ_room {s : ByteArray} {i : Nat} (h : 0 ≤ unitZ s i) : i + 4 ≤ s.size := by
  unfold unitZ at h
  split at h
  · rename_i h2; exact h2.1
  · omega
theorem isSg_pos {n : Int} (h : isSg n = true) : 0 ≤ n := by unfold isSg at h; simp at h; omega
theorem escAt_place {s t : ByteArray} {i n : Nat} (h : escAt s i = some (t, n)) : i + 2 ≤ n ∧ n ≤ s.size := by
  unfold escAt at h
  split at h
  · cases h
  · split at h
    · injection h with h; injection h with _ h; omega
    · split at h
      · split at h
        · split at h
          · rename_i h2
            injection h with h; injection h with _ h
            have := unitZ_room (s := s) (i := i + 8) (by omega)
            omega
          · cases h
        · split at h
          · rename_i h2
            injection h with h; injection h with _ h
            have := unitZ_room (isSg_pos h2)
            omega
          · cases h
      · cases h
theorem signB_len (n : Int) : (signB n).size ≤ 4 := by
  by_cases h : isSg n = true
  · obtain ⟨k, rfl⟩ := Int.eq_ofNat_of_zero_le (isSg_pos h)
    have h1 := congrArg List.length (sgN_eq k)
    rw [List.length_map] at h1
    have h2 : (signB (k : Int)).data.toList.length = (signB (k : Int)).size := (Lib.size_eq _).symm
    rw [h2] at h1
    rw [h1]
    unfold sgN encN
    split
    · split
      · exact Nat.le_of_ble_eq_true rfl
      · split
        · exact Nat.le_of_ble_eq_true rfl
        · split
          · exact Nat.le_of_ble_eq_true rfl
          · exact Nat.le_of_ble_eq_true rfl
    · exact Nat.zero_le 4
  · unfold signB; rw [if_neg h]; exact Nat.zero_le 4
theorem escAt_len {s t : ByteArray} {i n : Nat} (h : escAt s i = some (t, n)) : t.size ≤ n - i := by
  have hp := escAt_place h
  unfold escAt at h
  split at h
  · cases h
  · split at h
    · injection h with h; injection h with h1 h2; subst h1; rw [str_len]; simp; omega
    · split at h
      · split at h
        · split at h
          · injection h with h; injection h with h1 h2; subst h1
            have := signB_len (pairZ (unitZ s (i + 2)) (unitZ s (i + 8)))
            omega
          · cases h
        · split at h
          · injection h with h; injection h with h1 h2; subst h1
            have := signB_len (unitZ s (i + 2))
            omega
          · cases h
      · cases h

/-- What is read from a place on, up to the closing quote, and the place behind that. -/
def unqG (s : ByteArray) : Nat → Nat → List UInt8 → Option (List UInt8 × Nat)
  | 0, _, _ => none
  | f + 1, i, out =>
    if s.size ≤ i then none
    else if (s.get! i).toNat = 34 then some (out, i + 1)
    else if (s.get! i).toNat = 92 then
      match escAt s i with
      | none => none
      | some (t, n) => unqG s f n (out ++ t.data.toList)
    else if gsOk s (i : Int) ∧ 32 ≤ (s.get! i).toNat then unqG s f (i + (Utf8.decode s i).2) (out ++ piece s i (Utf8.decode s i).2)
    else none
theorem unqG_fuel (s : ByteArray) : ∀ f g i out, s.size - i < f → s.size - i < g → unqG s f i out = unqG s g i out
  | 0, _, _, _, h, _ => by omega
  | _ + 1, 0, _, _, _, h => by omega
  | f + 1, g + 1, i, out, h1, h2 => by
    unfold unqG
    by_cases hi : s.size ≤ i
    · rw [if_pos hi, if_pos hi]
    · rw [if_neg hi, if_neg hi]
      split
      · rfl
      · split
        · cases he : escAt s i with
          | none => rfl
          | some p =>
            obtain ⟨t, n⟩ := p
            have := escAt_place he
            exact unqG_fuel s f g _ _ (by omega) (by omega)
        · split
          · have := dec_pos s i
            exact unqG_fuel s f g _ _ (by omega) (by omega)
          · rfl
def unqF (s : ByteArray) (i : Nat) (out : List UInt8) : Option (List UInt8 × Nat) := unqG s (s.size - i + 1) i out
theorem unqF_eq (s : ByteArray) (i : Nat) (out : List UInt8) : unqF s i out =
    if s.size ≤ i then none
    else if (s.get! i).toNat = 34 then some (out, i + 1)
    else if (s.get! i).toNat = 92 then
      match escAt s i with
      | none => none
      | some (t, n) => unqF s n (out ++ t.data.toList)
    else if gsOk s (i : Int) ∧ 32 ≤ (s.get! i).toNat then unqF s (i + (Utf8.decode s i).2) (out ++ piece s i (Utf8.decode s i).2)
    else none := by
  conv => lhs; unfold unqF; unfold unqG
  by_cases hi : s.size ≤ i
  · rw [if_pos hi, if_pos hi]
  · rw [if_neg hi, if_neg hi]
    split
    · rfl
    · split
      · cases he : escAt s i with
        | none => rfl
        | some p =>
          obtain ⟨t, n⟩ := p
          have := escAt_place he
          exact unqG_fuel s _ _ _ _ (by omega) (by omega)
      · split
        · have := dec_pos s i
          exact unqG_fuel s _ _ _ _ (by omega) (by omega)
        · rfl
/-- What Unquote hands back. -/
def unqP (s : ByteArray) (i : Int) : Option (List UInt8 × Nat) := if 0 ≤ i ∧ i < s.size ∧ (s.get! i.toNat).toNat = 34 then unqF s (i.toNat + 1) [] else none
def unqB (s : ByteArray) (i : Int) : ByteArray := match unqP s i with | none => ⟨#[]⟩ | some (t, _) => str t
def unqE (s : ByteArray) (i : Int) : Int := match unqP s i with | none => -1 | some (_, n) => (n : Int)
/-- What holds in both loops: what has been read ahead of i. -/
def UnqTo (s : ByteArray) (a : Int) (i : Nat) (out : List UInt8) : Prop := i ≤ s.size ∧ out.length ≤ i ∧ unqP s a = unqF s i out
theorem unqTo_start {s : ByteArray} {a : Int} (h : 0 ≤ a ∧ a < s.size ∧ (s.get! a.toNat).toNat = 34) : UnqTo s a (a.toNat + 1) [] := by
  refine ⟨by omega, Nat.zero_le _, ?_⟩
  unfold unqP; rw [if_pos h]
theorem unq_no {s : ByteArray} {a : Int} (h : unqP s a = none) : unqB s a = ⟨#[]⟩ ∧ unqE s a = -1 := by unfold unqB unqE; rw [h]; exact ⟨rfl, rfl⟩
theorem unq_some {s : ByteArray} {a : Int} {t : List UInt8} {n : Nat} (h : unqP s a = some (t, n)) : unqB s a = str t ∧ unqE s a = n := by unfold unqB unqE; rw [h]; exact ⟨rfl, rfl⟩
theorem unqTo_end {s : ByteArray} {a : Int} {i : Nat} {out : List UInt8} (h : UnqTo s a i out) (hi : s.size ≤ i) : unqB s a = ⟨#[]⟩ ∧ unqE s a = -1 := by
  apply unq_no; rw [h.2.2, unqF_eq, if_pos hi]
theorem unqTo_shut {s : ByteArray} {a : Int} {i : Nat} {out : List UInt8} (h : UnqTo s a i out) (hi : i < s.size) (hq : (s.get! i).toNat = 34) : unqB s a = str out ∧ unqE s a = (i : Int) + 1 := by
  have := unq_some (s := s) (a := a) (t := out) (n := i + 1) (by rw [h.2.2, unqF_eq, if_neg (by omega), if_pos hq])
  exact ⟨this.1, by rw [this.2]; omega⟩
theorem unqTo_escBad {s : ByteArray} {a : Int} {i : Nat} {out : List UInt8} (h : UnqTo s a i out) (hi : i < s.size) (hq : (s.get! i).toNat = 92) (he : escAt s i = none) : unqB s a = ⟨#[]⟩ ∧ unqE s a = -1 := by
  apply unq_no; rw [h.2.2, unqF_eq, if_neg (by omega), if_neg (by omega), if_pos hq, he]
theorem unqTo_esc {s t : ByteArray} {a : Int} {i n : Nat} {out : List UInt8} (h : UnqTo s a i out) (hi : i < s.size) (hq : (s.get! i).toNat = 92) (he : escAt s i = some (t, n)) : UnqTo s a n (out ++ t.data.toList) := by
  have hp := escAt_place he
  have hl := escAt_len he
  have ht : t.data.toList.length = t.size := rfl
  refine ⟨hp.2, by rw [List.length_append, ht]; have := h.2.1; omega, ?_⟩
  rw [h.2.2, unqF_eq, if_neg (by omega), if_neg (by omega), if_pos hq, he]
theorem unqTo_bad {s : ByteArray} {a : Int} {i : Nat} {out : List UInt8} (h : UnqTo s a i out) (hi : i < s.size) (hq : (s.get! i).toNat ≠ 34) (hb : (s.get! i).toNat ≠ 92) (hn : ¬ (gsOk s (i : Int) ∧ 32 ≤ (s.get! i).toNat)) : unqB s a = ⟨#[]⟩ ∧ unqE s a = -1 := by
  apply unq_no; rw [h.2.2, unqF_eq, if_neg (by omega), if_neg hq, if_neg hb, if_neg hn]
theorem unqTo_sign {s : ByteArray} {a : Int} {i : Nat} {out : List UInt8} (h : UnqTo s a i out) (hi : i < s.size) (hq : (s.get! i).toNat ≠ 34) (hb : (s.get! i).toNat ≠ 92) (hok : gsOk s (i : Int)) (h32 : 32 ≤ (s.get! i).toNat) : UnqTo s a (i + (Utf8.decode s i).2) (out ++ piece s i (Utf8.decode s i).2) := by
  have hd := dec_le s i hi
  refine ⟨hd, by rw [List.length_append, piece_len _ _ _ hd]; have := h.2.1; omega, ?_⟩
  rw [h.2.2, unqF_eq, if_neg (by omega), if_neg hq, if_neg hb, if_pos ⟨hok, h32⟩]
/-- A sign's number is below 32 where its byte is. -/
theorem sign_low {s : ByteArray} {i : Nat} (hi : i < s.size) (hok : gsOk s (i : Int)) : (Utf8.decode s i).1 < 32 ↔ (s.get! i).toNat < 32 := by
  rw [gsOk_nat s i hi] at hok
  revert hok
  rw [Lib.decode_at]
  have h0 := (s.get! i).toNat_lt
  generalize (s.get! i).toNat = b0 at *
  unfold Lib.decodeN
  repeat' split
  all_goals simp
  all_goals omega
/-- A sign's bytes are those that stand there. -/
theorem sign_piece {s : ByteArray} {i : Nat} (hi : i < s.size) (hok : gsOk s (i : Int)) : signB ((Utf8.decode s i).1 : Int) = s.extract i (i + (Utf8.decode s i).2) ∧ (signB ((Utf8.decode s i).1 : Int)).data.toList = piece s i (Utf8.decode s i).2 := by
  have hlt := (s.get! i).toNat_lt
  have hm0 : manyN (s.get! i).toNat ≠ 0 := fun h => sgn_none s i (.inl h) hok
  have hle : i + manyN (s.get! i).toNat ≤ s.size := by
    rcases Nat.lt_or_ge s.size (i + manyN (s.get! i).toNat) with h | h
    · exact absurd hok (sgn_none s i (.inr h))
    · exact h
  have h := sgn_some s i _ rfl (by omega) hle
  have hd := h.2 hok
  have hc := (sg_cmp s i (manyN (s.get! i).toNat) (accN s i (manyN (s.get! i).toNat - 1)) hle).2 (h.1.1 hok)
  rw [hd]
  refine ⟨hc, ?_⟩
  rw [hc, extract_piece]
end Go.Proofs.YtlgonfdodmipeaaDoor
