/-
  The texts on which the last one leans, part 2: Sgn, Runes, Int, Right, NumP, Dec, CnP, ImplSame, CmpL, InsR, RotR, SymA, SymB.
-/
import Derived.Test.YtcjamnfboifjeaaDoorPLSorteda
import Derived.Lib.DecodeN
import Derived.Lib.ValidLaws
import Derived.Lib.ItoaNum
import Derived.Lib.AtoiAllCases
import Derived.Lib.TrimByte
import Derived.Shelf.Abstract
import Derived.StillTailTactics
import Derived.BigQuiet
import Derived.Deep.QuietTactic
/-
  GetSign, plainly: the first byte's say, the bytes behind it, and the model's own decoder.
-/
namespace Go.Proofs.YtcjamnfboifjeaaDoor
open Go.RowKit
set_option linter.unusedVariables false

/-- The bytes of a sign, as numbers. -/
def encN (n : Nat) : List Nat :=
  if n < 128 then [n] else if n < 2048 then [192 + n / 64, 128 + n % 64] else if n < 65536 then [224 + n / 4096, 128 + n / 64 % 64, 128 + n % 64]
  else [240 + n / 262144, 128 + n / 4096 % 64, 128 + n / 64 % 64, 128 + n % 64]
/-- The bytes of PutSign's answer, as numbers. -/
def sgN (n : Nat) : List Nat := if n < 55296 ∨ (57343 < n ∧ n < 1114112) then encN n else []
theorem sgN_eq (n : Nat) : (signB (n : Int)).data.toList.map UInt8.toNat = sgN n := by
  unfold signB sgN
  by_cases h : n < 55296 ∨ (57343 < n ∧ n < 1114112)
  · have hv := valid_of n h
    rw [if_pos h, if_pos (by unfold isSg; simp; omega)]
    unfold Utf8.encode encN
    simp only [hv, if_true, Int.toNat_natCast]
    by_cases h1 : n < 128
    · rw [if_pos h1, if_pos h1]; simp; omega
    · rw [if_neg h1, if_neg h1]
      by_cases h2 : n < 2048
      · rw [if_pos h2, if_pos h2]; simp; omega
      · rw [if_neg h2, if_neg h2]
        by_cases h3 : n < 65536
        · rw [if_pos h3, if_pos h3]; simp; omega
        · rw [if_neg h3, if_neg h3]; simp; omega
  · rw [if_neg h, if_neg (by unfold isSg; simp; omega)]
    rfl
theorem get_get! (s : ByteArray) (i : Nat) (h : i < s.size) : s[i] = s.get! i := by
  cases s with
  | mk d => exact (getElem!_pos d i h).symm
/-- A piece's bytes, as numbers. -/
def pcN (s : ByteArray) (i m : Nat) : List Nat := (List.range m).map fun k => (s.get! (i + k)).toNat
theorem pcN_eq (s : ByteArray) (i : Nat) : ∀ m, i + m ≤ s.size → (piece s i m).map UInt8.toNat = pcN s i m
  | 0, _ => by simp [piece, pcN]
  | m + 1, h => by
    rw [piece_succ s i m (by omega), List.map_append, pcN_eq s i m (by omega), get_get! _ _ (by omega)]
    simp [pcN, List.range_succ]
theorem extract_piece (s : ByteArray) (i m : Nat) : (s.extract i (i + m)).data.toList = piece s i m := by
  unfold piece
  simp [ByteArray.data_extract]
theorem ba_ext {a b : ByteArray} (h : a.data.toList = b.data.toList) : a = b := by
  cases a; cases b; congr 1; exact Array.toList_inj.1 h
theorem map_toNat_inj {a b : List UInt8} (h : a.map UInt8.toNat = b.map UInt8.toNat) : a = b :=
  (List.map_inj_right (fun x y h => UInt8.toNat_inj.1 h)).1 h
theorem sg_cmp (s : ByteArray) (i m n : Nat) (h : i + m ≤ s.size) : signB (n : Int) = s.extract i (i + m) ↔ sgN n = pcN s i m := by
  rw [← sgN_eq, ← pcN_eq s i m h, ← extract_piece]
  constructor
  · intro h; rw [h]
  · intro h; exact ba_ext (map_toNat_inj h)

/-- GetSign reads a sign at a place. -/
def gsOk (s : ByteArray) (i : Int) : Prop := 0 ≤ i ∧ i < s.size ∧ ¬ ((Utf8.decode s i.toNat).1 = 65533 ∧ (Utf8.decode s i.toNat).2 < 3)
instance (s : ByteArray) (i : Int) : Decidable (gsOk s i) := by unfold gsOk; infer_instance
/-- What GetSign hands back. -/
def gsN (s : ByteArray) (i : Int) : Int := if gsOk s i then (Utf8.decode s i.toNat).1 else -1
def gsE (s : ByteArray) (i : Int) : Int := if gsOk s i then i + (Utf8.decode s i.toNat).2 else -1

/-- How many bytes the first one says that there are, and what it holds. -/
def manyN (b : Nat) : Nat := if b < 128 then 1 else if 192 ≤ b ∧ b ≤ 223 then 2 else if 224 ≤ b ∧ b ≤ 239 then 3 else if 240 ≤ b ∧ b ≤ 247 then 4 else 0
def headN (b : Nat) : Nat := if b < 128 then b else if 192 ≤ b ∧ b ≤ 223 then b % 32 else if 224 ≤ b ∧ b ≤ 239 then b % 16 else if 240 ≤ b ∧ b ≤ 247 then b % 8 else 0
/-- What has been read behind k more bytes. -/
def accN (s : ByteArray) (i : Nat) : Nat → Nat
  | 0 => headN (s.get! i).toNat
  | k + 1 => accN s i k * 64 + (s.get! (i + (k + 1))).toNat % 64
theorem manyN_le (b : Nat) : manyN b ≤ 4 := by unfold manyN; repeat' split
                                               all_goals omega
theorem headN_lt (b : Nat) : headN b < 128 := by unfold headN; repeat' split
                                                 all_goals omega
theorem accN_lt (s : ByteArray) (i : Nat) : ∀ k, k ≤ 3 → accN s i k < 33554432 := by
  have h0 := headN_lt (s.get! i).toNat
  intro k hk
  rcases (show k = 0 ∨ k = 1 ∨ k = 2 ∨ k = 3 by omega) with rfl | rfl | rfl | rfl <;> simp only [accN] <;> omega

set_option maxRecDepth 100000 in
set_option maxHeartbeats 4000000 in
theorem sgn_none (s : ByteArray) (i : Nat) (h : manyN (s.get! i).toNat = 0 ∨ s.size < i + manyN (s.get! i).toNat) : ¬ gsOk s (i : Int) := by
  unfold gsOk
  rintro ⟨_, h2, h3⟩
  apply h3
  rw [Int.toNat_natCast, Lib.decode_at]
  have b0 := (s.get! i).toNat_lt
  revert h
  generalize (s.get! i).toNat = b0 at *
  generalize (s.get! (i + 1)).toNat = b1 at *
  generalize (s.get! (i + 2)).toNat = b2 at *
  generalize (s.get! (i + 3)).toNat = b3 at *
  intro h
  unfold manyN at h
  unfold Lib.decodeN
  repeat' split
  all_goals first | (exact ⟨rfl, by omega⟩) | (exfalso; revert h; repeat' split
                                               all_goals omega)
set_option maxRecDepth 100000 in
set_option maxHeartbeats 4000000 in
theorem sgn_pure (z b0 b1 b2 b3 m : Nat) (hb0 : b0 < 256) (hb1 : b1 < 256) (hb2 : b2 < 256) (hb3 : b3 < 256) (hm : m = manyN b0) (h0 : 0 < m) (hz : m ≤ z) (N : Nat) (L : List Nat)
    (hN : (m = 1 ∧ N = headN b0 ∧ L = [b0]) ∨ (m = 2 ∧ N = headN b0 * 64 + b1 % 64 ∧ L = [b0, b1]) ∨ (m = 3 ∧ N = (headN b0 * 64 + b1 % 64) * 64 + b2 % 64 ∧ L = [b0, b1, b2]) ∨
      (m = 4 ∧ N = ((headN b0 * 64 + b1 % 64) * 64 + b2 % 64) * 64 + b3 % 64 ∧ L = [b0, b1, b2, b3])) :
    (¬ ((Lib.decodeN z b0 b1 b2 b3).1 = 65533 ∧ (Lib.decodeN z b0 b1 b2 b3).2 < 3) ↔ sgN N = L) ∧ (¬ ((Lib.decodeN z b0 b1 b2 b3).1 = 65533 ∧ (Lib.decodeN z b0 b1 b2 b3).2 < 3) → Lib.decodeN z b0 b1 b2 b3 = (N, m)) := by
  have hc : (b0 < 128 ∧ m = 1 ∧ headN b0 = b0) ∨ ((192 ≤ b0 ∧ b0 ≤ 223) ∧ m = 2 ∧ headN b0 = b0 % 32) ∨ ((224 ≤ b0 ∧ b0 ≤ 239) ∧ m = 3 ∧ headN b0 = b0 % 16) ∨ ((240 ≤ b0 ∧ b0 ≤ 247) ∧ m = 4 ∧ headN b0 = b0 % 8) := by
    subst hm
    revert h0
    unfold manyN headN
    repeat' split
    all_goals omega
  clear hm
  rcases hc with ⟨hb, rfl, hh⟩ | ⟨hb, rfl, hh⟩ | ⟨hb, rfl, hh⟩ | ⟨hb, rfl, hh⟩
  · obtain ⟨rfl, rfl⟩ : N = b0 ∧ L = [b0] := by
      rcases hN with ⟨h, h1, h2⟩ | ⟨h, _⟩ | ⟨h, _⟩ | ⟨h, _⟩
      · exact ⟨h1.trans hh, h2⟩
      all_goals omega
    rw [Lib.decodeN, if_pos hb]
    unfold sgN encN
    rw [if_pos (by omega), if_pos hb]
    simp
    omega
  · obtain ⟨hNN, rfl⟩ : N = b0 % 32 * 64 + b1 % 64 ∧ L = [b0, b1] := by
      rcases hN with ⟨h, _⟩ | ⟨h, h1, h2⟩ | ⟨h, _⟩ | ⟨h, _⟩
      · omega
      · exact ⟨by rw [h1, hh], h2⟩
      all_goals omega
    have hNl : N < 2048 := by omega
    unfold sgN encN
    rw [if_pos (by omega)]
    by_cases h1 : b1 / 64 = 2
    · by_cases h2 : 128 ≤ N
      · rw [Lib.decodeN, if_neg (by omega), if_pos (by omega), ← hNN, if_pos h2, if_neg (by omega), if_pos hNl]
        simp
        omega
      · rw [Lib.decodeN, if_neg (by omega), if_pos (by omega), ← hNN, if_neg h2, if_pos (by omega)]
        simp
    · rw [Lib.decodeN, if_neg (by omega), if_neg (by omega), if_neg (by omega), if_neg (by omega)]
      by_cases h2 : 128 ≤ N
      · rw [if_neg (by omega), if_pos hNl]
        simp
        omega
      · rw [if_pos (by omega)]
        simp
  · obtain ⟨hNN, rfl⟩ : N = b0 % 16 * 4096 + b1 % 64 * 64 + b2 % 64 ∧ L = [b0, b1, b2] := by
      rcases hN with ⟨h, _⟩ | ⟨h, _⟩ | ⟨h, h1, h2⟩ | ⟨h, _⟩
      · omega
      · omega
      · exact ⟨by rw [h1, hh]; omega, h2⟩
      · omega
    have hNl : N < 65536 := by omega
    by_cases h1 : b1 / 64 = 2 ∧ b2 / 64 = 2
    · by_cases h2 : 2048 ≤ N ∧ (N < 55296 ∨ (57344 ≤ N ∧ N ≤ 1114111))
      · rw [Lib.decodeN, if_neg (by omega), if_neg (by omega), if_pos (by omega), ← hNN, if_pos h2]
        unfold sgN encN
        rw [if_pos (by omega), if_neg (by omega), if_neg (by omega), if_pos hNl]
        simp
        omega
      · rw [Lib.decodeN, if_neg (by omega), if_neg (by omega), if_pos (by omega), ← hNN, if_neg h2]
        unfold sgN encN
        by_cases h3 : N < 55296 ∨ (57343 < N ∧ N < 1114112)
        · rw [if_pos h3]
          by_cases h4 : N < 128
          · rw [if_pos h4]; simp
          · rw [if_neg h4, if_pos (by omega)]; simp
        · rw [if_neg h3]; simp
    · rw [Lib.decodeN, if_neg (by omega), if_neg (by omega), if_neg (by omega), if_neg (by omega)]
      unfold sgN encN
      by_cases h3 : N < 55296 ∨ (57343 < N ∧ N < 1114112)
      · rw [if_pos h3]
        by_cases h4 : N < 128
        · rw [if_pos h4]; simp
        · rw [if_neg h4]
          by_cases h5 : N < 2048
          · rw [if_pos h5]; simp
          · rw [if_neg h5, if_pos hNl]; simp; omega
      · rw [if_neg h3]; simp
  · obtain ⟨hNN, rfl⟩ : N = b0 % 8 * 262144 + b1 % 64 * 4096 + b2 % 64 * 64 + b3 % 64 ∧ L = [b0, b1, b2, b3] := by
      rcases hN with ⟨h, _⟩ | ⟨h, _⟩ | ⟨h, _⟩ | ⟨h, h1, h2⟩
      · omega
      · omega
      · omega
      · exact ⟨by rw [h1, hh]; omega, h2⟩
    by_cases h1 : b1 / 64 = 2 ∧ b2 / 64 = 2 ∧ b3 / 64 = 2
    · by_cases h2 : 65536 ≤ N ∧ (N < 55296 ∨ (57344 ≤ N ∧ N ≤ 1114111))
      · rw [Lib.decodeN, if_neg (by omega), if_neg (by omega), if_neg (by omega), if_pos (by omega), ← hNN, if_pos h2]
        unfold sgN encN
        rw [if_pos (by omega), if_neg (by omega), if_neg (by omega), if_neg (by omega)]
        simp
        omega
      · rw [Lib.decodeN, if_neg (by omega), if_neg (by omega), if_neg (by omega), if_pos (by omega), ← hNN, if_neg h2]
        unfold sgN encN
        by_cases h3 : N < 55296 ∨ (57343 < N ∧ N < 1114112)
        · rw [if_pos h3]
          by_cases h4 : N < 128
          · rw [if_pos h4]; simp
          · rw [if_neg h4]
            by_cases h5 : N < 2048
            · rw [if_pos h5]; simp
            · rw [if_neg h5, if_pos (by omega)]; simp
        · rw [if_neg h3]; simp
    · rw [Lib.decodeN, if_neg (by omega), if_neg (by omega), if_neg (by omega), if_neg (by omega)]
      unfold sgN encN
      by_cases h3 : N < 55296 ∨ (57343 < N ∧ N < 1114112)
      · rw [if_pos h3]
        by_cases h4 : N < 128
        · rw [if_pos h4]; simp
        · rw [if_neg h4]
          by_cases h5 : N < 2048
          · rw [if_pos h5]; simp
          · rw [if_neg h5]
            by_cases h6 : N < 65536
            · rw [if_pos h6]; simp
            · rw [if_neg h6]; simp; omega
      · rw [if_neg h3]; simp
theorem sgn_some (s : ByteArray) (i m : Nat) (hm : m = manyN (s.get! i).toNat) (h0 : 0 < m) (hle : i + m ≤ s.size) :
    (gsOk s (i : Int) ↔ sgN (accN s i (m - 1)) = pcN s i m) ∧ (gsOk s (i : Int) → Utf8.decode s i = (accN s i (m - 1), m)) := by
  have hi : (0 : Int) ≤ i ∧ (i : Int) < s.size := by omega
  unfold gsOk
  rw [Int.toNat_natCast, Lib.decode_at]
  simp only [hi, true_and]
  have h4 := manyN_le (s.get! i).toNat
  refine sgn_pure (s.size - i) _ _ _ _ m ((s.get! i).toNat_lt) ((s.get! _).toNat_lt) ((s.get! _).toNat_lt) ((s.get! _).toNat_lt) hm h0 (by omega) _ _ ?_
  rcases (show m = 1 ∨ m = 2 ∨ m = 3 ∨ m = 4 by omega) with rfl | rfl | rfl | rfl
  · exact .inl ⟨rfl, rfl, by simp [pcN, List.range_succ]⟩
  · exact .inr (.inl ⟨rfl, rfl, by simp [pcN, List.range_succ]⟩)
  · exact .inr (.inr (.inl ⟨rfl, rfl, by simp [pcN, List.range_succ]⟩))
  · exact .inr (.inr (.inr ⟨rfl, rfl, by simp [pcN, List.range_succ]⟩))
end Go.Proofs.YtcjamnfboifjeaaDoor

/-
  The signs of a text, plainly: one by one from a place on; a text that is right.
-/
namespace Go.Proofs.YtcjamnfboifjeaaDoor
open Go.RowKit
set_option linter.unusedVariables false

/-- The signs from a place on, none where there is a wrong one. -/
def restG (s : ByteArray) : Nat → Nat → Option (List Nat)
  | 0, _ => some []
  | f + 1, i => if i < s.size then (if gsOk s (i : Int) then (restG s f (i + (Utf8.decode s i).2)).map ((Utf8.decode s i).1 :: ·) else none) else some []
def restF (s : ByteArray) (i : Nat) : Option (List Nat) := restG s (s.size - i) i
theorem dec_pos (s : ByteArray) (i : Nat) : 1 ≤ (Utf8.decode s i).2 := Lib.width_pos s i
theorem restG_fuel (s : ByteArray) : ∀ f g i, s.size - i ≤ f → s.size - i ≤ g → restG s f i = restG s g i
  | 0, 0, _, _, _ => rfl
  | 0, g + 1, i, h, _ => by rw [restG, restG, if_neg (by omega)]
  | f + 1, 0, i, _, h => by rw [restG, restG, if_neg (by omega)]
  | f + 1, g + 1, i, h1, h2 => by
    rw [restG, restG]
    by_cases hi : i < s.size
    · have := dec_pos s i
      rw [if_pos hi, if_pos hi, restG_fuel s f g _ (by omega) (by omega)]
    · rw [if_neg hi, if_neg hi]
theorem restF_end (s : ByteArray) (i : Nat) (h : s.size ≤ i) : restF s i = some [] := by
  unfold restF
  rw [show s.size - i = 0 by omega]
  rfl
theorem restF_ok (s : ByteArray) (i : Nat) (h : i < s.size) (hok : gsOk s (i : Int)) : restF s i = (restF s (i + (Utf8.decode s i).2)).map ((Utf8.decode s i).1 :: ·) := by
  have := dec_pos s i
  unfold restF
  obtain ⟨f, hf⟩ : ∃ f, s.size - i = f + 1 := ⟨s.size - i - 1, by omega⟩
  rw [hf, restG, if_pos h, if_pos hok, restG_fuel s f _ _ (by omega) (Nat.le_refl _)]
theorem restF_bad (s : ByteArray) (i : Nat) (h : i < s.size) (hok : ¬ gsOk s (i : Int)) : restF s i = none := by
  unfold restF
  obtain ⟨f, hf⟩ : ∃ f, s.size - i = f + 1 := ⟨s.size - i - 1, by omega⟩
  rw [hf, restG, if_pos h, if_neg hok]
/-- A text is right. -/
def textOk (s : ByteArray) : Bool := (restF s 0).isSome
/-- The signs of a text, none if it isn't right. -/
def signsL (s : ByteArray) : List Nat := (restF s 0).getD []

theorem dec_65533 (s : ByteArray) (i : Nat) : ((Utf8.decode s i).1 = 65533 ∧ (Utf8.decode s i).2 < 3) ↔ ((Utf8.decode s i).1 = 65533 ∧ (Utf8.decode s i).2 = 1) := by
  rw [Lib.decode_at]
  have h0 := (s.get! i).toNat_lt
  have h1 := (s.get! (i + 1)).toNat_lt
  generalize (s.get! i).toNat = b0 at *
  generalize (s.get! (i + 1)).toNat = b1 at *
  unfold Lib.decodeN
  repeat' split
  all_goals simp
  all_goals omega
theorem gsOk_nat (s : ByteArray) (i : Nat) (h : i < s.size) : gsOk s (i : Int) ↔ ¬ ((Utf8.decode s i).1 = 65533 ∧ (Utf8.decode s i).2 = 1) := by
  unfold gsOk
  rw [Int.toNat_natCast, ← dec_65533]
  constructor
  · exact fun h => h.2.2
  · exact fun h => ⟨by omega, by omega, h⟩
theorem valid_rest (s : ByteArray) : ∀ n i, s.size - i ≤ n → Lib.validD (s.data.toList.drop i) = (restF s i).isSome := by
  have hl : s.data.toList.length = s.size := rfl
  intro n
  induction n with
  | zero =>
    intro i h
    rw [restF_end s i (by omega), List.drop_eq_nil_of_le (by omega)]
    rfl
  | succ n ih =>
    intro i h
    by_cases hi : i < s.size
    · have hne : s.data.toList.drop i ≠ [] := by
        intro h
        have := congrArg List.length h
        simp at this
        have e : s.data.size = s.size := rfl
        omega
      have hp := dec_pos s i
      rw [Lib.validD_step _ hne, Lib.decodeL_drop, List.drop_drop]
      by_cases hok : gsOk s (i : Int)
      · rw [if_neg ((gsOk_nat s i hi).1 hok), restF_ok s i hi hok, ih _ (by omega)]
        simp
      · rw [if_pos (by
          have := hok
          rw [gsOk_nat s i hi] at this
          exact Classical.not_not.1 this), restF_bad s i hi hok]
        rfl
    · rw [restF_end s i (by omega), List.drop_eq_nil_of_le (by omega)]
      rfl
theorem valid_textOk (s : ByteArray) : Lib.validD s.data.toList = textOk s := by
  have := valid_rest s _ 0 (Nat.le_refl _)
  simpa [textOk] using this
theorem textOk_signs (s : ByteArray) : textOk s = (decide (s.size = 0) || decide (0 < (signsL s).length)) := by
  unfold textOk signsL
  by_cases h0 : s.size = 0
  · rw [restF_end s 0 (by omega)]; simp [h0]
  · by_cases hok : gsOk s ((0 : Nat) : Int)
    · rw [restF_ok s 0 (by omega) hok]
      cases restF s (0 + (Utf8.decode s 0).2) <;> simp [h0]
    · rw [restF_bad s 0 (by omega) hok]; simp [h0]

/-- What has been read ahead of a place. -/
def ReadTo (s : ByteArray) (i : Nat) (pre : List Nat) : Prop := i ≤ s.size ∧ pre.length ≤ i ∧ restF s 0 = (restF s i).map (pre ++ ·)
theorem readTo_zero (s : ByteArray) : ReadTo s 0 [] := ⟨Nat.zero_le _, Nat.le_refl _, by cases restF s 0 <;> simp⟩
theorem dec_le (s : ByteArray) (i : Nat) (h : i < s.size) : i + (Utf8.decode s i).2 ≤ s.size := by
  rw [Lib.decode_at]
  unfold Lib.decodeN
  repeat' split
  all_goals simp
  all_goals omega
theorem readTo_next {s : ByteArray} {i : Nat} {pre : List Nat} (h : ReadTo s i pre) (hi : i < s.size) (hok : gsOk s (i : Int)) : ReadTo s (i + (Utf8.decode s i).2) (pre ++ [(Utf8.decode s i).1]) := by
  have hp := dec_pos s i
  refine ⟨dec_le s i hi, by have := h.2.1; simp; omega, ?_⟩
  rw [h.2.2, restF_ok s i hi hok]
  cases restF s (i + (Utf8.decode s i).2) <;> simp
theorem readTo_bad {s : ByteArray} {i : Nat} {pre : List Nat} (h : ReadTo s i pre) (hi : i < s.size) (hok : ¬ gsOk s (i : Int)) : signsL s = [] ∧ textOk s = false := by
  unfold signsL textOk
  rw [h.2.2, restF_bad s i hi hok]
  exact ⟨rfl, rfl⟩
theorem readTo_end {s : ByteArray} {i : Nat} {pre : List Nat} (h : ReadTo s i pre) (hi : ¬ i < s.size) : signsL s = pre ∧ textOk s = true := by
  unfold signsL textOk
  rw [h.2.2, restF_end s i (by omega)]
  simp
theorem signsL_len (s : ByteArray) : (signsL s).length ≤ s.size := by
  have : ∀ f i l, restG s f i = some l → l.length ≤ f := by
    intro f
    induction f with
    | zero => intro i l h; simp [restG] at h; subst h; simp
    | succ f ih =>
      intro i l h
      rw [restG] at h
      split at h
      · split at h
        · cases hr : restG s f (i + (Utf8.decode s i).2) with
          | none => rw [hr] at h; simp at h
          | some l' =>
            rw [hr] at h
            simp at h
            subst h
            have := ih _ _ hr
            simp; omega
        · cases h
      · simp at h; subst h; simp
  unfold signsL
  cases h : restF s 0 with
  | none => simp
  | some l => have := this _ _ _ h; simpa using this
end Go.Proofs.YtcjamnfboifjeaaDoor

/-
  Numbers of 64 bits.
-/
namespace Go.Proofs.YtcjamnfboifjeaaDoor
open Go.RowKit

/-- A number as a value of 64 bits. -/
def i64of (n : Nat) : Int := wrap64 (n : Int)
theorem wrap64_eq (n : Int) : wrap64 n = (n + 9223372036854775808) % 18446744073709551616 - 9223372036854775808 := by unfold wrap64; rfl
theorem i64of_zero : i64of 0 = 0 := by unfold i64of; rw [wrap64_eq]; rfl
theorem i64of_small (n : Nat) (h : n < 9223372036854775808) : i64of n = (n : Int) := by unfold i64of; rw [wrap64_eq]; omega
theorem i64of_succ (n : Nat) : wrap64 (i64of n + 1) = i64of (n + 1) := by unfold i64of; rw [wrap64_eq, wrap64_eq, wrap64_eq]; omega
end Go.Proofs.YtcjamnfboifjeaaDoor

/-
  A right value, plainly.
-/
namespace Go.Proofs.YtcjamnfboifjeaaDoor
open Go.RowKit
set_option linter.unusedVariables false

/-- A number of 64 bits. -/
def inR (n : Int) : Prop := -9223372036854775808 ≤ n ∧ n ≤ 9223372036854775807
instance (n : Int) : Decidable (inR n) := by unfold inR; infer_instance
/-- A number ten times, so often, as long as it is one of 64 bits. -/
def tens : Int → Nat → Option Int
  | n, 0 => some n
  | n, k + 1 => if inR (n * 10) then tens (n * 10) k else none
theorem tens_zero : ∀ k, tens 0 k = some 0
  | 0 => rfl
  | k + 1 => by unfold tens; rw [Int.zero_mul, if_pos (by unfold inR; omega)]; exact tens_zero k
/-- A right decimal number. -/
def decOk (n e : Int) : Prop := -20 ≤ e ∧ e ≤ 20 ∧ e ≠ 0 ∧ -999999999999999999 ≤ n ∧ n ≤ 999999999999999999 ∧ Int.tmod n 10 ≠ 0 ∧ (0 < e → tens n e.toNat = none)
instance (n e : Int) : Decidable (decOk n e) := by unfold decOk; infer_instance
/-- Two keys are one, by what the reference compares. -/
def keyEq (a b : V) : Prop := a.k = b.k ∧ a.n = b.n ∧ a.s = b.s
instance (a b : V) : Decidable (keyEq a b) := by unfold keyEq; infer_instance
def isKeyB (v : V) : Bool := decide (v.k = 5 ∨ v.k = 3)
/-- Keys at even places, no two of them one. -/
def pairsTo (R : V → V → Prop) (l : List V) (m : Nat) : Prop := ∀ i (h : i < l.length), i < m → i % 2 = 0 → isKeyB l[i] = true ∧ ∀ k (hk : k < i), k % 2 = 0 → ¬ R (l[k]'(by omega)) l[i]
def pairsOk (l : List V) : Prop := pairsTo keyEq l l.length ∧ l.length % 2 = 0 ∧ l.length ≤ 300
/-- What a value is but for its kids. -/
def nodeOk (v : V) : Prop :=
  if v.k = 0 ∨ v.k = 1 ∨ v.k = 2 ∨ v.k = 7 ∨ v.k = 8 then v.n = 0 ∧ v.e = 0 ∧ v.s.size = 0
  else if v.k = 3 then v.e = 0 ∧ v.s.size = 0
  else if v.k = 4 then decOk v.n v.e ∧ v.s.size = 0
  else if v.k = 5 then v.n = 0 ∧ v.e = 0 ∧ textOk v.s = true ∧ v.s.size ≤ 2000
  else if v.k = 6 then v.n = 0 ∧ v.e = 0 ∧ v.s.size ≤ 2000
  else if v.k = 9 then 0 ≤ v.n ∧ v.n ≤ 1000000 ∧ v.e = 0 ∧ v.s.size = 0
  else False
/-- Its kids, one by one apart. -/
def kidsOk (v : V) : Prop := if v.k = 7 then True else if v.k = 9 then v.kids.length = 1 else if v.k = 8 then pairsOk v.kids else v.kids.length = 0
def ownOk (v : V) : Prop := nodeOk v ∧ kidsOk v
noncomputable instance (p : Prop) : Decidable p := Classical.propDecidable p
mutual
/-- A value is right, at most so many kids deep. -/
def V.right : Int → V → Prop
  | d, .mk k n e s ks => 0 ≤ d ∧ ownOk (.mk k n e s ks) ∧ Vs.right (d - 1) ks
def Vs.right : Int → List V → Prop
  | _, [] => True
  | d, v :: r => V.right d v ∧ Vs.right d r
end
theorem V.right_eq (d : Int) (v : V) : V.right d v ↔ 0 ≤ d ∧ ownOk v ∧ Vs.right (d - 1) v.kids := by cases v; simp [V.right, V.kids]
theorem Vs.right_iff (d : Int) : ∀ l : List V, Vs.right d l ↔ ∀ i (h : i < l.length), V.right d l[i]
  | [] => by simp [Vs.right]
  | v :: r => by
    simp only [Vs.right]
    rw [Vs.right_iff d r]
    constructor
    · rintro ⟨h1, h2⟩ i hi
      cases i with
      | zero => exact h1
      | succ i => exact h2 i (by simpa using hi)
    · intro h
      exact ⟨h 0 (by simp), fun i hi => h (i + 1) (by simpa using hi)⟩
theorem Vs.right_take (d : Int) (l : List V) (h : Vs.right d (l.take l.length)) : Vs.right d l := by rwa [List.take_length] at h
theorem Vs.right_step (d : Int) (l : List V) (j : Nat) (hj : j < l.length) (h : Vs.right d (l.take j)) (hv : V.right d l[j]) : Vs.right d (l.take (j + 1)) := by
  rw [Vs.right_iff] at h ⊢
  intro i hi
  rw [List.length_take] at hi
  by_cases e : i = j
  · subst e; simpa using hv
  · have := h i (by rw [List.length_take]; omega)
    simpa using this
/-- ValueOk. -/
def okV (v : V) : Prop := V.right 12 v ∧ v.nodes ≤ 300

theorem wrap_ten {n : Int} (hn : inR n) : (Int.tdiv (wrap64 (n * 10)) 10 = n) ↔ inR (n * 10) := by
  unfold inR at *
  have hw := wrap64_eq (n * 10)
  constructor
  · intro h
    have h2 := Int.tmod_add_mul_tdiv (wrap64 (n * 10)) 10
    have h3 : -10 < Int.tmod (wrap64 (n * 10)) 10 ∧ Int.tmod (wrap64 (n * 10)) 10 < 10 := by
      constructor
      · have := Int.lt_tmod_of_pos (wrap64 (n * 10)) (show (0 : Int) < 10 by omega); omega
      · exact Int.tmod_lt_of_pos _ (by omega)
    rw [h] at h2
    omega
  · intro h
    rw [show wrap64 (n * 10) = n * 10 by omega, Int.mul_tdiv_cancel _ (by omega)]
end Go.Proofs.YtcjamnfboifjeaaDoor

/-
  Right numbers, and the greatest whole number that isn't above one, plainly.
-/
namespace Go.Proofs.YtcjamnfboifjeaaDoor
open Go.RowKit
set_option linter.unusedVariables false
set_option linter.unusedSimpArgs false

/-- A right number. -/
def numOk (v : V) : Prop := (v.k = 3 ∨ v.k = 4) ∧ okV v
theorem okV_leaf {v : V} (h : numOk v) : v.kids.length = 0 ∧ v.s.size = 0 ∧ (v.k = 3 → v.e = 0) ∧ (v.k = 4 → decOk v.n v.e) := by
  obtain ⟨hk, h1, _⟩ := h
  obtain ⟨_, ⟨h2, h3⟩, _⟩ := (V.right_eq _ _).1 h1
  unfold nodeOk at h2
  unfold kidsOk at h3
  rcases hk with hk | hk <;> simp [hk] at h2 h3
  · exact ⟨by rw [h3]; rfl, by rw [h2.2]; rfl, fun _ => h2.1, fun h => by omega⟩
  · exact ⟨by rw [h3]; rfl, by rw [h2.2]; rfl, fun h => by omega, fun _ => h2.1⟩
theorem ten_div (x : Int) (j : Nat) : x / 10 ^ j / 10 = x / 10 ^ (j + 1) := by
  rw [Int.ediv_ediv_of_nonneg (Int.le_of_lt (Int.pow_pos (by omega))), Int.pow_succ]
theorem floor_ten (x : Int) : (Int.tmod x 10 < 0 → Int.tdiv x 10 - 1 = x / 10) ∧ (¬ Int.tmod x 10 < 0 → Int.tdiv x 10 = x / 10) := by
  have h1 := Int.tmod_add_mul_tdiv x 10
  have h3 : -10 < Int.tmod x 10 ∧ Int.tmod x 10 < 10 := by
    constructor
    · have := Int.lt_tmod_of_pos x (show (0 : Int) < 10 by omega); omega
    · exact Int.tmod_lt_of_pos _ (by omega)
  omega
theorem tdiv_sign (x : Int) : Int.tdiv x 10 = if 0 ≤ x then x / 10 else -((-x) / 10) := by
  split
  · rename_i h; exact Int.tdiv_eq_ediv_of_nonneg h
  · rename_i h
    have e : x = -(-x) := by omega
    conv => lhs; rw [e]
    rw [Int.neg_tdiv, Int.tdiv_eq_ediv_of_nonneg (by omega)]
/-- What is left behind j steps of cutting off a digit. -/
def cutD (n : Int) (j : Nat) : Int := if 0 ≤ n then n / 10 ^ j else -((-n) / 10 ^ j)
theorem cutD_step (n : Int) (j : Nat) : Int.tdiv (cutD n j) 10 = cutD n (j + 1) := by
  rw [tdiv_sign]
  unfold cutD
  have hp : (0 : Int) ≤ 10 ^ j := Int.le_of_lt (Int.pow_pos (by omega))
  by_cases h : 0 ≤ n
  · have h1 : 0 ≤ n / 10 ^ j := Int.ediv_nonneg h hp
    simp only [if_pos h, if_pos h1, ten_div]
  · have h1 : 0 ≤ (-n) / 10 ^ j := Int.ediv_nonneg (by omega) hp
    simp only [if_neg h]
    by_cases h2 : 0 ≤ -(-n / 10 ^ j)
    · have h3 : -n / 10 ^ j = 0 := by omega
      rw [if_pos h2, ← ten_div, h3]; rfl
    · rw [if_neg h2, Int.neg_neg, ten_div]
theorem floor_neg {a D : Int} (hD : 0 < D) (h : a % D ≠ 0) : (-a) / D = -(a / D) - 1 := by
  have h1 := Int.emod_add_mul_ediv a D
  have h2 := Int.emod_nonneg a (by omega : D ≠ 0)
  have h3 := Int.emod_lt_of_pos a hD
  refine ((Int.ediv_emod_unique (r := D - a % D) hD).2 ⟨?_, by omega, by omega⟩).1
  rw [Int.mul_sub, Int.mul_neg]
  omega
theorem dec_floor {n : Int} {k : Nat} (hk : 1 ≤ k) (hm : Int.tmod n 10 ≠ 0) : (if n < 0 then cutD n k - 1 else cutD n k) = n / 10 ^ k := by
  have hp : (0 : Int) < 10 ^ k := Int.pow_pos (by omega)
  unfold cutD
  by_cases h : n < 0
  · rw [if_pos h, if_neg (by omega)]
    have hd : (-n) % 10 ^ k ≠ 0 := fun hz => by
      have h1 : (10 : Int) ∣ 10 ^ k := ⟨10 ^ (k - 1), by
        obtain ⟨m, rfl⟩ : ∃ m, k = m + 1 := ⟨k - 1, by omega⟩
        rw [Int.pow_succ, Int.mul_comm, Nat.add_sub_cancel]⟩
      have h2 := Int.emod_emod_of_dvd (-n) h1
      rw [hz] at h2
      have h3 := Int.tmod_add_mul_tdiv n 10
      apply hm
      have h4 : -10 < Int.tmod n 10 ∧ Int.tmod n 10 < 10 := by
        constructor
        · have := Int.lt_tmod_of_pos n (show (0 : Int) < 10 by omega); omega
        · exact Int.tmod_lt_of_pos _ (by omega)
      omega
    have h5 := floor_neg hp hd
    rw [Int.neg_neg] at h5
    exact h5.symm
  · rw [if_neg h, if_pos (by omega)]
/-- Whole. -/
noncomputable def wholeB (v : V) : Bool := decide (numOk v ∧ ¬ 0 < v.e)
noncomputable def wholeN (v : V) : Int := if numOk v ∧ ¬ 0 < v.e then v.n / 10 ^ (-v.e).toNat else 0
theorem whole_no {v : V} (h : ¬ (numOk v ∧ ¬ 0 < v.e)) : wholeB v = false ∧ wholeN v = 0 := ⟨decide_eq_false h, if_neg h⟩
theorem whole_yes {v : V} (h : numOk v ∧ ¬ 0 < v.e) : wholeB v = true ∧ wholeN v = v.n / 10 ^ (-v.e).toNat := ⟨decide_eq_true h, if_pos h⟩
end Go.Proofs.YtcjamnfboifjeaaDoor

/-
  DecText and ReadDec, plainly: a number's digits.
-/
namespace Go.Proofs.YtcjamnfboifjeaaDoor
open Go.RowKit
set_option linter.unusedVariables false

/-- The digits of a number, none for 0. -/
def dd (q : Nat) : List UInt8 := if q = 0 then [] else Lib.decDigits q
theorem dd_step (q : Nat) (h : q ≠ 0) : dd (q / 10) ++ [UInt8.ofNat (48 + q % 10)] = dd q := by
  unfold dd
  rw [if_neg h]
  by_cases h1 : q < 10
  · rw [if_pos (by omega), Lib.decDigits, dif_pos h1, show q % 10 = q by omega]; rfl
  · rw [if_neg (by omega)]
    conv => rhs; rw [Lib.decDigits, dif_neg h1]
theorem dd_pos (q : Nat) (h : q ≠ 0) : dd q = Lib.decDigits q := by unfold dd; rw [if_neg h]
theorem itoa_pos (n : Nat) : Lib.itoa (n : Int) = Lib.decDigits n := by
  unfold Lib.itoa
  rw [if_neg (by omega), Int.toNat_natCast]
theorem itoa_neg (n : Nat) (h : 0 < n) : Lib.itoa (-(n : Int)) = 45 :: Lib.decDigits n := by
  unfold Lib.itoa
  rw [if_pos (by omega), Int.natAbs_neg, Int.natAbs_natCast]
theorem dig_one : ∀ d : Fin 10, (⟨#[48, 49, 50, 51, 52, 53, 54, 55, 56, 57]⟩ : ByteArray).extract d.val (d.val + 1) = str [UInt8.ofNat (48 + d.val)] := by decide +kernel
theorem dig_at (d : Nat) (h : d < 10) : (⟨#[48, 49, 50, 51, 52, 53, 54, 55, 56, 57]⟩ : ByteArray).extract d (d + 1) = str [UInt8.ofNat (48 + d)] := dig_one ⟨d, h⟩
theorem nDigits_le (u k : Nat) (h : u < 10 ^ k) (hk : 1 ≤ k) : Lib.nDigits u ≤ k := by
  by_cases h0 : u = 0
  · subst h0; rw [Lib.nDigits_small (by omega)]; exact hk
  · refine Nat.le_of_not_lt fun hh => ?_
    have : 10 ^ (Lib.nDigits u - 1) ≤ u := by
      clear h hk hh
      induction u using Nat.strongRecOn with
      | ind u ih =>
        by_cases h1 : u < 10
        · rw [Lib.nDigits_small h1]; simp; omega
        · rw [Lib.nDigits_big h1]
          have := ih (u / 10) (by omega) (by omega)
          have hp := Lib.nDigits_pos (u / 10)
          obtain ⟨m, hm⟩ : ∃ m, Lib.nDigits (u / 10) = m + 1 := ⟨Lib.nDigits (u / 10) - 1, by omega⟩
          rw [hm] at this ⊢
          simp only [Nat.add_sub_cancel] at *
          rw [Nat.pow_succ]
          omega
    have h2 : 10 ^ k ≤ 10 ^ (Lib.nDigits u - 1) := Nat.pow_le_pow_right (by omega) (by omega)
    omega
theorem dec_len (u : Nat) (h : u < 10000000000000000000) : (Lib.decDigits u).length ≤ 19 := by
  rw [Lib.decDigits_length]
  exact nDigits_le u 19 (by omega) (by omega)
theorem dec_ne (u : Nat) : Lib.decDigits u ≠ [] := by
  intro h
  have := Lib.decDigits_length u
  have h2 := Lib.nDigits_pos u
  rw [h] at this
  simp at this
  omega
theorem dec_digit (u : Nat) : ∀ b ∈ Lib.decDigits u, 48 ≤ b.toNat ∧ b.toNat ≤ 57 := by
  induction u using Nat.strongRecOn with
  | ind u ih =>
    intro b hb
    rw [Lib.decDigits] at hb
    split at hb
    · simp only [List.mem_singleton] at hb
      subst hb
      rw [UInt8.toNat_ofNat']
      omega
    · rcases List.mem_append.1 hb with hb | hb
      · exact ih (u / 10) (by omega) b hb
      · simp only [List.mem_singleton] at hb
        subst hb
        rw [UInt8.toNat_ofNat']
        omega
/-- The number of some digits. -/
def dval (l : List UInt8) : Nat := l.foldl (fun n b => 10 * n + (b.toNat - 48)) 0
theorem dval_snoc (l : List UInt8) (b : UInt8) : dval (l ++ [b]) = 10 * dval l + (b.toNat - 48) := by simp [dval]
theorem dval_dec (u : Nat) : dval (Lib.decDigits u) = u := by
  induction u using Nat.strongRecOn with
  | ind u ih =>
    rw [Lib.decDigits]
    split
    · simp [dval]; omega
    · rw [dval_snoc, ih (u / 10) (by omega), UInt8.toNat_ofNat']
      omega
theorem parse_dec (l : List UInt8) : ∀ acc, (∀ b ∈ l, 48 ≤ b.toNat ∧ b.toNat ≤ 57) → l.foldl (fun n b => 10 * n + (b.toNat - 48)) acc < 18446744073709551616 → Lib.parseUint10 acc l = .ok (l.foldl (fun n b => 10 * n + (b.toNat - 48)) acc) := by
  induction l with
  | nil => intro acc _ _; rfl
  | cons b l ih =>
    intro acc hd hlt
    have hb := hd b (by simp)
    have hmono : ∀ (r : List UInt8) (a : Nat), a ≤ r.foldl (fun n b => 10 * n + (b.toNat - 48)) a := by
      intro r
      induction r with
      | nil => intro a; exact Nat.le_refl _
      | cons x r ih2 => intro a; rw [List.foldl_cons]; exact Nat.le_trans (by omega) (ih2 _)
    have hm := hmono l (10 * acc + (b.toNat - 48))
    rw [List.foldl_cons] at hlt
    rw [Lib.parseUint10, if_pos hb, if_neg (by omega), if_neg (by omega), List.foldl_cons, Nat.mul_comm acc 10]
    exact ih _ (fun x hx => hd x (by simp [hx])) hlt
theorem parseMag_dec (u : Nat) (h : u < 18446744073709551616) : Lib.parseMag (Lib.decDigits u) = .ok u := by
  unfold Lib.parseMag
  rw [if_neg (dec_ne u)]
  have hv := dval_dec u
  unfold dval at hv
  rw [parse_dec _ 0 (dec_digit u) (by rw [hv]; exact h), hv]
theorem atoi_itoa (v : Int) (h : -9223372036854775808 ≤ v ∧ v ≤ 9223372036854775807) : Lib.atoiAll (Lib.itoa v) = .ok v := by
  by_cases h0 : v < 0
  · obtain ⟨u, rfl⟩ : ∃ u : Nat, v = -(u : Int) := ⟨v.natAbs, by omega⟩
    rw [itoa_neg u (by omega)]
    unfold Lib.atoiAll
    have e : (45 : UInt8).toNat = 45 := rfl
    simp only [e, or_true, if_true]
    rw [parseMag_dec u (by omega)]
    simp
    omega
  · obtain ⟨u, rfl⟩ := Int.eq_ofNat_of_zero_le (show 0 ≤ v by omega)
    rw [itoa_pos]
    have hne := dec_ne u
    have hd := dec_digit u
    have hp := parseMag_dec u (by omega)
    revert hne hd hp
    generalize Lib.decDigits u = l
    intro hne hd hp
    cases l with
    | nil => exact absurd rfl hne
    | cons c r =>
      have hc := hd c (by simp)
      unfold Lib.atoiAll
      simp only [show ¬ (c.toNat = 43 ∨ c.toNat = 45) by omega, if_false]
      rw [hp]
      simp only [show ¬ c.toNat = 45 by omega, if_false, not_false_eq_true, true_and, false_and]
      rw [if_neg (by omega)]
end Go.Proofs.YtcjamnfboifjeaaDoor

/-
  The order of two numbers, plainly: their digits without noughts at the end.
-/
namespace Go.Proofs.YtcjamnfboifjeaaDoor
open Go.RowKit
set_option linter.unusedVariables false
set_option linter.unusedSimpArgs false

/-- Digits without the noughts at their end. -/
def cutZ (l : List UInt8) : List UInt8 := Lib.trimRightB l 48
theorem dropW_all : ∀ l : List UInt8, l.dropWhile (· == 48) = [] → ∀ b ∈ l, b = 48
  | [], _, b, hb => by cases hb
  | a :: l, h, b, hb => by
    by_cases ha : a = 48
    · subst ha
      rw [List.dropWhile_cons_of_pos (by rfl)] at h
      rcases List.mem_cons.1 hb with rfl | hb
      · rfl
      · exact dropW_all l h b hb
    · rw [List.dropWhile_cons_of_neg (by simpa using ha)] at h
      cases h
theorem dropW_split : ∀ l : List UInt8, l = List.replicate (l.length - (l.dropWhile (· == 48)).length) 48 ++ l.dropWhile (· == 48)
  | [] => rfl
  | a :: l => by
    by_cases ha : a = 48
    · subst ha
      rw [List.dropWhile_cons_of_pos (by rfl)]
      have h := dropW_split l
      have hl : (l.dropWhile (· == 48)).length ≤ l.length := (List.dropWhile_sublist _).length_le
      rw [List.length_cons, show l.length + 1 - (l.dropWhile (· == 48)).length = l.length - (l.dropWhile (· == 48)).length + 1 by omega, List.replicate_succ, List.cons_append, ← h]
    · rw [List.dropWhile_cons_of_neg (by simpa using ha)]
      simp
theorem dropW_head {l r : List UInt8} {a : UInt8} (h : l.dropWhile (· == 48) = a :: r) : a ≠ 48 := by
  induction l with
  | nil => cases h
  | cons b l ih =>
    by_cases hb : b = 48
    · subst hb
      rw [List.dropWhile_cons_of_pos (by rfl)] at h
      exact ih h
    · rw [List.dropWhile_cons_of_neg (by simpa using hb)] at h
      injection h with h1 h2
      subst h1
      exact hb
theorem cutZ_len (l : List UInt8) : (cutZ l).length ≤ l.length := by
  have : (l.reverse.dropWhile (· == 48)).length ≤ l.reverse.length := (List.dropWhile_sublist _).length_le
  unfold cutZ Lib.trimRightB
  rw [List.length_reverse]
  rw [List.length_reverse] at this
  exact this
theorem cutZ_split (l : List UInt8) : l = cutZ l ++ List.replicate (l.length - (cutZ l).length) 48 := by
  have h := congrArg List.reverse (dropW_split l.reverse)
  rw [List.reverse_reverse, List.reverse_append, List.reverse_replicate, List.length_reverse] at h
  unfold cutZ Lib.trimRightB
  rw [List.length_reverse]
  exact h
/-- The last of them is none. -/
theorem cutZ_last {l r : List UInt8} {a : UInt8} (h : cutZ l = r ++ [a]) : a ≠ 48 := by
  have h2 := congrArg List.reverse h
  unfold cutZ Lib.trimRightB at h2
  rw [List.reverse_reverse, List.reverse_append, List.reverse_singleton, List.singleton_append] at h2
  exact dropW_head h2
theorem cutZ_nil {l : List UInt8} (h : cutZ l = []) : ∀ b ∈ l, b = 48 := by
  have h2 := congrArg List.reverse h
  unfold cutZ Lib.trimRightB at h2
  rw [List.reverse_reverse] at h2
  intro b hb
  exact dropW_all l.reverse h2 b (by simpa using hb)
theorem dval_zeros : ∀ l : List UInt8, (∀ b ∈ l, b = 48) → dval l = 0 := by
  have h : ∀ l : List UInt8, (∀ b ∈ l, b = 48) → l.foldl (fun n b => 10 * n + (b.toNat - 48)) 0 = 0 := by
    intro l
    induction l with
    | nil => intro _; rfl
    | cons a l ih =>
      intro h
      have ha := h a (by simp)
      subst ha
      rw [List.foldl_cons]
      exact ih (fun b hb => h b (by simp [hb]))
  exact h
theorem cutZ_dec {u : Nat} (h : u ≠ 0) : cutZ (Lib.decDigits u) ≠ [] := by
  intro h2
  have := dval_zeros _ (cutZ_nil h2)
  rw [dval_dec] at this
  exact h this

theorem bl_tri : ∀ l m : List UInt8, (Op.bytesLess l m = true ∧ Op.bytesLess m l = false ∧ l ≠ m) ∨ (Op.bytesLess l m = false ∧ Op.bytesLess m l = false ∧ l = m) ∨ (Op.bytesLess l m = false ∧ Op.bytesLess m l = true ∧ l ≠ m)
  | [], [] => .inr (.inl ⟨rfl, rfl, rfl⟩)
  | [], b :: m => .inl ⟨rfl, rfl, by simp⟩
  | a :: l, [] => .inr (.inr ⟨rfl, rfl, by simp⟩)
  | a :: l, b :: m => by
    have ih := bl_tri l m
    by_cases h1 : a < b
    · have h2 : ¬ b < a := by intro h; have := UInt8.lt_iff_toNat_lt.1 h1; have := UInt8.lt_iff_toNat_lt.1 h; omega
      have h3 : a ≠ b := by rintro rfl; exact h2 h1
      exact .inl ⟨by simp [Op.bytesLess, h1], by simp [Op.bytesLess, h2, Ne.symm h3], by simp [h3]⟩
    · by_cases h2 : b < a
      · have h3 : a ≠ b := by rintro rfl; exact h1 h2
        exact .inr (.inr ⟨by simp [Op.bytesLess, h1, h3], by simp [Op.bytesLess, h2], by simp [h3]⟩)
      · have h3 : a = b := by
          apply UInt8.toNat_inj.1
          have e1 : ¬ a.toNat < b.toNat := fun h => h1 (UInt8.lt_iff_toNat_lt.2 h)
          have e2 : ¬ b.toNat < a.toNat := fun h => h2 (UInt8.lt_iff_toNat_lt.2 h)
          omega
        subst h3
        simpa [Op.bytesLess] using ih
theorem lessT_swap (a b : ByteArray) : lessT b a = - lessT a b := by
  unfold lessT
  rcases bl_tri a.toList b.toList with ⟨h1, h2, h3⟩ | ⟨h1, h2, h3⟩ | ⟨h1, h2, h3⟩
  · have h4 : (b.toList == a.toList) = false := by simpa using Ne.symm h3
    simp [h1, h2, h4]
  · have h4 : (b.toList == a.toList) = true := by simpa using h3.symm
    have h5 : (a.toList == b.toList) = true := by simpa using h3
    rw [h1, h2, h4, h5]
    rfl
  · have h4 : (a.toList == b.toList) = false := by simpa using h3
    simp [h1, h2, h4]
theorem lessI_swap (a b : Int) : lessI b a = - lessI a b := by
  unfold lessI
  repeat' split
  all_goals omega
theorem lessI_range (a b : Int) : -1 ≤ lessI a b ∧ lessI a b ≤ 1 := by
  unfold lessI
  repeat' split
  all_goals omega
theorem lessT_range (a b : ByteArray) : -1 ≤ lessT a b ∧ lessT a b ≤ 1 := by
  unfold lessT
  repeat' split
  all_goals omega

/-- The digits of a number. -/
def V.digs (v : V) : List UInt8 := Lib.decDigits v.n.natAbs
/-- How many digits a number has ahead of its point. -/
def V.mag (v : V) : Int := (v.digs.length : Int) + v.e
/-- The order of the sizes of two numbers that are not 0. -/
def sizeR (a b : V) : Int := if lessI a.mag b.mag = 0 then lessT (str (cutZ a.digs)) (str (cutZ b.digs)) else lessI a.mag b.mag
theorem sizeR_swap (a b : V) : sizeR b a = - sizeR a b := by
  unfold sizeR
  rw [lessI_swap a.mag b.mag, lessT_swap (str (cutZ a.digs)) (str (cutZ b.digs))]
  by_cases h : lessI a.mag b.mag = 0
  · rw [if_pos (by omega), if_pos h]
  · rw [if_neg (by omega), if_neg h]
theorem sizeR_range (a b : V) : -1 ≤ sizeR a b ∧ sizeR a b ≤ 1 := by
  have := lessI_range a.mag b.mag
  have := lessT_range (str (cutZ a.digs)) (str (cutZ b.digs))
  unfold sizeR
  split <;> omega
/-- A number's sign. -/
def sgR (v : V) : Int := lessI v.n 0
theorem sgR_cases (v : V) : (sgR v = -1 ∧ v.n < 0) ∨ (sgR v = 0 ∧ v.n = 0) ∨ (sgR v = 1 ∧ 0 < v.n) := by
  unfold sgR lessI
  repeat' split
  all_goals omega
/-- CompareNum. -/
noncomputable def cnR (a b : V) : Int := if numOk a ∧ numOk b then (if sgR a ≠ sgR b ∨ sgR a = 0 then lessI (sgR a) (sgR b) else sgR a * sizeR a b) else 2
theorem cnR_no {a b : V} (h : ¬ (numOk a ∧ numOk b)) : cnR a b = 2 := if_neg h
theorem cnR_sign {a b : V} (h : numOk a ∧ numOk b) (h2 : sgR a ≠ sgR b ∨ sgR a = 0) : cnR a b = lessI (sgR a) (sgR b) := by unfold cnR; rw [if_pos h, if_pos h2]
theorem cnR_pos {a b : V} (h : numOk a ∧ numOk b) (h1 : sgR a = 1) (h2 : sgR b = 1) : cnR a b = sizeR a b := by
  unfold cnR; rw [if_pos h, if_neg (by omega), h1]; omega
theorem cnR_neg {a b : V} (h : numOk a ∧ numOk b) (h1 : sgR a = -1) (h2 : sgR b = -1) : cnR a b = sizeR b a := by
  unfold cnR; rw [if_pos h, if_neg (by omega), h1, sizeR_swap a b]; omega
/-- The reference's digits, and its power. -/
def V.cutE (v : V) : Int := v.e + ((v.digs.length - (cutZ v.digs).length : Nat) : Int)
theorem V.cut_mag (v : V) : ((cutZ v.digs).length : Int) + v.cutE = v.mag := by
  have := cutZ_len v.digs
  unfold V.cutE V.mag
  omega
theorem numOk_n {v : V} (h : numOk v) : -20 ≤ v.e ∧ v.e ≤ 20 := by
  obtain ⟨h1, h2, h3, h4⟩ := okV_leaf h
  rcases h.1 with hk | hk
  · have := h3 hk; omega
  · have := h4 hk
    unfold decOk at this
    omega
end Go.Proofs.YtcjamnfboifjeaaDoor

/-
  The program's Same.
-/
namespace Go.Proofs.YtcjamnfboifjeaaDoor
open Go.RowKit
set_option linter.unusedVariables false
set_option maxRecDepth 100000
set_option linter.unusedSimpArgs false

def ImplSameSaid (a : V) : Prop := ∀ (b : V) (A B : Option Addr) (ca cb : Nat) (w : World), a.nodes ≤ 1048577 → b.nodes ≤ 1048577 → Vs.at_ w 0 w.heap.size a.kids A → Vs.at_ w 0 w.heap.size b.kids B →
    Calls Tryd.prog 19 #[a.agg A ca, b.agg B cb] w fun e w' => e = .returned (.bool (V.same a b)) ∧ Below w.heap.size w w'

theorem sameEnters : ∀ (args : Array Value) (w : World), (callFunc 19 args).run Tryd.prog w = .ok (.enter 19 args) w :=
  enters_of Tryd.func19 (by kernel_rfl) rfl

/-- Are two rows the same? -/
def Vs.same (l m : List V) : Bool := decide (l.length = m.length ∧ Vs.cmp l m = 0)

theorem V.ord_iff (a b : V) : V.ord a b = 0 ↔ a.k = b.k ∧ a.n = b.n ∧ a.e = b.e ∧ a.s = b.s ∧ a.kids.length = b.kids.length := by
  constructor
  · intro h
    have h1 := orN_all _ 5 h
    refine ⟨lessI_zero (h1 0 (by omega)), lessI_zero (h1 1 (by omega)), lessI_zero (h1 2 (by omega)), lessT_zero (h1 3 (by omega)), ?_⟩
    have := lessI_zero (h1 4 (by omega))
    omega
  · rintro ⟨h1, h2, h3, h4, h5⟩
    refine orN_zero _ 5 fun i hi => ?_
    rcases (show i = 0 ∨ i = 1 ∨ i = 2 ∨ i = 3 ∨ i = 4 by omega) with rfl | rfl | rfl | rfl | rfl
    · show lessI a.k b.k = 0; rw [h1]; exact lessI_eq _
    · show lessI a.n b.n = 0; rw [h2]; exact lessI_eq _
    · show lessI a.e b.e = 0; rw [h3]; exact lessI_eq _
    · show lessT a.s b.s = 0; rw [h4]; exact lessT_eq _
    · show lessI a.kids.length b.kids.length = 0; rw [h5]; exact lessI_eq _
theorem V.same_no {a b : V} (h : V.ord a b ≠ 0) : V.same a b = false := by
  unfold V.same
  rw [V.cmp_ord h]
  exact decide_eq_false h
theorem V.same_yes {a b : V} (h1 : a.k = b.k) (h2 : a.n = b.n) (h3 : a.e = b.e) (h4 : a.s = b.s) : V.same a b = Vs.same a.kids b.kids := by
  by_cases h : a.kids.length = b.kids.length
  · have h0 : V.ord a b = 0 := (V.ord_iff a b).2 ⟨h1, h2, h3, h4, h⟩
    unfold V.same Vs.same
    rw [V.cmp_zero h0]
    simp [h]
  · rw [V.same_no (fun h0 => h ((V.ord_iff a b).1 h0).2.2.2.2)]
    unfold Vs.same
    simp [h]
theorem text_eq {a b : ByteArray} (h : (a.toList == b.toList) = true) : a = b := by
  have h3 := eq_of_beq h
  rw [ByteArray.toList_eq, ByteArray.toList_eq] at h3
  cases a; cases b
  simp only [ByteArray.mk.injEq]
  exact Array.toList_inj.1 h3

set_option maxHeartbeats 4000000 in
theorem sameFunc (l m : List V) (hk : ∀ i (h : i < l.length), ImplSameSaid l[i]) (A B : Option Addr) (ca cb : Nat) (w : World) (hn : Vs.nodes l ≤ 1048576) (hm : Vs.nodes m ≤ 1048576) (hat : Vs.at_ w 0 w.heap.size l A) (hbt : Vs.at_ w 0 w.heap.size m B) :
    Calls Tryd.prog 62 #[.slice A l.length ca, .slice B m.length cb, .func (Fn.func 19) #[] #[]] w fun e w' => e = .returned (.bool (Vs.same l m)) ∧ Below w.heap.size w w' := by
  have hl : l.length ≤ 1048576 := by have := Vs.len_nodes l; omega
  have hl2 : m.length ≤ 1048576 := by have := Vs.len_nodes m; omega
  have HK := fun (i : Nat) (h : i < l.length) (h2 : i < m.length) (A' B' : Option Addr) (c c' : Nat) (w' : World) (h1 : Vs.at_ w' 0 w'.heap.size (l[i]).kids A') (h2' : Vs.at_ w' 0 w'.heap.size (m[i]).kids B') => hk i h m[i] A' B' c c' w' (by have := Vs.nodes_get i h; omega) (by have := Vs.nodes_get i h2; omega) h1 h2'
  have HC := Lib.hid HK
  clear HK hk
  have HA := Lib.hid hat
  have HB := Lib.hid hbt
  have HS := Lib.hid (Vs.cmp_first l m)
  have HN := Lib.hid (Vs.cmp_none l m)
  have hE := sameEnters
  clear hat hbt
  by_cases hlen : l.length = m.length
  · have HL := Lib.hid hlen
    rw [← hlen]
    clear hlen
    go_enter Tryd.func62, Tryd.ntmps62
    go_wp2_with fail
    go_loopw [17] (fun i wr => ∃ j : Nat, j ≤ l.length ∧ i = .int .i64 j ∧ (∀ k (h1 : k < l.length) (h2 : k < m.length), k < j → V.cmp l[k] m[k] = 0) ∧ Below w.heap.size w wr) (fun i _ => l.length - (intOf i).toNat)
    case atStart => exact ⟨0, Nat.zero_le _, rfl, fun k _ _ hk => by omega, Below.refl _ _⟩
    case round =>
      obtain ⟨j, hj, rfl, hz, hb⟩ := hrel
      have HH := Lib.hid hz
      clear hz
      by_cases hlt : j < l.length
      · have hlt2 : j < m.length := by have := HL.out; omega
        obtain ⟨g, off, A', cap', rfl, g1, g2, g3, ⟨c0, c1, c2, c3, c4⟩, g5⟩ := Vs.at_get j hlt (Vs.at_below HA.out hb (Nat.le_refl _))
        obtain ⟨g', off2, A2', cap2', rfl, g12, g22, g32, ⟨d0, d1, d2, d3, d4⟩, g52⟩ := Vs.at_get j hlt2 (Vs.at_below HB.out hb (Nat.le_refl _))
        have HJ := Lib.hid (HS.out j hlt hlt2 HH.out)
        have hbs := hb.size
        have hg2 : g' < wr.heap.size := by omega
        go_wp2_with fail
        refine (HC.out j hlt hlt2 A' A2' cap' cap2' _ (Vs.at_more (Nat.le_refl _) (by simp; omega) _ _ (Vs.at_alloc (Vs.at_alloc g5 hb.size _) (by simp; omega) _)) (Vs.at_more (Nat.le_refl _) (by simp; omega) _ _ (Vs.at_alloc (Vs.at_alloc g52 hb.size _) (by simp; omega) _))).mono ?_
        rintro e w1 ⟨rfl, hb1⟩
        have hbw : Below w.heap.size w w1 := ((hb.alloc hb.size _).alloc (by simp; omega) _).trans (hb1.mono (by simp; omega))
        clear c0 c1 c2 c3 c4 d0 d1 d2 d3 d4
        by_cases h0 : V.cmp l[j] m[j] = 0
        · have H0 := Lib.hid h0
          rw [show V.same l[j] m[j] = true from decide_eq_true h0]
          clear h0
          go_wp2_with fail
          go_roundw
          case rel => exact ⟨j + 1, by omega, by go_num, fun k h1 h2 hk => by
            by_cases hk2 : k = j
            · subst hk2; exact H0.out
            · exact HH.out k h1 h2 (by omega), hbw⟩
          case measure => simp [intOf]; omega
        · rw [show V.same l[j] m[j] = false from decide_eq_false h0]
          go_wp2_with fail
          go_ret
          exact ⟨ret_bool (by unfold Vs.same; rw [HJ.out h0]; exact (decide_eq_false fun h => h0 h.2).symm), hbw⟩
      · obtain rfl : j = l.length := by omega
        go_wp2_with fail
        go_ret
        exact ⟨ret_bool (by unfold Vs.same; exact (decide_eq_true ⟨HL.out, HN.out fun k h1 h2 => HH.out k h1 h2 h1⟩).symm), hb⟩
  · have HL := Lib.hid hlen
    go_enter Tryd.func62, Tryd.ntmps62
    go_wp2_with fail
    go_ret
    exact ⟨ret_bool (by unfold Vs.same; exact (decide_eq_false fun h => HL.out h.1).symm), Below.refl _ _⟩

set_option maxHeartbeats 4000000 in
theorem implSame_step (a : V) (hk : ∀ i (h : i < a.kids.length), ImplSameSaid a.kids[i]) : ImplSameSaid a := by
  intro b A B ca cb w hn hm hat hbt
  rw [V.nodes_eq] at hn hm
  have HC := Lib.hid (sameFunc a.kids b.kids hk)
  clear hk
  have HA := Lib.hid hat
  have HB := Lib.hid hbt
  clear hat hbt
  unfold V.agg
  have HN : ∀ h : V.ord a b ≠ 0, V.same a b = false := V.same_no
  have HO := Lib.hid (V.ord_iff a b)
  have HNN := Lib.hid HN
  clear HN
  by_cases h1 : (a.k == b.k) = true
  · by_cases h2 : (a.n == b.n) = true
    · by_cases h3 : (a.e == b.e) = true
      · by_cases h4 : (a.s.toList == b.s.toList) = true
        · have HY := Lib.hid (V.same_yes (eq_of_beq h1) (eq_of_beq h2) (eq_of_beq h3) (text_eq h4))
          go_enter Tryd.func19, Tryd.ntmps19
          go_wp2_with fail
          obtain ⟨w2, hw2, Ba, Bb, b1, z2⟩ := two_new w 28 28 #[.int .i64 a.k, .int .i64 a.n, .int .i64 a.e, .string a.s, .slice A a.kids.length ca] #[.int .i64 b.k, .int .i64 b.n, .int .i64 b.e, .string b.s, .slice B b.kids.length cb]
          rw [← hw2]
          clear hw2
          refine (HC.out A B ca cb w2 (by omega) (by omega) (Vs.at_more (Nat.le_refl _) b1.size _ _ (Vs.at_below HA.out b1 (Nat.le_refl _))) (Vs.at_more (Nat.le_refl _) b1.size _ _ (Vs.at_below HB.out b1 (Nat.le_refl _)))).mono ?_
          rintro e w4 ⟨rfl, hb4⟩
          have b6 := b1.trans (hb4.mono b1.size)
          go_wp2_with fail
          go_ret
          exact ⟨ret_bool (by rw [HY.out]), b6⟩
        · have HY := Lib.hid (HNN.out fun h => h4 (by rw [(HO.out.1 h).2.2.2.1]; exact beq_self_eq_true _))
          have h4' : (a.s.toList == b.s.toList) = false := by simpa using h4
          clear h4
          go_enter Tryd.func19, Tryd.ntmps19
          go_wp2_with fail
          go_ret
          exact ⟨ret_bool (by rw [HY.out]), ((Below.refl _ w).alloc (Nat.le_refl _) _).alloc (by simp) _⟩
      · have HY := Lib.hid (HNN.out fun h => h3 (by rw [(HO.out.1 h).2.2.1]; exact beq_self_eq_true _))
        have h3' : (a.e == b.e) = false := by simpa using h3
        clear h3
        go_enter Tryd.func19, Tryd.ntmps19
        go_wp2_with fail
        go_ret
        exact ⟨ret_bool (by rw [HY.out]), ((Below.refl _ w).alloc (Nat.le_refl _) _).alloc (by simp) _⟩
    · have HY := Lib.hid (HNN.out fun h => h2 (by rw [(HO.out.1 h).2.1]; exact beq_self_eq_true _))
      have h2' : (a.n == b.n) = false := by simpa using h2
      clear h2
      go_enter Tryd.func19, Tryd.ntmps19
      go_wp2_with fail
      go_ret
      exact ⟨ret_bool (by rw [HY.out]), ((Below.refl _ w).alloc (Nat.le_refl _) _).alloc (by simp) _⟩
  · have HY := Lib.hid (HNN.out fun h => h1 (by rw [(HO.out.1 h).1]; exact beq_self_eq_true _))
    have h1' : (a.k == b.k) = false := by simpa using h1
    clear h1
    go_enter Tryd.func19, Tryd.ntmps19
    go_wp2_with fail
    go_ret
    exact ⟨ret_bool (by rw [HY.out]), ((Below.refl _ w).alloc (Nat.le_refl _) _).alloc (by simp) _⟩
theorem implSame (a : V) : ImplSameSaid a := V.all implSame_step a
end Go.Proofs.YtcjamnfboifjeaaDoor

/-
  The order of two values is one order.
-/
namespace Go.Proofs.YtcjamnfboifjeaaDoor
open Go.RowKit
set_option linter.unusedVariables false
set_option linter.unusedSimpArgs false

/-- What three comparisons of three things obey. -/
def Tri (x y z : Int) : Prop := (x ≤ 0 → y ≤ 0 → z ≤ 0) ∧ (x ≤ 0 → y < 0 → z < 0) ∧ (x < 0 → y ≤ 0 → z < 0) ∧ (x = 0 → y = 0 → z = 0)
theorem tri_lex {x y z x' y' z' : Int} (h : Tri x y z) (h' : x = 0 → y = 0 → Tri x' y' z') : Tri (if x = 0 then x' else x) (if y = 0 then y' else y) (if z = 0 then z' else z) := by
  by_cases hx : x = 0
  · by_cases hy : y = 0
    · have hz := h.2.2.2 hx hy
      rw [if_pos hx, if_pos hy, if_pos hz]
      exact h' hx hy
    · rw [if_pos hx, if_neg hy]
      unfold Tri at *
      split <;> omega
  · rw [if_neg hx]
    unfold Tri at *
    split <;> split <;> omega
theorem tri_less (a b c : Int) : Tri (lessI a b) (lessI b c) (lessI a c) := by
  unfold Tri lessI
  repeat' split
  all_goals omega
theorem bl_cons (a b : UInt8) (l m : List UInt8) : Op.bytesLess (a :: l) (b :: m) = true ↔ a.toNat < b.toNat ∨ (a = b ∧ Op.bytesLess l m = true) := by
  by_cases h1 : a.toNat < b.toNat
  · have : a < b := UInt8.lt_iff_toNat_lt.2 h1
    simp [Op.bytesLess, this, h1]
  · have h2 : ¬ a < b := fun h => h1 (UInt8.lt_iff_toNat_lt.1 h)
    by_cases h3 : a = b
    · subst h3; simp [Op.bytesLess]
    · simp [Op.bytesLess, h1, h2, h3]
theorem bl_nil (l : List UInt8) : Op.bytesLess l [] = true ↔ False := by
  cases l <;> simp [Op.bytesLess]
theorem bl_trans : ∀ a b c : List UInt8, Op.bytesLess a b = true → Op.bytesLess b c = true → Op.bytesLess a c = true
  | a, b, [], _, h => absurd h (by simp [bl_nil])
  | a, [], c :: cs, h, _ => absurd h (by simp [bl_nil])
  | [], b :: bs, c :: cs, _, _ => rfl
  | a :: la, b :: lb, c :: lc, h, k => by
    rw [bl_cons] at *
    rcases h with h | ⟨rfl, h⟩
    · rcases k with k | ⟨rfl, k⟩
      · left; omega
      · exact .inl h
    · rcases k with k | ⟨rfl, k⟩
      · exact .inl k
      · exact .inr ⟨rfl, bl_trans la lb lc h k⟩
theorem tri_text (a b c : ByteArray) : Tri (lessT a b) (lessT b c) (lessT a c) := by
  have e : ∀ x y : ByteArray, (lessT x y = -1 ∧ Op.bytesLess x.toList y.toList = true) ∨ (lessT x y = 0 ∧ x.toList = y.toList) ∨ (lessT x y = 1 ∧ Op.bytesLess y.toList x.toList = true) := fun x y => by
    unfold lessT
    rcases bl_tri x.toList y.toList with ⟨h1, h2, h3⟩ | ⟨h1, h2, h3⟩ | ⟨h1, h2, h3⟩
    · left; rw [h1]; simp
    · right; left; rw [h1, h3]; simp
    · right; right; rw [h1, h2]; simp [h3]
  have t := bl_trans a.toList b.toList c.toList
  have hs := bytesLess_self a.toList
  rcases e a b with ⟨h1, h2⟩ | ⟨h1, h2⟩ | ⟨h1, h2⟩
  · rcases e b c with ⟨k1, k2⟩ | ⟨k1, k2⟩ | ⟨k1, k2⟩
    · have := t h2 k2
      rcases e a c with ⟨m1, m2⟩ | ⟨m1, m2⟩ | ⟨m1, m2⟩
      · unfold Tri; omega
      · rw [← m2] at this; rw [hs] at this; cases this
      · have := bl_trans _ _ _ this m2; rw [hs] at this; cases this
    · have : lessT a c = -1 := by unfold lessT; rw [← k2, h2]; rfl
      unfold Tri; omega
    · unfold Tri; omega
  · have : lessT a c = lessT b c := by unfold lessT; rw [h2]
    unfold Tri; omega
  · unfold Tri; omega
theorem orN_tri {f g h : Nat → Int} : ∀ n, (∀ i, i < n → Tri (f i) (g i) (h i)) → Tri (orN f n) (orN g n) (orN h n)
  | 0, _ => by unfold Tri orN; omega
  | n + 1, k => by
    unfold orN
    exact tri_lex (orN_tri n (fun i hi => k i (by omega))) (fun _ _ => k n (by omega))
theorem V.ord_tri (a b c : V) : Tri (V.ord a b) (V.ord b c) (V.ord a c) := by
  refine orN_tri 5 fun i hi => ?_
  rcases (show i = 0 ∨ i = 1 ∨ i = 2 ∨ i = 3 ∨ i = 4 by omega) with rfl | rfl | rfl | rfl | rfl
  · exact tri_less _ _ _
  · exact tri_less _ _ _
  · exact tri_less _ _ _
  · exact tri_text _ _ _
  · exact tri_less _ _ _
theorem orN_swap {f g : Nat → Int} : ∀ n, (∀ i, i < n → g i = - f i) → orN g n = - orN f n
  | 0, _ => rfl
  | n + 1, h => by
    have ih := orN_swap n (fun i hi => h i (by omega))
    have hn := h n (by omega)
    unfold orN
    by_cases h0 : orN f n = 0
    · rw [if_pos h0, if_pos (by omega), hn]
    · rw [if_neg h0, if_neg (by omega), ih]
theorem V.ord_swap (a b : V) : V.ord b a = - V.ord a b := by
  refine orN_swap 5 fun i hi => ?_
  rcases (show i = 0 ∨ i = 1 ∨ i = 2 ∨ i = 3 ∨ i = 4 by omega) with rfl | rfl | rfl | rfl | rfl
  · exact lessI_swap _ _
  · exact lessI_swap _ _
  · exact lessI_swap _ _
  · exact lessT_swap _ _
  · exact lessI_swap _ _
theorem V.cmp_eq (a b : V) : V.cmp a b = if V.ord a b = 0 then Vs.cmp a.kids b.kids else V.ord a b := by
  by_cases h : V.ord a b = 0
  · rw [if_pos h, V.cmp_zero h]
  · rw [if_neg h, V.cmp_ord h]
theorem Vs.cmp_swap : ∀ (l m : List V), (∀ i (h : i < l.length), ∀ b, V.cmp b l[i] = - V.cmp l[i] b) → Vs.cmp m l = - Vs.cmp l m
  | [], m, _ => by rw [Vs.cmp_nil]; simp only [Vs.cmp]; rfl
  | a :: l, [], _ => by rw [Vs.cmp_nil]; simp only [Vs.cmp]; rfl
  | a :: l, b :: m, h => by
    have h0 := h 0 (by simp) b
    rw [List.getElem_cons_zero] at h0
    have ih := Vs.cmp_swap l m (fun i hi b => by have := h (i + 1) (by simpa using hi) b; simpa using this)
    rw [Vs.cmp_cons, Vs.cmp_cons]
    by_cases hz : V.cmp a b = 0
    · rw [if_pos hz, if_pos (by omega), ih]
    · rw [if_neg hz, if_neg (by omega), h0]
theorem V.cmp_swap (a : V) : ∀ b, V.cmp b a = - V.cmp a b := by
  refine V.all (P := fun a => ∀ b, V.cmp b a = - V.cmp a b) (fun a hk b => ?_) a
  have h1 := V.ord_swap a b
  rw [V.cmp_eq, V.cmp_eq a b]
  by_cases hz : V.ord a b = 0
  · rw [if_pos hz, if_pos (by omega)]
    exact Vs.cmp_swap _ _ hk
  · rw [if_neg hz, if_neg (by omega), h1]
theorem V.cmp_self (a : V) : V.cmp a a = 0 := by
  have := V.cmp_swap a a
  omega
theorem V.same_self (a : V) : V.same a a = true := by unfold V.same; exact decide_eq_true (V.cmp_self a)
theorem Vs.cmp_tri : ∀ (l m n : List V), l.length = m.length → m.length = n.length → (∀ i (h : i < l.length), ∀ b c, Tri (V.cmp l[i] b) (V.cmp b c) (V.cmp l[i] c)) → Tri (Vs.cmp l m) (Vs.cmp m n) (Vs.cmp l n)
  | [], [], [], _, _, _ => by simp only [Vs.cmp]; unfold Tri; omega
  | [], [], c :: n, _, h, _ => by simp at h
  | [], b :: m, n, h, _, _ => by simp at h
  | a :: l, [], n, h, _, _ => by simp at h
  | a :: l, b :: m, [], _, h, _ => by simp at h
  | a :: l, b :: m, c :: n, h1, h2, h => by
    have h0 := h 0 (by simp) b c
    rw [List.getElem_cons_zero] at h0
    have ih := Vs.cmp_tri l m n (by simpa using h1) (by simpa using h2) (fun i hi b c => by have := h (i + 1) (by simpa using hi) b c; simpa using this)
    rw [Vs.cmp_cons, Vs.cmp_cons, Vs.cmp_cons]
    exact tri_lex h0 (fun _ _ => ih)
/-- Values are in one order. -/
theorem V.cmp_tri (a : V) : ∀ b c, Tri (V.cmp a b) (V.cmp b c) (V.cmp a c) := by
  refine V.all (P := fun a => ∀ b c, Tri (V.cmp a b) (V.cmp b c) (V.cmp a c)) (fun a hk b c => ?_) a
  rw [V.cmp_eq a b, V.cmp_eq b c, V.cmp_eq a c]
  refine tri_lex (V.ord_tri a b c) fun h1 h2 => ?_
  exact Vs.cmp_tri _ _ _ (V.ord_len h1) (V.ord_len h2) hk
end Go.Proofs.YtcjamnfboifjeaaDoor

/-
  Pairs in order by their keys: the order of two keys; a run of pairs sorted by insertion.
-/
namespace Go.Proofs.YtcjamnfboifjeaaDoor
open Go.RowKit
set_option linter.unusedVariables false
set_option linter.unusedSimpArgs false
set_option maxRecDepth 100000

theorem keyEnters : ∀ (args : Array Value) (w : World), (callFunc 76 args).run Tryd.prog w = .ok (.enter 76 args) w :=
  enters_of Tryd.func76 (by kernel_rfl) rfl
/-- The order of two pairs. -/
def kc (x y : PEnt) : Int := V.cmp x.1.1 y.1.1
def kle (x y : PEnt) : Prop := kc x y ≤ 0
def leafP (x : PEnt) : Prop := x.1.1.kids = []
theorem kc_swap (x y : PEnt) : kc y x = - kc x y := V.cmp_swap _ _
theorem kc_le {x y : PEnt} (h : ¬ kc x y < 0) : kle y x := by have := kc_swap x y; unfold kle; omega
theorem kc_lt {x y : PEnt} (h : kc x y < 0) : kle x y := by unfold kle; omega
theorem kle_trans {x y z : PEnt} (h : kle x y) (k : kle y z) : kle x z := (V.cmp_tri x.1.1 y.1.1 z.1.1).1 h k
theorem leaf_nodes {v : V} (h : v.kids = []) : v.nodes ≤ 1048577 := by rw [V.nodes_eq, h]; simp [Vs.nodes]
set_option maxHeartbeats 2000000 in
theorem keyCmp (x y : PEnt) (hx : leafP x) (hy : leafP y) (w : World) :
    Calls Tryd.prog 76 #[.agg #[.int .i64 x.1.1.k, .int .i64 x.1.1.n, .int .i64 x.1.1.e, .string x.1.1.s, .slice x.1.2.1 x.1.1.kids.length x.1.2.2, .int .i64 x.2.1.k, .int .i64 x.2.1.n, .int .i64 x.2.1.e, .string x.2.1.s, .slice x.2.2.1 x.2.1.kids.length x.2.2.2], .agg #[.int .i64 y.1.1.k, .int .i64 y.1.1.n, .int .i64 y.1.1.e, .string y.1.1.s, .slice y.1.2.1 y.1.1.kids.length y.1.2.2, .int .i64 y.2.1.k, .int .i64 y.2.1.n, .int .i64 y.2.1.e, .string y.2.1.s, .slice y.2.2.1 y.2.1.kids.length y.2.2.2]] w fun e w' => e = .returned (.int .i64 (kc x y)) ∧ Below w.heap.size w w' := by
  have HC := Lib.hid (fun W => implCmp x.1.1 y.1.1 x.1.2.1 y.1.2.1 x.1.2.2 y.1.2.2 W (leaf_nodes hx) (leaf_nodes hy) (by rw [hx]; simp only [Vs.at_]) (by rw [hy]; simp only [Vs.at_]))
  clear hx hy
  unfold V.agg at HC
  go_enter Tryd.func76, Tryd.ntmps76
  go_wp2_with fail
  refine (HC.out _).mono ?_
  rintro e w1 ⟨rfl, hb1⟩
  have hbw : Below w.heap.size w w1 := (((Below.refl _ w).alloc (Nat.le_refl _) _).alloc (by simp) _).trans (hb1.mono (by simp; omega))
  clear hb1
  go_wp2_with fail
  go_ret
  exact ⟨rfl, hbw⟩
theorem ins_at {A B : List PEnt} (x : PEnt) (C : List PEnt) (h : A = B) : A ++ x :: C = B ++ x :: C := by rw [h]
theorem getAt (A C : List PEnt) (x : PEnt) : (A ++ x :: C)[A.length]? = some x := by simp
theorem set_two (A C : List PEnt) (s u : PEnt) : ((A ++ s :: u :: C).set (A.length + 1) s).set A.length u = A ++ u :: s :: C := by
  rw [List.set_append_right _ _ (by omega), show A.length + 1 - A.length = 1 by omega, List.set_cons_succ, List.set_cons_zero, List.set_append_right _ _ (Nat.le_refl _), Nat.sub_self, List.set_cons_zero]
/-- Insertion: what is at hand. -/
def InAt (g : Nat) (L S : List PEnt) (u : PEnt) (T : List PEnt) (rest : List Value) (w : World) (j : Value) (wr : World) : Prop :=
  ∃ (S1 S2 : List PEnt) (jn : Nat), j = .int .i64 (jn : Int) ∧ jn ≤ 100000 ∧ Hid (jn = L.length + S1.length) ∧ Hid (S1 ++ S2 = S) ∧ Hid (∀ s ∈ S2, kc u s < 0) ∧ Hid (PRow wr g (L ++ (S1 ++ u :: (S2 ++ T))) rest) ∧ Hid (Gr g w wr)
theorem ins_sorted {S1 S2 : List PEnt} {u : PEnt} (h : (S1 ++ S2).Pairwise kle) (h2 : ∀ s ∈ S2, kc u s < 0) (h1 : ∀ s ∈ S1, kle s u) : (S1 ++ u :: S2).Pairwise kle := by
  rw [List.pairwise_append] at h ⊢
  refine ⟨h.1, List.pairwise_cons.2 ⟨fun s hs => kc_lt (h2 s hs), h.2.1⟩, fun a ha b hb => ?_⟩
  rcases List.mem_cons.1 hb with rfl | hb
  · exact h1 a ha
  · exact h.2.2 a ha b hb
theorem last_le {S : List PEnt} {s u : PEnt} (h : (S ++ [s]).Pairwise kle) (hu : kle s u) : ∀ x ∈ S ++ [s], kle x u := by
  intro x hx
  rcases List.mem_append.1 hx with hx | hx
  · exact kle_trans ((List.pairwise_append.1 h).2.2 x hx s (by simp)) hu
  · rw [List.mem_singleton] at hx; rw [hx]; exact hu
/-- The outer loop. -/
def OutAt (g : Nat) (L X R : List PEnt) (rest : List Value) (w : World) (i : Value) (wr : World) : Prop :=
  ∃ (S U : List PEnt) (ni : Nat), i = .int .i64 (ni : Int) ∧ ni ≤ 100001 ∧ Hid (L.length < ni ∧ (ni = L.length + S.length ∨ (X = [] ∧ S = [] ∧ ni = L.length + 1))) ∧ Hid ((S ++ U).Perm X) ∧ Hid (S.Pairwise kle) ∧ Hid (PRow wr g (L ++ (S ++ (U ++ R))) rest) ∧ Hid (Gr g w wr)
set_option maxHeartbeats 4000000 in
theorem insSort (g c : Nat) (L X R : List PEnt) (rest : List Value) (w : World) (a b N : Nat) (hr : PRow w g (L ++ (X ++ R)) rest) (hX : ∀ x ∈ X, leafP x) (ha : a = L.length) (hb : b = L.length + X.length) (hN : N = L.length + X.length + R.length) (hd : N ≤ 100000) :
    Calls Tryd.prog 104 #[.slice (some ⟨g, 0, none⟩) N c, .int .i64 (a : Int), .int .i64 (b : Int), .func (Fn.func 76) #[] #[]] w fun e w' => e = .returned (.tuple #[]) ∧ ∃ Z, Z.Perm X ∧ Z.Pairwise kle ∧ PRow w' g (L ++ (Z ++ R)) rest ∧ Gr g w w' := by
  have HR := Lib.hid hr
  have HX := Lib.hid hX
  have ha2 : a ≤ 100000 := by omega
  have hb2 : b ≤ 100000 := by omega
  have HA := Lib.hid ha
  have HB := Lib.hid hb
  have HN := Lib.hid hN
  have hE := keyEnters
  clear hr hX ha hb hN
  go_enter Tryd.func104, Tryd.ntmps104
  go_wp2_with fail
  go_loopw [8] (fun i wr => OutAt g L X R rest w i wr) (fun i _ => b + 2 - (intOf i).toNat)
  case atStart =>
    cases X with
    | nil => exact ⟨[], [], a + 1, by go_num, by omega, Lib.hid ⟨by have := HA.out; omega, .inr ⟨rfl, rfl, by have := HA.out; omega⟩⟩, Lib.hid (List.Perm.refl _), Lib.hid List.Pairwise.nil, HR, Lib.hid (Gr.refl _ _)⟩
    | cons x X => exact ⟨[x], X, a + 1, by go_num, by omega, Lib.hid ⟨by have := HA.out; omega, .inl (by have := HA.out; simp; omega)⟩, Lib.hid (List.Perm.refl _), Lib.hid (List.pairwise_singleton _ _), HR, Lib.hid (Gr.refl _ _)⟩
  case round =>
    obtain ⟨S, U, ni, rfl, hni, HI, HPM, HSO, HP, HG⟩ := hrel
    by_cases hlt : ni < b
    · have hlt2 : (ni : Int) < (b : Int) := by omega
      have hlen := HPM.out.length_eq
      rw [List.length_append] at hlen
      have hS : ni = L.length + S.length := by
        rcases HI.out.2 with h | ⟨h1, h2, h3⟩
        · exact h
        · have h4 := HB.out; rw [h1] at h4; simp at h4; omega
      obtain ⟨u, U', hU⟩ : ∃ u U', U = u :: U' := by
        cases U with
        | nil => have h4 := HB.out; simp at hlen; omega
        | cons u U' => exact ⟨u, U', rfl⟩
      have HU := Lib.hid hU
      have HS := Lib.hid hS
      have hlu : leafP u := HX.out u (HPM.out.subset (by rw [hU]; simp))
      have HLU := Lib.hid hlu
      have HLS := Lib.hid (fun s (hs : s ∈ S) => HX.out s (HPM.out.subset (by simp [hs])))
      clear hlen hS hU hlu
      go_wp2_with fail
      go_loopw [9] (fun j wr2 => InAt g L S u (U' ++ R) rest w j wr2) (fun j _ => (intOf j).toNat)
      case atStart => exact ⟨S, [], ni, rfl, by omega, HS, Lib.hid (by simp), Lib.hid (fun s hs => by cases hs), Lib.hid (by have h := HP.out; rw [HU.out] at h; exact h), HG⟩
      case round =>
        obtain ⟨S1, S2, jn, rfl, hjn, HJ, HSS, HS2, HP2, HG2⟩ := hrel
        rcases List.eq_nil_or_concat S1 with hS1 | ⟨S1', s, hS1⟩
        · have hja : jn = a := by have a1 := HJ.out; rw [hS1] at a1; simp at a1; have a2 := HA.out; omega
          have qj : decide ((a : Int) < (jn : Int)) = false := decide_eq_false (by omega)
          have qjn : decide (a < jn) = false := decide_eq_false (by omega)
          have HLE : Hid (∀ s ∈ S1, kle s u) := Lib.hid (by rw [hS1]; intro s hs; cases hs)
          have hjl : (jn : Int) ≤ (a : Int) := by omega
          clear hja hS1
          go_wp2_with fail
          go_quiet (fail)
          go_wp2_with fail
          go_roundw
          case rel => exact ⟨S1 ++ u :: S2, U', ni + 1, by go_num, by omega, Lib.hid (by have a1 := HI.out.1; have a2 := HS.out; have a3 := congrArg List.length HSS.out; rw [List.length_append] at a3; exact ⟨by omega, .inl (by rw [List.length_append, List.length_cons]; omega)⟩), Lib.hid (by have h := HPM.out; rw [HU.out, ← HSS.out] at h; refine List.Perm.trans ?_ h; simp only [List.append_assoc, List.cons_append]; refine List.Perm.append_left S1 ?_; exact (List.perm_middle (l₁ := S2) (a := u) (l₂ := U')).symm), Lib.hid (ins_sorted (by rw [HSS.out]; exact HSO.out) HS2.out HLE.out), Lib.hid (by have h := HP2.out; simp only [List.append_assoc, List.cons_append] at h ⊢; exact h), Lib.hid (HG2.out.drewN _)⟩
          case measure => simp [intOf]; omega
        · rw [List.concat_eq_append] at hS1
          obtain ⟨jp, hjp⟩ : ∃ jp, jn = jp + 1 := ⟨jn - 1, by have a1 := HJ.out; rw [hS1] at a1; simp at a1; omega⟩
          subst hjp
          have hjp2 : jp = L.length + S1'.length := by have a1 := HJ.out; rw [hS1] at a1; simp at a1; omega
          have HS1 := Lib.hid hS1
          have hls : leafP s := HLS.out s (by rw [← HSS.out, hS1]; simp)
          have hPE : L ++ (S1 ++ u :: (S2 ++ (U' ++ R))) = (L ++ S1') ++ s :: u :: (S2 ++ (U' ++ R)) := by rw [hS1]; simp only [List.append_assoc, List.cons_append, List.nil_append]
          have hLl : (L ++ S1').length = jp := by rw [List.length_append]; omega
          have HPr := HP2.out
          rw [hPE] at HPr
          have hlenD : ((L ++ S1') ++ s :: u :: (S2 ++ (U' ++ R))).length = N := by
            have a1 := HN.out
            have a2 := HPM.out.length_eq
            have a3 := congrArg List.length HSS.out
            have a4 := congrArg List.length HU.out
            have a5 := congrArg List.length hS1
            simp only [List.length_append, List.length_cons, List.length_nil] at a2 a3 a4 a5 ⊢
            omega
          have e1 : ((L ++ S1') ++ s :: u :: (S2 ++ (U' ++ R)))[jp]? = some s := by rw [← hLl]; simp
          have e2 : ((L ++ S1') ++ s :: u :: (S2 ++ (U' ++ R)))[jp + 1]? = some u := by rw [← hLl, List.getElem?_append_right (by omega), show (L ++ S1').length + 1 - (L ++ S1').length = 1 by omega]; rfl
          have HSET := set_two (L ++ S1') (S2 ++ (U' ++ R)) s u
          rw [hLl] at HSET
          obtain ⟨dj, hdj⟩ : ∃ dj, (L ++ S1') ++ s :: u :: (S2 ++ (U' ++ R)) = dj := ⟨_, rfl⟩
          rw [hdj] at HPr hlenD e1 e2 HSET
          obtain ⟨hi1, e1⟩ := List.getElem?_eq_some_iff.1 e1
          obtain ⟨hi2, e2⟩ := List.getElem?_eq_some_iff.1 e2
          have HPD := Lib.hid HPr
          have HPEQ := Lib.hid (hPE.trans hdj)
          have HT1 := HPr.ten jp hi1
          have HT2 := HPr.ten (jp + 1) hi2
          rw [e1] at HT1
          rw [e2] at HT2
          obtain ⟨x0, x1, x2, x3, x4, x5, x6, x7, x8, x9⟩ := HT1
          obtain ⟨y0, y1, y2, y3, y4, y5, y6, y7, y8, y9⟩ := HT2
          have haj : (a : Int) < (jp : Int) + 1 := by have := HA.out; omega
          have qj : decide ((a : Int) < (jp : Int) + 1) = true := decide_eq_true haj
          have qjn : decide (a < jp + 1) = true := decide_eq_true (by omega)
          have hjN : (jp : Int) + 1 < (N : Int) := by omega
          have hjN1 : (jp : Int) < (N : Int) := by omega
          have htj : ((jp : Int) + 1).toNat = jp + 1 := by omega
          have p0 : (0 : Int) ≤ (jp : Int) + 1 := by omega
          have hwp : IntKind.i64.wrap (jp : Int) = (jp : Int) := by rw [IntKind.wrap_i64]; omega
          have HSW := Lib.hid (fun (W : World) (h : PRow W g dj rest) => h.swap (jp + 1) jp hi2 hi1 s u)
          rw [HSET] at HSW
          have HHI := Lib.hid (And.intro hi1 hi2)
          have HEQ := Lib.hid (And.intro e1 e2)
          have HJP := Lib.hid hjp2
          have HLSs := Lib.hid hls
          clear HPr hlenD e1 e2 HSET hdj hjp2 hLl hPE hls hS1
          go_upto_region 4 with fail
          go_still_tail 14, (by kernel_rfl)
          change wpList _ _ _ _ _ wr.drew
          go_wp2_with fail
          refine (keyCmp u s HLU.out HLSs.out wr.drew).mono ?_
          rintro e w1 ⟨rfl, hb1⟩
          clear x0 x1 x2 x3 x4 x5 x6 x7 x8 x9 y0 y1 y2 y3 y4 y5 y6 y7 y8 y9
          have HP3 := Lib.hid (show PRow w1 g dj rest from Blk.below (show Blk wr.drew g _ _ from HPD.out) hb1 (PRow.lt HPD.out))
          have HG3 := Lib.hid (HG2.out.drew.below hb1 (Nat.le_refl _))
          clear hb1
          by_cases hc : kc u s < 0
          · have qc : decide (kc u s < 0) = true := decide_eq_true hc
            have HC := Lib.hid hc
            have HT1 := HP3.out.ten jp HHI.out.1
            have HT2 := HP3.out.ten (jp + 1) HHI.out.2
            rw [HEQ.out.1] at HT1
            rw [HEQ.out.2] at HT2
            obtain ⟨x0, x1, x2, x3, x4, x5, x6, x7, x8, x9⟩ := HT1
            obtain ⟨y0, y1, y2, y3, y4, y5, y6, y7, y8, y9⟩ := HT2
            have hfz : ∀ i, w1.frozen? ⟨g, i, none⟩ = false := HP3.out.soft
            have hPQ : ∀ q r, q < 10 → r < 10 → ¬ jp * 10 + q = (jp + 1) * 10 + r := fun q r h1 h2 => by omega
            have hQP : ∀ q r, q < 10 → r < 10 → ¬ (jp + 1) * 10 + q = jp * 10 + r := fun q r h1 h2 => by omega
            have hPQ0 : ∀ r, r < 10 → ¬ jp * 10 = (jp + 1) * 10 + r := fun r h => by omega
            have hQP0 : ∀ r, r < 10 → ¬ (jp + 1) * 10 = jp * 10 + r := fun r h => by omega
            have hPQ1 : ∀ r, r < 10 → ¬ jp * 10 + r = (jp + 1) * 10 := fun r h => by omega
            have hQP1 : ∀ r, r < 10 → ¬ (jp + 1) * 10 + r = jp * 10 := fun r h => by omega
            have hPQ2 : ¬ jp * 10 = (jp + 1) * 10 := by omega
            have hQP2 : ¬ (jp + 1) * 10 = jp * 10 := by omega
            clear hc
            go_upto_region 6 with fail
            go_region
            clear hPQ hQP hPQ0 hQP0 hPQ1 hQP1 hPQ2 hQP2 x0 x1 x2 x3 x4 x5 x6 x7 x8 x9 y0 y1 y2 y3 y4 y5 y6 y7 y8 y9 hfz
            have HRES := Lib.hid (HSW.out w1 HP3.out)
            have HG4 := Lib.hid ((HG3.out.trans (st10_gr w1 g ((jp + 1) * 10) s)).trans (st10_gr _ g (jp * 10) u))
            obtain ⟨W, hW⟩ : ∃ W, W = st10 (st10 w1 g ((jp + 1) * 10) s) g (jp * 10) u := ⟨_, rfl⟩
            rw [← hW] at HRES HG4
            unfold st10 at hW
            rw [← hW]
            clear hW
            go_wp2_with fail
            go_roundw
            case rel => exact ⟨S1', s :: S2, jp, by go_num, by omega, HJP, Lib.hid (by rw [← HSS.out, HS1.out]; simp), Lib.hid (by intro x hx; rcases List.mem_cons.1 hx with rfl | hx; exact HC.out; exact HS2.out x hx), Lib.hid (by have h := HRES.out; simp only [List.append_assoc, List.cons_append] at h ⊢; exact h), Lib.hid HG4.out.drew⟩
            case measure => simp [intOf]; try omega
          · have qc : decide (kc u s < 0) = false := decide_eq_false hc
            have HLE : Hid (∀ s ∈ S1, kle s u) := Lib.hid (by
              have h := HSO.out
              rw [← HSS.out, List.pairwise_append, HS1.out] at h
              rw [HS1.out]
              exact last_le h.1 (kc_le hc))
            have HPL := Lib.hid (by have h := HP3.out; rw [← HPEQ.out] at h; exact h)
            clear hc
            go_wp2_with fail
            go_roundw
            case rel => exact ⟨S1 ++ u :: S2, U', ni + 1, by go_num, by omega, Lib.hid (by have a1 := HI.out.1; have a2 := HS.out; have a3 := congrArg List.length HSS.out; rw [List.length_append] at a3; exact ⟨by omega, .inl (by rw [List.length_append, List.length_cons]; omega)⟩), Lib.hid (by have h := HPM.out; rw [HU.out, ← HSS.out] at h; refine List.Perm.trans ?_ h; simp only [List.append_assoc, List.cons_append]; refine List.Perm.append_left S1 ?_; exact (List.perm_middle (l₁ := S2) (a := u) (l₂ := U')).symm), Lib.hid (ins_sorted (by rw [HSS.out]; exact HSO.out) HS2.out HLE.out), Lib.hid (by have h := (show PRow w1 g (L ++ (S1 ++ u :: (S2 ++ (U' ++ R)))) rest from HPL.out); simp only [List.append_assoc, List.cons_append] at h ⊢; exact h), Lib.hid (HG3.out)⟩
            case measure => simp [intOf]; omega
    · have hge : (b : Int) ≤ (ni : Int) := by omega
      have hge2 : ¬ (ni : Int) < (b : Int) := by omega
      have HFIN : Hid (S.Perm X ∧ PRow wr g (L ++ (S ++ R)) rest) := Lib.hid (by
        have hU : U = [] := by
          have h1 := HPM.out.length_eq
          rw [List.length_append] at h1
          rcases HI.out.2 with h | ⟨h2, h3, h4⟩
          · have h5 := HB.out
            exact List.length_eq_zero_iff.1 (by omega)
          · rw [h2, h3] at h1
            exact List.length_eq_zero_iff.1 (by simpa using h1)
        have h1 := HPM.out
        have h2 := HP.out
        rw [hU] at h1 h2
        rw [List.append_nil] at h1
        exact ⟨h1, h2⟩)
      clear hlt
      go_wp2_with fail
      go_end0
      exact ⟨rfl, S, HFIN.out.1, HSO.out, HFIN.out.2, HG.out⟩
end Go.Proofs.YtcjamnfboifjeaaDoor

/-
  Two runs of pairs change places.
-/
namespace Go.Proofs.YtcjamnfboifjeaaDoor
open Go.RowKit
set_option linter.unusedVariables false
set_option linter.unusedSimpArgs false
set_option maxRecDepth 100000

theorem swapRangeZ (g c : Nat) (fn : Value) (L X M Y R : List PEnt) (rest : List Value) (w : World) (za zb zn : Int) (N : Nat) (hr : PRow w g (L ++ (X ++ (M ++ (Y ++ R)))) rest) (hXY : X.length = Y.length) (ha : za = (L.length : Int)) (hb : zb = (L.length : Int) + X.length + M.length) (hn : zn = (X.length : Int)) (hN : N = L.length + X.length + M.length + Y.length + R.length) (hd : N ≤ 100000) :
    Calls Tryd.prog 112 #[.slice (some ⟨g, 0, none⟩) N c, .int .i64 za, .int .i64 zb, .int .i64 zn, fn] w fun e w' => e = .returned (.tuple #[]) ∧ PRow w' g (L ++ (Y ++ (M ++ (X ++ R)))) rest ∧ Gr g w w' := by
  have h := swapRange g c fn L X M Y R rest w L.length (L.length + X.length + M.length) X.length N hr hXY rfl rfl rfl hN hd
  rw [ha, hb, hn]
  exact h
/-- What a round of the turning stands at. -/
def RotAt (g m N : Nat) (T : List PEnt) (rest : List Value) (w : World) (i j : Value) (wr : World) : Prop :=
  ∃ (P X Y Q : List PEnt), i = .int .i64 (X.length : Int) ∧ j = .int .i64 (Y.length : Int) ∧ Hid (0 < X.length ∧ 0 < Y.length ∧ P.length + X.length = m ∧ N = P.length + X.length + Y.length + Q.length) ∧ Hid (PRow wr g (P ++ (X ++ (Y ++ Q))) rest) ∧ Hid (P ++ (Y ++ (X ++ Q)) = T) ∧ Hid (Gr g w wr)
set_option maxHeartbeats 2000000 in
theorem rotateZ (g c : Nat) (fn : Value) (L X Y R : List PEnt) (rest : List Value) (w : World) (za zm zb : Int) (N : Nat) (hr : PRow w g (L ++ (X ++ (Y ++ R))) rest) (ha : za = (L.length : Int)) (hm : zm = (L.length : Int) + X.length) (hb : zb = (L.length : Int) + X.length + Y.length) (hN : N = L.length + X.length + Y.length + R.length) (hd : N ≤ 100000) (hX : 0 < X.length) (hY : 0 < Y.length) :
    Calls Tryd.prog 109 #[.slice (some ⟨g, 0, none⟩) N c, .int .i64 za, .int .i64 zm, .int .i64 zb, fn] w fun e w' => e = .returned (.tuple #[]) ∧ PRow w' g (L ++ (Y ++ (X ++ R))) rest ∧ Gr g w w' := by
  have HR := Lib.hid hr
  obtain ⟨m, hm2⟩ : ∃ m : Nat, m = L.length + X.length := ⟨_, rfl⟩
  have hzm : zm = (m : Int) := by omega
  have hxl : zm - za = (X.length : Int) := by omega
  have hyl : zb - zm = (Y.length : Int) := by omega
  have HM := Lib.hid hm2
  have HNN := Lib.hid hN
  have hmN : m ≤ N := by omega
  have hlX : X.length ≤ N := by omega
  have hlY : Y.length ≤ N := by omega
  have hza : 0 ≤ za := by omega
  have hzb : zb ≤ 100000 := by omega
  have HXY := Lib.hid (And.intro hX hY)
  subst hzm
  have HA := Lib.hid ha
  have HB := Lib.hid hb
  clear hr hm2 hN hX hY hm ha hb
  go_enter Tryd.func109, Tryd.ntmps109
  go_wp2_with fail
  go_loopw [10, 11] (fun i j wr => RotAt g m N (L ++ (Y ++ (X ++ R))) rest w i j wr) (fun i j _ => (intOf i).toNat + (intOf j).toNat)
  case atStart => exact ⟨L, X, Y, R, by first | rfl | (rw [hxl]), by first | rfl | (rw [hyl]), Lib.hid ⟨HXY.out.1, HXY.out.2, HM.out.symm, HNN.out⟩, HR, Lib.hid rfl, Lib.hid (Gr.refl _ _)⟩
  case round =>
    obtain ⟨P, X', Y', Q, rfl, rfl, HL, HP, HT, HG⟩ := hrel
    have h1 := HL.out.1
    have h2 := HL.out.2.1
    have h3 := HL.out.2.2.1
    have h4 := HL.out.2.2.2
    have i1 : X'.length ≤ 100000 := by omega
    have i2 : Y'.length ≤ 100000 := by omega
    have i3 : (X'.length : Int) ≤ (m : Int) := by omega
    have i4 : (m : Int) ≤ 100000 := by omega
    clear h1 h2 h3 h4
    rcases Nat.lt_trichotomy X'.length Y'.length with hlt | heq | hgt
    · have q1 : ((X'.length : Int) == (Y'.length : Int)) = false := by rw [beq_eq_false_iff_ne]; omega
      have q1' : ((X'.length : Int) != (Y'.length : Int)) = true := by simp only [bne, q1]; rfl
      have q2 : decide ((Y'.length : Int) < (X'.length : Int)) = false := decide_eq_false (by omega)
      have hlt2 : (X'.length : Int) < (Y'.length : Int) := by omega
      obtain ⟨Y1, Y2, hsp, hy2⟩ : ∃ Y1 Y2, Y' = Y1 ++ Y2 ∧ Y2.length = X'.length := ⟨Y'.take (Y'.length - X'.length), Y'.drop (Y'.length - X'.length), (List.take_append_drop _ _).symm, by rw [List.length_drop]; omega⟩
      have hyl2 : Y'.length = Y1.length + Y2.length := by rw [hsp, List.length_append]
      have HF := Lib.hid (And.intro hy2 (And.intro hyl2 hlt))
      have HSP := Lib.hid hsp
      have HCALL := Lib.hid (fun (za zb zn : Int) (e1 : za = (P.length : Int)) (e2 : zb = (P.length : Int) + X'.length + Y1.length) (e3 : zn = (X'.length : Int)) => swapRangeZ g c fn P X' Y1 Y2 Q rest wr za zb zn N (by have h := HP.out; rw [hsp, List.append_assoc] at h; exact h) hy2.symm e1 e2 e3 (by have h := HL.out.2.2.2; omega) hd)
      clear hy2 hyl2 hsp hlt
      go_wp2_with fail
      refine (HCALL.out _ _ _ (by have a1 := HL.out; omega) (by have a1 := HL.out; have a2 := HF.out; omega) (by omega)).mono ?_
      rintro e w1 ⟨rfl, hp1, hg1⟩
      have HP1 := Lib.hid hp1
      have HG1 := Lib.hid (HG.out.trans hg1)
      clear hp1 hg1 HCALL
      go_wp2_with fail
      go_roundw
      case rel => exact ⟨P, Y2, Y1, X' ++ Q, by rw [HF.out.1], (by have a2 := HF.out; congr 1; omega), Lib.hid (by have a1 := HL.out; have a2 := HF.out; rw [List.length_append]; omega), HP1, Lib.hid (by have h := HT.out; rw [HSP.out, List.append_assoc] at h; rw [← h]), HG1⟩
      case measure => (have a1 := HL.out; have a2 := HF.out; simp [intOf]; omega)
    · have q1 : ((X'.length : Int) == (Y'.length : Int)) = true := by rw [heq]; simp
      have q1' : ((X'.length : Int) != (Y'.length : Int)) = false := by simp only [bne, q1]; rfl
      have HE := Lib.hid heq
      have HCALL := Lib.hid (fun (za zb zn : Int) (e1 : za = (P.length : Int)) (e2 : zb = (P.length : Int) + X'.length + ([] : List PEnt).length) (e3 : zn = (X'.length : Int)) => swapRangeZ g c fn P X' [] Y' Q rest wr za zb zn N HP.out heq e1 e2 e3 (by have h := HL.out.2.2.2; simp; omega) hd)
      clear heq
      go_wp2_with fail
      refine (HCALL.out _ _ _ (by have := HL.out.2.2.1; omega) (by have := HL.out.2.2.1; simp; omega) (by omega)).mono ?_
      rintro e w1 ⟨rfl, hp1, hg1⟩
      have HP1 := Lib.hid hp1
      have HG1 := Lib.hid (HG.out.trans hg1)
      clear hp1 hg1 HCALL
      go_wp2_with fail
      go_end0
      exact ⟨rfl, by rw [← HT.out]; exact HP1.out, HG1.out⟩
    · have q1 : ((X'.length : Int) == (Y'.length : Int)) = false := by rw [beq_eq_false_iff_ne]; omega
      have q1' : ((X'.length : Int) != (Y'.length : Int)) = true := by simp only [bne, q1]; rfl
      have q2 : decide ((Y'.length : Int) < (X'.length : Int)) = true := decide_eq_true (by omega)
      have hgt2 : (Y'.length : Int) < (X'.length : Int) := by omega
      obtain ⟨X1, X2, hsp, hx1⟩ : ∃ X1 X2, X' = X1 ++ X2 ∧ X1.length = Y'.length := ⟨X'.take Y'.length, X'.drop Y'.length, (List.take_append_drop _ _).symm, by rw [List.length_take]; omega⟩
      have hxl2 : X'.length = X1.length + X2.length := by rw [hsp, List.length_append]
      have HF := Lib.hid (And.intro hx1 (And.intro hxl2 hgt))
      have HSP := Lib.hid hsp
      have HCALL := Lib.hid (fun (za zb zn : Int) (e1 : za = (P.length : Int)) (e2 : zb = (P.length : Int) + X1.length + X2.length) (e3 : zn = (X1.length : Int)) => swapRangeZ g c fn P X1 X2 Y' Q rest wr za zb zn N (by have h := HP.out; rw [hsp, List.append_assoc] at h; exact h) hx1 e1 e2 e3 (by have h := HL.out.2.2.2; omega) hd)
      clear hx1 hxl2 hsp hgt
      go_wp2_with fail
      refine (HCALL.out _ _ _ (by have a1 := HL.out; omega) (by have a1 := HL.out; have a2 := HF.out; omega) (by have a2 := HF.out; omega)).mono ?_
      rintro e w1 ⟨rfl, hp1, hg1⟩
      have HP1 := Lib.hid hp1
      have HG1 := Lib.hid (HG.out.trans hg1)
      clear hp1 hg1 HCALL
      go_wp2_with fail
      go_roundw
      case rel => exact ⟨P ++ Y', X2, X1, Q, (by have a2 := HF.out; congr 1; omega), by rw [HF.out.1], Lib.hid (by have a1 := HL.out; have a2 := HF.out; rw [List.length_append]; omega), Lib.hid (by have h := HP1.out; rw [List.append_assoc]; exact h), Lib.hid (by have h := HT.out; rw [HSP.out] at h; rw [← h]; simp only [List.append_assoc]), HG1⟩
      case measure => (have a1 := HL.out; have a2 := HF.out; simp [intOf]; omega)
end Go.Proofs.YtcjamnfboifjeaaDoor

/-
  Two runs of pairs merged: one pair ahead of a run.
-/
namespace Go.Proofs.YtcjamnfboifjeaaDoor
open Go.RowKit
set_option linter.unusedVariables false
set_option linter.unusedSimpArgs false
set_option maxRecDepth 100000

theorem kc_of {x y z : PEnt} (h : kle x y) (k : kc y z < 0) : kc x z < 0 := (V.cmp_tri x.1.1 y.1.1 z.1.1).2.1 h k
theorem take_lt {Y : List PEnt} {x y : PEnt} {t : Nat} (hs : Y.Pairwise kle) (hy : Y[t]? = some y) (h : kc y x < 0) : ∀ z ∈ Y.take (t + 1), kc z x < 0 := by
  intro z hz
  obtain ⟨ht, hy⟩ := List.getElem?_eq_some_iff.1 hy
  rw [List.take_succ_eq_append_getElem ht, hy] at hz
  rcases List.mem_append.1 hz with hz | hz
  · have e : Y = Y.take t ++ Y[t] :: Y.drop (t + 1) := by rw [← List.drop_eq_getElem_cons ht, List.take_append_drop]
    rw [e, List.pairwise_append, hy] at hs
    exact kc_of (hs.2.2 z hz y (by simp)) h
  · rw [List.mem_singleton] at hz; rw [hz]; exact h
theorem drop_ge {Y : List PEnt} {x y : PEnt} {t : Nat} (hs : Y.Pairwise kle) (hy : Y[t]? = some y) (h : ¬ kc y x < 0) : ∀ z ∈ Y.drop t, kle x z := by
  intro z hz
  refine kc_le fun hn => ?_
  obtain ⟨ht, hy⟩ := List.getElem?_eq_some_iff.1 hy
  rw [List.drop_eq_getElem_cons ht, hy] at hz
  rcases List.mem_cons.1 hz with rfl | hz
  · exact h hn
  · have e : Y = Y.take t ++ Y[t] :: Y.drop (t + 1) := by rw [← List.drop_eq_getElem_cons ht, List.take_append_drop]
    rw [e, List.pairwise_append, hy] at hs
    exact h (kc_of ((List.pairwise_cons.1 hs.2.1).1 z hz) hn)
theorem mid_at (L : List PEnt) (x : PEnt) (Y R : List PEnt) (t : Nat) (h : t < Y.length) : (L ++ x :: (Y ++ R))[L.length + 1 + t]? = some Y[t] := by
  rw [List.getElem?_append_right (by omega), show L.length + 1 + t - L.length = t + 1 by omega, List.getElem?_cons_succ, List.getElem?_append_left h, List.getElem?_eq_getElem h]
theorem set_two' (A C : List PEnt) (x y : PEnt) : ((A ++ x :: y :: C).set A.length y).set (A.length + 1) x = A ++ y :: x :: C := by
  rw [List.set_append_right _ _ (Nat.le_refl _), Nat.sub_self, List.set_cons_zero, List.set_append_right _ _ (by omega), show A.length + 1 - A.length = 1 by omega, List.set_cons_succ, List.set_cons_zero]
/-- The pair on its way up. -/
def UpA (a : Nat) (L Y1 : List PEnt) (x : PEnt) (T : List PEnt) (g : Nat) (rest : List Value) (w : World) (k : Value) (wr : World) : Prop :=
  ∃ (kn t : Nat), k = .int .i64 (kn : Int) ∧ kn ≤ 100000 ∧ Hid (kn = a + t ∧ t ≤ Y1.length) ∧ Hid (PRow wr g (L ++ (Y1.take t ++ x :: (Y1.drop t ++ T))) rest) ∧ Hid (Gr g w wr)
/-- The search's state. -/
def SeA (m b : Nat) (x : PEnt) (Y : List PEnt) (g : Nat) (d : List PEnt) (rest : List Value) (w : World) (i j h : Value) (wr : World) : Prop :=
  ∃ (ni nj : Nat), i = .int .i64 (ni : Int) ∧ j = .int .i64 (nj : Int) ∧ m ≤ ni ∧ ni ≤ nj ∧ nj ≤ b ∧ Hid (∀ y ∈ Y.take (ni - m), kc y x < 0) ∧ Hid (∀ y ∈ Y.drop (nj - m), kle x y) ∧ Hid (PRow wr g d rest) ∧ Hid (Gr g w wr)
set_option maxHeartbeats 4000000 in
theorem symA (g c : Nat) (L : List PEnt) (x : PEnt) (Y R : List PEnt) (rest : List Value) (w : World) (a m b N : Nat) (hr : PRow w g (L ++ (x :: (Y ++ R))) rest) (hx : leafP x) (hY : ∀ y ∈ Y, leafP y) (hs : Y.Pairwise kle) (ha : a = L.length) (hm : m = L.length + 1) (hb : b = L.length + 1 + Y.length) (hN : N = L.length + 1 + Y.length + R.length) (hd : N ≤ 100000) :
    Calls Tryd.prog 105 #[.slice (some ⟨g, 0, none⟩) N c, .int .i64 (a : Int), .int .i64 (m : Int), .int .i64 (b : Int), .func (Fn.func 76) #[] #[]] w fun e w' => e = .returned (.tuple #[]) ∧ ∃ Z, Z.Perm (x :: Y) ∧ Z.Pairwise kle ∧ PRow w' g (L ++ (Z ++ R)) rest ∧ Gr g w w' := by
  have HR := Lib.hid hr
  have HX := Lib.hid hx
  have HY := Lib.hid hY
  have HS := Lib.hid hs
  have ha2 : a ≤ 100000 := by omega
  have hb2 : b ≤ 100000 := by omega
  have hmb : m ≤ b := by omega
  have hma : (m : Int) - (a : Int) = 1 := by omega
  have haN : (a : Int) < (N : Int) := by omega
  have hbN : b ≤ N := by omega
  have HF := Lib.hid (And.intro ha (And.intro hm (And.intro hb hN)))
  have hE := keyEnters
  clear hr hx hY hs ha hm hb hN
  go_enter Tryd.func105, Tryd.ntmps105
  go_wp2_with fail
  go_loopw [10, 11, 12] (fun i j h wr => SeA m b x Y g (L ++ (x :: (Y ++ R))) rest w i j h wr) (fun i j _ _ => (intOf j).toNat - (intOf i).toNat)
  case atStart => exact ⟨m, b, rfl, rfl, Nat.le_refl _, hmb, Nat.le_refl _, Lib.hid (by rw [Nat.sub_self]; intro y hy; cases hy), Lib.hid (by rw [show b - m = Y.length by have := HF.out; omega, List.drop_length]; intro y hy; cases hy), HR, Lib.hid (Gr.refl _ _)⟩
  case round =>
    obtain ⟨ni, nj, rfl, rfl, h1, h2, h3, HT, HD, HP, HG⟩ := hrel
    by_cases hlt : ni < nj
    · have hlt2 : (ni : Int) < (nj : Int) := by omega
      obtain ⟨hh, hhd⟩ : ∃ hh : Nat, ((ni : Int) + (nj : Int)) / 2 = (hh : Int) := ⟨(ni + nj) / 2, by omega⟩
      have hh1 : ni ≤ hh := by omega
      have hh2 : hh < nj := by omega
      have hmid : hh = L.length + 1 + (hh - m) := by have := HF.out; omega
      have htl : hh - m < Y.length := by have := HF.out; omega
      obtain ⟨y, hy⟩ : ∃ y, Y[hh - m] = y := ⟨_, rfl⟩
      have hyo : Y[hh - m]? = some y := by rw [List.getElem?_eq_getElem htl, hy]
      have e1 := mid_at L x Y R (hh - m) htl
      rw [← hmid, hy] at e1
      have e2 : (L ++ x :: (Y ++ R))[a]? = some x := by rw [HF.out.1]; simp
      have hly : leafP y := HY.out y (by rw [← hy]; exact List.getElem_mem htl)
      obtain ⟨hi1, e1⟩ := List.getElem?_eq_some_iff.1 e1
      obtain ⟨hi2, e2⟩ := List.getElem?_eq_some_iff.1 e2
      have HT1 := HP.out.ten hh hi1
      have HT2 := HP.out.ten a hi2
      rw [e1] at HT1
      rw [e2] at HT2
      obtain ⟨x0, x1, x2, x3, x4, x5, x6, x7, x8, x9⟩ := HT1
      obtain ⟨y0, y1, y2, y3, y4, y5, y6, y7, y8, y9⟩ := HT2
      have hhN : (hh : Int) < (N : Int) := by omega
      have HLY := Lib.hid hly
      have HYO := Lib.hid hyo
      clear hmid htl hy hyo hly e1 e2 hi1 hi2
      go_upto_region 5 with fail
      try rw [hhd]
      clear hhd
      go_still_tail 9, (by kernel_rfl)
      change wpList _ _ _ _ _ wr.drew
      go_wp2_with fail
      refine (keyCmp y x HLY.out HX.out wr.drew).mono ?_
      rintro e w1 ⟨rfl, hb1⟩
      clear x0 x1 x2 x3 x4 x5 x6 x7 x8 x9 y0 y1 y2 y3 y4 y5 y6 y7 y8 y9
      have HP3 := Lib.hid (show PRow w1 g (L ++ (x :: (Y ++ R))) rest from Blk.below (show Blk wr.drew g _ _ from HP.out) hb1 (PRow.lt HP.out))
      have HG3 := Lib.hid (HG.out.drew.below hb1 (Nat.le_refl _))
      clear hb1
      by_cases hc : kc y x < 0
      · have qc : decide (kc y x < 0) = true := decide_eq_true hc
        have HTK := Lib.hid (take_lt HS.out HYO.out hc)
        clear hc
        go_wp2_with fail
        go_roundw
        case rel => exact ⟨hh + 1, nj, by go_num, rfl, by omega, by omega, h3, Lib.hid (by rw [show hh + 1 - m = hh - m + 1 by omega]; exact HTK.out), HD, HP3, HG3⟩
        case measure => simp [intOf]; omega
      · have qc : decide (kc y x < 0) = false := decide_eq_false hc
        have HTK := Lib.hid (drop_ge HS.out HYO.out hc)
        clear hc
        go_wp2_with fail
        go_roundw
        case rel => exact ⟨ni, hh, rfl, rfl, h1, hh1, by omega, HT, HTK, HP3, HG3⟩
        case measure => simp [intOf]; omega
    · obtain rfl : ni = nj := by omega
      obtain ⟨np, rfl⟩ : ∃ np, ni = np + 1 := ⟨ni - 1, by have := HF.out; omega⟩
      obtain ⟨Y1, hY1⟩ : ∃ Y1, Y.take (np + 1 - m) = Y1 := ⟨_, rfl⟩
      obtain ⟨Y2, hY2⟩ : ∃ Y2, Y.drop (np + 1 - m) = Y2 := ⟨_, rfl⟩
      have hYY : Y = Y1 ++ Y2 := by rw [← hY1, ← hY2, List.take_append_drop]
      have hl1 : np = a + Y1.length := by rw [← hY1, List.length_take]; have := HF.out; omega
      rw [hY1] at HT
      rw [hY2] at HD
      have HYY := Lib.hid hYY
      have HNP := Lib.hid hl1
      have HP0 : Hid (PRow wr g (L ++ (x :: (Y1 ++ (Y2 ++ R)))) rest) := Lib.hid (by have h := HP.out; rw [hYY, List.append_assoc] at h; exact h)
      have hwnp : IntKind.i64.wrap (np : Int) = (np : Int) := by rw [IntKind.wrap_i64]; omega
      clear hY1 hY2 hYY hl1
      go_wp2_with fail
      go_loopw [13] (fun k wr => UpA a L Y1 x (Y2 ++ R) g rest w k wr) (fun k _ => np + 1 - (intOf k).toNat)
      case atStart => exact ⟨a, 0, rfl, ha2, Lib.hid ⟨rfl, Nat.zero_le _⟩, HP0, HG⟩
      case round =>
        obtain ⟨kn, t, rfl, hkn, HK, HP2, HG2⟩ := hrel
        by_cases hk : kn < np
        · have hk2 : (kn : Int) < (np : Int) := by omega
          have hk3 : (kn : Int) + 1 < (np : Int) + 1 := by omega
          have htl : t < Y1.length := by have := HK.out; have := HNP.out; omega
          obtain ⟨y, hy⟩ : ∃ y, Y1[t] = y := ⟨_, rfl⟩
          have hde : Y1.drop t = y :: Y1.drop (t + 1) := by rw [← hy]; exact List.drop_eq_getElem_cons htl
          have htk : Y1.take (t + 1) = Y1.take t ++ [y] := by rw [List.take_succ_eq_append_getElem htl, hy]
          have hPE : L ++ (Y1.take t ++ x :: (Y1.drop t ++ (Y2 ++ R))) = (L ++ Y1.take t) ++ x :: y :: (Y1.drop (t + 1) ++ (Y2 ++ R)) := by rw [hde]; simp only [List.append_assoc, List.cons_append]
          have hLl : (L ++ Y1.take t).length = kn := by rw [List.length_append, List.length_take]; have := HK.out; have := HF.out; omega
          have HPr := HP2.out
          rw [hPE] at HPr
          have e1 : ((L ++ Y1.take t) ++ x :: y :: (Y1.drop (t + 1) ++ (Y2 ++ R)))[kn]? = some x := by rw [← hLl]; simp
          have e2 : ((L ++ Y1.take t) ++ x :: y :: (Y1.drop (t + 1) ++ (Y2 ++ R)))[kn + 1]? = some y := by rw [← hLl, List.getElem?_append_right (by omega), show (L ++ Y1.take t).length + 1 - (L ++ Y1.take t).length = 1 by omega]; rfl
          have HSET := set_two' (L ++ Y1.take t) (Y1.drop (t + 1) ++ (Y2 ++ R)) x y
          rw [hLl] at HSET
          have HNX : Hid ((L ++ Y1.take t) ++ y :: x :: (Y1.drop (t + 1) ++ (Y2 ++ R)) = L ++ (Y1.take (t + 1) ++ x :: (Y1.drop (t + 1) ++ (Y2 ++ R)))) := Lib.hid (by rw [htk]; simp only [List.append_assoc, List.cons_append, List.nil_append])
          obtain ⟨dj, hdj⟩ : ∃ dj, (L ++ Y1.take t) ++ x :: y :: (Y1.drop (t + 1) ++ (Y2 ++ R)) = dj := ⟨_, rfl⟩
          rw [hdj] at HPr e1 e2 HSET
          obtain ⟨hi1, e1⟩ := List.getElem?_eq_some_iff.1 e1
          obtain ⟨hi2, e2⟩ := List.getElem?_eq_some_iff.1 e2
          have HT1 := HPr.ten kn hi1
          have HT2 := HPr.ten (kn + 1) hi2
          rw [e1] at HT1
          rw [e2] at HT2
          obtain ⟨x0, x1, x2, x3, x4, x5, x6, x7, x8, x9⟩ := HT1
          obtain ⟨y0, y1, y2, y3, y4, y5, y6, y7, y8, y9⟩ := HT2
          have HRES := HPr.swap kn (kn + 1) hi1 hi2 y x
          rw [HSET, HNX.out] at HRES
          have HRES := Lib.hid HRES
          have hkN : (kn : Int) + 1 < (N : Int) := by have := HF.out; omega
          have hkN1 : (kn : Int) < (N : Int) := by omega
          have p0 : (0 : Int) ≤ (kn : Int) + 1 := by omega
          have htn : ((kn : Int) + 1).toNat = kn + 1 := by omega
          have hfz : ∀ i, wr.frozen? ⟨g, i, none⟩ = false := HPr.soft
          have hPQ : ∀ q r, q < 10 → r < 10 → ¬ kn * 10 + q = (kn + 1) * 10 + r := fun q r h1 h2 => by omega
          have hQP : ∀ q r, q < 10 → r < 10 → ¬ (kn + 1) * 10 + q = kn * 10 + r := fun q r h1 h2 => by omega
          have hPQ0 : ∀ r, r < 10 → ¬ kn * 10 = (kn + 1) * 10 + r := fun r h => by omega
          have hQP0 : ∀ r, r < 10 → ¬ (kn + 1) * 10 = kn * 10 + r := fun r h => by omega
          have hPQ1 : ∀ r, r < 10 → ¬ kn * 10 + r = (kn + 1) * 10 := fun r h => by omega
          have hQP1 : ∀ r, r < 10 → ¬ (kn + 1) * 10 + r = kn * 10 := fun r h => by omega
          have hPQ2 : ¬ kn * 10 = (kn + 1) * 10 := by omega
          have hQP2 : ¬ (kn + 1) * 10 = kn * 10 := by omega
          clear HPr hde htk hPE hLl HSET HNX hdj e1 e2 hi1 hi2 htl hy
          go_upto_region 11 with fail
          go_region
          clear hPQ hQP hPQ0 hQP0 hPQ1 hQP1 hPQ2 hQP2 x0 x1 x2 x3 x4 x5 x6 x7 x8 x9 y0 y1 y2 y3 y4 y5 y6 y7 y8 y9 hfz
          have HG4 := Lib.hid ((HG2.out.trans (st10_gr wr g (kn * 10) y)).trans (st10_gr _ g ((kn + 1) * 10) x))
          obtain ⟨W, hW⟩ : ∃ W, W = st10 (st10 wr g (kn * 10) y) g ((kn + 1) * 10) x := ⟨_, rfl⟩
          rw [← hW] at HRES HG4
          unfold st10 at hW
          rw [← hW]
          clear hW
          go_wp2_with fail
          go_roundw
          case rel => exact ⟨kn + 1, t + 1, by go_num, by omega, Lib.hid (by have := HK.out; have := HNP.out; omega), Lib.hid HRES.out, Lib.hid HG4.out.drew⟩
          case measure => simp [intOf]; omega
        · have hk2 : (np : Int) ≤ (kn : Int) := by omega
          have hk3 : ¬ (kn : Int) < (np : Int) := by omega
          have HFIN : Hid (PRow wr g (L ++ ((Y1 ++ x :: Y2) ++ R)) rest) := Lib.hid (by
            have ht : t = Y1.length := by have := HK.out; have := HNP.out; omega
            have h := HP2.out
            rw [ht, List.take_length, List.drop_length] at h
            simp only [List.append_assoc, List.cons_append, List.nil_append] at h ⊢
            exact h)
          have HZ : Hid ((Y1 ++ x :: Y2).Perm (x :: Y) ∧ (Y1 ++ x :: Y2).Pairwise kle) := Lib.hid (by
            rw [HYY.out]
            refine ⟨List.perm_middle, ?_⟩
            have h := HS.out
            rw [HYY.out, List.pairwise_append] at h
            rw [List.pairwise_append]
            refine ⟨h.1, List.pairwise_cons.2 ⟨fun s hs => HD.out s hs, h.2.1⟩, fun p hp q hq => ?_⟩
            rcases List.mem_cons.1 hq with rfl | hq
            · exact kc_lt (HT.out p hp)
            · exact h.2.2 p hp q hq)
          clear hk
          go_wp2_with fail
          first | go_end0 | refine bodyPost_ret (results_none rfl _ _ _) rfl ?_
          exact ⟨rfl, _, HZ.out.1, HZ.out.2, HFIN.out, HG2.out⟩
end Go.Proofs.YtcjamnfboifjeaaDoor

/-
  Two runs of pairs merged: a run ahead of one pair.
-/
namespace Go.Proofs.YtcjamnfboifjeaaDoor
open Go.RowKit
set_option linter.unusedVariables false
set_option linter.unusedSimpArgs false
set_option maxRecDepth 100000

theorem kc_of2 {x y z : PEnt} (h : kc x y < 0) (k : kle y z) : kc x z < 0 := (V.cmp_tri x.1.1 y.1.1 z.1.1).2.2.1 h k
theorem take_le {X : List PEnt} {x y : PEnt} {t : Nat} (hs : X.Pairwise kle) (hx : X[t]? = some x) (h : kle x y) : ∀ z ∈ X.take (t + 1), kle z y := by
  intro z hz
  obtain ⟨ht, hx⟩ := List.getElem?_eq_some_iff.1 hx
  rw [List.take_succ_eq_append_getElem ht, hx] at hz
  rcases List.mem_append.1 hz with hz | hz
  · have e : X = X.take t ++ X[t] :: X.drop (t + 1) := by rw [← List.drop_eq_getElem_cons ht, List.take_append_drop]
    rw [e, List.pairwise_append, hx] at hs
    exact kle_trans (hs.2.2 z hz x (by simp)) h
  · rw [List.mem_singleton] at hz; rw [hz]; exact h
theorem drop_gt {X : List PEnt} {x y : PEnt} {t : Nat} (hs : X.Pairwise kle) (hx : X[t]? = some x) (h : kc y x < 0) : ∀ z ∈ X.drop t, kc y z < 0 := by
  intro z hz
  obtain ⟨ht, hx⟩ := List.getElem?_eq_some_iff.1 hx
  rw [List.drop_eq_getElem_cons ht, hx] at hz
  rcases List.mem_cons.1 hz with rfl | hz
  · exact h
  · have e : X = X.take t ++ X[t] :: X.drop (t + 1) := by rw [← List.drop_eq_getElem_cons ht, List.take_append_drop]
    rw [e, List.pairwise_append, hx] at hs
    exact kc_of2 h ((List.pairwise_cons.1 hs.2.1).1 z hz)
/-- The search's state. -/
def SeB (a m : Nat) (y : PEnt) (X : List PEnt) (g : Nat) (d : List PEnt) (rest : List Value) (w : World) (i j h : Value) (wr : World) : Prop :=
  ∃ (ni nj : Nat), i = .int .i64 (ni : Int) ∧ j = .int .i64 (nj : Int) ∧ a ≤ ni ∧ ni ≤ nj ∧ nj ≤ m ∧ Hid (∀ z ∈ X.take (ni - a), kle z y) ∧ Hid (∀ z ∈ X.drop (nj - a), kc y z < 0) ∧ Hid (PRow wr g d rest) ∧ Hid (Gr g w wr)
/-- The pair on its way down. -/
def DnB (i : Nat) (L X1 X2 : List PEnt) (y : PEnt) (R : List PEnt) (g : Nat) (rest : List Value) (w : World) (k : Value) (wr : World) : Prop :=
  ∃ (kn t : Nat), k = .int .i64 (kn : Int) ∧ kn ≤ 100000 ∧ Hid (kn = i + t ∧ t ≤ X2.length) ∧ Hid (PRow wr g (L ++ (X1 ++ (X2.take t ++ y :: (X2.drop t ++ R)))) rest) ∧ Hid (Gr g w wr)
set_option maxHeartbeats 4000000 in
theorem symB (g c : Nat) (L X : List PEnt) (y : PEnt) (R : List PEnt) (rest : List Value) (w : World) (a m b N : Nat) (hr : PRow w g (L ++ (X ++ y :: R)) rest) (hy : leafP y) (hX : ∀ x ∈ X, leafP x) (hs : X.Pairwise kle) (ha : a = L.length) (hm : m = L.length + X.length) (hb : b = L.length + X.length + 1) (hN : N = L.length + X.length + 1 + R.length) (hd : N ≤ 100000) (h2 : 2 ≤ X.length) :
    Calls Tryd.prog 105 #[.slice (some ⟨g, 0, none⟩) N c, .int .i64 (a : Int), .int .i64 (m : Int), .int .i64 (b : Int), .func (Fn.func 76) #[] #[]] w fun e w' => e = .returned (.tuple #[]) ∧ ∃ Z, Z.Perm (X ++ [y]) ∧ Z.Pairwise kle ∧ PRow w' g (L ++ (Z ++ R)) rest ∧ Gr g w w' := by
  have HR := Lib.hid hr
  have HY := Lib.hid hy
  have HX := Lib.hid hX
  have HS := Lib.hid hs
  have ha2 : a ≤ 100000 := by omega
  have hm2 : m ≤ 100000 := by omega
  have hb2 : b ≤ 100000 := by omega
  have ham : a ≤ m := by omega
  have hma : ((m : Int) - (a : Int) == 1) = false := by rw [beq_eq_false_iff_ne]; omega
  have hma2 : ¬ (m : Int) - (a : Int) = 1 := by omega
  have hbm : (b : Int) - (m : Int) = 1 := by omega
  have hmN : (m : Int) < (N : Int) := by omega
  have HF := Lib.hid (And.intro ha (And.intro hm (And.intro hb hN)))
  have hE := keyEnters
  clear hr hy hX hs ha hm hb hN h2
  go_enter Tryd.func105, Tryd.ntmps105
  go_wp2_with fail
  go_loopw [14, 15, 16] (fun i j h wr => SeB a m y X g (L ++ (X ++ y :: R)) rest w i j h wr) (fun i j _ _ => (intOf j).toNat - (intOf i).toNat)
  case atStart => exact ⟨a, m, rfl, rfl, Nat.le_refl _, ham, Nat.le_refl _, Lib.hid (by rw [Nat.sub_self]; intro z hz; cases hz), Lib.hid (by rw [show m - a = X.length by have := HF.out; omega, List.drop_length]; intro z hz; cases hz), HR, Lib.hid (Gr.refl _ _)⟩
  case round =>
    obtain ⟨ni, nj, rfl, rfl, h1, h2, h3, HT, HD, HP, HG⟩ := hrel
    by_cases hlt : ni < nj
    · have hlt2 : (ni : Int) < (nj : Int) := by omega
      obtain ⟨hh, hhd⟩ : ∃ hh : Nat, ((ni : Int) + (nj : Int)) / 2 = (hh : Int) := ⟨(ni + nj) / 2, by omega⟩
      have hh1 : ni ≤ hh := by omega
      have hh2 : hh < nj := by omega
      have hmid : hh = L.length + (hh - a) := by have := HF.out; omega
      have htl : hh - a < X.length := by have := HF.out; omega
      obtain ⟨x, hx⟩ : ∃ x, X[hh - a] = x := ⟨_, rfl⟩
      have hxo : X[hh - a]? = some x := by rw [List.getElem?_eq_getElem htl, hx]
      have e1 : (L ++ (X ++ y :: R))[hh]? = some x := by rw [hmid, List.getElem?_append_right (by omega), Nat.add_sub_cancel_left, List.getElem?_append_left htl]; exact hxo
      have e2 : (L ++ (X ++ y :: R))[m]? = some y := by
        rw [HF.out.2.1, List.getElem?_append_right (by omega), Nat.add_sub_cancel_left]
        simp
      have hlx : leafP x := HX.out x (by rw [← hx]; exact List.getElem_mem htl)
      obtain ⟨hi1, e1⟩ := List.getElem?_eq_some_iff.1 e1
      obtain ⟨hi2, e2⟩ := List.getElem?_eq_some_iff.1 e2
      have HT1 := HP.out.ten hh hi1
      have HT2 := HP.out.ten m hi2
      rw [e1] at HT1
      rw [e2] at HT2
      obtain ⟨x0, x1, x2, x3, x4, x5, x6, x7, x8, x9⟩ := HT1
      obtain ⟨y0, y1, y2, y3, y4, y5, y6, y7, y8, y9⟩ := HT2
      have hhN : (hh : Int) < (N : Int) := by omega
      have HLX := Lib.hid hlx
      have HXO := Lib.hid hxo
      clear hmid htl hx hxo hlx e1 e2 hi1 hi2
      go_upto_region 17 with fail
      try rw [hhd]
      clear hhd
      go_still_tail 9, (by kernel_rfl)
      change wpList _ _ _ _ _ wr.drew
      go_wp2_with fail
      refine (keyCmp y x HY.out HLX.out wr.drew).mono ?_
      rintro e w1 ⟨rfl, hb1⟩
      clear x0 x1 x2 x3 x4 x5 x6 x7 x8 x9 y0 y1 y2 y3 y4 y5 y6 y7 y8 y9
      have HP3 := Lib.hid (show PRow w1 g (L ++ (X ++ y :: R)) rest from Blk.below (show Blk wr.drew g _ _ from HP.out) hb1 (PRow.lt HP.out))
      have HG3 := Lib.hid (HG.out.drew.below hb1 (Nat.le_refl _))
      clear hb1
      by_cases hc : kc y x < 0
      · have qc : decide (kc y x < 0) = true := decide_eq_true hc
        have HTK := Lib.hid (drop_gt HS.out HXO.out hc)
        clear hc
        go_wp2_with fail
        go_roundw
        case rel => exact ⟨ni, hh, rfl, rfl, h1, hh1, by omega, HT, HTK, HP3, HG3⟩
        case measure => simp [intOf]; omega
      · have qc : decide (kc y x < 0) = false := decide_eq_false hc
        have HTK := Lib.hid (take_le HS.out HXO.out (kc_le hc))
        clear hc
        go_wp2_with fail
        go_roundw
        case rel => exact ⟨hh + 1, nj, by go_num, rfl, by omega, by omega, h3, Lib.hid (by rw [show hh + 1 - a = hh - a + 1 by omega]; exact HTK.out), HD, HP3, HG3⟩
        case measure => simp [intOf]; omega
    · obtain rfl : ni = nj := by omega
      obtain ⟨X1, hX1⟩ : ∃ X1, X.take (ni - a) = X1 := ⟨_, rfl⟩
      obtain ⟨X2, hX2⟩ : ∃ X2, X.drop (ni - a) = X2 := ⟨_, rfl⟩
      have hXX : X = X1 ++ X2 := by rw [← hX1, ← hX2, List.take_append_drop]
      have hl1 : ni = a + X1.length := by rw [← hX1, List.length_take]; have := HF.out; omega
      have hl2 : m = ni + X2.length := by rw [← hX2, List.length_drop]; have := HF.out; omega
      rw [hX1] at HT
      rw [hX2] at HD
      have HXX := Lib.hid hXX
      have HNI := Lib.hid (And.intro hl1 hl2)
      have HP0 : Hid (PRow wr g (L ++ (X1 ++ (X2 ++ y :: R))) rest) := Lib.hid (by have h := HP.out; rw [hXX, List.append_assoc] at h; exact h)
      clear hX1 hX2 hXX hl1 hl2
      go_wp2_with fail
      go_loopw [17] (fun k wr => DnB ni L X1 X2 y R g rest w k wr) (fun k _ => (intOf k).toNat)
      case atStart => exact ⟨m, X2.length, rfl, hm2, Lib.hid ⟨HNI.out.2, Nat.le_refl _⟩, Lib.hid (by rw [List.take_length, List.drop_length]; exact HP0.out), HG⟩
      case round =>
        obtain ⟨kn, t, rfl, hkn, HK, HP2, HG2⟩ := hrel
        by_cases hk : ni < kn
        · have hk2 : (ni : Int) < (kn : Int) := by omega
          obtain ⟨kp, rfl⟩ : ∃ kp, kn = kp + 1 := ⟨kn - 1, by omega⟩
          have hk4 : (ni : Int) < (kp : Int) + 1 := by omega
          have hk5 : ni ≤ kp := by omega
          have hk6 : (ni : Int) ≤ (kp : Int) := by omega
          clear hk2
          obtain ⟨tp, htp⟩ : ∃ tp, t = tp + 1 := ⟨t - 1, by have := HK.out; omega⟩
          have htl : tp < X2.length := by have := HK.out; omega
          obtain ⟨s, hs⟩ : ∃ s, X2[tp] = s := ⟨_, rfl⟩
          have hde : X2.drop tp = s :: X2.drop (tp + 1) := by rw [← hs]; exact List.drop_eq_getElem_cons htl
          have htk : X2.take (tp + 1) = X2.take tp ++ [s] := by rw [List.take_succ_eq_append_getElem htl, hs]
          have hPE : L ++ (X1 ++ (X2.take t ++ y :: (X2.drop t ++ R))) = (L ++ (X1 ++ X2.take tp)) ++ s :: y :: (X2.drop (tp + 1) ++ R) := by rw [htp, htk]; simp only [List.append_assoc, List.cons_append, List.nil_append]
          have hLl : (L ++ (X1 ++ X2.take tp)).length = kp := by rw [List.length_append, List.length_append, List.length_take]; have := HK.out; have := HF.out; have := HNI.out; omega
          have HPr := HP2.out
          rw [hPE] at HPr
          have e1 : ((L ++ (X1 ++ X2.take tp)) ++ s :: y :: (X2.drop (tp + 1) ++ R))[kp]? = some s := by rw [← hLl]; simp
          have e2 : ((L ++ (X1 ++ X2.take tp)) ++ s :: y :: (X2.drop (tp + 1) ++ R))[kp + 1]? = some y := by rw [← hLl, List.getElem?_append_right (by omega), show (L ++ (X1 ++ X2.take tp)).length + 1 - (L ++ (X1 ++ X2.take tp)).length = 1 by omega]; rfl
          have HSET := set_two (L ++ (X1 ++ X2.take tp)) (X2.drop (tp + 1) ++ R) s y
          rw [hLl] at HSET
          have HNX : Hid ((L ++ (X1 ++ X2.take tp)) ++ y :: s :: (X2.drop (tp + 1) ++ R) = L ++ (X1 ++ (X2.take tp ++ y :: (X2.drop tp ++ R)))) := Lib.hid (by rw [hde]; simp only [List.append_assoc, List.cons_append])
          obtain ⟨dj, hdj⟩ : ∃ dj, (L ++ (X1 ++ X2.take tp)) ++ s :: y :: (X2.drop (tp + 1) ++ R) = dj := ⟨_, rfl⟩
          rw [hdj] at HPr e1 e2 HSET
          obtain ⟨hi1, e1⟩ := List.getElem?_eq_some_iff.1 e1
          obtain ⟨hi2, e2⟩ := List.getElem?_eq_some_iff.1 e2
          have HT1 := HPr.ten kp hi1
          have HT2 := HPr.ten (kp + 1) hi2
          rw [e1] at HT1
          rw [e2] at HT2
          obtain ⟨x0, x1, x2, x3, x4, x5, x6, x7, x8, x9⟩ := HT1
          obtain ⟨y0, y1, y2, y3, y4, y5, y6, y7, y8, y9⟩ := HT2
          have HRES := HPr.swap (kp + 1) kp hi2 hi1 s y
          rw [HSET, HNX.out] at HRES
          have HRES := Lib.hid HRES
          have hkN : (kp : Int) + 1 < (N : Int) := by have := HF.out; have := HNI.out; have := HK.out; omega
          have hkN1 : (kp : Int) < (N : Int) := by omega
          have p0 : (0 : Int) ≤ (kp : Int) + 1 := by omega
          have htn : ((kp : Int) + 1).toNat = kp + 1 := by omega
          have hwp : IntKind.i64.wrap (kp : Int) = (kp : Int) := by rw [IntKind.wrap_i64]; omega
          have hfz : ∀ i, wr.frozen? ⟨g, i, none⟩ = false := HPr.soft
          have hPQ : ∀ q r, q < 10 → r < 10 → ¬ kp * 10 + q = (kp + 1) * 10 + r := fun q r h1 h2 => by omega
          have hQP : ∀ q r, q < 10 → r < 10 → ¬ (kp + 1) * 10 + q = kp * 10 + r := fun q r h1 h2 => by omega
          have hPQ0 : ∀ r, r < 10 → ¬ kp * 10 = (kp + 1) * 10 + r := fun r h => by omega
          have hQP0 : ∀ r, r < 10 → ¬ (kp + 1) * 10 = kp * 10 + r := fun r h => by omega
          have hPQ1 : ∀ r, r < 10 → ¬ kp * 10 + r = (kp + 1) * 10 := fun r h => by omega
          have hQP1 : ∀ r, r < 10 → ¬ (kp + 1) * 10 + r = kp * 10 := fun r h => by omega
          have hPQ2 : ¬ kp * 10 = (kp + 1) * 10 := by omega
          have hQP2 : ¬ (kp + 1) * 10 = kp * 10 := by omega
          have HTP := Lib.hid htp
          clear HPr hde htk hPE hLl HSET HNX hdj e1 e2 hi1 hi2 htl hs htp
          go_upto_region 23 with fail
          go_region
          clear hPQ hQP hPQ0 hQP0 hPQ1 hQP1 hPQ2 hQP2 x0 x1 x2 x3 x4 x5 x6 x7 x8 x9 y0 y1 y2 y3 y4 y5 y6 y7 y8 y9 hfz
          have HG4 := Lib.hid ((HG2.out.trans (st10_gr wr g ((kp + 1) * 10) s)).trans (st10_gr _ g (kp * 10) y))
          obtain ⟨W, hW⟩ : ∃ W, W = st10 (st10 wr g ((kp + 1) * 10) s) g (kp * 10) y := ⟨_, rfl⟩
          rw [← hW] at HRES HG4
          unfold st10 at hW
          rw [← hW]
          clear hW
          go_wp2_with fail
          go_roundw
          case rel => exact ⟨kp, tp, by go_num, by omega, Lib.hid (by have := HK.out; have := HTP.out; omega), Lib.hid HRES.out, Lib.hid HG4.out.drew⟩
          case measure => simp [intOf]; try omega
        · have hk2 : (kn : Int) ≤ (ni : Int) := by omega
          have hk3 : ¬ (ni : Int) < (kn : Int) := by omega
          have HFIN : Hid (PRow wr g (L ++ ((X1 ++ y :: X2) ++ R)) rest) := Lib.hid (by
            have ht : t = 0 := by have := HK.out; omega
            have h := HP2.out
            rw [ht, List.take_zero, List.drop_zero] at h
            simp only [List.append_assoc, List.cons_append, List.nil_append] at h ⊢
            exact h)
          have HZ : Hid ((X1 ++ y :: X2).Perm (X ++ [y]) ∧ (X1 ++ y :: X2).Pairwise kle) := Lib.hid (by
            rw [HXX.out]
            refine ⟨?_, ?_⟩
            · refine List.Perm.trans List.perm_middle ?_
              exact (List.perm_append_singleton y (X1 ++ X2)).symm
            · have h := HS.out
              rw [HXX.out] at h
              exact ins_sorted h HD.out HT.out)
          clear hk
          go_wp2_with fail
          first | go_end0 | refine bodyPost_ret (results_none rfl _ _ _) rfl ?_
          exact ⟨rfl, _, HZ.out.1, HZ.out.2, HFIN.out, HG2.out⟩
end Go.Proofs.YtcjamnfboifjeaaDoor
