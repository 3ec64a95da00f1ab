/-
  GetSign, plainly: the first byte's say, the bytes behind it, and the model's own decoder.
-/
import Derived.Test.YtlgonfdodmipeaaDoorEnc
import Derived.Test.YtlgonfdodmipeaaDoorPiece
import Derived.Lib.DecodeN
namespace Go.Proofs.YtlgonfdodmipeaaDoor
open Go.RowKit
set_option linter.unusedVariables false

/-- The bytes of a sign, as numbers. -/
def encN (n : Nat) : List Nat :=
  if n < 128 then [n] else if n < 2048 then [192 + n / 64, 128 + n % 64] else if n < 65536 then [224 + n / 4096, 128 + n / 64 % 64, 128 + n % 64]
  else [240 + n / 262144, 128 + n / 4096 % 64, 128 + n / 64 % 64, 128 + n % 64]
/-- The bytes of PutSign's answer, as numbers. -/
def sgN (n : Nat) : List Nat := if n < 55296 ∨ (57343 < n ∧ n < 1114112) then encN n else []
theorem sgN_eq (n : Nat) : (signB (n : Int)).data.toList.map UInt8.toNat = sgN n := by
  unfold signB sgN
  by_cases h : n < 55296 ∨ (57343 < n ∧ n < 1114112)
  · have hv := valid_of n h
    rw [if_pos h, if_pos (by unfold isSg; simp; omega)]
    unfold Utf8.encode encN
    simp only [hv, if_true, Int.toNat_natCast]
    by_cases h1 : n < 128
    · rw [if_pos h1, if_pos h1]; simp; omega
    · rw [if_neg h1, if_neg h1]
      by_cases h2 : n < 2048
      · rw [if_pos h2, if_pos h2]; simp; omega
      · rw [if_neg h2, if_neg h2]
        by_cases h3 : n < 65536
        · rw [if_pos h3, if_pos h3]; simp; omega
        · rw [if_neg h3, if_neg h3]; simp; omega
  · rw [if_neg h, if_neg (by unfold isSg; simp; omega)]
    rfl
theorem get_get! (s : ByteArray) (i : Nat) (h : i < s.size) : s[i] = s.get! i := by
  cases s with
  | mk d => exact (getElem!_pos d i h).symm
/-- A piece's bytes, as numbers. -/
def pcN (s : ByteArray) (i m : Nat) : List Nat := (List.range m).map fun k => (s.get! (i + k)).toNat
theorem pcN_eq (s : ByteArray) (i : Nat) : ∀ m, i + m ≤ s.size → (piece s i m).map UInt8.toNat = pcN s i m
  | 0, _ => by simp [piece, pcN]
  | m + 1, h => by
    rw [piece_succ s i m (by omega), List.map_append, pcN_eq s i m (by omega), get_get! _ _ (by omega)]
    simp [pcN, List.range_succ]
theorem extract_piece (s : ByteArray) (i m : Nat) : (s.extract i (i + m)).data.toList = piece s i m := by
  unfold piece
  simp [ByteArray.data_extract]
theorem ba_ext {a b : ByteArray} (h : a.data.toList = b.data.toList) : a = b := by
  cases a; cases b; congr 1; exact Array.toList_inj.1 h
theorem map_toNat_inj {a b : List UInt8} (h : a.map UInt8.toNat = b.map UInt8.toNat) : a = b :=
  (List.map_inj_right (fun x y h => UInt8.toNat_inj.1 h)).1 h
theorem sg_cmp (s : ByteArray) (i m n : Nat) (h : i + m ≤ s.size) : signB (n : Int) = s.extract i (i + m) ↔ sgN n = pcN s i m := by
  rw [← sgN_eq, ← pcN_eq s i m h, ← extract_piece]
  constructor
  · intro h; rw [h]
  · intro h; exact ba_ext (map_toNat_inj h)

/-- GetSign reads a sign at a place. -/
def gsOk (s : ByteArray) (i : Int) : Prop := 0 ≤ i ∧ i < s.size ∧ ¬ ((Utf8.decode s i.toNat).1 = 65533 ∧ (Utf8.decode s i.toNat).2 < 3)
instance (s : ByteArray) (i : Int) : Decidable (gsOk s i) := by unfold gsOk; infer_instance
/-- What GetSign hands back. -/
def gsN (s : ByteArray) (i : Int) : Int := if gsOk s i then (Utf8.decode s i.toNat).1 else -1
def gsE (s : ByteArray) (i : Int) : Int := if gsOk s i then i + (Utf8.decode s i.toNat).2 else -1

/-- How many bytes the first one says that there are, and what it holds. -/
def manyN (b : Nat) : Nat := if b < 128 then 1 else if 192 ≤ b ∧ b ≤ 223 then 2 else if 224 ≤ b ∧ b ≤ 239 then 3 else if 240 ≤ b ∧ b ≤ 247 then 4 else 0
def headN (b : Nat) : Nat := if b < 128 then b else if 192 ≤ b ∧ b ≤ 223 then b % 32 else if 224 ≤ b ∧ b ≤ 239 then b % 16 else if 240 ≤ b ∧ b ≤ 247 then b % 8 else 0
/-- What has been read behind k more bytes. -/
def accN (s : ByteArray) (i : Nat) : Nat → Nat
  | 0 => headN (s.get! i).toNat
  | k + 1 => accN s i k * 64 + (s.get! (i + (k + 1))).toNat % 64
theorem manyN_le (b : Nat) : manyN b ≤ 4 := by unfold manyN; repeat' split
                                               all_goals omega
theorem headN_lt (b : Nat) : headN b < 128 := by unfold headN; repeat' split
                                                 all_goals omega
theorem accN_lt (s : ByteArray) (i : Nat) : ∀ k, k ≤ 3 → accN s i k < 33554432 := by
  have h0 := headN_lt (s.get! i).toNat
  intro k hk
  rcases (show k = 0 ∨ k = 1 ∨ k = 2 ∨ k = 3 by omega) with rfl | rfl | rfl | rfl <;> simp only [accN] <;> omega

set_option maxRecDepth 100000 in
set_option maxHeartbeats 4000000 in
theorem sgn_none (s : ByteArray) (i : Nat) (h : manyN (s.get! i).toNat = 0 ∨ s.size < i + manyN (s.get! i).toNat) : ¬ gsOk s (i : Int) := by
  unfold gsOk
  rintro ⟨_, h2, h3⟩
  apply h3
  rw [Int.toNat_natCast, Lib.decode_at]
  have b0 := (s.get! i).toNat_lt
  revert h
  generalize (s.get! i).toNat = b0 at *
  generalize (s.get! (i + 1)).toNat = b1 at *
  generalize (s.get! (i + 2)).toNat = b2 at *
  generalize (s.get! (i + 3)).toNat = b3 at *
  intro h
  unfold manyN at h
  unfold Lib.decodeN
  repeat' split
  all_goals first | (exact ⟨rfl, by omega⟩) | (exfalso; revert h; repeat' split
                                               all_goals omega)
set_option maxRecDepth 100000 in
set_option maxHeartbeats 4000000 in
theorem sgn_pure (z b0 b1 b2 b3 m : Nat) (hb0 : b0 < 256) (hb1 : b1 < 256) (hb2 : b2 < 256) (hb3 : b3 < 256) (hm : m = manyN b0) (h0 : 0 < m) (hz : m ≤ z) (N : Nat) (L : List Nat)
    (hN : (m = 1 ∧ N = headN b0 ∧ L = [b0]) ∨ (m = 2 ∧ N = headN b0 * 64 + b1 % 64 ∧ L = [b0, b1]) ∨ (m = 3 ∧ N = (headN b0 * 64 + b1 % 64) * 64 + b2 % 64 ∧ L = [b0, b1, b2]) ∨
      (m = 4 ∧ N = ((headN b0 * 64 + b1 % 64) * 64 + b2 % 64) * 64 + b3 % 64 ∧ L = [b0, b1, b2, b3])) :
    (¬ ((Lib.decodeN z b0 b1 b2 b3).1 = 65533 ∧ (Lib.decodeN z b0 b1 b2 b3).2 < 3) ↔ sgN N = L) ∧ (¬ ((Lib.decodeN z b0 b1 b2 b3).1 = 65533 ∧ (Lib.decodeN z b0 b1 b2 b3).2 < 3) → Lib.decodeN z b0 b1 b2 b3 = (N, m)) := by
  have hc : (b0 < 128 ∧ m = 1 ∧ headN b0 = b0) ∨ ((192 ≤ b0 ∧ b0 ≤ 223) ∧ m = 2 ∧ headN b0 = b0 % 32) ∨ ((224 ≤ b0 ∧ b0 ≤ 239) ∧ m = 3 ∧ headN b0 = b0 % 16) ∨ ((240 ≤ b0 ∧ b0 ≤ 247) ∧ m = 4 ∧ headN b0 = b0 % 8) := by
    subst hm
    revert h0
    unfold manyN headN
    repeat' split
    all_goals omega
  clear hm
  rcases hc with ⟨hb, rfl, hh⟩ | ⟨hb, rfl, hh⟩ | ⟨hb, rfl, hh⟩ | ⟨hb, rfl, hh⟩
  · obtain ⟨rfl, rfl⟩ : N = b0 ∧ L = [b0] := by
      rcases hN with ⟨h, h1, h2⟩ | ⟨h, _⟩ | ⟨h, _⟩ | ⟨h, _⟩
      · exact ⟨h1.trans hh, h2⟩
      all_goals omega
    rw [Lib.decodeN, if_pos hb]
    unfold sgN encN
    rw [if_pos (by omega), if_pos hb]
    simp
    omega
  · obtain ⟨hNN, rfl⟩ : N = b0 % 32 * 64 + b1 % 64 ∧ L = [b0, b1] := by
      rcases hN with ⟨h, _⟩ | ⟨h, h1, h2⟩ | ⟨h, _⟩ | ⟨h, _⟩
      · omega
      · exact ⟨by rw [h1, hh], h2⟩
      all_goals omega
    have hNl : N < 2048 := by omega
    unfold sgN encN
    rw [if_pos (by omega)]
    by_cases h1 : b1 / 64 = 2
    · by_cases h2 : 128 ≤ N
      · rw [Lib.decodeN, if_neg (by omega), if_pos (by omega), ← hNN, if_pos h2, if_neg (by omega), if_pos hNl]
        simp
        omega
      · rw [Lib.decodeN, if_neg (by omega), if_pos (by omega), ← hNN, if_neg h2, if_pos (by omega)]
        simp
    · rw [Lib.decodeN, if_neg (by omega), if_neg (by omega), if_neg (by omega), if_neg (by omega)]
      by_cases h2 : 128 ≤ N
      · rw [if_neg (by omega), if_pos hNl]
        simp
        omega
      · rw [if_pos (by omega)]
        simp
  · obtain ⟨hNN, rfl⟩ : N = b0 % 16 * 4096 + b1 % 64 * 64 + b2 % 64 ∧ L = [b0, b1, b2] := by
      rcases hN with ⟨h, _⟩ | ⟨h, _⟩ | ⟨h, h1, h2⟩ | ⟨h, _⟩
      · omega
      · omega
      · exact ⟨by rw [h1, hh]; omega, h2⟩
      · omega
    have hNl : N < 65536 := by omega
    by_cases h1 : b1 / 64 = 2 ∧ b2 / 64 = 2
    · by_cases h2 : 2048 ≤ N ∧ (N < 55296 ∨ (57344 ≤ N ∧ N ≤ 1114111))
      · rw [Lib.decodeN, if_neg (by omega), if_neg (by omega), if_pos (by omega), ← hNN, if_pos h2]
        unfold sgN encN
        rw [if_pos (by omega), if_neg (by omega), if_neg (by omega), if_pos hNl]
        simp
        omega
      · rw [Lib.decodeN, if_neg (by omega), if_neg (by omega), if_pos (by omega), ← hNN, if_neg h2]
        unfold sgN encN
        by_cases h3 : N < 55296 ∨ (57343 < N ∧ N < 1114112)
        · rw [if_pos h3]
          by_cases h4 : N < 128
          · rw [if_pos h4]; simp
          · rw [if_neg h4, if_pos (by omega)]; simp
        · rw [if_neg h3]; simp
    · rw [Lib.decodeN, if_neg (by omega), if_neg (by omega), if_neg (by omega), if_neg (by omega)]
      unfold sgN encN
      by_cases h3 : N < 55296 ∨ (57343 < N ∧ N < 1114112)
      · rw [if_pos h3]
        by_cases h4 : N < 128
        · rw [if_pos h4]; simp
        · rw [if_neg h4]
          by_cases h5 : N < 2048
          · rw [if_pos h5]; simp
          · rw [if_neg h5, if_pos hNl]; simp; omega
      · rw [if_neg h3]; simp
  · obtain ⟨hNN, rfl⟩ : N = b0 % 8 * 262144 + b1 % 64 * 4096 + b2 % 64 * 64 + b3 % 64 ∧ L = [b0, b1, b2, b3] := by
      rcases hN with ⟨h, _⟩ | ⟨h, _⟩ | ⟨h, _⟩ | ⟨h, h1, h2⟩
      · omega
      · omega
      · omega
      · exact ⟨by rw [h1, hh]; omega, h2⟩
    by_cases h1 : b1 / 64 = 2 ∧ b2 / 64 = 2 ∧ b3 / 64 = 2
    · by_cases h2 : 65536 ≤ N ∧ (N < 55296 ∨ (57344 ≤ N ∧ N ≤ 1114111))
      · rw [Lib.decodeN, if_neg (by omega), if_neg (by omega), if_neg (by omega), if_pos (by omega), ← hNN, if_pos h2]
        unfold sgN encN
        rw [if_pos (by omega), if_neg (by omega), if_neg (by omega), if_neg (by omega)]
        simp
        omega
      · rw [Lib.decodeN, if_neg (by omega), if_neg (by omega), if_neg (by omega), if_pos (by omega), ← hNN, if_neg h2]
        unfold sgN encN
        by_cases h3 : N < 55296 ∨ (57343 < N ∧ N < 1114112)
        · rw [if_pos h3]
          by_cases h4 : N < 128
          · rw [if_pos h4]; simp
          · rw [if_neg h4]
            by_cases h5 : N < 2048
            · rw [if_pos h5]; simp
            · rw [if_neg h5, if_pos (by omega)]; simp
        · rw [if_neg h3]; simp
    · rw [Lib.decodeN, if_neg (by omega), if_neg (by omega), if_neg (by omega), if_neg (by omega)]
      unfold sgN encN
      by_cases h3 : N < 55296 ∨ (57343 < N ∧ N < 1114112)
      · rw [if_pos h3]
        by_cases h4 : N < 128
        · rw [if_pos h4]; simp
        · rw [if_neg h4]
          by_cases h5 : N < 2048
          · rw [if_pos h5]; simp
          · rw [if_neg h5]
            by_cases h6 : N < 65536
            · rw [if_pos h6]; simp
            · rw [if_neg h6]; simp; omega
      · rw [if_neg h3]; simp
theorem sgn_some (s : ByteArray) (i m : Nat) (hm : m = manyN (s.get! i).toNat) (h0 : 0 < m) (hle : i + m ≤ s.size) :
    (gsOk s (i : Int) ↔ sgN (accN s i (m - 1)) = pcN s i m) ∧ (gsOk s (i : Int) → Utf8.decode s i = (accN s i (m - 1), m)) := by
  have hi : (0 : Int) ≤ i ∧ (i : Int) < s.size := by omega
  unfold gsOk
  rw [Int.toNat_natCast, Lib.decode_at]
  simp only [hi, true_and]
  have h4 := manyN_le (s.get! i).toNat
  refine sgn_pure (s.size - i) _ _ _ _ m ((s.get! i).toNat_lt) ((s.get! _).toNat_lt) ((s.get! _).toNat_lt) ((s.get! _).toNat_lt) hm h0 (by omega) _ _ ?_
  rcases (show m = 1 ∨ m = 2 ∨ m = 3 ∨ m = 4 by omega) with rfl | rfl | rfl | rfl
  · exact .inl ⟨rfl, rfl, by simp [pcN, List.range_succ]⟩
  · exact .inr (.inl ⟨rfl, rfl, by simp [pcN, List.range_succ]⟩)
  · exact .inr (.inr (.inl ⟨rfl, rfl, by simp [pcN, List.range_succ]⟩))
  · exact .inr (.inr (.inr ⟨rfl, rfl, by simp [pcN, List.range_succ]⟩))
end Go.Proofs.YtlgonfdodmipeaaDoor
