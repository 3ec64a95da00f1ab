/-
  GetHead, plainly: a head is read, and it is the head that PutHead writes.
-/
import Derived.Test.YtmfogabkpeoagaaPutHead
namespace Go.Proofs.Ytmfogabkpeoagaa
open Go.RowKit
set_option linter.unusedVariables false

theorem byteOf_succ (n k : Nat) : byteOf (n : Int) (k + 1) = byteOf ((n / 256 : Nat) : Int) k := by
  unfold byteOf
  have e1 : ((n : Int) / (256 : Int) ^ (k + 1)) = ((n / 256 ^ (k + 1) : Nat) : Int) := by simp
  have e2 : (((n / 256 : Nat) : Int) / (256 : Int) ^ k) = ((n / 256 / 256 ^ k : Nat) : Int) := by simp
  rw [e1, e2, Nat.div_div_eq_div_mul, Nat.pow_succ, Nat.mul_comm]
theorem wide_snoc (n : Nat) : ∀ m, wide (n : Int) (m + 1) = wide ((n / 256 : Nat) : Int) m ++ [byteOf (n : Int) 0]
  | 0 => by rw [wide_succ]; simp [wide]
  | m + 1 => by rw [wide_succ, wide_snoc n m, wide_succ, byteOf_succ]; rfl
theorem wide_big : ∀ l : List UInt8, wide ((big l : Nat) : Int) l.length = l := by
  intro l
  have key : ∀ r : List UInt8, wide ((big r.reverse : Nat) : Int) r.length = r.reverse := by
    intro r
    induction r with
    | nil => simp [wide]
    | cons b r ih =>
      have hb := UInt8.toNat_lt b
      rw [List.reverse_cons, big_snoc, List.length_cons, wide_snoc]
      have e1 : (256 * big r.reverse + b.toNat) / 256 = big r.reverse := by omega
      rw [e1, ih]
      congr 2
      unfold byteOf
      apply UInt8.toNat_inj.1
      rw [UInt8.toNat_ofNat']
      simp
      omega
  have := key l.reverse
  rwa [List.reverse_reverse, List.length_reverse] at this

/-- How many bytes follow the first one. -/
def ahM (b : Nat) : Nat := if b % 32 < 24 then 0 else 2 ^ (b % 32 - 24)
/-- A head may be read at a place. -/
def ahOk (s : ByteArray) (i : Int) : Prop := 0 ≤ i ∧ i < s.size ∧ (s.get! i.toNat).toNat % 32 ≤ 27 ∧ i + 1 + ahM (s.get! i.toNat).toNat ≤ s.size
instance (s : ByteArray) (i : Int) : Decidable (ahOk s i) := by unfold ahOk; infer_instance
def ahN (s : ByteArray) (i : Nat) : Nat := if (s.get! i).toNat % 32 < 24 then (s.get! i).toNat % 32 else big (piece s (i + 1) (ahM (s.get! i).toNat))
/-- What l05Any and anyHead hand back. -/
def ahRet (s : ByteArray) (i : Int) : Value := if ahOk s i then .tuple #[.int .i64 ((s.get! i.toNat).toNat / 32 : Nat), .int .u64 (ahN s i.toNat), .int .i64 (i + 1 + ahM (s.get! i.toNat).toNat)] else .tuple #[.int .i64 (-1), .int .u64 0, .int .i64 (-1)]
theorem big_lt8 (l : List UInt8) (h : l.length ≤ 8) : big l < 18446744073709551616 := by
  have h1 := big_lt l
  have h2 : 256 ^ l.length ≤ 256 ^ 8 := Nat.pow_le_pow_right (by omega) h
  omega
theorem ahM_le (b : Nat) (h : b % 32 ≤ 27) : ahM b ≤ 8 := by
  unfold ahM
  split
  · omega
  · have : 2 ^ (b % 32 - 24) ≤ 2 ^ 3 := Nat.pow_le_pow_right (by omega) (by omega)
    omega
theorem ahN_lt (s : ByteArray) (i : Nat) (hi : i < s.size) (h : (s.get! i).toNat % 32 ≤ 27) (hm : i + 1 + ahM (s.get! i).toNat ≤ s.size) : ahN s i < 18446744073709551616 := by
  unfold ahN
  split
  · omega
  · refine big_lt8 _ ?_
    rw [piece_len _ _ _ (by omega)]
    exact ahM_le _ h
theorem headL_len (M n : Nat) : (headL M n).length = if n < 24 then 1 else if n < 256 then 2 else if n < 65536 then 3 else if n < 4294967296 then 5 else 9 := by
  unfold headL
  repeat' split
  all_goals simp [wide_len]
theorem wide_byte (b : UInt8) : wide ((b.toNat : Nat) : Int) 1 = [b] := by
  have h := wide_big [b]
  simpa [big] using h
theorem get_get!' (s : ByteArray) (i : Nat) (h : i < s.size) : s[i] = s.get! i := by
  cases s with
  | mk d => exact (getElem!_pos d i h).symm
theorem piece_cons (s : ByteArray) (i m : Nat) (h : i < s.size) : piece s i (m + 1) = s.get! i :: piece s (i + 1) m := by
  unfold piece
  have hl : i < s.data.toList.length := by simpa using h
  rw [List.drop_eq_getElem_cons hl, List.take_succ_cons]
  congr 1
  rw [← get_get!' s i h]
  rfl
theorem wide_of (n m : Nat) (l : List UInt8) (h : l.length = m) (hn : n = big l) : wide (n : Int) m = l := by subst h hn; exact wide_big l
/-- A head of the right length is the head that stands there. -/
theorem head_eq (s : ByteArray) (i : Nat) (hi : i < s.size) (h : (s.get! i).toNat % 32 ≤ 27) (hm : i + 1 + ahM (s.get! i).toNat ≤ s.size) :
    headL ((s.get! i).toNat / 32) (ahN s i) = piece s i (1 + ahM (s.get! i).toNat) ↔ (headL ((s.get! i).toNat / 32) (ahN s i)).length = 1 + ahM (s.get! i).toNat := by
  constructor
  · intro e
    rw [e, piece_len _ _ _ (by omega)]
  · intro hl
    have hp := piece_cons s i (ahM (s.get! i).toNat) hi
    rw [Nat.add_comm 1, hp]
    have hb := (s.get! i).toNat_lt
    have hw := wide_byte (s.get! i)
    have hpl := piece_len s (i + 1) (ahM (s.get! i).toNat) (by omega)
    have hN := ahN_lt s i hi h hm
    rw [headL_len] at hl
    unfold ahN at *
    by_cases h24 : (s.get! i).toNat % 32 < 24
    · have hz : ahM (s.get! i).toNat = 0 := by unfold ahM; rw [if_pos h24]
      rw [if_pos h24] at *
      rw [hz] at hpl ⊢
      have e0 : piece s (i + 1) 0 = [] := by simp [piece]
      rw [e0, headL, if_pos h24, show 32 * ((s.get! i).toNat / 32) + (s.get! i).toNat % 32 = (s.get! i).toNat by omega]
      exact hw
    · rw [if_neg h24] at *
      have hW := wide_of (big (piece s (i + 1) (ahM (s.get! i).toNat))) _ _ hpl rfl
      have hmm : (ahM (s.get! i).toNat = 1 ∧ (s.get! i).toNat % 32 = 24) ∨ (ahM (s.get! i).toNat = 2 ∧ (s.get! i).toNat % 32 = 25) ∨ (ahM (s.get! i).toNat = 4 ∧ (s.get! i).toNat % 32 = 26) ∨ (ahM (s.get! i).toNat = 8 ∧ (s.get! i).toNat % 32 = 27) := by
        unfold ahM
        rw [if_neg h24]
        rcases (show (s.get! i).toNat % 32 = 24 ∨ (s.get! i).toNat % 32 = 25 ∨ (s.get! i).toNat % 32 = 26 ∨ (s.get! i).toNat % 32 = 27 by omega) with e | e | e | e <;> rw [e] <;> simp
      unfold headL
      generalize big (piece s (i + 1) (ahM (s.get! i).toNat)) = n at *
      rcases hmm with ⟨e, e2⟩ | ⟨e, e2⟩ | ⟨e, e2⟩ | ⟨e, e2⟩ <;> rw [e] at hW hl ⊢
      · have h1 : ¬ n < 24 ∧ n < 256 := by revert hl; repeat' split
                                           all_goals omega
        rw [if_neg h1.1, if_pos h1.2, show 32 * ((s.get! i).toNat / 32) + 24 = (s.get! i).toNat by omega, hw, hW]; rfl
      · have h1 : ¬ n < 24 ∧ ¬ n < 256 ∧ n < 65536 := by revert hl; repeat' split
                                                         all_goals omega
        rw [if_neg h1.1, if_neg h1.2.1, if_pos h1.2.2, show 32 * ((s.get! i).toNat / 32) + 25 = (s.get! i).toNat by omega, hw, hW]; rfl
      · have h1 : ¬ n < 24 ∧ ¬ n < 256 ∧ ¬ n < 65536 ∧ n < 4294967296 := by revert hl; repeat' split
                                                                            all_goals omega
        rw [if_neg h1.1, if_neg h1.2.1, if_neg h1.2.2.1, if_pos h1.2.2.2, show 32 * ((s.get! i).toNat / 32) + 26 = (s.get! i).toNat by omega, hw, hW]; rfl
      · have h1 : ¬ n < 24 ∧ ¬ n < 256 ∧ ¬ n < 65536 ∧ ¬ n < 4294967296 := by revert hl; repeat' split
                                                                              all_goals omega
        rw [if_neg h1.1, if_neg h1.2.1, if_neg h1.2.2.1, if_neg h1.2.2.2, show 32 * ((s.get! i).toNat / 32) + 27 = (s.get! i).toNat by omega, hw, hW]; rfl
/-- GetHead reads a head at a place. -/
def ghOk (s : ByteArray) (i : Int) : Prop := ahOk s i ∧ (headL ((s.get! i.toNat).toNat / 32) (ahN s i.toNat)).length = 1 + ahM (s.get! i.toNat).toNat
instance (s : ByteArray) (i : Int) : Decidable (ghOk s i) := by unfold ghOk; infer_instance
def ghRet (s : ByteArray) (i : Int) : Value := if ghOk s i then .tuple #[.int .i64 ((s.get! i.toNat).toNat / 32 : Nat), .int .u64 (ahN s i.toNat), .int .i64 (i + 1 + ahM (s.get! i.toNat).toNat)] else .tuple #[.int .i64 (-1), .int .u64 0, .int .i64 (-1)]
end Go.Proofs.Ytmfogabkpeoagaa
