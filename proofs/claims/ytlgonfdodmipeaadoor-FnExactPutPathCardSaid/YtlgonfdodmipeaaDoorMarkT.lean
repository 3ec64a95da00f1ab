/-
  The text of a mark; a row of texts in memory.
-/
import Derived.Test.YtlgonfdodmipeaaDoorInt
import Derived.Test.YtlgonfdodmipeaaDoorLit
import Derived.BigQuiet
import Derived.Deep.RegionHeld3
namespace Go.Proofs.YtlgonfdodmipeaaDoor
open Go.RowKit
set_option linter.unusedVariables false
set_option linter.unusedSimpArgs false

/-- The decimal digits of a number ahead of a text. -/
def digB : Nat → Nat → ByteArray → ByteArray
  | 0, _, out => out
  | f + 1, k, out => if k = 0 then out else digB f (k / 10) (str [byteI (48 + (k : Int) % 10)] ++ out)
theorem digB_more : ∀ (f g k : Nat) (out : ByteArray), k ≤ f → k ≤ g → digB f k out = digB g k out
  | 0, 0, _, _, _, _ => rfl
  | 0, g + 1, k, out, h, _ => by
    obtain rfl : k = 0 := by omega
    simp [digB]
  | f + 1, 0, k, out, _, h => by
    obtain rfl : k = 0 := by omega
    simp [digB]
  | f + 1, g + 1, k, out, h, h' => by
    unfold digB
    by_cases hk : k = 0
    · simp [hk]
    · rw [if_neg hk, if_neg hk]
      exact digB_more f g _ _ (by omega) (by omega)
theorem digB_step (k : Nat) (out : ByteArray) (hk : 0 < k) : digB k k out = digB (k / 10) (k / 10) (str [byteI (48 + (k : Int) % 10)] ++ out) := by
  obtain ⟨f, rfl⟩ : ∃ f, k = f + 1 := ⟨k - 1, by omega⟩
  show (if f + 1 = 0 then _ else digB f ((f + 1) / 10) _) = _
  rw [if_neg (by omega)]
  exact digB_more _ _ _ _ (by omega) (Nat.le_refl _)
/-- The letter m and the digits. -/
def mtext (k : Nat) : ByteArray := ByteArray.mk #[109] ++ digB k k ByteArray.empty

/-- How the digits so far and the rest keep below the number. -/
def DigRel (k j n : Nat) : Prop := 10 ^ n * j ≤ k ∧ n ≤ 9 ∧ k ≤ 100000000
theorem DigRel.next {k j n : Nat} (h : DigRel k j n) (hj : 0 < j) : DigRel k (j / 10) (n + 1) := by
  obtain ⟨h1, h2, h3⟩ := h
  have h4 : 10 ^ (n + 1) * (j / 10) ≤ 10 ^ n * j := by
    rw [Nat.pow_succ, Nat.mul_assoc]
    exact Nat.mul_le_mul_left _ (by omega)
  have h5 : n < 9 := by
    rcases Nat.lt_or_ge n 9 with h | h
    · exact h
    · have h6 : 10 ^ 9 ≤ 10 ^ n := Nat.pow_le_pow_right (by omega) h
      have h7 : 10 ^ n * 1 ≤ 10 ^ n * j := Nat.mul_le_mul_left _ hj
      omega
  exact ⟨by omega, by omega, h3⟩
theorem DigRel.small {k j n : Nat} (h : DigRel k j n) : n ≤ 9 := h.2.1

set_option maxHeartbeats 1000000 in
theorem markText (k : Nat) (w : World) (h0 : 0 < k) (hk : k ≤ 100000000) :
    Calls Tryd.prog 52 #[.int .i64 k] w fun e w' => e = .returned (.string (mtext k)) ∧ Below w.heap.size w w' := by
  have hk0 : k ≠ 0 := by omega
  have hkk : k < 9223372036854775808 := by omega
  have HR := Lib.hid (show DigRel k k 0 from ⟨by omega, by omega, hk⟩)
  clear hk
  have hl := lit1 (P := Tryd.prog) 25 9 5 Tryd.underlying25 Tryd.underlying5 Tryd.underlying9
  go_enter Tryd.func52, Tryd.ntmps52
  go_wp2_with fail
  go_loopw [0, 3] (fun i o wr => ∃ (j : Nat) (t : ByteArray), i = .int .i64 j ∧ o = .string t ∧ DigRel k j t.size ∧ digB j j t = digB k k ByteArray.empty ∧ Below w.heap.size w wr) (fun i _ _ => (intOf i).toNat)
  case atStart => exact ⟨k, ByteArray.empty, rfl, rfl, HR.out, rfl, Below.refl _ _⟩
  case round =>
    obtain ⟨j, t, rfl, rfl, hjt, hd, hb⟩ := hrel
    by_cases hj : 0 < j
    · have hs := digB_step j t hj
      have HS := Lib.hid hs
      have HD := Lib.hid hd
      clear hs hd
      have hsz : (str [byteI (48 + (j : Int) % 10)]).size = 1 := str_len _
      have ht9 := hjt.small
      have HJ := Lib.hid (hjt.next hj)
      have hjk : j < 9223372036854775808 := by
        have h1 : 10 ^ t.size * j ≤ k := hjt.1
        have h2 : 1 * j ≤ 10 ^ t.size * j := Nat.mul_le_mul_right _ (Nat.pow_pos (by omega))
        omega
      clear hjt
      go_wp2_with fail
      go_roundw
      case rel => exact ⟨j / 10, str [byteI (48 + (j : Int) % 10)] ++ t, by go_num, rfl, by rw [ByteArray.size_append, hsz, Nat.add_comm]; exact HJ.out, by rw [← HS.out]; exact HD.out, hb.alloc hb.size _⟩
      case measure => simp [intOf]; omega
    · obtain rfl : j = 0 := by omega
      have ht9 := hjt.small
      have ht : mtext k = ByteArray.mk #[109] ++ t := by unfold mtext; rw [← hd]; rfl
      have HT := Lib.hid ht
      clear ht hd
      go_wp2_with fail
      go_ret
      exact ⟨ret_eq (by rw [HT.out]; rfl), hb⟩

/-- A text as a cell. -/
def tv (s : ByteArray) : Value := .string s
theorem row_form {w : World} {base : Nat} {e : TypeId} {o : Value} {n : Nat} {xs : List Value} (h : w.ownsRow base e 1 o n xs) : ∃ A c, o = .slice A n c ∧ (0 < n → ∃ g, A = some ⟨g, 0, none⟩) := by
  rcases h.2 with ⟨rfl, rfl⟩ | ⟨g, c, cur, rfl, _⟩
  · exact ⟨none, 0, rfl, fun h => absurd h (by omega)⟩
  · exact ⟨_, _, rfl, fun _ => ⟨g, rfl⟩⟩
theorem row_cell {w : World} {base g c : Nat} {e : TypeId} {l : List ByteArray} (h : w.ownsRow base e 1 (.slice (some ⟨g, 0, none⟩) l.length c) l.length (l.map tv)) (j : Nat) (hj : j < l.length) : w.cell? ⟨g, j, none⟩ = some (.string l[j]) := by
  rw [h.cellAt j (by omega)]
  simp [hj, tv]

end Go.Proofs.YtlgonfdodmipeaaDoor
