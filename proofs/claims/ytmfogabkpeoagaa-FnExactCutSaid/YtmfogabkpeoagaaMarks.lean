/-
  Rows of texts: the laws' equality, their marks, and whether the marks are still held.
-/
import Derived.Test.YtmfogabkpeoagaaInt
import Derived.Test.YtmfogabkpeoagaaLit
import Derived.BigQuiet
import Derived.Deep.RegionHeld3
namespace Go.Proofs.Ytmfogabkpeoagaa
open Go.RowKit
set_option linter.unusedVariables false
set_option linter.unusedSimpArgs false

/-- The decimal digits of a number ahead of a text. -/
def digB : Nat → Nat → ByteArray → ByteArray
  | 0, _, out => out
  | f + 1, k, out => if k = 0 then out else digB f (k / 10) (str [byteI (48 + (k : Int) % 10)] ++ out)
theorem digB_more : ∀ (f g k : Nat) (out : ByteArray), k ≤ f → k ≤ g → digB f k out = digB g k out
  | 0, 0, _, _, _, _ => rfl
  | 0, g + 1, k, out, h, _ => by
    obtain rfl : k = 0 := by omega
    simp [digB]
  | f + 1, 0, k, out, _, h => by
    obtain rfl : k = 0 := by omega
    simp [digB]
  | f + 1, g + 1, k, out, h, h' => by
    unfold digB
    by_cases hk : k = 0
    · simp [hk]
    · rw [if_neg hk, if_neg hk]
      exact digB_more f g _ _ (by omega) (by omega)
theorem digB_step (k : Nat) (out : ByteArray) (hk : 0 < k) : digB k k out = digB (k / 10) (k / 10) (str [byteI (48 + (k : Int) % 10)] ++ out) := by
  obtain ⟨f, rfl⟩ : ∃ f, k = f + 1 := ⟨k - 1, by omega⟩
  show (if f + 1 = 0 then _ else digB f ((f + 1) / 10) _) = _
  rw [if_neg (by omega)]
  exact digB_more _ _ _ _ (by omega) (Nat.le_refl _)
/-- The letter m and the digits. -/
def mtext (k : Nat) : ByteArray := ByteArray.mk #[109] ++ digB k k ByteArray.empty

/-- How the digits so far and the rest keep below the number. -/
def DigRel (k j n : Nat) : Prop := 10 ^ n * j ≤ k ∧ n ≤ 9 ∧ k ≤ 100000000
theorem DigRel.next {k j n : Nat} (h : DigRel k j n) (hj : 0 < j) : DigRel k (j / 10) (n + 1) := by
  obtain ⟨h1, h2, h3⟩ := h
  have h4 : 10 ^ (n + 1) * (j / 10) ≤ 10 ^ n * j := by
    rw [Nat.pow_succ, Nat.mul_assoc]
    exact Nat.mul_le_mul_left _ (by omega)
  have h5 : n < 9 := by
    rcases Nat.lt_or_ge n 9 with h | h
    · exact h
    · have h6 : 10 ^ 9 ≤ 10 ^ n := Nat.pow_le_pow_right (by omega) h
      have h7 : 10 ^ n * 1 ≤ 10 ^ n * j := Nat.mul_le_mul_left _ hj
      omega
  exact ⟨by omega, by omega, h3⟩
theorem DigRel.small {k j n : Nat} (h : DigRel k j n) : n ≤ 9 := h.2.1

set_option maxHeartbeats 1000000 in
theorem markText (k : Nat) (w : World) (h0 : 0 < k) (hk : k ≤ 100000000) :
    Calls Try.prog 15 #[.int .i64 k] w fun e w' => e = .returned (.string (mtext k)) ∧ Below w.heap.size w w' := by
  have hk0 : k ≠ 0 := by omega
  have hkk : k < 9223372036854775808 := by omega
  have HR := Lib.hid (show DigRel k k 0 from ⟨by omega, by omega, hk⟩)
  clear hk
  have hl := lit1 (P := Try.prog) 37 9 5 Try.underlying37 Try.underlying5 Try.underlying9
  go_enter Try.func15, Try.ntmps15
  go_wp2_with fail
  go_loopw [0, 3] (fun i o wr => ∃ (j : Nat) (t : ByteArray), i = .int .i64 j ∧ o = .string t ∧ DigRel k j t.size ∧ digB j j t = digB k k ByteArray.empty ∧ Below w.heap.size w wr) (fun i _ _ => (intOf i).toNat)
  case atStart => exact ⟨k, ByteArray.empty, rfl, rfl, HR.out, rfl, Below.refl _ _⟩
  case round =>
    obtain ⟨j, t, rfl, rfl, hjt, hd, hb⟩ := hrel
    by_cases hj : 0 < j
    · have hs := digB_step j t hj
      have HS := Lib.hid hs
      have HD := Lib.hid hd
      clear hs hd
      have hsz : (str [byteI (48 + (j : Int) % 10)]).size = 1 := str_len _
      have ht9 := hjt.small
      have HJ := Lib.hid (hjt.next hj)
      have hjk : j < 9223372036854775808 := by
        have h1 : 10 ^ t.size * j ≤ k := hjt.1
        have h2 : 1 * j ≤ 10 ^ t.size * j := Nat.mul_le_mul_right _ (Nat.pow_pos (by omega))
        omega
      clear hjt
      go_wp2_with fail
      go_roundw
      case rel => exact ⟨j / 10, str [byteI (48 + (j : Int) % 10)] ++ t, by go_num, rfl, by rw [ByteArray.size_append, hsz, Nat.add_comm]; exact HJ.out, by rw [← HS.out]; exact HD.out, hb.alloc hb.size _⟩
      case measure => simp [intOf]; omega
    · obtain rfl : j = 0 := by omega
      have ht9 := hjt.small
      have ht : mtext k = ByteArray.mk #[109] ++ t := by unfold mtext; rw [← hd]; rfl
      have HT := Lib.hid ht
      clear ht hd
      go_wp2_with fail
      go_ret
      exact ⟨ret_eq (by rw [HT.out]; rfl), hb⟩

/-- A text as a cell. -/
def tv (s : ByteArray) : Value := .string s
theorem row_form {w : World} {base : Nat} {e : TypeId} {o : Value} {n : Nat} {xs : List Value} (h : w.ownsRow base e 1 o n xs) : ∃ A c, o = .slice A n c ∧ (0 < n → ∃ g, A = some ⟨g, 0, none⟩) := by
  rcases h.2 with ⟨rfl, rfl⟩ | ⟨g, c, cur, rfl, _⟩
  · exact ⟨none, 0, rfl, fun h => absurd h (by omega)⟩
  · exact ⟨_, _, rfl, fun _ => ⟨g, rfl⟩⟩
theorem row_cell {w : World} {base g c : Nat} {e : TypeId} {l : List ByteArray} (h : w.ownsRow base e 1 (.slice (some ⟨g, 0, none⟩) l.length c) l.length (l.map tv)) (j : Nat) (hj : j < l.length) : w.cell? ⟨g, j, none⟩ = some (.string l[j]) := by
  rw [h.cellAt j (by omega)]
  simp [hj, tv]

set_option maxHeartbeats 1000000 in
theorem eqRow (l : List ByteArray) (o p : Value) (b1 b2 : Nat) (w : World) (hn : l.length ≤ 10000000) (ho : w.ownsRow b1 9 1 o l.length (l.map tv)) (hp : w.ownsRow b2 9 1 p l.length (l.map tv)) :
    Calls Try.prog 8 #[o, p] w fun e w' => e = .returned (.bool true) ∧ Below w.heap.size w w' := by
  obtain ⟨A, c, rfl, hA⟩ := row_form ho
  obtain ⟨B, d, rfl, hB⟩ := row_form hp
  have HA := Lib.hid hA
  have HB := Lib.hid hB
  have HO := Lib.hid ho
  have HP := Lib.hid hp
  clear hA hB ho hp
  go_enter Try.func8, Try.ntmps8
  go_wp2_with fail
  go_loopw [5] (fun i wr => ∃ j : Nat, j ≤ l.length ∧ i = .int .i64 j ∧ Below w.heap.size w wr) (fun i _ => l.length - (intOf i).toNat)
  case atStart => exact ⟨0, Nat.zero_le _, rfl, Below.refl _ _⟩
  case round =>
    obtain ⟨j, hj, rfl, hb⟩ := hrel
    by_cases hlt : j < l.length
    · obtain ⟨g, rfl⟩ := HA.out (by omega)
      obtain ⟨g', rfl⟩ := HB.out (by omega)
      have c0 := row_cell (own_below HO.out hb) j hlt
      have d0 := row_cell (own_below HP.out hb) j hlt
      go_wp2_with fail
      go_quiet (fail)
      go_wp2_with fail
      go_roundw
      case rel => exact ⟨j + 1, by omega, by go_num, below_drewN hb _⟩
      case measure => simp [intOf]; omega
    · obtain rfl : j = l.length := by omega
      go_wp2_with fail
      go_ret
      exact ⟨rfl, hb⟩

/-- The marks from k on. -/
def marksOf (k n : Nat) : List ByteArray := (List.range n).map fun i => mtext (k + i)
theorem marksOf_len (k n : Nat) : (marksOf k n).length = n := by simp [marksOf]

/-- A row of which the first j cells are marked. -/
def markedTo (k : Nat) (xs : List Value) (j : Nat) : List Value := (marksOf k j).map tv ++ xs.drop j
theorem marked_step (k : Nat) (xs : List Value) (j : Nat) (h : j < xs.length) : (markedTo k xs j).set j (tv (mtext (k + j))) = markedTo k xs (j + 1) := by
  unfold markedTo
  rw [List.set_append_right _ _ (by simp [marksOf_len])]
  rw [List.length_map, marksOf_len, Nat.sub_self, List.drop_eq_getElem_cons h, List.set_cons_zero]
  unfold marksOf
  rw [List.range_succ]
  simp
theorem marked_all (k : Nat) (xs : List Value) : markedTo k xs xs.length = (marksOf k xs.length).map tv := by unfold markedTo; simp
theorem marked_len (k : Nat) (xs : List Value) (j : Nat) (h : j ≤ xs.length) : (markedTo k xs j).length = xs.length := by unfold markedTo; simp [marksOf_len]; omega

set_option maxHeartbeats 1000000 in
theorem markRow (n k : Nat) (o : Value) (b : Nat) (w : World) (xs : List Value) (hn : n ≤ 10000000) (hk0 : 0 < k) (hk : k ≤ 10000000) (hB : b ≤ w.heap.size) (ho : w.ownsRow b 9 1 o n xs) :
    Calls Try.prog 11 #[o, .int .i64 k] w fun e w' => e = .returned (.int .i64 ((k + n : Nat) : Int)) ∧ w'.ownsRow b 9 1 o n ((marksOf k n).map tv) ∧ Below b w w' := by
  have hxl : xs.length = n := by have := ho.1; omega
  obtain ⟨A, c, rfl, hA⟩ := row_form ho
  have HA := Lib.hid hA
  have HO := Lib.hid ho
  have HL := Lib.hid hxl
  clear hA ho hxl
  go_enter Try.func11, Try.ntmps11
  go_wp2_with fail
  go_loopw [1, 5] (fun q i wr => ∃ j : Nat, j ≤ n ∧ i = .int .i64 j ∧ q = .int .i64 ((k + j : Nat) : Int) ∧ wr.ownsRow b 9 1 (.slice A n c) n (markedTo k xs j) ∧ Below b w wr) (fun _ i _ => n - (intOf i).toNat)
  case atStart => exact ⟨0, Nat.zero_le _, rfl, rfl, HO.out, Below.refl _ _⟩
  case round =>
    obtain ⟨j, hj, rfl, rfl, hown, hb⟩ := hrel
    by_cases hlt : j < n
    · obtain ⟨g, rfl⟩ := HA.out (by omega)
      have hst := marked_step k xs j (by rw [HL.out]; exact hlt)
      have HST := Lib.hid hst
      have HO2 := Lib.hid hown
      clear hst hown
      go_wp2_with fail
      refine (markText (k + j) wr (by omega) (by omega)).mono ?_
      rintro e w1 ⟨rfl, hb1⟩
      have hown1 := own_below HO2.out hb1
      have d0 : ∃ u, w1.cell? ⟨g, j, none⟩ = some u := ⟨_, (hown1.cellAt j (by omega)).trans (List.getElem?_eq_getElem (by have := hown1.1; omega))⟩
      obtain ⟨u0, d0⟩ := d0
      have k0 := hown1.frozenAt j
      have hbg := (hown1.lt g rfl).1
      have HO3 := Lib.hid hown1
      clear hown1
      go_wp2_with fail
      go_roundw
      case rel => exact ⟨j + 1, by omega, by go_num, by go_num, by rw [← HST.out]; exact (HO3.out.stored j _).1, (hb.trans (hb1.mono (Nat.le_trans hB hb.size))).setCell hbg _⟩
      case measure => simp [intOf]; omega
    · obtain rfl : j = n := by omega
      have hall := marked_all k xs
      rw [HL.out] at hall
      rw [hall] at hown
      go_wp2_with fail
      go_ret
      exact ⟨rfl, hown, hb⟩

set_option maxHeartbeats 1000000 in
theorem heldRow (n k : Nat) (o : Value) (b : Nat) (w : World) (hn : n ≤ 10000000) (hk0 : 0 < k) (hk : k ≤ 10000000) (ho : w.ownsRow b 9 1 o n ((marksOf k n).map tv)) :
    Calls Try.prog 12 #[o, .int .i64 k] w fun e w' => e = .returned (.int .i64 ((k + n : Nat) : Int)) ∧ Below w.heap.size w w' := by
  obtain ⟨A, c, rfl, hA⟩ := row_form ho
  have HA := Lib.hid hA
  have HO := Lib.hid ho
  clear hA ho
  go_enter Try.func12, Try.ntmps12
  go_wp2_with fail
  go_loopw [1, 5] (fun q i wr => ∃ j : Nat, j ≤ n ∧ i = .int .i64 j ∧ q = .int .i64 ((k + j : Nat) : Int) ∧ Below w.heap.size w wr) (fun _ i _ => n - (intOf i).toNat)
  case atStart => exact ⟨0, Nat.zero_le _, rfl, rfl, Below.refl _ _⟩
  case round =>
    obtain ⟨j, hj, rfl, rfl, hb⟩ := hrel
    by_cases hlt : j < n
    · obtain ⟨g, rfl⟩ := HA.out (by omega)
      have hc : ∀ w', Below w.heap.size w w' → w'.cell? ⟨g, j, none⟩ = some (.string (mtext (k + j))) := fun w' hb' => by
        rw [(own_below HO.out hb').cellAt j (by omega)]
        simp [marksOf, tv, hlt]
      have d0 := hc _ hb
      have HC := Lib.hid hc
      clear hc
      go_wp2_with fail
      go_region_held3 (fun w' => w'.cell? ⟨g, j, none⟩ = some (.string (mtext (k + j)))) (first | exact HC.out _ hb2 | exact HC.out _ hb.drew | exact HC.out _ hb)
        (first | (go_at_call 15; refine (markText (k + j) wr.drew (by omega) (by omega)).mono ?_; rintro e w1 ⟨rfl, hb1⟩; have hb2 := hb.drew.trans (hb1.mono hb.size)))
      clear d0
      go_wp2_with fail
      go_roundw
      case rel => exact ⟨j + 1, by omega, by go_num, by go_num, hb2⟩
      case measure => simp [intOf]; omega
    · obtain rfl : j = n := by omega
      go_wp2_with fail
      go_ret
      exact ⟨rfl, hb⟩
end Go.Proofs.Ytmfogabkpeoagaa
