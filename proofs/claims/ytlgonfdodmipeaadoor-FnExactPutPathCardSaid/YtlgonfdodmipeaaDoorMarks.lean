/-
  Rows of texts: eq, mark, held.
-/
import Derived.Test.YtlgonfdodmipeaaDoorMarkT
namespace Go.Proofs.YtlgonfdodmipeaaDoor
open Go.RowKit
set_option linter.unusedVariables false
set_option linter.unusedSimpArgs false

set_option maxHeartbeats 1000000 in
theorem eqRow (l : List ByteArray) (o p : Value) (b1 b2 : Nat) (w : World) (hn : l.length ≤ 10000000) (ho : w.ownsRow b1 9 1 o l.length (l.map tv)) (hp : w.ownsRow b2 9 1 p l.length (l.map tv)) :
    Calls Tryd.prog 27 #[o, p] w fun e w' => e = .returned (.bool true) ∧ Below w.heap.size w w' := by
  obtain ⟨A, c, rfl, hA⟩ := row_form ho
  obtain ⟨B, d, rfl, hB⟩ := row_form hp
  have HA := Lib.hid hA
  have HB := Lib.hid hB
  have HO := Lib.hid ho
  have HP := Lib.hid hp
  clear hA hB ho hp
  go_enter Tryd.func27, Tryd.ntmps27
  go_wp2_with fail
  go_loopw [5] (fun i wr => ∃ j : Nat, j ≤ l.length ∧ i = .int .i64 j ∧ Below w.heap.size w wr) (fun i _ => l.length - (intOf i).toNat)
  case atStart => exact ⟨0, Nat.zero_le _, rfl, Below.refl _ _⟩
  case round =>
    obtain ⟨j, hj, rfl, hb⟩ := hrel
    by_cases hlt : j < l.length
    · obtain ⟨g, rfl⟩ := HA.out (by omega)
      obtain ⟨g', rfl⟩ := HB.out (by omega)
      have c0 := row_cell (own_below HO.out hb) j hlt
      have d0 := row_cell (own_below HP.out hb) j hlt
      go_wp2_with fail
      go_quiet (fail)
      go_wp2_with fail
      go_roundw
      case rel => exact ⟨j + 1, by omega, by go_num, below_drewN hb _⟩
      case measure => simp [intOf]; omega
    · obtain rfl : j = l.length := by omega
      go_wp2_with fail
      go_ret
      exact ⟨rfl, hb⟩

/-- The marks from k on. -/
def marksOf (k n : Nat) : List ByteArray := (List.range n).map fun i => mtext (k + i)
theorem marksOf_len (k n : Nat) : (marksOf k n).length = n := by simp [marksOf]

/-- A row of which the first j cells are marked. -/
def markedTo (k : Nat) (xs : List Value) (j : Nat) : List Value := (marksOf k j).map tv ++ xs.drop j
theorem marked_step (k : Nat) (xs : List Value) (j : Nat) (h : j < xs.length) : (markedTo k xs j).set j (tv (mtext (k + j))) = markedTo k xs (j + 1) := by
  unfold markedTo
  rw [List.set_append_right _ _ (by simp [marksOf_len])]
  rw [List.length_map, marksOf_len, Nat.sub_self, List.drop_eq_getElem_cons h, List.set_cons_zero]
  unfold marksOf
  rw [List.range_succ]
  simp
theorem marked_all (k : Nat) (xs : List Value) : markedTo k xs xs.length = (marksOf k xs.length).map tv := by unfold markedTo; simp
theorem marked_len (k : Nat) (xs : List Value) (j : Nat) (h : j ≤ xs.length) : (markedTo k xs j).length = xs.length := by unfold markedTo; simp [marksOf_len]; omega

set_option maxHeartbeats 1000000 in
theorem markRow (n k : Nat) (o : Value) (b : Nat) (w : World) (xs : List Value) (hn : n ≤ 10000000) (hk0 : 0 < k) (hk : k ≤ 10000000) (hB : b ≤ w.heap.size) (ho : w.ownsRow b 9 1 o n xs) :
    Calls Tryd.prog 30 #[o, .int .i64 k] w fun e w' => e = .returned (.int .i64 ((k + n : Nat) : Int)) ∧ w'.ownsRow b 9 1 o n ((marksOf k n).map tv) ∧ Below b w w' := by
  have hxl : xs.length = n := by have := ho.1; omega
  obtain ⟨A, c, rfl, hA⟩ := row_form ho
  have HA := Lib.hid hA
  have HO := Lib.hid ho
  have HL := Lib.hid hxl
  clear hA ho hxl
  go_enter Tryd.func30, Tryd.ntmps30
  go_wp2_with fail
  go_loopw [1, 5] (fun q i wr => ∃ j : Nat, j ≤ n ∧ i = .int .i64 j ∧ q = .int .i64 ((k + j : Nat) : Int) ∧ wr.ownsRow b 9 1 (.slice A n c) n (markedTo k xs j) ∧ Below b w wr) (fun _ i _ => n - (intOf i).toNat)
  case atStart => exact ⟨0, Nat.zero_le _, rfl, rfl, HO.out, Below.refl _ _⟩
  case round =>
    obtain ⟨j, hj, rfl, rfl, hown, hb⟩ := hrel
    by_cases hlt : j < n
    · obtain ⟨g, rfl⟩ := HA.out (by omega)
      have hst := marked_step k xs j (by rw [HL.out]; exact hlt)
      have HST := Lib.hid hst
      have HO2 := Lib.hid hown
      clear hst hown
      go_wp2_with fail
      refine (markText (k + j) wr (by omega) (by omega)).mono ?_
      rintro e w1 ⟨rfl, hb1⟩
      have hown1 := own_below HO2.out hb1
      have d0 : ∃ u, w1.cell? ⟨g, j, none⟩ = some u := ⟨_, (hown1.cellAt j (by omega)).trans (List.getElem?_eq_getElem (by have := hown1.1; omega))⟩
      obtain ⟨u0, d0⟩ := d0
      have k0 := hown1.frozenAt j
      have hbg := (hown1.lt g rfl).1
      have HO3 := Lib.hid hown1
      clear hown1
      go_wp2_with fail
      go_roundw
      case rel => exact ⟨j + 1, by omega, by go_num, by go_num, by rw [← HST.out]; exact (HO3.out.stored j _).1, (hb.trans (hb1.mono (Nat.le_trans hB hb.size))).setCell hbg _⟩
      case measure => simp [intOf]; omega
    · obtain rfl : j = n := by omega
      have hall := marked_all k xs
      rw [HL.out] at hall
      rw [hall] at hown
      go_wp2_with fail
      go_ret
      exact ⟨rfl, hown, hb⟩

set_option maxHeartbeats 1000000 in
theorem heldRow (n k : Nat) (o : Value) (b : Nat) (w : World) (hn : n ≤ 10000000) (hk0 : 0 < k) (hk : k ≤ 10000000) (ho : w.ownsRow b 9 1 o n ((marksOf k n).map tv)) :
    Calls Tryd.prog 31 #[o, .int .i64 k] w fun e w' => e = .returned (.int .i64 ((k + n : Nat) : Int)) ∧ Below w.heap.size w w' := by
  obtain ⟨A, c, rfl, hA⟩ := row_form ho
  have HA := Lib.hid hA
  have HO := Lib.hid ho
  clear hA ho
  go_enter Tryd.func31, Tryd.ntmps31
  go_wp2_with fail
  go_loopw [1, 5] (fun q i wr => ∃ j : Nat, j ≤ n ∧ i = .int .i64 j ∧ q = .int .i64 ((k + j : Nat) : Int) ∧ Below w.heap.size w wr) (fun _ i _ => n - (intOf i).toNat)
  case atStart => exact ⟨0, Nat.zero_le _, rfl, rfl, Below.refl _ _⟩
  case round =>
    obtain ⟨j, hj, rfl, rfl, hb⟩ := hrel
    by_cases hlt : j < n
    · obtain ⟨g, rfl⟩ := HA.out (by omega)
      have hc : ∀ w', Below w.heap.size w w' → w'.cell? ⟨g, j, none⟩ = some (.string (mtext (k + j))) := fun w' hb' => by
        rw [(own_below HO.out hb').cellAt j (by omega)]
        simp [marksOf, tv, hlt]
      have d0 := hc _ hb
      have HC := Lib.hid hc
      clear hc
      go_wp2_with fail
      go_region_held3 (fun w' => w'.cell? ⟨g, j, none⟩ = some (.string (mtext (k + j)))) (first | exact HC.out _ hb2 | exact HC.out _ hb.drew | exact HC.out _ hb)
        (first | (go_at_call 52; refine (markText (k + j) wr.drew (by omega) (by omega)).mono ?_; rintro e w1 ⟨rfl, hb1⟩; have hb2 := hb.drew.trans (hb1.mono hb.size)))
      clear d0
      go_wp2_with fail
      go_roundw
      case rel => exact ⟨j + 1, by omega, by go_num, by go_num, hb2⟩
      case measure => simp [intOf]; omega
    · obtain rfl : j = n := by omega
      go_wp2_with fail
      go_ret
      exact ⟨rfl, hb⟩
end Go.Proofs.YtlgonfdodmipeaaDoor
