/-
  Rows of texts behind their first cell: eq, mark, held.
-/
import Derived.Test.YtlgonfdodmipeaaDoorMarks
namespace Go.Proofs.YtlgonfdodmipeaaDoor
open Go.RowKit
set_option linter.unusedVariables false
set_option linter.unusedSimpArgs false
set_option maxRecDepth 100000

/-- The row behind a first cell. -/
def TailOf (w : World) (b g c1 n : Nat) (x : Value) (xs : List Value) : Prop := w.ownsRow b 9 1 (.slice (some ⟨g, 0, none⟩) (n + 1) c1) (n + 1) (x :: xs)
theorem TailOf.cell {w : World} {b g c1 n : Nat} {x : Value} {xs : List Value} (h : TailOf w b g c1 n x xs) (j : Nat) (hj : j < n) (hx : j < xs.length) : w.cell? ⟨g, 1 + j, none⟩ = some xs[j] := by
  unfold TailOf at h
  rw [Nat.add_comm 1 j, h.cellAt (j + 1) (by omega), List.getElem?_cons_succ, List.getElem?_eq_getElem hx]
theorem TailOf.len {w : World} {b g c1 n : Nat} {x : Value} {xs : List Value} (h : TailOf w b g c1 n x xs) : xs.length = n := by
  have := h.1
  simp only [List.length_cons] at this
  omega
theorem TailOf.below {w w' : World} {b g c1 n : Nat} {x : Value} {xs : List Value} (h : TailOf w b g c1 n x xs) {B : Nat} (hB : w.heap.size ≤ B) (hb : Below B w w') : TailOf w' b g c1 n x xs := own_below' h hB hb
theorem TailOf.set {w : World} {b g c1 n : Nat} {x : Value} {xs : List Value} (h : TailOf w b g c1 n x xs) (j : Nat) (v : Value) : TailOf (w.setCell ⟨g, 1 + j, none⟩ v) b g c1 n x (xs.set j v) := by
  have := (World.ownsRow.stored h (j + 1) v).1
  rw [List.set_cons_succ] at this
  rw [Nat.add_comm 1 j]
  exact this
theorem TailOf.soft {w : World} {b g c1 n : Nat} {x : Value} {xs : List Value} (h : TailOf w b g c1 n x xs) (j : Nat) : w.frozen? ⟨g, 1 + j, none⟩ = false := World.ownsRow.frozenAt h (1 + j)
theorem TailOf.lt {w : World} {b g c1 n : Nat} {x : Value} {xs : List Value} (h : TailOf w b g c1 n x xs) : b ≤ g ∧ g < w.heap.size := World.ownsRow.lt h g rfl

set_option maxHeartbeats 1000000 in
theorem eqTail (l : List ByteArray) (g c c1 : Nat) (x p : Value) (b1 b2 : Nat) (w : World) (hn : l.length ≤ 10000000) (ho : TailOf w b1 g c1 l.length x (l.map tv)) (hp : w.ownsRow b2 9 1 p l.length (l.map tv)) :
    Calls Tryd.prog 27 #[.slice (some ⟨g, 1, none⟩) l.length c, p] w fun e w' => e = .returned (.bool true) ∧ Below w.heap.size w w' := by
  obtain ⟨B, d, rfl, hB⟩ := row_form hp
  have HB := Lib.hid hB
  have HO := Lib.hid ho
  have HP := Lib.hid hp
  clear hB ho hp
  go_enter Tryd.func27, Tryd.ntmps27
  go_wp2_with fail
  go_loopw [5] (fun i wr => ∃ j : Nat, j ≤ l.length ∧ i = .int .i64 j ∧ Below w.heap.size w wr) (fun i _ => l.length - (intOf i).toNat)
  case atStart => exact ⟨0, Nat.zero_le _, rfl, Below.refl _ _⟩
  case round =>
    obtain ⟨j, hj, rfl, hb⟩ := hrel
    by_cases hlt : j < l.length
    · obtain ⟨g', rfl⟩ := HB.out (by omega)
      have c0 := (HO.out.below (Nat.le_refl _) hb).cell j hlt (by simpa using hlt)
      rw [List.getElem_map] at c0
      unfold tv at c0
      have d0 := row_cell (own_below HP.out hb) j hlt
      go_wp2_with fail
      go_quiet (fail)
      go_wp2_with fail
      go_roundw
      case rel => exact ⟨j + 1, by omega, by go_num, below_drewN hb _⟩
      case measure => simp [intOf]; omega
    · obtain rfl : j = l.length := by omega
      go_wp2_with fail
      go_ret
      exact ⟨rfl, hb⟩

set_option maxHeartbeats 1000000 in
theorem markTail (n k : Nat) (g c c1 : Nat) (x : Value) (b : Nat) (w : World) (xs : List Value) (hn : n ≤ 10000000) (hk0 : 0 < k) (hk : k ≤ 10000000) (hB : b ≤ w.heap.size) (ho : TailOf w b g c1 n x xs) :
    Calls Tryd.prog 30 #[.slice (some ⟨g, 1, none⟩) n c, .int .i64 k] w fun e w' => e = .returned (.int .i64 ((k + n : Nat) : Int)) ∧ TailOf w' b g c1 n x ((marksOf k n).map tv) ∧ Below b w w' := by
  have HL := Lib.hid ho.len
  have HO := Lib.hid ho
  clear ho
  go_enter Tryd.func30, Tryd.ntmps30
  go_wp2_with fail
  go_loopw [1, 5] (fun q i wr => ∃ j : Nat, j ≤ n ∧ i = .int .i64 j ∧ q = .int .i64 ((k + j : Nat) : Int) ∧ TailOf wr b g c1 n x (markedTo k xs j) ∧ Below b w wr) (fun _ i _ => n - (intOf i).toNat)
  case atStart => exact ⟨0, Nat.zero_le _, rfl, rfl, HO.out, Below.refl _ _⟩
  case round =>
    obtain ⟨j, hj, rfl, rfl, hown, hb⟩ := hrel
    by_cases hlt : j < n
    · have hst := marked_step k xs j (by rw [HL.out]; exact hlt)
      have HST := Lib.hid hst
      have HO2 := Lib.hid hown
      clear hst hown
      go_wp2_with fail
      refine (markText (k + j) wr (by omega) (by omega)).mono ?_
      rintro e w1 ⟨rfl, hb1⟩
      have hown1 := HO2.out.below (Nat.le_refl _) hb1
      obtain ⟨u0, d0⟩ : ∃ u, w1.cell? ⟨g, 1 + j, none⟩ = some u := ⟨_, hown1.cell j hlt (by rw [hown1.len]; exact hlt)⟩
      have k0 := hown1.soft j
      have hbg := hown1.lt.1
      have HO3 := Lib.hid hown1
      clear hown1
      go_wp2_with fail
      go_roundw
      case rel => exact ⟨j + 1, by omega, by go_num, by go_num, by rw [← HST.out]; exact HO3.out.set j _, (hb.trans (hb1.mono (Nat.le_trans hB hb.size))).setCell hbg _⟩
      case measure => simp [intOf]; omega
    · obtain rfl : j = n := by omega
      have hall := marked_all k xs
      rw [HL.out] at hall
      rw [hall] at hown
      go_wp2_with fail
      go_ret
      exact ⟨rfl, hown, hb⟩

set_option maxHeartbeats 1000000 in
theorem heldTail (n k : Nat) (g c c1 : Nat) (x : Value) (b : Nat) (w : World) (hn : n ≤ 10000000) (hk0 : 0 < k) (hk : k ≤ 10000000) (ho : TailOf w b g c1 n x ((marksOf k n).map tv)) :
    Calls Tryd.prog 31 #[.slice (some ⟨g, 1, none⟩) n c, .int .i64 k] w fun e w' => e = .returned (.int .i64 ((k + n : Nat) : Int)) ∧ Below w.heap.size w w' := by
  have HO := Lib.hid ho
  clear ho
  go_enter Tryd.func31, Tryd.ntmps31
  go_wp2_with fail
  go_loopw [1, 5] (fun q i wr => ∃ j : Nat, j ≤ n ∧ i = .int .i64 j ∧ q = .int .i64 ((k + j : Nat) : Int) ∧ Below w.heap.size w wr) (fun _ i _ => n - (intOf i).toNat)
  case atStart => exact ⟨0, Nat.zero_le _, rfl, rfl, Below.refl _ _⟩
  case round =>
    obtain ⟨j, hj, rfl, rfl, hb⟩ := hrel
    by_cases hlt : j < n
    · have hc : ∀ w', Below w.heap.size w w' → w'.cell? ⟨g, 1 + j, none⟩ = some (.string (mtext (k + j))) := fun w' hb' => by
        rw [(HO.out.below (Nat.le_refl _) hb').cell j hlt (by simpa [marksOf] using hlt)]
        simp [marksOf, tv]
      have d0 := hc _ hb
      have HC := Lib.hid hc
      clear hc
      go_wp2_with fail
      go_region_held3 (fun w' => w'.cell? ⟨g, 1 + j, none⟩ = some (.string (mtext (k + j)))) (first | exact HC.out _ hb2 | exact HC.out _ hb.drew | exact HC.out _ hb)
        (first | (go_at_call 52; refine (markText (k + j) wr.drew (by omega) (by omega)).mono ?_; rintro e w1 ⟨rfl, hb1⟩; have hb2 := hb.drew.trans (hb1.mono hb.size)))
      clear d0
      go_wp2_with fail
      go_roundw
      case rel => exact ⟨j + 1, by omega, by go_num, by go_num, hb2⟩
      case measure => simp [intOf]; omega
    · obtain rfl : j = n := by omega
      go_wp2_with fail
      go_ret
      exact ⟨rfl, hb⟩
end Go.Proofs.YtlgonfdodmipeaaDoor
