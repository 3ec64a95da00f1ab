/-
  toIntS: a slice of numbers copied into a row of the call's own.
-/
import Derived.Test.YtmfogabkpeoagaaAt1
import Derived.Test.YtmfogabkpeoagaaMarksI
namespace Go.Proofs.Ytmfogabkpeoagaa
open Go.RowKit
set_option linter.unusedVariables false
set_option linter.unusedSimpArgs false

theorem infoInt : (Try.prog.info? 3).map (fun i => (i.zero, i.size, i.bytes)) = some (some (.int .i64 0), 1, 8) := by kernel_rfl
/-- The first j cells are filled. -/
def fillTo (ys xs : List Value) (j : Nat) : List Value := ys.take j ++ xs.drop j
theorem fill_step (ys xs : List Value) (j : Nat) (h : j < ys.length) (h' : xs.length = ys.length) : (fillTo ys xs j).set j ys[j] = fillTo ys xs (j + 1) := by
  unfold fillTo
  have hl : (ys.take j).length = j := by rw [List.length_take]; omega
  rw [List.set_append_right _ _ (by omega), hl, Nat.sub_self, List.drop_eq_getElem_cons (by omega), List.set_cons_zero]
  have e : ys.take (j + 1) = ys.take j ++ [ys[j]] := List.take_succ_eq_append_getElem h
  rw [e, List.append_assoc]
  rfl
theorem fill_all (ys xs : List Value) (h : xs.length = ys.length) : fillTo ys xs ys.length = ys := by unfold fillTo; rw [List.take_length, ← h, List.drop_length]; simp

set_option maxHeartbeats 1000000 in
theorem toIntRow (l : List Int) (A : Option Addr) (cap : Nat) (w : World) (hl : l.length ≤ 1048576) (hat : At1 w w.heap.size A (l.map iz)) :
    Calls Try.prog 6 #[.slice A l.length cap] w fun e w' => ∃ o, e = .returned o ∧ w'.ownsRow w.heap.size 3 1 o l.length (l.map iz) ∧ Below w.heap.size w w' := by
  obtain ⟨i0, hi, hz0, hz1, hz2⟩ := info_parts infoInt
  have HA := Lib.hid hat
  clear hat
  go_enter Try.func6, Try.ntmps6
  go_wp2_with (at_make; refine wpList_make_full _ rfl _ _ 22 rfl w.heap.size 3 i0 _ 1 Try.underlying22 hi hz0 hz1 _ _ _ _ l.length rfl rfl (by omega) (by omega) ?b1 ?b2 ?b3 ?_)
  case b1 => rw [hz2]; omega
  case b2 => unfold maxLen; omega
  case b3 => omega
  intro w1 hown1 hg1
  have hxl := hown1.1
  go_wp2_with fail
  go_loopw [4] (fun i wr => ∃ j : Nat, j ≤ l.length ∧ i = .int .i64 j ∧ (∃ xs : List Value, xs.length = l.length ∧ wr.ownsRow w.heap.size 3 1 (.slice (some ⟨w.heap.size, 0, none⟩) l.length l.length) l.length (fillTo (l.map iz) xs j)) ∧ Below w.heap.size w wr) (fun i _ => l.length - (intOf i).toNat)
  case atStart => exact ⟨0, Nat.zero_le _, rfl, ⟨_, by rw [Nat.mul_one] at hxl; exact hxl, by simpa [fillTo] using hown1⟩, (Below.refl _ _).grown hg1 (Nat.le_refl _) (fun k h => by cases h)⟩
  case round =>
    obtain ⟨j, hj, rfl, ⟨xs, hxs, hown⟩, hb⟩ := hrel
    by_cases hlt : j < l.length
    · obtain ⟨b, off, rfl, hbl, hc⟩ := (HA.out.below hb (Nat.le_refl _)).get (j := j) (by simpa using hlt)
      rw [List.getElem_map] at hc
      have hst := fill_step (l.map iz) xs j (by simpa using hlt) (by simpa using hxs)
      rw [List.getElem_map] at hst
      have hfl : (fillTo (l.map iz) xs j).length = l.length := by simpa using hown.1
      have hcell := hown.cellAt j (by omega)
      rw [List.getElem?_eq_getElem (by omega)] at hcell
      obtain ⟨u0, d0⟩ : ∃ u, wr.cell? ⟨w.heap.size, j, none⟩ = some u := ⟨_, hcell⟩
      have k0 := hown.frozenAt j
      have HST := Lib.hid hst
      have HO := Lib.hid hown
      have HX := Lib.hid hxs
      unfold iz at hc
      clear hst hcell hown hxs hfl
      go_wp2_with fail
      go_roundw
      case rel => exact ⟨j + 1, by omega, by go_num, ⟨xs, HX.out, by rw [← HST.out]; exact (HO.out.stored j _).1⟩, hb.setCell (Nat.le_refl _) _⟩
      case measure => simp [intOf]; omega
    · obtain rfl : j = l.length := by omega
      have hfa := fill_all (l.map iz) xs (by simpa using hxs)
      rw [List.length_map] at hfa
      rw [hfa] at hown
      go_wp2_with fail
      go_ret
      exact ⟨_, rfl, hown, hb⟩
end Go.Proofs.Ytmfogabkpeoagaa
