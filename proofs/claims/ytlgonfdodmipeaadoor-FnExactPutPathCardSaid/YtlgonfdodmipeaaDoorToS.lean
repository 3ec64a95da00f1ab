/-
  szStringS and toStringS over a slice of texts, wherever it lies.
-/
import Derived.Test.YtlgonfdodmipeaaDoorAt1
import Derived.Test.YtlgonfdodmipeaaDoorMarks
namespace Go.Proofs.YtlgonfdodmipeaaDoor
open Go.RowKit
set_option linter.unusedVariables false
set_option linter.unusedSimpArgs false

theorem infoS : (Tryd.prog.info? 9).map (fun i => (i.zero, i.size, i.bytes)) = some (some (.string ByteArray.empty), 1, 16) := by kernel_rfl
/-- The first j cells are filled. -/
def fillS (ys xs : List Value) (j : Nat) : List Value := ys.take j ++ xs.drop j
theorem fillS_step (ys xs : List Value) (j : Nat) (h : j < ys.length) (h' : xs.length = ys.length) : (fillS ys xs j).set j ys[j] = fillS ys xs (j + 1) := by
  unfold fillS
  have hl : (ys.take j).length = j := by rw [List.length_take]; omega
  rw [List.set_append_right _ _ (by omega), hl, Nat.sub_self, List.drop_eq_getElem_cons (by omega), List.set_cons_zero]
  have e : ys.take (j + 1) = ys.take j ++ [ys[j]] := List.take_succ_eq_append_getElem h
  rw [e, List.append_assoc]
  rfl
theorem fillS_all (ys xs : List Value) (h : xs.length = ys.length) : fillS ys xs ys.length = ys := by unfold fillS; rw [List.take_length, ← h, List.drop_length]; simp

set_option maxHeartbeats 1000000 in
theorem toStringRow (l : List ByteArray) (A : Option Addr) (cap : Nat) (w : World) (hl : l.length ≤ 1048576) (hat : At1 w w.heap.size A (l.map Value.string)) :
    Calls Tryd.prog 25 #[.slice A l.length cap] w fun e w' => ∃ o, e = .returned o ∧ w'.ownsRow w.heap.size 9 1 o l.length (l.map Value.string) ∧ Below w.heap.size w w' := by
  obtain ⟨i0, hi, hz0, hz1, hz2⟩ := info_parts infoS
  have HA := Lib.hid hat
  clear hat
  go_enter Tryd.func25, Tryd.ntmps25
  go_wp2_with (at_make; refine wpList_make_full _ rfl _ _ 37 rfl w.heap.size 9 i0 _ 1 Tryd.underlying37 hi hz0 hz1 _ _ _ _ l.length rfl rfl (by omega) (by omega) ?b1 ?b2 ?b3 ?_)
  case b1 => rw [hz2]; omega
  case b2 => unfold maxLen; omega
  case b3 => omega
  intro w1 hown1 hg1
  have hxl := hown1.1
  go_wp2_with fail
  go_loopw [4] (fun i wr => ∃ j : Nat, j ≤ l.length ∧ i = .int .i64 j ∧ (∃ xs : List Value, xs.length = l.length ∧ wr.ownsRow w.heap.size 9 1 (.slice (some ⟨w.heap.size, 0, none⟩) l.length l.length) l.length (fillS (l.map Value.string) xs j)) ∧ Below w.heap.size w wr) (fun i _ => l.length - (intOf i).toNat)
  case atStart => exact ⟨0, Nat.zero_le _, rfl, ⟨_, by rw [Nat.mul_one] at hxl; exact hxl, by simpa [fillS] using hown1⟩, (Below.refl _ _).grown hg1 (Nat.le_refl _) (fun k h => by cases h)⟩
  case round =>
    obtain ⟨j, hj, rfl, ⟨xs, hxs, hown⟩, hb⟩ := hrel
    by_cases hlt : j < l.length
    · obtain ⟨b, off, rfl, hbl, hc⟩ := (HA.out.below hb (Nat.le_refl _)).get (j := j) (by simpa using hlt)
      rw [List.getElem_map] at hc
      have hst := fillS_step (l.map Value.string) xs j (by simpa using hlt) (by simpa using hxs)
      rw [List.getElem_map] at hst
      have hfl : (fillS (l.map Value.string) xs j).length = l.length := by simpa using hown.1
      have hcell := hown.cellAt j (by omega)
      rw [List.getElem?_eq_getElem (by omega)] at hcell
      obtain ⟨u0, d0⟩ : ∃ u, wr.cell? ⟨w.heap.size, j, none⟩ = some u := ⟨_, hcell⟩
      have k0 := hown.frozenAt j
      have HST := Lib.hid hst
      have HO := Lib.hid hown
      have HX := Lib.hid hxs
      clear hst hcell hown hxs hfl
      go_wp2_with fail
      go_roundw
      case rel => exact ⟨j + 1, by omega, by go_num, ⟨xs, HX.out, by rw [← HST.out]; exact (HO.out.stored j _).1⟩, hb.setCell (Nat.le_refl _) _⟩
      case measure => simp [intOf]; omega
    · obtain rfl : j = l.length := by omega
      have hfa := fillS_all (l.map Value.string) xs (by simpa using hxs)
      rw [List.length_map] at hfa
      rw [hfa] at hown
      go_wp2_with fail
      go_ret
      exact ⟨_, rfl, hown, hb⟩

set_option maxHeartbeats 1000000 in
theorem szStringRow (l : List ByteArray) (A : Option Addr) (cap : Nat) (w : World) (hl : l.length ≤ maxLen) (hs : ∀ s ∈ l, s.size ≤ maxLen) (hat : At1 w w.heap.size A (l.map Value.string)) :
    Calls Tryd.prog 23 #[.slice A l.length cap, .int .i64 1048576] w fun e w' => (∃ r : Int, e = .returned (.int .i64 r) ∧ (¬ r < 0 → l.length ≤ 1048576 ∧ ∀ s ∈ l, s.size ≤ 1048576)) ∧ Below w.heap.size w w' := by
  have HA := Lib.hid hat
  have HS : Hid (∀ j (h : j < l.length), (l[j]).size ≤ 9223372036854775807) := Lib.hid (fun j h => by have := hs _ (List.getElem_mem h); unfold maxLen at this; omega)
  have hl2 : l.length ≤ 9223372036854775807 := by unfold maxLen at hl; omega
  clear hat hs hl
  by_cases h0 : l.length ≤ 1048576
  · have q : ¬ ((1048576 : Int) - (l.length : Int)) < 0 := by omega
    go_enter Tryd.func23, Tryd.ntmps23
    go_wp2_with fail
    go_loopw [1, 5] (fun n i wr => ∃ (j : Nat) (m : Int), j ≤ l.length ∧ i = .int .i64 j ∧ n = .int .i64 m ∧ 0 ≤ m ∧ m ≤ 1048576 ∧ (∀ s ∈ l.take j, s.size ≤ 1048576) ∧ Below w.heap.size w wr) (fun _ i _ => l.length - (intOf i).toNat)
    case atStart => exact ⟨0, (1048576 : Int) - (l.length : Int), Nat.zero_le _, rfl, rfl, by omega, by omega, (fun s h => by simp at h), Below.refl _ _⟩
    case round =>
      obtain ⟨j, m, hj, rfl, rfl, hm0, hm1, hall, hb⟩ := hrel
      have HALL := Lib.hid hall
      clear hall
      by_cases hlt : j < l.length
      · obtain ⟨b, off, rfl, hbl, hc⟩ := (HA.out.below hb (Nat.le_refl _)).get (j := j) (by simpa using hlt)
        rw [List.getElem_map] at hc
        have hsz := HS.out j hlt
        by_cases hn : m - ((l[j]).size : Int) < 0
        · go_wp2_with fail
          go_ret
          exact ⟨⟨_, rfl, fun h => absurd h (by decide)⟩, hb⟩
        · have HN : Hid (∀ s ∈ l.take (j + 1), s.size ≤ 1048576) := Lib.hid (fun s h => by
            rw [List.take_succ_eq_append_getElem hlt] at h
            rcases List.mem_append.1 h with h | h
            · exact HALL.out s h
            · simp at h; subst h; omega)
          go_wp2_with fail
          go_roundw
          case rel => exact ⟨j + 1, m - ((l[j]).size : Int), by omega, by go_num, rfl, by omega, by omega, HN.out, hb⟩
          case measure => simp [intOf]; omega
      · obtain rfl : j = l.length := by omega
        have HN : Hid (∀ s ∈ l, s.size ≤ 1048576) := Lib.hid (by have := HALL.out; rwa [List.take_length] at this)
        go_wp2_with fail
        go_ret
        exact ⟨⟨_, rfl, by first | exact fun _ => ⟨h0, HN.out⟩ | exact fun _ => HN.out | (intro _; simp [h0]; exact HN.out)⟩, hb⟩
  · have q : ((1048576 : Int) - (l.length : Int)) < 0 := by omega
    go_enter Tryd.func23, Tryd.ntmps23
    go_wp2_with fail
    go_ret
    exact ⟨⟨_, rfl, by first | exact fun h => absurd h (by decide) | simp | (intro h; omega) | exact fun h => absurd h h0⟩, Below.refl _ _⟩
end Go.Proofs.YtlgonfdodmipeaaDoor
