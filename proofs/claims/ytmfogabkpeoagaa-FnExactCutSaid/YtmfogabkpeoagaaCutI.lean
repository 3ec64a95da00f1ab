/-
  Cut of the program: the pieces of a text, in a row of their own.
-/
import Derived.Test.YtmfogabkpeoagaaCut
namespace Go.Proofs.Ytmfogabkpeoagaa
open Go.RowKit
set_option linter.unusedVariables false
set_option linter.unusedSimpArgs false

set_option maxHeartbeats 2000000 in
theorem implCut (s : ByteArray) (l : List Int) (A : Option Addr) (cap : Nat) (w : World) (hs : s.size ≤ 1048576) (hl : l.length ≤ 1048576) (hw : ∀ z ∈ l, -9223372036854775808 ≤ z ∧ z ≤ 9223372036854775807) (hat : At1 w w.heap.size A (l.map iz)) :
    Calls Try.prog 7 #[.string s, .slice A l.length cap] w fun e w' => ∃ o, e = .returned o ∧ w'.ownsRow w.heap.size 9 1 o (cutL s l).length ((cutL s l).map tv) ∧ Below w.heap.size w w' := by
  have HA := Lib.hid hat
  have HW := Lib.hid hw
  clear hat hw
  go_enter Try.func7, Try.ntmps7
  go_wp2_with fail
  go_loopw [0, 5, 12] (fun x o i wr => CutRel s l w x o i wr) (fun _ _ i _ => l.length - (intOf i).toNat)
  case atStart => exact ⟨0, s, [], Nat.zero_le _, rfl, rfl, Nat.le_refl _, Nat.le_refl _, rfl, own_empty w _ _, (Below.refl _ _).alloc (Nat.le_refl _) _⟩
  case round =>
    obtain ⟨j, t, acc, hj, rfl, rfl, ht, ha, he, hown, hb⟩ := hrel
    have HE := Lib.hid he
    clear he
    by_cases h0 : t.size = 0
    · have h0' : t.toList.isEmpty = true := ba_size0.2 h0
      have h0n : (!t.toList.isEmpty) = false := by rw [h0']; rfl
      have HEE := Lib.hid (show acc = cutL s l by have := HE.out; rwa [cutL_empty t _ h0, List.append_nil] at this)
      by_cases hlt : j < l.length
      · obtain ⟨b, off, rfl, hbl, hc⟩ := (HA.out.below hb (Nat.le_refl _)).get (j := j) (by simpa using hlt)
        rw [List.getElem_map] at hc
        unfold iz at hc
        go_wp2_with fail
        go_ret
        exact ⟨_, rfl, by rw [← HEE.out]; exact hown, hb⟩
      · go_wp2_with fail
        go_ret
        exact ⟨_, rfl, by rw [← HEE.out]; exact hown, hb⟩
    · have h0' : t.toList.isEmpty = false := by
        cases hh : t.toList.isEmpty with
        | false => rfl
        | true => exact absurd (ba_size0.1 hh) h0
      have h0n : (!t.toList.isEmpty) = true := by rw [h0']; rfl
      by_cases hlt : j < l.length
      · obtain ⟨b, off, rfl, hbl, hc⟩ := (HA.out.below hb (Nat.le_refl _)).get (j := j) (by simpa using hlt)
        rw [List.getElem_map] at hc
        have hz := HW.out l[j] (List.getElem_mem hlt)
        unfold iz at hc
        rcases (show l[j] < 1 ∨ (1 ≤ l[j] ∧ (t.size : Int) < l[j]) ∨ (1 ≤ l[j] ∧ l[j] ≤ t.size) by omega) with h | h | h
        · have hn : (1 : Nat) = cutN l[j] t := by unfold cutN; rw [if_pos h]; omega
          have HN := Lib.hid hn
          clear hn
          go_wp2_with (at_builtin; refine wpList_app rfl (.tmp 24) (.tmp 28) 23 rfl w.heap.size 9 Try.underlying23 infoStr rfl (by decide) (W := w) rfl (hown.alloc _) (hb.alloc hb.size _) (Nat.le_trans hb.size (by simp)) _ 1 1 _ rfl rfl (cells_new _ _ _) (one_sv _) (by unfold maxLen; omega) (by omega) ?_; intro v' w' hown' hb' hB')
          go_roundw
          case rel => exact cut_next hlt ht h0 ha HE.out HN.out rfl hown' hb'
          case measure => simp [intOf]; omega
        · obtain ⟨h1, h2⟩ := h
          have hn : t.size = cutN l[j] t := by unfold cutN; rw [if_neg (by omega), if_pos h2]
          have HN := Lib.hid hn
          clear hn
          go_wp2_with (at_builtin; refine wpList_app rfl (.tmp 24) (.tmp 28) 23 rfl w.heap.size 9 Try.underlying23 infoStr rfl (by decide) (W := w) rfl (hown.alloc _) (hb.alloc hb.size _) (Nat.le_trans hb.size (by simp)) _ 1 1 _ rfl rfl (cells_new _ _ _) (one_sv _) (by unfold maxLen; omega) (by omega) ?_; intro v' w' hown' hb' hB')
          go_roundw
          case rel => rw [show ByteArray.empty = t.extract t.size t.size by simp]; exact cut_next hlt ht h0 ha HE.out (n := t.size) HN.out rfl (by rw [show t.extract 0 t.size = t by simp]; exact hown') hb'
          case measure => simp [intOf]; omega
        · obtain ⟨h1, h2⟩ := h
          obtain ⟨n, hn0⟩ := Int.eq_ofNat_of_zero_le (show 0 ≤ l[j] by omega)
          have hn : n = cutN l[j] t := by unfold cutN; rw [if_neg (by omega), if_neg (by omega), hn0]; rfl
          have HN := Lib.hid hn
          rw [hn0] at hc h1 h2
          clear hn hn0 hz
          have hmx : (if 1 < (n : Int) then (n : Int) else 1) = (n : Int) := by split <;> omega
          go_wp2_with (at_builtin; refine wpList_app rfl (.tmp 24) (.tmp 28) 23 rfl w.heap.size 9 Try.underlying23 infoStr rfl (by decide) (W := w) rfl (hown.alloc _) (hb.alloc hb.size _) (Nat.le_trans hb.size (by simp)) _ 1 1 _ rfl rfl (cells_new _ _ _) (one_sv _) (by unfold maxLen; omega) (by omega) ?_; intro v' w' hown' hb' hB')
          go_roundw
          case rel => exact cut_next hlt ht h0 ha HE.out HN.out rfl hown' hb'
          case measure => simp [intOf]; omega
      · obtain rfl : j = l.length := by omega
        have HEE := Lib.hid (show acc ++ [t] = cutL s l by have := HE.out; rw [List.drop_length, cutL, if_neg h0] at this; exact this)
        go_wp2_with (at_builtin; refine wpList_app rfl (.tmp 36) (.tmp 38) 23 rfl w.heap.size 9 Try.underlying23 infoStr rfl (by decide) (W := w) rfl (hown.alloc _) (hb.alloc hb.size _) (Nat.le_trans hb.size (by simp)) _ 1 1 _ rfl rfl (cells_new _ _ _) (one_sv _) (by unfold maxLen; omega) (by omega) ?_; intro v' w' hown' hb' hB')
        go_ret
        exact ⟨_, rfl, by rw [← HEE.out]; simpa [tv] using hown', hb'⟩
end Go.Proofs.Ytmfogabkpeoagaa
