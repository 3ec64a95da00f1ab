/-
  Unquote of the reference: what a backslash begins.
-/
import Derived.Test.YtlgonfdodmipeaaDoorUnqS
namespace Go.Proofs.YtlgonfdodmipeaaDoor
open Go.RowKit
set_option linter.unusedVariables false
set_option linter.unusedSimpArgs false
set_option maxRecDepth 100000

set_option maxHeartbeats 400000 in
theorem specEscO (s : ByteArray) (i c : Nat) (w : World) (hs : s.size ≤ 1048576) (h1 : i + 1 < s.size) (hc : s[i + 1].toNat = c) (h0 : ¬ c = 0) (h47 : ¬ c = 47) (h117 : ¬ c = 117) :
    Calls Tryd.prog 32 #[.string s, .int .i64 ((i : Int) + 1)] w fun e w' => e = .returned (.tuple #[.string (escB s i), .int .i64 (escE s i)]) ∧ Below w.heap.size w w' := by
  have hc' : (s.get! (i + 1)).toNat = c := by rw [← get_get! s (i + 1) h1]; exact hc
  have hu : c < 256 := by rw [← hc]; exact UInt8.toNat_lt _
  have hx : ((i : Int) + 1).toNat = i + 1 := by omega
  have hl := lit1 (P := Tryd.prog) 25 9 5 Tryd.underlying25 Tryd.underlying5 Tryd.underlying9
  have HEH : Hid (∀ b, shortOf b = c → escB s i = str [UInt8.ofNat b] ∧ escE s i = ((i + 2 : Nat) : Int)) := Lib.hid (fun b h => by
    have h3 := short_long (b := b) (by omega)
    rw [h] at h3
    have hb0 : b ≠ 0 := by
      rintro rfl
      exact h0 h.symm
    have h2 := esc_some (esc_long h1 hc' (by omega))
    have h4 := h3.1
    rw [h4] at h2
    exact h2)
  have HEN : Hid ((∀ b, b < 128 → shortOf b ≠ c) → escB s i = ⟨#[]⟩ ∧ escE s i = -1) := Lib.hid (fun h => esc_none (esc_bad h1 hc' (by
    rcases Nat.eq_zero_or_pos (longOf c) with h2 | h2
    · exact h2
    · exact absurd (long_short (by omega) h47) (h _ (longOf_lt c))) h117))
  have hz0 : ¬ (c : Int) = 0 := by omega
  have hz1 : ¬ (c : Int) = 117 := by omega
  have hz4 : ((c : Int) == 47) = false := by simp; omega
  have hz5 : ((c : Int) != 0) = true := by simp; omega
  have hz6 : ((c : Int) != 117) = true := by simp; omega
  clear hc'
  go_enter Tryd.func32, Tryd.ntmps32
  go_wp2_with fail
  go_loopw [6] (fun v wr => ∃ b : Nat, b ≤ 128 ∧ v = .int .i64 b ∧ Hid (∀ k, k < b → shortOf k ≠ c) ∧ Below w.heap.size w wr) (fun v _ => 128 - (intOf v).toNat)
  case atStart => exact ⟨0, by omega, rfl, Lib.hid (fun k hk => by omega), Below.refl _ _⟩
  case round =>
    obtain ⟨b, hb, rfl, HN, hbl⟩ := hrel
    by_cases hlt : b < 128
    · have hsl := short_lt b
      have hw8 : IntKind.u8.wrap (b : Int) = (b : Int) := by rw [IntKind.wrap_u8]; omega
      have hi1 : (0 : Int) ≤ (i : Int) + 1 ∧ (i : Int) + 1 < (s.size : Int) := by omega
      have HSH := Lib.hid (fun W => specShort b (by omega) W)
      by_cases hhit : shortOf b = c
      · have HF := Lib.hid (HEH.out b hhit)
        rw [hhit] at HSH
        have q : ((c : Int) == (c : Int)) = true := by simp
        go_wp2_with fail
        go_region_held3 (fun _ => True) (exact trivial) (first | (go_at_call 53; refine (HSH.out _).mono ?_; rintro e w2 ⟨rfl, hb2⟩))
        all_goals
          have hb3 := hbl.drew.trans (hb2.mono (by first | exact hbl.size | exact hbl.drew.size))
          go_wp2_with fail
          go_ret2
          exact ⟨tupV (congrArg Value.string HF.out.1.symm) (congrArg (Value.int .i64) (by rw [HF.out.2]; omega)), hb3.alloc hb3.size _⟩
      · have HN2 : Hid (∀ k, k < b + 1 → shortOf k ≠ c) := Lib.hid (fun k hk => by
          rcases Nat.lt_or_ge k b with h | h
          · exact HN.out k h
          · obtain rfl : k = b := by omega
            exact hhit)
        have q : ((shortOf b : Int) == (c : Int)) = false := by simp; omega
        generalize shortOf b = x at *
        go_wp2_with fail
        go_region_held3 (fun _ => True) (exact trivial) (first | (go_at_call 53; refine (HSH.out _).mono ?_; rintro e w2 ⟨rfl, hb2⟩))
        all_goals
          have hb3 := hbl.drew.trans (hb2.mono (by first | exact hbl.size | exact hbl.drew.size))
          go_wp2_with fail
          go_roundw
          case rel => exact ⟨b + 1, by omega, by go_num, HN2, hb3⟩
          case measure => simp [intOf]; omega
    · obtain rfl : b = 128 := by omega
      have HF := Lib.hid (HEN.out HN.out)
      go_wp2_with fail
      go_ret2
      exact ⟨tupV (congrArg Value.string HF.out.1.symm) (congrArg (Value.int .i64) HF.out.2.symm), hbl⟩
end Go.Proofs.YtlgonfdodmipeaaDoor
