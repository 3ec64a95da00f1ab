/-
  Unquote of the reference: the text behind a quote.
-/
import Derived.Test.YtlgonfdodmipeaaDoorUnqE
namespace Go.Proofs.YtlgonfdodmipeaaDoor
open Go.RowKit
set_option linter.unusedVariables false
set_option linter.unusedSimpArgs false
set_option maxRecDepth 100000

set_option maxHeartbeats 4000000 in
theorem specEscape (s : ByteArray) (i : Nat) (w : World) (hs : s.size ≤ 1048576) (hi : i < s.size) :
    Calls Tryd.prog 32 #[.string s, .int .i64 ((i : Int) + 1)] w fun e w' => e = .returned (.tuple #[.string (escB s i), .int .i64 (escE s i)]) ∧ Below w.heap.size w w' := by
  by_cases h1 : i + 1 < s.size
  · obtain ⟨c, hc⟩ : ∃ c, s[i + 1].toNat = c := ⟨_, rfl⟩
    have hc' : (s.get! (i + 1)).toNat = c := by rw [← get_get! s (i + 1) h1]; exact hc
    have hu : c < 256 := by rw [← hc]; exact UInt8.toNat_lt _
    have hx : ((i : Int) + 1).toNat = i + 1 := by omega
    by_cases h47 : c = 47
    · subst h47
      have HE := Lib.hid (esc_some (esc_long h1 hc' (by decide)))
      clear hc'
      go_enter Tryd.func32, Tryd.ntmps32
      go_wp2_with fail
      go_ret2
      exact ⟨tupV (congrArg Value.string HE.out.1.symm) (congrArg (Value.int .i64) HE.out.2.symm), Below.refl _ _⟩
    · by_cases h0 : c = 0
      · subst h0
        have HE := Lib.hid (esc_none (esc_bad h1 hc' (by decide) (by decide)))
        clear hc'
        go_enter Tryd.func32, Tryd.ntmps32
        go_wp2_with fail
        go_loopw [6] (fun v wr => ∃ b : Nat, b ≤ 128 ∧ v = .int .i64 b ∧ Below w.heap.size w wr) (fun v _ => 128 - (intOf v).toNat)
        case atStart => exact ⟨0, by omega, rfl, Below.refl _ _⟩
        case round =>
          obtain ⟨b, hb, rfl, hbl⟩ := hrel
          by_cases hlt : b < 128
          · go_wp2_with fail
            go_quiet (fail)
            go_wp2_with fail
            go_roundw
            case rel => exact ⟨b + 1, by omega, by go_num, below_drewN hbl _⟩
            case measure => simp [intOf]; omega
          · obtain rfl : b = 128 := by omega
            go_wp2_with fail
            go_ret2
            exact ⟨tupV (congrArg Value.string HE.out.1.symm) (congrArg (Value.int .i64) HE.out.2.symm), hbl⟩
      · by_cases h117 : c = 117
        · subst h117
          have hz1 := unitZ_range s (i + 2)
          have hz2 := unitZ_range s (i + 8)
          have HU1 := Lib.hid (fun w => specUnit s (i + 2) w hs (by omega))
          have HU2 := Lib.hid (fun w => specUnit s (i + 8) w hs (by omega))
          have HE1 := Lib.hid (fun h2 h3 h4 => esc_some (esc_two h1 hc' h2 h3 h4))
          have HE2 := Lib.hid (fun h2 h3 => esc_none (esc_lone h1 hc' h2 h3))
          have HE3 := Lib.hid (fun h2 h3 => esc_some (esc_one h1 hc' h2 h3))
          have HE4 := Lib.hid (fun h2 h3 => esc_none (esc_off h1 hc' h2 h3))
          generalize unitZ s (i + 2) = n at *
          generalize unitZ s (i + 8) = m at *
          clear hc'
          go_enter Tryd.func32, Tryd.ntmps32
          go_wp2_with fail
          go_loopw [6] (fun v wr => ∃ b : Nat, b ≤ 128 ∧ v = .int .i64 b ∧ Below w.heap.size w wr) (fun v _ => 128 - (intOf v).toNat)
          case atStart => exact ⟨0, by omega, rfl, Below.refl _ _⟩
          case round =>
            obtain ⟨b, hb, rfl, hbl⟩ := hrel
            by_cases hlt : b < 128
            · go_wp2_with fail
              go_quiet (fail)
              go_wp2_with fail
              go_roundw
              case rel => exact ⟨b + 1, by omega, by go_num, below_drewN hbl _⟩
              case measure => simp [intOf]; omega
            · obtain rfl : b = 128 := by omega
              go_wp2_with fail
              refine (HU1.out _).mono ?_
              rintro e w1 ⟨rfl, rfl⟩
              by_cases hn : 55296 ≤ n ∧ n ≤ 56319
              · have hd1 : decide (55296 ≤ n) = true := by simp; omega
                have hd2 : decide (n ≤ 56319) = true := by simp; omega
                have hns : isSg n = false := by unfold isSg; simp; omega
                have hz0 : (signB n) = ⟨#[]⟩ := by unfold signB; rw [if_neg (by rw [hns]; decide)]
                by_cases h8 : i + 8 ≤ s.size
                · by_cases hq : (s.get! (i + 6)).toNat = 92 ∧ (s.get! (i + 7)).toNat = 117
                  · have q : ((s.extract (i + 1 + 5) (i + 1 + 7)).toList == [92, 117]) = true := by
                      have := ext_two s (i + 6) (by omega) 92 117
                      rw [this, decide_eq_true_iff]
                      exact ⟨UInt8.toNat_inj.1 hq.1, UInt8.toNat_inj.1 hq.2⟩
                    go_wp2_with (first | (go_at_call 45; go_in) | fail)
                    refine (HU2.out _).mono ?_
                    rintro e w2 ⟨rfl, rfl⟩
                    by_cases hm : 56320 ≤ m ∧ m ≤ 57343
                    · have hd3 : decide (56320 ≤ m) = true := by simp; omega
                      have hd4 : decide (m ≤ 57343) = true := by simp; omega
                      have HF := Lib.hid (HE1.out hn ⟨h8, hq⟩ hm)
                      go_wp2_with (first | (go_at_call 45; go_in) | fail)
                      refine (specPutSign _ _ ⟨by omega, by omega⟩).mono ?_
                      rintro e w3 ⟨rfl, hb3⟩
                      go_wp2_with fail
                      go_ret2
                      exact ⟨tupV (congrArg Value.string (by rw [HF.out.1]; unfold pairZ; congr 1)) (congrArg (Value.int .i64) (by rw [HF.out.2]; omega)), hbl.trans (hb3.mono hbl.size)⟩
                    · have HF := Lib.hid (HE2.out hn (fun h => hm ⟨h.2.2.2.1, h.2.2.2.2⟩))
                      have hin : (decide (56320 ≤ m) = false) ∨ (decide (56320 ≤ m) = true ∧ decide (m ≤ 57343) = false) := by simp; omega
                      rcases hin with hd3 | ⟨hd3, hd4⟩
                      all_goals
                        go_wp2_with (first | (go_at_call 45; go_in) | fail)
                        refine (specPutSign n _ ⟨by omega, by omega⟩).mono ?_
                        rintro e w3 ⟨rfl, hb3⟩
                        rw [hz0]
                        go_wp2_with fail
                        go_ret2
                        exact ⟨tupV (congrArg Value.string HF.out.1.symm) (congrArg (Value.int .i64) HF.out.2.symm), hbl.trans (hb3.mono hbl.size)⟩
                  · have q : ((s.extract (i + 1 + 5) (i + 1 + 7)).toList == [92, 117]) = false := by
                      have := ext_two s (i + 6) (by omega) 92 117
                      rw [this, decide_eq_false_iff_not]
                      intro h
                      exact hq ⟨by rw [h.1]; rfl, by rw [h.2]; rfl⟩
                    have HF := Lib.hid (HE2.out hn (fun h => hq ⟨h.2.1, h.2.2.1⟩))
                    go_wp2_with (first | (go_at_call 45; go_in) | fail)
                    refine (specPutSign n _ ⟨by omega, by omega⟩).mono ?_
                    rintro e w3 ⟨rfl, hb3⟩
                    rw [hz0]
                    go_wp2_with fail
                    go_ret2
                    exact ⟨tupV (congrArg Value.string HF.out.1.symm) (congrArg (Value.int .i64) HF.out.2.symm), hbl.trans (hb3.mono hbl.size)⟩
                · have HF := Lib.hid (HE2.out hn (fun h => h8 h.1))
                  have h8' : (s.size : Int) < (i : Int) + 1 + 7 := by omega
                  go_wp2_with (first | (go_at_call 45; go_in) | fail)
                  refine (specPutSign n _ ⟨by omega, by omega⟩).mono ?_
                  rintro e w3 ⟨rfl, hb3⟩
                  rw [hz0]
                  go_wp2_with fail
                  go_ret2
                  exact ⟨tupV (congrArg Value.string HF.out.1.symm) (congrArg (Value.int .i64) HF.out.2.symm), hbl.trans (hb3.mono hbl.size)⟩
              · have hin : (decide (55296 ≤ n) = false) ∨ (decide (55296 ≤ n) = true ∧ decide (n ≤ 56319) = false) := by simp; omega
                cases hsg : isSg n with
                | false =>
                  have HF := Lib.hid (HE4.out hn hsg)
                  have hz0 : (signB n) = ⟨#[]⟩ := by unfold signB; rw [if_neg (by rw [hsg]; decide)]
                  rcases hin with hd1 | ⟨hd1, hd2⟩
                  all_goals
                    go_wp2_with (first | (go_at_call 45; go_in) | fail)
                    refine (specPutSign n _ ⟨by omega, by omega⟩).mono ?_
                    rintro e w3 ⟨rfl, hb3⟩
                    rw [hz0]
                    go_wp2_with fail
                    go_ret2
                    exact ⟨tupV (congrArg Value.string HF.out.1.symm) (congrArg (Value.int .i64) HF.out.2.symm), hbl.trans (hb3.mono hbl.size)⟩
                | true =>
                  have HF := Lib.hid (HE3.out hn hsg)
                  have hne : ((signB n).toList == []) = false := by
                    rw [beq_eq_false_iff_ne, ByteArray.toList_eq]
                    intro h
                    have := (signB_nil n).1 (by rw [Lib.size_eq, h]; rfl)
                    rw [hsg] at this
                    cases this
                  rcases hin with hd1 | ⟨hd1, hd2⟩
                  all_goals
                    go_wp2_with (first | (go_at_call 45; go_in) | fail)
                    refine (specPutSign n _ ⟨by omega, by omega⟩).mono ?_
                    rintro e w3 ⟨rfl, hb3⟩
                    go_wp2_with fail
                    refine (specPutSign n _ ⟨by omega, by omega⟩).mono ?_
                    rintro e w4 ⟨rfl, hb4⟩
                    have hbl3 := hbl.trans (hb3.mono hbl.size)
                    go_wp2_with fail
                    go_ret2
                    exact ⟨tupV (congrArg Value.string HF.out.1.symm) (congrArg (Value.int .i64) (by rw [HF.out.2]; omega)), hbl3.trans (hb4.mono hbl3.size)⟩
        · exact specEscO s i c w hs h1 hc h0 h47 h117
  · have HE := Lib.hid (esc_none (esc_end (s := s) (i := i) (by omega)))
    go_enter Tryd.func32, Tryd.ntmps32
    go_wp2_with fail
    go_ret2
    exact ⟨tupV (congrArg Value.string HE.out.1.symm) (congrArg (Value.int .i64) HE.out.2.symm), Below.refl _ _⟩
end Go.Proofs.YtlgonfdodmipeaaDoor
