/-
  Quote of the program: the text in its quotes.
-/
import Derived.Test.YtmfogabkpeoagaaDoorQuote
import Derived.Deep.RegionHeld3
namespace Go.Proofs.YtmfogabkpeoagaaDoor
open Go.RowKit
set_option linter.unusedVariables false

theorem letter_at (j : Nat) (h : j < 7) : (ByteArray.mk #[34, 92, 98, 102, 110, 114, 116])[j]'h = ([34, 92, 98, 102, 110, 114, 116] : List UInt8)[j]'h := by
  have : ∀ m : Fin 7, (ByteArray.mk #[34, 92, 98, 102, 110, 114, 116])[m.val]'m.isLt = ([34, 92, 98, 102, 110, 114, 116] : List UInt8)[m.val]'m.isLt := by decide
  exact this ⟨j, h⟩
theorem hex_cells6 (n : Nat) (p q) : #[Value.int .u8 92, Value.int .u8 117, Value.int .u8 48, Value.int .u8 48, Value.int .u8 (((ByteArray.mk #[48, 49, 50, 51, 52, 53, 54, 55, 56, 57, 97, 98, 99, 100, 101, 102])[((n : Int) / 16).toNat]'p).toNat : Int), Value.int .u8 (((ByteArray.mk #[48, 49, 50, 51, 52, 53, 54, 55, 56, 57, 97, 98, 99, 100, 101, 102])[((n : Int) % 16).toNat]'q).toNat : Int)].toList = ([92, 117, 48, 48] ++ [hexD (n / 16), hexD (n % 16)]).map bv := by
  have h := hex_cells n p q
  simp only [List.map_append, ← h]
  rfl

set_option maxRecDepth 100000 in
set_option maxHeartbeats 2000000 in
theorem implQuote (s : ByteArray) (w : World) (hs : s.size ≤ 1048576) (hT : Tabs w) :
    Calls Tryd.prog 22 #[.string s] w fun e w' => e = .returned (.string (quoteB s)) ∧ Below w.heap.size w w' := by
  cases hok0 : textOk s with
  | false =>
    have HQ := Lib.hid (quote_no hok0)
    have HO := Lib.hid hok0
    clear hok0
    go_enter Tryd.func22, Tryd.ntmps22
    go_wp2_with fail
    refine (implTextOk s w hs hT).mono ?_
    rintro e w1 ⟨rfl, hb1⟩
    rw [HO.out]
    go_wp2_with fail
    go_ret
    exact ⟨ret_eq (congrArg Value.string HQ.out.symm), hb1⟩
  | true =>
    have HQ := Lib.hid (quote_yes hok0)
    have HO := Lib.hid hok0
    clear hok0
    go_enter Tryd.func22, Tryd.ntmps22
    go_wp2_with fail
    refine (implTextOk s w hs hT).mono ?_
    rintro e w1 ⟨rfl, hb1⟩
    rw [HO.out]
    have hsz1 := hb1.size
    go_wp2_with fail
    go_loopw [3, 13] (fun o i wr => QRel s w o i wr) (fun _ i _ => s.size - (intOf i).toNat)
    case atStart => exact ⟨0, Nat.zero_le _, rfl, own_lit1 w1 5 (.int .u8 34) hsz1, hb1.alloc hsz1 _⟩
    case round =>
      obtain ⟨j, hj, rfl, hown, hb⟩ := hrel
      have hql := qTo_len s j
      by_cases hlt : j < s.size
      · have hu : s[j].toNat < 256 := UInt8.toNat_lt _
        have hel := escL_len s[j]
        rcases short_cases s[j].toNat with ⟨hsh, hk⟩ | ⟨k, hk, hk7, hsh, hlet⟩
        · have HK := Lib.hid hk
          by_cases hlow : s[j].toNat < 32
          · have HE := Lib.hid (escL_low hsh hlow)
            have e15 := and15 s[j].toNat hu
            clear hsh hk
            go_wp2_with fail
            refine (implShort _ hu _).mono ?_
            rintro e w2 ⟨rfl, rfl⟩
            rw [HK.out]
            go_wp2_with fail
            go_region_held3 (fun _ => True) (exact trivial) (first | (refine step_app rfl (.tmp 36) (.tmp 43) 37 rfl w.heap.size 5 Tryd.underlying37 infoU8 rfl (by decide) rfl (hown.alloc _) (hb.alloc hb.size _).drew (Nat.le_trans hb.size (by simp)) _ 6 6 _ rfl rfl (cells_newD _ _ _) (ones6 _ _ _ _ _ _) (by unfold maxLen; omega) (by omega) ?_; intro v' w' hown' hb' hB'))
            all_goals
              rw [hex_cells6] at hown'
              go_wp2_with fail
              go_roundw
              case rel => exact q_next hlt (by rw [HE.out]; rfl) (by rw [HE.out]; simp [hexOf]) hown' hb'
              case measure => simp [intOf]; omega
          · have HE := Lib.hid (escL_own hsh hlow)
            clear hsh hk
            go_wp2_with fail
            refine (implShort _ hu _).mono ?_
            rintro e w2 ⟨rfl, rfl⟩
            rw [HK.out]
            go_wp2_with (at_builtin; refine wpList_app rfl (.tmp 21) (.tmp 23) 37 rfl w.heap.size 5 Tryd.underlying37 infoU8 rfl (by decide) (W := w) rfl (hown.alloc _) (hb.alloc hb.size _) (Nat.le_trans hb.size (by simp)) _ 1 1 _ rfl rfl (cells_new _ _ _) (one_u8 _) (by unfold maxLen; omega) (by omega) ?_; intro v' w' hown' hb' hB')
            go_roundw
            case rel => exact q_next hlt (by rw [HE.out]; rfl) (by rw [HE.out]; rfl) hown' hb'
            case measure => simp [intOf]; omega
        · have HE := Lib.hid (escL_short hsh)
          have HK := Lib.hid hk
          have HL := Lib.hid (show (escL s[j]).length = 2 by unfold escL; rw [if_pos hsh]; rfl)
          have HLT := Lib.hid hlet
          clear hsh hk hlet
          go_wp2_with fail
          refine (implShort _ hu _).mono ?_
          rintro e w2 ⟨rfl, rfl⟩
          rw [HK.out]
          go_wp2_with (at_builtin; refine wpList_app rfl (.tmp 28) (.tmp 31) 37 rfl w.heap.size 5 Tryd.underlying37 infoU8 rfl (by decide) (W := w) rfl (hown.alloc _) (hb.alloc hb.size _) (Nat.le_trans hb.size (by simp)) _ 2 2 _ rfl rfl (cells_new _ _ _) (ones_u8 _ _) (by unfold maxLen; omega) (by omega) ?_; intro v' w' hown' hb' hB')
          go_roundw
          case rel => exact q_next hlt (by rw [HL.out]) (by rw [HE.out, ← HLT.out, ← letter_at k hk7]) hown' hb'
          case measure => simp [intOf]; omega
      · obtain rfl : j = s.size := by omega
        go_wp2_with (at_builtin; refine wpList_app rfl (.tmp 46) (.tmp 47) 37 rfl w.heap.size 5 Tryd.underlying37 infoU8 rfl (by decide) (W := w) rfl (hown.alloc _) (hb.alloc hb.size _) (Nat.le_trans hb.size (by simp)) _ 1 1 _ rfl rfl (cells_new _ _ _) (one_u8 _) (by unfold maxLen; omega) (by omega) ?_; intro v' w' hown' hb' hB'; have hcv := run_string_own (P := Tryd.prog) (l := qTo s s.size ++ [34]) 37 9 5 Tryd.underlying37 Tryd.underlying5 Tryd.underlying9 (by simpa [bv] using hown'))
        go_ret
        exact ⟨ret_eq (congrArg Value.string HQ.out.symm), hb'⟩
end Go.Proofs.YtmfogabkpeoagaaDoor
