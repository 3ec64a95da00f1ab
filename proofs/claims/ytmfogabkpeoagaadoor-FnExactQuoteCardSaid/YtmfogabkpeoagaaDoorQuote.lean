/-
  Quote of the reference: the text in its quotes.
-/
import Derived.Test.YtmfogabkpeoagaaDoorQuoteP
import Derived.Test.YtmfogabkpeoagaaDoorPutHexS
import Derived.Test.YtmfogabkpeoagaaDoorSigns
import Derived.Lib.AppendStr
namespace Go.Proofs.YtmfogabkpeoagaaDoor
open Go.RowKit
set_option linter.unusedVariables false

theorem quote_no {s : ByteArray} (h : textOk s = false) : quoteB s = ⟨#[]⟩ := by unfold quoteB; rw [h]; rfl
theorem quote_yes {s : ByteArray} (h : textOk s = true) : quoteB s = str (qTo s s.size ++ [34]) := by unfold quoteB; rw [h]; rfl
theorem ones4 (a b c d : Int) : ∀ u ∈ #[Value.int .u8 a, Value.int .u8 b, Value.int .u8 c, Value.int .u8 d].toList, u.oneCell' = true := by
  intro u hu; simp at hu; rcases hu with rfl | rfl | rfl | rfl <;> rfl
theorem ones6 (a b c d e f : Int) : ∀ u ∈ #[Value.int .u8 a, Value.int .u8 b, Value.int .u8 c, Value.int .u8 d, Value.int .u8 e, Value.int .u8 f].toList, u.oneCell' = true := by
  intro u hu; simp at hu; rcases hu with rfl | rfl | rfl | rfl | rfl | rfl <;> rfl
theorem ext_one (s : ByteArray) (j : Nat) (h : j < s.size) : (s.extract j (j + 1)).data.toList = [s[j]] := by
  have h1 := piece_succ s j 0 (by omega)
  rw [ByteArray.data_extract]
  have : (s.data.extract j (j + 1)).toList = piece s j 1 := by unfold piece; simp
  rw [this]
  simpa [piece] using h1
theorem own_str {w : World} {base n : Nat} {v : Value} {l : List UInt8} {t : ByteArray} {l2 : List UInt8} (ht : t = str l2) (h : w.ownsRow base 5 1 v (n + t.size) (l.map bv ++ Lib.strCells t)) : w.ownsRow base 5 1 v (n + l2.length) ((l ++ l2).map bv) := by
  subst ht
  rw [str_len] at h
  rw [List.map_append]
  have e : Lib.strCells (str l2) = l2.map bv := by simp [Lib.strCells, str, bv]
  rwa [e] at h

set_option maxHeartbeats 2000000 in
set_option maxRecDepth 100000 in
theorem specQuote (s : ByteArray) (w : World) (hs : s.size ≤ 1048576) :
    Calls Tryd.prog 21 #[.string s] w fun e w' => e = .returned (.string (quoteB s)) ∧ Below w.heap.size w w' := by
  obtain ⟨i0, hi, hz0, hz1, hz2⟩ := info_parts infoU8
  cases hok0 : textOk s with
  | false =>
    have HQ := Lib.hid (quote_no hok0)
    have HO := Lib.hid hok0
    clear hok0
    go_enter Tryd.func21, Tryd.ntmps21
    go_wp2_with fail
    refine (specTextOk s w hs).mono ?_
    rintro e w1 ⟨rfl, hb1⟩
    rw [HO.out]
    go_wp2_with fail
    go_ret
    exact ⟨ret_eq (congrArg Value.string HQ.out.symm), hb1⟩
  | true =>
    have HQ := Lib.hid (quote_yes hok0)
    have HO := Lib.hid hok0
    clear hok0
    go_enter Tryd.func21, Tryd.ntmps21
    go_wp2_with fail
    refine (specTextOk s w hs).mono ?_
    rintro e w1 ⟨rfl, hb1⟩
    rw [HO.out]
    have hsz1 := hb1.size
    go_wp2_with fail
    go_loopw [3, 4] (fun o i wr => QRel s w o i wr) (fun _ i _ => s.size - (intOf i).toNat)
    case atStart => exact ⟨0, Nat.zero_le _, rfl, own_lit1 w1 5 (.int .u8 34) hsz1, hb1.alloc hsz1 _⟩
    case round =>
      obtain ⟨j, hj, rfl, hown, hb⟩ := hrel
      have hql := qTo_len s j
      by_cases hlt : j < s.size
      · have hu : s[j].toNat < 256 := UInt8.toNat_lt _
        have hel := escL_len s[j]
        by_cases hsh : shortOf s[j].toNat = 0
        · by_cases hlow : s[j].toNat < 32
          · have HE := Lib.hid (escL_low hsh hlow)
            have HX := Lib.hid (ext_one s j hlt)
            have HS := Lib.hid hsh
            obtain ⟨t, ht⟩ : ∃ t, str (hexOf [s[j]]) = t := ⟨_, rfl⟩
            have htz : t.size = 2 := by rw [← ht, str_len, hexOf_len]; rfl
            have cH : ∀ W, Calls Tryd.prog 49 #[.string (s.extract j (j + 1))] W fun e w' => e = .returned (.string t) ∧ Below W.heap.size W w' := fun W => by
              have h := specPutHex (s.extract j (j + 1)) W (by simp; omega)
              rw [HX.out, ht] at h
              exact h
            have HC := Lib.hid cH
            have HTZ := Lib.hid htz
            have HT := Lib.hid ht
            clear hsh cH ht htz
            go_wp2_with fail
            refine (specShort _ hu _).mono ?_
            rintro e w2 ⟨rfl, hb2⟩
            rw [HS.out]
            have hown2 := own_below hown hb2
            have hbw := hb.trans (hb2.mono hb.size)
            clear hown hb hb2
            go_wp2_with (at_builtin; refine wpList_app rfl (.tmp 39) (.tmp 40) 37 rfl w.heap.size 5 Tryd.underlying37 infoU8 rfl (by decide) (W := w) rfl (hown2.alloc _) (hbw.alloc hbw.size _) (Nat.le_trans hbw.size (by simp)) _ 4 4 _ rfl rfl (cells_new _ _ _) (ones4 _ _ _ _) (by unfold maxLen; omega) (by omega) ?_; intro v' w' hown' hb' hB')
            refine (HC.out _).mono ?_
            rintro e w3 ⟨rfl, hb3⟩
            have hown3 := own_below hown' hb3
            have hbw3 := hb'.trans (hb3.mono hB')
            clear hown' hb' hown2 hbw
            go_wp2_with (at_builtin; go_loud (refine Lib.wpList_append_own_string _ rfl (.tmp 42) (.tmp 48) 37 9 rfl w.heap.size 5 i0 Tryd.underlying37 Tryd.underlying9 hi hz0 hz1 hz2 _ _ _ rfl hown3 t rfl (by have := HTZ.out; unfold maxLen; omega) (by have := HTZ.out; omega) hbw3.size ?_); intro v'' w4 hown4 hg4 _)
            have hb4 := hbw3.grown hg4 hbw3.size (fun k hk => (hown3.lt k hk).1)
            go_roundw
            case rel => exact q_next hlt (by rw [HE.out, HTZ.out]; simp [hexOf_len]) (by rw [HE.out, ← HT.out]; simp [Lib.strCells, str, bv]) hown4 hb4
            case measure => simp [intOf]; omega
          · have HE := Lib.hid (escL_own hsh hlow)
            have HS := Lib.hid hsh
            clear hsh
            go_wp2_with fail
            refine (specShort _ hu _).mono ?_
            rintro e w2 ⟨rfl, hb2⟩
            rw [HS.out]
            have hown2 := own_below hown hb2
            have hbw := hb.trans (hb2.mono hb.size)
            clear hown hb hb2
            go_wp2_with (at_builtin; refine wpList_app rfl (.tmp 15) (.tmp 19) 37 rfl w.heap.size 5 Tryd.underlying37 infoU8 rfl (by decide) (W := w) rfl (hown2.alloc _) (hbw.alloc hbw.size _) (Nat.le_trans hbw.size (by simp)) _ 1 1 _ rfl rfl (cells_new _ _ _) (one_u8 _) (by unfold maxLen; omega) (by omega) ?_; intro v' w' hown' hb' hB')
            go_roundw
            case rel => exact q_next hlt (by rw [HE.out]; rfl) (by rw [HE.out]; rfl) hown' hb'
            case measure => simp [intOf]; omega
        · have HE := Lib.hid (escL_short hsh)
          have hsb := shortOf_lt s[j].toNat
          have hne : ((shortOf s[j].toNat : Int) == 0) = false := by simp; omega
          have HL := Lib.hid (show (escL s[j]).length = 2 by unfold escL; rw [if_pos hsh]; rfl)
          clear hsh
          go_wp2_with fail
          refine (specShort _ hu _).mono ?_
          rintro e w2 ⟨rfl, hb2⟩
          have hown2 := own_below hown hb2
          have hbw := hb.trans (hb2.mono hb.size)
          clear hown hb hb2
          go_wp2_with fail
          refine (specShort _ hu _).mono ?_
          rintro e w3 ⟨rfl, hb3⟩
          have hown3 := own_below hown2 hb3
          have hbw3 := hbw.trans (hb3.mono hbw.size)
          clear hown2 hbw hb3
          go_wp2_with (at_builtin; refine wpList_app rfl (.tmp 27) (.tmp 32) 37 rfl w.heap.size 5 Tryd.underlying37 infoU8 rfl (by decide) (W := w) rfl (hown3.alloc _) (hbw3.alloc hbw3.size _) (Nat.le_trans hbw3.size (by simp)) _ 2 2 _ rfl rfl (cells_new _ _ _) (ones_u8 _ _) (by unfold maxLen; omega) (by omega) ?_; intro v' w' hown' hb' hB')
          go_roundw
          case rel => exact q_next hlt (by rw [HL.out]) (by rw [HE.out]) hown' hb'
          case measure => simp [intOf]; omega
      · obtain rfl : j = s.size := by omega
        go_wp2_with (at_builtin; refine wpList_app rfl (.tmp 50) (.tmp 51) 37 rfl w.heap.size 5 Tryd.underlying37 infoU8 rfl (by decide) (W := w) rfl (hown.alloc _) (hb.alloc hb.size _) (Nat.le_trans hb.size (by simp)) _ 1 1 _ rfl rfl (cells_new _ _ _) (one_u8 _) (by unfold maxLen; omega) (by omega) ?_; intro v' w' hown' hb' hB'; have hcv := run_string_own (P := Tryd.prog) (l := qTo s s.size ++ [34]) 37 9 5 Tryd.underlying37 Tryd.underlying5 Tryd.underlying9 (by simpa [bv] using hown'))
        go_ret
        exact ⟨ret_eq (congrArg Value.string HQ.out.symm), hb'⟩
end Go.Proofs.YtmfogabkpeoagaaDoor
