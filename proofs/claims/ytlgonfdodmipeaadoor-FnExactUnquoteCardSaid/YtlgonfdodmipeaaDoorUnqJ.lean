/-
  Unquote of the program: what a backslash begins.
-/
import Derived.Test.YtlgonfdodmipeaaDoorUnqI
import Derived.Test.YtlgonfdodmipeaaDoorPutSign
namespace Go.Proofs.YtlgonfdodmipeaaDoor
open Go.RowKit
set_option linter.unusedVariables false
set_option linter.unusedSimpArgs false
set_option maxRecDepth 100000

theorem implWithin (n lo hi : Int) (w : World) : Calls Tryd.prog 33 #[.int .i64 n, .int .i64 lo, .int .i64 hi] w fun e w' => e = .returned (.bool (decide (lo ≤ n ∧ n ≤ hi))) ∧ w' = w := by
  by_cases h1 : lo ≤ n
  · by_cases h2 : n ≤ hi
    · rw [decide_eq_true ⟨h1, h2⟩]
      have q1 : decide (lo ≤ n) = true := decide_eq_true h1
      have q2 : decide (n ≤ hi) = true := decide_eq_true h2
      clear h1 h2
      go_enter Tryd.func33, Tryd.ntmps33
      go_wp2_with fail
      go_ret
      exact ⟨rfl, rfl⟩
    · rw [decide_eq_false (fun h => h2 h.2)]
      have q1 : decide (lo ≤ n) = true := decide_eq_true h1
      have q2 : decide (n ≤ hi) = false := decide_eq_false h2
      clear h1 h2
      go_enter Tryd.func33, Tryd.ntmps33
      go_wp2_with fail
      go_ret
      exact ⟨rfl, rfl⟩
  · rw [decide_eq_false (fun h => h1 h.1)]
    have q1 : decide (lo ≤ n) = false := decide_eq_false h1
    clear h1
    go_enter Tryd.func33, Tryd.ntmps33
    go_wp2_with fail
    go_ret
    exact ⟨rfl, rfl⟩
theorem implIsSign (n : Int) (w : World) : Calls Tryd.prog 38 #[.int .i64 n] w fun e w' => e = .returned (.bool (isSg n)) ∧ w' = w := by
  by_cases h1 : 0 ≤ n ∧ n ≤ 1114111
  · have hs : isSg n = !decide (55296 ≤ n ∧ n ≤ 57343) := by
      rw [Bool.eq_iff_iff]
      unfold isSg
      simp
      omega
    have HW := Lib.hid (fun W => implWithin n 0 1114111 W)
    rw [decide_eq_true h1] at HW
    have HV := Lib.hid (fun W => implWithin n 55296 57343 W)
    rw [hs]
    generalize decide (55296 ≤ n ∧ n ≤ 57343) = B at *
    clear h1 hs
    go_enter Tryd.func38, Tryd.ntmps38
    go_wp2_with fail
    refine (HW.out _).mono ?_
    rintro e w1 ⟨rfl, rfl⟩
    go_wp2_with fail
    refine (HV.out _).mono ?_
    rintro e w1 ⟨rfl, rfl⟩
    cases B
    all_goals
      go_wp2_with fail
      go_ret
      exact ⟨rfl, rfl⟩
  · have hs : isSg n = false := by
      unfold isSg
      simp
      omega
    have HW := Lib.hid (fun W => implWithin n 0 1114111 W)
    rw [decide_eq_false h1] at HW
    rw [hs]
    clear h1 hs
    go_enter Tryd.func38, Tryd.ntmps38
    go_wp2_with fail
    refine (HW.out _).mono ?_
    rintro e w1 ⟨rfl, rfl⟩
    go_wp2_with fail
    go_ret
    exact ⟨rfl, rfl⟩
theorem letter_cases {c : Nat} (hc : c < 256) : (letterK c = -1 ∧ (longOf c = 0 ∨ c = 47)) ∨ (∃ k : Nat, k < 7 ∧ letterK c = k ∧ longOf c ≠ 0 ∧ (ByteArray.mk #[34, 92, 8, 12, 10, 13, 9]).extract k (k + 1) = str [UInt8.ofNat (longOf c)]) := by
  unfold letterK
  by_cases h0 : c = 34
  · subst h0; exact .inr ⟨0, by decide, by simp, by decide, by rfl⟩
  rw [if_neg h0]
  by_cases h1 : c = 92
  · subst h1; exact .inr ⟨1, by decide, by simp, by decide, by rfl⟩
  rw [if_neg h1]
  by_cases h2 : c = 98
  · subst h2; exact .inr ⟨2, by decide, by simp, by decide, by rfl⟩
  rw [if_neg h2]
  by_cases h3 : c = 102
  · subst h3; exact .inr ⟨3, by decide, by simp, by decide, by rfl⟩
  rw [if_neg h3]
  by_cases h4 : c = 110
  · subst h4; exact .inr ⟨4, by decide, by simp, by decide, by rfl⟩
  rw [if_neg h4]
  by_cases h5 : c = 114
  · subst h5; exact .inr ⟨5, by decide, by simp, by decide, by rfl⟩
  rw [if_neg h5]
  by_cases h6 : c = 116
  · subst h6; exact .inr ⟨6, by decide, by simp, by decide, by rfl⟩
  rw [if_neg h6]
  refine .inl ⟨rfl, ?_⟩
  by_cases h7 : c = 47
  · exact .inr h7
  · left
    unfold longOf
    rw [if_neg h0, if_neg h1, if_neg h2, if_neg h3, if_neg h4, if_neg h5, if_neg h6, if_neg h7]
theorem pair_sg {n m : Int} (h1 : 55296 ≤ n ∧ n ≤ 56319) (h2 : 56320 ≤ m ∧ m ≤ 57343) : isSg (pairZ n m) = true ∧ 0 ≤ pairZ n m ∧ pairZ n m ≤ 1114111 := by
  unfold isSg pairZ
  simp
  omega
/-- What the program's readEscape hands back. -/
def EscOut (s : ByteArray) (i : Nat) (e : Ending) : Prop := ∃ (t : ByteArray) (n : Int) (b : Bool), e = .returned (.tuple #[.string t, .int .i64 n, .bool b]) ∧ ((b = false ∧ escAt s i = none) ∨ (b = true ∧ ∃ k : Nat, n = (k : Int) ∧ escAt s i = some (t, k)))
theorem EscOut.no {s : ByteArray} {i : Nat} {e : Ending} (t : ByteArray) (n : Int) (h : escAt s i = none) (he : e = .returned (.tuple #[.string t, .int .i64 n, .bool false])) : EscOut s i e := ⟨t, n, false, he, .inl ⟨rfl, h⟩⟩
theorem EscOut.yes {s t : ByteArray} {i k : Nat} {e : Ending} (h : escAt s i = some (t, k)) (he : e = .returned (.tuple #[.string t, .int .i64 (k : Int), .bool true])) : EscOut s i e := ⟨t, _, true, he, .inr ⟨rfl, k, rfl, h⟩⟩

set_option maxHeartbeats 4000000 in
theorem implEscape (s : ByteArray) (i : Nat) (w : World) (hs : s.size ≤ 1048576) (hi : i < s.size) (h92 : s[i].toNat = 92) (hT : Tabs w) (hC : CaseTab w) :
    Calls Tryd.prog 34 #[.string s, .int .i64 i] w fun e w' => EscOut s i e ∧ Below w.heap.size w w' := by
  have HT := Lib.hid hT
  have HCT := Lib.hid hC
  clear hT hC
  by_cases h1 : i + 1 < s.size
  · obtain ⟨c, hc⟩ : ∃ c, s[i + 1].toNat = c := ⟨_, rfl⟩
    have hc' : (s.get! (i + 1)).toNat = c := by rw [← get_get! s (i + 1) h1]; exact hc
    have hu : c < 256 := by rw [← hc]; exact UInt8.toNat_lt _
    have hx : ((i : Int) + 1).toNat = i + 1 := by omega
    have HLK := Lib.hid (fun W => implLetter c hu W)
    rcases letter_cases hu with ⟨hk, hl⟩ | ⟨k, hk7, hk, hlo, hex⟩
    · rw [hk] at HLK
      by_cases h47 : c = 47
      · subst h47
        have HE := Lib.hid (esc_long h1 hc' (by decide))
        clear hc' hl hk
        go_enter Tryd.func34, Tryd.ntmps34
        go_wp2_with fail
        refine (HLK.out _).mono ?_
        rintro e w1 ⟨rfl, rfl⟩
        go_wp2_with fail
        go_ret3
        exact ⟨EscOut.yes HE.out rfl, Below.refl _ _⟩
      · have hl0 : longOf c = 0 := by omega
        have hq47 : ((c : Int) == 47) = false := by simp; omega
        have hq92 : (s.get! i).toNat = 92 := by rw [← get_get! s i hi]; exact h92
        by_cases h117 : c = 117
        · subst h117
          have hQ : unitQ s i = unitZ s (i + 2) := by
            by_cases h6 : i + 6 ≤ s.size
            · unfold unitQ; rw [if_pos ⟨h6, hq92, hc'⟩]
            · unfold unitQ unitZ; rw [if_neg (fun h => h6 h.1), if_neg (fun h => by have := h.1; omega)]
          have hz := unitZ_range s (i + 2)
          have hN : 0 ≤ unitZ s (i + 2) → unitN s i = ((i + 6 : Nat) : Int) := fun h => by unfold unitN; rw [hQ, if_neg (by omega)]
          have HU := Lib.hid (fun W hT hC => implUnit s i W hs (by omega) hT hC)
          rw [hQ] at HU
          have hrm : 0 ≤ unitZ s (i + 2) → i + 6 ≤ s.size := fun h => by have := unitZ_room h; omega
          have HRM := Lib.hid hrm
          have HN := Lib.hid hN
          have HE1 := Lib.hid (fun h2 h3 h4 => esc_two h1 hc' h2 h3 h4)
          have HE2 := Lib.hid (fun h2 h3 => esc_lone h1 hc' h2 h3)
          have HE3 := Lib.hid (fun h2 h3 => esc_one h1 hc' h2 h3)
          have HE4 := Lib.hid (fun h2 h3 => esc_off h1 hc' h2 h3)
          have HW := Lib.hid (fun W => implWithin (unitZ s (i + 2)) 55296 56319 W)
          clear hQ hN hrm hc' hq92 hl hl0 hk
          generalize unitZ s (i + 2) = n at *
          by_cases hn : 55296 ≤ n ∧ n ≤ 56319
          · rw [decide_eq_true hn] at HW
            rw [HN.out (by omega)] at HU
            have h6 := HRM.out (by omega)
            have hz8 := unitZ_range s (i + 8)
            have HU2 := Lib.hid (fun W hT hC => implUnit s (i + 6) W hs h6 hT hC)
            have hQ2 : unitQ s (i + 6) = if i + 12 ≤ s.size ∧ (s.get! (i + 6)).toNat = 92 ∧ (s.get! (i + 7)).toNat = 117 then unitZ s (i + 8) else -1 := rfl
            have hN2 : unitN s (i + 6) = if unitQ s (i + 6) < 0 then -1 else ((i + 12 : Nat) : Int) := rfl
            by_cases hpr : (i + 12 ≤ s.size ∧ (s.get! (i + 6)).toNat = 92 ∧ (s.get! (i + 7)).toNat = 117) ∧ 56320 ≤ unitZ s (i + 8) ∧ unitZ s (i + 8) ≤ 57343
            · obtain ⟨hp1, hp2⟩ := hpr
              have HF := Lib.hid (HE1.out hn ⟨by omega, hp1.2⟩ hp2)
              rw [if_pos hp1] at hQ2
              rw [hQ2, if_neg (by omega)] at hN2
              rw [hQ2, hN2] at HU2
              have HPS := Lib.hid (pair_sg hn hp2)
              have HW2 := Lib.hid (fun W => implWithin (unitZ s (i + 8)) 56320 57343 W)
              rw [decide_eq_true hp2] at HW2
              clear hp1 hQ2 hN2 HE1 HE2 HE3 HE4
              generalize unitZ s (i + 8) = m at *
              have hpe : 65536 + 1024 * (n - 55296) + m - 56320 = pairZ n m := rfl
              have HPE := Lib.hid hpe
              have HPSC := Lib.hid (fun W => implPutSign (pairZ n m) W ⟨by have := HPS.out; omega, by have := HPS.out; omega⟩)
              have HISC := Lib.hid (fun W => implIsSign (pairZ n m) W)
              rw [HPS.out.1] at HISC
              clear hpe
              go_enter Tryd.func34, Tryd.ntmps34
              go_wp2_with fail
              refine (HLK.out _).mono ?_
              rintro e w1 ⟨rfl, rfl⟩
              go_wp2_with fail
              refine (HU.out _ HT.out HCT.out).mono ?_
              rintro e w2 ⟨rfl, hb2⟩
              go_wp2_with fail
              refine (HW.out _).mono ?_
              rintro e w3 ⟨rfl, rfl⟩
              go_wp2_with fail
              refine (HU2.out _ (HT.out.below hb2) (HCT.out.below hb2)).mono ?_
              rintro e w4 ⟨rfl, hb4⟩
              have hb5 := hb2.trans (hb4.mono hb2.size)
              go_wp2_with fail
              refine (HW2.out _).mono ?_
              rintro e w5 ⟨rfl, rfl⟩
              go_wp2_with fail
              rw [HPE.out]
              refine (HPSC.out _).mono ?_
              rintro e w6 ⟨rfl, rfl⟩
              go_wp2_with fail
              refine (HISC.out _).mono ?_
              rintro e w7 ⟨rfl, rfl⟩
              go_wp2_with fail
              go_ret3
              exact ⟨EscOut.yes HF.out rfl, hb5⟩
            · have HF := Lib.hid (HE2.out hn (fun h => hpr ⟨⟨by have := unitZ_room (s := s) (i := i + 8) (by omega); omega, h.2.1, h.2.2.1⟩, h.2.2.2⟩))
              have HW2 := Lib.hid (fun W => implWithin (unitQ s (i + 6)) 56320 57343 W)
              have hno : ¬ (56320 ≤ unitQ s (i + 6) ∧ unitQ s (i + 6) ≤ 57343) := by
                intro h
                rw [hQ2] at h
                split at h
                · rename_i h3; exact hpr ⟨h3, h⟩
                · omega
              rw [decide_eq_false hno] at HW2
              clear hQ2 hN2 hno hpr HE1 HE2 HE3 HE4
              generalize unitQ s (i + 6) = m at *
              generalize unitN s (i + 6) = mn at *
              go_enter Tryd.func34, Tryd.ntmps34
              go_wp2_with fail
              refine (HLK.out _).mono ?_
              rintro e w1 ⟨rfl, rfl⟩
              go_wp2_with fail
              refine (HU.out _ HT.out HCT.out).mono ?_
              rintro e w2 ⟨rfl, hb2⟩
              go_wp2_with fail
              refine (HW.out _).mono ?_
              rintro e w3 ⟨rfl, rfl⟩
              go_wp2_with fail
              refine (HU2.out _ (HT.out.below hb2) (HCT.out.below hb2)).mono ?_
              rintro e w4 ⟨rfl, hb4⟩
              have hb5 := hb2.trans (hb4.mono hb2.size)
              go_wp2_with fail
              refine (HW2.out _).mono ?_
              rintro e w5 ⟨rfl, rfl⟩
              go_wp2_with fail
              go_ret3
              exact ⟨EscOut.no _ _ HF.out rfl, hb5⟩
          · rw [decide_eq_false hn] at HW
            have HPSC := Lib.hid (fun W => implPutSign n W ⟨by omega, by omega⟩)
            have HISC := Lib.hid (fun W => implIsSign n W)
            have HNN : Hid (isSg n = true → unitN s i = ((i + 6 : Nat) : Int)) := Lib.hid (fun h => HN.out (isSg_pos h))
            have HF3 := Lib.hid (HE3.out hn)
            have HF4 := Lib.hid (HE4.out hn)
            generalize unitN s i = nx at *
            cases hsg : isSg n with
            | true =>
              rw [hsg] at HISC
              have hnx := HNN.out hsg
              subst hnx
              have HF := Lib.hid (HF3.out hsg)
              clear hsg hn HE1 HE2 HE3 HE4
              go_enter Tryd.func34, Tryd.ntmps34
              go_wp2_with fail
              refine (HLK.out _).mono ?_
              rintro e w1 ⟨rfl, rfl⟩
              go_wp2_with fail
              refine (HU.out _ HT.out HCT.out).mono ?_
              rintro e w2 ⟨rfl, hb2⟩
              go_wp2_with fail
              refine (HW.out _).mono ?_
              rintro e w3 ⟨rfl, rfl⟩
              go_wp2_with fail
              refine (HPSC.out _).mono ?_
              rintro e w6 ⟨rfl, rfl⟩
              go_wp2_with fail
              refine (HISC.out _).mono ?_
              rintro e w7 ⟨rfl, rfl⟩
              go_wp2_with fail
              go_ret3
              exact ⟨EscOut.yes HF.out rfl, hb2⟩
            | false =>
              rw [hsg] at HISC
              have HF := Lib.hid (HF4.out hsg)
              clear hsg hn HE1 HE2 HE3 HE4
              go_enter Tryd.func34, Tryd.ntmps34
              go_wp2_with fail
              refine (HLK.out _).mono ?_
              rintro e w1 ⟨rfl, rfl⟩
              go_wp2_with fail
              refine (HU.out _ HT.out HCT.out).mono ?_
              rintro e w2 ⟨rfl, hb2⟩
              go_wp2_with fail
              refine (HW.out _).mono ?_
              rintro e w3 ⟨rfl, rfl⟩
              go_wp2_with fail
              refine (HPSC.out _).mono ?_
              rintro e w6 ⟨rfl, rfl⟩
              go_wp2_with fail
              refine (HISC.out _).mono ?_
              rintro e w7 ⟨rfl, rfl⟩
              go_wp2_with fail
              go_ret3
              exact ⟨EscOut.no _ _ HF.out rfl, hb2⟩
        · have HF := Lib.hid (esc_bad h1 hc' hl0 h117)
          have hQ : unitQ s i = -1 := by
            unfold unitQ
            rw [if_neg]
            rintro ⟨_, _, h⟩
            exact h117 (by rw [← hc']; exact h)
          have HU := Lib.hid (fun W hT hC => implUnit s i W hs (by omega) hT hC)
          rw [hQ, unitQ_no hQ] at HU
          have HW := Lib.hid (fun W => implWithin (-1) 55296 56319 W)
          rw [decide_eq_false (by decide)] at HW
          have HPSC := Lib.hid (fun W => implPutSign (-1) W ⟨by decide, by decide⟩)
          have HISC := Lib.hid (fun W => implIsSign (-1) W)
          rw [show isSg (-1) = false from rfl] at HISC
          clear hQ hc' hl hl0 hk hq92
          go_enter Tryd.func34, Tryd.ntmps34
          go_wp2_with fail
          refine (HLK.out _).mono ?_
          rintro e w1 ⟨rfl, rfl⟩
          go_wp2_with fail
          refine (HU.out _ HT.out HCT.out).mono ?_
          rintro e w2 ⟨rfl, hb2⟩
          go_wp2_with fail
          refine (HW.out _).mono ?_
          rintro e w3 ⟨rfl, rfl⟩
          go_wp2_with fail
          refine (HPSC.out _).mono ?_
          rintro e w6 ⟨rfl, rfl⟩
          go_wp2_with fail
          refine (HISC.out _).mono ?_
          rintro e w7 ⟨rfl, rfl⟩
          go_wp2_with fail
          go_ret3
          exact ⟨EscOut.no _ _ HF.out rfl, hb2⟩
    · rw [hk] at HLK
      have HF := Lib.hid (esc_long h1 hc' hlo)
      have HX := Lib.hid hex
      have hkz : ¬ ((k : Int) < 0) := by omega
      have hk1 : ((k : Int) + 1).toNat = k + 1 := by omega
      have hk2 : (k : Int) + 1 ≤ 7 := by omega
      clear hc' hlo hex hk
      go_enter Tryd.func34, Tryd.ntmps34
      go_wp2_with fail
      refine (HLK.out _).mono ?_
      rintro e w1 ⟨rfl, rfl⟩
      go_wp2_with fail
      go_ret3
      exact ⟨EscOut.yes HF.out (by rw [← HX.out]; rfl), Below.refl _ _⟩
  · have HE := Lib.hid (esc_end (s := s) (i := i) (by omega))
    go_enter Tryd.func34, Tryd.ntmps34
    go_wp2_with fail
    go_ret3
    exact ⟨EscOut.no _ _ HE.out rfl, Below.refl _ _⟩
end Go.Proofs.YtlgonfdodmipeaaDoor
