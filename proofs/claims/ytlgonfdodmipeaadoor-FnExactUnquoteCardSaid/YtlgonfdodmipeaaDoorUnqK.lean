/-
  Unquote of the program: the text behind a quote.
-/
import Derived.Test.YtlgonfdodmipeaaDoorUnqJ
import Derived.Lib.AppendStr
namespace Go.Proofs.YtlgonfdodmipeaaDoor
open Go.RowKit
set_option linter.unusedVariables false
set_option linter.unusedSimpArgs false
set_option maxRecDepth 100000

theorem own_strU {w : World} {base n : Nat} {v : Value} {l : List UInt8} {t : ByteArray} (h : w.ownsRow base 5 1 v (n + t.size) (l.map bv ++ Lib.strCells t)) (hn : n = l.length) : w.ownsRow base 5 1 v (l ++ t.data.toList).length ((l ++ t.data.toList).map bv) := by
  subst hn
  rw [List.map_append, List.length_append]
  have e : Lib.strCells t = t.data.toList.map bv := by simp [Lib.strCells, bv]
  rw [e] at h
  exact h

set_option maxHeartbeats 4000000 in
theorem implUnquote (s : ByteArray) (i : Int) (w : World) (hs : s.size ≤ 1048576) (hi : -9223372036854775808 ≤ i ∧ i ≤ 9223372036854775807) (hT : Tabs w) (hC : CaseTab w) :
    Calls Tryd.prog 8 #[.string s, .int .i64 i] w fun e w' => e = .returned (.tuple #[.string (unqB s i), .int .i64 (unqE s i)]) ∧ Below w.heap.size w w' := by
  obtain ⟨i0, hii, hz0, hz1, hz2⟩ := info_parts infoU8
  have HT := Lib.hid hT
  have HCT := Lib.hid hC
  have HW := Lib.hid (fun W => implWithin i 0 ((s.size : Int) - 1) W)
  clear hT hC
  by_cases hin : 0 ≤ i ∧ i < s.size
  · obtain ⟨h0, h1⟩ := hin
    obtain ⟨i, rfl⟩ := Int.eq_ofNat_of_zero_le h0
    rw [decide_eq_true ⟨by omega, by omega⟩] at HW
    have hlt0 : i < s.size := by omega
    have hg0 := get_get! s i hlt0
    by_cases h34 : s[i].toNat = 34
    · have HST := Lib.hid (unqTo_start (s := s) (a := (i : Int)) ⟨h0, h1, by rw [Int.toNat_natCast, ← hg0]; exact h34⟩)
      rw [Int.toNat_natCast] at HST
      clear hg0
      go_enter Tryd.func8, Tryd.ntmps8
      go_wp2_with fail
      refine (HW.out _).mono ?_
      rintro e w0 ⟨rfl, hw0⟩
      subst hw0
      go_wp2_with fail
      go_loopw [1, 6] (fun k o wr => ∃ (j : Nat) (out : List UInt8), Hid (UnqTo s (i : Int) j out) ∧ k = .int .i64 j ∧ wr.ownsRow w0.heap.size 5 1 o out.length (out.map bv) ∧ Below w0.heap.size w0 wr) (fun k _ _ => s.size - (intOf k).toNat)
      case atStart => exact ⟨i + 1, [], HST, by go_num, own_empty w0 _ _, (Below.refl _ _).alloc (Nat.le_refl _) _⟩
      case round =>
        obtain ⟨j, out, HU, rfl, hown, hb⟩ := hrel
        have hle := HU.out.1
        have hol : out.length ≤ 1048576 := by have := HU.out.2.1; omega
        by_cases hlt : j < s.size
        · have hg := get_get! s j hlt
          have hu : s[j].toNat < 256 := UInt8.toNat_lt _
          by_cases hq : s[j].toNat = 34
          · have HF := Lib.hid (unqTo_shut HU.out hlt (by rw [← hg]; exact hq))
            have hcv := run_string_own (P := Tryd.prog) (l := out) 25 9 5 Tryd.underlying25 Tryd.underlying5 Tryd.underlying9 hown
            clear hg
            go_wp2_with fail
            go_ret2
            exact ⟨tupV (congrArg Value.string HF.out.1.symm) (congrArg (Value.int .i64) HF.out.2.symm), hb⟩
          · have hq1 : ((s[j].toNat : Int) == 34) = false := by simp; omega
            by_cases h92 : s[j].toNat = 92
            · have HE := Lib.hid (implEscape s j wr hs hlt h92 (HT.out.below hb) (HCT.out.below hb))
              have HX1 := Lib.hid (unqTo_escBad HU.out hlt (by rw [← hg]; exact h92))
              have HX2 := Lib.hid (fun t n (he : escAt s j = some (t, n)) => (⟨unqTo_esc HU.out hlt (by rw [← hg]; exact h92) he, escAt_place he, escAt_len he⟩ : _ ∧ _ ∧ _))
              have HO := Lib.hid hown
              clear hg hown
              go_wp2_with fail
              refine HE.out.mono ?_
              rintro e w1 ⟨⟨t, n, b, rfl, hcase⟩, hb1⟩
              have b1 := hb.trans (hb1.mono hb.size)
              have hown1 := own_below HO.out hb1
              rcases hcase with ⟨rfl, hne⟩ | ⟨rfl, k, rfl, he⟩
              · have HF := Lib.hid (HX1.out hne)
                clear hne hown1
                go_wp2_with fail
                go_ret2
                exact ⟨tupV (congrArg Value.string HF.out.1.symm) (congrArg (Value.int .i64) HF.out.2.symm), b1⟩
              · have HX := Lib.hid (HX2.out t k he).1
                have hpl := (HX2.out t k he).2.1
                have hts := (HX2.out t k he).2.2
                clear he
                go_wp2_with (at_builtin; go_loud (refine Lib.wpList_append_own_string _ rfl (.tmp 69) (.tmp 70) 25 9 rfl w0.heap.size 5 i0 Tryd.underlying25 Tryd.underlying9 hii hz0 hz1 hz2 _ _ _ rfl hown1 t rfl (by unfold maxLen; omega) (by omega) b1.size ?_); intro v'' w4 hown4 hg4 _)
                have hb4 := b1.grown hg4 b1.size (fun k hk => (hown1.lt k hk).1)
                go_roundw
                case rel => exact ⟨k, out ++ t.data.toList, HX, rfl, own_strU hown4 rfl, hb4⟩
                case measure => simp [intOf]; omega
            · have hq2 : ((s[j].toNat : Int) == 92) = false := by simp; omega
              have HGS := Lib.hid (implGetSign s j wr hs ⟨by omega, by omega⟩ (HT.out.below hb))
              have HO := Lib.hid hown
              by_cases hok : gsOk s (j : Int)
              · have HY := Lib.hid (gs_yes' hok)
                have HLW := Lib.hid (sign_low hlt hok)
                have hd := dec_w s j
                have hdl := dec_le s j hlt
                by_cases h32 : 32 ≤ s[j].toNat
                · have HX := Lib.hid (unqTo_sign HU.out hlt (by rw [← hg]; exact hq) (by rw [← hg]; exact h92) hok (by rw [← hg]; exact h32))
                  have hn32 : ¬ (Utf8.decode s j).1 < 32 := fun h => by have := HLW.out.1 h; rw [← hg] at this; omega
                  have HEX := Lib.hid (extract_piece s j (Utf8.decode s j).2)
                  clear hg hown
                  go_wp2_with fail
                  refine HGS.out.mono ?_
                  rintro e w1 ⟨rfl, hb1⟩
                  have b1 := hb.trans (hb1.mono hb.size)
                  have hown1 := own_below HO.out hb1
                  rw [HY.out.1, HY.out.2]
                  obtain ⟨d, hdd⟩ : ∃ d, (Utf8.decode s j).2 = d := ⟨_, rfl⟩
                  obtain ⟨n, hnn⟩ : ∃ n, (Utf8.decode s j).1 = n := ⟨_, rfl⟩
                  rw [hdd] at hd hdl HX HEX ⊢
                  rw [hnn] at hd hn32 ⊢
                  clear hdd hnn HY
                  obtain ⟨k, hk⟩ : ∃ k, j + d = k := ⟨_, rfl⟩
                  rw [show (j : Int) + (d : Int) = (k : Int) by omega]
                  have hjk : j < k := by omega
                  rw [hk] at HX hdl HEX
                  have hexs : (s.extract j k).size ≤ 4 := by rw [ByteArray.size_extract]; omega
                  obtain ⟨t, ht⟩ : ∃ t, s.extract j k = t := ⟨_, rfl⟩
                  rw [ht] at hexs HEX
                  have hn32i : ¬ (n : Int) < 32 := by omega
                  clear hk hd h32
                  go_wp2_with (at_builtin; go_loud (refine Lib.wpList_append_own_string _ rfl (.tmp 39) (.tmp 43) 25 9 rfl w0.heap.size 5 i0 Tryd.underlying25 Tryd.underlying9 hii hz0 hz1 hz2 _ _ _ rfl hown1 t rfl (by unfold maxLen; omega) (by omega) b1.size ?_); intro v'' w4 hown4 hg4 _)
                  have hb4 := b1.grown hg4 b1.size (fun k hk => (hown1.lt k hk).1)
                  go_roundw
                  case rel => exact ⟨k, out ++ piece s j d, HX, rfl, by rw [← HEX.out]; exact own_strU hown4 rfl, hb4⟩
                  case measure => simp [intOf]; omega
                · have HF := Lib.hid (unqTo_bad HU.out hlt (by rw [← hg]; exact hq) (by rw [← hg]; exact h92) (by rw [← hg]; exact fun h => h32 h.2))
                  have hn32 : (Utf8.decode s j).1 < 32 := HLW.out.2 (by rw [← hg]; omega)
                  clear hg hown
                  go_wp2_with fail
                  refine HGS.out.mono ?_
                  rintro e w1 ⟨rfl, hb1⟩
                  have b1 := hb.trans (hb1.mono hb.size)
                  rw [HY.out.1]
                  obtain ⟨n, hnn⟩ : ∃ n, (Utf8.decode s j).1 = n := ⟨_, rfl⟩
                  rw [hnn] at hn32 ⊢
                  have hn32i : (n : Int) < 32 := by omega
                  generalize gsE s (j : Int) = ne
                  clear hnn HY hd hdl
                  go_wp2_with fail
                  go_ret2
                  exact ⟨tupV (congrArg Value.string HF.out.1.symm) (congrArg (Value.int .i64) HF.out.2.symm), b1⟩
              · have HF := Lib.hid (unqTo_bad HU.out hlt (by rw [← hg]; exact hq) (by rw [← hg]; exact h92) (fun h => hok h.1))
                have HY := Lib.hid (gs_no hok)
                clear hg hown
                go_wp2_with fail
                refine HGS.out.mono ?_
                rintro e w1 ⟨rfl, hb1⟩
                have b1 := hb.trans (hb1.mono hb.size)
                rw [HY.out.1]
                generalize gsE s (j : Int) = ne
                go_wp2_with fail
                go_ret2
                exact ⟨tupV (congrArg Value.string HF.out.1.symm) (congrArg (Value.int .i64) HF.out.2.symm), b1⟩
        · obtain rfl : j = s.size := by omega
          have HF := Lib.hid (unqTo_end HU.out (Nat.le_refl _))
          clear hown
          go_wp2_with fail
          go_ret2
          exact ⟨tupV (congrArg Value.string HF.out.1.symm) (congrArg (Value.int .i64) HF.out.2.symm), hb⟩
    · have HF := Lib.hid (unq_no (s := s) (a := (i : Int)) (by
        unfold unqP
        rw [if_neg]
        rintro ⟨_, _, h⟩
        rw [Int.toNat_natCast, ← hg0] at h
        exact h34 h))
      have hq1 : ((s[i].toNat : Int) != 34) = true := by simp; omega
      clear hg0
      go_enter Tryd.func8, Tryd.ntmps8
      go_wp2_with fail
      refine (HW.out _).mono ?_
      rintro e w0 ⟨rfl, hw0⟩
      subst hw0
      go_wp2_with fail
      go_ret2
      exact ⟨tupV (congrArg Value.string HF.out.1.symm) (congrArg (Value.int .i64) HF.out.2.symm), Below.refl _ _⟩
  · have HF := Lib.hid (unq_no (s := s) (a := i) (by unfold unqP; rw [if_neg]; rintro ⟨h1, h2, _⟩; exact hin ⟨h1, h2⟩))
    rw [decide_eq_false (fun h => hin ⟨h.1, by have := h.2; omega⟩)] at HW
    clear hin
    go_enter Tryd.func8, Tryd.ntmps8
    go_wp2_with fail
    refine (HW.out _).mono ?_
    rintro e w0 ⟨rfl, hw0⟩
    subst hw0
    go_wp2_with fail
    go_ret2
    exact ⟨tupV (congrArg Value.string HF.out.1.symm) (congrArg (Value.int .i64) HF.out.2.symm), Below.refl _ _⟩
end Go.Proofs.YtlgonfdodmipeaaDoor
