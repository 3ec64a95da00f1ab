/-
  Unquote of the reference: the text behind a quote.
-/
import Derived.Test.YtlgonfdodmipeaaDoorUnqE2
namespace Go.Proofs.YtlgonfdodmipeaaDoor
open Go.RowKit
set_option linter.unusedVariables false
set_option linter.unusedSimpArgs false
set_option maxRecDepth 100000

theorem gsN_range (s : ByteArray) (i : Nat) : -1 ≤ gsN s (i : Int) ∧ gsN s (i : Int) < 4294967296 := by
  by_cases h : gsOk s (i : Int)
  · have := dec_w s i
    rw [(gs_yes' h).1]
    omega
  · rw [(gs_no h).1]; omega
theorem str_add (a b : List UInt8) : str a ++ str b = str (a ++ b) := by
  apply ByteArray.ext
  simp [str]
theorem str_self (s : ByteArray) : str s.data.toList = s := by
  apply ByteArray.ext
  simp [str]
theorem escB_size (s : ByteArray) (i : Nat) (h : i < s.size) : (escB s i).size ≤ s.size := by
  cases he : escAt s i with
  | none => rw [(esc_none he).1]; exact Nat.zero_le _
  | some p =>
    obtain ⟨t, n⟩ := p
    have h1 := escAt_place he
    have h2 := escAt_len he
    rw [(esc_some he).1]
    omega

set_option maxHeartbeats 4000000 in
theorem specUnquote (s : ByteArray) (i : Int) (w : World) (hs : s.size ≤ 1048576) (hi : -9223372036854775808 ≤ i ∧ i ≤ 9223372036854775807) :
    Calls Tryd.prog 7 #[.string s, .int .i64 i] w fun e w' => e = .returned (.tuple #[.string (unqB s i), .int .i64 (unqE s i)]) ∧ Below w.heap.size w w' := by
  by_cases hin : 0 ≤ i ∧ i < s.size
  · obtain ⟨h0, h1⟩ := hin
    obtain ⟨i, rfl⟩ := Int.eq_ofNat_of_zero_le h0
    have hlt0 : i < s.size := by omega
    have hg0 := get_get! s i hlt0
    by_cases h34 : s[i].toNat = 34
    · have q1 : decide ((i : Int) < 0) = false := by simp
      have q2 : decide ((s.size : Int) ≤ (i : Int)) = false := by simp; omega
      have q3 : decide (s.size ≤ i) = false := by simp; omega
      have HST := Lib.hid (unqTo_start (s := s) (a := (i : Int)) ⟨h0, h1, by rw [Int.toNat_natCast, ← hg0]; exact h34⟩)
      rw [Int.toNat_natCast] at HST
      clear hg0
      go_enter Tryd.func7, Tryd.ntmps7
      go_wp2_with fail
      go_loopw [1, 6] (fun k o wr => ∃ (j : Nat) (out : List UInt8), Hid (UnqTo s (i : Int) j out) ∧ k = .int .i64 j ∧ o = .string (str out) ∧ Below w.heap.size w wr) (fun k _ _ => s.size - (intOf k).toNat)
      case atStart => exact ⟨i + 1, [], HST, by go_num, rfl, Below.refl _ _⟩
      case round =>
        obtain ⟨j, out, HU, rfl, rfl, hb⟩ := hrel
        have hle := HU.out.1
        have hol : (str out).size ≤ 1048576 := by rw [str_len]; have := HU.out.2.1; omega
        by_cases hlt : j < s.size
        · have hg := get_get! s j hlt
          have hgi := Lib.hid hg
          have hu : s[j].toNat < 256 := UInt8.toNat_lt _
          by_cases hq : s[j].toNat = 34
          · have HF := Lib.hid (unqTo_shut HU.out hlt (by rw [← hg]; exact hq))
            clear hg
            go_wp2_with fail
            go_ret2
            exact ⟨tupV (congrArg Value.string HF.out.1.symm) (congrArg (Value.int .i64) HF.out.2.symm), hb⟩
          · have hq1 : ((s[j].toNat : Int) != 34) = true := by simp; omega
            have hn := gsN_range s j
            by_cases h92 : s[j].toNat = 92
            · have HC := Lib.hid (fun W => specEscape s j W hs hlt)
              have hes := escB_size s j hlt
              cases he : escAt s j with
              | none =>
                have HF := Lib.hid (unqTo_escBad HU.out hlt (by rw [← hg]; exact h92) he)
                have HN := Lib.hid (esc_none he)
                clear hg he
                go_wp2_with fail
                refine (specGetSign s j _ hs ⟨by omega, by omega⟩).mono ?_
                rintro e w1 ⟨rfl, hb1⟩
                have b1 := hb.trans (hb1.mono hb.size)
                generalize gsN s (j : Int) = n at *
                generalize gsE s (j : Int) = ne at *
                go_wp2_with fail
                refine (specPutSign n _ ⟨by omega, by omega⟩).mono ?_
                rintro e w2 ⟨rfl, hb2⟩
                have b2 := b1.trans (hb2.mono b1.size)
                go_wp2_with fail
                refine (HC.out _).mono ?_
                rintro e w3 ⟨rfl, hb3⟩
                have b3 := b2.trans (hb3.mono b2.size)
                rw [HN.out.1, HN.out.2]
                go_wp2_with fail
                go_ret2
                exact ⟨tupV (congrArg Value.string HF.out.1.symm) (congrArg (Value.int .i64) HF.out.2.symm), b3⟩
              | some p =>
                obtain ⟨t, k⟩ := p
                have HN := Lib.hid (esc_some he)
                have HX := Lib.hid (unqTo_esc HU.out hlt (by rw [← hg]; exact h92) he)
                have hpl := escAt_place he
                have hts : t.size ≤ 1048576 := by rw [← (esc_some he).1]; omega
                clear hg he hes
                go_wp2_with fail
                refine (specGetSign s j _ hs ⟨by omega, by omega⟩).mono ?_
                rintro e w1 ⟨rfl, hb1⟩
                have b1 := hb.trans (hb1.mono hb.size)
                generalize gsN s (j : Int) = n at *
                generalize gsE s (j : Int) = ne at *
                go_wp2_with fail
                refine (specPutSign n _ ⟨by omega, by omega⟩).mono ?_
                rintro e w2 ⟨rfl, hb2⟩
                have b2 := b1.trans (hb2.mono b1.size)
                go_wp2_with fail
                refine (HC.out _).mono ?_
                rintro e w3 ⟨rfl, hb3⟩
                have b3 := b2.trans (hb3.mono b2.size)
                rw [HN.out.1, HN.out.2]
                go_wp2_with fail
                go_roundw
                case rel => exact ⟨k, out ++ t.data.toList, HX, rfl, by rw [← str_add, str_self], b3⟩
                case measure => simp [intOf]; omega
            · have hq2 : ((s[j].toNat : Int) == 92) = false := by simp; omega
              by_cases hok : gsOk s (j : Int) ∧ 32 ≤ s[j].toNat
              · obtain ⟨hok, h32⟩ := hok
                have h32i : decide ((s[j].toNat : Int) < 32) = false := by simp; omega
                have HY := Lib.hid (gs_yes' hok)
                have HP := Lib.hid (sign_piece hlt hok)
                have HX := Lib.hid (unqTo_sign HU.out hlt (by rw [← hg]; exact hq) (by rw [← hg]; exact h92) hok (by rw [← hg]; exact h32))
                have hd := dec_w s j
                have hdl := dec_le s j hlt
                have hsl := signB_len ((Utf8.decode s j).1 : Int)
                clear hg hn
                go_wp2_with fail
                refine (specGetSign s j _ hs ⟨by omega, by omega⟩).mono ?_
                rintro e w1 ⟨rfl, hb1⟩
                have b1 := hb.trans (hb1.mono hb.size)
                rw [HY.out.1, HY.out.2]
                have hcp := fun W => specPutSign ((Utf8.decode s j).1 : Int) W ⟨by omega, by omega⟩
                have HCP := Lib.hid hcp
                clear hcp
                obtain ⟨d, hdd⟩ : ∃ d, (Utf8.decode s j).2 = d := ⟨_, rfl⟩
                obtain ⟨n, hnn⟩ : ∃ n, (Utf8.decode s j).1 = n := ⟨_, rfl⟩
                rw [hdd] at hd hdl HX HP ⊢
                rw [hnn] at hd hsl HCP HP ⊢
                obtain ⟨k, hk⟩ : ∃ k, j + d = k := ⟨_, rfl⟩
                rw [show (j : Int) + (d : Int) = (k : Int) by omega]
                have hjk : j < k := by omega
                rw [hk] at HX hdl
                obtain ⟨tb, htb⟩ : ∃ tb, signB (n : Int) = tb := ⟨_, rfl⟩
                rw [htb] at hsl HCP HP
                have htl : tb.size ≤ 1048576 := by omega
                clear hdd hnn HY hk hd h32 htb hsl
                go_wp2_with fail
                refine (HCP.out _).mono ?_
                rintro e w2 ⟨rfl, hb2⟩
                have b2 := b1.trans (hb2.mono b1.size)
                go_wp2_with fail
                go_roundw
                case rel => exact ⟨k, out ++ piece s j d, HX, rfl, by rw [← str_add, ← HP.out.2, str_self], b2⟩
                case measure => simp [intOf]; omega
              · have HF := Lib.hid (unqTo_bad HU.out hlt (by rw [← hg]; exact hq) (by rw [← hg]; exact h92) (by rw [← hg]; exact hok))
                by_cases hgo : gsOk s (j : Int)
                · have h32 : (s[j].toNat : Int) < 32 := by
                    have : ¬ 32 ≤ s[j].toNat := fun h => hok ⟨hgo, h⟩
                    omega
                  have HY := Lib.hid (gs_yes' hgo)
                  have hd := dec_w s j
                  clear hg
                  go_wp2_with fail
                  refine (specGetSign s j _ hs ⟨by omega, by omega⟩).mono ?_
                  rintro e w1 ⟨rfl, hb1⟩
                  have b1 := hb.trans (hb1.mono hb.size)
                  rw [HY.out.2]
                  generalize gsN s (j : Int) = n at *
                  obtain ⟨d, hdd⟩ : ∃ d, (Utf8.decode s j).2 = d := ⟨_, rfl⟩
                  rw [hdd] at hd ⊢
                  clear hdd HY
                  go_wp2_with fail
                  refine (specPutSign n _ ⟨by omega, by omega⟩).mono ?_
                  rintro e w2 ⟨rfl, hb2⟩
                  have b2 := b1.trans (hb2.mono b1.size)
                  go_wp2_with fail
                  go_ret2
                  exact ⟨tupV (congrArg Value.string HF.out.1.symm) (congrArg (Value.int .i64) HF.out.2.symm), b2⟩
                · have HY := Lib.hid (gs_no hgo)
                  clear hg
                  go_wp2_with fail
                  refine (specGetSign s j _ hs ⟨by omega, by omega⟩).mono ?_
                  rintro e w1 ⟨rfl, hb1⟩
                  have b1 := hb.trans (hb1.mono hb.size)
                  rw [HY.out.2]
                  generalize gsN s (j : Int) = n at *
                  go_wp2_with fail
                  refine (specPutSign n _ ⟨by omega, by omega⟩).mono ?_
                  rintro e w2 ⟨rfl, hb2⟩
                  have b2 := b1.trans (hb2.mono b1.size)
                  go_wp2_with fail
                  go_ret2
                  exact ⟨tupV (congrArg Value.string HF.out.1.symm) (congrArg (Value.int .i64) HF.out.2.symm), b2⟩
        · obtain rfl : j = s.size := by omega
          have HF := Lib.hid (unqTo_end HU.out (Nat.le_refl _))
          go_wp2_with fail
          go_ret2
          exact ⟨tupV (congrArg Value.string HF.out.1.symm) (congrArg (Value.int .i64) HF.out.2.symm), hb⟩
    · have HF := Lib.hid (unq_no (s := s) (a := (i : Int)) (by
        unfold unqP
        rw [if_neg]
        rintro ⟨_, _, h⟩
        rw [Int.toNat_natCast, ← hg0] at h
        exact h34 h))
      have hq1 : ((s[i].toNat : Int) != 34) = true := by simp; omega
      clear hg0
      go_enter Tryd.func7, Tryd.ntmps7
      go_wp2_with fail
      go_ret2
      exact ⟨tupV (congrArg Value.string HF.out.1.symm) (congrArg (Value.int .i64) HF.out.2.symm), Below.refl _ _⟩
  · have HF := Lib.hid (unq_no (s := s) (a := i) (by unfold unqP; rw [if_neg]; rintro ⟨h1, h2, _⟩; exact hin ⟨h1, h2⟩))
    go_enter Tryd.func7, Tryd.ntmps7
    by_cases h0 : i < 0
    · clear hin
      go_wp2_with fail
      go_ret2
      exact ⟨tupV (congrArg Value.string HF.out.1.symm) (congrArg (Value.int .i64) HF.out.2.symm), Below.refl _ _⟩
    · have h1 : (s.size : Int) ≤ i := by omega
      clear hin
      go_wp2_with fail
      go_ret2
      exact ⟨tupV (congrArg Value.string HF.out.1.symm) (congrArg (Value.int .i64) HF.out.2.symm), Below.refl _ _⟩
end Go.Proofs.YtlgonfdodmipeaaDoor
