/-
  NumText of the program.
-/
import Derived.Test.YtbflkcldjjpioaaDoorNumT
import Derived.Deep.RegionHeld3
namespace Go.Proofs.YtbflkcldjjpioaaDoor
open Go.RowKit
set_option linter.unusedVariables false
set_option linter.unusedSimpArgs false
set_option maxRecDepth 100000

theorem repeat_zeros : ∀ c : Nat, Lib.repeatL [48] c = List.replicate c 48
  | 0 => rfl
  | c + 1 => by
    have h := Lib.repeatL_add [48] 1 c
    rw [Lib.repeatL_one, repeat_zeros c] at h
    rw [Nat.add_comm c 1, h, Nat.add_comm 1 c, List.replicate_succ]; rfl
theorem cut_minus (n : Int) : (⟨(Lib.trimPrefix (str (Lib.itoa n)).data.toList (⟨#[45]⟩ : ByteArray).data.toList).toArray⟩ : ByteArray) = str (Lib.decDigits n.natAbs) ∧ Lib.hasPrefix (str (Lib.itoa n)).data.toList (⟨#[45]⟩ : ByteArray).data.toList = decide (n < 0) := by
  by_cases h : n < 0
  · obtain ⟨u, rfl⟩ : ∃ u : Nat, n = -(u : Int) := ⟨n.natAbs, by omega⟩
    rw [itoa_neg u (by omega), Int.natAbs_neg, Int.natAbs_natCast, decide_eq_true h]
    simp [str, Lib.trimPrefix, Lib.hasPrefix, List.isPrefixOf]
  · obtain ⟨u, rfl⟩ := Int.eq_ofNat_of_zero_le (show 0 ≤ n by omega)
    rw [itoa_pos, Int.natAbs_natCast, decide_eq_false h]
    have h1 := dec_digit u
    have h2 := dec_ne u
    cases hc : Lib.decDigits u with
    | nil => exact absurd hc h2
    | cons b l =>
      rw [hc] at h1
      have hb := h1 b (List.mem_cons_self ..)
      have hne : ((45 : UInt8) == b) = false := by
        apply beq_eq_false_iff_ne.2
        intro h
        rw [← h] at hb
        simp at hb
      simp [str, Lib.trimPrefix, Lib.hasPrefix, List.isPrefixOf, hne]

set_option maxHeartbeats 2000000 in
theorem implDigits (n : Int) (w : World) (h : -9223372036854775808 ≤ n ∧ n ≤ 9223372036854775807) (hP : Pow10 w) :
    Calls Tryd.prog 62 #[.int .i64 n] w fun e w' => e = .returned (.tuple #[.string (str (Lib.decDigits n.natAbs)), .bool (decide (n < 0))]) ∧ Below w.heap.size w w' := by
  have HD := Lib.hid (implDecText n w h hP)
  have HC := Lib.hid (cut_minus n)
  clear hP
  go_enter Tryd.func62, Tryd.ntmps62
  go_wp2_with fail
  refine HD.out.mono ?_
  rintro e w1 ⟨rfl, hb1⟩
  have HT := Lib.hid (Tryd.strings_CutPrefix (str (Lib.itoa n)) ⟨#[45]⟩ w1)
  rw [HC.out.1, HC.out.2] at HT
  clear HC HD
  go_wp2_with fail
  refine HT.out.mono ?_
  rintro e w2 ⟨rfl, rfl⟩
  go_wp2_with fail
  go_ret2
  exact ⟨rfl, hb1⟩

set_option maxHeartbeats 8000000 in
theorem implNumTxt (v : V) (A : Option Addr) (cap : Nat) (w : World) (hf : v.fits) (hnum : numOk v) (hP : Pow10 w) :
    Calls Tryd.prog 36 #[v.agg A cap] w fun e w' => e = .returned (.string (numTextB v)) ∧ Below w.heap.size w w' := by
  have HP := Lib.hid hP
  have hf3 := (V.fits_eq v).1 hf
  have hn := hf3.2.2.2.2.1
  have he := hf3.2.2.2.2.2
  unfold inI at hn he
  clear hf hf3 hP
  obtain ⟨w0, hw0⟩ : ∃ w0, w0 = w.alloc (.cells #[.int .i64 v.k, .int .i64 v.n, .int .i64 v.e, .string v.s, .slice A v.kids.length cap] 34) := ⟨_, rfl⟩
  have b0 : Below w.heap.size w w0 := by rw [hw0]; exact (Below.refl _ w).alloc (Nat.le_refl _) _
  have B0 : Blk w0 w.heap.size 34 #[.int .i64 v.k, .int .i64 v.n, .int .i64 v.e, .string v.s, .slice A v.kids.length cap] := by rw [hw0]; exact Blk.new w _ _
  have P0 := HP.out.below b0 (Nat.le_refl _)
  have lv := B0.lt
  have hs0 := b0.size
  have HB0 := Lib.hid b0
  have HV0 := Lib.hid B0
  have HP0 := Lib.hid P0
  clear b0 P0 HP
  obtain ⟨p0, p1, p2, p3, p4⟩ := B0.five
  clear B0
  have HU : Hid (numTextB v = if v.k = 3 then str (Lib.itoa v.n) else if v.k = 4 then if 0 < v.e then str (Lib.itoa v.n) ++ ((⟨#[101]⟩ : ByteArray) ++ str (Lib.itoa v.e)) else if v.n < 0 then (⟨#[45]⟩ : ByteArray) ++ cutT (str (padL (Lib.decDigits v.n.natAbs) (-v.e).toNat)) v.e else cutT (str (padL (Lib.decDigits v.n.natAbs) (-v.e).toNat)) v.e else ⟨#[]⟩) := Lib.hid (by rw [numTextB, if_pos hnum.2])
  unfold V.agg
  by_cases h3 : v.k = 3
  · have q3 : (v.k == 3) = true := by rw [h3]; rfl
    have HR := Lib.hid (HU.out.trans (if_pos h3))
    clear hnum h3
    go_enter Tryd.func36, Tryd.ntmps36
    go_wp2_with fail
    rw [← hw0]
    refine (implDecText v.n w0 hn HP0.out).mono ?_
    rintro e w2 ⟨rfl, hb2⟩
    go_wp2_with fail
    go_ret
    exact ⟨congrArg (fun x => Ending.returned (.string x)) HR.out.symm, HB0.out.trans (hb2.mono hs0)⟩
  have h4 : v.k = 4 := hnum.1.resolve_left h3
  have q3 : (v.k == 3) = false := by simpa using h3
  have HR := Lib.hid (HU.out.trans ((if_neg h3).trans (if_pos h4)))
  have hdec := (okV_leaf hnum).2.2.2 h4
  have hlow : -20 ≤ v.e := hdec.1
  have hnr : -999999999999999999 ≤ v.n ∧ v.n ≤ 999999999999999999 := ⟨hdec.2.2.2.1, hdec.2.2.2.2.1⟩
  clear hnum h3 h4 hdec
  by_cases hp : 0 < v.e
  · have qp : decide (0 < v.e) = true := decide_eq_true hp
    have HR2 := Lib.hid (HR.out.trans (if_pos hp))
    have hs1 := itoa_size hn
    have hs2 := itoa_size he
    obtain ⟨sN, hsN⟩ : ∃ sN, str (Lib.itoa v.n) = sN := ⟨_, rfl⟩
    obtain ⟨sE, hsE⟩ : ∃ sE, str (Lib.itoa v.e) = sE := ⟨_, rfl⟩
    rw [hsN] at HR2 hs1
    rw [hsE] at HR2 hs2
    have HSN := Lib.hid hsN
    have HSE := Lib.hid hsE
    clear hp HU HR hsN hsE
    go_enter Tryd.func36, Tryd.ntmps36
    go_wp2_with fail
    rw [← hw0]
    clear hw0
    have KE : Hid (∀ w' : World, Below w0.heap.size w0 w' → w'.cell? ⟨w.heap.size, 1, none⟩ = some (.int .i64 v.n) ∧ w'.cell? ⟨w.heap.size, 2, none⟩ = some (.int .i64 v.e)) := Lib.hid (fun w' hb => ⟨(HV0.out.below hb lv).cell 1, (HV0.out.below hb lv).cell 2⟩)
    have hbr : Below w0.heap.size w0 w0 := Below.refl _ _
    clear p0 p3 p4
    have hadd1 : ∀ W : World, (Op.stringOp .add sN (⟨#[101]⟩ : ByteArray)).run Tryd.prog W = .ok (.string (sN ++ (⟨#[101]⟩ : ByteArray))) W := fun W => run_string_add_sum _ _ _ (by show sN.size + 1 ≤ _; omega)
    have hadd2 : ∀ W : World, (Op.stringOp .add (sN ++ (⟨#[101]⟩ : ByteArray)) sE).run Tryd.prog W = .ok (.string (sN ++ ((⟨#[101]⟩ : ByteArray) ++ sE))) W := fun W => by
      rw [← assoc3]
      exact run_string_add_sum _ _ _ (by rw [ByteArray.size_append]; show sN.size + 1 + sE.size ≤ _; omega)
    go_region_held3 (fun w' => w'.cell? ⟨w.heap.size, 1, none⟩ = some (.int .i64 v.n) ∧ w'.cell? ⟨w.heap.size, 2, none⟩ = some (.int .i64 v.e)) (first | exact KE.out _ hbx2 | exact KE.out _ hbx1 | exact KE.out _ hbr.drew | exact KE.out _ hbr)
      (first
      | (have hgate := hbx1; clear hgate; go_at_call 10; refine (implDecText v.e w1 he (HP0.out.below hbx1 (Nat.le_refl _))).mono ?_; rintro e w2 ⟨rfl, hbx'⟩; have hbx2 := hbx1.trans (hbx'.mono hbx1.size); rw [HSE.out])
      | (go_at_call 10; refine (implDecText v.n w0.drew hn (HP0.out.below hbr.drew (Nat.le_refl _))).mono ?_; rintro e w1 ⟨rfl, hbx'⟩; have hbx1 : Below w0.heap.size w0 w1 := hbr.drew.trans hbx'; rw [HSN.out]))
    go_wp2_with fail
    go_ret
    refine ⟨?_, HB0.out.trans (hbx2.mono hs0)⟩
    rw [HR2.out]
    first | rfl | (rw [← assoc3]; rfl)
  · have qp : decide (0 < v.e) = false := decide_eq_false hp
    have HR2 := Lib.hid (HR.out.trans (if_neg hp))
    have HDG := Lib.hid (implDigits v.n w0 hn HP0.out)
    obtain ⟨D, hD⟩ : ∃ D, Lib.decDigits v.n.natAbs = D := ⟨_, rfl⟩
    have hDl : D.length ≤ 19 := by rw [← hD]; exact dec_len _ (by omega)
    obtain ⟨K, hK⟩ : ∃ K : Nat, (-v.e).toNat = K := ⟨_, rfl⟩
    have hK1 : v.e ≤ -(K : Int) := by omega
    have hK2 : -(K : Int) ≤ v.e := by omega
    have hK20 : K ≤ 20 := by omega
    have hPl : K < (str (padL D K)).size := by rw [str_size]; exact padL_len D K
    have hPm : (str (padL D K)).size ≤ K + 1 + D.length := by rw [str_size]; exact padL_le D K
    have HPE : Hid (∀ c : Nat, (c : Int) = 1 - v.e - (D.length : Int) → (⟨(Lib.repeatL (⟨#[48]⟩ : ByteArray).data.toList c).toArray⟩ : ByteArray) ++ str D = str (padL D K)) := Lib.hid (fun c hc => by
      rw [show (⟨#[48]⟩ : ByteArray).data.toList = [48] from rfl, repeat_zeros, padL, show K + 1 - D.length = c by omega]
      apply ByteArray.ext; apply Array.ext'; simp [str])
    have HPZ : Hid (1 - v.e - (D.length : Int) ≤ 0 → str D = str (padL D K)) := Lib.hid (fun hc => by
      rw [padL, show K + 1 - D.length = 0 by omega]; rfl)
    have hsD : (str D).size = D.length := str_size D
    rw [hD, hK] at HR2
    rw [hD] at HDG
    obtain ⟨P, hPP⟩ : ∃ P, str (padL D K) = P := ⟨_, rfl⟩
    rw [hPP] at HR2 hPl hPm HPE HPZ
    obtain ⟨sD, hsDD⟩ : ∃ sD, str D = sD := ⟨_, rfl⟩
    rw [hsDD] at HPE HPZ hsD HDG
    clear hD hK hPP hsDD HU HR
    rcases (show (decide (v.n < 0) = true ∧ numTextB v = (⟨#[45]⟩ : ByteArray) ++ cutT P v.e) ∨ (decide (v.n < 0) = false ∧ numTextB v = cutT P v.e) by
      by_cases hneg : v.n < 0
      · exact .inl ⟨decide_eq_true hneg, HR2.out.trans (if_pos hneg)⟩
      · exact .inr ⟨decide_eq_false hneg, HR2.out.trans (if_neg hneg)⟩) with ⟨qn, hR⟩ | ⟨qn, hR⟩
    all_goals
      have HR3 := Lib.hid hR
      clear hR
      by_cases hz : 0 < 1 - v.e - (D.length : Int)
      · have qz : decide (0 < 1 - v.e - (D.length : Int)) = true := decide_eq_true hz
        obtain ⟨c, hc⟩ : ∃ c : Nat, (c : Int) = 1 - v.e - (D.length : Int) := ⟨(1 - v.e - (D.length : Int)).toNat, by omega⟩
        have hc2 : c ≤ 40 := by omega
        have HJ := Lib.hid (HPE.out c hc)
        have HCC := Lib.hid hc
        have hrl : (⟨(Lib.repeatL (⟨#[48]⟩ : ByteArray).data.toList c).toArray⟩ : ByteArray).size ≤ 40 := by
          show (Lib.repeatL [48] c).toArray.size ≤ 40
          rw [repeat_zeros]; simpa using hc2
        clear hc HPE HPZ
        go_enter Tryd.func36, Tryd.ntmps36
        go_wp2_with fail
        rw [← hw0]
        refine HDG.out.mono ?_
        rintro e w1 ⟨rfl, hb1⟩
        clear p0 p1 p2 p3 p4
        obtain ⟨p0, p1, p2, p3, p4⟩ := (HV0.out.below hb1 lv).five
        have lv1 := (HV0.out.below hb1 lv).lt
        go_wp2_with fail
        rw [← HCC.out]
        refine (Tryd.strings_Repeat ⟨#[48]⟩ c w1 (by omega) (by show 1 * c ≤ _; omega)).mono ?_
        rintro e w2 ⟨rfl, hb2⟩
        have hb12 := hb1.trans (hb2.mono hb1.size)
        clear p0 p1 p2 p3 p4
        obtain ⟨p0, p1, p2, p3, p4⟩ := (HV0.out.below hb12 lv).five
        obtain ⟨sR, hsR⟩ : ∃ sR, (⟨(Lib.repeatL (⟨#[48]⟩ : ByteArray).data.toList c).toArray⟩ : ByteArray) = sR := ⟨_, rfl⟩
        rw [hsR] at HJ hrl ⊢
        have hPs := congrArg ByteArray.size HJ.out
        rw [ByteArray.size_append] at hPs
        have HPS : Hid ((P.size : Int) = (sR.size : Int) + (D.length : Int)) := Lib.hid (by omega)
        have hPs1 : P.size ≤ sR.size + D.length := by omega
        have hPs2 : sR.size + D.length ≤ P.size := by omega
        clear hsR hPs
        go_wp2_with fail
        rw [HJ.out]
        go_wp2_with fail
        go_quiet (fail)
        go_wp2_with fail
        go_ret
        refine ⟨?_, below_drewN (HB0.out.trans (hb12.mono hs0)) _⟩
        rw [HR3.out]
        rw [cutT, HPS.out]
        first | rfl | exact congrArg (fun x => Ending.returned (.string ((⟨#[45]⟩ : ByteArray) ++ x))) (assoc3 _ _ _) | (rw [← assoc3]; rfl)
      · have qz : decide (0 < 1 - v.e - (D.length : Int)) = false := decide_eq_false hz
        have HJ := Lib.hid (HPZ.out (by omega))
        clear HPE HPZ
        go_enter Tryd.func36, Tryd.ntmps36
        go_wp2_with fail
        rw [← hw0]
        refine HDG.out.mono ?_
        rintro e w1 ⟨rfl, hb1⟩
        clear p0 p1 p2 p3 p4
        obtain ⟨p0, p1, p2, p3, p4⟩ := (HV0.out.below hb1 lv).five
        have lv1 := (HV0.out.below hb1 lv).lt
        have hb12 := hb1
        have hsm : sD.size ≤ 100 := by omega
        have hPs := congrArg ByteArray.size HJ.out
        have HPS : Hid ((P.size : Int) = (D.length : Int)) := Lib.hid (by omega)
        have hPs1 : P.size ≤ D.length := by omega
        have hPs2 : D.length ≤ P.size := by omega
        clear hPs
        go_wp2_with fail
        rw [HJ.out]
        go_wp2_with fail
        go_quiet (fail)
        go_wp2_with fail
        go_ret
        refine ⟨?_, below_drewN (HB0.out.trans (hb12.mono hs0)) _⟩
        rw [HR3.out]
        rw [cutT, HPS.out]
        first | rfl | exact congrArg (fun x => Ending.returned (.string ((⟨#[45]⟩ : ByteArray) ++ x))) (assoc3 _ _ _) | (rw [← assoc3]; rfl)

set_option maxHeartbeats 1000000 in
theorem implNumText (v : V) (A : Option Addr) (cap : Nat) (w : World) (hf : v.fits) (hw : v.weight ≤ 1048576) (hP : Pow10 w) (hT : Tabs w) (hat : Vs.at_ w 0 w.heap.size v.kids A) :
    Calls Tryd.prog 19 #[v.agg A cap] w fun e w' => e = .returned (.string (numTextB v)) ∧ Below w.heap.size w w' := by
  have HA := Lib.hid hat
  have HF := Lib.hid hf
  have HT := Lib.hid hT
  have HP := Lib.hid hP
  clear hat hf hT hP
  unfold V.agg
  go_enter Tryd.func19, Tryd.ntmps19
  go_wp2_with fail
  have b0 : Below w.heap.size w (w.alloc (.cells #[.int .i64 v.k, .int .i64 v.n, .int .i64 v.e, .string v.s, .slice A v.kids.length cap] 34)) := (Below.refl _ w).alloc (Nat.le_refl _) _
  have B0 := Blk.new w 34 #[.int .i64 v.k, .int .i64 v.n, .int .i64 v.e, .string v.s, .slice A v.kids.length cap]
  refine (implIs v A cap _ hw (HT.out.below b0) (Vs.at_more (Nat.le_refl _) b0.size _ _ (Vs.at_below HA.out b0 (Nat.le_refl _)))).mono ?_
  rintro e w1 ⟨rfl, hb1⟩
  have B1 := B0.below hb1 (by simp)
  obtain ⟨p0, p1, p2, p3, p4⟩ := B1.five
  have b1 : Below w.heap.size w w1 := b0.trans (hb1.mono b0.size)
  clear hb1 b0 B0
  by_cases hv : numOk v
  · rw [show decide (numOk v) = true from decide_eq_true hv]
    have HV := Lib.hid hv
    clear hv
    go_wp2_with fail
    refine (implNumTxt v A cap w1 HF.out HV.out (HP.out.below b1 (Nat.le_refl _))).mono ?_
    rintro e w2 ⟨rfl, hb2⟩
    go_wp2_with fail
    go_ret
    exact ⟨rfl, b1.trans (hb2.mono b1.size)⟩
  · rw [show decide (numOk v) = false from decide_eq_false hv]
    have HN : Hid (numTextB v = ⟨#[]⟩) := Lib.hid (by
      unfold numTextB
      by_cases h : okV v
      · have h3 : ¬ v.k = 3 := fun h1 => hv ⟨.inl h1, h⟩
        have h4 : ¬ v.k = 4 := fun h1 => hv ⟨.inr h1, h⟩
        rw [if_pos h, if_neg h3, if_neg h4]
      · rw [if_neg h])
    clear hv
    go_wp2_with fail
    go_ret
    exact ⟨congrArg (fun x => Ending.returned (.string x)) HN.out.symm, b1⟩
end Go.Proofs.YtbflkcldjjpioaaDoor
