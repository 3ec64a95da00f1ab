/-
  NumText of the reference.
-/
import Derived.Test.YtbflkcldjjpioaaDoorNumI
import Derived.Test.YtbflkcldjjpioaaDoorPow
import Derived.Test.YtbflkcldjjpioaaDoorDecS
namespace Go.Proofs.YtbflkcldjjpioaaDoor
open Go.RowKit
set_option linter.unusedVariables false
set_option linter.unusedSimpArgs false
set_option maxRecDepth 100000

/-- Digits with zeros ahead, more of them than k. -/
def padL (D : List UInt8) (k : Nat) : List UInt8 := List.replicate (k + 1 - D.length) 48 ++ D
theorem padL_done {D : List UInt8} {k i : Nat} (h : i = k + 1 - D.length) : padL D k = List.replicate i 48 ++ D := by rw [padL, h]
theorem padL_len (D : List UInt8) (k : Nat) : k < (padL D k).length := by rw [padL, List.length_append, List.length_replicate]; omega
theorem padL_le (D : List UInt8) (k : Nat) : (padL D k).length ≤ k + 1 + D.length := by rw [padL, List.length_append, List.length_replicate]; omega
/-- A text with a point ahead of its last digits. -/
def cutT (P : ByteArray) (e : Int) : ByteArray := P.extract 0 ((P.size : Int) + e).toNat ++ ((⟨#[46]⟩ : ByteArray) ++ P.extract ((P.size : Int) + e).toNat P.size)
noncomputable def numTextB (v : V) : ByteArray :=
  if okV v then
    if v.k = 3 then str (Lib.itoa v.n)
    else if v.k = 4 then
      if 0 < v.e then str (Lib.itoa v.n) ++ ((⟨#[101]⟩ : ByteArray) ++ str (Lib.itoa v.e))
      else if v.n < 0 then (⟨#[45]⟩ : ByteArray) ++ cutT (str (padL (Lib.decDigits v.n.natAbs) (-v.e).toNat)) v.e
      else cutT (str (padL (Lib.decDigits v.n.natAbs) (-v.e).toNat)) v.e
    else ⟨#[]⟩
  else ⟨#[]⟩
theorem str_size (l : List UInt8) : (str l).size = l.length := by simp [str, ByteArray.size]

set_option maxHeartbeats 2000000 in
theorem specPad (D : List UInt8) (K : Nat) (w : World) (hK : K ≤ 20) (hD : D.length ≤ 19) :
    Calls Tryd.prog 35 #[.string (str D), .int .i64 (K : Int)] w fun e w' => e = .returned (.string (str (padL D K))) ∧ w' = w := by
  go_enter Tryd.func35, Tryd.ntmps35
  go_wp2_with fail
  go_loop [0] (fun z => ∃ i : Nat, i ≤ K + 1 - D.length ∧ z = .string (str (List.replicate i 48 ++ D))) (fun z => (match z with | .string s => K + 1 - s.size | _ => 0))
  case atStart => exact ⟨0, Nat.zero_le _, by simp⟩
  case round =>
    obtain ⟨i, hi, rfl⟩ := hrel
    have hsz : (str (List.replicate i 48 ++ D)).size = i + D.length := by rw [str_size]; simp
    have HN : Hid ((⟨#[48]⟩ : ByteArray) ++ str (List.replicate i 48 ++ D) = str (List.replicate (i + 1) 48 ++ D)) := Lib.hid (by rw [List.replicate_succ]; rfl)
    have HN2 : Hid ((str (List.replicate (i + 1) 48 ++ D)).size = i + 1 + D.length) := Lib.hid (by rw [str_size]; simp)
    have HP := Lib.hid (padL_done (D := D) (k := K) (i := i))
    obtain ⟨s, hs⟩ : ∃ s, str (List.replicate i 48 ++ D) = s := ⟨_, rfl⟩
    have HS := Lib.hid hs
    rw [hs] at hsz HN ⊢
    clear hs
    by_cases hlt : s.size ≤ K
    · have q : decide ((s.size : Int) ≤ (K : Int)) = true := decide_eq_true (by omega)
      have hsm : s.size < 100 := by omega
      go_wp2_with fail
      go_round
      case rel => exact ⟨i + 1, by omega, congrArg Value.string HN.out⟩
      case measure => show K + 1 - _ < K + 1 - s.size; rw [HN.out, HN2.out]; omega
    · have q : decide ((s.size : Int) ≤ (K : Int)) = false := decide_eq_false (by omega)
      have hsm : s.size < 100 := by omega
      go_wp2_with fail
      go_ret
      exact ⟨congrArg (fun x => Ending.returned (.string x)) ((congrArg str (HP.out (by omega))).trans HS.out).symm, rfl⟩

theorem itoa_cut {n : Int} (h : n < 0) : (str (Lib.itoa n)).extract 1 (str (Lib.itoa n)).size = str (Lib.decDigits n.natAbs) := by
  obtain ⟨u, rfl⟩ : ∃ u : Nat, n = -(u : Int) := ⟨n.natAbs, by omega⟩
  rw [itoa_neg u (by omega), Int.natAbs_neg, Int.natAbs_natCast]
  apply ByteArray.ext
  apply Array.ext'
  simp [str, ByteArray.size]
theorem itoa_nat {n : Int} (h : ¬ n < 0) : str (Lib.itoa n) = str (Lib.decDigits n.natAbs) := by
  obtain ⟨u, rfl⟩ := Int.eq_ofNat_of_zero_le (show 0 ≤ n by omega)
  rw [itoa_pos, Int.natAbs_natCast]
theorem itoa_size {n : Int} (h : -9223372036854775808 ≤ n ∧ n ≤ 9223372036854775807) : 1 ≤ (str (Lib.itoa n)).size ∧ (str (Lib.itoa n)).size ≤ 20 := by
  by_cases h0 : n < 0
  · obtain ⟨u, rfl⟩ : ∃ u : Nat, n = -(u : Int) := ⟨n.natAbs, by omega⟩
    have := dec_len u (by omega)
    rw [itoa_neg u (by omega), str_size, List.length_cons]
    omega
  · rw [itoa_nat h0, str_size]
    have := dec_len n.natAbs (by omega)
    have := dec_ne n.natAbs
    have : (Lib.decDigits n.natAbs).length ≠ 0 := fun h => this (List.length_eq_zero_iff.1 h)
    omega

theorem assoc3 (a b c : ByteArray) : a ++ b ++ c = a ++ (b ++ c) := ByteArray.append_assoc
theorem cut_join (x P : ByteArray) (e : Int) : x ++ P.extract 0 ((P.size : Int) + e).toNat ++ (⟨#[46]⟩ : ByteArray) ++ P.extract ((P.size : Int) + e).toNat P.size = x ++ cutT P e := by
  rw [cutT, assoc3, assoc3]
theorem cut_join0 (P : ByteArray) (e : Int) : (⟨#[]⟩ : ByteArray) ++ P.extract 0 ((P.size : Int) + e).toNat ++ (⟨#[46]⟩ : ByteArray) ++ P.extract ((P.size : Int) + e).toNat P.size = cutT P e := by
  rw [cut_join]
  apply ByteArray.ext
  simp

set_option maxHeartbeats 8000000 in
theorem specNumText (v : V) (A : Option Addr) (cap : Nat) (w : World) (hf : v.fits) (hw : v.weight ≤ 1048576) (hat : Vs.at_ w 0 w.heap.size v.kids A) :
    Calls Tryd.prog 18 #[v.agg A cap] w fun e w' => e = .returned (.string (numTextB v)) ∧ Below w.heap.size w w' := by
  have HA := Lib.hid hat
  have hf3 := (V.fits_eq v).1 hf
  have hn := hf3.2.2.2.2.1
  have he := hf3.2.2.2.2.2
  unfold inI at hn he
  clear hat hf hf3
  have cN := fun W => specDecText v.n W hn
  have cE := fun W => specDecText v.e W he
  have HCN := Lib.hid cN
  have HCE := Lib.hid cE
  clear cN cE
  unfold V.agg
  go_enter Tryd.func18, Tryd.ntmps18
  go_wp2_with fail
  have b0 : Below w.heap.size w (w.alloc (.cells #[.int .i64 v.k, .int .i64 v.n, .int .i64 v.e, .string v.s, .slice A v.kids.length cap] 34)) := (Below.refl _ w).alloc (Nat.le_refl _) _
  refine (specValueOk v A cap _ hw (Vs.at_more (Nat.le_refl _) b0.size _ _ (Vs.at_below HA.out b0 (Nat.le_refl _)))).mono ?_
  rintro e w1 ⟨rfl, hb1⟩
  obtain ⟨p0, p1, p2, p3, p4⟩ := ((Blk.new w 34 #[.int .i64 v.k, .int .i64 v.n, .int .i64 v.e, .string v.s, .slice A v.kids.length cap]).below hb1 (by simp)).five
  have b1 : Below w.heap.size w w1 := b0.trans (hb1.mono b0.size)
  clear b0 hb1
  by_cases hok : okV v
  · rw [show decide (okV v) = true from decide_eq_true hok]
    have HU : Hid (numTextB v = if v.k = 3 then str (Lib.itoa v.n) else if v.k = 4 then if 0 < v.e then str (Lib.itoa v.n) ++ ((⟨#[101]⟩ : ByteArray) ++ str (Lib.itoa v.e)) else if v.n < 0 then (⟨#[45]⟩ : ByteArray) ++ cutT (str (padL (Lib.decDigits v.n.natAbs) (-v.e).toNat)) v.e else cutT (str (padL (Lib.decDigits v.n.natAbs) (-v.e).toNat)) v.e else ⟨#[]⟩) := Lib.hid (by rw [numTextB, if_pos hok])
    by_cases h3 : v.k = 3
    · have q3 : (v.k == 3) = true := by rw [h3]; rfl
      have HR := Lib.hid (HU.out.trans (if_pos h3))
      clear hok h3
      go_wp2_with fail
      refine (HCN.out w1).mono ?_
      rintro e w2 ⟨rfl, rfl⟩
      go_wp2_with fail
      go_ret
      exact ⟨congrArg (fun x => Ending.returned (.string x)) HR.out.symm, b1⟩
    have q3 : (v.k == 3) = false := by simpa using h3
    by_cases h4 : v.k = 4
    · have q4 : (v.k != 4) = false := by rw [h4]; rfl
      have HR := Lib.hid (HU.out.trans ((if_neg h3).trans (if_pos h4)))
      have hdec := (okV_leaf ⟨.inr h4, hok⟩).2.2.2 h4
      have hlow : -20 ≤ v.e := hdec.1
      have hnr : -999999999999999999 ≤ v.n ∧ v.n ≤ 999999999999999999 := ⟨hdec.2.2.2.1, hdec.2.2.2.2.1⟩
      clear hok h3 h4 hdec
      by_cases hp : 0 < v.e
      · have qp : decide (0 < v.e) = true := decide_eq_true hp
        have HR2 := Lib.hid (HR.out.trans (if_pos hp))
        clear hp
        go_wp2_with fail
        have hs1 := itoa_size hn
        have hs2 := itoa_size he
        obtain ⟨sN, hsN⟩ : ∃ sN, str (Lib.itoa v.n) = sN := ⟨_, rfl⟩
        obtain ⟨sE, hsE⟩ : ∃ sE, str (Lib.itoa v.e) = sE := ⟨_, rfl⟩
        rw [hsN] at HR2 hs1
        rw [hsE] at HR2 hs2
        have HSN := Lib.hid hsN
        have HSE := Lib.hid hsE
        clear HU HR hsN hsE HCN HCE
        go_region_with (go_at_call 9; refine (specDecText _ _ (by first | exact hn | exact he)).mono ?_; rintro e w2 ⟨rfl, rfl⟩; first | rw [HSN.out] | rw [HSE.out])
        all_goals go_wp2_with fail
        all_goals go_ret
        all_goals refine ⟨?_, b1.drew⟩
        all_goals rw [HR2.out]
        all_goals first | rfl | (rw [← assoc3]; rfl)
      · have qp : decide (0 < v.e) = false := decide_eq_false hp
        have HR2 := Lib.hid (HR.out.trans (if_neg hp))
        obtain ⟨D, hD⟩ : ∃ D, Lib.decDigits v.n.natAbs = D := ⟨_, rfl⟩
        have hDl : D.length ≤ 19 := by rw [← hD]; exact dec_len _ (by omega)
        obtain ⟨K, hK⟩ : ∃ K : Nat, (-v.e).toNat = K := ⟨_, rfl⟩
        have hK1 : v.e ≤ -(K : Int) := by omega
        have hK2 : -(K : Int) ≤ v.e := by omega
        have hKE : Hid (-v.e = (K : Int)) := Lib.hid (by omega)
        have hK20 : K ≤ 20 := by omega
        have HPAD := Lib.hid (fun W => specPad D K W hK20 hDl)
        have hPl : K < (str (padL D K)).size := by rw [str_size]; exact padL_len D K
        have hPm : (str (padL D K)).size ≤ K + 1 + D.length := by rw [str_size]; exact padL_le D K
        rw [hD, hK] at HR2
        obtain ⟨P, hP⟩ : ∃ P, str (padL D K) = P := ⟨_, rfl⟩
        rw [hP] at HPAD HR2 hPl hPm
        have hsz := itoa_size hn
        by_cases hneg : v.n < 0
        · have qn : decide (v.n < 0) = true := decide_eq_true hneg
          have HX := Lib.hid (itoa_cut hneg)
          rw [hD] at HX
          have HR3 := Lib.hid (HR2.out.trans (if_pos hneg))
          clear hneg hP hK hD
          go_wp2_with fail
          refine (HCN.out w1).mono ?_
          rintro e w2 ⟨rfl, rfl⟩
          obtain ⟨s, hs⟩ : ∃ s, str (Lib.itoa v.n) = s := ⟨_, rfl⟩
          rw [hs] at HX hsz ⊢
          clear hs
          go_wp2_with fail
          rw [HX.out, hKE.out]
          refine (HPAD.out _).mono ?_
          rintro e w2 ⟨rfl, rfl⟩
          go_wp2_with fail
          go_quiet (fail)
          go_wp2_with fail
          go_ret
          exact ⟨congrArg (fun x => Ending.returned (.string x)) ((cut_join _ _ _).trans HR3.out.symm), below_drewN b1 _⟩
        · have qn : decide (v.n < 0) = false := decide_eq_false hneg
          have HX := Lib.hid (itoa_nat hneg)
          rw [hD] at HX
          have HR3 := Lib.hid (HR2.out.trans (if_neg hneg))
          clear hneg hP hK hD
          go_wp2_with fail
          refine (HCN.out w1).mono ?_
          rintro e w2 ⟨rfl, rfl⟩
          rw [HX.out]
          go_wp2_with fail
          rw [hKE.out]
          refine (HPAD.out _).mono ?_
          rintro e w2 ⟨rfl, rfl⟩
          go_wp2_with fail
          go_quiet (fail)
          go_wp2_with fail
          go_ret
          exact ⟨congrArg (fun x => Ending.returned (.string x)) ((cut_join0 _ _).trans HR3.out.symm), below_drewN b1 _⟩
    · have q4 : (v.k != 4) = true := by simpa using h4
      have HR := Lib.hid (HU.out.trans ((if_neg h3).trans (if_neg h4)))
      clear hok h3 h4
      go_wp2_with fail
      go_ret
      exact ⟨congrArg (fun x => Ending.returned (.string x)) HR.out.symm, b1⟩
  · rw [show decide (okV v) = false from decide_eq_false hok]
    have HR : Hid (numTextB v = ⟨#[]⟩) := Lib.hid (by rw [numTextB, if_neg hok])
    clear hok
    go_wp2_with fail
    go_ret
    exact ⟨congrArg (fun x => Ending.returned (.string x)) HR.out.symm, b1⟩
end Go.Proofs.YtbflkcldjjpioaaDoor
