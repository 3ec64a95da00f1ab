/-
  FnSigns returns true for every code; it reads as it did; the listed tables lie as the card lists them.
-/
import Derived.Test.YtlgonfdodmipeaaDoorSgnB
import Derived.Test.YtlgonfdodmipeaaDoorSame
import Derived.Test.YtlgonfdodmipeaaDoorSigns
import Derived.Test.YtlgonfdodmipeaaDoorSignsI
import Derived.Test.YtlgonfdodmipeaaDoorPutSign
import Derived.Test.YtlgonfdodmipeaaDoorLaid
import Derived.Test.YtlgonfdodmipeaaDoorCards
import Derived.Test.YtlgonfdodmipeaaDoorTie
import Derived.Lay
import Derived.LaidOnce
import Derived.SevenTiedAt
namespace Go.Proofs.YtlgonfdodmipeaaDoor.fnSigns
open Go.ChangeShapes Go.WideShapes Go.ChangeAt Go.RowKit
open Go.ChangeMaps (open_string shut_string)
set_option linter.unusedVariables false
set_option linter.unusedSimpArgs false
set_option maxRecDepth 100000

theorem str_app2 (a b : List UInt8) : str a ++ str b = str (a ++ b) := by
  apply ByteArray.ext
  simp [str]
theorem str_me (s : ByteArray) : str s.data.toList = s := by
  apply ByteArray.ext
  simp [str]
theorem sigs_str (L : List Nat) (m : Nat) (h : L.length ≤ 20) (hm : m ≤ L.length) : (str (sigsTo (L.take m))).size ≤ 1000 := by
  rw [str_len]
  have := sigs_len L m
  omega
set_option maxHeartbeats 4000000 in
theorem walk1 (code : List UInt8) (A : Option Addr) (cap : Nat) (hn : code.length ≤ 1048576) (w : World) (hat : At1 w w.heap.size A (code.map bv)) (hT : Tabs w) :
    Calls Tryd.prog 4 #[.slice A code.length cap] w fun e w' => e = .returned (.bool true) ∧ Below w.heap.size w w' := by
  have HA := Lib.hid hat
  have HT := Lib.hid hT
  have at_ : Hid (∀ W, Below w.heap.size w W → At1 W W.heap.size A (code.map bv)) := Lib.hid (fun W hb => (HA.out.below hb (Nat.le_refl _)).more hb.size)
  clear hat hT
  go_enter Tryd.func4, Tryd.ntmps4
  go_wp2_with fail
  refine (lawBig A code.length cap w hn).mono ?_
  rintro e w0 ⟨rfl, hw0⟩
  subst hw0
  go_wp2_with fail
  refine (drawPutSign A cap code w0 HA.out (by omega)).mono ?_
  rintro e w1 ⟨⟨z, hz, rfl⟩, b1⟩
  have HPI := Lib.hid (fun W => implPutSign z W ⟨by omega, by omega⟩)
  have HPS := Lib.hid (fun W => specPutSign z W ⟨by omega, by omega⟩)
  have hbk1 : isSg z = true → (signB z).size ≠ 0 ∧ gsN (signB z) 0 = z ∧ gsE (signB z) 0 = ((signB z).size : Int) := fun h => gs_back2 h
  have HBK : Hid ((isSg z = true → (signB z).size ≠ 0 ∧ gsN (signB z) 0 = z ∧ gsE (signB z) 0 = ((signB z).size : Int)) ∧ (isSg z = false → (signB z).size = 0)) := Lib.hid ⟨hbk1, fun h => (signB_zero z).2 h⟩
  clear hbk1
  have hsl := signB_len z
  obtain ⟨S, hS⟩ : ∃ S, signB z = S := ⟨_, rfl⟩
  rw [hS] at HPI HPS HBK hsl
  clear hS
  go_wp2_with fail
  refine (HPI.out _).mono ?_
  rintro e w2 ⟨rfl, hw⟩
  subst hw
  go_wp2_with fail
  refine (drawGetSign A cap code w1 (at_.out _ b1) (by omega)).mono ?_
  rintro e w2 ⟨⟨u, i, hu, hi, rfl⟩, hb2⟩
  have b2 := b1.trans (hb2.mono b1.size)
  go_wp2_with fail
  refine (implGetSign u i w2 (by omega) hi (HT.out.below b2)).mono ?_
  rintro e w3 ⟨rfl, hb3⟩
  have b3 := b2.trans (hb3.mono b2.size)
  go_wp2_with fail
  refine (specGetSign u i w3 (by omega) hi).mono ?_
  rintro e w4 ⟨rfl, hb4⟩
  have b4 := b3.trans (hb4.mono b3.size)
  have HGS : Hid ((gsE u i = -1) ∨ (∃ j k : Nat, gsE u i = (k : Int) ∧ i = (j : Int) ∧ (j ≤ k ∧ k ≤ u.size) ∧ 0 ≤ gsN u i ∧ gsN u i < 4294967296 ∧ signB (gsN u i) = u.extract j k)) := Lib.hid (by
    by_cases hok : gsOk u i
    · right
      obtain ⟨j, rfl⟩ := Int.eq_ofNat_of_zero_le hok.1
      have hy := gs_yes' hok
      have hlt : j < u.size := by have := hok.2.1; omega
      have hd := dec_w u j
      refine ⟨j, j + (Utf8.decode u j).2, by rw [hy.2]; rfl, rfl, ⟨Nat.le_add_right _ _, dec_le u j hlt⟩, by rw [hy.1]; exact Int.natCast_nonneg _, by rw [hy.1]; exact Int.ofNat_lt.2 hd.1, ?_⟩
      rw [hy.1]
      exact (sign_piece hlt hok).1
    · exact .inl (gs_no hok).2)
  generalize gsN u i = x at *
  generalize gsE u i = ne at *
  go_wp2_with fail
  refine (drawTextOk A cap code w4 (at_.out _ b4) (by omega)).mono ?_
  rintro e w5 ⟨⟨t, ht, rfl⟩, hb5⟩
  have b5 := b4.trans (hb5.mono b4.size)
  go_wp2_with fail
  refine (drawSigns A cap code w5 (at_.out _ b5) (by omega)).mono ?_
  rintro e w6 ⟨⟨g, hg, rfl⟩, hb6⟩
  have b6 := b5.trans (hb6.mono b5.size)
  go_wp2_with fail
  refine (implSigns g w6 (by omega) (HT.out.below b6)).mono ?_
  rintro e w7 ⟨o1, rfl, r1, hb7⟩
  have b7 := b6.trans (hb7.mono b6.size)
  obtain ⟨A1, c1, rfl⟩ := row_of r1
  have HR1 := Lib.hid (At1.own r1)
  clear r1
  have hLl := signsL_len g
  have hL20 : (signsL g).length ≤ 20 := Nat.le_trans hLl hg
  have HLT := Lib.hid (signs_lt g)
  have HALL := Lib.hid (fun h => sigs_all (s := g) h)
  have HTO := Lib.hid (fun W hT => implTextOk t W (by omega) hT)
  have HTS := Lib.hid (fun W => specTextOk t W (by omega))
  have HTG := Lib.hid (fun W => specTextOk g W (by omega))
  have HSG := Lib.hid (fun W => specSigns g W (by omega))
  have qt : (textOk t != textOk t) = false := by simp
  generalize signsL g = L at *
  generalize textOk t = ot at *
  go_wp2_with fail
  refine (HPS.out _).mono ?_
  rintro e w8 ⟨rfl, hb8⟩
  have b8 := b7.trans (hb8.mono b7.size)
  go_wp2_with fail
  refine (HTO.out _ (HT.out.below b8)).mono ?_
  rintro e w9 ⟨rfl, hb9⟩
  have b9 := b8.trans (hb9.mono b8.size)
  go_wp2_with fail
  refine (HTS.out _).mono ?_
  rintro e w10 ⟨rfl, hb10⟩
  have b10 := b9.trans (hb10.mono b9.size)
  go_wp2_with fail
  refine (HSG.out _).mono ?_
  rintro e w11 ⟨o2, rfl, r2, hb11⟩
  have b11 := b10.trans (hb11.mono b10.size)
  obtain ⟨A2, c2, rfl⟩ := row_of r2
  have b711 : Below w7.heap.size w7 w11 := ((hb8.trans (hb9.mono hb8.size)).trans (hb10.mono (hb8.trans (hb9.mono hb8.size)).size)).trans (hb11.mono ((hb8.trans (hb9.mono hb8.size)).trans (hb10.mono (hb8.trans (hb9.mono hb8.size)).size)).size)
  have HR2 := Lib.hid (At1.own r2)
  have HR3 := Lib.hid ((HR1.out.below b711 (Nat.le_refl _)).more b711.size)
  clear r2
  go_wp2_with fail
  refine (lawSameInts L A1 A2 c1 c2 w11 (by omega) HR3.out HR2.out).mono ?_
  rintro e w12 ⟨rfl, hb12⟩
  have b12 := b11.trans (hb12.mono b11.size)
  have HR4 := Lib.hid ((HR3.out.below hb12 (Nat.le_refl _)).more hb12.size)
  obtain ⟨og, hog⟩ : ∃ og, textOk g = og := ⟨_, rfl⟩
  rw [hog] at HTG HALL
  clear hog
  have HPL := Lib.hid (fun (m : Nat) (hm : m < L.length) W => implPutSign ((L[m] : Nat) : Int) W (by have := HLT.out _ (List.getElem_mem hm); omega))
  have HGI := Lib.hid (fun W hT => implGetSign S 0 W (by omega) ⟨by omega, by omega⟩ hT)
  go_wp2_with fail
  rcases HGS.out with rfl | ⟨j, k, rfl, rfl, hjd, hx0, hx1, hsx⟩
  · go_quiet (fail)
    have bq : Below w0.heap.size w0 (w12.drewN nq) := below_drewN b12 nq
    have HRq : Hid (At1 (w12.drewN nq) (w12.drewN nq).heap.size A1 (L.map iv)) := Lib.hid HR4.out
    generalize w12.drewN nq = wq at *
    go_wp2_with fail
    go_loop [14, 15] (fun o k => ∃ m : Nat, m ≤ L.length ∧ k = .int .i64 m ∧ o = .string (str (sigsTo (L.take m)))) (fun _ k => L.length - (intOf k).toNat)
    case atStart => exact ⟨0, Nat.zero_le _, rfl, rfl⟩
    case round =>
      obtain ⟨m, hm, rfl, rfl⟩ := hrel
      have hsl2 := sigs_str L m hL20 hm
      by_cases hlt : m < L.length
      · obtain ⟨gA, off, rfl, _, c0⟩ := HRq.out.get (j := m) (by rw [List.length_map]; exact hlt)
        rw [List.getElem_map] at c0
        unfold iv at c0
        have HP := Lib.hid (HPL.out m hlt)
        have hs4 := signB_len ((L[m]'hlt : Nat) : Int)
        have HST := Lib.hid (sigs_step L m hlt)
        generalize signB ((L[m]'hlt : Nat) : Int) = tb at HP hs4 HST
        go_wp2_with fail
        refine (HP.out _).mono ?_
        rintro e w13 ⟨rfl, rfl⟩
        go_wp2_with fail
        go_round
        case rel => exact ⟨m + 1, hlt, by go_num, by rw [HST.out, ← str_app2, str_me]⟩
        case measure => simp [intOf]; omega
      · obtain rfl : m = L.length := by omega
        go_wp2_with fail
        refine (HTG.out _).mono ?_
        rintro e w14 ⟨rfl, hb14⟩
        have b14 := bq.trans (hb14.mono bq.size)
        have fin : ∀ (K : Prop), (og = true → ((str (sigsTo L)).toList == g.toList) = true) := fun _ h => by
          rw [HALL.out h, str_me]; simp
        have HFIN := Lib.hid (fin True)
        clear fin
        have HGS0 := Lib.hid (HGI.out w14 (HT.out.below b14))
        cases og with
        | true =>
          have q := HFIN.out rfl
          go_wp2_with fail
          refine HGS0.out.mono ?_
          rintro e w15 ⟨rfl, hb15⟩
          have b15 := b14.trans (hb15.mono b14.size)
          cases hsg : isSg z with
          | true =>
            obtain ⟨hs0, hx, hy⟩ := HBK.out.1 hsg
            have q2 : (S.toList == []) = false := by
              rw [beq_eq_false_iff_ne, ByteArray.toList_eq]
              intro h
              exact hs0 (by rw [Lib.size_eq, h]; rfl)
            rw [hx, hy]
            go_wp2_with fail
            go_ret
            exact ⟨rfl, b15⟩
          | false =>
            have hs0 := HBK.out.2 hsg
            have q2 : (S.toList == []) = true := by
              rw [beq_iff_eq, ByteArray.toList_eq]
              exact List.eq_nil_of_length_eq_zero (by rw [← Lib.size_eq]; exact hs0)
            generalize gsN S 0 = y1
            generalize gsE S 0 = y2
            go_wp2_with fail
            go_ret
            exact ⟨rfl, b15⟩
        | false =>
          go_wp2_with fail
          refine HGS0.out.mono ?_
          rintro e w15 ⟨rfl, hb15⟩
          have b15 := b14.trans (hb15.mono b14.size)
          cases hsg : isSg z with
          | true =>
            obtain ⟨hs0, hx, hy⟩ := HBK.out.1 hsg
            have q2 : (S.toList == []) = false := by
              rw [beq_eq_false_iff_ne, ByteArray.toList_eq]
              intro h
              exact hs0 (by rw [Lib.size_eq, h]; rfl)
            rw [hx, hy]
            go_wp2_with fail
            go_ret
            exact ⟨rfl, b15⟩
          | false =>
            have hs0 := HBK.out.2 hsg
            have q2 : (S.toList == []) = true := by
              rw [beq_iff_eq, ByteArray.toList_eq]
              exact List.eq_nil_of_length_eq_zero (by rw [← Lib.size_eq]; exact hs0)
            generalize gsN S 0 = y1
            generalize gsE S 0 = y2
            go_wp2_with fail
            go_ret
            exact ⟨rfl, b15⟩
  · have hpx : ∀ W, Calls Tryd.prog 11 #[.int .i64 x] W fun e w' => e = .returned (.string (u.extract j k)) ∧ w' = W := fun W => by
      refine (implPutSign x W ⟨by omega, by omega⟩).mono ?_
      rintro e w' ⟨rfl, rfl⟩
      rw [hsx]
      exact ⟨rfl, rfl⟩
    have HPX := Lib.hid hpx
    clear hpx
    have h2 : decide ((0 : Int) ≤ (k : Int)) = true := by simp
    have h3 : (j : Int) ≤ (k : Int) ∧ (k : Int) ≤ (u.size : Int) := by omega
    clear hsx hjd
    go_quiet ((go_at_call 11; refine Calls.quiet_of_same (HPX.out _)))
    have bq : Below w0.heap.size w0 (w12.drewN nq) := below_drewN b12 nq
    have HRq : Hid (At1 (w12.drewN nq) (w12.drewN nq).heap.size A1 (L.map iv)) := Lib.hid HR4.out
    generalize w12.drewN nq = wq at *
    go_wp2_with fail
    go_loop [14, 15] (fun o k => ∃ m : Nat, m ≤ L.length ∧ k = .int .i64 m ∧ o = .string (str (sigsTo (L.take m)))) (fun _ k => L.length - (intOf k).toNat)
    case atStart => exact ⟨0, Nat.zero_le _, rfl, rfl⟩
    case round =>
      obtain ⟨m, hm, rfl, rfl⟩ := hrel
      have hsl2 := sigs_str L m hL20 hm
      by_cases hlt : m < L.length
      · obtain ⟨gA, off, rfl, _, c0⟩ := HRq.out.get (j := m) (by rw [List.length_map]; exact hlt)
        rw [List.getElem_map] at c0
        unfold iv at c0
        have HP := Lib.hid (HPL.out m hlt)
        have hs4 := signB_len ((L[m]'hlt : Nat) : Int)
        have HST := Lib.hid (sigs_step L m hlt)
        generalize signB ((L[m]'hlt : Nat) : Int) = tb at HP hs4 HST
        go_wp2_with fail
        refine (HP.out _).mono ?_
        rintro e w13 ⟨rfl, rfl⟩
        go_wp2_with fail
        go_round
        case rel => exact ⟨m + 1, hlt, by go_num, by rw [HST.out, ← str_app2, str_me]⟩
        case measure => simp [intOf]; omega
      · obtain rfl : m = L.length := by omega
        go_wp2_with fail
        refine (HTG.out _).mono ?_
        rintro e w14 ⟨rfl, hb14⟩
        have b14 := bq.trans (hb14.mono bq.size)
        have fin : ∀ (K : Prop), (og = true → ((str (sigsTo L)).toList == g.toList) = true) := fun _ h => by
          rw [HALL.out h, str_me]; simp
        have HFIN := Lib.hid (fin True)
        clear fin
        have HGS0 := Lib.hid (HGI.out w14 (HT.out.below b14))
        cases og with
        | true =>
          have q := HFIN.out rfl
          go_wp2_with fail
          refine HGS0.out.mono ?_
          rintro e w15 ⟨rfl, hb15⟩
          have b15 := b14.trans (hb15.mono b14.size)
          cases hsg : isSg z with
          | true =>
            obtain ⟨hs0, hx, hy⟩ := HBK.out.1 hsg
            have q2 : (S.toList == []) = false := by
              rw [beq_eq_false_iff_ne, ByteArray.toList_eq]
              intro h
              exact hs0 (by rw [Lib.size_eq, h]; rfl)
            rw [hx, hy]
            go_wp2_with fail
            go_ret
            exact ⟨rfl, b15⟩
          | false =>
            have hs0 := HBK.out.2 hsg
            have q2 : (S.toList == []) = true := by
              rw [beq_iff_eq, ByteArray.toList_eq]
              exact List.eq_nil_of_length_eq_zero (by rw [← Lib.size_eq]; exact hs0)
            generalize gsN S 0 = y1
            generalize gsE S 0 = y2
            go_wp2_with fail
            go_ret
            exact ⟨rfl, b15⟩
        | false =>
          go_wp2_with fail
          refine HGS0.out.mono ?_
          rintro e w15 ⟨rfl, hb15⟩
          have b15 := b14.trans (hb15.mono b14.size)
          cases hsg : isSg z with
          | true =>
            obtain ⟨hs0, hx, hy⟩ := HBK.out.1 hsg
            have q2 : (S.toList == []) = false := by
              rw [beq_eq_false_iff_ne, ByteArray.toList_eq]
              intro h
              exact hs0 (by rw [Lib.size_eq, h]; rfl)
            rw [hx, hy]
            go_wp2_with fail
            go_ret
            exact ⟨rfl, b15⟩
          | false =>
            have hs0 := HBK.out.2 hsg
            have q2 : (S.toList == []) = true := by
              rw [beq_iff_eq, ByteArray.toList_eq]
              exact List.eq_nil_of_length_eq_zero (by rw [← Lib.size_eq]; exact hs0)
            generalize gsN S 0 = y1
            generalize gsE S 0 = y2
            go_wp2_with fail
            go_ret
            exact ⟨rfl, b15⟩

theorem walk (t0 : List Int) (A0 : Option Addr) (c0 : Nat) (f0 : t0.length ≤ maxLen) (g0 : ∀ z ∈ t0, (Lit.int .u8 z).wf = true) (w : World) (at0 : At1 w w.heap.size A0 (t0.map (Value.int .u8))) (hT : Tabs w) :
    Calls Tryd.prog 4 #[.slice A0 t0.length c0] w fun e w' => e = .returned (.bool true) ∧ Below w.heap.size w w' := by
  obtain ⟨code, hl, hm⟩ := bytes_of t0 g0
  rw [hm] at at0
  rw [← hl]
  by_cases h : 1048576 < code.length
  · clear at0 hm hl
    go_enter Tryd.func4, Tryd.ntmps4
    go_wp2_with fail
    refine (lawBigY A0 code.length c0 w h).mono ?_
    rintro e w0 ⟨rfl, hw0⟩
    subst hw0
    go_wp2_with fail
    go_ret
    exact ⟨rfl, Below.refl _ _⟩
  · exact walk1 code A0 c0 (by omega) w at0 hT

set_option maxRecDepth 100000 in
theorem lifted (os : Os) (started : os.Started) (H : Type) (enc : TypeId × Value → H) :
    ReturnsInHanded {} Tryd.checked os 4 .any (fun w args => (Rows.fnSignsSpec.pre enc Tryd.prog Tryd.f4 [] false w args ∧ laidMetH Tryd.prog Rows.fnSignsRow.laid w) ∧ sizedMet enc Tryd.prog Tryd.f4 (OpenSpec.ofChange Rows.fnSignsSpec) false w args)
      (Rows.fnSignsSpec.post enc Tryd.prog Tryd.f4 false true false false) := by
  refine returnsInHanded_of_change_and (C := Tryd.checked) (X := fun w _ => laidMetH Tryd.prog Rows.fnSignsRow.laid w) (fun _ _ _ hh h => h.of_heap hh) own started (by kernel_rfl) Tryd.func4
    (ChangeSpec.witness_shaped (enc := enc) (C := Tryd.checked) (os := os) (X := fun w _ => laidMetH Tryd.prog Rows.fnSignsRow.laid w) false (World.laidAll Tryd.prog os Rows.fnSignsRow.laid) #[.slice none 0 0] 8 (World.laidAll_os _ _ _)
      (World.shaped_of_ZipB (by kernel_rfl) (by kernel_rfl)) (by kernel_rfl) (by kernel_rfl) (by kernel_rfl)
      (by rw [MakeChecks.laidMetH_plain _ _ _ (by kernel_rfl)]; exact laidMet_laidAll _ (by kernel_rfl) (by kernel_rfl))) ?_
  intro W base args ds gs before hval0 hW _ _ hL _
  rw [MakeChecks.laidMetH_plain _ _ _ (by kernel_rfl)] at hL
  have hT : Tabs W := tabs_of_laid hL (.head _) (.tail _ (.head _))
  have hval : ∀ (j : Nat) t v, Tryd.f4.params[j]? = some t → args[j]? = some v → Value.okWide Tryd.prog W .any base t v := hval0
  have hW' := hW
  obtain ⟨p, q, hA0, hV, rfl, hfz, hnd⟩ := hW
  have hA : DataW.TrodAll enc Tryd.prog W 0 (fun _ => true) true Tryd.f4.params.toList args.toList ds p := hA0
  rw [Tryd.params4] at hA hval
  obtain ⟨v0, vs0, d0, ds0, p0, q0, hargs, rfl, rfl, h0, r0⟩ := trodAll_cons hA
  obtain ⟨rfl, rfl, rfl⟩ := trodAll_nil r0
  obtain rfl : args = #[v0] := by cases args; simp_all
  obtain ⟨rfl, rfl⟩ := trodVars_none hV
  have k0 := h0
  have lt0 : ∀ x ∈ p0, x.block < W.heap.size := by obtain ⟨m, hm⟩ := k0; exact DataW.trod_lt m _ _ _ hm
  obtain ⟨t0, A0, c0, rfl, f0, g0, at0⟩ := open_kind Tryd.underlying25 Tryd.underlying5 (by kernel_rfl) (hval 0 25 v0 rfl rfl) h0
  clear hA0 hval0
  refine (walk t0 A0 c0 f0 g0 W at0 hT).mono fun e W' ⟨he, bel⟩ => ?_
  subst he
  exact ⟨_, rfl, _, _, _, [], _, [], hW', trodAll_mk1 (shut_bool Tryd.underlying4 _), (trodAll_cons_mk (Below.trod laidOut (by kernel_rfl) (of_decide_eq_true (by kernel_rfl)) k0 bel lt0) trodAll_mk0), rfl, bel.frame _, fun h => by cases h⟩

theorem over : Rows.fnSignsRow.holds Tryd.pinned (OpenSpec.ofChange Rows.fnSignsSpec) :=
  OpenClaim.holds_of_wide 4 Tryd.f4 rfl rfl rfl rfl rfl rfl rfl ⟨rfl, rfl, rfl, rfl, rfl⟩ rfl rfl rfl rfl rfl (by kernel_rfl) Tryd.func4 (by kernel_rfl)
    (of_decide_eq_true (by kernel_rfl)) (by unfold Func.isWrapper; first | (rw [if_pos (by decide +kernel)]; kernel_rfl) | (rw [if_neg (by decide +kernel)]; exact ⟨rfl, rfl⟩))
    (fun os started H enc _ => lifted os started H enc)

theorem proved : Rows.FnSignsCardSaid :=
  Claim7.holds_tied_plain_at .later [] _ _ _ _ over (fun _ h => by cases h) (by kernel_rfl) (fun _ h => by cases h) fnSigns_row_tie rfl ⟨rfl, rfl⟩ (by kernel_rfl) rfl
    (fun f fn hf hfn => by
      obtain rfl : f = 4 := Option.some.inj ((show Tryd.prog.funcNamed "loop.example/g00421/laws.FnSigns" = some 4 by kernel_rfl).symm.trans hf) |>.symm
      obtain rfl : fn = Tryd.f4 := (Option.some.inj (Tryd.func4.symm.trans hfn)).symm
      exact ⟨by kernel_rfl, fun j t ht => by
        rw [Tryd.params4] at ht
        have hm : t ∈ [25] := by simpa using Array.mem_of_getElem? ht
        have hall : ([25].all fun u => !Tryd.prog.wantsStandIn u) = true := by kernel_rfl
        exact (show Tryd.prog.wantsStandIn t = false by simpa using List.all_eq_true.1 hall t hm)⟩)
    (by kernel_rfl)
end Go.Proofs.YtlgonfdodmipeaaDoor.fnSigns
