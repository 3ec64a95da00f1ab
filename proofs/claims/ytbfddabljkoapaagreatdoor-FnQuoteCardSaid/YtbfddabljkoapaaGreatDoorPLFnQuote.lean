/-
  FnQuote returns true for every code; it reads as it did; the listed tables and errors lie as the card lists them.
-/
import Derived.Test.YtbfddabljkoapaaGreatDoorPaLFnQuote
import Derived.Test.YtbfddabljkoapaaGreatDoorCards
import Derived.Test.YtbfddabljkoapaaGreatDoorTie
import Derived.Lay
import Derived.LaidOnce
import Derived.SevenTiedAt
/-
  FnQuote returns true for every code; it reads as it did; the listed tables and errors lie as the card lists them.
-/
namespace Go.Proofs.YtbfddabljkoapaaGreatDoor.fnQuote
open Go.ChangeShapes Go.WideShapes Go.ChangeAt Go.RowKit
open Go.ChangeMaps (open_string shut_string)
set_option linter.unusedVariables false
set_option linter.unusedSimpArgs false
set_option maxRecDepth 100000

theorem unqG_long (s : ByteArray) : ∀ f i out t n, out.length ≤ i → i ≤ s.size → unqG s f i out = some (t, n) → t.length ≤ s.size
  | 0, i, out, t, n, _, _, h => by cases h
  | f + 1, i, out, t, n, ho, hi, h => by
    unfold unqG at h
    split at h
    · cases h
    · split at h
      · injection h with h
        injection h with h1 _
        rw [← h1]
        omega
      · split at h
        · cases he : escAt s i with
          | none => rw [he] at h; cases h
          | some p =>
            obtain ⟨tt, k⟩ := p
            rw [he] at h
            have hp := escAt_place he
            have hl := escAt_len he
            refine unqG_long s f _ _ t n ?_ hp.2 h
            rw [List.length_append, ← Lib.size_eq]
            omega
        · split at h
          · have hd := dec_le s i (by omega)
            refine unqG_long s f _ _ t n ?_ hd h
            rw [List.length_append, piece_len _ _ _ hd]
            omega
          · cases h
theorem unq_long {s : ByteArray} {i : Int} {t : List UInt8} {n : Nat} (h : unqP s i = some (t, n)) : t.length ≤ s.size := by
  unfold unqP at h
  split at h
  · rename_i h2
    exact unqG_long s _ _ [] t n (Nat.zero_le _) (by omega) h
  · cases h
theorem readDec_both (s : ByteArray) (hs : s.size ≤ 1048576) : ∃ (v : Int) (b : Bool), (∀ W, Calls Tryz.prog 20 #[.string s] W fun e w' => e = .returned (.tuple #[.int .i64 v, .bool b]) ∧ Below W.heap.size W w') ∧
    (∀ W, Pow10 W → Errs W → Calls Tryz.prog 19 #[.string s] W fun e w' => e = .returned (.tuple #[.int .i64 v, .bool b]) ∧ Below W.heap.size W w') ∧
    (b = true → (-9223372036854775808 ≤ v ∧ v ≤ 9223372036854775807) ∧ s = str (Lib.itoa v)) := by
  by_cases h : ∃ v : Int, (-9223372036854775808 ≤ v ∧ v ≤ 9223372036854775807) ∧ str (Lib.itoa v) = s
  · obtain ⟨v, hv, rfl⟩ := h
    refine ⟨v, true, fun W => (specReadDec_yes v W hv).mono ?_, fun W hP _ => implReadDec_yes v W hv hP, fun _ => ⟨hv, rfl⟩⟩
    rintro e w' ⟨rfl, rfl⟩
    exact ⟨rfl, Below.refl _ _⟩
  · have hno : NoDec s := fun v hv e => h ⟨v, hv, e⟩
    refine ⟨0, false, fun W => (specReadDec_no s W hs hno).mono ?_, fun W hP hE => implReadDec_no s W hs hno hP hE, fun hb => by cases hb⟩
    rintro e w' ⟨rfl, rfl⟩
    exact ⟨rfl, Below.refl _ _⟩
set_option maxHeartbeats 8000000 in
theorem walk1 (code : List UInt8) (A : Option Addr) (cap : Nat) (hn : code.length ≤ 1048576) (w : World) (hat : At1 w w.heap.size A (code.map bv)) (hT : Tabs w) (hC : CaseTab w) (hP : Pow10 w) (hE : Errs w) (hM : MX w) :
    Calls Tryz.prog 3 #[.slice A code.length cap] w fun e w' => e = .returned (.bool true) ∧ Below w.heap.size w w' := by
  have HA := Lib.hid hat
  have HT := Lib.hid hT
  have HC := Lib.hid hC
  have HP := Lib.hid hP
  have HE := Lib.hid hE
  have HM := Lib.hid hM
  have at_ : Hid (∀ W, Below w.heap.size w W → At1 W W.heap.size A (code.map bv)) := Lib.hid (fun W hb => (HA.out.below hb (Nat.le_refl _)).more hb.size)
  clear hat hT hC hP hE hM
  go_enter Tryz.func3, Tryz.ntmps3
  go_wp2_with fail
  refine (lawBig A code.length cap w hn).mono ?_
  rintro e w0 ⟨rfl, hw0⟩
  subst hw0
  have b0 : Below w0.heap.size w0 w0 := Below.refl _ _
  go_wp2_with fail
  refine (drawQuote A cap code w0 (at_.out _ b0) (by omega)).mono ?_
  rintro e w1 ⟨⟨q, hq, rfl⟩, hb1⟩
  have b1 := b0.trans (hb1.mono b0.size)
  have hqs := quoteB_size q
  have HLQ : Hid (textOk q = true → unqB (quoteB q) 0 = q ∧ unqE (quoteB q) 0 = ((quoteB q).size : Int)) := Lib.hid (fun h => unquote_quote h)
  have HLN : Hid ((textOk q = true → (quoteB q).size ≠ 0) ∧ (textOk q = false → (quoteB q).size = 0)) := Lib.hid ⟨fun h => by unfold quoteB; rw [h]; simp only [if_true]; rw [str_len]; simp, fun h => by unfold quoteB; rw [h]; rfl⟩
  have HQI := Lib.hid (fun W hT => implQuote q W (by omega) hT)
  have HQS := Lib.hid (fun W => specQuote q W (by omega))
  have HTQ := Lib.hid (fun W => specTextOk q W (by omega))
  have HUS := Lib.hid (fun W hT hC => implUnquote (quoteB q) 0 W (by omega) ⟨by omega, by omega⟩ hT hC)
  obtain ⟨tq, htq⟩ : ∃ tq, textOk q = tq := ⟨_, rfl⟩
  rw [htq] at HLQ HLN HTQ
  clear htq
  generalize quoteB q = S at *
  go_wp2_with fail
  refine (HQI.out _ (HT.out.below b1)).mono ?_
  rintro e w2 ⟨rfl, hb2⟩
  have b2 := b1.trans (hb2.mono b1.size)
  go_wp2_with fail
  refine (drawUnquote A cap code w2 (at_.out _ b2) (by omega)).mono ?_
  rintro e w3 ⟨⟨u, i, hu, hi, rfl⟩, hb3⟩
  have b3 := b2.trans (hb3.mono b2.size)
  have HUI := Lib.hid (fun W hT hC => implUnquote u i W (by omega) hi hT hC)
  have HUR := Lib.hid (fun W => specUnquote u i W (by omega) hi)
  have HUK : Hid (0 ≤ unqE u i → textOk (unqB u i) = true) := Lib.hid (fun h => unq_ok h)
  have HUZ : Hid ((unqB u i).size ≤ 1048576) := Lib.hid (by
    cases hp : unqP u i with
    | none => rw [(unq_no hp).1]; exact Nat.zero_le _
    | some p =>
      obtain ⟨t, m⟩ := p
      have h1 := (unq_some hp).1
      rw [h1, str_len]
      have := unq_long hp
      omega)
  generalize unqB u i = x at *
  generalize unqE u i = ne at *
  go_wp2_with fail
  refine (HUI.out _ (HT.out.below b3) (HC.out.below b3)).mono ?_
  rintro e w4 ⟨rfl, hb4⟩
  have b4 := b3.trans (hb4.mono b3.size)
  go_wp2_with fail
  refine (HUR.out _).mono ?_
  rintro e w5 ⟨rfl, hb5⟩
  have b5 := b4.trans (hb5.mono b4.size)
  go_wp2_with fail
  refine (drawPutHex A cap code w5 (at_.out _ b5) (by omega)).mono ?_
  rintro e w6 ⟨⟨h, hh, rfl⟩, hb6⟩
  have b6 := b5.trans (hb6.mono b5.size)
  have hhs : (str (hexOf h.data.toList)).size ≤ 40 := by rw [str_len, hexOf_len, ← Lib.size_eq]; omega
  have HHI := Lib.hid (fun W => implPutHex h W (by omega))
  have HHS := Lib.hid (fun W => specPutHex h W (by omega))
  have HHB := Lib.hid (fun W => implGetHex (str (hexOf h.data.toList)) W (by omega))
  rw [(gh_back h).1, (gh_back h).2] at HHB
  generalize str (hexOf h.data.toList) = H at *
  go_wp2_with fail
  refine (HHI.out _).mono ?_
  rintro e w7 ⟨rfl, hb7⟩
  have b7 := b6.trans (hb7.mono b6.size)
  go_wp2_with fail
  refine (drawGetHex A cap code w7 (at_.out _ b7) (by omega)).mono ?_
  rintro e w8 ⟨⟨g, hg, rfl⟩, hb8⟩
  have b8 := b7.trans (hb8.mono b7.size)
  have HGI := Lib.hid (fun W => implGetHex g W (by omega))
  have HGS := Lib.hid (fun W => specGetHex g W (by omega))
  have hgsz : (ghS g.data.toList).size ≤ 1048576 := by
    cases hb : ghB g.data.toList with
    | true =>
      have := congrArg ByteArray.size (gh_forth hb)
      rw [str_len, hexOf_len, ← Lib.size_eq] at this
      omega
    | false =>
      unfold ghB at hb
      unfold ghS
      cases hr : hexRead g.data.toList with
      | none => exact Nat.zero_le _
      | some l => rw [hr] at hb; cases hb
  have HGP := Lib.hid (fun W => implPutHex (ghS g.data.toList) W hgsz)
  have HGF : Hid (ghB g.data.toList = true → str (hexOf (ghS g.data.toList).data.toList) = g) := Lib.hid (fun hb => gh_forth hb)
  generalize str (hexOf (ghS g.data.toList).data.toList) = gg at *
  generalize ghS g.data.toList = gb at *
  generalize ghB g.data.toList = gk at *
  have qgk : (gk != gk) = false := by simp
  go_wp2_with fail
  refine (HGI.out _).mono ?_
  rintro e w9 ⟨rfl, hb9⟩
  have b9 := b8.trans (hb9.mono b8.size)
  go_wp2_with fail
  refine (HGS.out _).mono ?_
  rintro e w10 ⟨rfl, hb10⟩
  have b10 := b9.trans (hb10.mono b9.size)
  go_wp2_with fail
  refine (drawDecText A cap code w10 (at_.out _ b10) (by omega)).mono ?_
  rintro e w11 ⟨⟨d, hd, rfl⟩, hb11⟩
  have b11 := b10.trans (hb11.mono b10.size)
  have HDI := Lib.hid (fun W hP => implDecText d W hd hP)
  have HDS := Lib.hid (fun W => specDecText d W hd)
  have HDR := Lib.hid (fun W hP => implReadDec_yes d W hd hP)
  generalize str (Lib.itoa d) = D at *
  go_wp2_with fail
  refine (drawReadDec A cap code w11 (at_.out _ b11) (by omega)).mono ?_
  rintro e w12 ⟨⟨r, hr, rfl⟩, hb12⟩
  have b12 := b11.trans (hb12.mono b11.size)
  obtain ⟨rn, rb, hRS, hRI, hRB⟩ := readDec_both r (by omega)
  have HRS := Lib.hid hRS
  have HRI := Lib.hid hRI
  have HRB := Lib.hid hRB
  have qrb : (rb != rb) = false := by simp
  clear hRS hRI hRB
  go_wp2_with fail
  refine (HRI.out _ (HP.out.below b12 (Nat.le_refl _)) (HE.out.below b12 (Nat.le_refl _))).mono ?_
  rintro e w13 ⟨rfl, hb13⟩
  have b13 := b12.trans (hb13.mono b12.size)
  go_wp2_with fail
  refine (HRS.out _).mono ?_
  rintro e w14 ⟨rfl, hb14⟩
  have b14 := b13.trans (hb14.mono b13.size)
  go_wp2_with fail
  refine (drawWords A cap code w14 (at_.out _ b14) (by omega)).mono ?_
  rintro e w15 ⟨⟨wd, hwd, rfl⟩, hb15⟩
  have b15 := b14.trans (hb15.mono b14.size)
  go_wp2_with fail
  refine (HQS.out _).mono ?_
  rintro e w16 ⟨rfl, hb16⟩
  have b16 := b15.trans (hb16.mono b15.size)
  go_wp2_with fail
  refine (HHS.out _).mono ?_
  rintro e w17 ⟨rfl, hb17⟩
  have b17 := b16.trans (hb17.mono b16.size)
  go_wp2_with fail
  refine (HDI.out _ (HP.out.below b17 (Nat.le_refl _))).mono ?_
  rintro e w18 ⟨rfl, hb18⟩
  have b18 := b17.trans (hb18.mono b17.size)
  go_wp2_with fail
  refine (HDS.out _).mono ?_
  rintro e wz ⟨rfl, hz⟩
  subst hz
  have hwl : (cutAt 32 wd).length ≤ 1000 := by have := cutAt_len 32 wd; omega
  have HWI := Lib.hid (fun W hM => implWords wd W (by omega) hM)
  have HWS := Lib.hid (fun W => specWords wd W (by omega))
  generalize cutAt 32 wd = L at *
  go_wp2_with fail
  refine (HWI.out _ (HM.out.below b18)).mono ?_
  rintro e w19 ⟨o1, rfl, r1, hb19⟩
  have b19 := b18.trans (hb19.mono b18.size)
  obtain ⟨A1, c1, rfl⟩ := row_of r1
  have HR1 := Lib.hid (At1.own r1)
  clear r1
  go_wp2_with fail
  refine (HWS.out _).mono ?_
  rintro e w20 ⟨o2, rfl, r2, hb20⟩
  have b20 := b19.trans (hb20.mono b19.size)
  obtain ⟨A2, c2, rfl⟩ := row_of r2
  have HR2 := Lib.hid (At1.own r2)
  have HR3 := Lib.hid ((HR1.out.below hb20 (Nat.le_refl _)).more hb20.size)
  clear r2
  go_wp2_with fail
  refine (lawSameTexts L A1 A2 c1 c2 w20 (by omega) HR3.out HR2.out).mono ?_
  rintro e w21 ⟨rfl, hb21⟩
  have b21 := b20.trans (hb21.mono b20.size)
  have hA1 : ∀ (K : Prop), (gk = true → (gg.toList == g.toList) = true) := fun _ h => by rw [HGF.out h]; simp
  have HA1 := Lib.hid (hA1 True)
  clear hA1
  have HTX : Hid (∀ W, Tabs W → 0 ≤ ne → Calls Tryz.prog 29 #[.string x] W fun e w' => e = .returned (.bool true) ∧ Below W.heap.size W w') := Lib.hid (fun W hT hne => by
    have h := implTextOk x W HUZ.out hT
    rw [HUK.out hne] at h
    exact h)
  have HRD : Hid (∀ W, Pow10 W → rb = true → Calls Tryz.prog 24 #[.int .i64 rn] W fun e w' => e = .returned (.string r) ∧ Below W.heap.size W w') := Lib.hid (fun W hP hb => by
    obtain ⟨hrr, hre⟩ := HRB.out hb
    have h := implDecText rn W hrr hP
    rw [← hre] at h
    exact h)
  have FIN : Hid (∀ (W : World), Below w0.heap.size w0 W → True) := Lib.hid (fun _ _ => trivial)
  cases gk with
  | true =>
    have q1 := HA1.out rfl
    go_wp2_with fail
    refine (HGP.out _).mono ?_
    rintro e y1 ⟨rfl, hy1⟩
    have d1 := b21.trans (hy1.mono b21.size)
    cases rb with
    | true =>
      have HRD2 := Lib.hid (fun W hP => HRD.out W hP rfl)
      go_wp2_with fail
      refine (HRD2.out _ (HP.out.below d1 (Nat.le_refl _))).mono ?_
      rintro e y2 ⟨rfl, hy2⟩
      have d2 := d1.trans (hy2.mono d1.size)
      by_cases hne : 0 ≤ ne
      · have qn : decide (0 ≤ ne) = true := decide_eq_true hne
        have HTX2 := Lib.hid (fun W hT => HTX.out W hT hne)
        go_wp2_with fail
        refine (HTX2.out _ (HT.out.below d2)).mono ?_
        rintro e y3 ⟨rfl, hy3⟩
        have d3 := d2.trans (hy3.mono d2.size)
        go_wp2_with fail
        refine (HHB.out _).mono ?_
        rintro e x1 ⟨rfl, hx1⟩
        have c1 := d3.trans (hx1.mono d3.size)
        go_wp2_with fail
        refine (HDI.out _ (HP.out.below c1 (Nat.le_refl _))).mono ?_
        rintro e x2 ⟨rfl, hx2⟩
        have c2 := c1.trans (hx2.mono c1.size)
        go_wp2_with fail
        refine (HDR.out _ (HP.out.below c2 (Nat.le_refl _))).mono ?_
        rintro e x3 ⟨rfl, hx3⟩
        have c3 := c2.trans (hx3.mono c2.size)
        cases tq with
        | true =>
          obtain ⟨hu1, hu2⟩ := HLQ.out rfl
          have hne0 := HLN.out.1 rfl
          have q2 : (S.toList == []) = false := by
            rw [beq_eq_false_iff_ne, ByteArray.toList_eq]
            intro h
            exact hne0 (by rw [Lib.size_eq, h]; rfl)
          rw [hu1, hu2] at HUS
          clear hu1 hu2 hne0
          go_wp2_with fail
          refine (HUS.out _ (HT.out.below c3) (HC.out.below c3)).mono ?_
          rintro e x4 ⟨rfl, hx4⟩
          have c4 := c3.trans (hx4.mono c3.size)
          go_wp2_with fail
          go_ret
          exact ⟨rfl, c4⟩
        | false =>
          have he0 := HLN.out.2 rfl
          have q2 : (S.toList == []) = true := by
            rw [beq_iff_eq, ByteArray.toList_eq]
            exact List.eq_nil_of_length_eq_zero (by rw [← Lib.size_eq]; exact he0)
          clear he0
          go_wp2_with fail
          refine (HTQ.out _).mono ?_
          rintro e x4 ⟨rfl, hx4⟩
          have c4 := c3.trans (hx4.mono c3.size)
          go_wp2_with fail
          go_ret
          exact ⟨rfl, c4⟩
      · have qn : decide (0 ≤ ne) = false := decide_eq_false hne
        have d3 := d2
        go_wp2_with fail
        refine (HHB.out _).mono ?_
        rintro e x1 ⟨rfl, hx1⟩
        have c1 := d3.trans (hx1.mono d3.size)
        go_wp2_with fail
        refine (HDI.out _ (HP.out.below c1 (Nat.le_refl _))).mono ?_
        rintro e x2 ⟨rfl, hx2⟩
        have c2 := c1.trans (hx2.mono c1.size)
        go_wp2_with fail
        refine (HDR.out _ (HP.out.below c2 (Nat.le_refl _))).mono ?_
        rintro e x3 ⟨rfl, hx3⟩
        have c3 := c2.trans (hx3.mono c2.size)
        cases tq with
        | true =>
          obtain ⟨hu1, hu2⟩ := HLQ.out rfl
          have hne0 := HLN.out.1 rfl
          have q2 : (S.toList == []) = false := by
            rw [beq_eq_false_iff_ne, ByteArray.toList_eq]
            intro h
            exact hne0 (by rw [Lib.size_eq, h]; rfl)
          rw [hu1, hu2] at HUS
          clear hu1 hu2 hne0
          go_wp2_with fail
          refine (HUS.out _ (HT.out.below c3) (HC.out.below c3)).mono ?_
          rintro e x4 ⟨rfl, hx4⟩
          have c4 := c3.trans (hx4.mono c3.size)
          go_wp2_with fail
          go_ret
          exact ⟨rfl, c4⟩
        | false =>
          have he0 := HLN.out.2 rfl
          have q2 : (S.toList == []) = true := by
            rw [beq_iff_eq, ByteArray.toList_eq]
            exact List.eq_nil_of_length_eq_zero (by rw [← Lib.size_eq]; exact he0)
          clear he0
          go_wp2_with fail
          refine (HTQ.out _).mono ?_
          rintro e x4 ⟨rfl, hx4⟩
          have c4 := c3.trans (hx4.mono c3.size)
          go_wp2_with fail
          go_ret
          exact ⟨rfl, c4⟩
    | false =>
      have d2 := d1
      by_cases hne : 0 ≤ ne
      · have qn : decide (0 ≤ ne) = true := decide_eq_true hne
        have HTX2 := Lib.hid (fun W hT => HTX.out W hT hne)
        go_wp2_with fail
        refine (HTX2.out _ (HT.out.below d2)).mono ?_
        rintro e y3 ⟨rfl, hy3⟩
        have d3 := d2.trans (hy3.mono d2.size)
        go_wp2_with fail
        refine (HHB.out _).mono ?_
        rintro e x1 ⟨rfl, hx1⟩
        have c1 := d3.trans (hx1.mono d3.size)
        go_wp2_with fail
        refine (HDI.out _ (HP.out.below c1 (Nat.le_refl _))).mono ?_
        rintro e x2 ⟨rfl, hx2⟩
        have c2 := c1.trans (hx2.mono c1.size)
        go_wp2_with fail
        refine (HDR.out _ (HP.out.below c2 (Nat.le_refl _))).mono ?_
        rintro e x3 ⟨rfl, hx3⟩
        have c3 := c2.trans (hx3.mono c2.size)
        cases tq with
        | true =>
          obtain ⟨hu1, hu2⟩ := HLQ.out rfl
          have hne0 := HLN.out.1 rfl
          have q2 : (S.toList == []) = false := by
            rw [beq_eq_false_iff_ne, ByteArray.toList_eq]
            intro h
            exact hne0 (by rw [Lib.size_eq, h]; rfl)
          rw [hu1, hu2] at HUS
          clear hu1 hu2 hne0
          go_wp2_with fail
          refine (HUS.out _ (HT.out.below c3) (HC.out.below c3)).mono ?_
          rintro e x4 ⟨rfl, hx4⟩
          have c4 := c3.trans (hx4.mono c3.size)
          go_wp2_with fail
          go_ret
          exact ⟨rfl, c4⟩
        | false =>
          have he0 := HLN.out.2 rfl
          have q2 : (S.toList == []) = true := by
            rw [beq_iff_eq, ByteArray.toList_eq]
            exact List.eq_nil_of_length_eq_zero (by rw [← Lib.size_eq]; exact he0)
          clear he0
          go_wp2_with fail
          refine (HTQ.out _).mono ?_
          rintro e x4 ⟨rfl, hx4⟩
          have c4 := c3.trans (hx4.mono c3.size)
          go_wp2_with fail
          go_ret
          exact ⟨rfl, c4⟩
      · have qn : decide (0 ≤ ne) = false := decide_eq_false hne
        have d3 := d2
        go_wp2_with fail
        refine (HHB.out _).mono ?_
        rintro e x1 ⟨rfl, hx1⟩
        have c1 := d3.trans (hx1.mono d3.size)
        go_wp2_with fail
        refine (HDI.out _ (HP.out.below c1 (Nat.le_refl _))).mono ?_
        rintro e x2 ⟨rfl, hx2⟩
        have c2 := c1.trans (hx2.mono c1.size)
        go_wp2_with fail
        refine (HDR.out _ (HP.out.below c2 (Nat.le_refl _))).mono ?_
        rintro e x3 ⟨rfl, hx3⟩
        have c3 := c2.trans (hx3.mono c2.size)
        cases tq with
        | true =>
          obtain ⟨hu1, hu2⟩ := HLQ.out rfl
          have hne0 := HLN.out.1 rfl
          have q2 : (S.toList == []) = false := by
            rw [beq_eq_false_iff_ne, ByteArray.toList_eq]
            intro h
            exact hne0 (by rw [Lib.size_eq, h]; rfl)
          rw [hu1, hu2] at HUS
          clear hu1 hu2 hne0
          go_wp2_with fail
          refine (HUS.out _ (HT.out.below c3) (HC.out.below c3)).mono ?_
          rintro e x4 ⟨rfl, hx4⟩
          have c4 := c3.trans (hx4.mono c3.size)
          go_wp2_with fail
          go_ret
          exact ⟨rfl, c4⟩
        | false =>
          have he0 := HLN.out.2 rfl
          have q2 : (S.toList == []) = true := by
            rw [beq_iff_eq, ByteArray.toList_eq]
            exact List.eq_nil_of_length_eq_zero (by rw [← Lib.size_eq]; exact he0)
          clear he0
          go_wp2_with fail
          refine (HTQ.out _).mono ?_
          rintro e x4 ⟨rfl, hx4⟩
          have c4 := c3.trans (hx4.mono c3.size)
          go_wp2_with fail
          go_ret
          exact ⟨rfl, c4⟩
  | false =>
    have d1 := b21
    cases rb with
    | true =>
      have HRD2 := Lib.hid (fun W hP => HRD.out W hP rfl)
      go_wp2_with fail
      refine (HRD2.out _ (HP.out.below d1 (Nat.le_refl _))).mono ?_
      rintro e y2 ⟨rfl, hy2⟩
      have d2 := d1.trans (hy2.mono d1.size)
      by_cases hne : 0 ≤ ne
      · have qn : decide (0 ≤ ne) = true := decide_eq_true hne
        have HTX2 := Lib.hid (fun W hT => HTX.out W hT hne)
        go_wp2_with fail
        refine (HTX2.out _ (HT.out.below d2)).mono ?_
        rintro e y3 ⟨rfl, hy3⟩
        have d3 := d2.trans (hy3.mono d2.size)
        go_wp2_with fail
        refine (HHB.out _).mono ?_
        rintro e x1 ⟨rfl, hx1⟩
        have c1 := d3.trans (hx1.mono d3.size)
        go_wp2_with fail
        refine (HDI.out _ (HP.out.below c1 (Nat.le_refl _))).mono ?_
        rintro e x2 ⟨rfl, hx2⟩
        have c2 := c1.trans (hx2.mono c1.size)
        go_wp2_with fail
        refine (HDR.out _ (HP.out.below c2 (Nat.le_refl _))).mono ?_
        rintro e x3 ⟨rfl, hx3⟩
        have c3 := c2.trans (hx3.mono c2.size)
        cases tq with
        | true =>
          obtain ⟨hu1, hu2⟩ := HLQ.out rfl
          have hne0 := HLN.out.1 rfl
          have q2 : (S.toList == []) = false := by
            rw [beq_eq_false_iff_ne, ByteArray.toList_eq]
            intro h
            exact hne0 (by rw [Lib.size_eq, h]; rfl)
          rw [hu1, hu2] at HUS
          clear hu1 hu2 hne0
          go_wp2_with fail
          refine (HUS.out _ (HT.out.below c3) (HC.out.below c3)).mono ?_
          rintro e x4 ⟨rfl, hx4⟩
          have c4 := c3.trans (hx4.mono c3.size)
          go_wp2_with fail
          go_ret
          exact ⟨rfl, c4⟩
        | false =>
          have he0 := HLN.out.2 rfl
          have q2 : (S.toList == []) = true := by
            rw [beq_iff_eq, ByteArray.toList_eq]
            exact List.eq_nil_of_length_eq_zero (by rw [← Lib.size_eq]; exact he0)
          clear he0
          go_wp2_with fail
          refine (HTQ.out _).mono ?_
          rintro e x4 ⟨rfl, hx4⟩
          have c4 := c3.trans (hx4.mono c3.size)
          go_wp2_with fail
          go_ret
          exact ⟨rfl, c4⟩
      · have qn : decide (0 ≤ ne) = false := decide_eq_false hne
        have d3 := d2
        go_wp2_with fail
        refine (HHB.out _).mono ?_
        rintro e x1 ⟨rfl, hx1⟩
        have c1 := d3.trans (hx1.mono d3.size)
        go_wp2_with fail
        refine (HDI.out _ (HP.out.below c1 (Nat.le_refl _))).mono ?_
        rintro e x2 ⟨rfl, hx2⟩
        have c2 := c1.trans (hx2.mono c1.size)
        go_wp2_with fail
        refine (HDR.out _ (HP.out.below c2 (Nat.le_refl _))).mono ?_
        rintro e x3 ⟨rfl, hx3⟩
        have c3 := c2.trans (hx3.mono c2.size)
        cases tq with
        | true =>
          obtain ⟨hu1, hu2⟩ := HLQ.out rfl
          have hne0 := HLN.out.1 rfl
          have q2 : (S.toList == []) = false := by
            rw [beq_eq_false_iff_ne, ByteArray.toList_eq]
            intro h
            exact hne0 (by rw [Lib.size_eq, h]; rfl)
          rw [hu1, hu2] at HUS
          clear hu1 hu2 hne0
          go_wp2_with fail
          refine (HUS.out _ (HT.out.below c3) (HC.out.below c3)).mono ?_
          rintro e x4 ⟨rfl, hx4⟩
          have c4 := c3.trans (hx4.mono c3.size)
          go_wp2_with fail
          go_ret
          exact ⟨rfl, c4⟩
        | false =>
          have he0 := HLN.out.2 rfl
          have q2 : (S.toList == []) = true := by
            rw [beq_iff_eq, ByteArray.toList_eq]
            exact List.eq_nil_of_length_eq_zero (by rw [← Lib.size_eq]; exact he0)
          clear he0
          go_wp2_with fail
          refine (HTQ.out _).mono ?_
          rintro e x4 ⟨rfl, hx4⟩
          have c4 := c3.trans (hx4.mono c3.size)
          go_wp2_with fail
          go_ret
          exact ⟨rfl, c4⟩
    | false =>
      have d2 := d1
      by_cases hne : 0 ≤ ne
      · have qn : decide (0 ≤ ne) = true := decide_eq_true hne
        have HTX2 := Lib.hid (fun W hT => HTX.out W hT hne)
        go_wp2_with fail
        refine (HTX2.out _ (HT.out.below d2)).mono ?_
        rintro e y3 ⟨rfl, hy3⟩
        have d3 := d2.trans (hy3.mono d2.size)
        go_wp2_with fail
        refine (HHB.out _).mono ?_
        rintro e x1 ⟨rfl, hx1⟩
        have c1 := d3.trans (hx1.mono d3.size)
        go_wp2_with fail
        refine (HDI.out _ (HP.out.below c1 (Nat.le_refl _))).mono ?_
        rintro e x2 ⟨rfl, hx2⟩
        have c2 := c1.trans (hx2.mono c1.size)
        go_wp2_with fail
        refine (HDR.out _ (HP.out.below c2 (Nat.le_refl _))).mono ?_
        rintro e x3 ⟨rfl, hx3⟩
        have c3 := c2.trans (hx3.mono c2.size)
        cases tq with
        | true =>
          obtain ⟨hu1, hu2⟩ := HLQ.out rfl
          have hne0 := HLN.out.1 rfl
          have q2 : (S.toList == []) = false := by
            rw [beq_eq_false_iff_ne, ByteArray.toList_eq]
            intro h
            exact hne0 (by rw [Lib.size_eq, h]; rfl)
          rw [hu1, hu2] at HUS
          clear hu1 hu2 hne0
          go_wp2_with fail
          refine (HUS.out _ (HT.out.below c3) (HC.out.below c3)).mono ?_
          rintro e x4 ⟨rfl, hx4⟩
          have c4 := c3.trans (hx4.mono c3.size)
          go_wp2_with fail
          go_ret
          exact ⟨rfl, c4⟩
        | false =>
          have he0 := HLN.out.2 rfl
          have q2 : (S.toList == []) = true := by
            rw [beq_iff_eq, ByteArray.toList_eq]
            exact List.eq_nil_of_length_eq_zero (by rw [← Lib.size_eq]; exact he0)
          clear he0
          go_wp2_with fail
          refine (HTQ.out _).mono ?_
          rintro e x4 ⟨rfl, hx4⟩
          have c4 := c3.trans (hx4.mono c3.size)
          go_wp2_with fail
          go_ret
          exact ⟨rfl, c4⟩
      · have qn : decide (0 ≤ ne) = false := decide_eq_false hne
        have d3 := d2
        go_wp2_with fail
        refine (HHB.out _).mono ?_
        rintro e x1 ⟨rfl, hx1⟩
        have c1 := d3.trans (hx1.mono d3.size)
        go_wp2_with fail
        refine (HDI.out _ (HP.out.below c1 (Nat.le_refl _))).mono ?_
        rintro e x2 ⟨rfl, hx2⟩
        have c2 := c1.trans (hx2.mono c1.size)
        go_wp2_with fail
        refine (HDR.out _ (HP.out.below c2 (Nat.le_refl _))).mono ?_
        rintro e x3 ⟨rfl, hx3⟩
        have c3 := c2.trans (hx3.mono c2.size)
        cases tq with
        | true =>
          obtain ⟨hu1, hu2⟩ := HLQ.out rfl
          have hne0 := HLN.out.1 rfl
          have q2 : (S.toList == []) = false := by
            rw [beq_eq_false_iff_ne, ByteArray.toList_eq]
            intro h
            exact hne0 (by rw [Lib.size_eq, h]; rfl)
          rw [hu1, hu2] at HUS
          clear hu1 hu2 hne0
          go_wp2_with fail
          refine (HUS.out _ (HT.out.below c3) (HC.out.below c3)).mono ?_
          rintro e x4 ⟨rfl, hx4⟩
          have c4 := c3.trans (hx4.mono c3.size)
          go_wp2_with fail
          go_ret
          exact ⟨rfl, c4⟩
        | false =>
          have he0 := HLN.out.2 rfl
          have q2 : (S.toList == []) = true := by
            rw [beq_iff_eq, ByteArray.toList_eq]
            exact List.eq_nil_of_length_eq_zero (by rw [← Lib.size_eq]; exact he0)
          clear he0
          go_wp2_with fail
          refine (HTQ.out _).mono ?_
          rintro e x4 ⟨rfl, hx4⟩
          have c4 := c3.trans (hx4.mono c3.size)
          go_wp2_with fail
          go_ret
          exact ⟨rfl, c4⟩

theorem walk (t0 : List Int) (A0 : Option Addr) (c0 : Nat) (f0 : t0.length ≤ maxLen) (g0 : ∀ z ∈ t0, (Lit.int .u8 z).wf = true) (w : World) (at0 : At1 w w.heap.size A0 (t0.map (Value.int .u8))) (hT : Tabs w) (hC : CaseTab w) (hP : Pow10 w) (hE : Errs w) (hM : MX w) :
    Calls Tryz.prog 3 #[.slice A0 t0.length c0] w fun e w' => e = .returned (.bool true) ∧ Below w.heap.size w w' := by
  obtain ⟨code, hl, hm⟩ := bytes_of t0 g0
  rw [hm] at at0
  rw [← hl]
  by_cases h : 1048576 < code.length
  · clear at0 hm hl
    go_enter Tryz.func3, Tryz.ntmps3
    go_wp2_with fail
    refine (lawBigY A0 code.length c0 w h).mono ?_
    rintro e w0 ⟨rfl, hw0⟩
    subst hw0
    go_wp2_with fail
    go_ret
    exact ⟨rfl, Below.refl _ _⟩
  · exact walk1 code A0 c0 (by omega) w at0 hT hC hP hE hM

set_option maxRecDepth 100000 in
theorem lifted (os : Os) (started : os.Started) (H : Type) (enc : TypeId × Value → H) :
    ReturnsInHanded {} Tryz.checked os 3 .any (fun w args => (Rows.fnQuoteSpec.pre enc Tryz.prog Tryz.f3 [] false w args ∧ laidMetH Tryz.prog Rows.fnQuoteRow.laid w) ∧ sizedMet enc Tryz.prog Tryz.f3 (OpenSpec.ofChange Rows.fnQuoteSpec) false w args)
      (Rows.fnQuoteSpec.post enc Tryz.prog Tryz.f3 false true false false) := by
  refine handed_shaped (C := Tryz.checked) (X := fun w _ => laidMetH Tryz.prog Rows.fnQuoteRow.laid w) (fun _ _ _ hh h => h.of_heap hh) own started (by kernel_rfl) Tryz.func3
    (ChangeSpec.witness_shaped (enc := enc) (C := Tryz.checked) (os := os) (X := fun w _ => laidMetH Tryz.prog Rows.fnQuoteRow.laid w) false (World.laidAll Tryz.prog os Rows.fnQuoteRow.laid) #[.slice none 0 0] 8 (World.laidAll_os _ _ _)
      (World.shaped_of_ZipB (by kernel_rfl) (by kernel_rfl)) (by kernel_rfl) (by kernel_rfl) (by kernel_rfl)
      (by rw [MakeChecks.laidMetH_plain _ _ _ (by kernel_rfl)]; exact laidMet_laidAll _ (by kernel_rfl) (by kernel_rfl))) ?_
  intro W base args ds gs before hval0 hW _ _ hL hsh _
  rw [MakeChecks.laidMetH_plain _ _ _ (by kernel_rfl)] at hL
  have hT : Tabs W := tabs_of_laid hL (.tail _ (.tail _ (.tail _ (.head _)))) (.tail _ (.tail _ (.tail _ (.tail _ (.tail _ (.tail _ (.tail _ (.head _))))))))
  have hC : CaseTab W := caseTab_of_laid hL (.tail _ (.tail _ (.tail _ (.tail _ (.tail _ (.tail _ (.head _)))))))
  have hP : Pow10 W := pow_of_laid hL (.tail _ (.tail _ (.head _)))
  have hE : Errs W := errs_of_laid hL.tail.tail.tail.tail
  have hM : MX W := Tryz.maxLen_shape W hsh
  have hval : ∀ (j : Nat) t v, Tryz.f3.params[j]? = some t → args[j]? = some v → Value.okWide Tryz.prog W .any base t v := hval0
  have hW' := hW
  obtain ⟨p, q, hA0, hV, rfl, hfz, hnd⟩ := hW
  have hA : DataW.TrodAll enc Tryz.prog W 0 (fun _ => true) true Tryz.f3.params.toList args.toList ds p := hA0
  rw [Tryz.params3] at hA hval
  obtain ⟨v0, vs0, d0, ds0, p0, q0, hargs, rfl, rfl, h0, r0⟩ := trodAll_cons hA
  obtain ⟨rfl, rfl, rfl⟩ := trodAll_nil r0
  obtain rfl : args = #[v0] := by cases args; simp_all
  obtain ⟨rfl, rfl⟩ := trodVars_none hV
  have k0 := h0
  have lt0 : ∀ x ∈ p0, x.block < W.heap.size := by obtain ⟨m, hm⟩ := k0; exact DataW.trod_lt m _ _ _ hm
  obtain ⟨t0, A0, c0, rfl, f0, g0, at0⟩ := open_kind Tryz.underlying22 Tryz.underlying5 (by kernel_rfl) (hval 0 22 v0 rfl rfl) h0
  clear hA0 hval0
  refine (walk t0 A0 c0 f0 g0 W at0 hT hC hP hE hM).mono fun e W' ⟨he, bel⟩ => ?_
  subst he
  exact ⟨_, rfl, _, _, _, [], _, [], hW', trodAll_mk1 (shut_bool Tryz.underlying4 _), (trodAll_cons_mk (Below.trod laidOut (by kernel_rfl) (of_decide_eq_true (by kernel_rfl)) k0 bel lt0) trodAll_mk0), rfl, bel.frame _, fun h => by cases h⟩

theorem over : Rows.fnQuoteRow.holds Tryz.pinned (OpenSpec.ofChange Rows.fnQuoteSpec) :=
  OpenClaim.holds_of_wide 3 Tryz.f3 rfl rfl rfl rfl rfl rfl rfl ⟨rfl, rfl, rfl, rfl, rfl⟩ rfl rfl rfl rfl rfl (by kernel_rfl) Tryz.func3 (by kernel_rfl)
    (of_decide_eq_true (by kernel_rfl)) (by unfold Func.isWrapper; first | (rw [if_pos (by decide +kernel)]; kernel_rfl) | (rw [if_neg (by decide +kernel)]; exact ⟨rfl, rfl⟩))
    (fun os started H enc _ => lifted os started H enc)

theorem proved : Rows.FnQuoteCardSaid :=
  Claim7.holds_tied_plain_at .later [] _ _ _ _ over (fun _ h => by cases h) (by kernel_rfl) (fun _ h => by cases h) fnQuote_row_tie rfl ⟨rfl, rfl⟩ (by kernel_rfl) rfl
    (fun f fn hf hfn => by
      obtain rfl : f = 3 := Option.some.inj ((show Tryz.prog.funcNamed "loop.example/g00421/laws.FnQuote" = some 3 by kernel_rfl).symm.trans hf) |>.symm
      obtain rfl : fn = Tryz.f3 := (Option.some.inj (Tryz.func3.symm.trans hfn)).symm
      exact ⟨by kernel_rfl, fun j t ht => by
        rw [Tryz.params3] at ht
        have hm : t ∈ [22] := by simpa using Array.mem_of_getElem? ht
        have hall : ([22].all fun u => !Tryz.prog.wantsStandIn u) = true := by kernel_rfl
        exact (show Tryz.prog.wantsStandIn t = false by simpa using List.all_eq_true.1 hall t hm)⟩)
    (by kernel_rfl)
end Go.Proofs.YtbfddabljkoapaaGreatDoor.fnQuote
