/-
  FnNumber returns true for every code; it reads as it did; the listed tables and errors lie as the card lists them.
-/
import Derived.Test.YtbfddabljkoapaaGreatDoorPLFnNumberg
import Derived.Deep.CutBlock
import Derived.Test.YtbfddabljkoapaaGreatDoorShelfV
import Derived.PinnedBridge
import Derived.Lib.LaidU8T
import Derived.Test.YtbfddabljkoapaaGreatDoorCards
import Derived.Test.YtbfddabljkoapaaGreatDoorTie
import Derived.Lay
import Derived.LaidOnce
import Derived.SevenTiedAt
/-
  The reference's ReadNum.
-/
namespace Go.Proofs.YtbfddabljkoapaaGreatDoor
open Go.RowKit
set_option linter.unusedVariables false
set_option linter.unusedSimpArgs false
set_option maxRecDepth 100000

theorem lead_size (R : List UInt8) (m : Nat) : (str (List.replicate m 48 ++ R)).size = m + R.length := by rw [strlen]; simp
theorem lead_first (R : List UInt8) (m : Nat) (h : 0 < (str (List.replicate (m + 1) 48 ++ R)).size) : (str (List.replicate (m + 1) 48 ++ R))[0] = 48 := by
  have h2 : 0 < (List.replicate (m + 1) 48 ++ R).length := by simp; omega
  have h3 : (List.replicate (m + 1) (48 : UInt8) ++ R)[0]'h2 = 48 := by simp [List.replicate_succ]
  exact h3
theorem lead_cut (R : List UInt8) (m : Nat) : (str (List.replicate (m + 1) 48 ++ R)).extract 1 (str (List.replicate (m + 1) 48 ++ R)).size = str (List.replicate m 48 ++ R) := by
  apply ByteArray.ext
  apply Array.ext'
  rw [List.replicate_succ, List.cons_append]
  simp [str, ByteArray.size]
  exact List.take_of_length_le (by simp)
theorem head_of {R r : List UInt8} {a : UInt8} (h : R = a :: r) (h2 : 0 < (str R).size) : (str R)[0]'h2 = a := by
  subst h; rfl
theorem tail_size2 (T : List UInt8) (m : Nat) : (str (T ++ List.replicate m 48)).size = T.length + m := by rw [strlen]; simp
theorem tail_cut2 (T : List UInt8) (m : Nat) : (str (T ++ List.replicate (m + 1) 48)).extract 0 (T.length + m) = str (T ++ List.replicate m 48) := by
  apply ByteArray.ext
  apply Array.ext'
  have e : (T ++ List.replicate (m + 1) 48) = (T ++ List.replicate m 48) ++ [48] := by rw [List.replicate_succ', List.append_assoc]
  rw [e, ByteArray.data_extract]
  simp only [str, Array.toList_extract, List.extract_eq_take_drop, List.drop_zero, Nat.sub_zero]
  exact List.take_left' (by simp)
theorem tail_last2 (T : List UInt8) (m : Nat) (h : T.length + m < (str (T ++ List.replicate (m + 1) 48)).size) : (str (T ++ List.replicate (m + 1) 48))[T.length + m] = 48 := by
  have h2 : T.length + m < (T ++ List.replicate (m + 1) 48).length := by simp
  have h3 : (T ++ List.replicate (m + 1) 48)[T.length + m] = 48 := by rw [List.getElem_append_right (by omega)]; simp
  exact h3
theorem last_of2 {l r : List UInt8} {a : UInt8} (h : l = r ++ [a]) (h2 : r.length < (str l).size) : (str l)[r.length]'h2 = a := by
  subst h
  have h4 : r.length < (r ++ [a]).length := by simp
  have h3 : (r ++ [a])[r.length]'h4 = a := by simp
  exact h3
theorem ext_str {s : ByteArray} {i j : Nat} (h : i ≤ j) : s.extract i j = str (piece s i (j - i)) := by
  apply ba_ext
  have := extract_piece s i (j - i)
  rw [show i + (j - i) = j by omega] at this
  rw [this]
  simp [str]
theorem str_join (a b : List UInt8) : str a ++ str b = str (a ++ b) := by
  apply ByteArray.ext
  apply Array.ext'
  simp [str]

theorem powE_range (s : ByteArray) (b d : Nat) : -100000 ≤ powS (piece s b (d - b)) ∧ powS (piece s b (d - b)) ≤ 100000 := by
  have h := cap_lt (piece s b (d - b)) 0 (by omega)
  unfold powS
  split <;> omega
set_option maxHeartbeats 16000000 in
theorem specReadNum_in (s : ByteArray) (i : Nat) (w : World) (hs : s.size ≤ 1048576) (hi : i < s.size) (hr : runN s (fAt s i) ≠ fAt s i) :
    Calls Tryz.prog 38 #[.string s, .int .i64 i] w (RetN (rdV (rnP s i)) (rdE (rnP s i)) w) := by
  obtain ⟨f, hf⟩ : ∃ f, fAt s i = f := ⟨_, rfl⟩
  have hfl := fAt_le hi
  have HF : Hid (f = if s[i].toNat = 45 then i + 1 else i) := Lib.hid (by rw [← hf]; unfold fAt; rw [ge_idx hi])
  rw [hf] at hr hfl
  obtain ⟨a, ha⟩ : ∃ a, wholeAt s f = a := ⟨_, rfl⟩
  have hal := wholeAt_le hfl.2.2 hr
  rw [ha] at hal
  obtain ⟨b, hb⟩ : ∃ b, fracN s a = b := ⟨_, rfl⟩
  have hbl := fracN_le hal.2.2
  rw [hb] at hbl
  obtain ⟨d, hd⟩ : ∃ d, expN s b = d := ⟨_, rfl⟩
  have hdl := expN_le hbl.2
  rw [hd] at hdl
  have HENDS := Lib.hid (fun W => specEnds s f W hs hfl.2.2 hr)
  rw [ha, hb, hd] at HENDS
  have hRN := rnP_at hi hf hr ha hb hd
  have hD := dgs_dig hfl.2.2 hr ha hb
  have hDl := dgs_len (s := s) (f := f) (a := a) (b := b) (by omega) hal.2.2 hbl.2
  have HDD : Hid (dgs s f a b = piece s f (a - f) ++ (if a < b then piece s (a + 1) (b - (a + 1)) else [])) := Lib.hid rfl
  have hfew := rnO_few (s := s) hi hf hr ha hb hd
  have hmany := rnO_many (s := s) hi hf hr ha hb hd
  obtain ⟨D, hDe⟩ : ∃ D, dgs s f a b = D := ⟨_, rfl⟩
  rw [hDe] at hD hDl HDD hfew hmany
  obtain ⟨v, hv⟩ : ∃ v, rdV (rnP s i) = v := ⟨_, rfl⟩
  obtain ⟨z, hz⟩ : ∃ z, rdE (rnP s i) = z := ⟨_, rfl⟩
  rw [hRN] at hv hz
  rw [hRN, hv, hz]
  have hu : s[i].toNat < 256 := UInt8.toNat_lt _
  have HB0 := Lib.hid (Blk.new w 43 #[.int .i64 0, .int .i64 0, .int .i64 0, .string ⟨#[]⟩, .slice none 0 0])
  have Hb0 : Hid (Below w.heap.size w (w.alloc (.cells #[.int .i64 0, .int .i64 0, .int .i64 0, .string ⟨#[]⟩, .slice none 0 0] 43))) := Lib.hid ((Below.refl _ w).alloc (Nat.le_refl _) _)
  obtain ⟨w0, hw0⟩ : ∃ w0, w.alloc (.cells #[.int .i64 0, .int .i64 0, .int .i64 0, .string ⟨#[]⟩, .slice none 0 0] 43) = w0 := ⟨_, rfl⟩
  rw [hw0] at HB0 Hb0
  have HW0 := Lib.hid hw0
  by_cases h60 : 60 < d - i
  · -- too long
    have hq60 : (60 : Int) < (d : Int) - i := by omega
    rw [rnO_far h60] at hv hz
    have HV : Hid (v = V.nought) := Lib.hid hv.symm
    have HZ : Hid (z = -1) := Lib.hid hz.symm
    obtain ⟨q0, q1, q2, q3, q4⟩ := HB0.out.five
    have f0 := HB0.out.frozen 0
    have f1 := HB0.out.frozen 1
    have f2 := HB0.out.frozen 2
    have f3 := HB0.out.frozen 3
    have f4 := HB0.out.frozen 4
    clear hw0 hv hz h60 hfew hmany hDe hRN hd hb ha hf hr hD hDl
    go_enter Tryz.func38, Tryz.ntmps38
    go_upto_if 27 with fail
    rw [HW0.out]
    go_cut [6] from 14 (fun y wx => y = .int .i64 f ∧ wx = w0)
    case first =>
      by_cases h45 : s[i].toNat = 45
      · have q : ((s[i].toNat : Int) == 45) = true := by rw [h45]; rfl
        have HA := Lib.hid (HF.out.trans (if_pos h45))
        clear h45
        go_wp2_with fail
        go_meet
        case rel => exact ⟨by rw [HA.out]; go_num, rfl⟩
      · have q : ((s[i].toNat : Int) == 45) = false := by rw [beq_eq_false_iff_ne]; omega
        have HA := Lib.hid (HF.out.trans (if_neg h45))
        clear h45
        go_wp2_with fail
        go_meet
        case rel => exact ⟨by rw [HA.out], rfl⟩
    case rest =>
      obtain ⟨rfl, rfl⟩ := hcut
      go_wp2_with fail
      refine (HENDS.out _).mono ?_
      rintro e w1 ⟨rfl, rfl⟩
      go_wp2_with fail
      refine bodyPost_ret (v := .tuple #[.agg #[.int .i64 0, .int .i64 0, .int .i64 0, .string ⟨#[]⟩, .slice none 0 0], .int .i64 (-1)]) (by simp [results, Tryz.results38, go_sem, q0, q1, q2, q3, q4]) rfl ⟨by rw [HV.out, HZ.out]; rfl, ?_⟩
      repeat (first | exact Hb0.out | (refine Below.setCell ?_ (by simp) _))
  · have hq60 : ¬ (60 : Int) < (d : Int) - i := by omega
    have hfew := hfew h60
    have hmany := hmany h60
    have hDne : D ≠ [] := by
      intro h
      rw [h] at hDl
      simp only [List.length_nil] at hDl
      omega
    have hLsp := keepL_split hDne
    have hTsp := keepT_split D
    have hLl := keepL_len hDne
    have hTl := keepT_len D
    have hTd := keepT_dig hD
    have hLs := keepL_stop D
    have hTs := keepT_stop D
    have hDv : dval (keepT D) < 10 ^ (keepT D).length := dval_lt _ hTd
    have hPw := powE_range s b d
    have hD60 : D.length ≤ 61 := by omega
    have HMANY : Hid (18 < (keepT D).length → ∀ W, Calls Tryz.prog 86 #[.string s, .int .i64 i, .int .i64 f, .int .i64 a, .int .i64 b, .int .i64 d] W (RetN v z W)) := Lib.hid (fun h18 W => by
      refine specLong s i f a b d W hs (by omega) hal.2.2 v z ?_
      rcases hmany h18 with ⟨n, h1, h2, h3⟩ | ⟨h1, h3⟩
      · rw [h3] at hv hz
        exact .inl ⟨n, h1, h2, hv.symm, hz.symm⟩
      · rw [h3] at hv hz
        exact .inr ⟨h1, hv.symm, hz.symm⟩)
    have HFEW : Hid ((keepT D).length ≤ 18 → ∀ W, Calls Tryz.prog 87 #[.int .i64 (sgnV (decide (i < f)) (dval (keepT D))), .int .i64 (-((b - (a + 1) : Nat) : Int) + (((keepL D).length - (keepT D).length : Nat) : Int) + powS (piece s b (d - b))), .int .i64 d] W (RetN v z W)) := Lib.hid (fun h18 W => by
      have h10 : 10 ^ (keepT D).length ≤ 10 ^ 18 := Nat.pow_le_pow_right (by omega) h18
      have h := specMade (sgnV (decide (i < f)) (dval (keepT D))) (-((b - (a + 1) : Nat) : Int) + (((keepL D).length - (keepT D).length : Nat) : Int) + powS (piece s b (d - b))) d W (sgnV_range (by omega)).1
      rw [hfew h18] at hv hz
      have h2 := rd_norm (n := sgnV (decide (i < f)) (dval (keepT D))) (e := -((b - (a + 1) : Nat) : Int) + (((keepL D).length - (keepT D).length : Nat) : Int) + powS (piece s b (d - b))) (d := d)
      rw [← h2.1, ← h2.2, hv, hz] at h
      exact h)
    have HPOW := Lib.hid (fun W => specPower (piece s b (d - b)) W (by rw [piece_len _ _ _ (by omega)]; omega))
    have hxd : s.extract f a = str (piece s f (a - f)) := ext_str (by omega)
    have hxp : s.extract b d = str (piece s b (d - b)) := ext_str (by omega)
    obtain ⟨pw, hpw⟩ : ∃ pw, powS (piece s b (d - b)) = pw := ⟨_, rfl⟩
    rw [hpw] at HPOW HFEW hPw
    obtain ⟨P, hP⟩ : ∃ P, str (piece s b (d - b)) = P := ⟨_, rfl⟩
    rw [hP] at HPOW hxp
    have HXP := Lib.hid hxp
    obtain ⟨R, hR⟩ : ∃ R, keepL D = R := ⟨_, rfl⟩
    obtain ⟨T, hT⟩ : ∃ T, keepT D = T := ⟨_, rfl⟩
    rw [hR] at HFEW hLsp hTsp hLl hTl hLs
    rw [hT] at HFEW HMANY hTsp hTl hTd hTs hDv
    obtain ⟨M, hM⟩ : ∃ M, D.length - R.length = M := ⟨_, rfl⟩
    obtain ⟨M', hM'⟩ : ∃ M', R.length - T.length = M' := ⟨_, rfl⟩
    rw [hM] at hLsp
    rw [hM'] at HFEW hTsp
    have HLSP := Lib.hid hLsp
    have HTSP := Lib.hid hTsp
    have HLS := Lib.hid hLs
    have HTS := Lib.hid hTs
    have hMl : M ≤ 61 := by omega
    have hMl' : M' ≤ 61 := by omega
    have hRl : R.length ≤ 61 := by omega
    have hTl2 : T.length ≤ 61 := by omega
    have HXD := Lib.hid hxd
    obtain ⟨fl, hfl'⟩ : ∃ fl, b - (a + 1) = fl := ⟨_, rfl⟩
    rw [hfl'] at HFEW
    have hfl3 : fl ≤ 61 := by omega
    have HTD := Lib.hid hDv
    have HVAL := Lib.hid (dval_take T)
    have HMONO := Lib.hid (dval_mono T)
    have HDIG : Hid (∀ k (h : k < (str T).size), 48 ≤ (str T)[k].toNat) := Lib.hid (fun k h => (hTd _ (List.getElem_mem (by rw [strlen] at h; exact h))).1)
    clear hw0 hv hz hfew hmany hDe hRN hd hb ha hf hr hD hxd hxp hpw hP hR hT hM hM' hLsp hTsp hLs hTs hDv hTd hDne hLl hTl h60
    go_enter Tryz.func38, Tryz.ntmps38
    go_upto_if 27 with fail
    rw [HW0.out]
    go_cut [6] from 14 (fun y wx => y = .int .i64 f ∧ wx = w0)
    case first =>
      by_cases h45 : s[i].toNat = 45
      · have q : ((s[i].toNat : Int) == 45) = true := by rw [h45]; rfl
        have HA := Lib.hid (HF.out.trans (if_pos h45))
        clear h45
        go_wp2_with fail
        go_meet
        case rel => exact ⟨by rw [HA.out]; go_num, rfl⟩
      · have q : ((s[i].toNat : Int) == 45) = false := by rw [beq_eq_false_iff_ne]; omega
        have HA := Lib.hid (HF.out.trans (if_neg h45))
        clear h45
        go_wp2_with fail
        go_meet
        case rel => exact ⟨by rw [HA.out], rfl⟩
    case rest =>
    obtain ⟨rfl, rfl⟩ := hcut
    go_wp2_with fail
    refine (HENDS.out _).mono ?_
    rintro e w1 ⟨rfl, rfl⟩
    go_upto_if 52 with fail
    rw [HXD.out]
    go_cut [10, 11] from 14 (fun y y2 wx => y = .string (str D) ∧ y2 = .int .i64 (-(fl : Int)) ∧ wx = w1)
    case first =>
      by_cases hab : a < b
      · have HDX := Lib.hid (HDD.out.trans (by rw [if_pos hab]))
        have hx2 : s.extract (a + 1) b = str (piece s (a + 1) (b - (a + 1))) := ext_str (by omega)
        have HX2 := Lib.hid hx2
        have hs1 : (str (piece s f (a - f))).size ≤ 100 := by rw [strlen, piece_len _ _ _ (by omega)]; omega
        have hs2 : (str (piece s (a + 1) (b - (a + 1)))).size ≤ 100 := by rw [strlen, piece_len _ _ _ (by omega)]; omega
        have hj := str_join (piece s f (a - f)) (piece s (a + 1) (b - (a + 1)))
        have HJ := Lib.hid hj
        have HS2 := Lib.hid hs2
        obtain ⟨X, hX⟩ : ∃ X, str (piece s f (a - f)) = X := ⟨_, rfl⟩
        rw [hX] at hs1 HJ ⊢
        have hs3 : (s.extract (a + 1) b).size ≤ 100 := by rw [hx2]; exact hs2
        have hab' : (a : Int) < (b : Int) := by omega
        clear hx2 hs2 hj hX hab
        go_wp2_with fail
        go_meet
        case rel => exact ⟨congrArg Value.string (by rw [HX2.out, HJ.out, ← HDX.out]), congrArg (Value.int .i64) (by omega), rfl⟩
      · have HDX := Lib.hid (HDD.out.trans (by rw [if_neg hab, List.append_nil]))
        have hab' : ¬ (a : Int) < (b : Int) := by omega
        have hfl0 : fl = 0 := by omega
        have HFL := Lib.hid hfl0
        clear hab hfl0
        go_wp2_with fail
        go_meet
        case rel => exact ⟨congrArg Value.string (by rw [HDX.out]), congrArg (Value.int .i64) (by rw [HFL.out]; rfl), rfl⟩
    case rest =>
    obtain ⟨rfl, rfl, rfl⟩ := hcut
    clear HDD HXD
    go_upto_block 0 with fail
    go_cut [10] from 14 (fun y wx => y = .string (str R) ∧ wx = wc)
    case first =>
      rw [HLSP.out]
      go_wp2_with fail
      go_loop [10] (fun y => ∃ m : Nat, m ≤ M ∧ y = .string (str (List.replicate m 48 ++ R))) (fun y => (match y with | .string x => x.size | _ => 0))
      case atStart => exact ⟨M, Nat.le_refl _, rfl⟩
      case round =>
        obtain ⟨m, hm, rfl⟩ := hrel
        by_cases hm0 : 0 < m
        · obtain ⟨m, rfl⟩ : ∃ k, m = k + 1 := ⟨m - 1, by omega⟩
          have hz1 := lead_size R (m + 1)
          obtain ⟨c, r, hcr, _⟩ := HLS.out
          have hRp : 1 ≤ R.length := by rw [hcr]; simp
          have HC := Lib.hid (lead_cut R m)
          have HZ2 := Lib.hid (lead_size R m)
          have hl := lead_first R m
          generalize str (List.replicate (m + 1) 48 ++ R) = x at hz1 HC hl ⊢
          have hx0 : ∀ h, (x[0]'h).toNat = 48 := fun h => by rw [hl h]; rfl
          have hsz : 2 ≤ x.size := by omega
          have hsz2 : x.size ≤ 200 := by omega
          have HZ1 := Lib.hid hz1
          clear hl hz1 hcr
          go_wp2_with fail
          go_round
          case rel => exact ⟨m, by omega, congrArg Value.string HC.out⟩
          case measure => show ByteArray.size _ < x.size; rw [HC.out, HZ2.out, HZ1.out]; omega
        · obtain rfl : m = 0 := by omega
          rw [show List.replicate 0 (48 : UInt8) ++ R = R from rfl]
          obtain ⟨c, r, hcr, hst⟩ := HLS.out
          have hz1 : (str R).size = r.length + 1 := by rw [strlen, hcr]; rfl
          have hc := fun h => head_of hcr h
          generalize hx : str R = x at hz1 hc ⊢
          have HX := Lib.hid hx
          clear hx
          by_cases hone : r = []
          · have hsz : x.size ≤ 1 := by rw [hz1, hone]; simp
            clear hz1 hc hcr hst hone
            go_wp2_with fail
            go_meet
            case rel => exact ⟨congrArg Value.string HX.out.symm, rfl⟩
          · have hcn : c.toNat ≠ 48 := fun e => (hst.resolve_left hone) (UInt8.toNat_inj.1 e)
            have hcl : c.toNat < 256 := UInt8.toNat_lt _
            have hrp : 1 ≤ r.length := List.length_pos_iff.2 hone
            have hsz : 2 ≤ x.size := by omega
            have hsz2 : x.size ≤ 200 := by have : R.length = r.length + 1 := by rw [hcr]; rfl
                                           omega
            have q : ((c.toNat : Int) == 48) = false := by rw [beq_eq_false_iff_ne]; omega
            have hx0 : ∀ h, (x[0]'h).toNat = c.toNat := fun h => by rw [hc h]
            clear hz1 hc hcr hst hone
            go_wp2_with fail
            go_meet
            case rel => exact ⟨congrArg Value.string HX.out.symm, rfl⟩
    case rest =>
    obtain ⟨rfl, rfl⟩ := hcut
    clear HLSP HLS
    go_upto_block 2 with fail
    go_cut [10, 11] from 14 (fun y y2 wx => y = .string (str T) ∧ y2 = .int .i64 (-(fl : Int) + (M' : Int)) ∧ wx = wc)
    case first =>
      rw [HTSP.out]
      go_wp2_with fail
      go_loop [10, 11] (fun y y2 => ∃ m : Nat, m ≤ M' ∧ y = .string (str (T ++ List.replicate m 48)) ∧ y2 = .int .i64 (-(fl : Int) + ((M' - m : Nat) : Int))) (fun y _ => (match y with | .string x => x.size | _ => 0))
      case atStart => exact ⟨M', Nat.le_refl _, rfl, by simp⟩
      case round =>
        obtain ⟨m, hm, rfl, rfl⟩ := hrel
        obtain ⟨c, r, hcr, hst⟩ := HTS.out
        have hTp : 1 ≤ T.length := by rw [hcr]; simp
        by_cases hm0 : 0 < m
        · obtain ⟨m, rfl⟩ : ∃ k, m = k + 1 := ⟨m - 1, by omega⟩
          have hz1 := tail_size2 T (m + 1)
          have HC := Lib.hid (tail_cut2 T m)
          have HZ2 := Lib.hid (tail_size2 T m)
          have hl := tail_last2 T m
          generalize str (T ++ List.replicate (m + 1) 48) = x at hz1 HC hl ⊢
          have hx0 : ∀ h, (x[x.size - 1]'h).toNat = 48 := by
            intro h
            have e1 : x.size - 1 = T.length + m := by omega
            simp only [e1]
            rw [hl (by omega)]
            rfl
          have hx2 : x.extract 0 (x.size - 1) = str (T ++ List.replicate m 48) := by
            rw [show x.size - 1 = T.length + m by omega]
            exact HC.out
          have HX2 := Lib.hid hx2
          have hsz : 2 ≤ x.size := by omega
          have hsz2 : x.size ≤ 200 := by omega
          have HZ1 := Lib.hid hz1
          clear hl hz1 hcr hst hx2 HC
          go_wp2_with fail
          go_round
          case rel => exact ⟨m, by omega, congrArg Value.string HX2.out, by go_num⟩
          case measure => show ByteArray.size _ < x.size; rw [HX2.out, HZ2.out, HZ1.out]; omega
        · obtain rfl : m = 0 := by omega
          rw [show T ++ List.replicate 0 (48 : UInt8) = T by simp]
          have hz1 : (str T).size = r.length + 1 := by rw [strlen, hcr]; simp
          have hTr : T.length = r.length + 1 := by rw [hcr]; simp
          have hc := fun h => last_of2 hcr h
          generalize hx : str T = x at hz1 hc ⊢
          have HX := Lib.hid hx
          clear hx
          have HE : Hid (-(fl : Int) + ((M' - 0 : Nat) : Int) = -(fl : Int) + (M' : Int)) := Lib.hid (by simp)
          by_cases hone : r = []
          · have hsz : x.size ≤ 1 := by rw [hz1, hone]; simp
            clear hz1 hc hcr hst hone hTr
            go_wp2_with fail
            go_meet
            case rel => exact ⟨congrArg Value.string HX.out.symm, congrArg (Value.int .i64) HE.out, rfl⟩
          · have hcn : c.toNat ≠ 48 := fun e => (hst.resolve_left hone) (UInt8.toNat_inj.1 e)
            have hrp : 1 ≤ r.length := List.length_pos_iff.2 hone
            have hsz : 2 ≤ x.size := by omega
            have hsz2 : x.size ≤ 200 := by omega
            have q : ((c.toNat : Int) == 48) = false := by rw [beq_eq_false_iff_ne]; omega
            have hx0 : ∀ h, (x[x.size - 1]'h).toNat = c.toNat := by
              intro h
              have e1 : x.size - 1 = r.length := by omega
              simp only [e1]
              rw [hc (by omega)]
            clear hz1 hc hcr hst hone hTr
            go_wp2_with fail
            go_meet
            case rel => exact ⟨congrArg Value.string HX.out.symm, congrArg (Value.int .i64) HE.out, rfl⟩
    case rest =>
    obtain ⟨rfl, rfl, rfl⟩ := hcut
    clear HTSP HTS
    have HSZT : Hid ((str T).size = T.length) := Lib.hid (strlen T)
    have hsT : (str T).size ≤ 61 := by rw [strlen]; exact hTl2
    have hBc := HB0
    by_cases h18 : 18 < T.length
    · have HM2 := Lib.hid (HMANY.out h18)
      have hq18 : (18 : Int) < ((str T).size : Int) := by rw [strlen]; omega
      unfold RetN V.agg at HM2
      generalize str T = x at hsT hq18 HSZT HVAL HMONO HDIG ⊢
      clear HMANY HFEW h18 HVAL HMONO HTD HDIG
      go_wp2_with fail
      refine (HM2.out _).mono ?_
      rintro r w2 ⟨rfl, hb2⟩
      have B2 := hBc.out.below hb2 hBc.out.lt
      have b2 := Hb0.out.trans (hb2.mono Hb0.out.size)
      obtain ⟨q0, q1, q2, q3, q4⟩ := B2.five
      have f0 := B2.frozen 0
      have f1 := B2.frozen 1
      have f2 := B2.frozen 2
      have f3 := B2.frozen 3
      have f4 := B2.frozen 4
      have HB2 := Lib.hid b2
      clear hb2 B2 b2
      go_wp2_with fail
      refine bodyPost_ret (v := .tuple #[.agg #[.int .i64 v.k, .int .i64 v.n, .int .i64 v.e, .string v.s, .slice none v.kids.length 0], .int .i64 z]) (by simp [results, Tryz.results38, go_sem, q0, q1, q2, q3, q4]) rfl ⟨rfl, ?_⟩
      repeat (first | exact HB2.out | (refine Below.setCell ?_ (by simp) _))
    · have HF2 := Lib.hid (HFEW.out (by omega))
      have hq18 : ¬ (18 : Int) < ((str T).size : Int) := by rw [strlen]; omega
      have hTl18 : T.length ≤ 18 := by omega
      unfold RetN V.agg at HF2
      have hdT : dval T < 1000000000000000000 := by
        have h10 : 10 ^ T.length ≤ 10 ^ 18 := Nat.pow_le_pow_right (by omega) hTl18
        have := HTD.out
        omega
      have HTK : Hid (T.take T.length = T) := Lib.hid List.take_length
      generalize str T = x at hsT hq18 HSZT HVAL HMONO HDIG ⊢
      clear HMANY HFEW h18 HTD
      go_upto_block 4 with fail
      go_cut [12, 13] from 14 (fun y y2 wx => y = .int .i64 (dval T : Nat) ∧ wx = wc)
      case first =>
        go_wp2_with fail
        go_loop [12, 13] (fun y y2 => ∃ k : Nat, k ≤ x.size ∧ y2 = .int .i64 k ∧ y = .int .i64 (dval (T.take k) : Nat)) (fun _ y2 => x.size - (intOf y2).toNat)
        case atStart => exact ⟨0, Nat.zero_le _, rfl, rfl⟩
        case round =>
          obtain ⟨k, hk, rfl, rfl⟩ := hrel
          by_cases hlt : k < x.size
          · have hu2 : x[k].toNat < 256 := UInt8.toNat_lt _
            have HV1 := Lib.hid (HVAL.out k hlt)
            have hmo := HMONO.out k hlt
            have hdk : 48 ≤ x[k].toNat := HDIG.out k hlt
            obtain ⟨n, hn⟩ : ∃ n, dval (T.take k) = n := ⟨_, rfl⟩
            rw [hn] at HV1 hmo ⊢
            clear hn
            have hn1 : n < 1000000000000000000 := by omega
            go_wp2_with fail
            go_round
            case rel => exact ⟨k + 1, by omega, by go_num, by rw [HV1.out]; go_num⟩
            case measure => simp [intOf]; omega
          · obtain rfl : k = x.size := by omega
            have e : T.take x.size = T := by rw [HSZT.out]; exact HTK.out
            rw [e]
            go_wp2_with fail
            go_meet
            case rel => exact ⟨rfl, rfl⟩
      case rest =>
      obtain ⟨rfl, rfl⟩ := hcut
      clear HVAL HMONO HDIG
      obtain ⟨dv, hdv⟩ : ∃ dv, dval T = dv := ⟨_, rfl⟩
      rw [hdv] at HF2 hdT ⊢
      clear hdv
      go_upto_if 120 with fail
      go_cut [12] from 14 (fun y wx => y = .int .i64 (sgnV (decide (i < f)) dv) ∧ wx = wc)
      case first =>
        by_cases hif : i < f
        · have hif' : (i : Int) < (f : Int) := by omega
          have HIF := Lib.hid (decide_eq_true hif)
          clear hif
          go_wp2_with fail
          go_meet
          case rel => exact ⟨by unfold sgnV; rw [HIF.out, if_pos rfl], rfl⟩
        · have hif' : ¬ (i : Int) < (f : Int) := by omega
          have HIF := Lib.hid (decide_eq_false hif)
          clear hif
          go_wp2_with fail
          go_meet
          case rel => exact ⟨by unfold sgnV; rw [HIF.out, if_neg (by simp)], rfl⟩
      case rest =>
      obtain ⟨rfl, rfl⟩ := hcut
      have hsr := (sgnV_range (neg := decide (i < f)) (m := dv) (by omega)).2
      obtain ⟨sv, hsv⟩ : ∃ sv, sgnV (decide (i < f)) dv = sv := ⟨_, rfl⟩
      rw [hsv] at HF2 hsr ⊢
      clear hsv
      have hxp2 := HXP.out
      go_wp2_with fail
      try rw [hxp2]
      refine (HPOW.out _).mono ?_
      rintro r w2 ⟨rfl, rfl⟩
      go_wp2_with fail
      refine (HF2.out _).mono ?_
      rintro r w3 ⟨rfl, hb2⟩
      have B2 := hBc.out.below hb2 hBc.out.lt
      have b2 := Hb0.out.trans (hb2.mono Hb0.out.size)
      obtain ⟨q0, q1, q2, q3, q4⟩ := B2.five
      have f0 := B2.frozen 0
      have f1 := B2.frozen 1
      have f2 := B2.frozen 2
      have f3 := B2.frozen 3
      have f4 := B2.frozen 4
      have HB2 := Lib.hid b2
      clear hb2 B2 b2
      go_wp2_with fail
      refine bodyPost_ret (v := .tuple #[.agg #[.int .i64 v.k, .int .i64 v.n, .int .i64 v.e, .string v.s, .slice none v.kids.length 0], .int .i64 z]) (by simp [results, Tryz.results38, go_sem, q0, q1, q2, q3, q4]) rfl ⟨rfl, ?_⟩
      repeat (first | exact HB2.out | (refine Below.setCell ?_ (by simp) _))
end Go.Proofs.YtbfddabljkoapaaGreatDoor

/-
  The reference's ReadNum, everywhere.
-/
namespace Go.Proofs.YtbfddabljkoapaaGreatDoor
open Go.RowKit
set_option linter.unusedVariables false
set_option linter.unusedSimpArgs false
set_option maxRecDepth 100000

set_option maxHeartbeats 16000000 in
theorem specReadNum (s : ByteArray) (i : Int) (w : World) (hs : s.size ≤ 1048576) :
    Calls Tryz.prog 38 #[.string s, .int .i64 i] w (RetN (rdV (rnP s i)) (rdE (rnP s i)) w) := by
  have HB0 := Lib.hid (Blk.new w 43 #[.int .i64 0, .int .i64 0, .int .i64 0, .string ⟨#[]⟩, .slice none 0 0])
  have Hb0 : Hid (Below w.heap.size w (w.alloc (.cells #[.int .i64 0, .int .i64 0, .int .i64 0, .string ⟨#[]⟩, .slice none 0 0] 43))) := Lib.hid ((Below.refl _ w).alloc (Nat.le_refl _) _)
  obtain ⟨w0, hw0⟩ : ∃ w0, w.alloc (.cells #[.int .i64 0, .int .i64 0, .int .i64 0, .string ⟨#[]⟩, .slice none 0 0] 43) = w0 := ⟨_, rfl⟩
  rw [hw0] at HB0 Hb0
  have HW0 := Lib.hid hw0
  obtain ⟨q0, q1, q2, q3, q4⟩ := HB0.out.five
  have f0 := HB0.out.frozen 0
  have f1 := HB0.out.frozen 1
  have f2 := HB0.out.frozen 2
  have f3 := HB0.out.frozen 3
  have f4 := HB0.out.frozen 4
  clear hw0
  by_cases hin : 0 ≤ i ∧ i < s.size
  · obtain ⟨i, rfl⟩ := Int.eq_ofNat_of_zero_le hin.1
    have hi : i < s.size := by omega
    by_cases hr : runN s (fAt s i) = fAt s i
    · rw [rnP_no hr]
      have hfl := fAt_le hi
      obtain ⟨f, hf⟩ : ∃ f, fAt s i = f := ⟨_, rfl⟩
      have HF : Hid (f = if s[i].toNat = 45 then i + 1 else i) := Lib.hid (by rw [← hf]; unfold fAt; rw [ge_idx hi])
      rw [hf] at hr hfl
      have HENDS := Lib.hid (fun W => specEnds_no s f W hs hfl.2.2 hr)
      have hu : s[i].toNat < 256 := UInt8.toNat_lt _
      clear hf hr hin
      go_enter Tryz.func38, Tryz.ntmps38
      go_upto_if 27 with fail
      rw [HW0.out]
      go_cut [6] from 14 (fun y wx => y = .int .i64 f ∧ wx = w0)
      case first =>
        by_cases h45 : s[i].toNat = 45
        · have q : ((s[i].toNat : Int) == 45) = true := by rw [h45]; rfl
          have HA := Lib.hid (HF.out.trans (if_pos h45))
          clear h45
          go_wp2_with fail
          go_meet
          case rel => exact ⟨by rw [HA.out]; go_num, rfl⟩
        · have q : ((s[i].toNat : Int) == 45) = false := by rw [beq_eq_false_iff_ne]; omega
          have HA := Lib.hid (HF.out.trans (if_neg h45))
          clear h45
          go_wp2_with fail
          go_meet
          case rel => exact ⟨by rw [HA.out], rfl⟩
      case rest =>
        obtain ⟨rfl, rfl⟩ := hcut
        go_wp2_with fail
        refine (HENDS.out _).mono ?_
        rintro e w1 ⟨rfl, rfl⟩
        go_wp2_with fail
        refine bodyPost_ret (v := .tuple #[.agg #[.int .i64 0, .int .i64 0, .int .i64 0, .string ⟨#[]⟩, .slice none 0 0], .int .i64 (-1)]) (by simp [results, Tryz.results38, go_sem, q0, q1, q2, q3, q4]) rfl ⟨rfl, ?_⟩
        repeat (first | exact Hb0.out | (refine Below.setCell ?_ (by simp) _))
    · exact specReadNum_in s i w hs hi hr
  · rw [rnP_out hin]
    rcases (show i < 0 ∨ (¬ i < 0 ∧ (s.size : Int) ≤ i) by omega) with h | ⟨h, h2⟩
    · clear hin
      go_enter Tryz.func38, Tryz.ntmps38
      go_upto_region 2 with fail
      rw [HW0.out]
      go_wp2_with fail
      refine bodyPost_ret (v := .tuple #[.agg #[.int .i64 0, .int .i64 0, .int .i64 0, .string ⟨#[]⟩, .slice none 0 0], .int .i64 (-1)]) (by simp [results, Tryz.results38, go_sem, q0, q1, q2, q3, q4]) rfl ⟨rfl, ?_⟩
      repeat (first | exact Hb0.out | (refine Below.setCell ?_ (by simp) _))
    · clear hin
      go_enter Tryz.func38, Tryz.ntmps38
      go_upto_region 2 with fail
      rw [HW0.out]
      go_wp2_with fail
      refine bodyPost_ret (v := .tuple #[.agg #[.int .i64 0, .int .i64 0, .int .i64 0, .string ⟨#[]⟩, .slice none 0 0], .int .i64 (-1)]) (by simp [results, Tryz.results38, go_sem, q0, q1, q2, q3, q4]) rfl ⟨rfl, ?_⟩
      repeat (first | exact Hb0.out | (refine Below.setCell ?_ (by simp) _))
end Go.Proofs.YtbfddabljkoapaaGreatDoor

/-
  What the drawn laws call: bytes that came in; whether they are many.
-/
namespace Go.Proofs.YtbfddabljkoapaaGreatDoor
open Go.RowKit
set_option linter.unusedVariables false
set_option linter.unusedSimpArgs false
set_option maxRecDepth 100000

theorem bytes_of : ∀ (l : List Int), (∀ z ∈ l, (Lit.int .u8 z).wf = true) → ∃ code : List UInt8, code.length = l.length ∧ l.map (Value.int .u8) = code.map bv
  | [], _ => ⟨[], rfl, rfl⟩
  | z :: l, h => by
    obtain ⟨code, h1, h2⟩ := bytes_of l (fun x hx => h x (List.mem_cons_of_mem _ hx))
    have hz := h z List.mem_cons_self
    have hr : 0 ≤ z ∧ z ≤ 255 := by simpa [Lit.wf, IntKind.min, IntKind.max, IntKind.signed, IntKind.bits] using hz
    refine ⟨UInt8.ofNat z.toNat :: code, by simp [h1], ?_⟩
    rw [List.map_cons, List.map_cons, h2]
    congr 1
    unfold bv
    congr 1
    rw [UInt8.toNat_ofNat']
    omega
theorem lawBig (A : Option Addr) (n c : Nat) (w : World) (h : n ≤ 1048576) : Calls Tryz.prog 6 #[.slice A n c] w fun e w' => e = .returned (.bool false) ∧ w' = w := by
  have h2 : ¬ (1048576 : Int) < (n : Int) := by omega
  go_enter Tryz.func6, Tryz.ntmps6
  go_wp2_with fail
  go_ret
  exact ⟨rfl, rfl⟩
theorem lawBigY (A : Option Addr) (n c : Nat) (w : World) (h : 1048576 < n) : Calls Tryz.prog 6 #[.slice A n c] w fun e w' => e = .returned (.bool true) ∧ w' = w := by
  have h2 : (1048576 : Int) < (n : Int) := by omega
  go_enter Tryz.func6, Tryz.ntmps6
  go_wp2_with fail
  go_ret
  exact ⟨rfl, rfl⟩
theorem row_of {w : World} {base : Nat} {e : TypeId} {o : Value} {n : Nat} {xs : List Value} (h : w.ownsRow base e 1 o n xs) : ∃ A c, o = .slice A n c := by
  rcases h.2 with ⟨rfl, rfl⟩ | ⟨g, c, cur, rfl, _⟩
  · exact ⟨none, 0, rfl⟩
  · exact ⟨_, _, rfl⟩
end Go.Proofs.YtbfddabljkoapaaGreatDoor

/-
  The library's listed tables, as a row lists them, lie as the contracts ask (by the names that utf8.ValidString reads).
-/
namespace Go.Proofs.YtbfddabljkoapaaGreatDoor
open Go.RowKit Go.Shelf Go.Lib

theorem accD : (Rows.laid_unicode_utf8_acceptRanges : DataW Unit) = Lib.acceptData := by kernel_rfl
theorem fstD : Rows.laid_unicode_utf8_first = Lib.firstData := Pinned.utf8First_eq
theorem extraU8 : U8Extra Tryz.prog Tryz.laysV196_ren := ⟨by kernel_rfl, by kernel_rfl, by kernel_rfl, by kernel_rfl, by kernel_rfl, by kernel_rfl, by kernel_rfl⟩
theorem tabs_of_laid {l : List (String × DataW Unit)} {W : World} (h : laidMet Tryz.prog l W) (ha : ("unicode/utf8.acceptRanges", Rows.laid_unicode_utf8_acceptRanges) ∈ l) (hf : ("unicode/utf8.first", Rows.laid_unicode_utf8_first) ∈ l) : Tabs W :=
  utf8Tabs_of_readsT (.of196 Tryz.laysV196) extraU8 (fstD ▸ Lib.laidMet.reads h hf) (accD ▸ Lib.laidMet.reads h ha)
end Go.Proofs.YtbfddabljkoapaaGreatDoor

/-
  FnNumber returns true for every code; it reads as it did; the listed tables and errors lie as the card lists them.
-/
namespace Go.Proofs.YtbfddabljkoapaaGreatDoor.fnNumber
open Go.ChangeShapes Go.WideShapes Go.ChangeAt Go.RowKit
open Go.ChangeMaps (open_string shut_string)
set_option linter.unusedVariables false
set_option linter.unusedSimpArgs false
set_option maxRecDepth 100000

theorem normR_shape {n e : Int} : ∃ k n' x, normD n e = .mk k n' x ⟨#[]⟩ [] := by
  unfold normD normR
  split
  · split
    · exact ⟨3, 0, 0, rfl⟩
    · unfold normV
      split
      · exact ⟨3, _, 0, rfl⟩
      · split
        · exact ⟨4, _, _, rfl⟩
        · exact ⟨0, 0, 0, rfl⟩
  · exact ⟨0, 0, 0, rfl⟩
theorem rn_shape (s : ByteArray) (i : Int) : ∃ k n x, rdV (rnP s i) = .mk k n x ⟨#[]⟩ [] := by
  unfold rnP
  split
  · unfold rnO
    split
    · exact ⟨0, 0, 0, rfl⟩
    · split
      · exact ⟨3, _, 0, rfl⟩
      · unfold numG
        split
        · exact ⟨0, 0, 0, rfl⟩
        · have h := normR_shape (n := sgnV (decide (i.toNat < fAt s i.toNat)) (dval (numT (dgs s (fAt s i.toNat) (wholeAt s (fAt s i.toNat)) (fracN s (wholeAt s (fAt s i.toNat))))))) (e := powE s (wholeAt s (fAt s i.toNat)) (fracN s (wholeAt s (fAt s i.toNat))) (expN s (fracN s (wholeAt s (fAt s i.toNat)))) + (((dropZ (dgs s (fAt s i.toNat) (wholeAt s (fAt s i.toNat)) (fracN s (wholeAt s (fAt s i.toNat))))).length - (numT (dgs s (fAt s i.toNat) (wholeAt s (fAt s i.toNat)) (fracN s (wholeAt s (fAt s i.toNat))))).length : Nat) : Int))
          obtain ⟨k, n, x, h⟩ := h
          refine ⟨k, n, x, ?_⟩
          rw [(rd_norm).1]
          exact h
  · exact ⟨0, 0, 0, rfl⟩
theorem leaf_nodes (k n x : Int) : (V.mk k n x ⟨#[]⟩ []).nodes = 1 := by rw [V.nodes_eq]; show Vs.nodes [] + 1 = 1; simp [Vs.nodes]
theorem leaf_weight (k n x : Int) : (V.mk k n x ⟨#[]⟩ []).weight = 0 := by rw [V.weight_eq]; show 0 + Vs.weight [] = 0; simp [Vs.weight]
theorem leaf_at (k n x : Int) (W : World) : Vs.at_ W 0 W.heap.size (V.mk k n x ⟨#[]⟩ []).kids none := by show Vs.at_ W 0 W.heap.size [] none; simp only [Vs.at_]
theorem sameLeaf (k n x : Int) (W : World) : Calls Tryz.prog 39 #[.agg #[.int .i64 k, .int .i64 n, .int .i64 x, .string ⟨#[]⟩, .slice none 0 0], .agg #[.int .i64 k, .int .i64 n, .int .i64 x, .string ⟨#[]⟩, .slice none 0 0]] W fun e w' => e = .returned (.bool true) ∧ Below W.heap.size W w' := by
  have h := lawSame (V.mk k n x ⟨#[]⟩ []) (V.mk k n x ⟨#[]⟩ []) none none 0 0 W (by rw [leaf_nodes]; omega) (by rw [leaf_nodes]; omega) (leaf_at k n x W) (leaf_at k n x W)
  rw [V.same_self] at h
  exact h
theorem okLeaf {k n x : Int} (hok : okV (V.mk k n x ⟨#[]⟩ [])) (W : World) (hT : Tabs W) : Calls Tryz.prog 41 #[.agg #[.int .i64 k, .int .i64 n, .int .i64 x, .string ⟨#[]⟩, .slice none 0 0]] W fun e w' => e = .returned (.bool true) ∧ Below W.heap.size W w' := by
  have h := implValueOk (V.mk k n x ⟨#[]⟩ []) none 0 W (by rw [leaf_weight]; omega) hT (leaf_at k n x W)
  rw [show decide (okV (V.mk k n x ⟨#[]⟩ [])) = true from decide_eq_true hok] at h
  exact h
/-- A number comes back from its text. -/
theorem read_back {t : V} (hr : inR t.n) (h : numOk t) : rnP (numTextB t) 0 = some (t, (numTextB t).size) ∧ (numTextB t).size ≠ 0 := by
  have h2 : okV t := h.2
  obtain ⟨k1, k2, k3, k4⟩ := okV_leaf h
  have hk : t.kids = [] := List.length_eq_zero_iff.1 k1
  have hs : t.s = ⟨#[]⟩ := by
    apply ByteArray.ext
    exact Array.eq_empty_of_size_eq_zero k2
  have et := V.eta t
  rw [hk, hs] at et
  rcases h.1 with e | e
  · have ex := k3 e
    have en : numTextB t = str (Lib.itoa t.n) := by unfold numTextB; rw [if_pos h2, if_pos e]
    rw [en]
    have hz := itoa_size hr
    refine ⟨?_, by omega⟩
    rw [read_int hr]
    rw [e, ex] at et
    congr 2
    exact et.symm
  · have hd := k4 e
    have e3 : ¬ t.k = 3 := by omega
    rw [e] at et
    have ev : V.dec t.n t.e = t := et.symm
    by_cases hp : 0 < t.e
    · have he0 : Lib.itoa t.e = Lib.decDigits t.e.natAbs := by
        obtain ⟨u, hu⟩ := Int.eq_ofNat_of_zero_le (show 0 ≤ t.e by omega)
        rw [hu, itoa_pos, Int.natAbs_natCast]
      have en : numTextB t = str (signL t.n ++ (Lib.decDigits t.n.natAbs ++ (101 :: Lib.decDigits t.e.natAbs))) := by
        unfold numTextB
        rw [if_pos h2, if_neg e3, if_pos e, if_pos hp, he0, itoa_sign]
        apply ByteArray.ext
        simp [str]
      rw [en, read_big hd hp, ev]
      refine ⟨rfl, ?_⟩
      rw [strz]
      simp
    · have hn0 : t.e < 0 := by unfold decOk at hd; omega
      obtain ⟨K, hK⟩ : ∃ K, (-t.e).toNat = K := ⟨_, rfl⟩
      have hP := padL_len (Lib.decDigits t.n.natAbs) K
      obtain ⟨P, hPe⟩ : ∃ P, padL (Lib.decDigits t.n.natAbs) K = P := ⟨_, rfl⟩
      have hPd : P = List.replicate (K + 1 - (Lib.decDigits t.n.natAbs).length) 48 ++ Lib.decDigits t.n.natAbs := by rw [← hPe]; rfl
      rw [hPe] at hP
      have hcut : cutT (str P) t.e = str (P.take (P.length - K) ++ (46 :: P.drop (P.length - K))) := by
        unfold cutT
        rw [strz, show ((P.length : Int) + t.e).toNat = P.length - K by omega]
        apply ByteArray.ext
        apply Array.ext'
        simp [str, ByteArray.data_extract]
        exact List.take_of_length_le (by rw [List.length_drop]; omega)
      have en : numTextB t = str (signL t.n ++ (P.take (P.length - K) ++ (46 :: P.drop (P.length - K)))) := by
        unfold numTextB signL
        rw [if_pos h2, if_neg e3, if_pos e, if_neg hp, hK, hPe, hcut]
        by_cases hneg : t.n < 0
        · rw [if_pos hneg, if_pos hneg]
          apply ByteArray.ext
          simp [str]
        · rw [if_neg hneg, if_neg hneg]
          rfl
      have hread := read_low (n := t.n) (e := t.e) (W := P.take (P.length - K)) (F := P.drop (P.length - K)) hd hn0 (by rw [List.take_append_drop, hK]; exact hPd) (by rw [List.length_drop, hK]; omega) (by rw [List.length_take]; omega)
      rw [en, hread, ev]
      refine ⟨rfl, ?_⟩
      rw [strz]
      simp
theorem text_none {t : V} (h : ¬ numOk t) : (numTextB t).size = 0 ∧ (okV t → ¬ t.k = 3 ∧ ¬ t.k = 4) := by
  unfold numOk at h
  unfold numTextB
  constructor
  · split
    · rename_i hok
      split
      · exact absurd ⟨.inl (by assumption), hok⟩ h
      · split
        · exact absurd ⟨.inr (by assumption), hok⟩ h
        · rfl
    · rfl
  · intro hok
    exact ⟨fun e => h ⟨.inl e, hok⟩, fun e => h ⟨.inr e, hok⟩⟩

set_option maxHeartbeats 3000000 in
theorem walk1 (code : List UInt8) (A : Option Addr) (cap : Nat) (hn : code.length ≤ 1048576) (w : World) (hat : At1 w w.heap.size A (code.map bv)) (hT : Tabs w) (hP : Pow10 w) (hE : Errs w) :
    Calls Tryz.prog 4 #[.slice A code.length cap] w fun e w' => e = .returned (.bool true) ∧ Below w.heap.size w w' := by
  have HA := Lib.hid hat
  have HT := Lib.hid hT
  have HP := Lib.hid hP
  have HE := Lib.hid hE
  have at_ : Hid (∀ W, Below w.heap.size w W → At1 W W.heap.size A (code.map bv)) := Lib.hid (fun W hb => (HA.out.below hb (Nat.le_refl _)).more hb.size)
  clear hat hT hP hE
  go_enter Tryz.func4, Tryz.ntmps4
  go_wp2_with fail
  refine (lawBig A code.length cap w hn).mono ?_
  rintro e w0 ⟨rfl, hw0⟩
  subst hw0
  have C0 := Lib.hid (Ctx.start w0)
  go_wp2_with fail
  refine (drawNorm A cap code w0 (at_.out _ C0.out.1) (by omega)).mono ?_
  rintro e w1 ⟨⟨nn, ee, hnn, hee, rfl⟩, hb1⟩
  have C1 := Lib.hid (C0.out.below hb1)
  clear hb1 C0
  have HOK := Lib.hid (norm_ok (n := nn) (e := ee))
  have HTN := Lib.hid (fun (h : normB nn ee = true) (h2 : inR (nn * 10)) (h3 : -1000 < ee) => norm_ten hnn h2 (norm_in h) h3)
  have HNI := Lib.hid (fun W => implNorm nn ee W hnn)
  have HNS := Lib.hid (fun W => specNorm nn ee W hnn)
  obtain ⟨k1, n1, x1, hv⟩ := normR_shape (n := nn) (e := ee)
  unfold NormRet at HNI HNS
  have HV := Lib.hid hv
  rw [hv] at HOK HNI HNS
  rw [agg_leaf] at HNI HNS
  obtain ⟨ok, hok⟩ : ∃ ok, normB nn ee = ok := ⟨_, rfl⟩
  have HB := Lib.hid hok
  rw [hok] at HOK HNI HNS HTN
  clear hv hok
  have hqok : (ok != ok) = false := by simp
  go_wp2_with fail
  refine (HNI.out _).mono ?_
  rintro e w2 ⟨rfl, hb2⟩
  have C2 := Lib.hid (C1.out.below hb2)
  clear hb2 C1
  go_wp2_with fail
  refine Calls.atW (fun W => Hid (Ctx w0 [(w2.heap.size, #[.int .i64 k1, .int .i64 n1, .int .i64 x1, .string ⟨#[]⟩, .slice none 0 0])] [] W)) (Lib.hid (C2.out.new _)) ?_
  clear C2
  intro w3 C3
  refine (HNS.out _).mono ?_
  rintro e w4 ⟨rfl, hb4⟩
  have C4 := Lib.hid (C3.out.below hb4)
  clear hb4 C3
  go_wp2_with fail
  refine Calls.atW (fun W => Hid (Ctx w0 [(w4.heap.size, #[.int .i64 k1, .int .i64 n1, .int .i64 x1, .string ⟨#[]⟩, .slice none 0 0]), (w2.heap.size, #[.int .i64 k1, .int .i64 n1, .int .i64 x1, .string ⟨#[]⟩, .slice none 0 0])] [] W)) (Lib.hid (C4.out.new _)) ?_
  clear C4
  intro w5 C5
  refine (drawNumText A cap code w5 (at_.out _ C5.out.1) (by omega)).mono ?_
  rintro e w6 ⟨t, B, c, rfl, hf, hwt, hct, hat, hb6⟩
  have C6 := Lib.hid ((C5.out.below hb6).kid hat)
  clear hb6 hat C5
  have hsz := numTextB_size hf
  have hin := ((V.fits_eq t).1 hf).2.2.2.2.1
  have HRB := Lib.hid (fun (h : numOk t) => read_back (by unfold inI at hin; unfold inR; exact hin) h)
  have HTZ := Lib.hid (fun (h : ¬ numOk t) => text_none h)
  have HTI := Lib.hid (fun W hP hT hat => implNumText t B c W hf (by omega) hP hT hat)
  have HTS := Lib.hid (fun W hat => specNumText t B c W hf (by omega) hat)
  have HVS := Lib.hid (fun W hat => specValueOk t B c W (by omega) hat)
  have hsmall : t.kids.length ≤ 1400 := by
    have := Vs.len_le t.kids
    rw [V.weight_eq] at hwt
    omega
  clear hf hin
  obtain ⟨S, hS⟩ : ∃ S, numTextB t = S := ⟨_, rfl⟩
  rw [hS] at hsz HRB HTZ HTI HTS
  clear hS
  unfold V.agg at HTI HTS HVS ⊢
  go_wp2_with fail
  refine Calls.atW (fun W => Hid (Ctx w0 [(w6.heap.size, #[.int .i64 t.k, .int .i64 t.n, .int .i64 t.e, .string t.s, .slice B t.kids.length c]), (w4.heap.size, #[.int .i64 k1, .int .i64 n1, .int .i64 x1, .string ⟨#[]⟩, .slice none 0 0]), (w2.heap.size, #[.int .i64 k1, .int .i64 n1, .int .i64 x1, .string ⟨#[]⟩, .slice none 0 0])] [(t, B)] W)) (Lib.hid (C6.out.new _)) ?_
  clear C6
  intro w7 C7
  refine (HTI.out _ (HP.out.below C7.out.1 (Nat.le_refl _)) (HT.out.below C7.out.1) (C7.out.at_ (by simp))).mono ?_
  rintro e w8 ⟨rfl, hb8⟩
  have C8 := Lib.hid (C7.out.below hb8)
  clear hb8 C7 HTI
  go_wp2_with fail
  refine (drawReadNum A cap code w8 (at_.out _ C8.out.1) (by omega)).mono ?_
  rintro e w9 ⟨⟨u, i, hu, hi, rfl⟩, hb9⟩
  have C9 := Lib.hid (C8.out.below hb9)
  clear hb9 C8
  have HXO := Lib.hid (rnP_ok (s := u) (i := i))
  have HRI := Lib.hid (fun W hP hE => implReadNum u i W (by omega) hP hE)
  have HRS := Lib.hid (fun W => specReadNum u i W (by omega))
  obtain ⟨k2, n2, x2, hx⟩ := rn_shape u i
  unfold RetI at HRI
  unfold RetN at HRS
  rw [hx] at HXO HRI HRS
  rw [agg_leaf] at HRI HRS
  clear hx
  generalize rdE (rnP u i) = nx at HXO HRI HRS
  go_wp2_with fail
  refine (HRI.out _ (HP.out.below C9.out.1 (Nat.le_refl _)) (HE.out.below C9.out.1 (Nat.le_refl _))).mono ?_
  rintro e wa ⟨rfl, hba⟩
  have Ca := Lib.hid (C9.out.below hba)
  clear hba C9 HRI
  go_wp2_with fail
  refine Calls.atW (fun W => Hid (Ctx w0 [(wa.heap.size, #[.int .i64 k2, .int .i64 n2, .int .i64 x2, .string ⟨#[]⟩, .slice none 0 0]), (w6.heap.size, #[.int .i64 t.k, .int .i64 t.n, .int .i64 t.e, .string t.s, .slice B t.kids.length c]), (w4.heap.size, #[.int .i64 k1, .int .i64 n1, .int .i64 x1, .string ⟨#[]⟩, .slice none 0 0]), (w2.heap.size, #[.int .i64 k1, .int .i64 n1, .int .i64 x1, .string ⟨#[]⟩, .slice none 0 0])] [(t, B)] W)) (Lib.hid (Ca.out.new _)) ?_
  clear Ca
  intro wb Cb
  refine (HRS.out _).mono ?_
  rintro e wy ⟨rfl, hby⟩
  have Cy := Lib.hid (Cb.out.below hby)
  clear hby Cb HRS
  go_upto_region 11 with fail
  have Cd := Lib.hid (Cy.out.new #[.int .i64 k2, .int .i64 n2, .int .i64 x2, .string ⟨#[]⟩, .slice none 0 0])
  obtain ⟨wd, hwd⟩ : ∃ wd, wd = wy.alloc (.cells #[.int .i64 k2, .int .i64 n2, .int .i64 x2, .string ⟨#[]⟩, .slice none 0 0] 43) := ⟨_, rfl⟩
  rw [← hwd] at Cd ⊢
  clear hwd Cy
  go_cut [103] from 61 (fun z wx => z = .bool false ∧ Hid (Ctx w0 [(wy.heap.size, #[.int .i64 k2, .int .i64 n2, .int .i64 x2, .string ⟨#[]⟩, .slice none 0 0]), (wa.heap.size, #[.int .i64 k2, .int .i64 n2, .int .i64 x2, .string ⟨#[]⟩, .slice none 0 0]), (w6.heap.size, #[.int .i64 t.k, .int .i64 t.n, .int .i64 t.e, .string t.s, .slice B t.kids.length c]), (w4.heap.size, #[.int .i64 k1, .int .i64 n1, .int .i64 x1, .string ⟨#[]⟩, .slice none 0 0]), (w2.heap.size, #[.int .i64 k1, .int .i64 n1, .int .i64 x1, .string ⟨#[]⟩, .slice none 0 0])] [(t, B)] wx))
  case first =>
    by_cases hnx : 0 ≤ nx
    · have qnx : decide (0 ≤ nx) = true := decide_eq_true hnx
      cases ok with
      | true =>
        have HOK2 := Lib.hid (HOK.out rfl)
        obtain ⟨cv0, cv1, cv2, cv3, cv4⟩ := Cd.out.five (p := w2.heap.size) (show (w2.heap.size, #[.int .i64 k1, .int .i64 n1, .int .i64 x1, .string ⟨#[]⟩, .slice none 0 0]) ∈ _ by simp)
        obtain ⟨cw0, cw1, cw2, cw3, cw4⟩ := Cd.out.five (p := w4.heap.size) (show (w4.heap.size, #[.int .i64 k1, .int .i64 n1, .int .i64 x1, .string ⟨#[]⟩, .slice none 0 0]) ∈ _ by simp)
        go_wp2_with fail
        refine (sameLeaf k1 n1 x1 _).mono ?_
        rintro e we ⟨rfl, hb⟩
        have Ce := Lib.hid (Cd.out.below hb)
        clear hb
        clear cv0 cv1 cv2 cv3 cv4 cw0 cw1 cw2 cw3 cw4
        obtain ⟨ct0, ct1, ct2, ct3, ct4⟩ := Ce.out.five (p := w6.heap.size) (show (w6.heap.size, #[.int .i64 t.k, .int .i64 t.n, .int .i64 t.e, .string t.s, .slice B t.kids.length c]) ∈ _ by simp)
        go_wp2_with fail
        refine (HTS.out _ (Ce.out.at_ (by simp))).mono ?_
        rintro e wf ⟨rfl, hb⟩
        have Cf := Lib.hid (Ce.out.below hb)
        clear hb
        clear ct0 ct1 ct2 ct3 ct4
        obtain ⟨cx0, cx1, cx2, cx3, cx4⟩ := Cf.out.five (p := wa.heap.size) (show (wa.heap.size, #[.int .i64 k2, .int .i64 n2, .int .i64 x2, .string ⟨#[]⟩, .slice none 0 0]) ∈ _ by simp)
        obtain ⟨cy0, cy1, cy2, cy3, cy4⟩ := Cf.out.five (p := wy.heap.size) (show (wy.heap.size, #[.int .i64 k2, .int .i64 n2, .int .i64 x2, .string ⟨#[]⟩, .slice none 0 0]) ∈ _ by simp)
        go_wp2_with fail
        refine (sameLeaf k2 n2 x2 _).mono ?_
        rintro e wg ⟨rfl, hb⟩
        have Cg := Lib.hid (Cf.out.below hb)
        clear hb
        clear cx0 cx1 cx2 cx3 cx4 cy0 cy1 cy2 cy3 cy4
        obtain ⟨cv0, cv1, cv2, cv3, cv4⟩ := Cg.out.five (p := w2.heap.size) (show (w2.heap.size, #[.int .i64 k1, .int .i64 n1, .int .i64 x1, .string ⟨#[]⟩, .slice none 0 0]) ∈ _ by simp)
        go_wp2_with fail
        refine (okLeaf HOK2.out _ (HT.out.below Cg.out.1)).mono ?_
        rintro e wh ⟨rfl, hb⟩
        have Ch := Lib.hid (Cg.out.below hb)
        clear hb
        clear cv0 cv1 cv2 cv3 cv4
        obtain ⟨cx0, cx1, cx2, cx3, cx4⟩ := Ch.out.five (p := wa.heap.size) (show (wa.heap.size, #[.int .i64 k2, .int .i64 n2, .int .i64 x2, .string ⟨#[]⟩, .slice none 0 0]) ∈ _ by simp)
        go_wp2_with fail
        refine (okLeaf (HXO.out hnx) _ (HT.out.below Ch.out.1)).mono ?_
        rintro e wi ⟨rfl, hb⟩
        have Ci := Lib.hid (Ch.out.below hb)
        clear hb
        clear cx0 cx1 cx2 cx3 cx4
        go_wp2_with fail
        go_meet
        case rel => exact ⟨rfl, Ci⟩
      | false =>
        obtain ⟨cv0, cv1, cv2, cv3, cv4⟩ := Cd.out.five (p := w2.heap.size) (show (w2.heap.size, #[.int .i64 k1, .int .i64 n1, .int .i64 x1, .string ⟨#[]⟩, .slice none 0 0]) ∈ _ by simp)
        obtain ⟨cw0, cw1, cw2, cw3, cw4⟩ := Cd.out.five (p := w4.heap.size) (show (w4.heap.size, #[.int .i64 k1, .int .i64 n1, .int .i64 x1, .string ⟨#[]⟩, .slice none 0 0]) ∈ _ by simp)
        go_wp2_with fail
        refine (sameLeaf k1 n1 x1 _).mono ?_
        rintro e we ⟨rfl, hb⟩
        have Ce := Lib.hid (Cd.out.below hb)
        clear hb
        clear cv0 cv1 cv2 cv3 cv4 cw0 cw1 cw2 cw3 cw4
        obtain ⟨ct0, ct1, ct2, ct3, ct4⟩ := Ce.out.five (p := w6.heap.size) (show (w6.heap.size, #[.int .i64 t.k, .int .i64 t.n, .int .i64 t.e, .string t.s, .slice B t.kids.length c]) ∈ _ by simp)
        go_wp2_with fail
        refine (HTS.out _ (Ce.out.at_ (by simp))).mono ?_
        rintro e wf ⟨rfl, hb⟩
        have Cf := Lib.hid (Ce.out.below hb)
        clear hb
        clear ct0 ct1 ct2 ct3 ct4
        obtain ⟨cx0, cx1, cx2, cx3, cx4⟩ := Cf.out.five (p := wa.heap.size) (show (wa.heap.size, #[.int .i64 k2, .int .i64 n2, .int .i64 x2, .string ⟨#[]⟩, .slice none 0 0]) ∈ _ by simp)
        obtain ⟨cy0, cy1, cy2, cy3, cy4⟩ := Cf.out.five (p := wy.heap.size) (show (wy.heap.size, #[.int .i64 k2, .int .i64 n2, .int .i64 x2, .string ⟨#[]⟩, .slice none 0 0]) ∈ _ by simp)
        go_wp2_with fail
        refine (sameLeaf k2 n2 x2 _).mono ?_
        rintro e wg ⟨rfl, hb⟩
        have Cg := Lib.hid (Cf.out.below hb)
        clear hb
        clear cx0 cx1 cx2 cx3 cx4 cy0 cy1 cy2 cy3 cy4
        obtain ⟨cx0, cx1, cx2, cx3, cx4⟩ := Cg.out.five (p := wa.heap.size) (show (wa.heap.size, #[.int .i64 k2, .int .i64 n2, .int .i64 x2, .string ⟨#[]⟩, .slice none 0 0]) ∈ _ by simp)
        go_wp2_with fail
        refine (okLeaf (HXO.out hnx) _ (HT.out.below Cg.out.1)).mono ?_
        rintro e wi ⟨rfl, hb⟩
        have Ci := Lib.hid (Cg.out.below hb)
        clear hb
        clear cx0 cx1 cx2 cx3 cx4
        go_wp2_with fail
        go_meet
        case rel => exact ⟨rfl, Ci⟩
    · have qnx : decide (0 ≤ nx) = false := decide_eq_false hnx
      cases ok with
      | true =>
        have HOK2 := Lib.hid (HOK.out rfl)
        obtain ⟨cv0, cv1, cv2, cv3, cv4⟩ := Cd.out.five (p := w2.heap.size) (show (w2.heap.size, #[.int .i64 k1, .int .i64 n1, .int .i64 x1, .string ⟨#[]⟩, .slice none 0 0]) ∈ _ by simp)
        obtain ⟨cw0, cw1, cw2, cw3, cw4⟩ := Cd.out.five (p := w4.heap.size) (show (w4.heap.size, #[.int .i64 k1, .int .i64 n1, .int .i64 x1, .string ⟨#[]⟩, .slice none 0 0]) ∈ _ by simp)
        go_wp2_with fail
        refine (sameLeaf k1 n1 x1 _).mono ?_
        rintro e we ⟨rfl, hb⟩
        have Ce := Lib.hid (Cd.out.below hb)
        clear hb
        clear cv0 cv1 cv2 cv3 cv4 cw0 cw1 cw2 cw3 cw4
        obtain ⟨ct0, ct1, ct2, ct3, ct4⟩ := Ce.out.five (p := w6.heap.size) (show (w6.heap.size, #[.int .i64 t.k, .int .i64 t.n, .int .i64 t.e, .string t.s, .slice B t.kids.length c]) ∈ _ by simp)
        go_wp2_with fail
        refine (HTS.out _ (Ce.out.at_ (by simp))).mono ?_
        rintro e wf ⟨rfl, hb⟩
        have Cf := Lib.hid (Ce.out.below hb)
        clear hb
        clear ct0 ct1 ct2 ct3 ct4
        obtain ⟨cx0, cx1, cx2, cx3, cx4⟩ := Cf.out.five (p := wa.heap.size) (show (wa.heap.size, #[.int .i64 k2, .int .i64 n2, .int .i64 x2, .string ⟨#[]⟩, .slice none 0 0]) ∈ _ by simp)
        obtain ⟨cy0, cy1, cy2, cy3, cy4⟩ := Cf.out.five (p := wy.heap.size) (show (wy.heap.size, #[.int .i64 k2, .int .i64 n2, .int .i64 x2, .string ⟨#[]⟩, .slice none 0 0]) ∈ _ by simp)
        go_wp2_with fail
        refine (sameLeaf k2 n2 x2 _).mono ?_
        rintro e wg ⟨rfl, hb⟩
        have Cg := Lib.hid (Cf.out.below hb)
        clear hb
        clear cx0 cx1 cx2 cx3 cx4 cy0 cy1 cy2 cy3 cy4
        obtain ⟨cv0, cv1, cv2, cv3, cv4⟩ := Cg.out.five (p := w2.heap.size) (show (w2.heap.size, #[.int .i64 k1, .int .i64 n1, .int .i64 x1, .string ⟨#[]⟩, .slice none 0 0]) ∈ _ by simp)
        go_wp2_with fail
        refine (okLeaf HOK2.out _ (HT.out.below Cg.out.1)).mono ?_
        rintro e wh ⟨rfl, hb⟩
        have Ch := Lib.hid (Cg.out.below hb)
        clear hb
        clear cv0 cv1 cv2 cv3 cv4
        go_wp2_with fail
        go_meet
        case rel => exact ⟨rfl, Ch⟩
      | false =>
        obtain ⟨cv0, cv1, cv2, cv3, cv4⟩ := Cd.out.five (p := w2.heap.size) (show (w2.heap.size, #[.int .i64 k1, .int .i64 n1, .int .i64 x1, .string ⟨#[]⟩, .slice none 0 0]) ∈ _ by simp)
        obtain ⟨cw0, cw1, cw2, cw3, cw4⟩ := Cd.out.five (p := w4.heap.size) (show (w4.heap.size, #[.int .i64 k1, .int .i64 n1, .int .i64 x1, .string ⟨#[]⟩, .slice none 0 0]) ∈ _ by simp)
        go_wp2_with fail
        refine (sameLeaf k1 n1 x1 _).mono ?_
        rintro e we ⟨rfl, hb⟩
        have Ce := Lib.hid (Cd.out.below hb)
        clear hb
        clear cv0 cv1 cv2 cv3 cv4 cw0 cw1 cw2 cw3 cw4
        obtain ⟨ct0, ct1, ct2, ct3, ct4⟩ := Ce.out.five (p := w6.heap.size) (show (w6.heap.size, #[.int .i64 t.k, .int .i64 t.n, .int .i64 t.e, .string t.s, .slice B t.kids.length c]) ∈ _ by simp)
        go_wp2_with fail
        refine (HTS.out _ (Ce.out.at_ (by simp))).mono ?_
        rintro e wf ⟨rfl, hb⟩
        have Cf := Lib.hid (Ce.out.below hb)
        clear hb
        clear ct0 ct1 ct2 ct3 ct4
        obtain ⟨cx0, cx1, cx2, cx3, cx4⟩ := Cf.out.five (p := wa.heap.size) (show (wa.heap.size, #[.int .i64 k2, .int .i64 n2, .int .i64 x2, .string ⟨#[]⟩, .slice none 0 0]) ∈ _ by simp)
        obtain ⟨cy0, cy1, cy2, cy3, cy4⟩ := Cf.out.five (p := wy.heap.size) (show (wy.heap.size, #[.int .i64 k2, .int .i64 n2, .int .i64 x2, .string ⟨#[]⟩, .slice none 0 0]) ∈ _ by simp)
        go_wp2_with fail
        refine (sameLeaf k2 n2 x2 _).mono ?_
        rintro e wg ⟨rfl, hb⟩
        have Cg := Lib.hid (Cf.out.below hb)
        clear hb
        clear cx0 cx1 cx2 cx3 cx4 cy0 cy1 cy2 cy3 cy4
        go_wp2_with fail
        go_meet
        case rel => exact ⟨rfl, Cg⟩
  case rest =>
  obtain ⟨rfl, C0⟩ := hcut
  clear Cd
  go_upto_region 13 with fail
  go_cut [116] from 104 (fun z wx => ∃ g : Bool, z = .bool g ∧ Hid (g = true → ok = true ∧ (-922337203685477580 < nn ∧ nn < 922337203685477580) ∧ -1000 < ee) ∧ wx = wc)
  case first =>
    cases ok with
    | false =>
      go_wp2_with fail
      go_meet
      case rel => exact ⟨false, rfl, Lib.hid (fun h => by cases h), rfl⟩
    | true =>
      by_cases g1 : nn < 922337203685477580
      · have q1 : decide (nn < 922337203685477580) = true := decide_eq_true g1
        by_cases g2 : -922337203685477580 < nn
        · have q2 : decide (-922337203685477580 < nn) = true := decide_eq_true g2
          by_cases g3 : -1000 < ee
          · have q3 : decide (-1000 < ee) = true := decide_eq_true g3
            have HG := Lib.hid (And.intro (And.intro g2 g1) g3)
            go_wp2_with fail
            go_meet
            case rel => exact ⟨true, rfl, Lib.hid (fun _ => ⟨by first | rfl | trivial, HG.out⟩), rfl⟩
          · have q3 : decide (-1000 < ee) = false := decide_eq_false g3
            go_wp2_with fail
            go_meet
            case rel => exact ⟨false, rfl, Lib.hid (fun h => by cases h), rfl⟩
        · have q2 : decide (-922337203685477580 < nn) = false := decide_eq_false g2
          go_wp2_with fail
          go_meet
          case rel => exact ⟨false, rfl, Lib.hid (fun h => by cases h), rfl⟩
      · have q1 : decide (nn < 922337203685477580) = false := decide_eq_false g1
        go_wp2_with fail
        go_meet
        case rel => exact ⟨false, rfl, Lib.hid (fun h => by cases h), rfl⟩
  case rest =>
  obtain ⟨g, rfl, HG, rfl⟩ := hcut
  go_upto_if 116 with fail
  go_cut [17, 18] from 104 (fun y z wx => Hid (Ctx w0 [(wy.heap.size, #[.int .i64 k2, .int .i64 n2, .int .i64 x2, .string ⟨#[]⟩, .slice none 0 0]), (wa.heap.size, #[.int .i64 k2, .int .i64 n2, .int .i64 x2, .string ⟨#[]⟩, .slice none 0 0]), (w6.heap.size, #[.int .i64 t.k, .int .i64 t.n, .int .i64 t.e, .string t.s, .slice B t.kids.length c]), (w4.heap.size, #[.int .i64 k1, .int .i64 n1, .int .i64 x1, .string ⟨#[]⟩, .slice none 0 0]), (w2.heap.size, #[.int .i64 k1, .int .i64 n1, .int .i64 x1, .string ⟨#[]⟩, .slice none 0 0])] [(t, B)] wx))
  case first =>
    cases g with
    | false =>
      go_wp2_with fail
      go_meet
      case rel => exact C0
    | true =>
      obtain ⟨rfl, ⟨g1, g2⟩, g3⟩ := HG.out rfl
      have h10 : inR (nn * 10) := by unfold inR; omega
      have hN := HTN.out rfl h10 g3
      have HN := Lib.hid (fun W => implNorm (nn * 10) (ee - 1) W h10)
      unfold NormRet at HN
      have e1 : normD (nn * 10) (ee - 1) = V.mk k1 n1 x1 ⟨#[]⟩ [] := by
        have h := HV.out
        unfold normD at h ⊢
        rw [hN]
        exact h
      have e2 : normB (nn * 10) (ee - 1) = true := by
        have h := HB.out
        unfold normB at h ⊢
        rw [hN]
        exact h
      rw [e1, e2, agg_leaf] at HN
      have C00 := C0
      clear e1 e2 hN h10 HG
      go_wp2_with fail
      refine (HN.out _).mono ?_
      rintro e wj ⟨rfl, hb⟩
      have Cj := Lib.hid (C00.out.below hb)
      clear hb C00
      obtain ⟨cv0, cv1, cv2, cv3, cv4⟩ := Cj.out.five (p := w2.heap.size) (show (w2.heap.size, #[.int .i64 k1, .int .i64 n1, .int .i64 x1, .string ⟨#[]⟩, .slice none 0 0]) ∈ _ by simp)
      have hlt : w2.heap.size < wj.heap.size := (Cj.out.blk (p := w2.heap.size) (cs := #[.int .i64 k1, .int .i64 n1, .int .i64 x1, .string ⟨#[]⟩, .slice none 0 0]) (by simp)).lt
      go_wp2_with fail
      refine (sameLeaf k1 n1 x1 _).mono ?_
      rintro e wk ⟨rfl, hb⟩
      have Ck := Lib.hid (((Cj.out.new _).below hb).tail)
      clear hb cv0 cv1 cv2 cv3 cv4 hlt
      go_wp2_with fail
      go_meet
      case rel => exact Ck
  case rest =>
  have C1 := Lib.hid hcut.out
  clear hcut C0
  by_cases hno : numOk t
  · have HR0 := HRB.out hno
    have hkd : t.kids = [] := List.length_eq_zero_iff.1 (okV_leaf hno).1
    have HRI := Lib.hid (fun W hP hE => implReadNum S 0 W (by omega) hP hE)
    unfold RetI at HRI
    rw [HR0.1] at HRI
    have HRI2 : Hid (∀ W, Pow10 W → Errs W → Calls Tryz.prog 37 #[.string S, .int .i64 0] W fun r w' => r = .returned (.tuple #[.agg #[.int .i64 t.k, .int .i64 t.n, .int .i64 t.e, .string t.s, .slice none t.kids.length 0], .int .i64 (S.size : Int)]) ∧ Below W.heap.size W w') := Lib.hid (fun W hP hE => HRI.out W hP hE)
    have HSM : Hid (∀ W, Vs.at_ W 0 W.heap.size t.kids B → Calls Tryz.prog 39 #[.agg #[.int .i64 t.k, .int .i64 t.n, .int .i64 t.e, .string t.s, .slice none t.kids.length 0], .agg #[.int .i64 t.k, .int .i64 t.n, .int .i64 t.e, .string t.s, .slice B t.kids.length c]] W fun e w' => e = .returned (.bool true) ∧ Below W.heap.size W w') := Lib.hid (fun W hB => by
      have hnd : t.nodes ≤ 1048577 := by rw [V.nodes_eq, hkd]; simp [Vs.nodes]
      have h := lawSame t t none B 0 c W hnd hnd (by rw [hkd]; simp only [Vs.at_]) hB
      rw [V.same_self] at h
      exact h)
    have q1 : (S.toList == []) = false := by
      rw [beq_eq_false_iff_ne, ByteArray.toList_eq]
      intro h
      exact HR0.2 (by rw [Lib.size_eq, h]; rfl)
    clear HR0 HRI hkd hno
    go_wp2_with fail
    refine (HRI2.out _ (HP.out.below C1.out.1 (Nat.le_refl _)) (HE.out.below C1.out.1 (Nat.le_refl _))).mono ?_
    rintro e wj ⟨rfl, hb⟩
    have Cj := Lib.hid (C1.out.below hb)
    clear hb C1
    obtain ⟨ct0, ct1, ct2, ct3, ct4⟩ := Cj.out.five (p := w6.heap.size) (show (w6.heap.size, #[.int .i64 t.k, .int .i64 t.n, .int .i64 t.e, .string t.s, .slice B t.kids.length c]) ∈ _ by simp)
    have hlt : w6.heap.size < wj.heap.size := (Cj.out.blk (p := w6.heap.size) (cs := #[.int .i64 t.k, .int .i64 t.n, .int .i64 t.e, .string t.s, .slice B t.kids.length c]) (by simp)).lt
    go_wp2_with fail
    refine (HSM.out _ ((Cj.out.new _).at_ (by simp))).mono ?_
    rintro e wk ⟨rfl, hb⟩
    have Ck := Lib.hid (((Cj.out.new _).below hb).tail)
    clear hb ct0 ct1 ct2 ct3 ct4 hlt
    go_wp2_with fail
    go_ret
    exact ⟨rfl, Ck.out.1⟩
  · have HR0 := HTZ.out hno
    have q1 : (S.toList == []) = true := by
      rw [beq_iff_eq, ByteArray.toList_eq]
      exact List.eq_nil_of_length_eq_zero (by rw [← Lib.size_eq]; exact HR0.1)
    obtain ⟨ct0, ct1, ct2, ct3, ct4⟩ := C1.out.five (p := w6.heap.size) (show (w6.heap.size, #[.int .i64 t.k, .int .i64 t.n, .int .i64 t.e, .string t.s, .slice B t.kids.length c]) ∈ _ by simp)
    by_cases hok : okV t
    · have r3 : (t.k == 3) = false := by rw [beq_eq_false_iff_ne]; exact (HR0.2 hok).1
      have r4 : (t.k == 4) = false := by rw [beq_eq_false_iff_ne]; exact (HR0.2 hok).2
      have s3 : (t.k != 3) = true := by simp only [bne, r3]; rfl
      have s4 : (t.k != 4) = true := by simp only [bne, r4]; rfl
      rw [show decide (okV t) = true from decide_eq_true hok] at HVS
      clear HR0 hno hok
      go_wp2_with fail
      refine (HVS.out _ (C1.out.at_ (by simp))).mono ?_
      rintro e wj ⟨rfl, hb⟩
      have Cj := Lib.hid (C1.out.below hb)
      clear hb C1 ct0 ct1 ct2 ct3 ct4
      obtain ⟨ct0, ct1, ct2, ct3, ct4⟩ := Cj.out.five (p := w6.heap.size) (show (w6.heap.size, #[.int .i64 t.k, .int .i64 t.n, .int .i64 t.e, .string t.s, .slice B t.kids.length c]) ∈ _ by simp)
      go_wp2_with fail
      go_ret
      exact ⟨rfl, Cj.out.1⟩
    · rw [show decide (okV t) = false from decide_eq_false hok] at HVS
      clear HR0 hno hok
      go_wp2_with fail
      refine (HVS.out _ (C1.out.at_ (by simp))).mono ?_
      rintro e wj ⟨rfl, hb⟩
      have Cj := Lib.hid (C1.out.below hb)
      clear hb C1 ct0 ct1 ct2 ct3 ct4
      obtain ⟨ct0, ct1, ct2, ct3, ct4⟩ := Cj.out.five (p := w6.heap.size) (show (w6.heap.size, #[.int .i64 t.k, .int .i64 t.n, .int .i64 t.e, .string t.s, .slice B t.kids.length c]) ∈ _ by simp)
      go_wp2_with fail
      go_ret
      exact ⟨rfl, Cj.out.1⟩

theorem walk (t0 : List Int) (A0 : Option Addr) (c0 : Nat) (f0 : t0.length ≤ maxLen) (g0 : ∀ z ∈ t0, (Lit.int .u8 z).wf = true) (w : World) (at0 : At1 w w.heap.size A0 (t0.map (Value.int .u8))) (hT : Tabs w) (hP : Pow10 w) (hE : Errs w) :
    Calls Tryz.prog 4 #[.slice A0 t0.length c0] w fun e w' => e = .returned (.bool true) ∧ Below w.heap.size w w' := by
  obtain ⟨code, hl, hm⟩ := bytes_of t0 g0
  rw [hm] at at0
  rw [← hl]
  by_cases h : 1048576 < code.length
  · clear at0 hm hl
    go_enter Tryz.func4, Tryz.ntmps4
    go_wp2_with fail
    refine (lawBigY A0 code.length c0 w h).mono ?_
    rintro e w0 ⟨rfl, hw0⟩
    subst hw0
    go_wp2_with fail
    go_ret
    exact ⟨rfl, Below.refl _ _⟩
  · exact walk1 code A0 c0 (by omega) w at0 hT hP hE

set_option maxRecDepth 100000 in
theorem lifted (os : Os) (started : os.Started) (H : Type) (enc : TypeId × Value → H) :
    ReturnsInHanded {} Tryz.checked os 4 .any (fun w args => (Rows.fnNumberSpec.pre enc Tryz.prog Tryz.f4 [] false w args ∧ laidMetH Tryz.prog Rows.fnNumberRow.laid w) ∧ sizedMet enc Tryz.prog Tryz.f4 (OpenSpec.ofChange Rows.fnNumberSpec) false w args)
      (Rows.fnNumberSpec.post enc Tryz.prog Tryz.f4 false true false false) := by
  refine returnsInHanded_of_change_and (C := Tryz.checked) (X := fun w _ => laidMetH Tryz.prog Rows.fnNumberRow.laid w) (fun _ _ _ hh h => h.of_heap hh) own started (by kernel_rfl) Tryz.func4
    (ChangeSpec.witness_shaped (enc := enc) (C := Tryz.checked) (os := os) (X := fun w _ => laidMetH Tryz.prog Rows.fnNumberRow.laid w) false (World.laidAll Tryz.prog os Rows.fnNumberRow.laid) #[.slice none 0 0] 8 (World.laidAll_os _ _ _)
      (World.shaped_of_ZipB (by kernel_rfl) (by kernel_rfl)) (by kernel_rfl) (by kernel_rfl) (by kernel_rfl)
      (by rw [MakeChecks.laidMetH_plain _ _ _ (by kernel_rfl)]; exact laidMet_laidAll _ (by kernel_rfl) (by kernel_rfl))) ?_
  intro W base args ds gs before hval0 hW _ _ hL _
  rw [MakeChecks.laidMetH_plain _ _ _ (by kernel_rfl)] at hL
  have hT : Tabs W := tabs_of_laid hL (.tail _ (.tail _ (.tail _ (.head _)))) (.tail _ (.tail _ (.tail _ (.tail _ (.tail _ (.tail _ (.head _)))))))
  have hP : Pow10 W := pow_of_laid hL (.tail _ (.tail _ (.head _)))
  have hE : Errs W := errs_of_laid hL.tail.tail.tail.tail
  have hval : ∀ (j : Nat) t v, Tryz.f4.params[j]? = some t → args[j]? = some v → Value.okWide Tryz.prog W .any base t v := hval0
  have hW' := hW
  obtain ⟨p, q, hA0, hV, rfl, hfz, hnd⟩ := hW
  have hA : DataW.TrodAll enc Tryz.prog W 0 (fun _ => true) true Tryz.f4.params.toList args.toList ds p := hA0
  rw [Tryz.params4] at hA hval
  obtain ⟨v0, vs0, d0, ds0, p0, q0, hargs, rfl, rfl, h0, r0⟩ := trodAll_cons hA
  obtain ⟨rfl, rfl, rfl⟩ := trodAll_nil r0
  obtain rfl : args = #[v0] := by cases args; simp_all
  obtain ⟨rfl, rfl⟩ := trodVars_none hV
  have k0 := h0
  have lt0 : ∀ x ∈ p0, x.block < W.heap.size := by obtain ⟨m, hm⟩ := k0; exact DataW.trod_lt m _ _ _ hm
  obtain ⟨t0, A0, c0, rfl, f0, g0, at0⟩ := open_kind Tryz.underlying22 Tryz.underlying5 (by kernel_rfl) (hval 0 22 v0 rfl rfl) h0
  clear hA0 hval0
  refine (walk t0 A0 c0 f0 g0 W at0 hT hP hE).mono fun e W' ⟨he, bel⟩ => ?_
  subst he
  exact ⟨_, rfl, _, _, _, [], _, [], hW', trodAll_mk1 (shut_bool Tryz.underlying4 _), (trodAll_cons_mk (Below.trod laidOut (by kernel_rfl) (of_decide_eq_true (by kernel_rfl)) k0 bel lt0) trodAll_mk0), rfl, bel.frame _, fun h => by cases h⟩

theorem over : Rows.fnNumberRow.holds Tryz.pinned (OpenSpec.ofChange Rows.fnNumberSpec) :=
  OpenClaim.holds_of_wide 4 Tryz.f4 rfl rfl rfl rfl rfl rfl rfl ⟨rfl, rfl, rfl, rfl, rfl⟩ rfl rfl rfl rfl rfl (by kernel_rfl) Tryz.func4 (by kernel_rfl)
    (of_decide_eq_true (by kernel_rfl)) (by unfold Func.isWrapper; first | (rw [if_pos (by decide +kernel)]; kernel_rfl) | (rw [if_neg (by decide +kernel)]; exact ⟨rfl, rfl⟩))
    (fun os started H enc _ => lifted os started H enc)

theorem proved : Rows.FnNumberCardSaid :=
  Claim7.holds_tied_plain_at .later [] _ _ _ _ over (fun _ h => by cases h) (by kernel_rfl) (fun _ h => by cases h) fnNumber_row_tie rfl ⟨rfl, rfl⟩ (by kernel_rfl) rfl
    (fun f fn hf hfn => by
      obtain rfl : f = 4 := Option.some.inj ((show Tryz.prog.funcNamed "loop.example/g00421/laws.FnNumber" = some 4 by kernel_rfl).symm.trans hf) |>.symm
      obtain rfl : fn = Tryz.f4 := (Option.some.inj (Tryz.func4.symm.trans hfn)).symm
      exact ⟨by kernel_rfl, fun j t ht => by
        rw [Tryz.params4] at ht
        have hm : t ∈ [22] := by simpa using Array.mem_of_getElem? ht
        have hall : ([22].all fun u => !Tryz.prog.wantsStandIn u) = true := by kernel_rfl
        exact (show Tryz.prog.wantsStandIn t = false by simpa using List.all_eq_true.1 hall t hm)⟩)
    (by kernel_rfl)
end Go.Proofs.YtbfddabljkoapaaGreatDoor.fnNumber
