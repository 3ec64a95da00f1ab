/-
  The texts on which the last one leans, part 3: SymC, StabR, SortR, Draw2.
-/
import Derived.Test.YtcjamnfboifjeaaDoorPLSortedb
import Derived.Deep.RegionHeld3
/-
  Two runs of pairs merged.
-/
namespace Go.Proofs.YtcjamnfboifjeaaDoor
open Go.RowKit
set_option linter.unusedVariables false
set_option linter.unusedSimpArgs false
set_option maxRecDepth 100000

/-- The runs merged, of at most n pairs together. -/
def SymSaid (n : Nat) : Prop := ∀ (g c : Nat) (L X Y R : List PEnt) (rest : List Value) (w : World) (a m b N : Nat), PRow w g (L ++ (X ++ (Y ++ R))) rest → (∀ x ∈ X, leafP x) → (∀ y ∈ Y, leafP y) → X.Pairwise kle → Y.Pairwise kle → 0 < X.length → 0 < Y.length → X.length + Y.length ≤ n → a = L.length → m = L.length + X.length → b = L.length + X.length + Y.length → N = L.length + X.length + Y.length + R.length → N ≤ 100000 →
    Calls Tryd.prog 105 #[.slice (some ⟨g, 0, none⟩) N c, .int .i64 (a : Int), .int .i64 (m : Int), .int .i64 (b : Int), .func (Fn.func 76) #[] #[]] w fun e w' => e = .returned (.tuple #[]) ∧ ∃ Z, Z.Perm (X ++ Y) ∧ Z.Pairwise kle ∧ PRow w' g (L ++ (Z ++ R)) rest ∧ Gr g w w'
/-- The search's state. -/
def SeC (a m nn lo hi : Nat) (X Y : List PEnt) (g : Nat) (d : List PEnt) (rest : List Value) (w : World) (i j h : Value) (wr : World) : Prop :=
  ∃ (ns nr : Nat), i = .int .i64 (ns : Int) ∧ j = .int .i64 (nr : Int) ∧ lo ≤ ns ∧ ns ≤ nr ∧ nr ≤ hi ∧ Hid (ns = lo ∨ ∃ x y, X[ns - 1 - a]? = some x ∧ Y[nn - ns - m]? = some y ∧ kle x y) ∧ Hid (nr = hi ∨ ∃ x y, X[nr - a]? = some x ∧ Y[nn - 1 - nr - m]? = some y ∧ kc y x < 0) ∧ Hid (PRow wr g d rest) ∧ Hid (Gr g w wr)
theorem merge_fin {X1 X2 Y1 Y2 Z1 Z2 : List PEnt} (p1 : Z1.Perm (X1 ++ Y1)) (s1 : Z1.Pairwise kle) (p2 : Z2.Perm (X2 ++ Y2)) (s2 : Z2.Pairwise kle) (hX : (X1 ++ X2).Pairwise kle) (hY : (Y1 ++ Y2).Pairwise kle) (c1 : ∀ p ∈ X1, ∀ q ∈ Y2, kle p q) (c2 : ∀ p ∈ Y1, ∀ q ∈ X2, kle p q) :
    (Z1 ++ Z2).Perm ((X1 ++ X2) ++ (Y1 ++ Y2)) ∧ (Z1 ++ Z2).Pairwise kle := by
  constructor
  · refine List.Perm.trans (List.Perm.append p1 p2) ?_
    rw [List.append_assoc, List.append_assoc]
    refine List.Perm.append_left X1 ?_
    rw [← List.append_assoc, ← List.append_assoc]
    exact List.Perm.append_right Y2 List.perm_append_comm
  · rw [List.pairwise_append] at hX hY ⊢
    refine ⟨s1, s2, fun p hp q hq => ?_⟩
    have hp2 := p1.subset hp
    have hq2 := p2.subset hq
    rcases List.mem_append.1 hp2 with hp2 | hp2 <;> rcases List.mem_append.1 hq2 with hq2 | hq2
    · exact hX.2.2 p hp2 q hq2
    · exact c1 p hp2 q hq2
    · exact c2 p hp2 q hq2
    · exact hY.2.2 p hp2 q hq2
/-- What a test of two parts tells. -/
def Two (q : Bool) (a1 b1 a2 b2 : Nat) : Prop := (q = true → a1 < b1 ∧ a2 < b2) ∧ (q = false → ¬ (a1 < b1 ∧ a2 < b2))
theorem two_yes {a1 b1 a2 b2 : Nat} (h : a1 < b1 ∧ a2 < b2) : Two true a1 b1 a2 b2 := ⟨fun _ => h, fun h => by cases h⟩
theorem two_no {a1 b1 a2 b2 : Nat} (h : ¬ (a1 < b1 ∧ a2 < b2)) : Two false a1 b1 a2 b2 := ⟨fun h => (by cases h), fun _ => h⟩
theorem take_last {X : List PEnt} {t : Nat} {x z : PEnt} (hs : X.Pairwise kle) (ht : 0 < t) (hx : X[t - 1]? = some x) (hz : z ∈ X.take t) : kle z x := by
  obtain ⟨k, rfl⟩ : ∃ k, t = k + 1 := ⟨t - 1, by omega⟩
  rw [Nat.add_sub_cancel] at hx
  have hr : kle x x := by unfold kle kc; rw [V.cmp_self]; omega
  exact take_le hs hx hr z hz
theorem drop_first {X : List PEnt} {t : Nat} {x z : PEnt} (hs : X.Pairwise kle) (hx : X[t]? = some x) (hz : z ∈ X.drop t) : kle x z := by
  obtain ⟨ht, hx⟩ := List.getElem?_eq_some_iff.1 hx
  rw [List.drop_eq_getElem_cons ht, hx] at hz
  rcases List.mem_cons.1 hz with rfl | hz
  · unfold kle kc; rw [V.cmp_self]; omega
  · have e : X = X.take t ++ X[t] :: X.drop (t + 1) := by rw [← List.drop_eq_getElem_cons ht, List.take_append_drop]
    rw [e, List.pairwise_append, hx] at hs
    exact (List.pairwise_cons.1 hs.2.1).1 z hz
set_option maxHeartbeats 8000000 in
theorem symC (n : Nat) (ih : SymSaid n) (g c : Nat) (L X Y R : List PEnt) (rest : List Value) (w : World) (a m b N : Nat) (hr : PRow w g (L ++ (X ++ (Y ++ R))) rest) (hX : ∀ x ∈ X, leafP x) (hY : ∀ y ∈ Y, leafP y) (hsX : X.Pairwise kle) (hsY : Y.Pairwise kle) (h2X : 2 ≤ X.length) (h2Y : 2 ≤ Y.length) (hsz : X.length + Y.length ≤ n + 1) (ha : a = L.length) (hm : m = L.length + X.length) (hb : b = L.length + X.length + Y.length) (hN : N = L.length + X.length + Y.length + R.length) (hd : N ≤ 100000) :
    Calls Tryd.prog 105 #[.slice (some ⟨g, 0, none⟩) N c, .int .i64 (a : Int), .int .i64 (m : Int), .int .i64 (b : Int), .func (Fn.func 76) #[] #[]] w fun e w' => e = .returned (.tuple #[]) ∧ ∃ Z, Z.Perm (X ++ Y) ∧ Z.Pairwise kle ∧ PRow w' g (L ++ (Z ++ R)) rest ∧ Gr g w w' := by
  have HR := Lib.hid hr
  have HX := Lib.hid hX
  have HY := Lib.hid hY
  have HSX := Lib.hid hsX
  have HSY := Lib.hid hsY
  have HIH := Lib.hid ih
  have ha2 : a ≤ 100000 := by omega
  have hm2 : m ≤ 100000 := by omega
  have hb2 : b ≤ 100000 := by omega
  have ham : a ≤ m := by omega
  have hmb : m ≤ b := by omega
  have hma : ((m : Int) - (a : Int) == 1) = false := by rw [beq_eq_false_iff_ne]; omega
  have hma2 : ¬ (m : Int) - (a : Int) = 1 := by omega
  have hbm : ((b : Int) - (m : Int) == 1) = false := by rw [beq_eq_false_iff_ne]; omega
  have hbm2 : ¬ (b : Int) - (m : Int) = 1 := by omega
  obtain ⟨mid, hmid⟩ : ∃ mid : Nat, ((a : Int) + (b : Int)) / 2 = (mid : Int) := ⟨(a + b) / 2, by omega⟩
  obtain ⟨nn, hnn⟩ : ∃ nn : Nat, (mid : Int) + (m : Int) = (nn : Int) := ⟨mid + m, by omega⟩
  have HM : Hid (2 * mid ≤ a + b ∧ a + b ≤ 2 * mid + 1 ∧ nn = mid + m ∧ a ≤ mid ∧ mid ≤ b) := Lib.hid (by omega)
  have hmd2 : mid ≤ 100000 := by omega
  have hnn2 : nn ≤ 200000 := by omega
  have HF := Lib.hid (And.intro ha (And.intro hm (And.intro hb hN)))
  have HZ := Lib.hid (And.intro h2X (And.intro h2Y hsz))
  have hE := keyEnters
  clear hr hX hY hsX hsY ih ha hm hb hN h2X h2Y hsz
  go_enter Tryd.func105, Tryd.ntmps105
  go_upto_if 140 with fail
  go_cut [20, 21] from 141 (fun y z wx => ∃ lo hi : Nat, y = .int .i64 (lo : Int) ∧ z = .int .i64 (hi : Int) ∧ Hid (a ≤ lo ∧ lo ≤ hi ∧ hi ≤ m ∧ hi ≤ mid ∧ nn ≤ lo + b ∧ (lo = a ∨ lo + b = nn) ∧ (hi = m ∨ hi = mid)) ∧ Hid (PRow wx g (L ++ (X ++ (Y ++ R))) rest) ∧ Hid (Gr g w wx))
  case first =>
    by_cases h : mid < m
    · have d1 : decide (mid < m) = true := decide_eq_true h
      have d2 : decide ((mid : Int) < (m : Int)) = true := decide_eq_true (by omega)
      have d3 : (mid : Int) < (m : Int) := by omega
      have HH := Lib.hid h
      clear h
      go_wp2_with fail
      go_meet
      case rel => exact ⟨nn - b, mid, by (congr 1; have := HM.out; have := HH.out; omega), rfl, Lib.hid (by have := HM.out; have := HH.out; omega), HR, Lib.hid (Gr.refl _ _)⟩
    · have d1 : decide (mid < m) = false := decide_eq_false h
      have d2 : decide ((mid : Int) < (m : Int)) = false := decide_eq_false (by omega)
      have d3 : (m : Int) ≤ (mid : Int) := by omega
      have HH : Hid (m ≤ mid) := Lib.hid (by omega)
      clear h
      go_wp2_with fail
      go_meet
      case rel => exact ⟨a, m, rfl, rfl, Lib.hid (by have := HM.out; have := HH.out; omega), HR, Lib.hid (Gr.refl _ _)⟩
  case rest =>
  obtain ⟨lo, hi, rfl, rfl, HLH, HP0, HG0⟩ := hcut
  have hlo : lo ≤ 100000 := by have := HLH.out; omega
  have hhi : hi ≤ 100000 := by have := HLH.out; omega
  go_wp2_with fail
  go_loopw [20, 21, 23] (fun i j h wr => SeC a m nn lo hi X Y g (L ++ (X ++ (Y ++ R))) rest w i j h wr) (fun i j _ _ => (intOf j).toNat - (intOf i).toNat)
  case atStart => exact ⟨lo, hi, rfl, rfl, Nat.le_refl _, HLH.out.2.1, Nat.le_refl _, Lib.hid (.inl rfl), Lib.hid (.inl rfl), HP0, HG0⟩
  case round =>
    obtain ⟨ns, nr, rfl, rfl, h1, h2, h3, HT, HD, HP, HG⟩ := hrel
    by_cases hlt : ns < nr
    · have hlt2 : (ns : Int) < (nr : Int) := by omega
      obtain ⟨cc, hcc⟩ : ∃ cc : Nat, ((ns : Int) + (nr : Int)) / 2 = (cc : Int) := ⟨(ns + nr) / 2, by omega⟩
      have hc1 : ns ≤ cc := by omega
      have hc2 : cc < nr := by omega
      obtain ⟨qq, hqq⟩ : ∃ qq : Nat, (nn : Int) - 1 - (cc : Int) = (qq : Int) := ⟨nn - 1 - cc, by have := HLH.out; have := HM.out; have := HZ.out; have := HF.out; omega⟩
      have HQ : Hid (qq = nn - 1 - cc ∧ m ≤ qq ∧ qq < b ∧ a ≤ cc ∧ cc < m) := Lib.hid (by have := HLH.out; have := HM.out; omega)
      have tx : cc - a < X.length := by have := HQ.out; have := HF.out; omega
      have ty : qq - m < Y.length := by have := HQ.out; have := HF.out; omega
      obtain ⟨x, hx⟩ : ∃ x, X[cc - a] = x := ⟨_, rfl⟩
      obtain ⟨y, hy⟩ : ∃ y, Y[qq - m] = y := ⟨_, rfl⟩
      have hxo : X[cc - a]? = some x := by rw [List.getElem?_eq_getElem tx, hx]
      have hyo : Y[qq - m]? = some y := by rw [List.getElem?_eq_getElem ty, hy]
      have e1 : (L ++ (X ++ (Y ++ R)))[cc]? = some x := by
        rw [show cc = L.length + (cc - a) by have := HQ.out; have := HF.out; omega, List.getElem?_append_right (by omega), Nat.add_sub_cancel_left, List.getElem?_append_left tx]
        exact hxo
      have e2 : (L ++ (X ++ (Y ++ R)))[qq]? = some y := by
        rw [show qq = L.length + (X.length + (qq - m)) by have := HQ.out; have := HF.out; omega, List.getElem?_append_right (by omega), Nat.add_sub_cancel_left, List.getElem?_append_right (by omega), Nat.add_sub_cancel_left, List.getElem?_append_left ty]
        exact hyo
      have hlx : leafP x := HX.out x (by rw [← hx]; exact List.getElem_mem tx)
      have hly : leafP y := HY.out y (by rw [← hy]; exact List.getElem_mem ty)
      obtain ⟨hi1, e1⟩ := List.getElem?_eq_some_iff.1 e1
      obtain ⟨hi2, e2⟩ := List.getElem?_eq_some_iff.1 e2
      have HT1 := HP.out.ten cc hi1
      have HT2 := HP.out.ten qq hi2
      rw [e1] at HT1
      rw [e2] at HT2
      obtain ⟨x0, x1, x2, x3, x4, x5, x6, x7, x8, x9⟩ := HT1
      obtain ⟨y0, y1, y2, y3, y4, y5, y6, y7, y8, y9⟩ := HT2
      have hcN : (cc : Int) < (N : Int) := by have := HQ.out; have := HF.out; omega
      have hqN : (qq : Int) < (N : Int) := by have := HQ.out; have := HF.out; omega
      have hw0 : IntKind.i64.wrap (qq : Int) = (qq : Int) := by rw [IntKind.wrap_i64]; omega
      have hw1 : IntKind.i64.wrap ((nn : Int) - 1 - (cc : Int)) = (qq : Int) := by rw [hqq]; exact hw0
      have hw2 : wrap64 ((nn : Int) - 1 - (cc : Int)) = (qq : Int) := by rw [hqq, wrap64_eq]; omega
      have hw3 : wrap64 (qq : Int) = (qq : Int) := by rw [wrap64_eq]; omega
      have HLX := Lib.hid hlx
      have HLY := Lib.hid hly
      have HXO := Lib.hid hxo
      have HYO := Lib.hid hyo
      clear tx ty hx hy hxo hyo hlx hly e1 e2 hi1 hi2
      go_upto_region 35 with fail
      clear hcc
      go_still_tail 11, (by kernel_rfl)
      change wpList _ _ _ _ _ wr.drew
      go_wp2_with fail
      refine (keyCmp y x HLY.out HLX.out wr.drew).mono ?_
      rintro e w1 ⟨rfl, hb1⟩
      clear x0 x1 x2 x3 x4 x5 x6 x7 x8 x9 y0 y1 y2 y3 y4 y5 y6 y7 y8 y9
      have HP3 := Lib.hid (show PRow w1 g (L ++ (X ++ (Y ++ R))) rest from Blk.below (show Blk wr.drew g _ _ from HP.out) hb1 (PRow.lt HP.out))
      have HG3 := Lib.hid (HG.out.drew.below hb1 (Nat.le_refl _))
      clear hb1 hw0 hw1 hw2 hw3 hqq hcN hqN
      by_cases hc : kc y x < 0
      · have qc : decide (kc y x < 0) = true := decide_eq_true hc
        have HC := Lib.hid hc
        clear hc
        go_wp2_with fail
        go_roundw
        case rel => exact ⟨ns, cc, rfl, rfl, h1, hc1, by omega, HT, Lib.hid (.inr ⟨x, y, HXO.out, by rw [← HQ.out.1]; exact HYO.out, HC.out⟩), HP3, HG3⟩
        case measure => simp [intOf]; omega
      · have qc : decide (kc y x < 0) = false := decide_eq_false hc
        have HC := Lib.hid (kc_le hc)
        clear hc
        go_wp2_with fail
        go_roundw
        case rel => exact ⟨cc + 1, nr, by go_num, rfl, by omega, by omega, h3, Lib.hid (.inr ⟨x, y, by rw [Nat.add_sub_cancel]; exact HXO.out, by rw [show nn - (cc + 1) = qq by have := HQ.out; omega]; exact HYO.out, HC.out⟩), HD, HP3, HG3⟩
        case measure => simp [intOf]; omega
    · obtain rfl : ns = nr := by omega
      obtain ⟨en, hen⟩ : ∃ en : Nat, (nn : Int) - (ns : Int) = (en : Int) := ⟨nn - ns, by have := HLH.out; have := HM.out; omega⟩
      have HEN : Hid (en = nn - ns ∧ m ≤ en ∧ en ≤ b ∧ a ≤ ns ∧ ns ≤ m ∧ ns ≤ mid ∧ mid ≤ en ∧ ns + en = mid + m) := Lib.hid (by have := HLH.out; have := HM.out; omega)
      have hen2 : en ≤ 100000 := by have := HEN.out; omega
      obtain ⟨X1, hX1⟩ : ∃ X1, X.take (ns - a) = X1 := ⟨_, rfl⟩
      obtain ⟨X2, hX2⟩ : ∃ X2, X.drop (ns - a) = X2 := ⟨_, rfl⟩
      obtain ⟨Y1, hY1⟩ : ∃ Y1, Y.take (en - m) = Y1 := ⟨_, rfl⟩
      obtain ⟨Y2, hY2⟩ : ∃ Y2, Y.drop (en - m) = Y2 := ⟨_, rfl⟩
      have hXX : X = X1 ++ X2 := by rw [← hX1, ← hX2, List.take_append_drop]
      have hYY : Y = Y1 ++ Y2 := by rw [← hY1, ← hY2, List.take_append_drop]
      have HLEN : Hid (X1.length = ns - a ∧ X2.length = m - ns ∧ Y1.length = en - m ∧ Y2.length = b - en) := Lib.hid (by
        have := HF.out
        have := HEN.out
        rw [← hX1, ← hX2, ← hY1, ← hY2, List.length_take, List.length_drop, List.length_take, List.length_drop]
        omega)
      have HXY : Hid (X = X1 ++ X2 ∧ Y = Y1 ++ Y2) := Lib.hid ⟨hXX, hYY⟩
      have HC1 : Hid (∀ p ∈ X1, ∀ q ∈ Y2, kle p q) := Lib.hid (by
        intro p hp q hq
        rcases HT.out with h | ⟨x, y, hx, hy, hxy⟩
        · have h9 := HLEN.out
          have h8 := HLH.out
          have h7 := HEN.out
          have h6 := HF.out
          rcases h8.2.2.2.2.2.1 with h5 | h5
          · have : X1 = [] := List.length_eq_zero_iff.1 (by omega)
            rw [this] at hp; cases hp
          · have : Y2 = [] := List.length_eq_zero_iff.1 (by omega)
            rw [this] at hq; cases hq
        · have h9 := HLEN.out
          have h0 : 0 < ns - a := by
            have : 0 < X1.length := List.length_pos_iff.2 (by rintro rfl; cases hp)
            omega
          rw [← hX1] at hp
          rw [← hY2] at hq
          have k1 : kle p x := take_last HSX.out h0 (by rw [show ns - a - 1 = ns - 1 - a by omega]; exact hx) hp
          have k2 : kle y q := drop_first HSY.out (by rw [show en - m = nn - ns - m by have := HEN.out; omega]; exact hy) hq
          exact kle_trans (kle_trans k1 hxy) k2)
      have HC2 : Hid (∀ p ∈ Y1, ∀ q ∈ X2, kle p q) := Lib.hid (by
        intro p hp q hq
        rcases HD.out with h | ⟨x, y, hx, hy, hxy⟩
        · have h9 := HLEN.out
          have h8 := HLH.out
          have h7 := HEN.out
          have h6 := HF.out
          rcases h8.2.2.2.2.2.2 with h5 | h5
          · have : X2 = [] := List.length_eq_zero_iff.1 (by omega)
            rw [this] at hq; cases hq
          · have : Y1 = [] := List.length_eq_zero_iff.1 (by omega)
            rw [this] at hp; cases hp
        · have h9 := HLEN.out
          have h0 : 0 < en - m := by
            have : 0 < Y1.length := List.length_pos_iff.2 (by rintro rfl; cases hp)
            omega
          rw [← hX2] at hq
          rw [← hY1] at hp
          have k1 : kle p y := take_last HSY.out h0 (by rw [show en - m - 1 = nn - 1 - ns - m by have := HEN.out; omega]; exact hy) hp
          have k2 : kle x q := drop_first HSX.out hx hq
          exact kle_trans (kle_trans k1 (kc_lt hxy)) k2)
      have HPd : Hid (PRow wr g (L ++ (X1 ++ (X2 ++ (Y1 ++ (Y2 ++ R))))) rest) := Lib.hid (by have h := HP.out; rw [hXX, hYY] at h; simp only [List.append_assoc] at h; exact h)
      clear hX1 hX2 hY1 hY2 hXX hYY hlt HT HD HP
      go_upto_region 39 with fail
      go_cut [185] from 178 (fun z wx => ∃ q : Bool, z = .bool q ∧ Hid (Two q ns m m en) ∧ Hid (PRow wx g (L ++ (X1 ++ (X2 ++ (Y1 ++ (Y2 ++ R))))) rest) ∧ Hid (Gr g w wx))
      case first =>
        have XP := HPd
        have XG := HG
        by_cases h1 : ns < m
        · by_cases h2 : m < en
          · have H12 : Hid (Two true ns m m en) := Lib.hid (two_yes ⟨h1, h2⟩)
            have d1 : decide ((ns : Int) < (m : Int)) = true := decide_eq_true (by omega)
            have e1 : decide (ns < m) = true := decide_eq_true (by omega)
            have i1 : (ns : Int) < (m : Int) := by omega
            have d2 : decide ((m : Int) < (en : Int)) = true := decide_eq_true (by omega)
            have e2 : decide (m < en) = true := decide_eq_true (by omega)
            have i2 : (m : Int) < (en : Int) := by omega
            go_wp2_with fail
            go_meet
            case rel => exact ⟨true, rfl, H12, XP, XG⟩
          · have H12 : Hid (Two false ns m m en) := Lib.hid (two_no (by omega))
            have d1 : decide ((ns : Int) < (m : Int)) = true := decide_eq_true (by omega)
            have e1 : decide (ns < m) = true := decide_eq_true (by omega)
            have i1 : (ns : Int) < (m : Int) := by omega
            have d2 : decide ((m : Int) < (en : Int)) = false := decide_eq_false (by omega)
            have e2 : decide (m < en) = false := decide_eq_false (by omega)
            have i2 : (en : Int) ≤ (m : Int) := by omega
            go_wp2_with fail
            go_meet
            case rel => exact ⟨false, rfl, H12, XP, XG⟩
        · have H12 : Hid (Two false ns m m en) := Lib.hid (two_no (by omega))
          have d1 : decide ((ns : Int) < (m : Int)) = false := decide_eq_false (by omega)
          have e1 : decide (ns < m) = false := decide_eq_false (by omega)
          have i1 : (m : Int) ≤ (ns : Int) := by omega
          go_wp2_with fail
          go_meet
          case rel => exact ⟨false, rfl, H12, XP, XG⟩
      case rest =>
      obtain ⟨q, rfl, HQ1, HP1, HG1⟩ := hcut
      clear HPd HG
      go_upto_if 185 with fail
      go_cut [24] from 186 (fun y wx => y = .int .i64 (en : Int) ∧ Hid (PRow wx g (L ++ (X1 ++ (Y1 ++ (X2 ++ (Y2 ++ R))))) rest) ∧ Hid (Gr g w wx))
      case first =>
        cases q with
        | true =>
          have HRO := Lib.hid (fun (za zm zb : Int) (e1 : za = ((L ++ X1).length : Int)) (e2 : zm = ((L ++ X1).length : Int) + X2.length) (e3 : zb = ((L ++ X1).length : Int) + X2.length + Y1.length) => rotateZ g c (.func (Fn.func 76) #[] #[]) (L ++ X1) X2 Y1 (Y2 ++ R) rest wc za zm zb N (by rw [List.append_assoc]; exact HP1.out) e1 e2 e3 (by have := HLEN.out; have := HF.out; have := HEN.out; rw [List.length_append, List.length_append]; omega) hd (by have := HLEN.out; have := HQ1.out.1 rfl; omega) (by have := HLEN.out; have := HQ1.out.1 rfl; omega))
          go_wp2_with fail
          refine (HRO.out _ _ _ (by have := HLEN.out; have := HF.out; have := HEN.out; rw [List.length_append]; omega) (by have := HLEN.out; have := HF.out; have := HEN.out; rw [List.length_append]; omega) (by have := HLEN.out; have := HF.out; have := HEN.out; rw [List.length_append]; omega)).mono ?_
          rintro e w1 ⟨rfl, hp, hg⟩
          have HP2 : Hid (PRow w1 g (L ++ (X1 ++ (Y1 ++ (X2 ++ (Y2 ++ R))))) rest) := Lib.hid (by rw [List.append_assoc] at hp; exact hp)
          have HG2 := Lib.hid (HG1.out.trans hg)
          clear hp hg HRO
          go_wp2_with fail
          go_meet
          case rel => exact ⟨rfl, HP2, HG2⟩
        | false =>
          have HP2 : Hid (PRow wc g (L ++ (X1 ++ (Y1 ++ (X2 ++ (Y2 ++ R))))) rest) := Lib.hid (by
            have h := HP1.out
            have h1 := HQ1.out.2 rfl
            have h2 := HLEN.out
            have h3 := HEN.out
            rcases Nat.lt_or_ge ns m with h4 | h4
            · have : Y1 = [] := List.length_eq_zero_iff.1 (by omega)
              rw [this] at h ⊢; simpa using h
            · have : X2 = [] := List.length_eq_zero_iff.1 (by omega)
              rw [this] at h ⊢; simpa using h)
          go_wp2_with fail
          go_meet
          case rel => exact ⟨rfl, HP2, HG1⟩
      case rest =>
      obtain ⟨rfl, HP2, HG2⟩ := hcut
      clear HP1 HG1
      go_upto_region 41 with fail
      go_cut [199] from 192 (fun z wx => ∃ q : Bool, z = .bool q ∧ Hid (Two q a ns ns mid) ∧ Hid (PRow wx g (L ++ (X1 ++ (Y1 ++ (X2 ++ (Y2 ++ R))))) rest) ∧ Hid (Gr g w wx))
      case first =>
        have XP := HP2
        have XG := HG2
        by_cases h1 : a < ns
        · by_cases h2 : ns < mid
          · have H12 : Hid (Two true a ns ns mid) := Lib.hid (two_yes ⟨h1, h2⟩)
            have d1 : decide ((a : Int) < (ns : Int)) = true := decide_eq_true (by omega)
            have e1 : decide (a < ns) = true := decide_eq_true (by omega)
            have i1 : (a : Int) < (ns : Int) := by omega
            have d2 : decide ((ns : Int) < (mid : Int)) = true := decide_eq_true (by omega)
            have e2 : decide (ns < mid) = true := decide_eq_true (by omega)
            have i2 : (ns : Int) < (mid : Int) := by omega
            go_wp2_with fail
            go_meet
            case rel => exact ⟨true, rfl, H12, XP, XG⟩
          · have H12 : Hid (Two false a ns ns mid) := Lib.hid (two_no (by omega))
            have d1 : decide ((a : Int) < (ns : Int)) = true := decide_eq_true (by omega)
            have e1 : decide (a < ns) = true := decide_eq_true (by omega)
            have i1 : (a : Int) < (ns : Int) := by omega
            have d2 : decide ((ns : Int) < (mid : Int)) = false := decide_eq_false (by omega)
            have e2 : decide (ns < mid) = false := decide_eq_false (by omega)
            have i2 : (mid : Int) ≤ (ns : Int) := by omega
            go_wp2_with fail
            go_meet
            case rel => exact ⟨false, rfl, H12, XP, XG⟩
        · have H12 : Hid (Two false a ns ns mid) := Lib.hid (two_no (by omega))
          have d1 : decide ((a : Int) < (ns : Int)) = false := decide_eq_false (by omega)
          have e1 : decide (a < ns) = false := decide_eq_false (by omega)
          have i1 : (ns : Int) ≤ (a : Int) := by omega
          go_wp2_with fail
          go_meet
          case rel => exact ⟨false, rfl, H12, XP, XG⟩
      case rest =>
      obtain ⟨q2, rfl, HQ2, HP3, HG3⟩ := hcut
      clear HP2 HG2
      go_upto_if 199 with fail
      go_cut [24] from 200 (fun y wx => ∃ Z1 : List PEnt, y = .int .i64 (en : Int) ∧ Hid (Z1.Perm (X1 ++ Y1) ∧ Z1.Pairwise kle) ∧ Hid (PRow wx g (L ++ (Z1 ++ (X2 ++ (Y2 ++ R)))) rest) ∧ Hid (Gr g w wx))
      case first =>
        have HS1 : Hid (X1.Pairwise kle ∧ Y1.Pairwise kle) := Lib.hid (by
          have h1 := HSX.out
          have h2 := HSY.out
          rw [HXY.out.1] at h1
          rw [HXY.out.2] at h2
          exact ⟨(List.pairwise_append.1 h1).1, (List.pairwise_append.1 h2).1⟩)
        cases q2 with
        | true =>
          have HRO := Lib.hid (HIH.out g c L X1 Y1 (X2 ++ (Y2 ++ R)) rest wc a ns mid N HP3.out (fun x hx => HX.out x (by rw [HXY.out.1]; simp [hx])) (fun y hy => HY.out y (by rw [HXY.out.2]; simp [hy])) HS1.out.1 HS1.out.2 (by have := HLEN.out; have := HQ2.out.1 rfl; omega) (by have := HLEN.out; have := HQ2.out.1 rfl; have := HEN.out; omega) (by have := HLEN.out; have := HEN.out; have := HM.out; have := HZ.out; have := HF.out; omega) HF.out.1 (by have := HLEN.out; have := HF.out; have := HEN.out; omega) (by have := HLEN.out; have := HF.out; have := HEN.out; omega) (by have := HLEN.out; have := HF.out; have := HEN.out; rw [List.length_append, List.length_append]; omega) hd)
          go_wp2_with fail
          refine HRO.out.mono ?_
          rintro e w1 ⟨rfl, Z1, z1, z2, hp, hg⟩
          have HZ1 := Lib.hid (And.intro z1 z2)
          have HP4 := Lib.hid hp
          have HG4 := Lib.hid (HG3.out.trans hg)
          clear hp hg z1 z2 HRO
          go_wp2_with fail
          go_meet
          case rel => exact ⟨Z1, rfl, HZ1, HP4, HG4⟩
        | false =>
          have HZ1 : Hid ((X1 ++ Y1).Perm (X1 ++ Y1) ∧ (X1 ++ Y1).Pairwise kle) := Lib.hid (by
            refine ⟨List.Perm.refl _, ?_⟩
            have h1 := HQ2.out.2 rfl
            have h2 := HLEN.out
            have h3 := HEN.out
            rcases Nat.lt_or_ge a ns with h4 | h4
            · have : Y1 = [] := List.length_eq_zero_iff.1 (by omega)
              rw [this, List.append_nil]; exact HS1.out.1
            · have : X1 = [] := List.length_eq_zero_iff.1 (by omega)
              rw [this, List.nil_append]; exact HS1.out.2)
          have HP4 : Hid (PRow wc g (L ++ ((X1 ++ Y1) ++ (X2 ++ (Y2 ++ R)))) rest) := Lib.hid (by rw [List.append_assoc]; exact HP3.out)
          go_wp2_with fail
          go_meet
          case rel => exact ⟨X1 ++ Y1, rfl, HZ1, HP4, HG3⟩
      case rest =>
      obtain ⟨Z1, rfl, HZ1, HP4, HG4⟩ := hcut
      clear HP3 HG3
      go_upto_region 43 with fail
      go_cut [213] from 206 (fun z wx => ∃ q : Bool, z = .bool q ∧ Hid (Two q mid en en b) ∧ Hid (PRow wx g (L ++ (Z1 ++ (X2 ++ (Y2 ++ R)))) rest) ∧ Hid (Gr g w wx))
      case first =>
        have XP := HP4
        have XG := HG4
        by_cases h1 : mid < en
        · by_cases h2 : en < b
          · have H12 : Hid (Two true mid en en b) := Lib.hid (two_yes ⟨h1, h2⟩)
            have d1 : decide ((mid : Int) < (en : Int)) = true := decide_eq_true (by omega)
            have e1 : decide (mid < en) = true := decide_eq_true (by omega)
            have i1 : (mid : Int) < (en : Int) := by omega
            have d2 : decide ((en : Int) < (b : Int)) = true := decide_eq_true (by omega)
            have e2 : decide (en < b) = true := decide_eq_true (by omega)
            have i2 : (en : Int) < (b : Int) := by omega
            go_wp2_with fail
            go_meet
            case rel => exact ⟨true, rfl, H12, XP, XG⟩
          · have H12 : Hid (Two false mid en en b) := Lib.hid (two_no (by omega))
            have d1 : decide ((mid : Int) < (en : Int)) = true := decide_eq_true (by omega)
            have e1 : decide (mid < en) = true := decide_eq_true (by omega)
            have i1 : (mid : Int) < (en : Int) := by omega
            have d2 : decide ((en : Int) < (b : Int)) = false := decide_eq_false (by omega)
            have e2 : decide (en < b) = false := decide_eq_false (by omega)
            have i2 : (b : Int) ≤ (en : Int) := by omega
            go_wp2_with fail
            go_meet
            case rel => exact ⟨false, rfl, H12, XP, XG⟩
        · have H12 : Hid (Two false mid en en b) := Lib.hid (two_no (by omega))
          have d1 : decide ((mid : Int) < (en : Int)) = false := decide_eq_false (by omega)
          have e1 : decide (mid < en) = false := decide_eq_false (by omega)
          have i1 : (en : Int) ≤ (mid : Int) := by omega
          go_wp2_with fail
          go_meet
          case rel => exact ⟨false, rfl, H12, XP, XG⟩
      case rest =>
      obtain ⟨q3, rfl, HQ3, HP5, HG5⟩ := hcut
      clear HP4 HG4
      have HS2 : Hid (X2.Pairwise kle ∧ Y2.Pairwise kle ∧ (X1 ++ X2).Pairwise kle ∧ (Y1 ++ Y2).Pairwise kle) := Lib.hid (by
        have h1 := HSX.out
        have h2 := HSY.out
        rw [HXY.out.1] at h1
        rw [HXY.out.2] at h2
        exact ⟨(List.pairwise_append.1 h1).2.1, (List.pairwise_append.1 h2).2.1, h1, h2⟩)
      have HLZ : Hid (Z1.length = mid - a) := Lib.hid (by have := HZ1.out.1.length_eq; rw [List.length_append] at this; have := HLEN.out; have := HEN.out; omega)
      go_upto_if 213 with fail
      cases q3 with
      | true =>
        have HRO := Lib.hid (HIH.out g c (L ++ Z1) X2 Y2 R rest wc mid en b N (by rw [List.append_assoc]; exact HP5.out) (fun x hx => HX.out x (by rw [HXY.out.1]; simp [hx])) (fun y hy => HY.out y (by rw [HXY.out.2]; simp [hy])) HS2.out.1 HS2.out.2.1 (by have := HLEN.out; have := HQ3.out.1 rfl; have := HEN.out; omega) (by have := HLEN.out; have := HQ3.out.1 rfl; have := HEN.out; omega) (by have := HLEN.out; have := HEN.out; have := HM.out; have := HZ.out; have := HF.out; omega) (by have := HLZ.out; have := HF.out; have := HM.out; rw [List.length_append]; omega) (by have := HLZ.out; have := HF.out; have := HM.out; have := HLEN.out; have := HEN.out; rw [List.length_append]; omega) (by have := HLZ.out; have := HF.out; have := HM.out; have := HLEN.out; have := HEN.out; rw [List.length_append]; omega) (by have := HLZ.out; have := HF.out; have := HM.out; have := HLEN.out; have := HEN.out; rw [List.length_append]; omega) hd)
        go_wp2_with fail
        refine HRO.out.mono ?_
        rintro e w1 ⟨rfl, Z2, z1, z2, hp, hg⟩
        have HE9 := Lib.hid (merge_fin HZ1.out.1 HZ1.out.2 z1 z2 HS2.out.2.2.1 HS2.out.2.2.2 HC1.out HC2.out)
        have HP6 : Hid (PRow w1 g (L ++ ((Z1 ++ Z2) ++ R)) rest) := Lib.hid (by simp only [List.append_assoc] at hp ⊢; exact hp)
        have HG6 := Lib.hid (HG5.out.trans hg)
        clear hp hg z1 z2 HRO
        go_wp2_with fail
        first | go_end0 | refine bodyPost_ret (results_none rfl _ _ _) rfl ?_
        exact ⟨rfl, Z1 ++ Z2, by rw [HXY.out.1, HXY.out.2]; exact HE9.out.1, HE9.out.2, HP6.out, HG6.out⟩
      | false =>
        have HZ2 : Hid ((X2 ++ Y2).Pairwise kle) := Lib.hid (by
          have h1 := HQ3.out.2 rfl
          have h2 := HLEN.out
          have h3 := HEN.out
          rcases Nat.lt_or_ge mid en with h4 | h4
          · have : Y2 = [] := List.length_eq_zero_iff.1 (by omega)
            rw [this, List.append_nil]; exact HS2.out.1
          · have : X2 = [] := List.length_eq_zero_iff.1 (by omega)
            rw [this, List.nil_append]; exact HS2.out.2.1)
        have HE9 := Lib.hid (merge_fin HZ1.out.1 HZ1.out.2 (List.Perm.refl (X2 ++ Y2)) HZ2.out HS2.out.2.2.1 HS2.out.2.2.2 HC1.out HC2.out)
        have HP6 : Hid (PRow wc g (L ++ ((Z1 ++ (X2 ++ Y2)) ++ R)) rest) := Lib.hid (by have h := HP5.out; simp only [List.append_assoc] at h ⊢; exact h)
        go_wp2_with fail
        first | go_end0 | refine bodyPost_ret (results_none rfl _ _ _) rfl ?_
        exact ⟨rfl, Z1 ++ (X2 ++ Y2), by rw [HXY.out.1, HXY.out.2]; exact HE9.out.1, HE9.out.2, HP6.out, HG5.out⟩
end Go.Proofs.YtcjamnfboifjeaaDoor

/-
  slices.SortStableFunc over pairs.
-/
namespace Go.Proofs.YtcjamnfboifjeaaDoor
open Go.RowKit
set_option linter.unusedVariables false
set_option linter.unusedSimpArgs false
set_option maxRecDepth 100000

theorem symAll : ∀ n, SymSaid n
  | 0 => by
    intro g c L X Y R rest w a m b N _ _ _ _ _ h1 h2 h3
    omega
  | n + 1 => by
    intro g c L X Y R rest w a m b N hr hX hY sX sY h1 h2 h3 ha hm hb hN hd
    by_cases e1 : X.length = 1
    · obtain ⟨x, rfl⟩ := List.length_eq_one_iff.1 e1
      exact symA g c L x Y R rest w a m b N hr (hX x (by simp)) hY sY ha (by simpa using hm) (by simpa using hb) (by simpa using hN) hd
    · by_cases e2 : Y.length = 1
      · obtain ⟨y, rfl⟩ := List.length_eq_one_iff.1 e2
        exact symB g c L X y R rest w a m b N hr (hY y (by simp)) hX sX ha hm (by simpa using hb) (by simpa using hN) hd (by omega)
      · exact symC n (symAll n) g c L X Y R rest w a m b N hr hX hY sX sY (by omega) (by omega) h3 ha hm hb hN hd
/-- Every run of s, from the first on, is in order. -/
def Ch (s : Nat) (l : List PEnt) : Prop := ∀ k, ((l.drop (k * s)).take s).Pairwise kle
theorem Ch.nil (s : Nat) : Ch s [] := fun k => by simp
theorem Ch.all {s : Nat} {l : List PEnt} (h : Ch s l) (hl : l.length ≤ s) : l.Pairwise kle := by
  have h0 := h 0
  rw [Nat.zero_mul, List.drop_zero, List.take_of_length_le hl] at h0
  exact h0
theorem Ch.one {s : Nat} {X Q : List PEnt} (h : Ch s (X ++ Q)) (hX : X.length = s) : X.Pairwise kle ∧ Ch s Q := by
  constructor
  · have h0 := h 0
    rw [Nat.zero_mul, List.drop_zero, List.take_append_of_le_length (by omega), List.take_of_length_le (by omega)] at h0
    exact h0
  · intro k
    have hk := h (k + 1)
    rw [Nat.add_mul, Nat.one_mul, List.drop_append, List.drop_eq_nil_of_le (by omega), List.nil_append, show k * s + s - X.length = k * s by omega] at hk
    exact hk
theorem Ch.app {s j : Nat} {P Z : List PEnt} (h : Ch s P) (hP : P.length = s * j) (hZ : Z.Pairwise kle) (hl : Z.length ≤ s) : Ch s (P ++ Z) := by
  intro k
  rcases Nat.lt_or_ge k j with hk | hk
  · have h1 : k * s + s ≤ P.length := by rw [hP, Nat.mul_comm s j]; have := Nat.mul_le_mul_right s (show k + 1 ≤ j by omega); rw [Nat.add_mul, Nat.one_mul] at this; exact this
    rw [List.drop_append_of_le_length (by omega), List.take_append_of_le_length (by rw [List.length_drop]; omega)]
    exact h k
  · have h1 : P.length ≤ k * s := by rw [hP, Nat.mul_comm s j]; exact Nat.mul_le_mul_right s hk
    rw [List.drop_append, List.drop_eq_nil_of_le h1, List.nil_append]
    exact (hZ.sublist (List.drop_sublist _ _)).sublist (List.take_sublist _ _)
/-- The first loop: runs of 20. -/
def St1 (g : Nat) (D : List PEnt) (rest : List Value) (w : World) (a b : Value) (wr : World) : Prop :=
  ∃ (P U : List PEnt) (an bn : Nat), a = .int .i64 (an : Int) ∧ b = .int .i64 (bn : Int) ∧ an ≤ 100020 ∧ bn ≤ 100040 ∧ Hid (an = P.length ∧ bn = an + 20 ∧ an ≤ D.length ∧ ∃ j, P.length = 20 * j) ∧ Hid (Ch 20 P) ∧ Hid ((P ++ U).Perm D) ∧ Hid (PRow wr g (P ++ U) rest) ∧ Hid (Gr g w wr)
/-- The outer loop: runs of s. -/
def St2 (g : Nat) (D : List PEnt) (rest : List Value) (w : World) (s a b m : Value) (wr : World) : Prop :=
  ∃ (l : List PEnt) (sn : Nat), s = .int .i64 (sn : Int) ∧ sn ≤ 200000 ∧ 0 < sn ∧ Hid (Ch sn l) ∧ Hid (l.Perm D) ∧ Hid (PRow wr g l rest) ∧ Hid (Gr g w wr)
/-- The inner loop: runs of s, two by two, to runs of 2 s. -/
def St3 (g sn : Nat) (D : List PEnt) (rest : List Value) (w : World) (a b : Value) (wr : World) : Prop :=
  ∃ (P Q : List PEnt) (an bn : Nat), a = .int .i64 (an : Int) ∧ b = .int .i64 (bn : Int) ∧ an ≤ 100020 ∧ bn ≤ 600000 ∧ Hid (an = P.length ∧ bn = an + 2 * sn ∧ an ≤ D.length ∧ ∃ j, P.length = 2 * sn * j) ∧ Hid (Ch (2 * sn) P) ∧ Hid (Ch sn Q) ∧ Hid ((P ++ Q).Perm D) ∧ Hid (PRow wr g (P ++ Q) rest) ∧ Hid (Gr g w wr)
set_option maxHeartbeats 8000000 in
theorem stable (g c : Nat) (D : List PEnt) (rest : List Value) (w : World) (N : Nat) (hr : PRow w g D rest) (hD : ∀ x ∈ D, leafP x) (hN : N = D.length) (hd : N ≤ 100000) :
    Calls Tryd.prog 92 #[.slice (some ⟨g, 0, none⟩) N c, .int .i64 (N : Int), .func (Fn.func 76) #[] #[]] w fun e w' => e = .returned (.tuple #[]) ∧ ∃ Z, Z.Perm D ∧ Z.Pairwise kle ∧ PRow w' g Z rest ∧ Gr g w w' := by
  have HR := Lib.hid hr
  have HD := Lib.hid hD
  have HN := Lib.hid hN
  clear hr hD hN
  go_enter Tryd.func92, Tryd.ntmps92
  go_wp2_with fail
  go_loopw [7, 8] (fun a b wr => St1 g D rest w a b wr) (fun a _ _ => N + 20 - (intOf a).toNat)
  case atStart => exact ⟨[], D, 0, 20, rfl, rfl, by omega, by omega, Lib.hid ⟨rfl, rfl, Nat.zero_le _, 0, rfl⟩, Lib.hid (Ch.nil 20), Lib.hid (List.Perm.refl _), HR, Lib.hid (Gr.refl _ _)⟩
  case round =>
    obtain ⟨P, U, an, bn, rfl, rfl, ha, hb, HI, HC, HPM, HP, HG⟩ := hrel
    have HLEN : Hid (P.length + U.length = N) := Lib.hid (by have := HPM.out.length_eq; rw [List.length_append] at this; have := HN.out; omega)
    by_cases hle : bn ≤ N
    · have hle2 : (bn : Int) ≤ (N : Int) := by omega
      obtain ⟨X, U', hU, hX⟩ : ∃ X U', U = X ++ U' ∧ X.length = 20 := ⟨U.take 20, U.drop 20, (List.take_append_drop _ _).symm, by rw [List.length_take]; have := HLEN.out; have := HI.out; omega⟩
      have HU := Lib.hid (And.intro hU hX)
      have HCALL := Lib.hid (insSort g c P X U' rest wr an bn N (by have h := HP.out; rw [hU] at h; exact h) (fun x hx => HD.out x (HPM.out.subset (by rw [hU]; simp [hx]))) HI.out.1 (by have := HI.out; omega) (by have := HLEN.out; rw [hU, List.length_append] at this; omega) hd)
      clear hU hX
      go_wp2_with fail
      refine HCALL.out.mono ?_
      rintro e w1 ⟨rfl, Z, z1, z2, z3, z4⟩
      have HZ := Lib.hid (And.intro z1 z2)
      have HP1 : Hid (PRow w1 g ((P ++ Z) ++ U') rest) := Lib.hid (by rw [List.append_assoc]; exact z3)
      have HG1 := Lib.hid (HG.out.trans z4)
      clear z1 z2 z3 z4 HCALL
      have HLZ : Hid (Z.length = 20) := Lib.hid (HZ.out.1.length_eq.trans HU.out.2)
      go_wp2_with fail
      go_roundw
      case rel => exact ⟨P ++ Z, U', bn, bn + 20, rfl, by go_num, by omega, by omega, Lib.hid (by have h1 := HI.out; have h2 := HLZ.out; have h3 := HN.out; obtain ⟨j, hj⟩ := h1.2.2.2; rw [List.length_append]; exact ⟨by omega, rfl, by omega, j + 1, by omega⟩), Lib.hid (by obtain ⟨j, hj⟩ := HI.out.2.2.2; exact HC.out.app hj HZ.out.2 (by have := HLZ.out; omega)), Lib.hid (by
        have h := HPM.out
        rw [HU.out.1] at h
        refine List.Perm.trans ?_ h
        rw [List.append_assoc]
        exact List.Perm.append_left P (List.Perm.append_right U' HZ.out.1)), HP1, HG1⟩
      case measure => simp [intOf]; have := HI.out; omega
    · have hgt : (N : Int) < (bn : Int) := by omega
      have hgt2 : ¬ (bn : Int) ≤ (N : Int) := by omega
      have HCALL := Lib.hid (insSort g c P U [] rest wr an N N (by rw [List.append_nil]; exact HP.out) (fun x hx => HD.out x (HPM.out.subset (by simp [hx]))) HI.out.1 (by have := HLEN.out; omega) (by have := HLEN.out; simp; omega) hd)
      have HLU : Hid (U.length ≤ 20) := Lib.hid (by have := HLEN.out; have := HI.out; omega)
      clear hle
      go_wp2_with fail
      refine HCALL.out.mono ?_
      rintro e w1 ⟨rfl, Z, z1, z2, z3, z4⟩
      have HC1 : Hid (Ch 20 (P ++ Z)) := Lib.hid (by obtain ⟨j, hj⟩ := HI.out.2.2.2; exact HC.out.app hj z2 (by have := HLU.out; have := z1.length_eq; omega))
      have HPM1 : Hid ((P ++ Z).Perm D) := Lib.hid ((List.Perm.append_left P z1).trans HPM.out)
      have HP1 : Hid (PRow w1 g (P ++ Z) rest) := Lib.hid (by rw [List.append_nil] at z3; exact z3)
      have HG1 := Lib.hid (HG.out.trans z4)
      clear z1 z2 z3 z4 HCALL HC HPM HP HG HLEN HLU HI
      go_wp2_with fail
      go_loopw [6, 7, 8, 9] (fun s a b m wr => St2 g D rest w s a b m wr) (fun s _ _ _ _ => N + 1 - (intOf s).toNat)
      case atStart => exact ⟨P ++ Z, 20, rfl, by omega, by omega, HC1, HPM1, HP1, HG1⟩
      case round =>
        obtain ⟨l, sn, rfl, hs, hs0, HC, HPM, HP, HG⟩ := hrel
        have HLL : Hid (l.length = N) := Lib.hid (by have := HPM.out.length_eq; have := HN.out; omega)
        by_cases hlt : sn < N
        · have hlt2 : (sn : Int) < (N : Int) := by omega
          go_wp2_with fail
          go_loopw [7, 8] (fun a b wr => St3 g sn D rest w a b wr) (fun a _ _ => N + 2 * sn - (intOf a).toNat)
          case atStart => exact ⟨[], l, 0, 2 * sn, rfl, by go_num, by omega, by omega, Lib.hid ⟨rfl, by omega, Nat.zero_le _, 0, by simp⟩, Lib.hid (Ch.nil _), HC, HPM, HP, HG⟩
          case round =>
            obtain ⟨P', Q, an2, bn2, rfl, rfl, ha3, hb3, HI3, HC3, HQ3, HPM3, HP3, HG3⟩ := hrel
            have HLQ : Hid (P'.length + Q.length = N) := Lib.hid (by have := HPM3.out.length_eq; rw [List.length_append] at this; have := HN.out; omega)
            have hwz : IntKind.i64.wrap ((an2 : Int) + (sn : Int)) = (an2 : Int) + (sn : Int) := by rw [IntKind.wrap_i64]; omega
            by_cases hle3 : bn2 ≤ N
            · have hle4 : (bn2 : Int) ≤ (N : Int) := by omega
              obtain ⟨X, Q1, hQ1, hX1⟩ : ∃ X Q1, Q = X ++ Q1 ∧ X.length = sn := ⟨Q.take sn, Q.drop sn, (List.take_append_drop _ _).symm, by rw [List.length_take]; have := HLQ.out; have := HI3.out; omega⟩
              obtain ⟨Y, Q2, hQ2, hY1⟩ : ∃ Y Q2, Q1 = Y ++ Q2 ∧ Y.length = sn := ⟨Q1.take sn, Q1.drop sn, (List.take_append_drop _ _).symm, by rw [List.length_take]; have h1 := HLQ.out; have h2 := HI3.out; rw [hQ1, List.length_append] at h1; omega⟩
              have HQS : Hid (Q = X ++ (Y ++ Q2) ∧ X.length = sn ∧ Y.length = sn ∧ 0 < sn) := Lib.hid ⟨by rw [hQ1, hQ2], hX1, hY1, hs0⟩
              have HSS : Hid (X.Pairwise kle ∧ Y.Pairwise kle ∧ Ch sn Q2) := Lib.hid (by
                have h := HQ3.out
                rw [hQ1] at h
                obtain ⟨k1, k2⟩ := h.one hX1
                rw [hQ2] at k2
                obtain ⟨k3, k4⟩ := k2.one hY1
                exact ⟨k1, k3, k4⟩)
              clear hQ1 hX1 hQ2 hY1
              have HCALL := Lib.hid (fun (zm : Int) (e : zm = (an2 : Int) + (sn : Int)) => (show Calls Tryd.prog 105 #[.slice (some ⟨g, 0, none⟩) N c, .int .i64 (an2 : Int), .int .i64 zm, .int .i64 (bn2 : Int), .func (Fn.func 76) #[] #[]] wr fun e w' => e = .returned (.tuple #[]) ∧ ∃ Z, Z.Perm (X ++ Y) ∧ Z.Pairwise kle ∧ PRow w' g (P' ++ (Z ++ Q2)) rest ∧ Gr g wr w' from by
                have h := symAll (sn + sn) g c P' X Y Q2 rest wr an2 (an2 + sn) bn2 N (by have h := HP3.out; rw [HQS.out.1] at h; simpa using h) (fun x hx => HD.out x (HPM3.out.subset (by rw [HQS.out.1]; simp [hx]))) (fun x hx => HD.out x (HPM3.out.subset (by rw [HQS.out.1]; simp [hx]))) HSS.out.1 HSS.out.2.1 (by have := HQS.out; omega) (by have := HQS.out; omega) (by have := HQS.out; omega) HI3.out.1 (by have := HQS.out; have := HI3.out; omega) (by have h1 := HQS.out; have h2 := HI3.out; have h3 := HLQ.out; have h4 := congrArg List.length h1.1; simp only [List.length_append, List.length_nil] at h4; omega) (by have h1 := HQS.out; have h2 := HI3.out; have h3 := HLQ.out; have h4 := congrArg List.length h1.1; simp only [List.length_append, List.length_nil] at h4; (try simp only [List.length_nil]); omega) hd
                rw [show ((an2 + sn : Nat) : Int) = zm by omega] at h
                exact h))
              clear hle3
              go_wp2_with fail
              refine (HCALL.out _ (by omega)).mono ?_
              rintro e w1 ⟨rfl, Z, z1, z2, z3, z4⟩
              have HZ := Lib.hid (And.intro z1 z2)
              have HP4 : Hid (PRow w1 g ((P' ++ Z) ++ Q2) rest) := Lib.hid (by rw [List.append_assoc]; exact z3)
              have HG4 := Lib.hid (HG3.out.trans z4)
              clear z1 z2 z3 z4 HCALL
              have HLZ : Hid (Z.length = 2 * sn) := Lib.hid (by have h1 := HZ.out.1.length_eq; rw [List.length_append] at h1; have := HQS.out; omega)
              go_wp2_with fail
              go_roundw
              case rel => exact ⟨P' ++ Z, Q2, bn2, bn2 + 2 * sn, rfl, by go_num, by omega, by omega, Lib.hid (by have h1 := HI3.out; have h2 := HLZ.out; have h3 := HN.out; obtain ⟨j, hj⟩ := h1.2.2.2; rw [List.length_append]; exact ⟨by omega, rfl, by omega, j + 1, by rw [hj, h2, Nat.mul_add, Nat.mul_one]⟩), Lib.hid (by obtain ⟨j, hj⟩ := HI3.out.2.2.2; exact HC3.out.app hj HZ.out.2 (by have := HLZ.out; omega)), Lib.hid HSS.out.2.2, Lib.hid (by
                have h := HPM3.out
                rw [HQS.out.1] at h
                refine List.Perm.trans ?_ h
                rw [List.append_assoc]
                refine List.Perm.append_left P' ?_
                rw [← List.append_assoc]
                exact List.Perm.append_right Q2 HZ.out.1), HP4, HG4⟩
              case measure => simp [intOf]; have := HI3.out; omega
            · have hgt3 : (N : Int) < (bn2 : Int) := by omega
              have hgt4 : ¬ (bn2 : Int) ≤ (N : Int) := by omega
              have hQ2s : Hid (Q.length ≤ 2 * sn) := Lib.hid (by have := HLQ.out; have := HI3.out; omega)
              by_cases hm3 : an2 + sn < N
              · have hm4 : (an2 : Int) + (sn : Int) < (N : Int) := by omega
                obtain ⟨X, Y, hQ1, hX1⟩ : ∃ X Y, Q = X ++ Y ∧ X.length = sn := ⟨Q.take sn, Q.drop sn, (List.take_append_drop _ _).symm, by rw [List.length_take]; have := HLQ.out; have := HI3.out; omega⟩
                have HQS : Hid (Q = X ++ (Y ++ []) ∧ X.length = sn ∧ 0 < Y.length ∧ Y.length ≤ sn ∧ 0 < sn) := Lib.hid (by
                  have h1 := HLQ.out
                  have h2 := HI3.out
                  have h3 := hQ2s.out
                  rw [hQ1, List.length_append] at h1 h3
                  exact ⟨by rw [List.append_nil]; exact hQ1, hX1, by omega, by omega, hs0⟩)
                have HSS : Hid (X.Pairwise kle ∧ Y.Pairwise kle ∧ True) := Lib.hid (by
                  have h := HQ3.out
                  rw [hQ1] at h
                  obtain ⟨k1, k2⟩ := h.one hX1
                  exact ⟨k1, k2.all (by have := HQS.out; omega), trivial⟩)
                clear hQ1 hX1
                have HCALL := Lib.hid (fun (zm : Int) (e : zm = (an2 : Int) + (sn : Int)) => (show Calls Tryd.prog 105 #[.slice (some ⟨g, 0, none⟩) N c, .int .i64 (an2 : Int), .int .i64 zm, .int .i64 (N : Int), .func (Fn.func 76) #[] #[]] wr fun e w' => e = .returned (.tuple #[]) ∧ ∃ Z, Z.Perm (X ++ Y) ∧ Z.Pairwise kle ∧ PRow w' g (P' ++ (Z ++ [])) rest ∧ Gr g wr w' from by
                have h := symAll (sn + sn) g c P' X Y [] rest wr an2 (an2 + sn) N N (by have h := HP3.out; rw [HQS.out.1] at h; simpa using h) (fun x hx => HD.out x (HPM3.out.subset (by rw [HQS.out.1]; simp [hx]))) (fun x hx => HD.out x (HPM3.out.subset (by rw [HQS.out.1]; simp [hx]))) HSS.out.1 HSS.out.2.1 (by have := HQS.out; omega) (by have := HQS.out; omega) (by have := HQS.out; omega) HI3.out.1 (by have := HQS.out; have := HI3.out; omega) (by have h1 := HQS.out; have h2 := HI3.out; have h3 := HLQ.out; have h4 := congrArg List.length h1.1; simp only [List.length_append, List.length_nil] at h4; omega) (by have h1 := HQS.out; have h2 := HI3.out; have h3 := HLQ.out; have h4 := congrArg List.length h1.1; simp only [List.length_append, List.length_nil] at h4; (try simp only [List.length_nil]); omega) hd
                rw [show ((an2 + sn : Nat) : Int) = zm by omega] at h
                exact h))
                clear hle3 hm3
                go_wp2_with fail
                refine (HCALL.out _ (by omega)).mono ?_
                rintro e w1 ⟨rfl, Z, z1, z2, z3, z4⟩
                have HZ := Lib.hid (And.intro z1 z2)
                have HP4 : Hid (PRow w1 g (P' ++ Z) rest) := Lib.hid (by rw [List.append_nil] at z3; exact z3)
                have HG4 := Lib.hid (HG3.out.trans z4)
                clear z1 z2 z3 z4 HCALL
                have HLZ : Hid (Z.length ≤ 2 * sn) := Lib.hid (by have h1 := HZ.out.1.length_eq; rw [List.length_append] at h1; have := HQS.out; omega)
                go_wp2_with fail
                go_roundw
                case rel => exact ⟨P' ++ Z, 2 * sn, by go_num, by omega, by omega, Lib.hid (by obtain ⟨j, hj⟩ := HI3.out.2.2.2; exact HC3.out.app hj HZ.out.2 HLZ.out), Lib.hid (by
                  have h := HPM3.out
                  rw [HQS.out.1, List.append_nil] at h
                  exact (List.Perm.append_left P' HZ.out.1).trans h), HP4, HG4⟩
                case measure => simp [intOf]; omega
              · have hm4 : (N : Int) ≤ (an2 : Int) + (sn : Int) := by omega
                have hm5 : ¬ (an2 : Int) + (sn : Int) < (N : Int) := by omega
                have HQA : Hid (Q.Pairwise kle) := Lib.hid (HQ3.out.all (by have := HLQ.out; have := HI3.out; omega))
                clear hle3 hm3
                go_wp2_with fail
                go_roundw
                case rel => exact ⟨P' ++ Q, 2 * sn, by go_num, by omega, by omega, Lib.hid (by obtain ⟨j, hj⟩ := HI3.out.2.2.2; exact HC3.out.app hj HQA.out hQ2s.out), HPM3, HP3, HG3⟩
                case measure => simp [intOf]; omega
        · have hge : (N : Int) ≤ (sn : Int) := by omega
          have hge2 : ¬ (sn : Int) < (N : Int) := by omega
          have HSO : Hid (l.Pairwise kle) := Lib.hid (HC.out.all (by have := HLL.out; omega))
          clear hlt
          go_wp2_with fail
          go_end0
          exact ⟨rfl, l, HPM.out, HSO.out, HP.out, HG.out⟩
end Go.Proofs.YtcjamnfboifjeaaDoor

/-
  slices.SortStableFunc over pairs, whole.
-/
namespace Go.Proofs.YtcjamnfboifjeaaDoor
open Go.RowKit
set_option linter.unusedVariables false
set_option linter.unusedSimpArgs false
set_option maxRecDepth 100000

set_option maxHeartbeats 2000000 in
theorem sortStable (g c : Nat) (D : List PEnt) (rest : List Value) (w : World) (N : Nat) (hr : PRow w g D rest) (hD : ∀ x ∈ D, leafP x) (hN : N = D.length) (hd : N ≤ 100000) :
    Calls Tryd.prog 75 #[.slice (some ⟨g, 0, none⟩) N c, .func (Fn.func 76) #[] #[]] w fun e w' => e = .returned (.tuple #[]) ∧ ∃ Z, Z.Perm D ∧ Z.Pairwise kle ∧ PRow w' g Z rest ∧ Gr g w w' := by
  have HC := Lib.hid (stable g c D rest w N hr hD hN hd)
  clear hr hD hN
  go_enter Tryd.func75, Tryd.ntmps75
  go_wp2_with fail
  refine HC.out.mono ?_
  rintro e w1 ⟨rfl, Z, z1, z2, z3, z4⟩
  have HZ := Lib.hid (And.intro z1 (And.intro z2 (And.intro z3 z4)))
  clear z1 z2 z3 z4 HC
  go_wp2_with fail
  go_end0
  exact ⟨rfl, Z, HZ.out.1, HZ.out.2.1, HZ.out.2.2.1, HZ.out.2.2.2⟩
set_option maxHeartbeats 2000000 in
theorem insSort0 (A : Option Addr) (c : Nat) (fn : Value) (w : World) :
    Calls Tryd.prog 104 #[.slice A 0 c, .int .i64 0, .int .i64 0, fn] w fun e w' => e = .returned (.tuple #[]) ∧ w' = w := by
  go_enter Tryd.func104, Tryd.ntmps104
  go_wp2_with fail
  go_loopw [8] (fun i wr => i = .int .i64 1 ∧ wr = w) (fun _ _ => 0)
  case atStart => exact ⟨rfl, rfl⟩
  case round =>
    obtain ⟨rfl, rfl⟩ := hrel
    go_wp2_with fail
    go_end0
    exact ⟨rfl, rfl⟩
set_option maxHeartbeats 2000000 in
theorem stable0 (A : Option Addr) (c : Nat) (fn : Value) (w : World) :
    Calls Tryd.prog 92 #[.slice A 0 c, .int .i64 0, fn] w fun e w' => e = .returned (.tuple #[]) ∧ w' = w := by
  go_enter Tryd.func92, Tryd.ntmps92
  go_wp2_with fail
  go_loopw [7, 8] (fun a b wr => a = .int .i64 0 ∧ b = .int .i64 20 ∧ wr = w) (fun _ _ _ => 0)
  case atStart => exact ⟨rfl, rfl, rfl⟩
  case round =>
    obtain ⟨rfl, rfl, rfl⟩ := hrel
    go_wp2_with fail
    refine (insSort0 A c fn _).mono ?_
    rintro e w1 ⟨rfl, rfl⟩
    go_wp2_with fail
    go_loopw [6, 7, 8, 9] (fun s a b m wr => s = .int .i64 20 ∧ wr = w1) (fun _ _ _ _ _ => 0)
    case atStart => exact ⟨rfl, rfl⟩
    case round =>
      obtain ⟨rfl, rfl⟩ := hrel
      go_wp2_with fail
      go_end0
      exact ⟨rfl, rfl⟩
set_option maxHeartbeats 2000000 in
theorem sortStable0 (A : Option Addr) (c : Nat) (fn : Value) (w : World) :
    Calls Tryd.prog 75 #[.slice A 0 c, fn] w fun e w' => e = .returned (.tuple #[]) ∧ w' = w := by
  go_enter Tryd.func75, Tryd.ntmps75
  go_wp2_with fail
  refine (stable0 A c fn w).mono ?_
  rintro e w1 ⟨rfl, rfl⟩
  go_wp2_with fail
  go_end0
  exact ⟨rfl, rfl⟩
end Go.Proofs.YtcjamnfboifjeaaDoor

/-
  The drawing cursor: a new one; short texts; a text bent.
-/
namespace Go.Proofs.YtcjamnfboifjeaaDoor
open Go.RowKit
set_option linter.unusedVariables false
set_option linter.unusedSimpArgs false
set_option maxRecDepth 100000

set_option maxHeartbeats 2000000 in
theorem dNew (A : Option Addr) (cap : Nat) (code : List UInt8) (w : World) (hat : At1 w w.heap.size A (code.map bv)) (hn : code.length ≤ 1000000000) :
    Calls Tryd.prog 53 #[.slice A code.length cap] w fun e w' => e = .returned (.pointer (some ⟨w.heap.size, 0, none⟩)) ∧ Cur w' w.heap.size A cap code ∧ Below w.heap.size w w' := by
  have HA := Lib.hid hat
  clear hat
  go_enter Tryd.func53, Tryd.ntmps53
  go_wp2_with fail
  go_loop [3, 4] (fun h i => ∃ (j : Nat) (H : Int), j ≤ code.length ∧ i = .int .i64 j ∧ h = .int .i64 H) (fun _ i => code.length - (intOf i).toNat)
  case atStart => exact ⟨0, _, Nat.zero_le _, rfl, rfl⟩
  case round =>
    obtain ⟨j, H, hj, rfl, rfl⟩ := hrel
    have fin : ∀ (H : Int), Cur (w.alloc (.cells #[.slice A code.length cap, .int .i64 0, .int .i64 H] 84)) w.heap.size A cap code ∧ Below w.heap.size w (w.alloc (.cells #[.slice A code.length cap, .int .i64 0, .int .i64 H] 84)) := fun H =>
      ⟨⟨⟨0, H, Nat.zero_le _, Blk.new w _ _⟩, HA.out.below ((Below.refl w.heap.size w).alloc (Nat.le_refl _) _) (Nat.le_refl _), hn⟩, (Below.refl _ _).alloc (Nat.le_refl _) _⟩
    have HF := Lib.hid fin
    clear fin
    by_cases hlt : j < code.length
    · by_cases h4 : j < 4000
      · obtain ⟨g, off, rfl, hgb, hcell⟩ := HA.out.get (j := j) (by simpa using hlt)
        rw [List.getElem_map] at hcell
        unfold bv at hcell
        have h4i : (j : Int) < 4000 := by omega
        go_wp2_with fail
        go_round
        case rel => exact ⟨j + 1, _, hlt, by go_num, rfl⟩
        case measure => simp [intOf]; omega
      · have h4i : ¬ (j : Int) < 4000 := by omega
        go_wp2_with fail
        go_ret
        exact ⟨rfl, HF.out _⟩
    · obtain rfl : j = code.length := by omega
      go_wp2_with fail
      go_ret
      exact ⟨rfl, HF.out _⟩

theorem Drawn.trans {b cap : Nat} {A : Option Addr} {code : List UInt8} {a c d : World} (h : Drawn a b A cap code c) (k : Drawn c b A cap code d) : Drawn a b A cap code d := ⟨k.1, h.2.trans k.2⟩
theorem Drawn.refl {b cap : Nat} {A : Option Addr} {code : List UInt8} {w : World} (h : Cur w b A cap code) : Drawn w b A cap code w := ⟨h, Gr.refl _ _⟩
theorem Drawn.alloc {b cap : Nat} {A : Option Addr} {code : List UInt8} {w : World} (h : Cur w b A cap code) (o : Obj) : Drawn w b A cap code (w.alloc o) := ⟨h.alloc o, (Gr.refl _ _).alloc o⟩
theorem Drawn.of {b cap : Nat} {A : Option Addr} {code : List UInt8} {w w' : World} (h : Cur w b A cap code) (hb : Below w.heap.size w w') : Drawn w b A cap code w' := ⟨h.below hb h.lt, (Gr.refl _ _).below hb (Nat.le_refl _)⟩
/-- Picking from a new row of texts. -/
theorem dPickNew (l : List ByteArray) (b : Nat) (A : Option Addr) (cap : Nat) (code : List UInt8) (w : World) (h0 : 0 < l.length) (hn : l.length ≤ 1000) (hc : Cur w b A cap code) :
    Calls Tryd.prog 65 #[.pointer (some ⟨b, 0, none⟩), .slice (some ⟨w.heap.size, 0, none⟩) l.length l.length] (w.alloc (.cells (l.map Value.string).toArray 9)) fun e w' => (∃ s ∈ l, e = .returned (.string s)) ∧ Drawn w b A cap code w' := by
  have hp := PickRow.new hc.lt (l.map Value.string).toArray 9
  rw [List.toList_toArray] at hp
  refine (dPick l w.heap.size l.length b A cap code _ h0 hn (hc.alloc _) hp).mono ?_
  rintro e w' ⟨he, hd⟩
  exact ⟨he, (Drawn.alloc hc _).trans hd⟩
theorem dPickNewD (l : List ByteArray) (b : Nat) (A : Option Addr) (cap : Nat) (code : List UInt8) (w : World) (h0 : 0 < l.length) (hn : l.length ≤ 1000) (hc : Cur w b A cap code) :
    Calls Tryd.prog 65 #[.pointer (some ⟨b, 0, none⟩), .slice (some ⟨w.heap.size, 0, none⟩) l.length l.length] (w.alloc (.cells (l.map Value.string).toArray 9)).drew fun e w' => (∃ s ∈ l, e = .returned (.string s)) ∧ Drawn w b A cap code w' := by
  have hp := PickRow.new hc.lt (l.map Value.string).toArray 9
  rw [List.toList_toArray] at hp
  refine (dPick l w.heap.size l.length b A cap code _ h0 hn (show Cur (w.alloc (.cells (l.map Value.string).toArray 9)).drew b A cap code from hc.alloc _) hp).mono ?_
  rintro e w' ⟨he, hd⟩
  exact ⟨he, hd.1, (((Gr.refl _ _).alloc _).drew).trans hd.2⟩
theorem dPickIntNewD (l : List Int) (b : Nat) (A : Option Addr) (cap : Nat) (code : List UInt8) (w : World) (h0 : 0 < l.length) (hn : l.length ≤ 1000) (hc : Cur w b A cap code) :
    Calls Tryd.prog 80 #[.pointer (some ⟨b, 0, none⟩), .slice (some ⟨w.heap.size, 0, none⟩) l.length l.length] (w.alloc (.cells (l.map (Value.int .i64)).toArray 3)).drew fun e w' => (∃ z ∈ l, e = .returned (.int .i64 z)) ∧ Drawn w b A cap code w' := by
  have hp := PickRow.new hc.lt (l.map (Value.int .i64)).toArray 3
  rw [List.toList_toArray] at hp
  refine (dPickInt l w.heap.size l.length b A cap code _ h0 hn (show Cur (w.alloc (.cells (l.map (Value.int .i64)).toArray 3)).drew b A cap code from hc.alloc _) hp).mono ?_
  rintro e w' ⟨he, hd⟩
  exact ⟨he, hd.1, (((Gr.refl _ _).alloc _).drew).trans hd.2⟩
theorem dPickIntNew (l : List Int) (b : Nat) (A : Option Addr) (cap : Nat) (code : List UInt8) (w : World) (h0 : 0 < l.length) (hn : l.length ≤ 1000) (hc : Cur w b A cap code) :
    Calls Tryd.prog 80 #[.pointer (some ⟨b, 0, none⟩), .slice (some ⟨w.heap.size, 0, none⟩) l.length l.length] (w.alloc (.cells (l.map (Value.int .i64)).toArray 3)) fun e w' => (∃ z ∈ l, e = .returned (.int .i64 z)) ∧ Drawn w b A cap code w' := by
  have hp := PickRow.new hc.lt (l.map (Value.int .i64)).toArray 3
  rw [List.toList_toArray] at hp
  refine (dPickInt l w.heap.size l.length b A cap code _ h0 hn (hc.alloc _) hp).mono ?_
  rintro e w' ⟨he, hd⟩
  exact ⟨he, (Drawn.alloc hc _).trans hd⟩

def someL : List ByteArray := [⟨#[97]⟩, ⟨#[98]⟩, ⟨#[110, 97, 109, 101]⟩, ⟨#[34]⟩, ⟨#[92]⟩, ⟨#[10]⟩, ⟨#[1]⟩, ⟨#[195, 169]⟩, ⟨#[226, 130, 172]⟩, ⟨#[240, 159, 152, 128]⟩, ⟨#[47]⟩, ⟨#[48]⟩, ⟨#[32]⟩]
theorem someL_size : ∀ s ∈ someL, s.size ≤ 4 := by decide
set_option maxHeartbeats 2000000 in
theorem dSome (b : Nat) (A : Option Addr) (cap : Nat) (code : List UInt8) (w : World) (hc : Cur w b A cap code) :
    Calls Tryd.prog 94 #[.pointer (some ⟨b, 0, none⟩)] w fun e w' => (∃ s : ByteArray, s.size ≤ 16 ∧ e = .returned (.string s)) ∧ Drawn w b A cap code w' := by
  have HC := Lib.hid hc
  clear hc
  go_enter Tryd.func94, Tryd.ntmps94
  go_wp2_with fail
  refine (dBelow 5 b A cap code w (by omega) (by omega) HC.out).mono ?_
  rintro e w1 ⟨⟨n, hn, rfl⟩, hd1⟩
  have HD1 := Lib.hid hd1
  clear hd1
  go_wp2_with fail
  go_loopw [3, 5] (fun o i wr => ∃ (j : Nat) (t : ByteArray), j ≤ n ∧ i = .int .i64 j ∧ o = .string t ∧ t.size ≤ 4 * j ∧ Hid (Drawn w b A cap code wr)) (fun _ i _ => n - (intOf i).toNat)
  case atStart => exact ⟨0, ⟨#[]⟩, Nat.zero_le _, rfl, rfl, Nat.zero_le _, HD1⟩
  case round =>
    obtain ⟨j, t, hj, rfl, rfl, ht, HD⟩ := hrel
    by_cases hlt : j < n
    · go_wp2_with fail
      refine (dPickNew someL b A cap code _ (by decide) (by decide) HD.out.1).mono ?_
      rintro e w2 ⟨⟨p, hp, rfl⟩, hd2⟩
      have hps := someL_size p hp
      have HD2 := Lib.hid (HD.out.trans hd2)
      clear hp hd2
      go_wp2_with fail
      go_roundw
      case rel => exact ⟨j + 1, t ++ p, hlt, by go_num, rfl, by simp; omega, HD2⟩
      case measure => simp [intOf]; omega
    · obtain rfl : j = n := by omega
      go_wp2_with fail
      go_ret
      exact ⟨⟨t, by omega, rfl⟩, HD.out⟩
theorem Drawn.toBelow {b cap : Nat} {A : Option Addr} {code : List UInt8} {w0 w w' : World} (h : Drawn w b A cap code w') (h0 : Below w0.heap.size w0 w) (hb : w0.heap.size ≤ b) : Below w0.heap.size w0 w' := h0.trans (h.2.toBelow hb h0.size)
/-- What a draw of a text hands back: some text of bounded size. -/
def Drew (n : Nat) (w : World) (e : Ending) (w' : World) : Prop := (∃ t : ByteArray, t.size ≤ n ∧ e = .returned (.string t)) ∧ Below w.heap.size w w'
end Go.Proofs.YtcjamnfboifjeaaDoor
