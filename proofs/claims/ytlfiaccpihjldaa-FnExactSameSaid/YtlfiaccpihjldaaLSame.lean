/-
  FnExactSame returns true for every two values that can be read; they read as they did; no conditions.
-/
import Derived.Test.YtlfiaccpihjldaaSpecSame
import Derived.Test.YtlfiaccpihjldaaImplSame
import Derived.Test.YtlfiaccpihjldaaSz
import Derived.Test.YtlfiaccpihjldaaTo
import Derived.Test.YtlfiaccpihjldaaEq
import Derived.Test.YtlfiaccpihjldaaOpen
import Derived.Deep.RegionHeld3
namespace Go.Proofs.Ytlfiaccpihjldaa.fnExactSame
open Go.ChangeShapes Go.WideShapes Go.ChangeAt Go.RowKit
open Go.ChangeMaps (open_string shut_string)
set_option linter.unusedVariables false

set_option maxHeartbeats 4000000 in
theorem walk (t0 : V) (A0 : Option Addr) (c0 : Nat) (f0 : t0.fits) (t1 : V) (A1 : Option Addr) (c1 : Nat) (f1 : t1.fits) (w : World) (h0 : Vs.at_ w 0 w.heap.size t0.kids A0) (h1 : Vs.at_ w 0 w.heap.size t1.kids A1) :
    Calls Try.prog 4 #[t0.agg A0 c0, t1.agg A1 c1] w fun e w' => e = .returned (.bool true) ∧ Below w.heap.size w w' := by
  have H0 := Lib.hid h0
  have H1 := Lib.hid h1
  clear h0 h1
  by_cases hwt : t0.weight ≤ 1048576
  · have e1 : szR 1048576 t0.weight = 1048576 - t0.weight := by rw [szR, if_pos (by omega)]
    have hn : t0.nodes ≤ 1048577 := by have := V.nodes_weight t0; omega
    have HE := Lib.hid e1
    clear e1
    by_cases hwt1 : t0.weight + t1.weight ≤ 1048576
    · have e2 : szR (1048576 - t0.weight) t1.weight = 1048576 - t0.weight - t1.weight := by rw [szR, if_pos (by omega)]
      have hm : t1.nodes ≤ 1048577 := by have := V.nodes_weight t1; omega
      have HE1 := Lib.hid e2
      clear e2
      unfold V.agg
      go_enter Try.func4, Try.ntmps4
      go_wp2_with fail
      obtain ⟨w2, hw2, Ba, Bb, b1, z2⟩ := two_new w 24 24 #[.int .i64 t0.k, .int .i64 t0.n, .int .i64 t0.e, .string t0.s, .slice A0 t0.kids.length c0] #[.int .i64 t1.k, .int .i64 t1.n, .int .i64 t1.e, .string t1.s, .slice A1 t1.kids.length c1]
      rw [← hw2]
      clear hw2
      have at0 := Lib.hid (Vs.at_more (Nat.le_refl _) b1.size _ _ (Vs.at_below H0.out b1 (Nat.le_refl _)))
      have at1 := Lib.hid (Vs.at_more (Nat.le_refl _) b1.size _ _ (Vs.at_below H1.out b1 (Nat.le_refl _)))
      have sa := Ba.lt
      have sb := Bb.lt
      refine (szValue_any t0 A0 c0 1048576 w2 (by omega) (by omega) f0 at0.out).mono ?_
      rintro e w3 ⟨rfl, hb3⟩
      rw [HE.out]
      obtain ⟨p0, p1, p2, p3, p4⟩ := (Bb.below hb3 sb).five
      go_wp2_with fail
      refine (szValue_any t1 A1 c1 (1048576 - t0.weight) w3 (by omega) (by omega) f1 (Vs.at_more (Nat.le_refl _) hb3.size _ _ (Vs.at_below at1.out hb3 (Nat.le_refl _)))).mono ?_
      rintro e w4 ⟨rfl, hb4'⟩
      rw [HE1.out]
      have hb4 := hb3.trans (hb4'.mono hb3.size)
      clear p0 p1 p2 p3 p4 hb3 hb4'
      obtain ⟨p0, p1, p2, p3, p4⟩ := (Ba.below hb4 sa).five
      obtain ⟨q0, q1, q2, q3, q4⟩ := (Bb.below hb4 sb).five
      go_wp2_with fail
      have keep0 : ∀ w' : World, Below w2.heap.size w2 w' → w'.cell? ⟨w.heap.size, 0, none⟩ = some (.int .i64 t0.k) ∧ w'.cell? ⟨w.heap.size, 1, none⟩ = some (.int .i64 t0.n) ∧ w'.cell? ⟨w.heap.size, 2, none⟩ = some (.int .i64 t0.e) ∧ w'.cell? ⟨w.heap.size, 3, none⟩ = some (.string t0.s) ∧ w'.cell? ⟨w.heap.size, 4, none⟩ = some (.slice A0 t0.kids.length c0) ∧ w'.cell? ⟨w.heap.size + 1, 0, none⟩ = some (.int .i64 t1.k) ∧ w'.cell? ⟨w.heap.size + 1, 1, none⟩ = some (.int .i64 t1.n) ∧ w'.cell? ⟨w.heap.size + 1, 2, none⟩ = some (.int .i64 t1.e) ∧ w'.cell? ⟨w.heap.size + 1, 3, none⟩ = some (.string t1.s) ∧ w'.cell? ⟨w.heap.size + 1, 4, none⟩ = some (.slice A1 t1.kids.length c1) ∧ Below w2.heap.size w2 w' := by
        intro w' hb
        obtain ⟨p0, p1, p2, p3, p4⟩ := (Ba.below hb sa).five
        obtain ⟨q0, q1, q2, q3, q4⟩ := (Bb.below hb sb).five
        exact ⟨p0, p1, p2, p3, p4, q0, q1, q2, q3, q4, hb⟩
      have hb40 := hb4
      have KE := Lib.hid keep0
      clear keep0 hb4
      go_region_held3 (fun w' => w'.cell? ⟨w.heap.size, 0, none⟩ = some (.int .i64 t0.k) ∧ w'.cell? ⟨w.heap.size, 1, none⟩ = some (.int .i64 t0.n) ∧ w'.cell? ⟨w.heap.size, 2, none⟩ = some (.int .i64 t0.e) ∧ w'.cell? ⟨w.heap.size, 3, none⟩ = some (.string t0.s) ∧ w'.cell? ⟨w.heap.size, 4, none⟩ = some (.slice A0 t0.kids.length c0) ∧ w'.cell? ⟨w.heap.size + 1, 0, none⟩ = some (.int .i64 t1.k) ∧ w'.cell? ⟨w.heap.size + 1, 1, none⟩ = some (.int .i64 t1.n) ∧ w'.cell? ⟨w.heap.size + 1, 2, none⟩ = some (.int .i64 t1.e) ∧ w'.cell? ⟨w.heap.size + 1, 3, none⟩ = some (.string t1.s) ∧ w'.cell? ⟨w.heap.size + 1, 4, none⟩ = some (.slice A1 t1.kids.length c1) ∧ Below w2.heap.size w2 w') (first | exact KE.out _ hb8 | exact KE.out _ hb7 | exact KE.out _ hb6 | exact KE.out _ hb5 | exact KE.out _ hb40.drew | exact KE.out _ hb40)
        (first
        | (have hgate := hb6; clear hgate; go_at_call 14; refine (specSame t0 t1 B0 B1 d0 d1 w6 hn hm (Vs.at_more (Nat.zero_le _) sz6 _ _ atB02) (Vs.at_more (Nat.zero_le _) (Nat.le_refl _) _ _ atB1)).mono ?_; rintro e w7 ⟨rfl, hb7'⟩; have hb7 := hb6.trans (hb7'.mono hb6.size))
        | (have hgate := hb5; clear hgate; go_at_call 11; refine (toValue_any t1 A1 c1 w5 hm (Vs.at_more (Nat.le_refl _) hb5.size _ _ (Vs.at_below at1.out hb5 (Nat.le_refl _)))).mono ?_; rintro e w6 ⟨B1, d1, rfl, hd1, atB1, hb6'⟩; have hb6 := hb5.trans (hb6'.mono hb5.size); have sz6 : w5.heap.size ≤ w6.heap.size := hb6'.size; have atB02 := Vs.at_below atB0 hb6' (Nat.le_refl _); unfold V.agg)
        | (go_at_call 11; refine (toValue_any t0 A0 c0 w4.drew hn (Vs.at_more (Nat.le_refl _) hb40.size _ _ (Vs.at_drew (Vs.at_below at0.out hb40 (Nat.le_refl _))))).mono ?_; rintro e w5 ⟨B0, d0, rfl, hd0, atB0, hb5'⟩; have hb5 := hb40.drew.trans (hb5'.mono hb40.size); have sz5 : w4.heap.size ≤ w5.heap.size := hb5'.size; unfold V.agg))
      clear KE atB02 atB1 atB0 hb5' hb6' hb7' hb5 hb6 hd0 hd1
      obtain ⟨p0, p1, p2, p3, p4⟩ := (Ba.below hb7 sa).five
      go_wp2_with fail
      refine (toValue_any t0 A0 c0 w7 hn (Vs.at_more (Nat.le_refl _) hb7.size _ _ (Vs.at_below at0.out hb7 (Nat.le_refl _)))).mono ?_
      rintro e w8 ⟨B0, d0, rfl, hd0, atB0, hb8'⟩
      have hb8 := hb7.trans (hb8'.mono hb7.size)
      clear p0 p1 p2 p3 p4
      unfold V.agg
      obtain ⟨w9, hw9⟩ : ∃ w9, w9 = w8.alloc (.cells #[.int .i64 t0.k, .int .i64 t0.n, .int .i64 t0.e, .string t0.s, .slice B0 t0.kids.length d0] 29) := ⟨_, rfl⟩
      have Bx0 : Blk w9 w8.heap.size 29 #[.int .i64 t0.k, .int .i64 t0.n, .int .i64 t0.e, .string t0.s, .slice B0 t0.kids.length d0] := by rw [hw9]; exact Blk.new w8 _ _
      have hb9 : Below w2.heap.size w2 w9 := by rw [hw9]; exact hb8.alloc hb8.size _
      have z9 : w9.heap.size = w8.heap.size + 1 := by rw [hw9]; simp
      have atx0 : Vs.at_ w9 0 w9.heap.size t0.kids B0 := by rw [hw9]; exact Vs.at_more (Nat.zero_le _) (by simp) _ _ (Vs.at_alloc atB0 (Nat.le_refl _) _)
      obtain ⟨q0, q1, q2, q3, q4⟩ := (Bb.below hb9 sb).five
      rw [hw9] at q0 q1 q2 q3 q4
      go_wp2_with fail
      rw [← hw9] at *
      clear hw9
      refine (toValue_any t1 A1 c1 w9 hm (Vs.at_more (Nat.le_refl _) hb9.size _ _ (Vs.at_below at1.out hb9 (Nat.le_refl _)))).mono ?_
      rintro e w10 ⟨B1, d1, rfl, hd1, atB1, hb10'⟩
      have hb10 := hb9.trans (hb10'.mono hb9.size)
      clear q0 q1 q2 q3 q4
      unfold V.agg
      obtain ⟨w11, hw11⟩ : ∃ w11, w11 = w10.alloc (.cells #[.int .i64 t1.k, .int .i64 t1.n, .int .i64 t1.e, .string t1.s, .slice B1 t1.kids.length d1] 29) := ⟨_, rfl⟩
      have Bx1 : Blk w11 w10.heap.size 29 #[.int .i64 t1.k, .int .i64 t1.n, .int .i64 t1.e, .string t1.s, .slice B1 t1.kids.length d1] := by rw [hw11]; exact Blk.new w10 _ _
      have sx0 : w8.heap.size < w9.heap.size := by omega
      have Bx0 : Blk w11 w8.heap.size 29 #[.int .i64 t0.k, .int .i64 t0.n, .int .i64 t0.e, .string t0.s, .slice B0 t0.kids.length d0] := by rw [hw11]; exact (Bx0.below hb10' sx0).alloc _
      have hb11 : Below w2.heap.size w2 w11 := by rw [hw11]; exact hb10.alloc hb10.size _
      have z11 : w11.heap.size = w10.heap.size + 1 := by rw [hw11]; simp
      have atx1 : Vs.at_ w11 0 w11.heap.size t1.kids B1 := by rw [hw11]; exact Vs.at_more (Nat.zero_le _) (by simp) _ _ (Vs.at_alloc atB1 (Nat.le_refl _) _)
      have atx0 : Vs.at_ w11 0 w11.heap.size t0.kids B0 := by rw [hw11]; exact Vs.at_more (Nat.zero_le _) (by have := hb10'.size; simp; omega) _ _ (Vs.at_alloc (Vs.at_below atx0 hb10' (Nat.le_refl _)) (by have := hb10'.size; omega) _)
      have s9 : w9.heap.size ≤ w10.heap.size := hb10'.size
      obtain ⟨p0, p1, p2, p3, p4⟩ := Bx0.five
      obtain ⟨q0, q1, q2, q3, q4⟩ := Bx1.five
      rw [hw11] at p0 p1 p2 p3 p4 q0 q1 q2 q3 q4
      go_wp2_with fail
      rw [← hw11] at *
      clear hw11
      clear p0 p1 p2 p3 p4 q0 q1 q2 q3 q4
      refine (implSame t0 t1 B0 B1 d0 d1 w11 hn hm atx0 atx1).mono ?_
      rintro e w12 ⟨rfl, hb12⟩
      have sx0 : w8.heap.size < w11.heap.size := by omega
      have sx1 : w10.heap.size < w11.heap.size := by omega
      have keep12 : ∀ w' : World, Below w11.heap.size w11 w' → w'.cell? ⟨w8.heap.size, 0, none⟩ = some (.int .i64 t0.k) ∧ w'.cell? ⟨w8.heap.size, 1, none⟩ = some (.int .i64 t0.n) ∧ w'.cell? ⟨w8.heap.size, 2, none⟩ = some (.int .i64 t0.e) ∧ w'.cell? ⟨w8.heap.size, 3, none⟩ = some (.string t0.s) ∧ w'.cell? ⟨w8.heap.size, 4, none⟩ = some (.slice B0 t0.kids.length d0) ∧ w'.cell? ⟨w.heap.size, 0, none⟩ = some (.int .i64 t0.k) ∧ w'.cell? ⟨w.heap.size, 1, none⟩ = some (.int .i64 t0.n) ∧ w'.cell? ⟨w.heap.size, 2, none⟩ = some (.int .i64 t0.e) ∧ w'.cell? ⟨w.heap.size, 3, none⟩ = some (.string t0.s) ∧ w'.cell? ⟨w.heap.size, 4, none⟩ = some (.slice A0 t0.kids.length c0) ∧ Below w11.heap.size w11 w' := by
        intro w' hb
        obtain ⟨p0, p1, p2, p3, p4⟩ := (Bx0.below hb sx0).five
        obtain ⟨q0, q1, q2, q3, q4⟩ := (Ba.below (hb11.trans (hb.mono hb11.size)) sa).five
        exact ⟨p0, p1, p2, p3, p4, q0, q1, q2, q3, q4, hb⟩
      have KE12 := Lib.hid keep12
      obtain ⟨p0, p1, p2, p3, p4, q0, q1, q2, q3, q4, _⟩ := keep12 _ hb12
      clear keep12
      go_wp2_with fail
      go_region_held3 (fun w' => w'.cell? ⟨w8.heap.size, 0, none⟩ = some (.int .i64 t0.k) ∧ w'.cell? ⟨w8.heap.size, 1, none⟩ = some (.int .i64 t0.n) ∧ w'.cell? ⟨w8.heap.size, 2, none⟩ = some (.int .i64 t0.e) ∧ w'.cell? ⟨w8.heap.size, 3, none⟩ = some (.string t0.s) ∧ w'.cell? ⟨w8.heap.size, 4, none⟩ = some (.slice B0 t0.kids.length d0) ∧ w'.cell? ⟨w.heap.size, 0, none⟩ = some (.int .i64 t0.k) ∧ w'.cell? ⟨w.heap.size, 1, none⟩ = some (.int .i64 t0.n) ∧ w'.cell? ⟨w.heap.size, 2, none⟩ = some (.int .i64 t0.e) ∧ w'.cell? ⟨w.heap.size, 3, none⟩ = some (.string t0.s) ∧ w'.cell? ⟨w.heap.size, 4, none⟩ = some (.slice A0 t0.kids.length c0) ∧ Below w11.heap.size w11 w') (first | exact KE12.out _ hb14 | exact KE12.out _ hb13 | exact KE12.out _ hb12.drew | exact KE12.out _ hb12)
        (first
        | (have hgate := hb13; clear hgate; go_at_call 13; refine (eqValue_any t0 B0 D12 d0 e12 w13 hn (Vs.at_more (Nat.le_refl _) hb13.size _ _ (Vs.at_below atx0 hb13 (Nat.le_refl _))) (Vs.at_more (Nat.zero_le _) (Nat.le_refl _) _ _ atD12)).mono ?_; rintro e w14 ⟨rfl, hb14'⟩; have hb14 := hb13.trans (hb14'.mono hb13.size))
        | (go_at_call 11; refine (toValue_any t0 A0 c0 w12.drew hn (Vs.at_more (Nat.le_refl _) (Nat.le_trans hb11.size hb12.size) _ _ (Vs.at_drew (Vs.at_below at0.out (hb11.trans (hb12.mono hb11.size)) (Nat.le_refl _))))).mono ?_; rintro e w13 ⟨D12, e12, rfl, he12, atD12, hb13'⟩; have hb13 := hb12.drew.trans (hb13'.mono hb12.size); unfold V.agg))
      clear p0 p1 p2 p3 p4 q0 q1 q2 q3 q4
      have keep14 : ∀ w' : World, Below w11.heap.size w11 w' → w'.cell? ⟨w10.heap.size, 0, none⟩ = some (.int .i64 t1.k) ∧ w'.cell? ⟨w10.heap.size, 1, none⟩ = some (.int .i64 t1.n) ∧ w'.cell? ⟨w10.heap.size, 2, none⟩ = some (.int .i64 t1.e) ∧ w'.cell? ⟨w10.heap.size, 3, none⟩ = some (.string t1.s) ∧ w'.cell? ⟨w10.heap.size, 4, none⟩ = some (.slice B1 t1.kids.length d1) ∧ w'.cell? ⟨w.heap.size + 1, 0, none⟩ = some (.int .i64 t1.k) ∧ w'.cell? ⟨w.heap.size + 1, 1, none⟩ = some (.int .i64 t1.n) ∧ w'.cell? ⟨w.heap.size + 1, 2, none⟩ = some (.int .i64 t1.e) ∧ w'.cell? ⟨w.heap.size + 1, 3, none⟩ = some (.string t1.s) ∧ w'.cell? ⟨w.heap.size + 1, 4, none⟩ = some (.slice A1 t1.kids.length c1) ∧ Below w11.heap.size w11 w' := by
        intro w' hb
        obtain ⟨p0, p1, p2, p3, p4⟩ := (Bx1.below hb sx1).five
        obtain ⟨q0, q1, q2, q3, q4⟩ := (Bb.below (hb11.trans (hb.mono hb11.size)) sb).five
        exact ⟨p0, p1, p2, p3, p4, q0, q1, q2, q3, q4, hb⟩
      have KE14 := Lib.hid keep14
      obtain ⟨p0, p1, p2, p3, p4, q0, q1, q2, q3, q4, _⟩ := keep14 _ hb14
      clear keep14
      go_wp2_with fail
      go_region_held3 (fun w' => w'.cell? ⟨w10.heap.size, 0, none⟩ = some (.int .i64 t1.k) ∧ w'.cell? ⟨w10.heap.size, 1, none⟩ = some (.int .i64 t1.n) ∧ w'.cell? ⟨w10.heap.size, 2, none⟩ = some (.int .i64 t1.e) ∧ w'.cell? ⟨w10.heap.size, 3, none⟩ = some (.string t1.s) ∧ w'.cell? ⟨w10.heap.size, 4, none⟩ = some (.slice B1 t1.kids.length d1) ∧ w'.cell? ⟨w.heap.size + 1, 0, none⟩ = some (.int .i64 t1.k) ∧ w'.cell? ⟨w.heap.size + 1, 1, none⟩ = some (.int .i64 t1.n) ∧ w'.cell? ⟨w.heap.size + 1, 2, none⟩ = some (.int .i64 t1.e) ∧ w'.cell? ⟨w.heap.size + 1, 3, none⟩ = some (.string t1.s) ∧ w'.cell? ⟨w.heap.size + 1, 4, none⟩ = some (.slice A1 t1.kids.length c1) ∧ Below w11.heap.size w11 w') (first | exact KE14.out _ hb16 | exact KE14.out _ hb15 | exact KE14.out _ hb14.drew | exact KE14.out _ hb14)
        (first
        | (have hgate := hb15; clear hgate; go_at_call 13; refine (eqValue_any t1 B1 D14 d1 e14 w15 hm (Vs.at_more (Nat.le_refl _) hb15.size _ _ (Vs.at_below atx1 hb15 (Nat.le_refl _))) (Vs.at_more (Nat.zero_le _) (Nat.le_refl _) _ _ atD14)).mono ?_; rintro e w16 ⟨rfl, hb16'⟩; have hb16 := hb15.trans (hb16'.mono hb15.size))
        | (go_at_call 11; refine (toValue_any t1 A1 c1 w14.drew hm (Vs.at_more (Nat.le_refl _) (Nat.le_trans hb11.size hb14.size) _ _ (Vs.at_drew (Vs.at_below at1.out (hb11.trans (hb14.mono hb11.size)) (Nat.le_refl _))))).mono ?_; rintro e w15 ⟨D14, e14, rfl, he14, atD14, hb15'⟩; have hb15 := hb14.drew.trans (hb15'.mono hb14.size); unfold V.agg))
      clear p0 p1 p2 p3 p4 q0 q1 q2 q3 q4
      go_wp2_with fail
      go_ret
      exact ⟨rfl, b1.trans ((hb11.trans (hb16.mono hb11.size)).mono b1.size)⟩
    · have e2 : szR (1048576 - t0.weight) t1.weight = -1 := by rw [szR, if_neg (by omega)]
      have HE1 := Lib.hid e2
      clear e2
      unfold V.agg
      go_enter Try.func4, Try.ntmps4
      go_wp2_with fail
      obtain ⟨w2, hw2, Ba, Bb, b1, z2⟩ := two_new w 24 24 #[.int .i64 t0.k, .int .i64 t0.n, .int .i64 t0.e, .string t0.s, .slice A0 t0.kids.length c0] #[.int .i64 t1.k, .int .i64 t1.n, .int .i64 t1.e, .string t1.s, .slice A1 t1.kids.length c1]
      rw [← hw2]
      clear hw2
      have at0 := Lib.hid (Vs.at_more (Nat.le_refl _) b1.size _ _ (Vs.at_below H0.out b1 (Nat.le_refl _)))
      have at1 := Lib.hid (Vs.at_more (Nat.le_refl _) b1.size _ _ (Vs.at_below H1.out b1 (Nat.le_refl _)))
      have sa := Ba.lt
      have sb := Bb.lt
      refine (szValue_any t0 A0 c0 1048576 w2 (by omega) (by omega) f0 at0.out).mono ?_
      rintro e w3 ⟨rfl, hb3⟩
      rw [HE.out]
      obtain ⟨p0, p1, p2, p3, p4⟩ := (Bb.below hb3 sb).five
      go_wp2_with fail
      refine (szValue_any t1 A1 c1 (1048576 - t0.weight) w3 (by omega) (by omega) f1 (Vs.at_more (Nat.le_refl _) hb3.size _ _ (Vs.at_below at1.out hb3 (Nat.le_refl _)))).mono ?_
      rintro e w4 ⟨rfl, hb4'⟩
      rw [HE1.out]
      have hb4 := hb3.trans (hb4'.mono hb3.size)
      clear p0 p1 p2 p3 p4 hb3 hb4'
      go_wp2_with fail
      go_ret
      exact ⟨rfl, b1.trans (hb4.mono b1.size)⟩
  · have e1 : szR 1048576 t0.weight = -1 := by rw [szR, if_neg (by omega)]
    have HE := Lib.hid e1
    clear e1
    unfold V.agg
    go_enter Try.func4, Try.ntmps4
    go_wp2_with fail
    obtain ⟨w2, hw2, Ba, Bb, b1, z2⟩ := two_new w 24 24 #[.int .i64 t0.k, .int .i64 t0.n, .int .i64 t0.e, .string t0.s, .slice A0 t0.kids.length c0] #[.int .i64 t1.k, .int .i64 t1.n, .int .i64 t1.e, .string t1.s, .slice A1 t1.kids.length c1]
    rw [← hw2]
    clear hw2
    have at0 := Lib.hid (Vs.at_more (Nat.le_refl _) b1.size _ _ (Vs.at_below H0.out b1 (Nat.le_refl _)))
    have at1 := Lib.hid (Vs.at_more (Nat.le_refl _) b1.size _ _ (Vs.at_below H1.out b1 (Nat.le_refl _)))
    have sa := Ba.lt
    have sb := Bb.lt
    refine (szValue_any t0 A0 c0 1048576 w2 (by omega) (by omega) f0 at0.out).mono ?_
    rintro e w3 ⟨rfl, hb3⟩
    rw [HE.out]
    obtain ⟨p0, p1, p2, p3, p4⟩ := (Bb.below hb3 sb).five
    go_wp2_with fail
    go_ret
    exact ⟨rfl, b1.trans (hb3.mono b1.size)⟩

set_option maxRecDepth 100000 in
theorem lifted (os : Os) (started : os.Started) (H : Type) (enc : TypeId × Value → H) :
    ReturnsInHanded {} Try.checked os 4 .any (Rows.fnExactSameSpec.pre6 enc Try.prog Try.f4 Rows.fnExactSameRow.domain false) (Rows.fnExactSameSpec.post enc Try.prog Try.f4 false true false false) := by
  refine returnsInHanded_of_change (C := Try.checked) own started (by kernel_rfl) Try.func4
    (ChangeSpec.witness6 (enc := enc) (C := Try.checked) false ⟨#[], #[.agg #[.int .i64 0, .int .i64 0, .int .i64 0, .string ByteArray.empty, .slice none 0 0], .agg #[.int .i64 0, .int .i64 0, .int .i64 0, .string ByteArray.empty, .slice none 0 0]], []⟩ 8 (by kernel_rfl) (by kernel_rfl) (by kernel_rfl) (by kernel_rfl)) ?_
  intro W base args ds gs before hval0 hW hcnd _
  have hval : ∀ (j : Nat) t v, Try.f4.params[j]? = some t → args[j]? = some v → Value.okWide Try.prog W .any base t v := hval0
  have hW' := hW
  obtain ⟨p, q, hA0, hV, rfl, hfz, hnd⟩ := hW
  have hA : DataW.TrodAll enc Try.prog W 0 (fun _ => true) true Try.f4.params.toList args.toList ds p := hA0
  rw [Try.params4] at hA hval
  obtain ⟨v0, vs0, d0, ds0, p0, q0, hargs, rfl, rfl, h0, r0⟩ := trodAll_cons hA
  obtain ⟨v1, vs1, d1, ds1, p1, q1, rfl, rfl, rfl, h1, r1⟩ := trodAll_cons r0
  obtain ⟨rfl, rfl, rfl⟩ := trodAll_nil r1
  obtain rfl : args = #[v0, v1] := by cases args; simp_all
  obtain ⟨rfl, rfl⟩ := trodVars_none hV
  have k0 := h0
  have lt0 : ∀ x ∈ p0, x.block < W.heap.size := by obtain ⟨m, hm⟩ := k0; exact DataW.trod_lt m _ _ _ hm
  obtain ⟨t0, A0, c0, rfl, f0, at0⟩ := open_value (hval 0 24 v0 rfl rfl) h0
  have k1 := h1
  have lt1 : ∀ x ∈ p1, x.block < W.heap.size := by obtain ⟨m, hm⟩ := k1; exact DataW.trod_lt m _ _ _ hm
  obtain ⟨t1, A1, c1, rfl, f1, at1⟩ := open_value (hval 1 24 v1 rfl rfl) h1
  clear hA0 hval0
  refine (walk t0 A0 c0 f0 t1 A1 c1 f1 W at0 at1).mono fun e W' ⟨he, bel⟩ => ?_
  subst he
  exact ⟨_, rfl, _, _, _, [], _, [], hW', trodAll_mk1 (shut_bool Try.underlying4 _), (trodAll_cons_mk (Below.trod laidOut (by kernel_rfl) (of_decide_eq_true (by kernel_rfl)) k0 bel lt0) (trodAll_cons_mk (Below.trod laidOut (by kernel_rfl) (of_decide_eq_true (by kernel_rfl)) k1 bel lt1) trodAll_mk0)), rfl, bel.frame _, fun h => by cases h⟩

theorem over : Rows.fnExactSameRow.holds Try.pinned (OpenSpec.ofChange Rows.fnExactSameSpec) :=
  OpenClaim.holds_of_wide 4 Try.f4 rfl rfl rfl rfl rfl rfl rfl ⟨rfl, rfl, rfl, rfl, rfl⟩ rfl rfl rfl rfl rfl (by kernel_rfl) Try.func4 (by kernel_rfl)
    (of_decide_eq_true (by kernel_rfl)) (by unfold Func.isWrapper; first | (rw [if_pos (by decide +kernel)]; kernel_rfl) | (rw [if_neg (by decide +kernel)]; exact ⟨rfl, rfl⟩))
    (fun os started H enc _ => lifted os started H enc)

theorem proved : Rows.FnExactSameSaid := over
end Go.Proofs.Ytlfiaccpihjldaa.fnExactSame
