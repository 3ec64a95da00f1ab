/-
  Norm of the reference.
-/
import Derived.Test.YtbflkcldjjpioaaNormP
import Derived.Test.YtbflkcldjjpioaaRightR
namespace Go.Proofs.Ytbflkcldjjpioaa
open Go.RowKit
set_option linter.unusedVariables false
set_option linter.unusedSimpArgs false
set_option maxRecDepth 100000

theorem tdiv_tenS {n x : Int} {k : Nat} (h : n = x * 10 ^ k) (hm : Int.tmod x 10 = 0) : n = Int.tdiv x 10 * 10 ^ (k + 1) := by
  have h1 := Int.tmod_add_mul_tdiv x 10
  rw [Int.pow_succ, Int.mul_comm (10 ^ k) 10, ← Int.mul_assoc, h]
  congr 1
  omega
theorem inR_tdivS {x : Int} (h : inR x) : inR (Int.tdiv x 10) := by
  have h1 := Int.tmod_add_mul_tdiv x 10
  have h3 : -10 < Int.tmod x 10 ∧ Int.tmod x 10 < 10 := by
    constructor
    · have := Int.lt_tmod_of_pos x (show (0 : Int) < 10 by omega); omega
    · exact Int.tmod_lt_of_pos _ (by omega)
  unfold inR at *
  omega
theorem tdiv_smallS {x : Int} (hx : x ≠ 0) : (Int.tdiv x 10).natAbs < x.natAbs := by
  rw [Int.natAbs_tdiv]
  exact Nat.div_lt_self (by omega) (by decide)
theorem tdiv_neS {x : Int} (hx : x ≠ 0) (hm : Int.tmod x 10 = 0) : Int.tdiv x 10 ≠ 0 := by
  have h1 := Int.tmod_add_mul_tdiv x 10
  intro h
  rw [hm, h] at h1
  omega
theorem big_power {x e : Int} (hx : x ≠ 0) (he : 20 < e) : ¬ (0 ≤ e ∧ inR (x * 10 ^ e.toNat)) := fun h => by
  have := pow_big hx h.2
  omega
/-- One step more. -/
theorem mul_step (x : Int) (i : Nat) : x * 10 ^ (i + 1) = x * 10 ^ i * 10 := by rw [Int.pow_succ, Int.mul_assoc]
theorem inR_less {x : Int} {i k : Nat} (h : i ≤ k) (hk : inR (x * 10 ^ k)) : inR (x * 10 ^ i) := by
  have e : x * 10 ^ k = x * 10 ^ i * 10 ^ (k - i) := by rw [Int.mul_assoc, ← Int.pow_add, show i + (k - i) = k by omega]
  rw [e] at hk
  exact inR_of_mul hk

set_option maxHeartbeats 1000000 in
theorem specTen (n : Int) (w : World) (hn : inR n) :
    Calls Try.prog 11 #[.int .i64 n] w fun e w' => e = .returned (.tuple #[.int .i64 (wrap64 (n * 10)), .bool (decide (inR (n * 10)))]) ∧ w = w' := by
  have hw := wrap_ten hn
  have HW : Hid ((wrap64 (Int.tdiv (wrap64 (n * 10)) 10) == n) = decide (inR (n * 10))) := Lib.hid (by
    rw [wrap_tdiv, Bool.eq_iff_iff, beq_iff_eq, decide_eq_true_iff]
    exact hw)
  have hr := hn
  unfold inR at hr
  clear hw hn
  go_enter Try.func11, Try.ntmps11
  go_wp2_with fail
  go_ret2
  exact ⟨by rw [HW.out]; rfl, rfl⟩
set_option maxHeartbeats 1000000 in
theorem specInt (n : Int) (w : World) : Calls Try.prog 10 #[.int .i64 n] w fun e w' => e = .returned ((V.int n).agg none 0) ∧ Below w.heap.size w w' := by
  go_enter Try.func10, Try.ntmps10
  go_wp2_with fail
  refine bodyPost_ret (v := .agg #[.int .i64 3, .int .i64 n, .int .i64 0, .string ⟨#[]⟩, .slice none 0 0]) (by simp [results, Try.results10, go_sem]) rfl ⟨rfl, ?_⟩
  repeat (first | exact (Below.refl _ w).alloc (Nat.le_refl _) _ | (refine Below.setCell ?_ (by simp) _))

set_option maxHeartbeats 8000000 in
theorem specNorm_out (n e : Int) (w : World) (he : ¬ (-1000 ≤ e ∧ e ≤ 1000)) : Calls Try.prog 4 #[.int .i64 n, .int .i64 e] w (NormRet n e w) := by
  have HN := Lib.hid (normR_out (n := n) he)
  rcases (show decide (-1000 ≤ e) = false ∨ (decide (-1000 ≤ e) = true ∧ decide (e ≤ 1000) = false) by
    by_cases h : -1000 ≤ e
    · exact .inr ⟨decide_eq_true h, decide_eq_false (fun h2 => he ⟨h, h2⟩)⟩
    · exact .inl (decide_eq_false h)) with hc | hc
  all_goals
    clear he
    go_enter Try.func4, Try.ntmps4
    go_wp2_with (go_at_call 9; go_in)
    refine bodyPost_ret (v := .tuple #[.agg #[.int .i64 0, .int .i64 0, .int .i64 0, .string ⟨#[]⟩, .slice none 0 0], .bool false]) (by simp [results, Try.results4, go_sem]) rfl (normRet_none HN.out rfl ?_)
    repeat (first | exact (Below.refl _ w).alloc (Nat.le_refl _) _ | (refine Below.setCell ?_ (by simp) _))

set_option maxHeartbeats 8000000 in
theorem specNorm_zero (e : Int) (w : World) (he : -1000 ≤ e ∧ e ≤ 1000) : Calls Try.prog 4 #[.int .i64 0, .int .i64 e] w (NormRet 0 e w) := by
  have HN := Lib.hid (normR_zero he)
  have hd1 : decide (-1000 ≤ e) = true := decide_eq_true he.1
  have hd2 : decide (e ≤ 1000) = true := decide_eq_true he.2
  clear he
  go_enter Try.func4, Try.ntmps4
  go_wp2_with (go_at_call 9; go_in)
  have B0 := Blk.new w 24 #[.int .i64 0, .int .i64 0, .int .i64 0, .string ⟨#[]⟩, .slice none 0 0]
  have b0 : Below w.heap.size w (w.alloc (.cells #[.int .i64 0, .int .i64 0, .int .i64 0, .string ⟨#[]⟩, .slice none 0 0] 24)) := (Below.refl _ w).alloc (Nat.le_refl _) _
  refine (specInt 0 _).mono ?_
  rintro r w1 ⟨rfl, hb1⟩
  have B1 := B0.below hb1 B0.lt
  obtain ⟨q0, q1, q2, q3, q4⟩ := B1.five
  have f0 := B1.frozen 0
  have f1 := B1.frozen 1
  have f2 := B1.frozen 2
  have f3 := B1.frozen 3
  have f4 := B1.frozen 4
  have b1 := b0.trans (hb1.mono b0.size)
  have HB1 := Lib.hid b1
  clear B0 b0 hb1 B1 b1
  unfold V.agg
  go_wp2_with fail
  refine bodyPost_ret (v := .tuple #[.agg #[.int .i64 3, .int .i64 0, .int .i64 0, .string ⟨#[]⟩, .slice none 0 0], .bool true]) (by simp [results, Try.results4, go_sem, q0, q1, q2, q3, q4, V.int, V.k, V.n, V.e, V.s, V.kids]) rfl (normRet_some HN.out rfl ?_)
  repeat (first | exact HB1.out | (refine Below.setCell ?_ (by simp) _))

set_option maxHeartbeats 8000000 in
theorem specNorm_in (n e : Int) (w : World) (hn : inR n) (h0 : n ≠ 0) (he : -1000 ≤ e ∧ e ≤ 1000) : Calls Try.prog 4 #[.int .i64 n, .int .i64 e] w (NormRet n e w) := by
  have hd1 : decide (-1000 ≤ e) = true := decide_eq_true he.1
  have hd2 : decide (e ≤ 1000) = true := decide_eq_true he.2
  have hq0 : (n == 0) = false := by simpa using h0
  obtain ⟨he1, he2⟩ := he
  have HN := Lib.hid hn
  have H0 := Lib.hid h0
  clear hn h0
  go_enter Try.func4, Try.ntmps4
  go_wp2_with (go_at_call 9; go_in)
  obtain ⟨w0, hw0⟩ : ∃ w0, w0 = w.alloc (.cells #[.int .i64 0, .int .i64 0, .int .i64 0, .string ⟨#[]⟩, .slice none 0 0] 24) := ⟨_, rfl⟩
  have B0 : Blk w0 w.heap.size 24 #[.int .i64 0, .int .i64 0, .int .i64 0, .string ⟨#[]⟩, .slice none 0 0] := by rw [hw0]; exact Blk.new w _ _
  have b0 : Below w.heap.size w w0 := by rw [hw0]; exact (Below.refl _ w).alloc (Nat.le_refl _) _
  rw [← hw0]
  have lv := B0.lt
  have HB0 := Lib.hid b0
  have HV0 := Lib.hid B0
  clear hw0 B0 b0
  go_loop [0, 1] (fun z y => ∃ (x : Int) (k : Nat), z = .int .i64 x ∧ y = .int .i64 (e + k) ∧ n = x * 10 ^ k ∧ inR x ∧ x ≠ 0) (fun z _ => (intOf z).natAbs)
  case atStart => exact ⟨n, 0, rfl, by simp, by simp, HN.out, H0.out⟩
  case round =>
    obtain ⟨x, k, rfl, rfl, hnx, hx, hx0⟩ := hrel
    have hxr := hx
    unfold inR at hxr
    have HX := Lib.hid hx
    have HNX := Lib.hid hnx
    obtain ⟨q0, q1, q2, q3, q4⟩ := HV0.out.five
    have f0 := HV0.out.frozen 0
    have f1 := HV0.out.frozen 1
    have f2 := HV0.out.frozen 2
    have f3 := HV0.out.frozen 3
    have f4 := HV0.out.frozen 4
    have hk18 : k ≤ 18 := pow_big hx0 (by rw [← hnx]; exact HN.out)
    by_cases hm : Int.tmod x 10 = 0
    · have qm : (Int.tmod x 10 == 0) = true := by rw [hm]; rfl
      have hq := inR_tdivS hx
      have hqr := hq
      unfold inR at hqr
      have HQ := Lib.hid hq
      have HT := Lib.hid (tdiv_tenS hnx hm)
      have HS := Lib.hid (tdiv_smallS hx0)
      have HNE := Lib.hid (tdiv_neS hx0 hm)
      clear hx hnx hm hx0 hq
      go_wp2_with fail
      go_round
      case rel => exact ⟨Int.tdiv x 10, k + 1, by go_num, by go_num, HT.out, HQ.out, HNE.out⟩
      case measure => simp only [intOf]; first | exact HS.out | (have := HS.out; go_num; omega)
    · have qm : (Int.tmod x 10 == 0) = false := by simpa using hm
      have HR := Lib.hid (normR_of ⟨he1, he2⟩ HN.out hm hnx)
      have HX0 := Lib.hid hx0
      clear hm hnx hx0
      by_cases hp : 0 ≤ e + (k : Int) ∧ e + (k : Int) ≤ 20
      · obtain ⟨hp1, hp2⟩ := hp
        have qp : decide (0 ≤ e + (k : Int)) = true := decide_eq_true hp1
        have qp2 : decide (e + (k : Int) ≤ 20) = true := decide_eq_true hp2
        obtain ⟨p, hpp⟩ := Int.eq_ofNat_of_zero_le hp1
        have HPP := Lib.hid hpp
        have hpt : (e + (k : Int)).toNat = p := by omega
        have HPT := Lib.hid hpt
        have hp20 : p ≤ 20 := by omega
        clear hx hpp hpt
        go_wp2_with fail
        go_loop [6, 7, 8] (fun m ok i => ∃ (j : Nat) (b : Bool) (y : Int), j ≤ p ∧ i = .int .i64 j ∧ ok = .bool b ∧ m = .int .i64 y ∧ ((b = true ∧ y = x * 10 ^ j ∧ inR (x * 10 ^ j)) ∨ (b = false ∧ ¬ inR (x * 10 ^ p)))) (fun _ ok i => 2 * (p - (intOf i).toNat) + (if ok = .bool true then 1 else 0))
        case atStart => exact ⟨0, true, x, Nat.zero_le _, rfl, rfl, rfl, .inl ⟨rfl, by simp, by simpa using HX.out⟩⟩
        case round =>
          obtain ⟨j, b, y, hj, rfl, rfl, rfl, hb⟩ := hrel
          rcases hb with ⟨rfl, hy, hin⟩ | ⟨rfl, hout⟩
          · by_cases hjp : j < p
            · have qj : decide ((j : Int) < e + (k : Int)) = true := decide_eq_true (by have := HPP.out; omega)
              rw [← hy] at hin
              have hyr := hin
              unfold inR at hyr
              have HIN := Lib.hid hin
              have HY := Lib.hid hy
              have hye : x * 10 ^ (j + 1) = y * 10 := by rw [mul_step, ← hy]
              have HYE := Lib.hid hye
              clear hy hin hye
              by_cases h10 : inR (y * 10)
              · have h10r := h10
                unfold inR at h10r
                have hw10 : wrap64 (y * 10) = y * 10 := by rw [wrap64_eq]; omega
                have HD := Lib.hid (decide_eq_true h10)
                have HI := Lib.hid h10
                clear h10
                go_wp2_with fail
                refine (specTen y w0 HIN.out).mono ?_
                rintro r w1 ⟨rfl, rfl⟩
                rw [HD.out, hw10]
                go_wp2_with fail
                go_round
                case rel => exact ⟨j + 1, true, y * 10, by omega, by go_num, rfl, rfl, .inl ⟨rfl, HYE.out.symm, by rw [HYE.out]; exact HI.out⟩⟩
                case measure => simp [intOf]; omega
              · have HD := Lib.hid (decide_eq_false h10)
                have HO : Hid (¬ inR (x * 10 ^ p)) := Lib.hid (fun h => h10 (by rw [← HYE.out]; exact inR_less (by omega) h))
                obtain ⟨y2, hy2⟩ : ∃ y2, wrap64 (y * 10) = y2 := ⟨_, rfl⟩
                clear h10
                go_wp2_with fail
                refine (specTen y w0 HIN.out).mono ?_
                rintro r w1 ⟨rfl, rfl⟩
                rw [HD.out, hy2]
                clear hy2
                go_wp2_with fail
                go_round
                case rel => exact ⟨j + 1, false, y2, by omega, by go_num, rfl, rfl, .inr ⟨rfl, HO.out⟩⟩
                case measure => simp [intOf]; omega
            · obtain rfl : j = p := by omega
              have qj : decide ((j : Int) < e + (k : Int)) = false := decide_eq_false (by have := HPP.out; omega)
              have HRV : Hid (normR n e = some (V.int y)) := Lib.hid (by
                rw [HR.out, normV_pos_some hp1 (by rw [HPT.out]; exact hin), HPT.out, ← hy])
              clear hy hin
              go_wp2_with fail
              refine (specInt y w0).mono ?_
              rintro r w1 ⟨rfl, hb1⟩
              have B1 := HV0.out.below hb1 lv
              have hl1 := B1.lt
              have HB1 : Hid (Below w.heap.size w w1) := Lib.hid (HB0.out.trans (hb1.mono HB0.out.size))
              clear q0 q1 q2 q3 q4 f0 f1 f2 f3 f4
              obtain ⟨q0, q1, q2, q3, q4⟩ := B1.five
              have f0 := B1.frozen 0
              have f1 := B1.frozen 1
              have f2 := B1.frozen 2
              have f3 := B1.frozen 3
              have f4 := B1.frozen 4
              clear hb1 B1
              unfold V.agg
              go_wp2_with fail
              refine bodyPost_ret (v := .tuple #[.agg #[.int .i64 3, .int .i64 y, .int .i64 0, .string ⟨#[]⟩, .slice none 0 0], .bool true]) (by simp [results, Try.results4, go_sem, q0, q1, q2, q3, q4, V.int, V.k, V.n, V.e, V.s, V.kids]) rfl (normRet_some HRV.out rfl ?_)
              repeat (first | exact HB1.out | (refine Below.setCell ?_ (by simp) _))
          · have HNO : Hid (¬ (0 ≤ e + (k : Int) ∧ inR (x * 10 ^ (e + (k : Int)).toNat))) := Lib.hid (fun h => hout (by rw [← HPT.out]; exact h.2))
            clear hout
            by_cases hjp : j < p
            · have qj : decide ((j : Int) < e + (k : Int)) = true := decide_eq_true (by have := HPP.out; omega)
              go_wp2_with fail
              obtain ⟨w2, hw2⟩ : ∃ w2, w2 = w0.alloc (.cells #[.int .i64 4, .int .i64 x, .int .i64 (e + k), .string ⟨#[]⟩, .slice none 0 0] 24) := ⟨_, rfl⟩
              have B2 : Blk w2 w0.heap.size 24 #[.int .i64 4, .int .i64 x, .int .i64 (e + k), .string ⟨#[]⟩, .slice none 0 0] := by rw [hw2]; exact Blk.new w0 _ _
              have bx2 : Below w0.heap.size w0 w2 := by rw [hw2]; exact (Below.refl _ w0).alloc (Nat.le_refl _) _
              rw [← hw2]
              clear hw2
              refine (specValueOk (V.dec x (e + k)) none 0 w2 (by simp [V.dec, V.weight, Vs.weight, ByteArray.size]) (by simp [V.dec, V.kids, Vs.at_])).mono ?_
              rintro r w3 ⟨rfl, hb3⟩
              have b03 : Below w0.heap.size w0 w3 := bx2.trans (hb3.mono bx2.size)
              have B3 := B2.below hb3 B2.lt
              have V3 := HV0.out.below b03 lv
              have bw3 : Below w.heap.size w w3 := HB0.out.trans (b03.mono HB0.out.size)
              have HBW := Lib.hid bw3
              have hl3 := V3.lt
              clear q0 q1 q2 q3 q4 f0 f1 f2 f3 f4
              obtain ⟨q0, q1, q2, q3, q4⟩ := V3.five
              obtain ⟨r0, r1, r2, r3, r4⟩ := B3.five
              have f0 := V3.frozen 0
              have f1 := V3.frozen 1
              have f2 := V3.frozen 2
              have f3 := V3.frozen 3
              have f4 := V3.frozen 4
              clear hb3 b03 bx2 B2 B3 V3 bw3
              by_cases hd : decOk x (e + k)
              · rw [show decide (okV (V.dec x (e + k))) = true from decide_eq_true ((okV_dec _ _).2 hd)]
                have HRV := Lib.hid (HR.out.trans (normV_dec HNO.out hd))
                clear hd
                go_wp2_with fail
                refine bodyPost_ret (v := .tuple #[.agg #[.int .i64 4, .int .i64 x, .int .i64 (e + k), .string ⟨#[]⟩, .slice none 0 0], .bool true]) (by simp [results, Try.results4, go_sem, q0, q1, q2, q3, q4]) rfl (normRet_some HRV.out rfl ?_)
                repeat (first | exact HBW.out | (refine Below.setCell ?_ (by simp) _))
              · rw [show decide (okV (V.dec x (e + k))) = false from decide_eq_false (fun h => hd ((okV_dec _ _).1 h))]
                have HRV := Lib.hid (HR.out.trans (normV_none HNO.out hd))
                clear hd
                go_wp2_with fail
                refine bodyPost_ret (v := .tuple #[.agg #[.int .i64 0, .int .i64 0, .int .i64 0, .string ⟨#[]⟩, .slice none 0 0], .bool false]) (by simp [results, Try.results4, go_sem, q0, q1, q2, q3, q4]) rfl (normRet_none HRV.out rfl ?_)
                repeat (first | exact HBW.out | (refine Below.setCell ?_ (by simp) _))
            · have qj : decide ((j : Int) < e + (k : Int)) = false := decide_eq_false (by have := HPP.out; omega)
              go_wp2_with fail
              obtain ⟨w2, hw2⟩ : ∃ w2, w2 = w0.alloc (.cells #[.int .i64 4, .int .i64 x, .int .i64 (e + k), .string ⟨#[]⟩, .slice none 0 0] 24) := ⟨_, rfl⟩
              have B2 : Blk w2 w0.heap.size 24 #[.int .i64 4, .int .i64 x, .int .i64 (e + k), .string ⟨#[]⟩, .slice none 0 0] := by rw [hw2]; exact Blk.new w0 _ _
              have bx2 : Below w0.heap.size w0 w2 := by rw [hw2]; exact (Below.refl _ w0).alloc (Nat.le_refl _) _
              rw [← hw2]
              clear hw2
              refine (specValueOk (V.dec x (e + k)) none 0 w2 (by simp [V.dec, V.weight, Vs.weight, ByteArray.size]) (by simp [V.dec, V.kids, Vs.at_])).mono ?_
              rintro r w3 ⟨rfl, hb3⟩
              have b03 : Below w0.heap.size w0 w3 := bx2.trans (hb3.mono bx2.size)
              have B3 := B2.below hb3 B2.lt
              have V3 := HV0.out.below b03 lv
              have bw3 : Below w.heap.size w w3 := HB0.out.trans (b03.mono HB0.out.size)
              have HBW := Lib.hid bw3
              have hl3 := V3.lt
              clear q0 q1 q2 q3 q4 f0 f1 f2 f3 f4
              obtain ⟨q0, q1, q2, q3, q4⟩ := V3.five
              obtain ⟨r0, r1, r2, r3, r4⟩ := B3.five
              have f0 := V3.frozen 0
              have f1 := V3.frozen 1
              have f2 := V3.frozen 2
              have f3 := V3.frozen 3
              have f4 := V3.frozen 4
              clear hb3 b03 bx2 B2 B3 V3 bw3
              by_cases hd : decOk x (e + k)
              · rw [show decide (okV (V.dec x (e + k))) = true from decide_eq_true ((okV_dec _ _).2 hd)]
                have HRV := Lib.hid (HR.out.trans (normV_dec HNO.out hd))
                clear hd
                go_wp2_with fail
                refine bodyPost_ret (v := .tuple #[.agg #[.int .i64 4, .int .i64 x, .int .i64 (e + k), .string ⟨#[]⟩, .slice none 0 0], .bool true]) (by simp [results, Try.results4, go_sem, q0, q1, q2, q3, q4]) rfl (normRet_some HRV.out rfl ?_)
                repeat (first | exact HBW.out | (refine Below.setCell ?_ (by simp) _))
              · rw [show decide (okV (V.dec x (e + k))) = false from decide_eq_false (fun h => hd ((okV_dec _ _).1 h))]
                have HRV := Lib.hid (HR.out.trans (normV_none HNO.out hd))
                clear hd
                go_wp2_with fail
                refine bodyPost_ret (v := .tuple #[.agg #[.int .i64 0, .int .i64 0, .int .i64 0, .string ⟨#[]⟩, .slice none 0 0], .bool false]) (by simp [results, Try.results4, go_sem, q0, q1, q2, q3, q4]) rfl (normRet_none HRV.out rfl ?_)
                repeat (first | exact HBW.out | (refine Below.setCell ?_ (by simp) _))
      · have HNO : Hid (¬ (0 ≤ e + (k : Int) ∧ inR (x * 10 ^ (e + (k : Int)).toNat))) := Lib.hid (fun h => by
          by_cases h20 : e + (k : Int) ≤ 20
          · exact hp ⟨h.1, h20⟩
          · exact big_power HX0.out (by omega) h)
        rcases (show decide (0 ≤ e + (k : Int)) = false ∨ (decide (0 ≤ e + (k : Int)) = true ∧ decide (e + (k : Int) ≤ 20) = false) by
          by_cases h : 0 ≤ e + (k : Int)
          · exact .inr ⟨decide_eq_true h, decide_eq_false (fun h2 => hp ⟨h, h2⟩)⟩
          · exact .inl (decide_eq_false h)) with hc | ⟨hc, hc2⟩
        all_goals
          clear hx hp
          go_wp2_with fail
          obtain ⟨w2, hw2⟩ : ∃ w2, w2 = w0.alloc (.cells #[.int .i64 4, .int .i64 x, .int .i64 (e + k), .string ⟨#[]⟩, .slice none 0 0] 24) := ⟨_, rfl⟩
          have B2 : Blk w2 w0.heap.size 24 #[.int .i64 4, .int .i64 x, .int .i64 (e + k), .string ⟨#[]⟩, .slice none 0 0] := by rw [hw2]; exact Blk.new w0 _ _
          have bx2 : Below w0.heap.size w0 w2 := by rw [hw2]; exact (Below.refl _ w0).alloc (Nat.le_refl _) _
          rw [← hw2]
          clear hw2
          refine (specValueOk (V.dec x (e + k)) none 0 w2 (by simp [V.dec, V.weight, Vs.weight, ByteArray.size]) (by simp [V.dec, V.kids, Vs.at_])).mono ?_
          rintro r w3 ⟨rfl, hb3⟩
          have b03 : Below w0.heap.size w0 w3 := bx2.trans (hb3.mono bx2.size)
          have B3 := B2.below hb3 B2.lt
          have V3 := HV0.out.below b03 lv
          have bw3 : Below w.heap.size w w3 := HB0.out.trans (b03.mono HB0.out.size)
          have HBW := Lib.hid bw3
          have hl3 := V3.lt
          clear q0 q1 q2 q3 q4 f0 f1 f2 f3 f4
          obtain ⟨q0, q1, q2, q3, q4⟩ := V3.five
          obtain ⟨r0, r1, r2, r3, r4⟩ := B3.five
          have f0 := V3.frozen 0
          have f1 := V3.frozen 1
          have f2 := V3.frozen 2
          have f3 := V3.frozen 3
          have f4 := V3.frozen 4
          clear hb3 b03 bx2 B2 B3 V3 bw3
          by_cases hd : decOk x (e + k)
          · rw [show decide (okV (V.dec x (e + k))) = true from decide_eq_true ((okV_dec _ _).2 hd)]
            have HRV := Lib.hid (HR.out.trans (normV_dec HNO.out hd))
            clear hd
            go_wp2_with fail
            refine bodyPost_ret (v := .tuple #[.agg #[.int .i64 4, .int .i64 x, .int .i64 (e + k), .string ⟨#[]⟩, .slice none 0 0], .bool true]) (by simp [results, Try.results4, go_sem, q0, q1, q2, q3, q4]) rfl (normRet_some HRV.out rfl ?_)
            repeat (first | exact HBW.out | (refine Below.setCell ?_ (by simp) _))
          · rw [show decide (okV (V.dec x (e + k))) = false from decide_eq_false (fun h => hd ((okV_dec _ _).1 h))]
            have HRV := Lib.hid (HR.out.trans (normV_none HNO.out hd))
            clear hd
            go_wp2_with fail
            refine bodyPost_ret (v := .tuple #[.agg #[.int .i64 0, .int .i64 0, .int .i64 0, .string ⟨#[]⟩, .slice none 0 0], .bool false]) (by simp [results, Try.results4, go_sem, q0, q1, q2, q3, q4]) rfl (normRet_none HRV.out rfl ?_)
            repeat (first | exact HBW.out | (refine Below.setCell ?_ (by simp) _))
theorem specNorm (n e : Int) (w : World) (hn : inR n) : Calls Try.prog 4 #[.int .i64 n, .int .i64 e] w (NormRet n e w) := by
  by_cases he : -1000 ≤ e ∧ e ≤ 1000
  · by_cases h0 : n = 0
    · subst h0; exact specNorm_zero e w he
    · exact specNorm_in n e w hn h0 he
  · exact specNorm_out n e w he
end Go.Proofs.Ytbflkcldjjpioaa
