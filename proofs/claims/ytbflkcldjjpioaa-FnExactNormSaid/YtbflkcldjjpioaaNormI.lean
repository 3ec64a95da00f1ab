/-
  Norm of the program.
-/
import Derived.Test.YtbflkcldjjpioaaNormP
import Derived.Test.YtbflkcldjjpioaaRightJ
namespace Go.Proofs.Ytbflkcldjjpioaa
open Go.RowKit
set_option linter.unusedVariables false
set_option linter.unusedSimpArgs false
set_option maxRecDepth 100000

theorem tdiv_ten {n x : Int} {k : Nat} (h : n = x * 10 ^ k) (hm : Int.tmod x 10 = 0) : n = Int.tdiv x 10 * 10 ^ (k + 1) := by
  have h1 := Int.tmod_add_mul_tdiv x 10
  rw [Int.pow_succ, Int.mul_comm (10 ^ k) 10, ← Int.mul_assoc, h]
  congr 1
  omega
theorem inR_tdiv {x : Int} (h : inR x) : inR (Int.tdiv x 10) := by
  have h1 := Int.tmod_add_mul_tdiv x 10
  have h3 : -10 < Int.tmod x 10 ∧ Int.tmod x 10 < 10 := by
    constructor
    · have := Int.lt_tmod_of_pos x (show (0 : Int) < 10 by omega); omega
    · exact Int.tmod_lt_of_pos _ (by omega)
  unfold inR at *
  omega
theorem tdiv_small {x : Int} (hx : x ≠ 0) : (Int.tdiv x 10).natAbs < x.natAbs := by
  rw [Int.natAbs_tdiv]
  exact Nat.div_lt_self (by omega) (by decide)
theorem tdiv_ne {x : Int} (hx : x ≠ 0) (hm : Int.tmod x 10 = 0) : Int.tdiv x 10 ≠ 0 := by
  have h1 := Int.tmod_add_mul_tdiv x 10
  intro h
  rw [hm, h] at h1
  omega

set_option maxHeartbeats 8000000 in
theorem implNorm_out (n e : Int) (w : World) (he : ¬ (-1000 ≤ e ∧ e ≤ 1000)) : Calls Try.prog 5 #[.int .i64 n, .int .i64 e] w (NormRet n e w) := by
  have HN := Lib.hid (normR_out (n := n) he)
  rcases (show decide (-1000 ≤ e) = false ∨ (decide (-1000 ≤ e) = true ∧ decide (e ≤ 1000) = false) by
    by_cases h : -1000 ≤ e
    · exact .inr ⟨decide_eq_true h, decide_eq_false (fun h2 => he ⟨h, h2⟩)⟩
    · exact .inl (decide_eq_false h)) with hc | hc
  all_goals
    clear he
    go_enter Try.func5, Try.ntmps5
    go_wp2_with (go_at_call 13; go_in)
    refine bodyPost_ret (v := .tuple #[.agg #[.int .i64 0, .int .i64 0, .int .i64 0, .string ⟨#[]⟩, .slice none 0 0], .bool false]) (by simp [results, Try.results5, go_sem]) rfl (normRet_none HN.out rfl ?_)
    repeat (first | exact (Below.refl _ w).alloc (Nat.le_refl _) _ | (refine Below.setCell ?_ (by simp) _))

set_option maxHeartbeats 8000000 in
theorem implNorm_in (n e : Int) (w : World) (hn : inR n) (he : -1000 ≤ e ∧ e ≤ 1000) : Calls Try.prog 5 #[.int .i64 n, .int .i64 e] w (NormRet n e w) := by
  have hd1 : decide (-1000 ≤ e) = true := decide_eq_true he.1
  have hd2 : decide (e ≤ 1000) = true := decide_eq_true he.2
  obtain ⟨he1, he2⟩ := he
  have HN := Lib.hid hn
  clear hn
  go_enter Try.func5, Try.ntmps5
  go_wp2_with (go_at_call 13; go_in)
  obtain ⟨w0, hw0⟩ : ∃ w0, w0 = w.alloc (.cells #[.int .i64 0, .int .i64 0, .int .i64 0, .string ⟨#[]⟩, .slice none 0 0] 24) := ⟨_, rfl⟩
  have B0 : Blk w0 w.heap.size 24 #[.int .i64 0, .int .i64 0, .int .i64 0, .string ⟨#[]⟩, .slice none 0 0] := by rw [hw0]; exact Blk.new w _ _
  have b0 : Below w.heap.size w w0 := by rw [hw0]; exact (Below.refl _ w).alloc (Nat.le_refl _) _
  have z0 : w0.heap.size = w.heap.size + 1 := by rw [hw0]; simp
  rw [← hw0]
  have lv := B0.lt
  have HB0 := Lib.hid b0
  have HV0 := Lib.hid B0
  have HZ0 := Lib.hid z0
  clear hw0 B0 b0 z0
  go_loop [0, 1] (fun z y => ∃ (x : Int) (k : Nat), z = .int .i64 x ∧ y = .int .i64 (e + k) ∧ n = x * 10 ^ k ∧ inR x) (fun z _ => (intOf z).natAbs)
  case atStart => exact ⟨n, 0, rfl, by simp, by simp, HN.out⟩
  case round =>
    obtain ⟨x, k, rfl, rfl, hnx, hx⟩ := hrel
    have hxr := hx
    unfold inR at hxr
    have HX := Lib.hid hx
    have HNX := Lib.hid hnx
    obtain ⟨q0, q1, q2, q3, q4⟩ := HV0.out.five
    have f0 := HV0.out.frozen 0
    have f1 := HV0.out.frozen 1
    have f2 := HV0.out.frozen 2
    have f3 := HV0.out.frozen 3
    have f4 := HV0.out.frozen 4
    by_cases hx0 : x = 0
    · subst hx0
      have HR : Hid (normR n e = some (V.int 0)) := Lib.hid (by rw [hnx, Int.zero_mul]; exact normR_zero ⟨he1, he2⟩)
      clear hx hnx
      go_wp2_with fail
      refine bodyPost_ret (v := .tuple #[.agg #[.int .i64 3, .int .i64 0, .int .i64 0, .string ⟨#[]⟩, .slice none 0 0], .bool true]) (by simp [results, Try.results5, go_sem, q0, q1, q2, q3, q4]) rfl (normRet_some HR.out rfl ?_)
      repeat (first | exact HB0.out | (refine Below.setCell ?_ (by simp) _))
    have hk18 : k ≤ 18 := pow_big hx0 (by rw [← hnx]; exact HN.out)
    have qx : (x != 0) = true := by simpa using hx0
    have qx2 : (x == 0) = false := by simpa using hx0
    by_cases hek : e + k = 0
    · have HR := Lib.hid (normR_whole ⟨he1, he2⟩ HN.out hx0 hnx hek)
      have qe : (e + (k : Int) != 0) = false := by rw [hek]; rfl
      have qe2 : (e + (k : Int) == 0) = true := by rw [hek]; rfl
      clear hx hnx hek hx0
      by_cases hm : Int.tmod x 10 = 0
      · have qm : (Int.tmod x 10 == 0) = true := by rw [hm]; rfl
        clear hm
        go_wp2_with fail
        refine bodyPost_ret (v := .tuple #[.agg #[.int .i64 3, .int .i64 x, .int .i64 0, .string ⟨#[]⟩, .slice none 0 0], .bool true]) (by simp [results, Try.results5, go_sem, q0, q1, q2, q3, q4]) rfl (normRet_some HR.out rfl ?_)
        repeat (first | exact HB0.out | (refine Below.setCell ?_ (by simp) _))
      · have qm : (Int.tmod x 10 == 0) = false := by simpa using hm
        clear hm
        go_wp2_with fail
        refine bodyPost_ret (v := .tuple #[.agg #[.int .i64 3, .int .i64 x, .int .i64 0, .string ⟨#[]⟩, .slice none 0 0], .bool true]) (by simp [results, Try.results5, go_sem, q0, q1, q2, q3, q4]) rfl (normRet_some HR.out rfl ?_)
        repeat (first | exact HB0.out | (refine Below.setCell ?_ (by simp) _))
    have qe : (e + (k : Int) != 0) = true := by simpa using hek
    have qe2 : (e + (k : Int) == 0) = false := by simpa using hek
    by_cases hm : Int.tmod x 10 = 0
    · have qm : (Int.tmod x 10 == 0) = true := by rw [hm]; rfl
      have hq := inR_tdiv hx
      have hqr := hq
      unfold inR at hqr
      have HQ := Lib.hid hq
      have HT := Lib.hid (tdiv_ten hnx hm)
      have HS := Lib.hid (tdiv_small hx0)
      clear hx hnx hm hx0 hq hek
      go_wp2_with fail
      go_round
      case rel => exact ⟨Int.tdiv x 10, k + 1, by go_num, by go_num, HT.out, HQ.out⟩
      case measure => simp only [intOf]; first | exact HS.out | (have := HS.out; go_num; omega)
    · have qm : (Int.tmod x 10 == 0) = false := by simpa using hm
      have HR := Lib.hid (normR_of ⟨he1, he2⟩ HN.out hm hnx)
      clear hm hnx hx0
      by_cases hp : 0 < e + k
      · have qp : decide (0 < e + (k : Int)) = true := decide_eq_true hp
        by_cases hin : inR (x * 10 ^ (e + (k : Int)).toNat)
        · have ht : tens x (e + (k : Int)).toNat = some (x * 10 ^ (e + (k : Int)).toNat) := by rw [tens_mul _ x hx, if_pos hin]
          have HRV := Lib.hid (HR.out.trans (normV_pos_some (by omega) hin))
          have HTT := Lib.hid ht
          obtain ⟨y, hy⟩ : ∃ y, x * 10 ^ (e + (k : Int)).toNat = y := ⟨_, rfl⟩
          rw [hy] at HRV HTT
          clear hx hin ht hy hek
          go_wp2_with fail
          refine (implFitsI x (e + k) w0 HX.out hp (by omega)).mono ?_
          rintro r w1 ⟨rfl, rfl⟩
          rw [HTT.out]
          go_wp2_with fail
          refine bodyPost_ret (v := .tuple #[.agg #[.int .i64 3, .int .i64 y, .int .i64 0, .string ⟨#[]⟩, .slice none 0 0], .bool true]) (by simp [results, Try.results5, go_sem, q0, q1, q2, q3, q4]) rfl (normRet_some HRV.out rfl ?_)
          repeat (first | exact HB0.out | (refine Below.setCell ?_ (by simp) _))
        · have ht : tens x (e + (k : Int)).toNat = none := by rw [tens_mul _ x hx, if_neg hin]
          have HNO : Hid (¬ (0 ≤ e + (k : Int) ∧ inR (x * 10 ^ (e + (k : Int)).toNat))) := Lib.hid (fun h => hin h.2)
          have HTT := Lib.hid ht
          clear hx hin ht hek
          go_wp2_with fail
          refine (implFitsI x (e + k) w0 HX.out hp (by omega)).mono ?_
          rintro r w1 ⟨rfl, rfl⟩
          rw [HTT.out]
          go_wp2_with fail
          go_loop [0, 1] (fun z y => z = .int .i64 x ∧ y = .int .i64 (e + k)) (fun _ _ => 0)
          case atStart => exact ⟨rfl, rfl⟩
          case round =>
            obtain ⟨rfl, rfl⟩ := hrel
            go_wp2_with fail
            obtain ⟨w2, hw2⟩ : ∃ w2, w2 = w0.alloc (.cells #[.int .i64 4, .int .i64 x, .int .i64 (e + k), .string ⟨#[]⟩, .slice none 0 0] 24) := ⟨_, rfl⟩
            have B2 : Blk w2 w0.heap.size 24 #[.int .i64 4, .int .i64 x, .int .i64 (e + k), .string ⟨#[]⟩, .slice none 0 0] := by rw [hw2]; exact Blk.new w0 _ _
            have bx2 : Below w0.heap.size w0 w2 := by rw [hw2]; exact (Below.refl _ w0).alloc (Nat.le_refl _) _
            rw [← hw2]
            clear hw2
            refine (implIsDec (V.dec x (e + k)) none 0 w2).mono ?_
            rintro r w3 ⟨rfl, hb3⟩
            have b03 : Below w0.heap.size w0 w3 := bx2.trans (hb3.mono bx2.size)
            have B3 := B2.below hb3 B2.lt
            have V3 := HV0.out.below b03 lv
            have bw3 : Below w.heap.size w w3 := HB0.out.trans (b03.mono HB0.out.size)
            have HBW := Lib.hid bw3
            have hl3 := V3.lt
            clear q0 q1 q2 q3 q4 f0 f1 f2 f3 f4
            obtain ⟨q0, q1, q2, q3, q4⟩ := V3.five
            obtain ⟨r0, r1, r2, r3, r4⟩ := B3.five
            have f0 := V3.frozen 0
            have f1 := V3.frozen 1
            have f2 := V3.frozen 2
            have f3 := V3.frozen 3
            have f4 := V3.frozen 4
            clear hb3 b03 bx2 B2 B3 V3 bw3
            by_cases hd : decOk x (e + k)
            · rw [show decide (decOk (V.dec x (e + k)).n (V.dec x (e + k)).e) = true from decide_eq_true hd]
              have HRV := Lib.hid (HR.out.trans (normV_dec HNO.out hd))
              clear hd
              go_wp2_with fail
              refine bodyPost_ret (v := .tuple #[.agg #[.int .i64 4, .int .i64 x, .int .i64 (e + k), .string ⟨#[]⟩, .slice none 0 0], .bool true]) (by simp [results, Try.results5, go_sem, q0, q1, q2, q3, q4]) rfl (normRet_some HRV.out rfl ?_)
              repeat (first | exact HBW.out | (refine Below.setCell ?_ (by simp) _))
            · rw [show decide (decOk (V.dec x (e + k)).n (V.dec x (e + k)).e) = false from decide_eq_false hd]
              have HRV := Lib.hid (HR.out.trans (normV_none HNO.out hd))
              clear hd
              go_wp2_with fail
              refine bodyPost_ret (v := .tuple #[.agg #[.int .i64 0, .int .i64 0, .int .i64 0, .string ⟨#[]⟩, .slice none 0 0], .bool false]) (by simp [results, Try.results5, go_sem, q0, q1, q2, q3, q4]) rfl (normRet_none HRV.out rfl ?_)
              repeat (first | exact HBW.out | (refine Below.setCell ?_ (by simp) _))
      · have qp : decide (0 < e + (k : Int)) = false := decide_eq_false hp
        have HNO : Hid (¬ (0 ≤ e + (k : Int) ∧ inR (x * 10 ^ (e + (k : Int)).toNat))) := Lib.hid (fun h => by omega)
        clear hx hek
        go_wp2_with fail
        obtain ⟨w2, hw2⟩ : ∃ w2, w2 = w0.alloc (.cells #[.int .i64 4, .int .i64 x, .int .i64 (e + k), .string ⟨#[]⟩, .slice none 0 0] 24) := ⟨_, rfl⟩
        have B2 : Blk w2 w0.heap.size 24 #[.int .i64 4, .int .i64 x, .int .i64 (e + k), .string ⟨#[]⟩, .slice none 0 0] := by rw [hw2]; exact Blk.new w0 _ _
        have bx2 : Below w0.heap.size w0 w2 := by rw [hw2]; exact (Below.refl _ w0).alloc (Nat.le_refl _) _
        rw [← hw2]
        clear hw2
        refine (implIsDec (V.dec x (e + k)) none 0 w2).mono ?_
        rintro r w3 ⟨rfl, hb3⟩
        have b03 : Below w0.heap.size w0 w3 := bx2.trans (hb3.mono bx2.size)
        have B3 := B2.below hb3 B2.lt
        have V3 := HV0.out.below b03 lv
        have bw3 : Below w.heap.size w w3 := HB0.out.trans (b03.mono HB0.out.size)
        have HBW := Lib.hid bw3
        have hl3 := V3.lt
        clear q0 q1 q2 q3 q4 f0 f1 f2 f3 f4
        obtain ⟨q0, q1, q2, q3, q4⟩ := V3.five
        obtain ⟨r0, r1, r2, r3, r4⟩ := B3.five
        have f0 := V3.frozen 0
        have f1 := V3.frozen 1
        have f2 := V3.frozen 2
        have f3 := V3.frozen 3
        have f4 := V3.frozen 4
        clear hb3 b03 bx2 B2 B3 V3 bw3
        by_cases hd : decOk x (e + k)
        · rw [show decide (decOk (V.dec x (e + k)).n (V.dec x (e + k)).e) = true from decide_eq_true hd]
          have HRV := Lib.hid (HR.out.trans (normV_dec HNO.out hd))
          clear hd
          go_wp2_with fail
          refine bodyPost_ret (v := .tuple #[.agg #[.int .i64 4, .int .i64 x, .int .i64 (e + k), .string ⟨#[]⟩, .slice none 0 0], .bool true]) (by simp [results, Try.results5, go_sem, q0, q1, q2, q3, q4]) rfl (normRet_some HRV.out rfl ?_)
          repeat (first | exact HBW.out | (refine Below.setCell ?_ (by simp) _))
        · rw [show decide (decOk (V.dec x (e + k)).n (V.dec x (e + k)).e) = false from decide_eq_false hd]
          have HRV := Lib.hid (HR.out.trans (normV_none HNO.out hd))
          clear hd
          go_wp2_with fail
          refine bodyPost_ret (v := .tuple #[.agg #[.int .i64 0, .int .i64 0, .int .i64 0, .string ⟨#[]⟩, .slice none 0 0], .bool false]) (by simp [results, Try.results5, go_sem, q0, q1, q2, q3, q4]) rfl (normRet_none HRV.out rfl ?_)
          repeat (first | exact HBW.out | (refine Below.setCell ?_ (by simp) _))
theorem implNorm (n e : Int) (w : World) (hn : inR n) : Calls Try.prog 5 #[.int .i64 n, .int .i64 e] w (NormRet n e w) := by
  by_cases he : -1000 ≤ e ∧ e ≤ 1000
  · exact implNorm_in n e w hn he
  · exact implNorm_out n e w he
end Go.Proofs.Ytbflkcldjjpioaa
