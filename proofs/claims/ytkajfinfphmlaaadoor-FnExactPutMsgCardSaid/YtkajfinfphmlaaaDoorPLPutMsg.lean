/-
  FnExactPutMsg returns true for every value that can be read; it reads as it did; no conditions.
-/
import Derived.Test.YtkajfinfphmlaaaDoorPaLPutMsg
import Derived.Deep.RegionWith
import Derived.Test.YtkajfinfphmlaaaDoorCards
import Derived.Test.YtkajfinfphmlaaaDoorTie
import Derived.Lay
import Derived.LaidOnce
import Derived.SevenTiedAt
/-
  The program's putMsg: kinds 5 6 7 8.
-/
namespace Go.Proofs.YtkajfinfphmlaaaDoor
open Go.RowKit
set_option linter.unusedVariables false
set_option linter.unusedSimpArgs false
set_option maxRecDepth 100000

set_option maxHeartbeats 4000000 in
theorem implMsg_5 (v : V) (hk : ∀ i (h : i < v.kids.length), ImplMsgSaid v.kids[i]) (hkd : v.k = 5) : ImplMsgSaid v := by
  intro A cap B b l w hr hf hw hlen hat hBw hB
  obtain ⟨d, hr⟩ := hr
  have hr3 := (V.right_eq _ _).1 hr
  obtain ⟨hw1, hw2, hw3⟩ := V.weight_kids v
  have hl : v.kids.length ≤ 1048576 := by omega
  have hss : v.s.size ≤ 1048576 := by omega
  have hf3 := (V.fits_eq v).1 hf
  have hbl := hB.lt
  have hbB := hB.base
  have HKR := Lib.hid (fun (i : Nat) (h : i < v.kids.length) => (Vs.right_iff _ _).1 hr3.2.2 i h)
  have HKF := Lib.hid (fun (i : Nat) (h : i < v.kids.length) => Vs.fits_get i h hf3.2.2.1)
  have HKW := Lib.hid (fun (i : Nat) (h : i < v.kids.length) => (show (v.kids[i]).weight ≤ 1048576 by have := Vs.weight_get i h; omega))
  have HL := Lib.hid hlen
  have hol := ownM_le hlen
  have HC := Lib.hid hk
  have HA := Lib.hid hat
  have HB := Lib.hid hB
  have HQ := Lib.hid (V.msg_eq v)
  have RN := Lib.hid hf3.2.2.2.2.1
  have RE := Lib.hid hf3.2.2.2.2.2
  have q0 : (v.k == 0) = false := by rw [hkd]; rfl
  have q1 : (v.k == 1) = false := by rw [hkd]; rfl
  have q2 : (v.k == 2) = false := by rw [hkd]; rfl
  have q3 : (v.k == 3) = false := by rw [hkd]; rfl
  have q4 : (v.k == 4) = false := by rw [hkd]; rfl
  have q5 : (v.k == 5) = true := by rw [hkd]; rfl
  have q6 : (v.k == 6) = false := by rw [hkd]; rfl
  have q7 : (v.k == 7) = false := by rw [hkd]; rfl
  have q8 : (v.k == 8) = false := by rw [hkd]; rfl
  have q9 : (v.k == 9) = false := by rw [hkd]; rfl
  have HO : Hid (v.ownMsg = msgMany v.s.size 32 160 217 218 ++ v.s.data.toList) := Lib.hid (by unfold V.ownMsg; simp [hkd])
  have hon : (msgMany v.s.size 32 160 217 218 ++ v.s.data.toList).length ≤ 1048616 := by have h1 := V.ownMsg_len v; rw [HO.out] at h1; omega
  have hu0 : IntKind.u64.wrap (v.kids.length : Int) = (v.kids.length : Int) := by rw [IntKind.wrap_u64]; omega
  have hu1 : IntKind.u64.wrap ((v.kids.length : Int) / 2) = (v.kids.length : Int) / 2 := by rw [IntKind.wrap_u64]; omega
  clear hk hat hB hr hr3 hf hf3 hlen hkd
  have hb0 : Below w.heap.size w (w.alloc (.cells #[.int .i64 v.k, .int .i64 v.n, .int .i64 v.e, .string v.s, .slice A v.kids.length cap] 29)) := (Below.refl _ w).alloc (Nat.le_refl _) _
  obtain ⟨w0, hw0⟩ : ∃ w0, w0 = w.alloc (.cells #[.int .i64 v.k, .int .i64 v.n, .int .i64 v.e, .string v.s, .slice A v.kids.length cap] 29) := ⟨_, rfl⟩
  have B0 : Blk w0 w.heap.size 29 #[.int .i64 v.k, .int .i64 v.n, .int .i64 v.e, .string v.s, .slice A v.kids.length cap] := by rw [hw0]; exact Blk.new w _ _
  rw [← hw0] at hb0
  have k0 : OK8 b w w0 := (OK8.refl b w).below hb0
  have F0 : BF B b l w0 := HB.out.below hb0
  have hs0 := hb0.size
  have lv := B0.lt
  have HF0 := Lib.hid F0
  have HK0 := Lib.hid k0
  have HB0 := Lib.hid hb0
  have HV0 := Lib.hid B0
  obtain ⟨p0, p1, p2, p3, p4⟩ := B0.five
  clear F0 k0 hb0 B0
  unfold V.agg
  go_enter Tryd.func23, Tryd.ntmps23
  go_wp2_with fail
  rw [← hw0]
  clear hw0
  have keep0 : ∀ w' : World, Below w0.heap.size w0 w' → w'.cell? ⟨w.heap.size, 3, none⟩ = some (.string v.s) ∧ w'.cell? ⟨w.heap.size, 4, none⟩ = some (.slice A v.kids.length cap) := fun w' hb => ⟨(HV0.out.below hb lv).cell 3, (HV0.out.below hb lv).cell 4⟩
  have KE := Lib.hid keep0
  have hbr : Below w0.heap.size w0 w0 := Below.refl _ _
  have KW : Hid (∀ w1 w2 : World, Below w0.heap.size w0 w1 → OK8 b w1 w2 → w2.cell? ⟨w.heap.size, 3, none⟩ = some (.string v.s) ∧ w2.cell? ⟨w.heap.size, 4, none⟩ = some (.slice A v.kids.length cap)) := Lib.hid (fun w1 w2 h1 h2 => ⟨(h2.blk (HV0.out.below h1 lv) (by omega) vt_ne).cell 3, (h2.blk (HV0.out.below h1 lv) (by omega) vt_ne).cell 4⟩)
  have hs1 : IntKind.u64.wrap (v.s.size : Int) = (v.s.size : Int) := by rw [IntKind.wrap_u64]; omega
  clear keep0 p0 p1 p2
  have hadd : ∀ W : World, (Op.stringOp .add (str (msgMany v.s.size 32 160 217 218)) v.s).run Tryd.prog W = .ok (.string (str (msgMany v.s.size 32 160 217 218 ++ v.s.data.toList))) W := fun W => by
    have h := str_sum (P := Tryd.prog) (msgMany v.s.size 32 160 217 218) v.s.data.toList (by have h1 := msgMany_len v.s.size 32 160 217 218; have h2 : v.s.data.toList.length = v.s.size := rfl; omega) W
    rwa [show str v.s.data.toList = v.s by simp [str]] at h
  go_region_held3 (fun w' => w'.cell? ⟨w.heap.size, 3, none⟩ = some (.string v.s) ∧ w'.cell? ⟨w.heap.size, 4, none⟩ = some (.slice A v.kids.length cap)) (first | exact KW.out _ _ hbx k2 | exact KE.out _ hbx | exact KE.out _ hbr.drew | exact KE.out _ hbr)
    (first
    | (have hgate := hbx; clear hgate; go_at_call 37; refine (bfWrite B b l _ w1 (HF0.out.below hbx) (by rw [size_str]; omega) (by have := hbx.size; omega)).mono ?_; rintro e w2 ⟨rfl, F2, hb2, k2⟩; rw [data_str, ← HO.out] at F2)
    | (go_at_call 39; refine (implMsgMany v.s.size 160 32 217 218 w0.drew (by omega) (by omega) (by omega) (by omega) (by omega) (by omega)).mono ?_; rintro e w1 ⟨rfl, hbx'⟩; have hbx : Below w0.heap.size w0 w1 := hbr.drew.trans hbx'))
  clear KE KW hbr hadd hs1 p3 p4
  have B2 := k2.blk (HV0.out.below hbx lv) (by omega) vt_ne
  have Kw : OK8 b w w2 := (HK0.out.below (hbx.mono (Nat.le_refl _))).trans k2
  have Bw : Below B w w2 := ((HB0.out.trans (hbx.mono hs0)).mono hBw).trans hb2
  have HF2 : Hid (BF B b (l ++ v.ownMsg) w2) := Lib.hid F2
  have HKw := Lib.hid Kw
  have HBw := Lib.hid Bw
  obtain ⟨p0, p1, p2, p3, p4⟩ := B2.five
  clear F2 Kw Bw B2 k2 hb2 hbx
  go_wp2_with fail
  go_loopw [93] (fun i wr => ∃ j : Nat, j ≤ v.kids.length ∧ i = .int .i64 j ∧ MgRel v B b l w j wr) (fun i _ => v.kids.length - (intOf i).toNat)
  case atStart => exact ⟨0, Nat.zero_le _, rfl, by simpa [Vs.msg] using HF2.out, HBw.out, HKw.out⟩
  case round =>
    obtain ⟨j, hj, rfl, hr⟩ := hrel
    have HR := Lib.hid hr
    have hszr : B ≤ wr.heap.size := Nat.le_trans hBw hr.2.1.size
    clear hr p0 p1 p2 p3 p4
    by_cases hlt : j < v.kids.length
    · obtain ⟨bb, off, A', cap', rfl, g1, g2, g3, ⟨c0, c1, c2, c3, c4⟩, g5⟩ := Vs.at_get j hlt (Vs.at_below HA.out HR.out.2.1 (Nat.le_refl _))
      have G5 := Lib.hid g5
      have hbbl : bb < wr.heap.size := by omega
      clear g5
      go_wp2_with fail
      refine (HC.out j hlt A' cap' B b (l ++ (v.ownMsg ++ Vs.msg (v.kids.take j))) _ ⟨_, HKR.out j hlt⟩ (HKF.out j hlt) (HKW.out j hlt) (mgrel_bound hlt HL.out) (Vs.at_alloc G5.out hszr _) (by simp; omega) (HR.out.1.alloc _)).mono ?_
      rintro e w3 ⟨rfl, F3, b3, k3⟩
      have hrel : MgRel v B b l w (j + 1) w3 := ⟨by rw [Vs.msg_step v.kids j hlt]; simpa using F3, (HR.out.2.1.alloc hszr _).trans b3, (HR.out.2.2.alloc _).trans k3⟩
      have HREL := Lib.hid hrel
      clear F3 b3 k3 hrel c0 c1 c2 c3 c4
      go_wp2_with fail
      go_roundw
      case rel => exact ⟨j + 1, by omega, by go_num, HREL.out⟩
      case measure => simp [intOf]; omega
    · obtain rfl : j = v.kids.length := by omega
      go_wp2_with fail
      go_end0
      have h := HR.out
      unfold MgRel at h
      rw [List.take_length, ← HQ.out] at h
      exact ⟨rfl, h⟩

set_option maxHeartbeats 4000000 in
theorem implMsg_6 (v : V) (hk : ∀ i (h : i < v.kids.length), ImplMsgSaid v.kids[i]) (hkd : v.k = 6) : ImplMsgSaid v := by
  intro A cap B b l w hr hf hw hlen hat hBw hB
  obtain ⟨d, hr⟩ := hr
  have hr3 := (V.right_eq _ _).1 hr
  obtain ⟨hw1, hw2, hw3⟩ := V.weight_kids v
  have hl : v.kids.length ≤ 1048576 := by omega
  have hss : v.s.size ≤ 1048576 := by omega
  have hf3 := (V.fits_eq v).1 hf
  have hbl := hB.lt
  have hbB := hB.base
  have HKR := Lib.hid (fun (i : Nat) (h : i < v.kids.length) => (Vs.right_iff _ _).1 hr3.2.2 i h)
  have HKF := Lib.hid (fun (i : Nat) (h : i < v.kids.length) => Vs.fits_get i h hf3.2.2.1)
  have HKW := Lib.hid (fun (i : Nat) (h : i < v.kids.length) => (show (v.kids[i]).weight ≤ 1048576 by have := Vs.weight_get i h; omega))
  have HL := Lib.hid hlen
  have hol := ownM_le hlen
  have HC := Lib.hid hk
  have HA := Lib.hid hat
  have HB := Lib.hid hB
  have HQ := Lib.hid (V.msg_eq v)
  have RN := Lib.hid hf3.2.2.2.2.1
  have RE := Lib.hid hf3.2.2.2.2.2
  have q0 : (v.k == 0) = false := by rw [hkd]; rfl
  have q1 : (v.k == 1) = false := by rw [hkd]; rfl
  have q2 : (v.k == 2) = false := by rw [hkd]; rfl
  have q3 : (v.k == 3) = false := by rw [hkd]; rfl
  have q4 : (v.k == 4) = false := by rw [hkd]; rfl
  have q5 : (v.k == 5) = false := by rw [hkd]; rfl
  have q6 : (v.k == 6) = true := by rw [hkd]; rfl
  have q7 : (v.k == 7) = false := by rw [hkd]; rfl
  have q8 : (v.k == 8) = false := by rw [hkd]; rfl
  have q9 : (v.k == 9) = false := by rw [hkd]; rfl
  have HO : Hid (v.ownMsg = msgMany v.s.size 0 0 196 197 ++ v.s.data.toList) := Lib.hid (by unfold V.ownMsg; simp [hkd])
  have hon : (msgMany v.s.size 0 0 196 197 ++ v.s.data.toList).length ≤ 1048616 := by have h1 := V.ownMsg_len v; rw [HO.out] at h1; omega
  have hu0 : IntKind.u64.wrap (v.kids.length : Int) = (v.kids.length : Int) := by rw [IntKind.wrap_u64]; omega
  have hu1 : IntKind.u64.wrap ((v.kids.length : Int) / 2) = (v.kids.length : Int) / 2 := by rw [IntKind.wrap_u64]; omega
  clear hk hat hB hr hr3 hf hf3 hlen hkd
  have hb0 : Below w.heap.size w (w.alloc (.cells #[.int .i64 v.k, .int .i64 v.n, .int .i64 v.e, .string v.s, .slice A v.kids.length cap] 29)) := (Below.refl _ w).alloc (Nat.le_refl _) _
  obtain ⟨w0, hw0⟩ : ∃ w0, w0 = w.alloc (.cells #[.int .i64 v.k, .int .i64 v.n, .int .i64 v.e, .string v.s, .slice A v.kids.length cap] 29) := ⟨_, rfl⟩
  have B0 : Blk w0 w.heap.size 29 #[.int .i64 v.k, .int .i64 v.n, .int .i64 v.e, .string v.s, .slice A v.kids.length cap] := by rw [hw0]; exact Blk.new w _ _
  rw [← hw0] at hb0
  have k0 : OK8 b w w0 := (OK8.refl b w).below hb0
  have F0 : BF B b l w0 := HB.out.below hb0
  have hs0 := hb0.size
  have lv := B0.lt
  have HF0 := Lib.hid F0
  have HK0 := Lib.hid k0
  have HB0 := Lib.hid hb0
  have HV0 := Lib.hid B0
  obtain ⟨p0, p1, p2, p3, p4⟩ := B0.five
  clear F0 k0 hb0 B0
  unfold V.agg
  go_enter Tryd.func23, Tryd.ntmps23
  go_wp2_with fail
  rw [← hw0]
  clear hw0
  have keep0 : ∀ w' : World, Below w0.heap.size w0 w' → w'.cell? ⟨w.heap.size, 3, none⟩ = some (.string v.s) ∧ w'.cell? ⟨w.heap.size, 4, none⟩ = some (.slice A v.kids.length cap) := fun w' hb => ⟨(HV0.out.below hb lv).cell 3, (HV0.out.below hb lv).cell 4⟩
  have KE := Lib.hid keep0
  have hbr : Below w0.heap.size w0 w0 := Below.refl _ _
  have KW : Hid (∀ w1 w2 : World, Below w0.heap.size w0 w1 → OK8 b w1 w2 → w2.cell? ⟨w.heap.size, 3, none⟩ = some (.string v.s) ∧ w2.cell? ⟨w.heap.size, 4, none⟩ = some (.slice A v.kids.length cap)) := Lib.hid (fun w1 w2 h1 h2 => ⟨(h2.blk (HV0.out.below h1 lv) (by omega) vt_ne).cell 3, (h2.blk (HV0.out.below h1 lv) (by omega) vt_ne).cell 4⟩)
  have hs1 : IntKind.u64.wrap (v.s.size : Int) = (v.s.size : Int) := by rw [IntKind.wrap_u64]; omega
  clear keep0 p0 p1 p2
  have hadd : ∀ W : World, (Op.stringOp .add (str (msgMany v.s.size 0 0 196 197)) v.s).run Tryd.prog W = .ok (.string (str (msgMany v.s.size 0 0 196 197 ++ v.s.data.toList))) W := fun W => by
    have h := str_sum (P := Tryd.prog) (msgMany v.s.size 0 0 196 197) v.s.data.toList (by have h1 := msgMany_len v.s.size 0 0 196 197; have h2 : v.s.data.toList.length = v.s.size := rfl; omega) W
    rwa [show str v.s.data.toList = v.s by simp [str]] at h
  go_region_held3 (fun w' => w'.cell? ⟨w.heap.size, 3, none⟩ = some (.string v.s) ∧ w'.cell? ⟨w.heap.size, 4, none⟩ = some (.slice A v.kids.length cap)) (first | exact KW.out _ _ hbx k2 | exact KE.out _ hbx | exact KE.out _ hbr.drew | exact KE.out _ hbr)
    (first
    | (have hgate := hbx; clear hgate; go_at_call 37; refine (bfWrite B b l _ w1 (HF0.out.below hbx) (by rw [size_str]; omega) (by have := hbx.size; omega)).mono ?_; rintro e w2 ⟨rfl, F2, hb2, k2⟩; rw [data_str, ← HO.out] at F2)
    | (go_at_call 39; refine (implMsgMany v.s.size 0 0 196 197 w0.drew (by omega) (by omega) (by omega) (by omega) (by omega) (by omega)).mono ?_; rintro e w1 ⟨rfl, hbx'⟩; have hbx : Below w0.heap.size w0 w1 := hbr.drew.trans hbx'))
  clear KE KW hbr hadd hs1 p3 p4
  have B2 := k2.blk (HV0.out.below hbx lv) (by omega) vt_ne
  have Kw : OK8 b w w2 := (HK0.out.below (hbx.mono (Nat.le_refl _))).trans k2
  have Bw : Below B w w2 := ((HB0.out.trans (hbx.mono hs0)).mono hBw).trans hb2
  have HF2 : Hid (BF B b (l ++ v.ownMsg) w2) := Lib.hid F2
  have HKw := Lib.hid Kw
  have HBw := Lib.hid Bw
  obtain ⟨p0, p1, p2, p3, p4⟩ := B2.five
  clear F2 Kw Bw B2 k2 hb2 hbx
  go_wp2_with fail
  go_loopw [93] (fun i wr => ∃ j : Nat, j ≤ v.kids.length ∧ i = .int .i64 j ∧ MgRel v B b l w j wr) (fun i _ => v.kids.length - (intOf i).toNat)
  case atStart => exact ⟨0, Nat.zero_le _, rfl, by simpa [Vs.msg] using HF2.out, HBw.out, HKw.out⟩
  case round =>
    obtain ⟨j, hj, rfl, hr⟩ := hrel
    have HR := Lib.hid hr
    have hszr : B ≤ wr.heap.size := Nat.le_trans hBw hr.2.1.size
    clear hr p0 p1 p2 p3 p4
    by_cases hlt : j < v.kids.length
    · obtain ⟨bb, off, A', cap', rfl, g1, g2, g3, ⟨c0, c1, c2, c3, c4⟩, g5⟩ := Vs.at_get j hlt (Vs.at_below HA.out HR.out.2.1 (Nat.le_refl _))
      have G5 := Lib.hid g5
      have hbbl : bb < wr.heap.size := by omega
      clear g5
      go_wp2_with fail
      refine (HC.out j hlt A' cap' B b (l ++ (v.ownMsg ++ Vs.msg (v.kids.take j))) _ ⟨_, HKR.out j hlt⟩ (HKF.out j hlt) (HKW.out j hlt) (mgrel_bound hlt HL.out) (Vs.at_alloc G5.out hszr _) (by simp; omega) (HR.out.1.alloc _)).mono ?_
      rintro e w3 ⟨rfl, F3, b3, k3⟩
      have hrel : MgRel v B b l w (j + 1) w3 := ⟨by rw [Vs.msg_step v.kids j hlt]; simpa using F3, (HR.out.2.1.alloc hszr _).trans b3, (HR.out.2.2.alloc _).trans k3⟩
      have HREL := Lib.hid hrel
      clear F3 b3 k3 hrel c0 c1 c2 c3 c4
      go_wp2_with fail
      go_roundw
      case rel => exact ⟨j + 1, by omega, by go_num, HREL.out⟩
      case measure => simp [intOf]; omega
    · obtain rfl : j = v.kids.length := by omega
      go_wp2_with fail
      go_end0
      have h := HR.out
      unfold MgRel at h
      rw [List.take_length, ← HQ.out] at h
      exact ⟨rfl, h⟩

set_option maxHeartbeats 4000000 in
theorem implMsg_7 (v : V) (hk : ∀ i (h : i < v.kids.length), ImplMsgSaid v.kids[i]) (hkd : v.k = 7) : ImplMsgSaid v := by
  intro A cap B b l w hr hf hw hlen hat hBw hB
  obtain ⟨d, hr⟩ := hr
  have hr3 := (V.right_eq _ _).1 hr
  obtain ⟨hw1, hw2, hw3⟩ := V.weight_kids v
  have hl : v.kids.length ≤ 1048576 := by omega
  have hss : v.s.size ≤ 1048576 := by omega
  have hf3 := (V.fits_eq v).1 hf
  have hbl := hB.lt
  have hbB := hB.base
  have HKR := Lib.hid (fun (i : Nat) (h : i < v.kids.length) => (Vs.right_iff _ _).1 hr3.2.2 i h)
  have HKF := Lib.hid (fun (i : Nat) (h : i < v.kids.length) => Vs.fits_get i h hf3.2.2.1)
  have HKW := Lib.hid (fun (i : Nat) (h : i < v.kids.length) => (show (v.kids[i]).weight ≤ 1048576 by have := Vs.weight_get i h; omega))
  have HL := Lib.hid hlen
  have hol := ownM_le hlen
  have HC := Lib.hid hk
  have HA := Lib.hid hat
  have HB := Lib.hid hB
  have HQ := Lib.hid (V.msg_eq v)
  have RN := Lib.hid hf3.2.2.2.2.1
  have RE := Lib.hid hf3.2.2.2.2.2
  have q0 : (v.k == 0) = false := by rw [hkd]; rfl
  have q1 : (v.k == 1) = false := by rw [hkd]; rfl
  have q2 : (v.k == 2) = false := by rw [hkd]; rfl
  have q3 : (v.k == 3) = false := by rw [hkd]; rfl
  have q4 : (v.k == 4) = false := by rw [hkd]; rfl
  have q5 : (v.k == 5) = false := by rw [hkd]; rfl
  have q6 : (v.k == 6) = false := by rw [hkd]; rfl
  have q7 : (v.k == 7) = true := by rw [hkd]; rfl
  have q8 : (v.k == 8) = false := by rw [hkd]; rfl
  have q9 : (v.k == 9) = false := by rw [hkd]; rfl
  have HO : Hid (v.ownMsg = msgMany v.kids.length 16 144 0 220) := Lib.hid (by unfold V.ownMsg; simp [hkd])
  have hon : (msgMany v.kids.length 16 144 0 220).length ≤ 1048616 := by have h1 := V.ownMsg_len v; rw [HO.out] at h1; omega
  have hu0 : IntKind.u64.wrap (v.kids.length : Int) = (v.kids.length : Int) := by rw [IntKind.wrap_u64]; omega
  have hu1 : IntKind.u64.wrap ((v.kids.length : Int) / 2) = (v.kids.length : Int) / 2 := by rw [IntKind.wrap_u64]; omega
  clear hk hat hB hr hr3 hf hf3 hlen hkd
  have hb0 : Below w.heap.size w (w.alloc (.cells #[.int .i64 v.k, .int .i64 v.n, .int .i64 v.e, .string v.s, .slice A v.kids.length cap] 29)) := (Below.refl _ w).alloc (Nat.le_refl _) _
  obtain ⟨w0, hw0⟩ : ∃ w0, w0 = w.alloc (.cells #[.int .i64 v.k, .int .i64 v.n, .int .i64 v.e, .string v.s, .slice A v.kids.length cap] 29) := ⟨_, rfl⟩
  have B0 : Blk w0 w.heap.size 29 #[.int .i64 v.k, .int .i64 v.n, .int .i64 v.e, .string v.s, .slice A v.kids.length cap] := by rw [hw0]; exact Blk.new w _ _
  rw [← hw0] at hb0
  have k0 : OK8 b w w0 := (OK8.refl b w).below hb0
  have F0 : BF B b l w0 := HB.out.below hb0
  have hs0 := hb0.size
  have lv := B0.lt
  have HF0 := Lib.hid F0
  have HK0 := Lib.hid k0
  have HB0 := Lib.hid hb0
  have HV0 := Lib.hid B0
  obtain ⟨p0, p1, p2, p3, p4⟩ := B0.five
  clear F0 k0 hb0 B0
  unfold V.agg
  go_enter Tryd.func23, Tryd.ntmps23
  go_wp2_with fail
  rw [← hw0]
  clear hw0
  have HP := implMsgMany v.kids.length 144 16 0 220 w0 (by omega) (by omega) (by omega) (by omega) (by omega) (by omega)
  refine HP.mono ?_
  rintro e w1 ⟨rfl, hbx⟩
  clear HP
  go_wp2_with fail
  have hBx : B ≤ w1.heap.size := by have := hbx.size; omega
  have hsl : l.length + (str (msgMany v.kids.length 16 144 0 220)).size ≤ 140737488355328 := by rw [size_str]; have := congrArg List.length HO.out; omega
  refine (bfWrite B b l _ w1 (HF0.out.below hbx) hsl hBx).mono ?_
  rintro e w2 ⟨rfl, F2, hb2, k2⟩
  rw [data_str, ← HO.out] at F2
  clear hsl p0 p1 p2 p3 p4
  have B2 := k2.blk (HV0.out.below hbx lv) (by omega) vt_ne
  have Kw : OK8 b w w2 := (HK0.out.below (hbx.mono (Nat.le_refl _))).trans k2
  have Bw : Below B w w2 := ((HB0.out.trans (hbx.mono hs0)).mono hBw).trans hb2
  have HF2 : Hid (BF B b (l ++ v.ownMsg) w2) := Lib.hid F2
  have HKw := Lib.hid Kw
  have HBw := Lib.hid Bw
  obtain ⟨p0, p1, p2, p3, p4⟩ := B2.five
  clear F2 Kw Bw B2 k2 hb2 hbx
  go_wp2_with fail
  go_loopw [93] (fun i wr => ∃ j : Nat, j ≤ v.kids.length ∧ i = .int .i64 j ∧ MgRel v B b l w j wr) (fun i _ => v.kids.length - (intOf i).toNat)
  case atStart => exact ⟨0, Nat.zero_le _, rfl, by simpa [Vs.msg] using HF2.out, HBw.out, HKw.out⟩
  case round =>
    obtain ⟨j, hj, rfl, hr⟩ := hrel
    have HR := Lib.hid hr
    have hszr : B ≤ wr.heap.size := Nat.le_trans hBw hr.2.1.size
    clear hr p0 p1 p2 p3 p4
    by_cases hlt : j < v.kids.length
    · obtain ⟨bb, off, A', cap', rfl, g1, g2, g3, ⟨c0, c1, c2, c3, c4⟩, g5⟩ := Vs.at_get j hlt (Vs.at_below HA.out HR.out.2.1 (Nat.le_refl _))
      have G5 := Lib.hid g5
      have hbbl : bb < wr.heap.size := by omega
      clear g5
      go_wp2_with fail
      refine (HC.out j hlt A' cap' B b (l ++ (v.ownMsg ++ Vs.msg (v.kids.take j))) _ ⟨_, HKR.out j hlt⟩ (HKF.out j hlt) (HKW.out j hlt) (mgrel_bound hlt HL.out) (Vs.at_alloc G5.out hszr _) (by simp; omega) (HR.out.1.alloc _)).mono ?_
      rintro e w3 ⟨rfl, F3, b3, k3⟩
      have hrel : MgRel v B b l w (j + 1) w3 := ⟨by rw [Vs.msg_step v.kids j hlt]; simpa using F3, (HR.out.2.1.alloc hszr _).trans b3, (HR.out.2.2.alloc _).trans k3⟩
      have HREL := Lib.hid hrel
      clear F3 b3 k3 hrel c0 c1 c2 c3 c4
      go_wp2_with fail
      go_roundw
      case rel => exact ⟨j + 1, by omega, by go_num, HREL.out⟩
      case measure => simp [intOf]; omega
    · obtain rfl : j = v.kids.length := by omega
      go_wp2_with fail
      go_end0
      have h := HR.out
      unfold MgRel at h
      rw [List.take_length, ← HQ.out] at h
      exact ⟨rfl, h⟩

set_option maxHeartbeats 4000000 in
theorem implMsg_8 (v : V) (hk : ∀ i (h : i < v.kids.length), ImplMsgSaid v.kids[i]) (hkd : v.k = 8) : ImplMsgSaid v := by
  intro A cap B b l w hr hf hw hlen hat hBw hB
  obtain ⟨d, hr⟩ := hr
  have hr3 := (V.right_eq _ _).1 hr
  obtain ⟨hw1, hw2, hw3⟩ := V.weight_kids v
  have hl : v.kids.length ≤ 1048576 := by omega
  have hss : v.s.size ≤ 1048576 := by omega
  have hf3 := (V.fits_eq v).1 hf
  have hbl := hB.lt
  have hbB := hB.base
  have HKR := Lib.hid (fun (i : Nat) (h : i < v.kids.length) => (Vs.right_iff _ _).1 hr3.2.2 i h)
  have HKF := Lib.hid (fun (i : Nat) (h : i < v.kids.length) => Vs.fits_get i h hf3.2.2.1)
  have HKW := Lib.hid (fun (i : Nat) (h : i < v.kids.length) => (show (v.kids[i]).weight ≤ 1048576 by have := Vs.weight_get i h; omega))
  have HL := Lib.hid hlen
  have hol := ownM_le hlen
  have HC := Lib.hid hk
  have HA := Lib.hid hat
  have HB := Lib.hid hB
  have HQ := Lib.hid (V.msg_eq v)
  have RN := Lib.hid hf3.2.2.2.2.1
  have RE := Lib.hid hf3.2.2.2.2.2
  have q0 : (v.k == 0) = false := by rw [hkd]; rfl
  have q1 : (v.k == 1) = false := by rw [hkd]; rfl
  have q2 : (v.k == 2) = false := by rw [hkd]; rfl
  have q3 : (v.k == 3) = false := by rw [hkd]; rfl
  have q4 : (v.k == 4) = false := by rw [hkd]; rfl
  have q5 : (v.k == 5) = false := by rw [hkd]; rfl
  have q6 : (v.k == 6) = false := by rw [hkd]; rfl
  have q7 : (v.k == 7) = false := by rw [hkd]; rfl
  have q8 : (v.k == 8) = true := by rw [hkd]; rfl
  have q9 : (v.k == 9) = false := by rw [hkd]; rfl
  have HO : Hid (v.ownMsg = msgMany ((v.kids.length / 2 : Nat) : Int) 16 128 0 222) := Lib.hid (by unfold V.ownMsg; simp [hkd])
  have hon : (msgMany ((v.kids.length / 2 : Nat) : Int) 16 128 0 222).length ≤ 1048616 := by have h1 := V.ownMsg_len v; rw [HO.out] at h1; omega
  have hu0 : IntKind.u64.wrap (v.kids.length : Int) = (v.kids.length : Int) := by rw [IntKind.wrap_u64]; omega
  have hu1 : IntKind.u64.wrap ((v.kids.length : Int) / 2) = (v.kids.length : Int) / 2 := by rw [IntKind.wrap_u64]; omega
  clear hk hat hB hr hr3 hf hf3 hlen hkd
  have hb0 : Below w.heap.size w (w.alloc (.cells #[.int .i64 v.k, .int .i64 v.n, .int .i64 v.e, .string v.s, .slice A v.kids.length cap] 29)) := (Below.refl _ w).alloc (Nat.le_refl _) _
  obtain ⟨w0, hw0⟩ : ∃ w0, w0 = w.alloc (.cells #[.int .i64 v.k, .int .i64 v.n, .int .i64 v.e, .string v.s, .slice A v.kids.length cap] 29) := ⟨_, rfl⟩
  have B0 : Blk w0 w.heap.size 29 #[.int .i64 v.k, .int .i64 v.n, .int .i64 v.e, .string v.s, .slice A v.kids.length cap] := by rw [hw0]; exact Blk.new w _ _
  rw [← hw0] at hb0
  have k0 : OK8 b w w0 := (OK8.refl b w).below hb0
  have F0 : BF B b l w0 := HB.out.below hb0
  have hs0 := hb0.size
  have lv := B0.lt
  have HF0 := Lib.hid F0
  have HK0 := Lib.hid k0
  have HB0 := Lib.hid hb0
  have HV0 := Lib.hid B0
  obtain ⟨p0, p1, p2, p3, p4⟩ := B0.five
  clear F0 k0 hb0 B0
  unfold V.agg
  go_enter Tryd.func23, Tryd.ntmps23
  go_wp2_with fail
  rw [← hw0]
  clear hw0
  have HP := implMsgMany ((v.kids.length / 2 : Nat) : Int) 128 16 0 222 w0 (by omega) (by omega) (by omega) (by omega) (by omega) (by omega)
  rw [show ((v.kids.length / 2 : Nat) : Int) = (v.kids.length : Int) / 2 by omega] at HP
  refine HP.mono ?_
  rintro e w1 ⟨rfl, hbx⟩
  clear HP
  go_wp2_with fail
  rw [show (v.kids.length : Int) / 2 = ((v.kids.length / 2 : Nat) : Int) by omega]
  have hBx : B ≤ w1.heap.size := by have := hbx.size; omega
  have hsl : l.length + (str (msgMany ((v.kids.length / 2 : Nat) : Int) 16 128 0 222)).size ≤ 140737488355328 := by rw [size_str]; have := congrArg List.length HO.out; omega
  refine (bfWrite B b l _ w1 (HF0.out.below hbx) hsl hBx).mono ?_
  rintro e w2 ⟨rfl, F2, hb2, k2⟩
  rw [data_str, ← HO.out] at F2
  clear hsl p0 p1 p2 p3 p4
  have B2 := k2.blk (HV0.out.below hbx lv) (by omega) vt_ne
  have Kw : OK8 b w w2 := (HK0.out.below (hbx.mono (Nat.le_refl _))).trans k2
  have Bw : Below B w w2 := ((HB0.out.trans (hbx.mono hs0)).mono hBw).trans hb2
  have HF2 : Hid (BF B b (l ++ v.ownMsg) w2) := Lib.hid F2
  have HKw := Lib.hid Kw
  have HBw := Lib.hid Bw
  obtain ⟨p0, p1, p2, p3, p4⟩ := B2.five
  clear F2 Kw Bw B2 k2 hb2 hbx
  go_wp2_with fail
  go_loopw [93] (fun i wr => ∃ j : Nat, j ≤ v.kids.length ∧ i = .int .i64 j ∧ MgRel v B b l w j wr) (fun i _ => v.kids.length - (intOf i).toNat)
  case atStart => exact ⟨0, Nat.zero_le _, rfl, by simpa [Vs.msg] using HF2.out, HBw.out, HKw.out⟩
  case round =>
    obtain ⟨j, hj, rfl, hr⟩ := hrel
    have HR := Lib.hid hr
    have hszr : B ≤ wr.heap.size := Nat.le_trans hBw hr.2.1.size
    clear hr p0 p1 p2 p3 p4
    by_cases hlt : j < v.kids.length
    · obtain ⟨bb, off, A', cap', rfl, g1, g2, g3, ⟨c0, c1, c2, c3, c4⟩, g5⟩ := Vs.at_get j hlt (Vs.at_below HA.out HR.out.2.1 (Nat.le_refl _))
      have G5 := Lib.hid g5
      have hbbl : bb < wr.heap.size := by omega
      clear g5
      go_wp2_with fail
      refine (HC.out j hlt A' cap' B b (l ++ (v.ownMsg ++ Vs.msg (v.kids.take j))) _ ⟨_, HKR.out j hlt⟩ (HKF.out j hlt) (HKW.out j hlt) (mgrel_bound hlt HL.out) (Vs.at_alloc G5.out hszr _) (by simp; omega) (HR.out.1.alloc _)).mono ?_
      rintro e w3 ⟨rfl, F3, b3, k3⟩
      have hrel : MgRel v B b l w (j + 1) w3 := ⟨by rw [Vs.msg_step v.kids j hlt]; simpa using F3, (HR.out.2.1.alloc hszr _).trans b3, (HR.out.2.2.alloc _).trans k3⟩
      have HREL := Lib.hid hrel
      clear F3 b3 k3 hrel c0 c1 c2 c3 c4
      go_wp2_with fail
      go_roundw
      case rel => exact ⟨j + 1, by omega, by go_num, HREL.out⟩
      case measure => simp [intOf]; omega
    · obtain rfl : j = v.kids.length := by omega
      go_wp2_with fail
      go_end0
      have h := HR.out
      unfold MgRel at h
      rw [List.take_length, ← HQ.out] at h
      exact ⟨rfl, h⟩

end Go.Proofs.YtkajfinfphmlaaaDoor

/-
  The program's putMsg: kinds 4.
-/
namespace Go.Proofs.YtkajfinfphmlaaaDoor
open Go.RowKit
set_option linter.unusedVariables false
set_option linter.unusedSimpArgs false
set_option maxRecDepth 100000

set_option maxHeartbeats 4000000 in
theorem implMsg_4 (v : V) (hk : ∀ i (h : i < v.kids.length), ImplMsgSaid v.kids[i]) (hkd : v.k = 4) : ImplMsgSaid v := by
  intro A cap B b l w hr hf hw hlen hat hBw hB
  obtain ⟨d, hr⟩ := hr
  have hr3 := (V.right_eq _ _).1 hr
  obtain ⟨hw1, hw2, hw3⟩ := V.weight_kids v
  have hl : v.kids.length ≤ 1048576 := by omega
  have hss : v.s.size ≤ 1048576 := by omega
  have hf3 := (V.fits_eq v).1 hf
  have hbl := hB.lt
  have hbB := hB.base
  have HKR := Lib.hid (fun (i : Nat) (h : i < v.kids.length) => (Vs.right_iff _ _).1 hr3.2.2 i h)
  have HKF := Lib.hid (fun (i : Nat) (h : i < v.kids.length) => Vs.fits_get i h hf3.2.2.1)
  have HKW := Lib.hid (fun (i : Nat) (h : i < v.kids.length) => (show (v.kids[i]).weight ≤ 1048576 by have := Vs.weight_get i h; omega))
  have HL := Lib.hid hlen
  have hol := ownM_le hlen
  have HC := Lib.hid hk
  have HA := Lib.hid hat
  have HB := Lib.hid hB
  have HQ := Lib.hid (V.msg_eq v)
  have RN := Lib.hid hf3.2.2.2.2.1
  have RE := Lib.hid hf3.2.2.2.2.2
  have q0 : (v.k == 0) = false := by rw [hkd]; rfl
  have q1 : (v.k == 1) = false := by rw [hkd]; rfl
  have q2 : (v.k == 2) = false := by rw [hkd]; rfl
  have q3 : (v.k == 3) = false := by rw [hkd]; rfl
  have q4 : (v.k == 4) = true := by rw [hkd]; rfl
  have q5 : (v.k == 5) = false := by rw [hkd]; rfl
  have q6 : (v.k == 6) = false := by rw [hkd]; rfl
  have q7 : (v.k == 7) = false := by rw [hkd]; rfl
  have q8 : (v.k == 8) = false := by rw [hkd]; rfl
  have q9 : (v.k == 9) = false := by rw [hkd]; rfl
  have HO : Hid (v.ownMsg = 199 :: 9 :: 4 :: (wide v.e 1 ++ wide v.n 8)) := Lib.hid (by unfold V.ownMsg; simp [hkd])
  have hon : (199 :: 9 :: 4 :: (wide v.e 1 ++ wide v.n 8)).length ≤ 1048616 := by have h1 := V.ownMsg_len v; rw [HO.out] at h1; omega
  have hu0 : IntKind.u64.wrap (v.kids.length : Int) = (v.kids.length : Int) := by rw [IntKind.wrap_u64]; omega
  have hu1 : IntKind.u64.wrap ((v.kids.length : Int) / 2) = (v.kids.length : Int) / 2 := by rw [IntKind.wrap_u64]; omega
  clear hk hat hB hr hr3 hf hf3 hlen hkd
  have hb0 : Below w.heap.size w (w.alloc (.cells #[.int .i64 v.k, .int .i64 v.n, .int .i64 v.e, .string v.s, .slice A v.kids.length cap] 29)) := (Below.refl _ w).alloc (Nat.le_refl _) _
  obtain ⟨w0, hw0⟩ : ∃ w0, w0 = w.alloc (.cells #[.int .i64 v.k, .int .i64 v.n, .int .i64 v.e, .string v.s, .slice A v.kids.length cap] 29) := ⟨_, rfl⟩
  have B0 : Blk w0 w.heap.size 29 #[.int .i64 v.k, .int .i64 v.n, .int .i64 v.e, .string v.s, .slice A v.kids.length cap] := by rw [hw0]; exact Blk.new w _ _
  rw [← hw0] at hb0
  have k0 : OK8 b w w0 := (OK8.refl b w).below hb0
  have F0 : BF B b l w0 := HB.out.below hb0
  have hs0 := hb0.size
  have lv := B0.lt
  have HF0 := Lib.hid F0
  have HK0 := Lib.hid k0
  have HB0 := Lib.hid hb0
  have HV0 := Lib.hid B0
  obtain ⟨p0, p1, p2, p3, p4⟩ := B0.five
  clear F0 k0 hb0 B0
  unfold V.agg
  go_enter Tryd.func23, Tryd.ntmps23
  go_wp2_with fail
  rw [← hw0]
  clear hw0
  have hl3 := lit3 (P := Tryd.prog) 38 9 5 Tryd.underlying38 Tryd.underlying5 Tryd.underlying9
  have hl3d := lit3_drew (P := Tryd.prog) 38 9 5 Tryd.underlying38 Tryd.underlying5 Tryd.underlying9
  have hs3 : ∀ a b c : UInt8, (str [a, b, c]).size = 3 := fun _ _ _ => rfl
  have KE := Lib.hid (fun (w' : World) (hb : Below w0.heap.size w0 w') => (⟨(HV0.out.below hb lv).cell 1, (HV0.out.below hb lv).cell 2⟩ : w'.cell? ⟨w.heap.size, 1, none⟩ = some (.int .i64 v.n) ∧ w'.cell? ⟨w.heap.size, 2, none⟩ = some (.int .i64 v.e)))
  have KW : Hid (∀ w1 w2 : World, Below w0.heap.size w0 w1 → OK8 b w1 w2 → w2.cell? ⟨w.heap.size, 1, none⟩ = some (.int .i64 v.n) ∧ w2.cell? ⟨w.heap.size, 2, none⟩ = some (.int .i64 v.e)) := Lib.hid (fun w1 w2 h1 h2 => ⟨(h2.blk (HV0.out.below h1 lv) (by omega) vt_ne).cell 1, (h2.blk (HV0.out.below h1 lv) (by omega) vt_ne).cell 2⟩)
  have hbr : Below w0.heap.size w0 w0 := Below.refl _ _
  refine wp_region_noPanic ?_
  refine wp_region_held_drew (S := (fun w' => w'.cell? ⟨w.heap.size, 1, none⟩ = some (.int .i64 v.n) ∧ w'.cell? ⟨w.heap.size, 2, none⟩ = some (.int .i64 v.e))) (by kernel_rfl) ?_ (fun hHeld => ?_)
  · (try dsimp only); (first | exact KW.out _ _ (bl_21 hb1 hb2) k2 | exact KW.out _ _ (bl_22 hb1 hb2) k2 | exact KW.out _ _ (bl_23 hb1 hb2) k2 | exact KE.out _ (bl_21 hb1 hb2) | exact KE.out _ (bl_22 hb1 hb2) | exact KE.out _ (bl_23 hb1 hb2) | exact KE.out _ (bl_24 hb1 hb2) | exact KE.out _ (bl_1 hb1) | exact KE.out _ (bl_2 hb1) | exact KE.out _ (hbr.drew.trans hb1) | exact KE.out _ (bl_0 _ _) | exact KE.out _ hbr.drew | exact KE.out _ hbr)
  refine wpAnyH_take (i := 0) (v := ?_) rfl (by kernel_rfl) (by kernel_rfl) (by kernel_rfl) (fun _ _ _ h => h) (Or.inl ⟨by rfl, ?_⟩) (by assumption) ?_
  rotate_left
  · intro w hSw; (try dsimp only at hSw); go_simp; (try with_reducible rfl)
  try simp only [Act.put, List.setIfInBounds_toArray, List.set_cons_zero, List.set_cons_succ]
  refine wpAnyH_take (i := 3) (v := ?_) rfl (by kernel_rfl) (by kernel_rfl) (by kernel_rfl) (fun _ _ _ h => h) (Or.inl ⟨by rfl, ?_⟩) (by assumption) ?_
  rotate_left
  · intro w hSw; (try dsimp only at hSw); go_simp; (try with_reducible rfl)
  try simp only [Act.put, List.setIfInBounds_toArray, List.set_cons_zero, List.set_cons_succ]
  refine wpAnyH_take (i := 4) (v := ?_) rfl (by kernel_rfl) (by kernel_rfl) (by kernel_rfl) (fun _ _ _ h => h) (Or.inl ⟨by rfl, ?_⟩) (by assumption) ?_
  rotate_left
  · intro w hSw; (try dsimp only at hSw); go_simp; (try with_reducible rfl)
  try simp only [Act.put, List.setIfInBounds_toArray, List.set_cons_zero, List.set_cons_succ]
  refine wpAnyH_take (i := 7) (v := ?_) rfl (by kernel_rfl) (by kernel_rfl) (by kernel_rfl) (fun _ _ _ h => h) (Or.inl ⟨by rfl, ?_⟩) (by assumption) ?_
  rotate_left
  · intro w hSw; (try dsimp only at hSw); go_simp; (try with_reducible rfl)
  try simp only [Act.put, List.setIfInBounds_toArray, List.set_cons_zero, List.set_cons_succ]
  refine wpAnyH_take (i := 8) (v := ?_) rfl (by kernel_rfl) (by kernel_rfl) (by kernel_rfl) (fun _ _ _ h => h) (Or.inl ⟨by rfl, ?_⟩) (by assumption) ?_
  rotate_left
  · intro w hSw; (try dsimp only at hSw); go_simp; (try with_reducible rfl)
  try simp only [Act.put, List.setIfInBounds_toArray, List.set_cons_zero, List.set_cons_succ]
  refine wpAnyH_ready (rs := [1, 5]) (by kernel_rfl) (by simp) ?_
  refine AllReadyH.cons rfl (fun K hK => ?_) ?_
  · go_simp
    clear hHeld
    refine hK.out _ _ ?_ (fun hHeld => ?_)
    · (try dsimp only); (first | exact KW.out _ _ (bl_21 hb1 hb2) k2 | exact KW.out _ _ (bl_22 hb1 hb2) k2 | exact KW.out _ _ (bl_23 hb1 hb2) k2 | exact KE.out _ (bl_21 hb1 hb2) | exact KE.out _ (bl_22 hb1 hb2) | exact KE.out _ (bl_23 hb1 hb2) | exact KE.out _ (bl_24 hb1 hb2) | exact KE.out _ (bl_1 hb1) | exact KE.out _ (bl_2 hb1) | exact KE.out _ (hbr.drew.trans hb1) | exact KE.out _ (bl_0 _ _) | exact KE.out _ hbr.drew | exact KE.out _ hbr)
    clear hK K
    try simp only [Act.put, List.setIfInBounds_toArray, List.set_cons_zero, List.set_cons_succ]
    refine wpAnyH_ready (rs := [2, 5]) (by kernel_rfl) (by simp) ?_
    refine AllReadyH.cons rfl (fun K hK => ?_) ?_
    · go_simp
      clear hHeld
      refine hK.out _ _ ?_ (fun hHeld => ?_)
      · (try dsimp only); (first | exact KW.out _ _ (bl_21 hb1 hb2) k2 | exact KW.out _ _ (bl_22 hb1 hb2) k2 | exact KW.out _ _ (bl_23 hb1 hb2) k2 | exact KE.out _ (bl_21 hb1 hb2) | exact KE.out _ (bl_22 hb1 hb2) | exact KE.out _ (bl_23 hb1 hb2) | exact KE.out _ (bl_24 hb1 hb2) | exact KE.out _ (bl_1 hb1) | exact KE.out _ (bl_2 hb1) | exact KE.out _ (hbr.drew.trans hb1) | exact KE.out _ (bl_0 _ _) | exact KE.out _ hbr.drew | exact KE.out _ hbr)
      clear hK K
      try simp only [Act.put, List.setIfInBounds_toArray, List.set_cons_zero, List.set_cons_succ]
      refine wpAnyH_ready (rs := [5]) (by kernel_rfl) (by simp) ?_
      refine AllReadyH.cons rfl (fun K hK => ?_) ?_
      · go_simp
        (go_at_call_of 40 (v.e); refine (wideAt2 v.e 1 _ RE.out (by omega) (by omega)).mono ?_; rintro e w1 ⟨x1, rfl, H1, hs1, hb1⟩; (try have hcv := lit3_after (P := Tryd.prog) 38 9 5 Tryd.underlying38 Tryd.underlying5 Tryd.underlying9 hb1); have ha1 := sum3a (P := Tryd.prog) 199 9 4 hs1)
        (try go_wp2_with fail)
        clear hHeld
        refine hK.out _ _ ?_ (fun hHeld => ?_)
        · (try dsimp only); (first | exact KW.out _ _ (bl_21 hb1 hb2) k2 | exact KW.out _ _ (bl_22 hb1 hb2) k2 | exact KW.out _ _ (bl_23 hb1 hb2) k2 | exact KE.out _ (bl_21 hb1 hb2) | exact KE.out _ (bl_22 hb1 hb2) | exact KE.out _ (bl_23 hb1 hb2) | exact KE.out _ (bl_24 hb1 hb2) | exact KE.out _ (bl_1 hb1) | exact KE.out _ (bl_2 hb1) | exact KE.out _ (hbr.drew.trans hb1) | exact KE.out _ (bl_0 _ _) | exact KE.out _ hbr.drew | exact KE.out _ hbr)
        clear hK K
        try simp only [Act.put, List.setIfInBounds_toArray, List.set_cons_zero, List.set_cons_succ]
        refine wpAnyH_take (i := 6) (v := ?_) rfl (by kernel_rfl) (by kernel_rfl) (by kernel_rfl) (fun _ _ _ h => h) (Or.inl ⟨by rfl, ?_⟩) (by assumption) ?_
        rotate_left
        · intro w hSw; (try dsimp only at hSw); go_simp; (try with_reducible rfl)
        try simp only [Act.put, List.setIfInBounds_toArray, List.set_cons_zero, List.set_cons_succ]
        refine wpAnyH_ready (rs := [9]) (by kernel_rfl) (by simp) ?_
        refine AllReadyH.cons rfl (fun K hK => ?_) ?_
        · go_simp
          (go_at_call_of 40 (v.n); refine (wideAt2 v.n 8 _ RN.out (by omega) (by omega)).mono ?_; rintro e w2 ⟨x2, rfl, H2, hs2, hb2⟩; (try have hcv2 := lit3_after (P := Tryd.prog) 38 9 5 Tryd.underlying38 Tryd.underlying5 Tryd.underlying9 (hb1.trans (hb2.mono hb1.size))); (try have hcv3 := lit3_after2 (P := Tryd.prog) 38 9 5 Tryd.underlying38 Tryd.underlying5 Tryd.underlying9 hb2); have ha2 := sum3b (P := Tryd.prog) 199 9 4 hs1 hs2)
          (try go_wp2_with fail)
          clear hHeld
          refine hK.out _ _ ?_ (fun hHeld => ?_)
          · (try dsimp only); (first | exact KW.out _ _ (bl_21 hb1 hb2) k2 | exact KW.out _ _ (bl_22 hb1 hb2) k2 | exact KW.out _ _ (bl_23 hb1 hb2) k2 | exact KE.out _ (bl_21 hb1 hb2) | exact KE.out _ (bl_22 hb1 hb2) | exact KE.out _ (bl_23 hb1 hb2) | exact KE.out _ (bl_24 hb1 hb2) | exact KE.out _ (bl_1 hb1) | exact KE.out _ (bl_2 hb1) | exact KE.out _ (hbr.drew.trans hb1) | exact KE.out _ (bl_0 _ _) | exact KE.out _ hbr.drew | exact KE.out _ hbr)
          clear hK K
          try simp only [Act.put, List.setIfInBounds_toArray, List.set_cons_zero, List.set_cons_succ]
          refine wpAnyH_take (i := 10) (v := ?_) rfl (by kernel_rfl) (by kernel_rfl) (by kernel_rfl) (fun _ _ _ h => h) (Or.inl ⟨by rfl, ?_⟩) (by assumption) ?_
          rotate_left
          · intro w hSw; (try dsimp only at hSw); go_simp; (try with_reducible rfl)
          try simp only [Act.put, List.setIfInBounds_toArray, List.set_cons_zero, List.set_cons_succ]
          refine wpAnyH_ready (rs := [11]) (by kernel_rfl) (by simp) ?_
          refine AllReadyH.cons rfl (fun K hK => ?_) ?_
          · go_simp
            (go_at_call 37; refine (bfWrite B b l _ _ (HF0.out.below (by first | exact bl_21 hb1 hb2 | exact bl_22 hb1 hb2 | exact bl_23 hb1 hb2)) (by simp only [ByteArray.size_append, hs3]; omega) (by have h1 := hb1.size; have h2 := hb2.size; (try simp only [World.size_alloc, World.size_drew] at h1 h2); (try simp only [World.size_alloc, World.size_drew]); omega)).mono ?_; rintro e w9 ⟨rfl, F2, hb9, k2⟩)
            (try go_wp2_with fail)
            clear hHeld
            refine hK.out _ _ ?_ (fun hHeld => ?_)
            · (try dsimp only); (first | exact KW.out _ _ (bl_21 hb1 hb2) k2 | exact KW.out _ _ (bl_22 hb1 hb2) k2 | exact KW.out _ _ (bl_23 hb1 hb2) k2 | exact KE.out _ (bl_21 hb1 hb2) | exact KE.out _ (bl_22 hb1 hb2) | exact KE.out _ (bl_23 hb1 hb2) | exact KE.out _ (bl_24 hb1 hb2) | exact KE.out _ (bl_1 hb1) | exact KE.out _ (bl_2 hb1) | exact KE.out _ (hbr.drew.trans hb1) | exact KE.out _ (bl_0 _ _) | exact KE.out _ hbr.drew | exact KE.out _ hbr)
            clear hK K
            try simp only [Act.put, List.setIfInBounds_toArray, List.set_cons_zero, List.set_cons_succ]
            refine wpAnyH_done (by kernel_rfl) ?_ _
            refine NoPanic.normal ?_
            have hEE : str [byteI 199, byteI 9, byteI 4] ++ x1 ++ x2 = str (199 :: 9 :: 4 :: (wide v.e 1 ++ wide v.n 8)) := named_add (a := 199 :: 9 :: 4 :: wide v.e 1) (named_add (a := [199, 9, 4]) rfl H1) H2
            (try rw [← ByteArray.append_assoc] at F2)
            rw [hEE, data_str, ← HO.out] at F2
            clear hEE hl3 hl3d hs3 p0 p1 p2 p3 p4
            have B2 := k2.blk (HV0.out.below (by first | exact bl_21 hb1 hb2 | exact bl_22 hb1 hb2 | exact bl_23 hb1 hb2) lv) (by omega) vt_ne
            have Kw : OK8 b w w9 := (HK0.out.below (Below.mono (by first | exact bl_21 hb1 hb2 | exact bl_22 hb1 hb2 | exact bl_23 hb1 hb2) (Nat.le_refl _))).trans k2
            have Bw : Below B w w9 := ((HB0.out.trans (Below.mono (by first | exact bl_21 hb1 hb2 | exact bl_22 hb1 hb2 | exact bl_23 hb1 hb2) hs0)).mono hBw).trans hb9
            have HF2 : Hid (BF B b (l ++ v.ownMsg) w9) := Lib.hid F2
            have HKw := Lib.hid Kw
            have HBw := Lib.hid Bw
            obtain ⟨p0, p1, p2, p3, p4⟩ := B2.five
            clear F2 Kw Bw B2 k2 hb9 hb1 hb2
            go_wp2_with fail
            go_loopw [93] (fun i wr => ∃ j : Nat, j ≤ v.kids.length ∧ i = .int .i64 j ∧ MgRel v B b l w j wr) (fun i _ => v.kids.length - (intOf i).toNat)
            case atStart => exact ⟨0, Nat.zero_le _, rfl, by simpa [Vs.msg] using HF2.out, HBw.out, HKw.out⟩
            case round =>
              obtain ⟨j, hj, rfl, hr⟩ := hrel
              have HR := Lib.hid hr
              have hszr : B ≤ wr.heap.size := Nat.le_trans hBw hr.2.1.size
              clear hr p0 p1 p2 p3 p4
              by_cases hlt : j < v.kids.length
              · obtain ⟨bb, off, A', cap', rfl, g1, g2, g3, ⟨c0, c1, c2, c3, c4⟩, g5⟩ := Vs.at_get j hlt (Vs.at_below HA.out HR.out.2.1 (Nat.le_refl _))
                have G5 := Lib.hid g5
                have hbbl : bb < wr.heap.size := by omega
                clear g5
                go_wp2_with fail
                refine (HC.out j hlt A' cap' B b (l ++ (v.ownMsg ++ Vs.msg (v.kids.take j))) _ ⟨_, HKR.out j hlt⟩ (HKF.out j hlt) (HKW.out j hlt) (mgrel_bound hlt HL.out) (Vs.at_alloc G5.out hszr _) (by simp; omega) (HR.out.1.alloc _)).mono ?_
                rintro e w3 ⟨rfl, F3, b3, k3⟩
                have hrel : MgRel v B b l w (j + 1) w3 := ⟨by rw [Vs.msg_step v.kids j hlt]; simpa using F3, (HR.out.2.1.alloc hszr _).trans b3, (HR.out.2.2.alloc _).trans k3⟩
                have HREL := Lib.hid hrel
                clear F3 b3 k3 hrel c0 c1 c2 c3 c4
                go_wp2_with fail
                go_roundw
                case rel => exact ⟨j + 1, by omega, by go_num, HREL.out⟩
                case measure => simp [intOf]; omega
              · obtain rfl : j = v.kids.length := by omega
                go_wp2_with fail
                go_end0
                have h := HR.out
                unfold MgRel at h
                rw [List.take_length, ← HQ.out] at h
                exact ⟨rfl, h⟩
          exact AllReadyH.nil
        exact AllReadyH.nil
      exact AllReadyH.nil
    refine AllReadyH.cons rfl (fun K hK => ?_) ?_
    · go_simp
      (go_at_call_of 40 (v.e); refine (wideAt2 v.e 1 _ RE.out (by omega) (by omega)).mono ?_; rintro e w1 ⟨x1, rfl, H1, hs1, hb1⟩; (try have hcv := lit3_after (P := Tryd.prog) 38 9 5 Tryd.underlying38 Tryd.underlying5 Tryd.underlying9 hb1); have ha1 := sum3a (P := Tryd.prog) 199 9 4 hs1)
      (try go_wp2_with fail)
      clear hHeld
      refine hK.out _ _ ?_ (fun hHeld => ?_)
      · (try dsimp only); (first | exact KW.out _ _ (bl_21 hb1 hb2) k2 | exact KW.out _ _ (bl_22 hb1 hb2) k2 | exact KW.out _ _ (bl_23 hb1 hb2) k2 | exact KE.out _ (bl_21 hb1 hb2) | exact KE.out _ (bl_22 hb1 hb2) | exact KE.out _ (bl_23 hb1 hb2) | exact KE.out _ (bl_24 hb1 hb2) | exact KE.out _ (bl_1 hb1) | exact KE.out _ (bl_2 hb1) | exact KE.out _ (hbr.drew.trans hb1) | exact KE.out _ (bl_0 _ _) | exact KE.out _ hbr.drew | exact KE.out _ hbr)
      clear hK K
      try simp only [Act.put, List.setIfInBounds_toArray, List.set_cons_zero, List.set_cons_succ]
      refine wpAnyH_ready (rs := [2, 9]) (by kernel_rfl) (by simp) ?_
      refine AllReadyH.cons rfl (fun K hK => ?_) ?_
      · go_simp
        clear hHeld
        refine hK.out _ _ ?_ (fun hHeld => ?_)
        · (try dsimp only); (first | exact KW.out _ _ (bl_21 hb1 hb2) k2 | exact KW.out _ _ (bl_22 hb1 hb2) k2 | exact KW.out _ _ (bl_23 hb1 hb2) k2 | exact KE.out _ (bl_21 hb1 hb2) | exact KE.out _ (bl_22 hb1 hb2) | exact KE.out _ (bl_23 hb1 hb2) | exact KE.out _ (bl_24 hb1 hb2) | exact KE.out _ (bl_1 hb1) | exact KE.out _ (bl_2 hb1) | exact KE.out _ (hbr.drew.trans hb1) | exact KE.out _ (bl_0 _ _) | exact KE.out _ hbr.drew | exact KE.out _ hbr)
        clear hK K
        try simp only [Act.put, List.setIfInBounds_toArray, List.set_cons_zero, List.set_cons_succ]
        refine wpAnyH_take (i := 6) (v := ?_) rfl (by kernel_rfl) (by kernel_rfl) (by kernel_rfl) (fun _ _ _ h => h) (Or.inl ⟨by rfl, ?_⟩) (by assumption) ?_
        rotate_left
        · intro w hSw; (try dsimp only at hSw); go_simp; (try with_reducible rfl)
        try simp only [Act.put, List.setIfInBounds_toArray, List.set_cons_zero, List.set_cons_succ]
        refine wpAnyH_ready (rs := [9]) (by kernel_rfl) (by simp) ?_
        refine AllReadyH.cons rfl (fun K hK => ?_) ?_
        · go_simp
          (go_at_call_of 40 (v.n); refine (wideAt2 v.n 8 _ RN.out (by omega) (by omega)).mono ?_; rintro e w2 ⟨x2, rfl, H2, hs2, hb2⟩; (try have hcv2 := lit3_after (P := Tryd.prog) 38 9 5 Tryd.underlying38 Tryd.underlying5 Tryd.underlying9 (hb1.trans (hb2.mono hb1.size))); (try have hcv3 := lit3_after2 (P := Tryd.prog) 38 9 5 Tryd.underlying38 Tryd.underlying5 Tryd.underlying9 hb2); have ha2 := sum3b (P := Tryd.prog) 199 9 4 hs1 hs2)
          (try go_wp2_with fail)
          clear hHeld
          refine hK.out _ _ ?_ (fun hHeld => ?_)
          · (try dsimp only); (first | exact KW.out _ _ (bl_21 hb1 hb2) k2 | exact KW.out _ _ (bl_22 hb1 hb2) k2 | exact KW.out _ _ (bl_23 hb1 hb2) k2 | exact KE.out _ (bl_21 hb1 hb2) | exact KE.out _ (bl_22 hb1 hb2) | exact KE.out _ (bl_23 hb1 hb2) | exact KE.out _ (bl_24 hb1 hb2) | exact KE.out _ (bl_1 hb1) | exact KE.out _ (bl_2 hb1) | exact KE.out _ (hbr.drew.trans hb1) | exact KE.out _ (bl_0 _ _) | exact KE.out _ hbr.drew | exact KE.out _ hbr)
          clear hK K
          try simp only [Act.put, List.setIfInBounds_toArray, List.set_cons_zero, List.set_cons_succ]
          refine wpAnyH_take (i := 10) (v := ?_) rfl (by kernel_rfl) (by kernel_rfl) (by kernel_rfl) (fun _ _ _ h => h) (Or.inl ⟨by rfl, ?_⟩) (by assumption) ?_
          rotate_left
          · intro w hSw; (try dsimp only at hSw); go_simp; (try with_reducible rfl)
          try simp only [Act.put, List.setIfInBounds_toArray, List.set_cons_zero, List.set_cons_succ]
          refine wpAnyH_ready (rs := [11]) (by kernel_rfl) (by simp) ?_
          refine AllReadyH.cons rfl (fun K hK => ?_) ?_
          · go_simp
            (go_at_call 37; refine (bfWrite B b l _ _ (HF0.out.below (by first | exact bl_21 hb1 hb2 | exact bl_22 hb1 hb2 | exact bl_23 hb1 hb2)) (by simp only [ByteArray.size_append, hs3]; omega) (by have h1 := hb1.size; have h2 := hb2.size; (try simp only [World.size_alloc, World.size_drew] at h1 h2); (try simp only [World.size_alloc, World.size_drew]); omega)).mono ?_; rintro e w9 ⟨rfl, F2, hb9, k2⟩)
            (try go_wp2_with fail)
            clear hHeld
            refine hK.out _ _ ?_ (fun hHeld => ?_)
            · (try dsimp only); (first | exact KW.out _ _ (bl_21 hb1 hb2) k2 | exact KW.out _ _ (bl_22 hb1 hb2) k2 | exact KW.out _ _ (bl_23 hb1 hb2) k2 | exact KE.out _ (bl_21 hb1 hb2) | exact KE.out _ (bl_22 hb1 hb2) | exact KE.out _ (bl_23 hb1 hb2) | exact KE.out _ (bl_24 hb1 hb2) | exact KE.out _ (bl_1 hb1) | exact KE.out _ (bl_2 hb1) | exact KE.out _ (hbr.drew.trans hb1) | exact KE.out _ (bl_0 _ _) | exact KE.out _ hbr.drew | exact KE.out _ hbr)
            clear hK K
            try simp only [Act.put, List.setIfInBounds_toArray, List.set_cons_zero, List.set_cons_succ]
            refine wpAnyH_done (by kernel_rfl) ?_ _
            refine NoPanic.normal ?_
            have hEE : str [byteI 199, byteI 9, byteI 4] ++ x1 ++ x2 = str (199 :: 9 :: 4 :: (wide v.e 1 ++ wide v.n 8)) := named_add (a := 199 :: 9 :: 4 :: wide v.e 1) (named_add (a := [199, 9, 4]) rfl H1) H2
            (try rw [← ByteArray.append_assoc] at F2)
            rw [hEE, data_str, ← HO.out] at F2
            clear hEE hl3 hl3d hs3 p0 p1 p2 p3 p4
            have B2 := k2.blk (HV0.out.below (by first | exact bl_21 hb1 hb2 | exact bl_22 hb1 hb2 | exact bl_23 hb1 hb2) lv) (by omega) vt_ne
            have Kw : OK8 b w w9 := (HK0.out.below (Below.mono (by first | exact bl_21 hb1 hb2 | exact bl_22 hb1 hb2 | exact bl_23 hb1 hb2) (Nat.le_refl _))).trans k2
            have Bw : Below B w w9 := ((HB0.out.trans (Below.mono (by first | exact bl_21 hb1 hb2 | exact bl_22 hb1 hb2 | exact bl_23 hb1 hb2) hs0)).mono hBw).trans hb9
            have HF2 : Hid (BF B b (l ++ v.ownMsg) w9) := Lib.hid F2
            have HKw := Lib.hid Kw
            have HBw := Lib.hid Bw
            obtain ⟨p0, p1, p2, p3, p4⟩ := B2.five
            clear F2 Kw Bw B2 k2 hb9 hb1 hb2
            go_wp2_with fail
            go_loopw [93] (fun i wr => ∃ j : Nat, j ≤ v.kids.length ∧ i = .int .i64 j ∧ MgRel v B b l w j wr) (fun i _ => v.kids.length - (intOf i).toNat)
            case atStart => exact ⟨0, Nat.zero_le _, rfl, by simpa [Vs.msg] using HF2.out, HBw.out, HKw.out⟩
            case round =>
              obtain ⟨j, hj, rfl, hr⟩ := hrel
              have HR := Lib.hid hr
              have hszr : B ≤ wr.heap.size := Nat.le_trans hBw hr.2.1.size
              clear hr p0 p1 p2 p3 p4
              by_cases hlt : j < v.kids.length
              · obtain ⟨bb, off, A', cap', rfl, g1, g2, g3, ⟨c0, c1, c2, c3, c4⟩, g5⟩ := Vs.at_get j hlt (Vs.at_below HA.out HR.out.2.1 (Nat.le_refl _))
                have G5 := Lib.hid g5
                have hbbl : bb < wr.heap.size := by omega
                clear g5
                go_wp2_with fail
                refine (HC.out j hlt A' cap' B b (l ++ (v.ownMsg ++ Vs.msg (v.kids.take j))) _ ⟨_, HKR.out j hlt⟩ (HKF.out j hlt) (HKW.out j hlt) (mgrel_bound hlt HL.out) (Vs.at_alloc G5.out hszr _) (by simp; omega) (HR.out.1.alloc _)).mono ?_
                rintro e w3 ⟨rfl, F3, b3, k3⟩
                have hrel : MgRel v B b l w (j + 1) w3 := ⟨by rw [Vs.msg_step v.kids j hlt]; simpa using F3, (HR.out.2.1.alloc hszr _).trans b3, (HR.out.2.2.alloc _).trans k3⟩
                have HREL := Lib.hid hrel
                clear F3 b3 k3 hrel c0 c1 c2 c3 c4
                go_wp2_with fail
                go_roundw
                case rel => exact ⟨j + 1, by omega, by go_num, HREL.out⟩
                case measure => simp [intOf]; omega
              · obtain rfl : j = v.kids.length := by omega
                go_wp2_with fail
                go_end0
                have h := HR.out
                unfold MgRel at h
                rw [List.take_length, ← HQ.out] at h
                exact ⟨rfl, h⟩
          exact AllReadyH.nil
        exact AllReadyH.nil
      refine AllReadyH.cons rfl (fun K hK => ?_) ?_
      · go_simp
        (go_at_call_of 40 (v.n); refine (wideAt2 v.n 8 _ RN.out (by omega) (by omega)).mono ?_; rintro e w2 ⟨x2, rfl, H2, hs2, hb2⟩; (try have hcv2 := lit3_after (P := Tryd.prog) 38 9 5 Tryd.underlying38 Tryd.underlying5 Tryd.underlying9 (hb1.trans (hb2.mono hb1.size))); (try have hcv3 := lit3_after2 (P := Tryd.prog) 38 9 5 Tryd.underlying38 Tryd.underlying5 Tryd.underlying9 hb2); have ha2 := sum3b (P := Tryd.prog) 199 9 4 hs1 hs2)
        (try go_wp2_with fail)
        clear hHeld
        refine hK.out _ _ ?_ (fun hHeld => ?_)
        · (try dsimp only); (first | exact KW.out _ _ (bl_21 hb1 hb2) k2 | exact KW.out _ _ (bl_22 hb1 hb2) k2 | exact KW.out _ _ (bl_23 hb1 hb2) k2 | exact KE.out _ (bl_21 hb1 hb2) | exact KE.out _ (bl_22 hb1 hb2) | exact KE.out _ (bl_23 hb1 hb2) | exact KE.out _ (bl_24 hb1 hb2) | exact KE.out _ (bl_1 hb1) | exact KE.out _ (bl_2 hb1) | exact KE.out _ (hbr.drew.trans hb1) | exact KE.out _ (bl_0 _ _) | exact KE.out _ hbr.drew | exact KE.out _ hbr)
        clear hK K
        try simp only [Act.put, List.setIfInBounds_toArray, List.set_cons_zero, List.set_cons_succ]
        refine wpAnyH_ready (rs := [2]) (by kernel_rfl) (by simp) ?_
        refine AllReadyH.cons rfl (fun K hK => ?_) ?_
        · go_simp
          clear hHeld
          refine hK.out _ _ ?_ (fun hHeld => ?_)
          · (try dsimp only); (first | exact KW.out _ _ (bl_21 hb1 hb2) k2 | exact KW.out _ _ (bl_22 hb1 hb2) k2 | exact KW.out _ _ (bl_23 hb1 hb2) k2 | exact KE.out _ (bl_21 hb1 hb2) | exact KE.out _ (bl_22 hb1 hb2) | exact KE.out _ (bl_23 hb1 hb2) | exact KE.out _ (bl_24 hb1 hb2) | exact KE.out _ (bl_1 hb1) | exact KE.out _ (bl_2 hb1) | exact KE.out _ (hbr.drew.trans hb1) | exact KE.out _ (bl_0 _ _) | exact KE.out _ hbr.drew | exact KE.out _ hbr)
          clear hK K
          try simp only [Act.put, List.setIfInBounds_toArray, List.set_cons_zero, List.set_cons_succ]
          refine wpAnyH_take (i := 6) (v := ?_) rfl (by kernel_rfl) (by kernel_rfl) (by kernel_rfl) (fun _ _ _ h => h) (Or.inl ⟨by rfl, ?_⟩) (by assumption) ?_
          rotate_left
          · intro w hSw; (try dsimp only at hSw); go_simp; (try with_reducible rfl)
          try simp only [Act.put, List.setIfInBounds_toArray, List.set_cons_zero, List.set_cons_succ]
          refine wpAnyH_take (i := 10) (v := ?_) rfl (by kernel_rfl) (by kernel_rfl) (by kernel_rfl) (fun _ _ _ h => h) (Or.inl ⟨by rfl, ?_⟩) (by assumption) ?_
          rotate_left
          · intro w hSw; (try dsimp only at hSw); go_simp; (try with_reducible rfl)
          try simp only [Act.put, List.setIfInBounds_toArray, List.set_cons_zero, List.set_cons_succ]
          refine wpAnyH_ready (rs := [11]) (by kernel_rfl) (by simp) ?_
          refine AllReadyH.cons rfl (fun K hK => ?_) ?_
          · go_simp
            (go_at_call 37; refine (bfWrite B b l _ _ (HF0.out.below (by first | exact bl_21 hb1 hb2 | exact bl_22 hb1 hb2 | exact bl_23 hb1 hb2)) (by simp only [ByteArray.size_append, hs3]; omega) (by have h1 := hb1.size; have h2 := hb2.size; (try simp only [World.size_alloc, World.size_drew] at h1 h2); (try simp only [World.size_alloc, World.size_drew]); omega)).mono ?_; rintro e w9 ⟨rfl, F2, hb9, k2⟩)
            (try go_wp2_with fail)
            clear hHeld
            refine hK.out _ _ ?_ (fun hHeld => ?_)
            · (try dsimp only); (first | exact KW.out _ _ (bl_21 hb1 hb2) k2 | exact KW.out _ _ (bl_22 hb1 hb2) k2 | exact KW.out _ _ (bl_23 hb1 hb2) k2 | exact KE.out _ (bl_21 hb1 hb2) | exact KE.out _ (bl_22 hb1 hb2) | exact KE.out _ (bl_23 hb1 hb2) | exact KE.out _ (bl_24 hb1 hb2) | exact KE.out _ (bl_1 hb1) | exact KE.out _ (bl_2 hb1) | exact KE.out _ (hbr.drew.trans hb1) | exact KE.out _ (bl_0 _ _) | exact KE.out _ hbr.drew | exact KE.out _ hbr)
            clear hK K
            try simp only [Act.put, List.setIfInBounds_toArray, List.set_cons_zero, List.set_cons_succ]
            refine wpAnyH_done (by kernel_rfl) ?_ _
            refine NoPanic.normal ?_
            have hEE : str [byteI 199, byteI 9, byteI 4] ++ x1 ++ x2 = str (199 :: 9 :: 4 :: (wide v.e 1 ++ wide v.n 8)) := named_add (a := 199 :: 9 :: 4 :: wide v.e 1) (named_add (a := [199, 9, 4]) rfl H1) H2
            (try rw [← ByteArray.append_assoc] at F2)
            rw [hEE, data_str, ← HO.out] at F2
            clear hEE hl3 hl3d hs3 p0 p1 p2 p3 p4
            have B2 := k2.blk (HV0.out.below (by first | exact bl_21 hb1 hb2 | exact bl_22 hb1 hb2 | exact bl_23 hb1 hb2) lv) (by omega) vt_ne
            have Kw : OK8 b w w9 := (HK0.out.below (Below.mono (by first | exact bl_21 hb1 hb2 | exact bl_22 hb1 hb2 | exact bl_23 hb1 hb2) (Nat.le_refl _))).trans k2
            have Bw : Below B w w9 := ((HB0.out.trans (Below.mono (by first | exact bl_21 hb1 hb2 | exact bl_22 hb1 hb2 | exact bl_23 hb1 hb2) hs0)).mono hBw).trans hb9
            have HF2 : Hid (BF B b (l ++ v.ownMsg) w9) := Lib.hid F2
            have HKw := Lib.hid Kw
            have HBw := Lib.hid Bw
            obtain ⟨p0, p1, p2, p3, p4⟩ := B2.five
            clear F2 Kw Bw B2 k2 hb9 hb1 hb2
            go_wp2_with fail
            go_loopw [93] (fun i wr => ∃ j : Nat, j ≤ v.kids.length ∧ i = .int .i64 j ∧ MgRel v B b l w j wr) (fun i _ => v.kids.length - (intOf i).toNat)
            case atStart => exact ⟨0, Nat.zero_le _, rfl, by simpa [Vs.msg] using HF2.out, HBw.out, HKw.out⟩
            case round =>
              obtain ⟨j, hj, rfl, hr⟩ := hrel
              have HR := Lib.hid hr
              have hszr : B ≤ wr.heap.size := Nat.le_trans hBw hr.2.1.size
              clear hr p0 p1 p2 p3 p4
              by_cases hlt : j < v.kids.length
              · obtain ⟨bb, off, A', cap', rfl, g1, g2, g3, ⟨c0, c1, c2, c3, c4⟩, g5⟩ := Vs.at_get j hlt (Vs.at_below HA.out HR.out.2.1 (Nat.le_refl _))
                have G5 := Lib.hid g5
                have hbbl : bb < wr.heap.size := by omega
                clear g5
                go_wp2_with fail
                refine (HC.out j hlt A' cap' B b (l ++ (v.ownMsg ++ Vs.msg (v.kids.take j))) _ ⟨_, HKR.out j hlt⟩ (HKF.out j hlt) (HKW.out j hlt) (mgrel_bound hlt HL.out) (Vs.at_alloc G5.out hszr _) (by simp; omega) (HR.out.1.alloc _)).mono ?_
                rintro e w3 ⟨rfl, F3, b3, k3⟩
                have hrel : MgRel v B b l w (j + 1) w3 := ⟨by rw [Vs.msg_step v.kids j hlt]; simpa using F3, (HR.out.2.1.alloc hszr _).trans b3, (HR.out.2.2.alloc _).trans k3⟩
                have HREL := Lib.hid hrel
                clear F3 b3 k3 hrel c0 c1 c2 c3 c4
                go_wp2_with fail
                go_roundw
                case rel => exact ⟨j + 1, by omega, by go_num, HREL.out⟩
                case measure => simp [intOf]; omega
              · obtain rfl : j = v.kids.length := by omega
                go_wp2_with fail
                go_end0
                have h := HR.out
                unfold MgRel at h
                rw [List.take_length, ← HQ.out] at h
                exact ⟨rfl, h⟩
          exact AllReadyH.nil
        exact AllReadyH.nil
      exact AllReadyH.nil
    exact AllReadyH.nil
  refine AllReadyH.cons rfl (fun K hK => ?_) ?_
  · go_simp
    (go_at_call_of 40 (v.e); refine (wideAt2 v.e 1 _ RE.out (by omega) (by omega)).mono ?_; rintro e w1 ⟨x1, rfl, H1, hs1, hb1⟩; (try have hcv := lit3_after (P := Tryd.prog) 38 9 5 Tryd.underlying38 Tryd.underlying5 Tryd.underlying9 hb1); have ha1 := sum3a (P := Tryd.prog) 199 9 4 hs1)
    (try go_wp2_with fail)
    clear hHeld
    refine hK.out _ _ ?_ (fun hHeld => ?_)
    · (try dsimp only); (first | exact KW.out _ _ (bl_21 hb1 hb2) k2 | exact KW.out _ _ (bl_22 hb1 hb2) k2 | exact KW.out _ _ (bl_23 hb1 hb2) k2 | exact KE.out _ (bl_21 hb1 hb2) | exact KE.out _ (bl_22 hb1 hb2) | exact KE.out _ (bl_23 hb1 hb2) | exact KE.out _ (bl_24 hb1 hb2) | exact KE.out _ (bl_1 hb1) | exact KE.out _ (bl_2 hb1) | exact KE.out _ (hbr.drew.trans hb1) | exact KE.out _ (bl_0 _ _) | exact KE.out _ hbr.drew | exact KE.out _ hbr)
    clear hK K
    try simp only [Act.put, List.setIfInBounds_toArray, List.set_cons_zero, List.set_cons_succ]
    refine wpAnyH_ready (rs := [1, 9]) (by kernel_rfl) (by simp) ?_
    refine AllReadyH.cons rfl (fun K hK => ?_) ?_
    · go_simp
      clear hHeld
      refine hK.out _ _ ?_ (fun hHeld => ?_)
      · (try dsimp only); (first | exact KW.out _ _ (bl_21 hb1 hb2) k2 | exact KW.out _ _ (bl_22 hb1 hb2) k2 | exact KW.out _ _ (bl_23 hb1 hb2) k2 | exact KE.out _ (bl_21 hb1 hb2) | exact KE.out _ (bl_22 hb1 hb2) | exact KE.out _ (bl_23 hb1 hb2) | exact KE.out _ (bl_24 hb1 hb2) | exact KE.out _ (bl_1 hb1) | exact KE.out _ (bl_2 hb1) | exact KE.out _ (hbr.drew.trans hb1) | exact KE.out _ (bl_0 _ _) | exact KE.out _ hbr.drew | exact KE.out _ hbr)
      clear hK K
      try simp only [Act.put, List.setIfInBounds_toArray, List.set_cons_zero, List.set_cons_succ]
      refine wpAnyH_ready (rs := [2, 9]) (by kernel_rfl) (by simp) ?_
      refine AllReadyH.cons rfl (fun K hK => ?_) ?_
      · go_simp
        clear hHeld
        refine hK.out _ _ ?_ (fun hHeld => ?_)
        · (try dsimp only); (first | exact KW.out _ _ (bl_21 hb1 hb2) k2 | exact KW.out _ _ (bl_22 hb1 hb2) k2 | exact KW.out _ _ (bl_23 hb1 hb2) k2 | exact KE.out _ (bl_21 hb1 hb2) | exact KE.out _ (bl_22 hb1 hb2) | exact KE.out _ (bl_23 hb1 hb2) | exact KE.out _ (bl_24 hb1 hb2) | exact KE.out _ (bl_1 hb1) | exact KE.out _ (bl_2 hb1) | exact KE.out _ (hbr.drew.trans hb1) | exact KE.out _ (bl_0 _ _) | exact KE.out _ hbr.drew | exact KE.out _ hbr)
        clear hK K
        try simp only [Act.put, List.setIfInBounds_toArray, List.set_cons_zero, List.set_cons_succ]
        refine wpAnyH_take (i := 6) (v := ?_) rfl (by kernel_rfl) (by kernel_rfl) (by kernel_rfl) (fun _ _ _ h => h) (Or.inl ⟨by rfl, ?_⟩) (by assumption) ?_
        rotate_left
        · intro w hSw; (try dsimp only at hSw); go_simp; (try with_reducible rfl)
        try simp only [Act.put, List.setIfInBounds_toArray, List.set_cons_zero, List.set_cons_succ]
        refine wpAnyH_ready (rs := [9]) (by kernel_rfl) (by simp) ?_
        refine AllReadyH.cons rfl (fun K hK => ?_) ?_
        · go_simp
          (go_at_call_of 40 (v.n); refine (wideAt2 v.n 8 _ RN.out (by omega) (by omega)).mono ?_; rintro e w2 ⟨x2, rfl, H2, hs2, hb2⟩; (try have hcv2 := lit3_after (P := Tryd.prog) 38 9 5 Tryd.underlying38 Tryd.underlying5 Tryd.underlying9 (hb1.trans (hb2.mono hb1.size))); (try have hcv3 := lit3_after2 (P := Tryd.prog) 38 9 5 Tryd.underlying38 Tryd.underlying5 Tryd.underlying9 hb2); have ha2 := sum3b (P := Tryd.prog) 199 9 4 hs1 hs2)
          (try go_wp2_with fail)
          clear hHeld
          refine hK.out _ _ ?_ (fun hHeld => ?_)
          · (try dsimp only); (first | exact KW.out _ _ (bl_21 hb1 hb2) k2 | exact KW.out _ _ (bl_22 hb1 hb2) k2 | exact KW.out _ _ (bl_23 hb1 hb2) k2 | exact KE.out _ (bl_21 hb1 hb2) | exact KE.out _ (bl_22 hb1 hb2) | exact KE.out _ (bl_23 hb1 hb2) | exact KE.out _ (bl_24 hb1 hb2) | exact KE.out _ (bl_1 hb1) | exact KE.out _ (bl_2 hb1) | exact KE.out _ (hbr.drew.trans hb1) | exact KE.out _ (bl_0 _ _) | exact KE.out _ hbr.drew | exact KE.out _ hbr)
          clear hK K
          try simp only [Act.put, List.setIfInBounds_toArray, List.set_cons_zero, List.set_cons_succ]
          refine wpAnyH_take (i := 10) (v := ?_) rfl (by kernel_rfl) (by kernel_rfl) (by kernel_rfl) (fun _ _ _ h => h) (Or.inl ⟨by rfl, ?_⟩) (by assumption) ?_
          rotate_left
          · intro w hSw; (try dsimp only at hSw); go_simp; (try with_reducible rfl)
          try simp only [Act.put, List.setIfInBounds_toArray, List.set_cons_zero, List.set_cons_succ]
          refine wpAnyH_ready (rs := [11]) (by kernel_rfl) (by simp) ?_
          refine AllReadyH.cons rfl (fun K hK => ?_) ?_
          · go_simp
            (go_at_call 37; refine (bfWrite B b l _ _ (HF0.out.below (by first | exact bl_21 hb1 hb2 | exact bl_22 hb1 hb2 | exact bl_23 hb1 hb2)) (by simp only [ByteArray.size_append, hs3]; omega) (by have h1 := hb1.size; have h2 := hb2.size; (try simp only [World.size_alloc, World.size_drew] at h1 h2); (try simp only [World.size_alloc, World.size_drew]); omega)).mono ?_; rintro e w9 ⟨rfl, F2, hb9, k2⟩)
            (try go_wp2_with fail)
            clear hHeld
            refine hK.out _ _ ?_ (fun hHeld => ?_)
            · (try dsimp only); (first | exact KW.out _ _ (bl_21 hb1 hb2) k2 | exact KW.out _ _ (bl_22 hb1 hb2) k2 | exact KW.out _ _ (bl_23 hb1 hb2) k2 | exact KE.out _ (bl_21 hb1 hb2) | exact KE.out _ (bl_22 hb1 hb2) | exact KE.out _ (bl_23 hb1 hb2) | exact KE.out _ (bl_24 hb1 hb2) | exact KE.out _ (bl_1 hb1) | exact KE.out _ (bl_2 hb1) | exact KE.out _ (hbr.drew.trans hb1) | exact KE.out _ (bl_0 _ _) | exact KE.out _ hbr.drew | exact KE.out _ hbr)
            clear hK K
            try simp only [Act.put, List.setIfInBounds_toArray, List.set_cons_zero, List.set_cons_succ]
            refine wpAnyH_done (by kernel_rfl) ?_ _
            refine NoPanic.normal ?_
            have hEE : str [byteI 199, byteI 9, byteI 4] ++ x1 ++ x2 = str (199 :: 9 :: 4 :: (wide v.e 1 ++ wide v.n 8)) := named_add (a := 199 :: 9 :: 4 :: wide v.e 1) (named_add (a := [199, 9, 4]) rfl H1) H2
            (try rw [← ByteArray.append_assoc] at F2)
            rw [hEE, data_str, ← HO.out] at F2
            clear hEE hl3 hl3d hs3 p0 p1 p2 p3 p4
            have B2 := k2.blk (HV0.out.below (by first | exact bl_21 hb1 hb2 | exact bl_22 hb1 hb2 | exact bl_23 hb1 hb2) lv) (by omega) vt_ne
            have Kw : OK8 b w w9 := (HK0.out.below (Below.mono (by first | exact bl_21 hb1 hb2 | exact bl_22 hb1 hb2 | exact bl_23 hb1 hb2) (Nat.le_refl _))).trans k2
            have Bw : Below B w w9 := ((HB0.out.trans (Below.mono (by first | exact bl_21 hb1 hb2 | exact bl_22 hb1 hb2 | exact bl_23 hb1 hb2) hs0)).mono hBw).trans hb9
            have HF2 : Hid (BF B b (l ++ v.ownMsg) w9) := Lib.hid F2
            have HKw := Lib.hid Kw
            have HBw := Lib.hid Bw
            obtain ⟨p0, p1, p2, p3, p4⟩ := B2.five
            clear F2 Kw Bw B2 k2 hb9 hb1 hb2
            go_wp2_with fail
            go_loopw [93] (fun i wr => ∃ j : Nat, j ≤ v.kids.length ∧ i = .int .i64 j ∧ MgRel v B b l w j wr) (fun i _ => v.kids.length - (intOf i).toNat)
            case atStart => exact ⟨0, Nat.zero_le _, rfl, by simpa [Vs.msg] using HF2.out, HBw.out, HKw.out⟩
            case round =>
              obtain ⟨j, hj, rfl, hr⟩ := hrel
              have HR := Lib.hid hr
              have hszr : B ≤ wr.heap.size := Nat.le_trans hBw hr.2.1.size
              clear hr p0 p1 p2 p3 p4
              by_cases hlt : j < v.kids.length
              · obtain ⟨bb, off, A', cap', rfl, g1, g2, g3, ⟨c0, c1, c2, c3, c4⟩, g5⟩ := Vs.at_get j hlt (Vs.at_below HA.out HR.out.2.1 (Nat.le_refl _))
                have G5 := Lib.hid g5
                have hbbl : bb < wr.heap.size := by omega
                clear g5
                go_wp2_with fail
                refine (HC.out j hlt A' cap' B b (l ++ (v.ownMsg ++ Vs.msg (v.kids.take j))) _ ⟨_, HKR.out j hlt⟩ (HKF.out j hlt) (HKW.out j hlt) (mgrel_bound hlt HL.out) (Vs.at_alloc G5.out hszr _) (by simp; omega) (HR.out.1.alloc _)).mono ?_
                rintro e w3 ⟨rfl, F3, b3, k3⟩
                have hrel : MgRel v B b l w (j + 1) w3 := ⟨by rw [Vs.msg_step v.kids j hlt]; simpa using F3, (HR.out.2.1.alloc hszr _).trans b3, (HR.out.2.2.alloc _).trans k3⟩
                have HREL := Lib.hid hrel
                clear F3 b3 k3 hrel c0 c1 c2 c3 c4
                go_wp2_with fail
                go_roundw
                case rel => exact ⟨j + 1, by omega, by go_num, HREL.out⟩
                case measure => simp [intOf]; omega
              · obtain rfl : j = v.kids.length := by omega
                go_wp2_with fail
                go_end0
                have h := HR.out
                unfold MgRel at h
                rw [List.take_length, ← HQ.out] at h
                exact ⟨rfl, h⟩
          exact AllReadyH.nil
        exact AllReadyH.nil
      refine AllReadyH.cons rfl (fun K hK => ?_) ?_
      · go_simp
        (go_at_call_of 40 (v.n); refine (wideAt2 v.n 8 _ RN.out (by omega) (by omega)).mono ?_; rintro e w2 ⟨x2, rfl, H2, hs2, hb2⟩; (try have hcv2 := lit3_after (P := Tryd.prog) 38 9 5 Tryd.underlying38 Tryd.underlying5 Tryd.underlying9 (hb1.trans (hb2.mono hb1.size))); (try have hcv3 := lit3_after2 (P := Tryd.prog) 38 9 5 Tryd.underlying38 Tryd.underlying5 Tryd.underlying9 hb2); have ha2 := sum3b (P := Tryd.prog) 199 9 4 hs1 hs2)
        (try go_wp2_with fail)
        clear hHeld
        refine hK.out _ _ ?_ (fun hHeld => ?_)
        · (try dsimp only); (first | exact KW.out _ _ (bl_21 hb1 hb2) k2 | exact KW.out _ _ (bl_22 hb1 hb2) k2 | exact KW.out _ _ (bl_23 hb1 hb2) k2 | exact KE.out _ (bl_21 hb1 hb2) | exact KE.out _ (bl_22 hb1 hb2) | exact KE.out _ (bl_23 hb1 hb2) | exact KE.out _ (bl_24 hb1 hb2) | exact KE.out _ (bl_1 hb1) | exact KE.out _ (bl_2 hb1) | exact KE.out _ (hbr.drew.trans hb1) | exact KE.out _ (bl_0 _ _) | exact KE.out _ hbr.drew | exact KE.out _ hbr)
        clear hK K
        try simp only [Act.put, List.setIfInBounds_toArray, List.set_cons_zero, List.set_cons_succ]
        refine wpAnyH_ready (rs := [2]) (by kernel_rfl) (by simp) ?_
        refine AllReadyH.cons rfl (fun K hK => ?_) ?_
        · go_simp
          clear hHeld
          refine hK.out _ _ ?_ (fun hHeld => ?_)
          · (try dsimp only); (first | exact KW.out _ _ (bl_21 hb1 hb2) k2 | exact KW.out _ _ (bl_22 hb1 hb2) k2 | exact KW.out _ _ (bl_23 hb1 hb2) k2 | exact KE.out _ (bl_21 hb1 hb2) | exact KE.out _ (bl_22 hb1 hb2) | exact KE.out _ (bl_23 hb1 hb2) | exact KE.out _ (bl_24 hb1 hb2) | exact KE.out _ (bl_1 hb1) | exact KE.out _ (bl_2 hb1) | exact KE.out _ (hbr.drew.trans hb1) | exact KE.out _ (bl_0 _ _) | exact KE.out _ hbr.drew | exact KE.out _ hbr)
          clear hK K
          try simp only [Act.put, List.setIfInBounds_toArray, List.set_cons_zero, List.set_cons_succ]
          refine wpAnyH_take (i := 6) (v := ?_) rfl (by kernel_rfl) (by kernel_rfl) (by kernel_rfl) (fun _ _ _ h => h) (Or.inl ⟨by rfl, ?_⟩) (by assumption) ?_
          rotate_left
          · intro w hSw; (try dsimp only at hSw); go_simp; (try with_reducible rfl)
          try simp only [Act.put, List.setIfInBounds_toArray, List.set_cons_zero, List.set_cons_succ]
          refine wpAnyH_take (i := 10) (v := ?_) rfl (by kernel_rfl) (by kernel_rfl) (by kernel_rfl) (fun _ _ _ h => h) (Or.inl ⟨by rfl, ?_⟩) (by assumption) ?_
          rotate_left
          · intro w hSw; (try dsimp only at hSw); go_simp; (try with_reducible rfl)
          try simp only [Act.put, List.setIfInBounds_toArray, List.set_cons_zero, List.set_cons_succ]
          refine wpAnyH_ready (rs := [11]) (by kernel_rfl) (by simp) ?_
          refine AllReadyH.cons rfl (fun K hK => ?_) ?_
          · go_simp
            (go_at_call 37; refine (bfWrite B b l _ _ (HF0.out.below (by first | exact bl_21 hb1 hb2 | exact bl_22 hb1 hb2 | exact bl_23 hb1 hb2)) (by simp only [ByteArray.size_append, hs3]; omega) (by have h1 := hb1.size; have h2 := hb2.size; (try simp only [World.size_alloc, World.size_drew] at h1 h2); (try simp only [World.size_alloc, World.size_drew]); omega)).mono ?_; rintro e w9 ⟨rfl, F2, hb9, k2⟩)
            (try go_wp2_with fail)
            clear hHeld
            refine hK.out _ _ ?_ (fun hHeld => ?_)
            · (try dsimp only); (first | exact KW.out _ _ (bl_21 hb1 hb2) k2 | exact KW.out _ _ (bl_22 hb1 hb2) k2 | exact KW.out _ _ (bl_23 hb1 hb2) k2 | exact KE.out _ (bl_21 hb1 hb2) | exact KE.out _ (bl_22 hb1 hb2) | exact KE.out _ (bl_23 hb1 hb2) | exact KE.out _ (bl_24 hb1 hb2) | exact KE.out _ (bl_1 hb1) | exact KE.out _ (bl_2 hb1) | exact KE.out _ (hbr.drew.trans hb1) | exact KE.out _ (bl_0 _ _) | exact KE.out _ hbr.drew | exact KE.out _ hbr)
            clear hK K
            try simp only [Act.put, List.setIfInBounds_toArray, List.set_cons_zero, List.set_cons_succ]
            refine wpAnyH_done (by kernel_rfl) ?_ _
            refine NoPanic.normal ?_
            have hEE : str [byteI 199, byteI 9, byteI 4] ++ x1 ++ x2 = str (199 :: 9 :: 4 :: (wide v.e 1 ++ wide v.n 8)) := named_add (a := 199 :: 9 :: 4 :: wide v.e 1) (named_add (a := [199, 9, 4]) rfl H1) H2
            (try rw [← ByteArray.append_assoc] at F2)
            rw [hEE, data_str, ← HO.out] at F2
            clear hEE hl3 hl3d hs3 p0 p1 p2 p3 p4
            have B2 := k2.blk (HV0.out.below (by first | exact bl_21 hb1 hb2 | exact bl_22 hb1 hb2 | exact bl_23 hb1 hb2) lv) (by omega) vt_ne
            have Kw : OK8 b w w9 := (HK0.out.below (Below.mono (by first | exact bl_21 hb1 hb2 | exact bl_22 hb1 hb2 | exact bl_23 hb1 hb2) (Nat.le_refl _))).trans k2
            have Bw : Below B w w9 := ((HB0.out.trans (Below.mono (by first | exact bl_21 hb1 hb2 | exact bl_22 hb1 hb2 | exact bl_23 hb1 hb2) hs0)).mono hBw).trans hb9
            have HF2 : Hid (BF B b (l ++ v.ownMsg) w9) := Lib.hid F2
            have HKw := Lib.hid Kw
            have HBw := Lib.hid Bw
            obtain ⟨p0, p1, p2, p3, p4⟩ := B2.five
            clear F2 Kw Bw B2 k2 hb9 hb1 hb2
            go_wp2_with fail
            go_loopw [93] (fun i wr => ∃ j : Nat, j ≤ v.kids.length ∧ i = .int .i64 j ∧ MgRel v B b l w j wr) (fun i _ => v.kids.length - (intOf i).toNat)
            case atStart => exact ⟨0, Nat.zero_le _, rfl, by simpa [Vs.msg] using HF2.out, HBw.out, HKw.out⟩
            case round =>
              obtain ⟨j, hj, rfl, hr⟩ := hrel
              have HR := Lib.hid hr
              have hszr : B ≤ wr.heap.size := Nat.le_trans hBw hr.2.1.size
              clear hr p0 p1 p2 p3 p4
              by_cases hlt : j < v.kids.length
              · obtain ⟨bb, off, A', cap', rfl, g1, g2, g3, ⟨c0, c1, c2, c3, c4⟩, g5⟩ := Vs.at_get j hlt (Vs.at_below HA.out HR.out.2.1 (Nat.le_refl _))
                have G5 := Lib.hid g5
                have hbbl : bb < wr.heap.size := by omega
                clear g5
                go_wp2_with fail
                refine (HC.out j hlt A' cap' B b (l ++ (v.ownMsg ++ Vs.msg (v.kids.take j))) _ ⟨_, HKR.out j hlt⟩ (HKF.out j hlt) (HKW.out j hlt) (mgrel_bound hlt HL.out) (Vs.at_alloc G5.out hszr _) (by simp; omega) (HR.out.1.alloc _)).mono ?_
                rintro e w3 ⟨rfl, F3, b3, k3⟩
                have hrel : MgRel v B b l w (j + 1) w3 := ⟨by rw [Vs.msg_step v.kids j hlt]; simpa using F3, (HR.out.2.1.alloc hszr _).trans b3, (HR.out.2.2.alloc _).trans k3⟩
                have HREL := Lib.hid hrel
                clear F3 b3 k3 hrel c0 c1 c2 c3 c4
                go_wp2_with fail
                go_roundw
                case rel => exact ⟨j + 1, by omega, by go_num, HREL.out⟩
                case measure => simp [intOf]; omega
              · obtain rfl : j = v.kids.length := by omega
                go_wp2_with fail
                go_end0
                have h := HR.out
                unfold MgRel at h
                rw [List.take_length, ← HQ.out] at h
                exact ⟨rfl, h⟩
          exact AllReadyH.nil
        exact AllReadyH.nil
      exact AllReadyH.nil
    refine AllReadyH.cons rfl (fun K hK => ?_) ?_
    · go_simp
      (go_at_call_of 40 (v.n); refine (wideAt2 v.n 8 _ RN.out (by omega) (by omega)).mono ?_; rintro e w2 ⟨x2, rfl, H2, hs2, hb2⟩; (try have hcv2 := lit3_after (P := Tryd.prog) 38 9 5 Tryd.underlying38 Tryd.underlying5 Tryd.underlying9 (hb1.trans (hb2.mono hb1.size))); (try have hcv3 := lit3_after2 (P := Tryd.prog) 38 9 5 Tryd.underlying38 Tryd.underlying5 Tryd.underlying9 hb2); have ha2 := sum3b (P := Tryd.prog) 199 9 4 hs1 hs2)
      (try go_wp2_with fail)
      clear hHeld
      refine hK.out _ _ ?_ (fun hHeld => ?_)
      · (try dsimp only); (first | exact KW.out _ _ (bl_21 hb1 hb2) k2 | exact KW.out _ _ (bl_22 hb1 hb2) k2 | exact KW.out _ _ (bl_23 hb1 hb2) k2 | exact KE.out _ (bl_21 hb1 hb2) | exact KE.out _ (bl_22 hb1 hb2) | exact KE.out _ (bl_23 hb1 hb2) | exact KE.out _ (bl_24 hb1 hb2) | exact KE.out _ (bl_1 hb1) | exact KE.out _ (bl_2 hb1) | exact KE.out _ (hbr.drew.trans hb1) | exact KE.out _ (bl_0 _ _) | exact KE.out _ hbr.drew | exact KE.out _ hbr)
      clear hK K
      try simp only [Act.put, List.setIfInBounds_toArray, List.set_cons_zero, List.set_cons_succ]
      refine wpAnyH_ready (rs := [1]) (by kernel_rfl) (by simp) ?_
      refine AllReadyH.cons rfl (fun K hK => ?_) ?_
      · go_simp
        clear hHeld
        refine hK.out _ _ ?_ (fun hHeld => ?_)
        · (try dsimp only); (first | exact KW.out _ _ (bl_21 hb1 hb2) k2 | exact KW.out _ _ (bl_22 hb1 hb2) k2 | exact KW.out _ _ (bl_23 hb1 hb2) k2 | exact KE.out _ (bl_21 hb1 hb2) | exact KE.out _ (bl_22 hb1 hb2) | exact KE.out _ (bl_23 hb1 hb2) | exact KE.out _ (bl_24 hb1 hb2) | exact KE.out _ (bl_1 hb1) | exact KE.out _ (bl_2 hb1) | exact KE.out _ (hbr.drew.trans hb1) | exact KE.out _ (bl_0 _ _) | exact KE.out _ hbr.drew | exact KE.out _ hbr)
        clear hK K
        try simp only [Act.put, List.setIfInBounds_toArray, List.set_cons_zero, List.set_cons_succ]
        refine wpAnyH_ready (rs := [2]) (by kernel_rfl) (by simp) ?_
        refine AllReadyH.cons rfl (fun K hK => ?_) ?_
        · go_simp
          clear hHeld
          refine hK.out _ _ ?_ (fun hHeld => ?_)
          · (try dsimp only); (first | exact KW.out _ _ (bl_21 hb1 hb2) k2 | exact KW.out _ _ (bl_22 hb1 hb2) k2 | exact KW.out _ _ (bl_23 hb1 hb2) k2 | exact KE.out _ (bl_21 hb1 hb2) | exact KE.out _ (bl_22 hb1 hb2) | exact KE.out _ (bl_23 hb1 hb2) | exact KE.out _ (bl_24 hb1 hb2) | exact KE.out _ (bl_1 hb1) | exact KE.out _ (bl_2 hb1) | exact KE.out _ (hbr.drew.trans hb1) | exact KE.out _ (bl_0 _ _) | exact KE.out _ hbr.drew | exact KE.out _ hbr)
          clear hK K
          try simp only [Act.put, List.setIfInBounds_toArray, List.set_cons_zero, List.set_cons_succ]
          refine wpAnyH_take (i := 6) (v := ?_) rfl (by kernel_rfl) (by kernel_rfl) (by kernel_rfl) (fun _ _ _ h => h) (Or.inl ⟨by rfl, ?_⟩) (by assumption) ?_
          rotate_left
          · intro w hSw; (try dsimp only at hSw); go_simp; (try with_reducible rfl)
          try simp only [Act.put, List.setIfInBounds_toArray, List.set_cons_zero, List.set_cons_succ]
          refine wpAnyH_take (i := 10) (v := ?_) rfl (by kernel_rfl) (by kernel_rfl) (by kernel_rfl) (fun _ _ _ h => h) (Or.inl ⟨by rfl, ?_⟩) (by assumption) ?_
          rotate_left
          · intro w hSw; (try dsimp only at hSw); go_simp; (try with_reducible rfl)
          try simp only [Act.put, List.setIfInBounds_toArray, List.set_cons_zero, List.set_cons_succ]
          refine wpAnyH_ready (rs := [11]) (by kernel_rfl) (by simp) ?_
          refine AllReadyH.cons rfl (fun K hK => ?_) ?_
          · go_simp
            (go_at_call 37; refine (bfWrite B b l _ _ (HF0.out.below (by first | exact bl_21 hb1 hb2 | exact bl_22 hb1 hb2 | exact bl_23 hb1 hb2)) (by simp only [ByteArray.size_append, hs3]; omega) (by have h1 := hb1.size; have h2 := hb2.size; (try simp only [World.size_alloc, World.size_drew] at h1 h2); (try simp only [World.size_alloc, World.size_drew]); omega)).mono ?_; rintro e w9 ⟨rfl, F2, hb9, k2⟩)
            (try go_wp2_with fail)
            clear hHeld
            refine hK.out _ _ ?_ (fun hHeld => ?_)
            · (try dsimp only); (first | exact KW.out _ _ (bl_21 hb1 hb2) k2 | exact KW.out _ _ (bl_22 hb1 hb2) k2 | exact KW.out _ _ (bl_23 hb1 hb2) k2 | exact KE.out _ (bl_21 hb1 hb2) | exact KE.out _ (bl_22 hb1 hb2) | exact KE.out _ (bl_23 hb1 hb2) | exact KE.out _ (bl_24 hb1 hb2) | exact KE.out _ (bl_1 hb1) | exact KE.out _ (bl_2 hb1) | exact KE.out _ (hbr.drew.trans hb1) | exact KE.out _ (bl_0 _ _) | exact KE.out _ hbr.drew | exact KE.out _ hbr)
            clear hK K
            try simp only [Act.put, List.setIfInBounds_toArray, List.set_cons_zero, List.set_cons_succ]
            refine wpAnyH_done (by kernel_rfl) ?_ _
            refine NoPanic.normal ?_
            have hEE : str [byteI 199, byteI 9, byteI 4] ++ x1 ++ x2 = str (199 :: 9 :: 4 :: (wide v.e 1 ++ wide v.n 8)) := named_add (a := 199 :: 9 :: 4 :: wide v.e 1) (named_add (a := [199, 9, 4]) rfl H1) H2
            (try rw [← ByteArray.append_assoc] at F2)
            rw [hEE, data_str, ← HO.out] at F2
            clear hEE hl3 hl3d hs3 p0 p1 p2 p3 p4
            have B2 := k2.blk (HV0.out.below (by first | exact bl_21 hb1 hb2 | exact bl_22 hb1 hb2 | exact bl_23 hb1 hb2) lv) (by omega) vt_ne
            have Kw : OK8 b w w9 := (HK0.out.below (Below.mono (by first | exact bl_21 hb1 hb2 | exact bl_22 hb1 hb2 | exact bl_23 hb1 hb2) (Nat.le_refl _))).trans k2
            have Bw : Below B w w9 := ((HB0.out.trans (Below.mono (by first | exact bl_21 hb1 hb2 | exact bl_22 hb1 hb2 | exact bl_23 hb1 hb2) hs0)).mono hBw).trans hb9
            have HF2 : Hid (BF B b (l ++ v.ownMsg) w9) := Lib.hid F2
            have HKw := Lib.hid Kw
            have HBw := Lib.hid Bw
            obtain ⟨p0, p1, p2, p3, p4⟩ := B2.five
            clear F2 Kw Bw B2 k2 hb9 hb1 hb2
            go_wp2_with fail
            go_loopw [93] (fun i wr => ∃ j : Nat, j ≤ v.kids.length ∧ i = .int .i64 j ∧ MgRel v B b l w j wr) (fun i _ => v.kids.length - (intOf i).toNat)
            case atStart => exact ⟨0, Nat.zero_le _, rfl, by simpa [Vs.msg] using HF2.out, HBw.out, HKw.out⟩
            case round =>
              obtain ⟨j, hj, rfl, hr⟩ := hrel
              have HR := Lib.hid hr
              have hszr : B ≤ wr.heap.size := Nat.le_trans hBw hr.2.1.size
              clear hr p0 p1 p2 p3 p4
              by_cases hlt : j < v.kids.length
              · obtain ⟨bb, off, A', cap', rfl, g1, g2, g3, ⟨c0, c1, c2, c3, c4⟩, g5⟩ := Vs.at_get j hlt (Vs.at_below HA.out HR.out.2.1 (Nat.le_refl _))
                have G5 := Lib.hid g5
                have hbbl : bb < wr.heap.size := by omega
                clear g5
                go_wp2_with fail
                refine (HC.out j hlt A' cap' B b (l ++ (v.ownMsg ++ Vs.msg (v.kids.take j))) _ ⟨_, HKR.out j hlt⟩ (HKF.out j hlt) (HKW.out j hlt) (mgrel_bound hlt HL.out) (Vs.at_alloc G5.out hszr _) (by simp; omega) (HR.out.1.alloc _)).mono ?_
                rintro e w3 ⟨rfl, F3, b3, k3⟩
                have hrel : MgRel v B b l w (j + 1) w3 := ⟨by rw [Vs.msg_step v.kids j hlt]; simpa using F3, (HR.out.2.1.alloc hszr _).trans b3, (HR.out.2.2.alloc _).trans k3⟩
                have HREL := Lib.hid hrel
                clear F3 b3 k3 hrel c0 c1 c2 c3 c4
                go_wp2_with fail
                go_roundw
                case rel => exact ⟨j + 1, by omega, by go_num, HREL.out⟩
                case measure => simp [intOf]; omega
              · obtain rfl : j = v.kids.length := by omega
                go_wp2_with fail
                go_end0
                have h := HR.out
                unfold MgRel at h
                rw [List.take_length, ← HQ.out] at h
                exact ⟨rfl, h⟩
          exact AllReadyH.nil
        exact AllReadyH.nil
      exact AllReadyH.nil
    exact AllReadyH.nil
  exact AllReadyH.nil

end Go.Proofs.YtkajfinfphmlaaaDoor

/-
  The program's putMsg: kinds 9.
-/
namespace Go.Proofs.YtkajfinfphmlaaaDoor
open Go.RowKit
set_option linter.unusedVariables false
set_option linter.unusedSimpArgs false
set_option maxRecDepth 100000

set_option maxHeartbeats 4000000 in
theorem implMsg_9 (v : V) (hk : ∀ i (h : i < v.kids.length), ImplMsgSaid v.kids[i]) (hkd : v.k = 9) : ImplMsgSaid v := by
  intro A cap B b l w hr hf hw hlen hat hBw hB
  obtain ⟨d, hr⟩ := hr
  have hr3 := (V.right_eq _ _).1 hr
  obtain ⟨hw1, hw2, hw3⟩ := V.weight_kids v
  have hl : v.kids.length ≤ 1048576 := by omega
  have hss : v.s.size ≤ 1048576 := by omega
  have hf3 := (V.fits_eq v).1 hf
  have hbl := hB.lt
  have hbB := hB.base
  have HKR := Lib.hid (fun (i : Nat) (h : i < v.kids.length) => (Vs.right_iff _ _).1 hr3.2.2 i h)
  have HKF := Lib.hid (fun (i : Nat) (h : i < v.kids.length) => Vs.fits_get i h hf3.2.2.1)
  have HKW := Lib.hid (fun (i : Nat) (h : i < v.kids.length) => (show (v.kids[i]).weight ≤ 1048576 by have := Vs.weight_get i h; omega))
  have HL := Lib.hid hlen
  have hol := ownM_le hlen
  have HC := Lib.hid hk
  have HA := Lib.hid hat
  have HB := Lib.hid hB
  have HQ := Lib.hid (V.msg_eq v)
  have RN := Lib.hid hf3.2.2.2.2.1
  have RE := Lib.hid hf3.2.2.2.2.2
  have q0 : (v.k == 0) = false := by rw [hkd]; rfl
  have q1 : (v.k == 1) = false := by rw [hkd]; rfl
  have q2 : (v.k == 2) = false := by rw [hkd]; rfl
  have q3 : (v.k == 3) = false := by rw [hkd]; rfl
  have q4 : (v.k == 4) = false := by rw [hkd]; rfl
  have q5 : (v.k == 5) = false := by rw [hkd]; rfl
  have q6 : (v.k == 6) = false := by rw [hkd]; rfl
  have q7 : (v.k == 7) = false := by rw [hkd]; rfl
  have q8 : (v.k == 8) = false := by rw [hkd]; rfl
  have q9 : (v.k == 9) = true := by rw [hkd]; rfl
  have HO : Hid (v.ownMsg = 199 :: 4 :: 6 :: wide v.n 4) := Lib.hid (by unfold V.ownMsg; simp [hkd])
  have hon : (199 :: 4 :: 6 :: wide v.n 4).length ≤ 1048616 := by have h1 := V.ownMsg_len v; rw [HO.out] at h1; omega
  have hno : 0 ≤ v.n ∧ v.n ≤ 1000000 := by
    have h1 := hr3.2.1.1
    unfold nodeOk at h1
    simp [hkd] at h1
    exact ⟨h1.1, h1.2.1⟩
  have hu0 : IntKind.u64.wrap (v.kids.length : Int) = (v.kids.length : Int) := by rw [IntKind.wrap_u64]; omega
  have hu1 : IntKind.u64.wrap ((v.kids.length : Int) / 2) = (v.kids.length : Int) / 2 := by rw [IntKind.wrap_u64]; omega
  have hu2 : IntKind.u64.wrap v.n = v.n := by rw [IntKind.wrap_u64]; omega
  clear hk hat hB hr hr3 hf hf3 hlen hkd
  have hb0 : Below w.heap.size w (w.alloc (.cells #[.int .i64 v.k, .int .i64 v.n, .int .i64 v.e, .string v.s, .slice A v.kids.length cap] 29)) := (Below.refl _ w).alloc (Nat.le_refl _) _
  obtain ⟨w0, hw0⟩ : ∃ w0, w0 = w.alloc (.cells #[.int .i64 v.k, .int .i64 v.n, .int .i64 v.e, .string v.s, .slice A v.kids.length cap] 29) := ⟨_, rfl⟩
  have B0 : Blk w0 w.heap.size 29 #[.int .i64 v.k, .int .i64 v.n, .int .i64 v.e, .string v.s, .slice A v.kids.length cap] := by rw [hw0]; exact Blk.new w _ _
  rw [← hw0] at hb0
  have k0 : OK8 b w w0 := (OK8.refl b w).below hb0
  have F0 : BF B b l w0 := HB.out.below hb0
  have hs0 := hb0.size
  have lv := B0.lt
  have HF0 := Lib.hid F0
  have HK0 := Lib.hid k0
  have HB0 := Lib.hid hb0
  have HV0 := Lib.hid B0
  obtain ⟨p0, p1, p2, p3, p4⟩ := B0.five
  clear F0 k0 hb0 B0
  unfold V.agg
  go_enter Tryd.func23, Tryd.ntmps23
  go_wp2_with fail
  rw [← hw0]
  clear hw0
  have hl3 := lit3 (P := Tryd.prog) 38 9 5 Tryd.underlying38 Tryd.underlying5 Tryd.underlying9
  have hl3d := lit3_drew (P := Tryd.prog) 38 9 5 Tryd.underlying38 Tryd.underlying5 Tryd.underlying9
  have hs3 : ∀ a b c : UInt8, (str [a, b, c]).size = 3 := fun _ _ _ => rfl
  go_region_with (first
    | (have hgate := hb1; clear hgate; go_at_call 37; refine (bfWrite B b l _ _ (HF0.out.below (by first | exact bl_1 hb1 | exact bl_2 hb1)) (by rw [ByteArray.size_append, hs3]; omega) (by have h1 := hb1.size; (try simp only [World.size_alloc, World.size_drew] at h1); (try simp only [World.size_alloc, World.size_drew]); omega)).mono ?_; rintro e w2 ⟨rfl, F2, hb2, k2⟩)
    | (go_at_call 40; refine (wideAt2 v.n 4 _ RN.out (by omega) (by omega)).mono ?_; rintro e w1 ⟨x2, rfl, H2, hs2, hb1⟩; try have hcv := lit3_after (P := Tryd.prog) 38 9 5 Tryd.underlying38 Tryd.underlying5 Tryd.underlying9 hb1))
  all_goals
    have hEE : str [byteI 199, byteI 4, byteI 6] ++ x2 = str (199 :: 4 :: 6 :: wide v.n 4) := named_add (a := [199, 4, 6]) rfl H2
    rw [hEE, data_str, ← HO.out] at F2
    clear hEE hl3 hl3d hs3 p0 p1 p2 p3 p4
    have B2 := k2.blk (HV0.out.below (by first | exact bl_1 hb1 | exact bl_2 hb1) lv) (by omega) vt_ne
    have Kw : OK8 b w w2 := (HK0.out.below (Below.mono (by first | exact bl_1 hb1 | exact bl_2 hb1) (Nat.le_refl _))).trans k2
    have Bw : Below B w w2 := ((HB0.out.trans (Below.mono (by first | exact bl_1 hb1 | exact bl_2 hb1) hs0)).mono hBw).trans hb2
    have HF2 : Hid (BF B b (l ++ v.ownMsg) w2) := Lib.hid F2
    have HKw := Lib.hid Kw
    have HBw := Lib.hid Bw
    obtain ⟨p0, p1, p2, p3, p4⟩ := B2.five
    clear F2 Kw Bw B2 k2 hb2 hb1
    go_wp2_with fail
    go_loopw [93] (fun i wr => ∃ j : Nat, j ≤ v.kids.length ∧ i = .int .i64 j ∧ MgRel v B b l w j wr) (fun i _ => v.kids.length - (intOf i).toNat)
    case atStart => exact ⟨0, Nat.zero_le _, rfl, by simpa [Vs.msg] using HF2.out, HBw.out, HKw.out⟩
    case round =>
      obtain ⟨j, hj, rfl, hr⟩ := hrel
      have HR := Lib.hid hr
      have hszr : B ≤ wr.heap.size := Nat.le_trans hBw hr.2.1.size
      clear hr p0 p1 p2 p3 p4
      by_cases hlt : j < v.kids.length
      · obtain ⟨bb, off, A', cap', rfl, g1, g2, g3, ⟨c0, c1, c2, c3, c4⟩, g5⟩ := Vs.at_get j hlt (Vs.at_below HA.out HR.out.2.1 (Nat.le_refl _))
        have G5 := Lib.hid g5
        have hbbl : bb < wr.heap.size := by omega
        clear g5
        go_wp2_with fail
        refine (HC.out j hlt A' cap' B b (l ++ (v.ownMsg ++ Vs.msg (v.kids.take j))) _ ⟨_, HKR.out j hlt⟩ (HKF.out j hlt) (HKW.out j hlt) (mgrel_bound hlt HL.out) (Vs.at_alloc G5.out hszr _) (by simp; omega) (HR.out.1.alloc _)).mono ?_
        rintro e w3 ⟨rfl, F3, b3, k3⟩
        have hrel : MgRel v B b l w (j + 1) w3 := ⟨by rw [Vs.msg_step v.kids j hlt]; simpa using F3, (HR.out.2.1.alloc hszr _).trans b3, (HR.out.2.2.alloc _).trans k3⟩
        have HREL := Lib.hid hrel
        clear F3 b3 k3 hrel c0 c1 c2 c3 c4
        go_wp2_with fail
        go_roundw
        case rel => exact ⟨j + 1, by omega, by go_num, HREL.out⟩
        case measure => simp [intOf]; omega
      · obtain rfl : j = v.kids.length := by omega
        go_wp2_with fail
        go_end0
        have h := HR.out
        unfold MgRel at h
        rw [List.take_length, ← HQ.out] at h
        exact ⟨rfl, h⟩

end Go.Proofs.YtkajfinfphmlaaaDoor

/-
  The program's putMsg: all kinds together.
-/
namespace Go.Proofs.YtkajfinfphmlaaaDoor
open Go.RowKit
set_option linter.unusedVariables false
set_option linter.unusedSimpArgs false
set_option maxRecDepth 100000

theorem implMsg_step (v : V) (hk : ∀ i (h : i < v.kids.length), ImplMsgSaid v.kids[i]) : ImplMsgSaid v := by
  intro A cap B b l w hr
  obtain ⟨d, hd⟩ := hr
  rcases right_kinds hd with h | h | h | h | h | h | h | h | h | h
  · exact implMsg_0 v hk h A cap B b l w ⟨d, hd⟩
  · exact implMsg_1 v hk h A cap B b l w ⟨d, hd⟩
  · exact implMsg_2 v hk h A cap B b l w ⟨d, hd⟩
  · exact implMsg_3 v hk h A cap B b l w ⟨d, hd⟩
  · exact implMsg_4 v hk h A cap B b l w ⟨d, hd⟩
  · exact implMsg_5 v hk h A cap B b l w ⟨d, hd⟩
  · exact implMsg_6 v hk h A cap B b l w ⟨d, hd⟩
  · exact implMsg_7 v hk h A cap B b l w ⟨d, hd⟩
  · exact implMsg_8 v hk h A cap B b l w ⟨d, hd⟩
  · exact implMsg_9 v hk h A cap B b l w ⟨d, hd⟩
theorem implMsg : ∀ v, ImplMsgSaid v := V.all implMsg_step
end Go.Proofs.YtkajfinfphmlaaaDoor

/-
  The reference's message form of a value.
-/
namespace Go.Proofs.YtkajfinfphmlaaaDoor
open Go.RowKit
set_option linter.unusedVariables false
set_option linter.unusedSimpArgs false
set_option maxRecDepth 100000

def SpecMsgSaid (v : V) : Prop := ∀ (A : Option Addr) (cap : Nat) (w : World), (∃ d, V.right d v) → v.fits → v.weight ≤ 1048576 → Vs.at_ w 0 w.heap.size v.kids A →
    Calls Tryd.prog 20 #[v.agg A cap] w fun e w' => e = .returned (.string (str v.msg)) ∧ Below w.heap.size w w'

set_option maxHeartbeats 4000000 in
theorem specMsg_0 (v : V) (hk : ∀ i (h : i < v.kids.length), SpecMsgSaid v.kids[i]) (hkd : v.k = 0) : SpecMsgSaid v := by
  intro A cap w hr hf hw hat
  obtain ⟨d, hr⟩ := hr
  have hr3 := (V.right_eq _ _).1 hr
  obtain ⟨hw1, hw2, hw3⟩ := V.weight_kids v
  have hl : v.kids.length ≤ 1048576 := by omega
  have hss : v.s.size ≤ 1048576 := by omega
  have hf3 := (V.fits_eq v).1 hf
  have HKR := Lib.hid (fun (i : Nat) (h : i < v.kids.length) => (Vs.right_iff _ _).1 hr3.2.2 i h)
  have HKF := Lib.hid (fun (i : Nat) (h : i < v.kids.length) => Vs.fits_get i h hf3.2.2.1)
  have HKW := Lib.hid (fun (i : Nat) (h : i < v.kids.length) => (show (v.kids[i]).weight ≤ 1048576 by have := Vs.weight_get i h; omega))
  have HL := Lib.hid (msg_small hw)
  have HC := Lib.hid hk
  have HA := Lib.hid hat
  have HQ := Lib.hid (V.msg_eq v)
  have RN := Lib.hid hf3.2.2.2.2.1
  have RE := Lib.hid hf3.2.2.2.2.2
  have q0 : (v.k == 0) = true := by rw [hkd]; rfl
  have q1 : (v.k == 1) = false := by rw [hkd]; rfl
  have q2 : (v.k == 2) = false := by rw [hkd]; rfl
  have q3 : (v.k == 3) = false := by rw [hkd]; rfl
  have q4 : (v.k == 4) = false := by rw [hkd]; rfl
  have q5 : (v.k == 5) = false := by rw [hkd]; rfl
  have q6 : (v.k == 6) = false := by rw [hkd]; rfl
  have q7 : (v.k == 7) = false := by rw [hkd]; rfl
  have q8 : (v.k == 8) = false := by rw [hkd]; rfl
  have q9 : (v.k == 9) = false := by rw [hkd]; rfl
  have HO : Hid (v.ownMsg = [192]) := Lib.hid (by unfold V.ownMsg; simp [hkd])
  have hon : ([192]).length ≤ 1048616 := by have h1 := V.ownMsg_len v; rw [HO.out] at h1; omega
  have HX := Lib.hid (leaf_msg (leaf_kids hr (by omega)))
  have hu0 : IntKind.u64.wrap (v.kids.length : Int) = (v.kids.length : Int) := by rw [IntKind.wrap_u64]; omega
  have hu1 : IntKind.u64.wrap ((v.kids.length : Int) / 2) = (v.kids.length : Int) / 2 := by rw [IntKind.wrap_u64]; omega
  have hs1 : IntKind.u64.wrap (v.s.size : Int) = (v.s.size : Int) := by rw [IntKind.wrap_u64]; omega
  clear hk hat hr hr3 hf hf3
  have hb0 : Below w.heap.size w (w.alloc (.cells #[.int .i64 v.k, .int .i64 v.n, .int .i64 v.e, .string v.s, .slice A v.kids.length cap] 29)) := (Below.refl _ w).alloc (Nat.le_refl _) _
  obtain ⟨w0, hw0⟩ : ∃ w0, w0 = w.alloc (.cells #[.int .i64 v.k, .int .i64 v.n, .int .i64 v.e, .string v.s, .slice A v.kids.length cap] 29) := ⟨_, rfl⟩
  have B0 : Blk w0 w.heap.size 29 #[.int .i64 v.k, .int .i64 v.n, .int .i64 v.e, .string v.s, .slice A v.kids.length cap] := by rw [hw0]; exact Blk.new w _ _
  rw [← hw0] at hb0
  have hs0 := hb0.size
  have lv := B0.lt
  have HB0 := Lib.hid hb0
  have HV0 := Lib.hid B0
  obtain ⟨p0, p1, p2, p3, p4⟩ := B0.five
  clear hb0 B0
  unfold V.agg
  go_enter Tryd.func20, Tryd.ntmps20
  go_wp2_with fail
  
  
  go_ret
  exact ⟨ret_eq (by rw [HX.out, HO.out]; rfl), ((Below.refl _ w).alloc (Nat.le_refl _) _).alloc (by simp) _⟩

set_option maxHeartbeats 4000000 in
theorem specMsg_1 (v : V) (hk : ∀ i (h : i < v.kids.length), SpecMsgSaid v.kids[i]) (hkd : v.k = 1) : SpecMsgSaid v := by
  intro A cap w hr hf hw hat
  obtain ⟨d, hr⟩ := hr
  have hr3 := (V.right_eq _ _).1 hr
  obtain ⟨hw1, hw2, hw3⟩ := V.weight_kids v
  have hl : v.kids.length ≤ 1048576 := by omega
  have hss : v.s.size ≤ 1048576 := by omega
  have hf3 := (V.fits_eq v).1 hf
  have HKR := Lib.hid (fun (i : Nat) (h : i < v.kids.length) => (Vs.right_iff _ _).1 hr3.2.2 i h)
  have HKF := Lib.hid (fun (i : Nat) (h : i < v.kids.length) => Vs.fits_get i h hf3.2.2.1)
  have HKW := Lib.hid (fun (i : Nat) (h : i < v.kids.length) => (show (v.kids[i]).weight ≤ 1048576 by have := Vs.weight_get i h; omega))
  have HL := Lib.hid (msg_small hw)
  have HC := Lib.hid hk
  have HA := Lib.hid hat
  have HQ := Lib.hid (V.msg_eq v)
  have RN := Lib.hid hf3.2.2.2.2.1
  have RE := Lib.hid hf3.2.2.2.2.2
  have q0 : (v.k == 0) = false := by rw [hkd]; rfl
  have q1 : (v.k == 1) = true := by rw [hkd]; rfl
  have q2 : (v.k == 2) = false := by rw [hkd]; rfl
  have q3 : (v.k == 3) = false := by rw [hkd]; rfl
  have q4 : (v.k == 4) = false := by rw [hkd]; rfl
  have q5 : (v.k == 5) = false := by rw [hkd]; rfl
  have q6 : (v.k == 6) = false := by rw [hkd]; rfl
  have q7 : (v.k == 7) = false := by rw [hkd]; rfl
  have q8 : (v.k == 8) = false := by rw [hkd]; rfl
  have q9 : (v.k == 9) = false := by rw [hkd]; rfl
  have HO : Hid (v.ownMsg = [194]) := Lib.hid (by unfold V.ownMsg; simp [hkd])
  have hon : ([194]).length ≤ 1048616 := by have h1 := V.ownMsg_len v; rw [HO.out] at h1; omega
  have HX := Lib.hid (leaf_msg (leaf_kids hr (by omega)))
  have hu0 : IntKind.u64.wrap (v.kids.length : Int) = (v.kids.length : Int) := by rw [IntKind.wrap_u64]; omega
  have hu1 : IntKind.u64.wrap ((v.kids.length : Int) / 2) = (v.kids.length : Int) / 2 := by rw [IntKind.wrap_u64]; omega
  have hs1 : IntKind.u64.wrap (v.s.size : Int) = (v.s.size : Int) := by rw [IntKind.wrap_u64]; omega
  clear hk hat hr hr3 hf hf3
  have hb0 : Below w.heap.size w (w.alloc (.cells #[.int .i64 v.k, .int .i64 v.n, .int .i64 v.e, .string v.s, .slice A v.kids.length cap] 29)) := (Below.refl _ w).alloc (Nat.le_refl _) _
  obtain ⟨w0, hw0⟩ : ∃ w0, w0 = w.alloc (.cells #[.int .i64 v.k, .int .i64 v.n, .int .i64 v.e, .string v.s, .slice A v.kids.length cap] 29) := ⟨_, rfl⟩
  have B0 : Blk w0 w.heap.size 29 #[.int .i64 v.k, .int .i64 v.n, .int .i64 v.e, .string v.s, .slice A v.kids.length cap] := by rw [hw0]; exact Blk.new w _ _
  rw [← hw0] at hb0
  have hs0 := hb0.size
  have lv := B0.lt
  have HB0 := Lib.hid hb0
  have HV0 := Lib.hid B0
  obtain ⟨p0, p1, p2, p3, p4⟩ := B0.five
  clear hb0 B0
  unfold V.agg
  go_enter Tryd.func20, Tryd.ntmps20
  go_wp2_with fail
  
  
  go_ret
  exact ⟨ret_eq (by rw [HX.out, HO.out]; rfl), ((Below.refl _ w).alloc (Nat.le_refl _) _).alloc (by simp) _⟩

set_option maxHeartbeats 4000000 in
theorem specMsg_2 (v : V) (hk : ∀ i (h : i < v.kids.length), SpecMsgSaid v.kids[i]) (hkd : v.k = 2) : SpecMsgSaid v := by
  intro A cap w hr hf hw hat
  obtain ⟨d, hr⟩ := hr
  have hr3 := (V.right_eq _ _).1 hr
  obtain ⟨hw1, hw2, hw3⟩ := V.weight_kids v
  have hl : v.kids.length ≤ 1048576 := by omega
  have hss : v.s.size ≤ 1048576 := by omega
  have hf3 := (V.fits_eq v).1 hf
  have HKR := Lib.hid (fun (i : Nat) (h : i < v.kids.length) => (Vs.right_iff _ _).1 hr3.2.2 i h)
  have HKF := Lib.hid (fun (i : Nat) (h : i < v.kids.length) => Vs.fits_get i h hf3.2.2.1)
  have HKW := Lib.hid (fun (i : Nat) (h : i < v.kids.length) => (show (v.kids[i]).weight ≤ 1048576 by have := Vs.weight_get i h; omega))
  have HL := Lib.hid (msg_small hw)
  have HC := Lib.hid hk
  have HA := Lib.hid hat
  have HQ := Lib.hid (V.msg_eq v)
  have RN := Lib.hid hf3.2.2.2.2.1
  have RE := Lib.hid hf3.2.2.2.2.2
  have q0 : (v.k == 0) = false := by rw [hkd]; rfl
  have q1 : (v.k == 1) = false := by rw [hkd]; rfl
  have q2 : (v.k == 2) = true := by rw [hkd]; rfl
  have q3 : (v.k == 3) = false := by rw [hkd]; rfl
  have q4 : (v.k == 4) = false := by rw [hkd]; rfl
  have q5 : (v.k == 5) = false := by rw [hkd]; rfl
  have q6 : (v.k == 6) = false := by rw [hkd]; rfl
  have q7 : (v.k == 7) = false := by rw [hkd]; rfl
  have q8 : (v.k == 8) = false := by rw [hkd]; rfl
  have q9 : (v.k == 9) = false := by rw [hkd]; rfl
  have HO : Hid (v.ownMsg = [195]) := Lib.hid (by unfold V.ownMsg; simp [hkd])
  have hon : ([195]).length ≤ 1048616 := by have h1 := V.ownMsg_len v; rw [HO.out] at h1; omega
  have HX := Lib.hid (leaf_msg (leaf_kids hr (by omega)))
  have hu0 : IntKind.u64.wrap (v.kids.length : Int) = (v.kids.length : Int) := by rw [IntKind.wrap_u64]; omega
  have hu1 : IntKind.u64.wrap ((v.kids.length : Int) / 2) = (v.kids.length : Int) / 2 := by rw [IntKind.wrap_u64]; omega
  have hs1 : IntKind.u64.wrap (v.s.size : Int) = (v.s.size : Int) := by rw [IntKind.wrap_u64]; omega
  clear hk hat hr hr3 hf hf3
  have hb0 : Below w.heap.size w (w.alloc (.cells #[.int .i64 v.k, .int .i64 v.n, .int .i64 v.e, .string v.s, .slice A v.kids.length cap] 29)) := (Below.refl _ w).alloc (Nat.le_refl _) _
  obtain ⟨w0, hw0⟩ : ∃ w0, w0 = w.alloc (.cells #[.int .i64 v.k, .int .i64 v.n, .int .i64 v.e, .string v.s, .slice A v.kids.length cap] 29) := ⟨_, rfl⟩
  have B0 : Blk w0 w.heap.size 29 #[.int .i64 v.k, .int .i64 v.n, .int .i64 v.e, .string v.s, .slice A v.kids.length cap] := by rw [hw0]; exact Blk.new w _ _
  rw [← hw0] at hb0
  have hs0 := hb0.size
  have lv := B0.lt
  have HB0 := Lib.hid hb0
  have HV0 := Lib.hid B0
  obtain ⟨p0, p1, p2, p3, p4⟩ := B0.five
  clear hb0 B0
  unfold V.agg
  go_enter Tryd.func20, Tryd.ntmps20
  go_wp2_with fail
  
  
  go_ret
  exact ⟨ret_eq (by rw [HX.out, HO.out]; rfl), ((Below.refl _ w).alloc (Nat.le_refl _) _).alloc (by simp) _⟩

set_option maxHeartbeats 4000000 in
theorem specMsg_3 (v : V) (hk : ∀ i (h : i < v.kids.length), SpecMsgSaid v.kids[i]) (hkd : v.k = 3) : SpecMsgSaid v := by
  intro A cap w hr hf hw hat
  obtain ⟨d, hr⟩ := hr
  have hr3 := (V.right_eq _ _).1 hr
  obtain ⟨hw1, hw2, hw3⟩ := V.weight_kids v
  have hl : v.kids.length ≤ 1048576 := by omega
  have hss : v.s.size ≤ 1048576 := by omega
  have hf3 := (V.fits_eq v).1 hf
  have HKR := Lib.hid (fun (i : Nat) (h : i < v.kids.length) => (Vs.right_iff _ _).1 hr3.2.2 i h)
  have HKF := Lib.hid (fun (i : Nat) (h : i < v.kids.length) => Vs.fits_get i h hf3.2.2.1)
  have HKW := Lib.hid (fun (i : Nat) (h : i < v.kids.length) => (show (v.kids[i]).weight ≤ 1048576 by have := Vs.weight_get i h; omega))
  have HL := Lib.hid (msg_small hw)
  have HC := Lib.hid hk
  have HA := Lib.hid hat
  have HQ := Lib.hid (V.msg_eq v)
  have RN := Lib.hid hf3.2.2.2.2.1
  have RE := Lib.hid hf3.2.2.2.2.2
  have q0 : (v.k == 0) = false := by rw [hkd]; rfl
  have q1 : (v.k == 1) = false := by rw [hkd]; rfl
  have q2 : (v.k == 2) = false := by rw [hkd]; rfl
  have q3 : (v.k == 3) = true := by rw [hkd]; rfl
  have q4 : (v.k == 4) = false := by rw [hkd]; rfl
  have q5 : (v.k == 5) = false := by rw [hkd]; rfl
  have q6 : (v.k == 6) = false := by rw [hkd]; rfl
  have q7 : (v.k == 7) = false := by rw [hkd]; rfl
  have q8 : (v.k == 8) = false := by rw [hkd]; rfl
  have q9 : (v.k == 9) = false := by rw [hkd]; rfl
  have HO : Hid (v.ownMsg = msgInt v.n) := Lib.hid (by unfold V.ownMsg; simp [hkd])
  have hon : (msgInt v.n).length ≤ 1048616 := by have h1 := V.ownMsg_len v; rw [HO.out] at h1; omega
  have HX := Lib.hid (leaf_msg (leaf_kids hr (by omega)))
  have hu0 : IntKind.u64.wrap (v.kids.length : Int) = (v.kids.length : Int) := by rw [IntKind.wrap_u64]; omega
  have hu1 : IntKind.u64.wrap ((v.kids.length : Int) / 2) = (v.kids.length : Int) / 2 := by rw [IntKind.wrap_u64]; omega
  have hs1 : IntKind.u64.wrap (v.s.size : Int) = (v.s.size : Int) := by rw [IntKind.wrap_u64]; omega
  clear hk hat hr hr3 hf hf3 hkd
  have hb0 : Below w.heap.size w (w.alloc (.cells #[.int .i64 v.k, .int .i64 v.n, .int .i64 v.e, .string v.s, .slice A v.kids.length cap] 29)) := (Below.refl _ w).alloc (Nat.le_refl _) _
  obtain ⟨w0, hw0⟩ : ∃ w0, w0 = w.alloc (.cells #[.int .i64 v.k, .int .i64 v.n, .int .i64 v.e, .string v.s, .slice A v.kids.length cap] 29) := ⟨_, rfl⟩
  have B0 : Blk w0 w.heap.size 29 #[.int .i64 v.k, .int .i64 v.n, .int .i64 v.e, .string v.s, .slice A v.kids.length cap] := by rw [hw0]; exact Blk.new w _ _
  rw [← hw0] at hb0
  have hs0 := hb0.size
  have lv := B0.lt
  have HB0 := Lib.hid hb0
  have HV0 := Lib.hid B0
  obtain ⟨p0, p1, p2, p3, p4⟩ := B0.five
  clear hb0 B0
  unfold V.agg
  go_enter Tryd.func20, Tryd.ntmps20
  go_wp2_with fail
  rw [← hw0]
  clear hw0
  refine (specMsgInt v.n w0 RN.out).mono ?_
  rintro e w1 ⟨rfl, hbx⟩
  go_wp2_with fail
  go_ret
  exact ⟨ret_eq (by rw [HX.out, HO.out]; rfl), HB0.out.trans (hbx.mono hs0)⟩

set_option maxHeartbeats 4000000 in
theorem specMsg_4 (v : V) (hk : ∀ i (h : i < v.kids.length), SpecMsgSaid v.kids[i]) (hkd : v.k = 4) : SpecMsgSaid v := by
  intro A cap w hr hf hw hat
  obtain ⟨d, hr⟩ := hr
  have hr3 := (V.right_eq _ _).1 hr
  obtain ⟨hw1, hw2, hw3⟩ := V.weight_kids v
  have hl : v.kids.length ≤ 1048576 := by omega
  have hss : v.s.size ≤ 1048576 := by omega
  have hf3 := (V.fits_eq v).1 hf
  have HKR := Lib.hid (fun (i : Nat) (h : i < v.kids.length) => (Vs.right_iff _ _).1 hr3.2.2 i h)
  have HKF := Lib.hid (fun (i : Nat) (h : i < v.kids.length) => Vs.fits_get i h hf3.2.2.1)
  have HKW := Lib.hid (fun (i : Nat) (h : i < v.kids.length) => (show (v.kids[i]).weight ≤ 1048576 by have := Vs.weight_get i h; omega))
  have HL := Lib.hid (msg_small hw)
  have HC := Lib.hid hk
  have HA := Lib.hid hat
  have HQ := Lib.hid (V.msg_eq v)
  have RN := Lib.hid hf3.2.2.2.2.1
  have RE := Lib.hid hf3.2.2.2.2.2
  have q0 : (v.k == 0) = false := by rw [hkd]; rfl
  have q1 : (v.k == 1) = false := by rw [hkd]; rfl
  have q2 : (v.k == 2) = false := by rw [hkd]; rfl
  have q3 : (v.k == 3) = false := by rw [hkd]; rfl
  have q4 : (v.k == 4) = true := by rw [hkd]; rfl
  have q5 : (v.k == 5) = false := by rw [hkd]; rfl
  have q6 : (v.k == 6) = false := by rw [hkd]; rfl
  have q7 : (v.k == 7) = false := by rw [hkd]; rfl
  have q8 : (v.k == 8) = false := by rw [hkd]; rfl
  have q9 : (v.k == 9) = false := by rw [hkd]; rfl
  have HO : Hid (v.ownMsg = 199 :: 9 :: 4 :: (wide v.e 1 ++ wide v.n 8)) := Lib.hid (by unfold V.ownMsg; simp [hkd])
  have hon : (199 :: 9 :: 4 :: (wide v.e 1 ++ wide v.n 8)).length ≤ 1048616 := by have h1 := V.ownMsg_len v; rw [HO.out] at h1; omega
  have HX := Lib.hid (leaf_msg (leaf_kids hr (by omega)))
  have hu0 : IntKind.u64.wrap (v.kids.length : Int) = (v.kids.length : Int) := by rw [IntKind.wrap_u64]; omega
  have hu1 : IntKind.u64.wrap ((v.kids.length : Int) / 2) = (v.kids.length : Int) / 2 := by rw [IntKind.wrap_u64]; omega
  have hs1 : IntKind.u64.wrap (v.s.size : Int) = (v.s.size : Int) := by rw [IntKind.wrap_u64]; omega
  clear hk hat hr hr3 hf hf3 hkd
  have hb0 : Below w.heap.size w (w.alloc (.cells #[.int .i64 v.k, .int .i64 v.n, .int .i64 v.e, .string v.s, .slice A v.kids.length cap] 29)) := (Below.refl _ w).alloc (Nat.le_refl _) _
  obtain ⟨w0, hw0⟩ : ∃ w0, w0 = w.alloc (.cells #[.int .i64 v.k, .int .i64 v.n, .int .i64 v.e, .string v.s, .slice A v.kids.length cap] 29) := ⟨_, rfl⟩
  have B0 : Blk w0 w.heap.size 29 #[.int .i64 v.k, .int .i64 v.n, .int .i64 v.e, .string v.s, .slice A v.kids.length cap] := by rw [hw0]; exact Blk.new w _ _
  rw [← hw0] at hb0
  have hs0 := hb0.size
  have lv := B0.lt
  have HB0 := Lib.hid hb0
  have HV0 := Lib.hid B0
  obtain ⟨p0, p1, p2, p3, p4⟩ := B0.five
  clear hb0 B0
  unfold V.agg
  go_enter Tryd.func20, Tryd.ntmps20
  go_wp2_with fail
  rw [← hw0]
  clear hw0
  have keep0 : ∀ w' : World, Below w0.heap.size w0 w' → w'.cell? ⟨w.heap.size, 1, none⟩ = some (.int .i64 v.n) ∧ w'.cell? ⟨w.heap.size, 2, none⟩ = some (.int .i64 v.e) := fun w' hb => ⟨(HV0.out.below hb lv).cell 1, (HV0.out.below hb lv).cell 2⟩
  have KE := Lib.hid keep0
  have hbr : Below w0.heap.size w0 w0 := Below.refl _ _
  clear keep0 p0 p3 p4
  have HJ0 : v.msg = 199 :: 9 :: 4 :: (wide v.e 1 ++ wide v.n 8) := by rw [HX.out, HO.out]
  have hx1 := wide_len v.e 1
  have hx2 := wide_len v.n 8
  obtain ⟨L1, h1⟩ : ∃ L, wide v.e 1 = L := ⟨_, rfl⟩
  obtain ⟨L2, h2⟩ : ∃ L, wide v.n 8 = L := ⟨_, rfl⟩
  rw [h1, h2] at HJ0
  rw [h1] at hx1
  rw [h2] at hx2
  have HJ := Lib.hid HJ0
  have H1 := Lib.hid h1
  have H2 := Lib.hid h2
  have hadd1 : ∀ W : World, (Op.stringOp .add (⟨#[199, 9, 4]⟩ : ByteArray) (str L1)).run Tryd.prog W = .ok (.string (str (199 :: 9 :: 4 :: L1))) W := fun W => str_sum [199, 9, 4] L1 (by simp only [List.length_cons, List.length_nil]; omega) W
  have hadd2 : ∀ W : World, (Op.stringOp .add (str (199 :: 9 :: 4 :: L1)) (str L2)).run Tryd.prog W = .ok (.string (str (199 :: 9 :: 4 :: (L1 ++ L2)))) W := fun W => str_sum (199 :: 9 :: 4 :: L1) L2 (by simp only [List.length_cons]; omega) W
  clear hx1 hx2 h1 h2 hon HJ0
  go_region_held3 (fun w' => w'.cell? ⟨w.heap.size, 1, none⟩ = some (.int .i64 v.n) ∧ w'.cell? ⟨w.heap.size, 2, none⟩ = some (.int .i64 v.e)) (first | exact KE.out _ hbx2 | exact KE.out _ hbx1 | exact KE.out _ hbr.drew | exact KE.out _ hbr)
    (first
    | (have hgate := hbx1; clear hgate; go_at_call 33; refine (specWideK v.n 8 w1 RN.out (by omega)).mono ?_; rintro e w2 ⟨rfl, hbx'⟩; have hbx2 := hbx1.trans (hbx'.mono hbx1.size); rw [H2.out])
    | (go_at_call 33; refine (specWideK v.e 1 w0.drew RE.out (by omega)).mono ?_; rintro e w1 ⟨rfl, hbx'⟩; have hbx1 : Below w0.heap.size w0 w1 := hbr.drew.trans hbx'; rw [H1.out]))
  go_wp2_with fail
  go_ret
  exact ⟨ret_eq (by rw [HJ.out]; rfl), HB0.out.trans (hbx2.mono hs0)⟩

set_option maxHeartbeats 4000000 in
theorem specMsg_5 (v : V) (hk : ∀ i (h : i < v.kids.length), SpecMsgSaid v.kids[i]) (hkd : v.k = 5) : SpecMsgSaid v := by
  intro A cap w hr hf hw hat
  obtain ⟨d, hr⟩ := hr
  have hr3 := (V.right_eq _ _).1 hr
  obtain ⟨hw1, hw2, hw3⟩ := V.weight_kids v
  have hl : v.kids.length ≤ 1048576 := by omega
  have hss : v.s.size ≤ 1048576 := by omega
  have hf3 := (V.fits_eq v).1 hf
  have HKR := Lib.hid (fun (i : Nat) (h : i < v.kids.length) => (Vs.right_iff _ _).1 hr3.2.2 i h)
  have HKF := Lib.hid (fun (i : Nat) (h : i < v.kids.length) => Vs.fits_get i h hf3.2.2.1)
  have HKW := Lib.hid (fun (i : Nat) (h : i < v.kids.length) => (show (v.kids[i]).weight ≤ 1048576 by have := Vs.weight_get i h; omega))
  have HL := Lib.hid (msg_small hw)
  have HC := Lib.hid hk
  have HA := Lib.hid hat
  have HQ := Lib.hid (V.msg_eq v)
  have RN := Lib.hid hf3.2.2.2.2.1
  have RE := Lib.hid hf3.2.2.2.2.2
  have q0 : (v.k == 0) = false := by rw [hkd]; rfl
  have q1 : (v.k == 1) = false := by rw [hkd]; rfl
  have q2 : (v.k == 2) = false := by rw [hkd]; rfl
  have q3 : (v.k == 3) = false := by rw [hkd]; rfl
  have q4 : (v.k == 4) = false := by rw [hkd]; rfl
  have q5 : (v.k == 5) = true := by rw [hkd]; rfl
  have q6 : (v.k == 6) = false := by rw [hkd]; rfl
  have q7 : (v.k == 7) = false := by rw [hkd]; rfl
  have q8 : (v.k == 8) = false := by rw [hkd]; rfl
  have q9 : (v.k == 9) = false := by rw [hkd]; rfl
  have HO : Hid (v.ownMsg = msgMany v.s.size 32 160 217 218 ++ v.s.data.toList) := Lib.hid (by unfold V.ownMsg; simp [hkd])
  have hon : (msgMany v.s.size 32 160 217 218 ++ v.s.data.toList).length ≤ 1048616 := by have h1 := V.ownMsg_len v; rw [HO.out] at h1; omega
  have HX := Lib.hid (leaf_msg (leaf_kids hr (by omega)))
  have hu0 : IntKind.u64.wrap (v.kids.length : Int) = (v.kids.length : Int) := by rw [IntKind.wrap_u64]; omega
  have hu1 : IntKind.u64.wrap ((v.kids.length : Int) / 2) = (v.kids.length : Int) / 2 := by rw [IntKind.wrap_u64]; omega
  have hs1 : IntKind.u64.wrap (v.s.size : Int) = (v.s.size : Int) := by rw [IntKind.wrap_u64]; omega
  clear hk hat hr hr3 hf hf3 hkd
  have hb0 : Below w.heap.size w (w.alloc (.cells #[.int .i64 v.k, .int .i64 v.n, .int .i64 v.e, .string v.s, .slice A v.kids.length cap] 29)) := (Below.refl _ w).alloc (Nat.le_refl _) _
  obtain ⟨w0, hw0⟩ : ∃ w0, w0 = w.alloc (.cells #[.int .i64 v.k, .int .i64 v.n, .int .i64 v.e, .string v.s, .slice A v.kids.length cap] 29) := ⟨_, rfl⟩
  have B0 : Blk w0 w.heap.size 29 #[.int .i64 v.k, .int .i64 v.n, .int .i64 v.e, .string v.s, .slice A v.kids.length cap] := by rw [hw0]; exact Blk.new w _ _
  rw [← hw0] at hb0
  have hs0 := hb0.size
  have lv := B0.lt
  have HB0 := Lib.hid hb0
  have HV0 := Lib.hid B0
  obtain ⟨p0, p1, p2, p3, p4⟩ := B0.five
  clear hb0 B0
  unfold V.agg
  go_enter Tryd.func20, Tryd.ntmps20
  go_wp2_with fail
  rw [← hw0]
  clear hw0
  have keep0 : ∀ w' : World, Below w0.heap.size w0 w' → w'.cell? ⟨w.heap.size, 3, none⟩ = some (.string v.s) := fun w' hb => (HV0.out.below hb lv).cell 3
  have KE := Lib.hid keep0
  have hbr : Below w0.heap.size w0 w0 := Below.refl _ _
  clear keep0 p0 p1 p2 p4
  have HJ0 : v.msg = msgMany v.s.size 32 160 217 218 ++ v.s.data.toList := by rw [HX.out, HO.out]
  have hx1 := msgMany_len v.s.size 32 160 217 218
  obtain ⟨L1, h1⟩ : ∃ L, msgMany v.s.size 32 160 217 218 = L := ⟨_, rfl⟩
  rw [h1] at HJ0 hx1
  have HJ := Lib.hid HJ0
  have H1 := Lib.hid h1
  have hadd : ∀ W : World, (Op.stringOp .add (str L1) v.s).run Tryd.prog W = .ok (.string (str (L1 ++ v.s.data.toList))) W := fun W => by
    have h := str_sum (P := Tryd.prog) L1 v.s.data.toList (by have h2 : v.s.data.toList.length = v.s.size := rfl; omega) W
    rwa [show str v.s.data.toList = v.s by simp [str]] at h
  clear hx1 h1 hon HJ0
  go_region_held3 (fun w' => w'.cell? ⟨w.heap.size, 3, none⟩ = some (.string v.s)) (first | exact KE.out _ hbx | exact KE.out _ hbr.drew | exact KE.out _ hbr)
    (first | (go_at_call 34; refine (specMsgMany v.s.size 32 160 217 218 w0.drew (by omega) (by omega) (by omega) (by omega) (by omega)).mono ?_; rintro e w1 ⟨rfl, hbx'⟩; have hbx : Below w0.heap.size w0 w1 := hbr.drew.trans hbx'; rw [H1.out]))
  clear KE hadd
  go_wp2_with fail
  go_ret
  exact ⟨ret_eq (by rw [HJ.out]; rfl), HB0.out.trans (hbx.mono hs0)⟩

set_option maxHeartbeats 4000000 in
theorem specMsg_6 (v : V) (hk : ∀ i (h : i < v.kids.length), SpecMsgSaid v.kids[i]) (hkd : v.k = 6) : SpecMsgSaid v := by
  intro A cap w hr hf hw hat
  obtain ⟨d, hr⟩ := hr
  have hr3 := (V.right_eq _ _).1 hr
  obtain ⟨hw1, hw2, hw3⟩ := V.weight_kids v
  have hl : v.kids.length ≤ 1048576 := by omega
  have hss : v.s.size ≤ 1048576 := by omega
  have hf3 := (V.fits_eq v).1 hf
  have HKR := Lib.hid (fun (i : Nat) (h : i < v.kids.length) => (Vs.right_iff _ _).1 hr3.2.2 i h)
  have HKF := Lib.hid (fun (i : Nat) (h : i < v.kids.length) => Vs.fits_get i h hf3.2.2.1)
  have HKW := Lib.hid (fun (i : Nat) (h : i < v.kids.length) => (show (v.kids[i]).weight ≤ 1048576 by have := Vs.weight_get i h; omega))
  have HL := Lib.hid (msg_small hw)
  have HC := Lib.hid hk
  have HA := Lib.hid hat
  have HQ := Lib.hid (V.msg_eq v)
  have RN := Lib.hid hf3.2.2.2.2.1
  have RE := Lib.hid hf3.2.2.2.2.2
  have q0 : (v.k == 0) = false := by rw [hkd]; rfl
  have q1 : (v.k == 1) = false := by rw [hkd]; rfl
  have q2 : (v.k == 2) = false := by rw [hkd]; rfl
  have q3 : (v.k == 3) = false := by rw [hkd]; rfl
  have q4 : (v.k == 4) = false := by rw [hkd]; rfl
  have q5 : (v.k == 5) = false := by rw [hkd]; rfl
  have q6 : (v.k == 6) = true := by rw [hkd]; rfl
  have q7 : (v.k == 7) = false := by rw [hkd]; rfl
  have q8 : (v.k == 8) = false := by rw [hkd]; rfl
  have q9 : (v.k == 9) = false := by rw [hkd]; rfl
  have HO : Hid (v.ownMsg = msgMany v.s.size 0 0 196 197 ++ v.s.data.toList) := Lib.hid (by unfold V.ownMsg; simp [hkd])
  have hon : (msgMany v.s.size 0 0 196 197 ++ v.s.data.toList).length ≤ 1048616 := by have h1 := V.ownMsg_len v; rw [HO.out] at h1; omega
  have HX := Lib.hid (leaf_msg (leaf_kids hr (by omega)))
  have hu0 : IntKind.u64.wrap (v.kids.length : Int) = (v.kids.length : Int) := by rw [IntKind.wrap_u64]; omega
  have hu1 : IntKind.u64.wrap ((v.kids.length : Int) / 2) = (v.kids.length : Int) / 2 := by rw [IntKind.wrap_u64]; omega
  have hs1 : IntKind.u64.wrap (v.s.size : Int) = (v.s.size : Int) := by rw [IntKind.wrap_u64]; omega
  clear hk hat hr hr3 hf hf3 hkd
  have hb0 : Below w.heap.size w (w.alloc (.cells #[.int .i64 v.k, .int .i64 v.n, .int .i64 v.e, .string v.s, .slice A v.kids.length cap] 29)) := (Below.refl _ w).alloc (Nat.le_refl _) _
  obtain ⟨w0, hw0⟩ : ∃ w0, w0 = w.alloc (.cells #[.int .i64 v.k, .int .i64 v.n, .int .i64 v.e, .string v.s, .slice A v.kids.length cap] 29) := ⟨_, rfl⟩
  have B0 : Blk w0 w.heap.size 29 #[.int .i64 v.k, .int .i64 v.n, .int .i64 v.e, .string v.s, .slice A v.kids.length cap] := by rw [hw0]; exact Blk.new w _ _
  rw [← hw0] at hb0
  have hs0 := hb0.size
  have lv := B0.lt
  have HB0 := Lib.hid hb0
  have HV0 := Lib.hid B0
  obtain ⟨p0, p1, p2, p3, p4⟩ := B0.five
  clear hb0 B0
  unfold V.agg
  go_enter Tryd.func20, Tryd.ntmps20
  go_wp2_with fail
  rw [← hw0]
  clear hw0
  have keep0 : ∀ w' : World, Below w0.heap.size w0 w' → w'.cell? ⟨w.heap.size, 3, none⟩ = some (.string v.s) := fun w' hb => (HV0.out.below hb lv).cell 3
  have KE := Lib.hid keep0
  have hbr : Below w0.heap.size w0 w0 := Below.refl _ _
  clear keep0 p0 p1 p2 p4
  have HJ0 : v.msg = msgMany v.s.size 0 0 196 197 ++ v.s.data.toList := by rw [HX.out, HO.out]
  have hx1 := msgMany_len v.s.size 0 0 196 197
  obtain ⟨L1, h1⟩ : ∃ L, msgMany v.s.size 0 0 196 197 = L := ⟨_, rfl⟩
  rw [h1] at HJ0 hx1
  have HJ := Lib.hid HJ0
  have H1 := Lib.hid h1
  have hadd : ∀ W : World, (Op.stringOp .add (str L1) v.s).run Tryd.prog W = .ok (.string (str (L1 ++ v.s.data.toList))) W := fun W => by
    have h := str_sum (P := Tryd.prog) L1 v.s.data.toList (by have h2 : v.s.data.toList.length = v.s.size := rfl; omega) W
    rwa [show str v.s.data.toList = v.s by simp [str]] at h
  clear hx1 h1 hon HJ0
  go_region_held3 (fun w' => w'.cell? ⟨w.heap.size, 3, none⟩ = some (.string v.s)) (first | exact KE.out _ hbx | exact KE.out _ hbr.drew | exact KE.out _ hbr)
    (first | (go_at_call 34; refine (specMsgMany v.s.size 0 0 196 197 w0.drew (by omega) (by omega) (by omega) (by omega) (by omega)).mono ?_; rintro e w1 ⟨rfl, hbx'⟩; have hbx : Below w0.heap.size w0 w1 := hbr.drew.trans hbx'; rw [H1.out]))
  clear KE hadd
  go_wp2_with fail
  go_ret
  exact ⟨ret_eq (by rw [HJ.out]; rfl), HB0.out.trans (hbx.mono hs0)⟩

set_option maxHeartbeats 4000000 in
theorem specMsg_7 (v : V) (hk : ∀ i (h : i < v.kids.length), SpecMsgSaid v.kids[i]) (hkd : v.k = 7) : SpecMsgSaid v := by
  intro A cap w hr hf hw hat
  obtain ⟨d, hr⟩ := hr
  have hr3 := (V.right_eq _ _).1 hr
  obtain ⟨hw1, hw2, hw3⟩ := V.weight_kids v
  have hl : v.kids.length ≤ 1048576 := by omega
  have hss : v.s.size ≤ 1048576 := by omega
  have hf3 := (V.fits_eq v).1 hf
  have HKR := Lib.hid (fun (i : Nat) (h : i < v.kids.length) => (Vs.right_iff _ _).1 hr3.2.2 i h)
  have HKF := Lib.hid (fun (i : Nat) (h : i < v.kids.length) => Vs.fits_get i h hf3.2.2.1)
  have HKW := Lib.hid (fun (i : Nat) (h : i < v.kids.length) => (show (v.kids[i]).weight ≤ 1048576 by have := Vs.weight_get i h; omega))
  have HL := Lib.hid (msg_small hw)
  have HC := Lib.hid hk
  have HA := Lib.hid hat
  have HQ := Lib.hid (V.msg_eq v)
  have RN := Lib.hid hf3.2.2.2.2.1
  have RE := Lib.hid hf3.2.2.2.2.2
  have q0 : (v.k == 0) = false := by rw [hkd]; rfl
  have q1 : (v.k == 1) = false := by rw [hkd]; rfl
  have q2 : (v.k == 2) = false := by rw [hkd]; rfl
  have q3 : (v.k == 3) = false := by rw [hkd]; rfl
  have q4 : (v.k == 4) = false := by rw [hkd]; rfl
  have q5 : (v.k == 5) = false := by rw [hkd]; rfl
  have q6 : (v.k == 6) = false := by rw [hkd]; rfl
  have q7 : (v.k == 7) = true := by rw [hkd]; rfl
  have q8 : (v.k == 8) = false := by rw [hkd]; rfl
  have q9 : (v.k == 9) = false := by rw [hkd]; rfl
  have HO : Hid (v.ownMsg = msgMany v.kids.length 16 144 0 220) := Lib.hid (by unfold V.ownMsg; simp [hkd])
  have hon : (msgMany v.kids.length 16 144 0 220).length ≤ 1048616 := by have h1 := V.ownMsg_len v; rw [HO.out] at h1; omega
  have hu0 : IntKind.u64.wrap (v.kids.length : Int) = (v.kids.length : Int) := by rw [IntKind.wrap_u64]; omega
  have hu1 : IntKind.u64.wrap ((v.kids.length : Int) / 2) = (v.kids.length : Int) / 2 := by rw [IntKind.wrap_u64]; omega
  have hs1 : IntKind.u64.wrap (v.s.size : Int) = (v.s.size : Int) := by rw [IntKind.wrap_u64]; omega
  clear hk hat hr hr3 hf hf3 hkd
  have hb0 : Below w.heap.size w (w.alloc (.cells #[.int .i64 v.k, .int .i64 v.n, .int .i64 v.e, .string v.s, .slice A v.kids.length cap] 29)) := (Below.refl _ w).alloc (Nat.le_refl _) _
  obtain ⟨w0, hw0⟩ : ∃ w0, w0 = w.alloc (.cells #[.int .i64 v.k, .int .i64 v.n, .int .i64 v.e, .string v.s, .slice A v.kids.length cap] 29) := ⟨_, rfl⟩
  have B0 : Blk w0 w.heap.size 29 #[.int .i64 v.k, .int .i64 v.n, .int .i64 v.e, .string v.s, .slice A v.kids.length cap] := by rw [hw0]; exact Blk.new w _ _
  rw [← hw0] at hb0
  have hs0 := hb0.size
  have lv := B0.lt
  have HB0 := Lib.hid hb0
  have HV0 := Lib.hid B0
  obtain ⟨p0, p1, p2, p3, p4⟩ := B0.five
  clear hb0 B0
  unfold V.agg
  go_enter Tryd.func20, Tryd.ntmps20
  go_wp2_with fail
  rw [← hw0]
  clear hw0
  have HP := specMsgMany v.kids.length 16 144 0 220 w0 (by omega) (by omega) (by omega) (by omega) (by omega)
  refine HP.mono ?_
  rintro e w1 ⟨rfl, hbx⟩
  clear HP
  have B2 := HV0.out.below hbx lv
  have Bw : Below w.heap.size w w1 := HB0.out.trans (hbx.mono hs0)
  rw [← HO.out]
  have HB2 := Lib.hid B2
  have HBw := Lib.hid Bw
  clear p0 p1 p2 p3 p4
  obtain ⟨p0, p1, p2, p3, p4⟩ := B2.five
  clear B2 Bw hbx
  go_wp2_with fail
  go_loopw [3, 4] (fun z i wr => ∃ j : Nat, j ≤ v.kids.length ∧ z = .string (str (v.ownMsg ++ Vs.msg (v.kids.take j))) ∧ i = .int .i64 j ∧ Blk wr w.heap.size 29 #[.int .i64 v.k, .int .i64 v.n, .int .i64 v.e, .string v.s, .slice A v.kids.length cap] ∧ Below w.heap.size w wr) (fun _ i _ => v.kids.length - (intOf i).toNat)
  case atStart => exact ⟨0, Nat.zero_le _, by simp [Vs.msg], rfl, HB2.out, HBw.out⟩
  case round =>
    obtain ⟨j, hj, rfl, rfl, B, hb⟩ := hrel
    have HB := Lib.hid B
    have b4 : wr.cell? ⟨w.heap.size, 4, none⟩ = some (.slice A v.kids.length cap) := B.cell 4
    clear p0 p1 p2 p3 p4
    by_cases hlt : j < v.kids.length
    · obtain ⟨bb, off, A', cap', rfl, g1, g2, g3, ⟨c0, c1, c2, c3, c4⟩, g5⟩ := Vs.at_get j hlt (Vs.at_below HA.out hb (Nat.le_refl _))
      have G5 := Lib.hid g5
      clear g5
      have hkl := kid_lenM hlt
      have HJ := Lib.hid (kid_msg v j hlt)
      have hl1 := size_str (v.ownMsg ++ Vs.msg (v.kids.take j))
      have hl2 := size_str (v.kids[j]).msg
      obtain ⟨sa, hsa⟩ : ∃ sa, str (v.ownMsg ++ Vs.msg (v.kids.take j)) = sa := ⟨_, rfl⟩
      rw [hsa] at HJ hl1
      rw [hsa]
      have hsum : sa.size + (str (v.kids[j]).msg).size ≤ 50000000 := by have := HL.out; omega
      clear hsa hkl hl1 hl2
      go_wp2_with fail
      refine (HC.out j hlt A' cap' _ ⟨_, HKR.out j hlt⟩ (HKF.out j hlt) (HKW.out j hlt) (Vs.at_more (Nat.le_refl _) hb.size _ _ G5.out)).mono ?_
      rintro e w3 ⟨rfl, hb3⟩
      have hbw : Below w.heap.size w w3 := hb.trans (hb3.mono hb.size)
      have B3 := B.below hb3 B.lt
      obtain ⟨sb, hsb⟩ : ∃ sb, str (v.kids[j]).msg = sb := ⟨_, rfl⟩
      rw [hsb] at hsum HJ
      rw [hsb]
      clear hsb c0 c1 c2 c3 c4 b4
      go_wp2_with fail
      go_roundw
      case rel => exact ⟨j + 1, by omega, congrArg Value.string HJ.out, by go_num, B3, hbw⟩
      case measure => simp [intOf]; omega
    · obtain rfl : j = v.kids.length := by omega
      have HE : Hid (str (v.ownMsg ++ Vs.msg (v.kids.take v.kids.length)) = str v.msg) := Lib.hid (by rw [List.take_length, ← HQ.out])
      rw [HE.out]
      go_wp2_with fail
      go_ret
      exact ⟨rfl, hb⟩

set_option maxHeartbeats 4000000 in
theorem specMsg_8 (v : V) (hk : ∀ i (h : i < v.kids.length), SpecMsgSaid v.kids[i]) (hkd : v.k = 8) : SpecMsgSaid v := by
  intro A cap w hr hf hw hat
  obtain ⟨d, hr⟩ := hr
  have hr3 := (V.right_eq _ _).1 hr
  obtain ⟨hw1, hw2, hw3⟩ := V.weight_kids v
  have hl : v.kids.length ≤ 1048576 := by omega
  have hss : v.s.size ≤ 1048576 := by omega
  have hf3 := (V.fits_eq v).1 hf
  have HKR := Lib.hid (fun (i : Nat) (h : i < v.kids.length) => (Vs.right_iff _ _).1 hr3.2.2 i h)
  have HKF := Lib.hid (fun (i : Nat) (h : i < v.kids.length) => Vs.fits_get i h hf3.2.2.1)
  have HKW := Lib.hid (fun (i : Nat) (h : i < v.kids.length) => (show (v.kids[i]).weight ≤ 1048576 by have := Vs.weight_get i h; omega))
  have HL := Lib.hid (msg_small hw)
  have HC := Lib.hid hk
  have HA := Lib.hid hat
  have HQ := Lib.hid (V.msg_eq v)
  have RN := Lib.hid hf3.2.2.2.2.1
  have RE := Lib.hid hf3.2.2.2.2.2
  have q0 : (v.k == 0) = false := by rw [hkd]; rfl
  have q1 : (v.k == 1) = false := by rw [hkd]; rfl
  have q2 : (v.k == 2) = false := by rw [hkd]; rfl
  have q3 : (v.k == 3) = false := by rw [hkd]; rfl
  have q4 : (v.k == 4) = false := by rw [hkd]; rfl
  have q5 : (v.k == 5) = false := by rw [hkd]; rfl
  have q6 : (v.k == 6) = false := by rw [hkd]; rfl
  have q7 : (v.k == 7) = false := by rw [hkd]; rfl
  have q8 : (v.k == 8) = true := by rw [hkd]; rfl
  have q9 : (v.k == 9) = false := by rw [hkd]; rfl
  have HO : Hid (v.ownMsg = msgMany ((v.kids.length / 2 : Nat) : Int) 16 128 0 222) := Lib.hid (by unfold V.ownMsg; simp [hkd])
  have hon : (msgMany ((v.kids.length / 2 : Nat) : Int) 16 128 0 222).length ≤ 1048616 := by have h1 := V.ownMsg_len v; rw [HO.out] at h1; omega
  have hu0 : IntKind.u64.wrap (v.kids.length : Int) = (v.kids.length : Int) := by rw [IntKind.wrap_u64]; omega
  have hu1 : IntKind.u64.wrap ((v.kids.length : Int) / 2) = (v.kids.length : Int) / 2 := by rw [IntKind.wrap_u64]; omega
  have hs1 : IntKind.u64.wrap (v.s.size : Int) = (v.s.size : Int) := by rw [IntKind.wrap_u64]; omega
  clear hk hat hr hr3 hf hf3 hkd
  have hb0 : Below w.heap.size w (w.alloc (.cells #[.int .i64 v.k, .int .i64 v.n, .int .i64 v.e, .string v.s, .slice A v.kids.length cap] 29)) := (Below.refl _ w).alloc (Nat.le_refl _) _
  obtain ⟨w0, hw0⟩ : ∃ w0, w0 = w.alloc (.cells #[.int .i64 v.k, .int .i64 v.n, .int .i64 v.e, .string v.s, .slice A v.kids.length cap] 29) := ⟨_, rfl⟩
  have B0 : Blk w0 w.heap.size 29 #[.int .i64 v.k, .int .i64 v.n, .int .i64 v.e, .string v.s, .slice A v.kids.length cap] := by rw [hw0]; exact Blk.new w _ _
  rw [← hw0] at hb0
  have hs0 := hb0.size
  have lv := B0.lt
  have HB0 := Lib.hid hb0
  have HV0 := Lib.hid B0
  obtain ⟨p0, p1, p2, p3, p4⟩ := B0.five
  clear hb0 B0
  unfold V.agg
  go_enter Tryd.func20, Tryd.ntmps20
  go_wp2_with fail
  rw [← hw0]
  clear hw0
  have HP := specMsgMany ((v.kids.length / 2 : Nat) : Int) 16 128 0 222 w0 (by omega) (by omega) (by omega) (by omega) (by omega)
  rw [show ((v.kids.length / 2 : Nat) : Int) = (v.kids.length : Int) / 2 by omega] at HP
  refine HP.mono ?_
  rintro e w1 ⟨rfl, hbx⟩
  clear HP
  have B2 := HV0.out.below hbx lv
  have Bw : Below w.heap.size w w1 := HB0.out.trans (hbx.mono hs0)
  rw [show (v.kids.length : Int) / 2 = ((v.kids.length / 2 : Nat) : Int) by omega, ← HO.out]
  have HB2 := Lib.hid B2
  have HBw := Lib.hid Bw
  clear p0 p1 p2 p3 p4
  obtain ⟨p0, p1, p2, p3, p4⟩ := B2.five
  clear B2 Bw hbx
  go_wp2_with fail
  go_loopw [3, 4] (fun z i wr => ∃ j : Nat, j ≤ v.kids.length ∧ z = .string (str (v.ownMsg ++ Vs.msg (v.kids.take j))) ∧ i = .int .i64 j ∧ Blk wr w.heap.size 29 #[.int .i64 v.k, .int .i64 v.n, .int .i64 v.e, .string v.s, .slice A v.kids.length cap] ∧ Below w.heap.size w wr) (fun _ i _ => v.kids.length - (intOf i).toNat)
  case atStart => exact ⟨0, Nat.zero_le _, by simp [Vs.msg], rfl, HB2.out, HBw.out⟩
  case round =>
    obtain ⟨j, hj, rfl, rfl, B, hb⟩ := hrel
    have HB := Lib.hid B
    have b4 : wr.cell? ⟨w.heap.size, 4, none⟩ = some (.slice A v.kids.length cap) := B.cell 4
    clear p0 p1 p2 p3 p4
    by_cases hlt : j < v.kids.length
    · obtain ⟨bb, off, A', cap', rfl, g1, g2, g3, ⟨c0, c1, c2, c3, c4⟩, g5⟩ := Vs.at_get j hlt (Vs.at_below HA.out hb (Nat.le_refl _))
      have G5 := Lib.hid g5
      clear g5
      have hkl := kid_lenM hlt
      have HJ := Lib.hid (kid_msg v j hlt)
      have hl1 := size_str (v.ownMsg ++ Vs.msg (v.kids.take j))
      have hl2 := size_str (v.kids[j]).msg
      obtain ⟨sa, hsa⟩ : ∃ sa, str (v.ownMsg ++ Vs.msg (v.kids.take j)) = sa := ⟨_, rfl⟩
      rw [hsa] at HJ hl1
      rw [hsa]
      have hsum : sa.size + (str (v.kids[j]).msg).size ≤ 50000000 := by have := HL.out; omega
      clear hsa hkl hl1 hl2
      go_wp2_with fail
      refine (HC.out j hlt A' cap' _ ⟨_, HKR.out j hlt⟩ (HKF.out j hlt) (HKW.out j hlt) (Vs.at_more (Nat.le_refl _) hb.size _ _ G5.out)).mono ?_
      rintro e w3 ⟨rfl, hb3⟩
      have hbw : Below w.heap.size w w3 := hb.trans (hb3.mono hb.size)
      have B3 := B.below hb3 B.lt
      obtain ⟨sb, hsb⟩ : ∃ sb, str (v.kids[j]).msg = sb := ⟨_, rfl⟩
      rw [hsb] at hsum HJ
      rw [hsb]
      clear hsb c0 c1 c2 c3 c4 b4
      go_wp2_with fail
      go_roundw
      case rel => exact ⟨j + 1, by omega, congrArg Value.string HJ.out, by go_num, B3, hbw⟩
      case measure => simp [intOf]; omega
    · obtain rfl : j = v.kids.length := by omega
      have HE : Hid (str (v.ownMsg ++ Vs.msg (v.kids.take v.kids.length)) = str v.msg) := Lib.hid (by rw [List.take_length, ← HQ.out])
      rw [HE.out]
      go_wp2_with fail
      go_ret
      exact ⟨rfl, hb⟩

set_option maxHeartbeats 4000000 in
theorem specMsg_9 (v : V) (hk : ∀ i (h : i < v.kids.length), SpecMsgSaid v.kids[i]) (hkd : v.k = 9) : SpecMsgSaid v := by
  intro A cap w hr hf hw hat
  obtain ⟨d, hr⟩ := hr
  have hr3 := (V.right_eq _ _).1 hr
  obtain ⟨hw1, hw2, hw3⟩ := V.weight_kids v
  have hl : v.kids.length ≤ 1048576 := by omega
  have hss : v.s.size ≤ 1048576 := by omega
  have hf3 := (V.fits_eq v).1 hf
  have HKR := Lib.hid (fun (i : Nat) (h : i < v.kids.length) => (Vs.right_iff _ _).1 hr3.2.2 i h)
  have HKF := Lib.hid (fun (i : Nat) (h : i < v.kids.length) => Vs.fits_get i h hf3.2.2.1)
  have HKW := Lib.hid (fun (i : Nat) (h : i < v.kids.length) => (show (v.kids[i]).weight ≤ 1048576 by have := Vs.weight_get i h; omega))
  have HL := Lib.hid (msg_small hw)
  have HC := Lib.hid hk
  have HA := Lib.hid hat
  have HQ := Lib.hid (V.msg_eq v)
  have RN := Lib.hid hf3.2.2.2.2.1
  have RE := Lib.hid hf3.2.2.2.2.2
  have q0 : (v.k == 0) = false := by rw [hkd]; rfl
  have q1 : (v.k == 1) = false := by rw [hkd]; rfl
  have q2 : (v.k == 2) = false := by rw [hkd]; rfl
  have q3 : (v.k == 3) = false := by rw [hkd]; rfl
  have q4 : (v.k == 4) = false := by rw [hkd]; rfl
  have q5 : (v.k == 5) = false := by rw [hkd]; rfl
  have q6 : (v.k == 6) = false := by rw [hkd]; rfl
  have q7 : (v.k == 7) = false := by rw [hkd]; rfl
  have q8 : (v.k == 8) = false := by rw [hkd]; rfl
  have q9 : (v.k == 9) = true := by rw [hkd]; rfl
  have HO : Hid (v.ownMsg = 199 :: 4 :: 6 :: wide v.n 4) := Lib.hid (by unfold V.ownMsg; simp [hkd])
  have hon : (199 :: 4 :: 6 :: wide v.n 4).length ≤ 1048616 := by have h1 := V.ownMsg_len v; rw [HO.out] at h1; omega
  have hno : 0 ≤ v.n ∧ v.n ≤ 1000000 := by
    have h1 := hr3.2.1.1
    unfold nodeOk at h1
    simp [hkd] at h1
    exact ⟨h1.1, h1.2.1⟩
  have hu2 : IntKind.u64.wrap v.n = v.n := by rw [IntKind.wrap_u64]; omega
  have hu0 : IntKind.u64.wrap (v.kids.length : Int) = (v.kids.length : Int) := by rw [IntKind.wrap_u64]; omega
  have hu1 : IntKind.u64.wrap ((v.kids.length : Int) / 2) = (v.kids.length : Int) / 2 := by rw [IntKind.wrap_u64]; omega
  have hs1 : IntKind.u64.wrap (v.s.size : Int) = (v.s.size : Int) := by rw [IntKind.wrap_u64]; omega
  clear hk hat hr hr3 hf hf3 hkd
  have hb0 : Below w.heap.size w (w.alloc (.cells #[.int .i64 v.k, .int .i64 v.n, .int .i64 v.e, .string v.s, .slice A v.kids.length cap] 29)) := (Below.refl _ w).alloc (Nat.le_refl _) _
  obtain ⟨w0, hw0⟩ : ∃ w0, w0 = w.alloc (.cells #[.int .i64 v.k, .int .i64 v.n, .int .i64 v.e, .string v.s, .slice A v.kids.length cap] 29) := ⟨_, rfl⟩
  have B0 : Blk w0 w.heap.size 29 #[.int .i64 v.k, .int .i64 v.n, .int .i64 v.e, .string v.s, .slice A v.kids.length cap] := by rw [hw0]; exact Blk.new w _ _
  rw [← hw0] at hb0
  have hs0 := hb0.size
  have lv := B0.lt
  have HB0 := Lib.hid hb0
  have HV0 := Lib.hid B0
  obtain ⟨p0, p1, p2, p3, p4⟩ := B0.five
  clear hb0 B0
  unfold V.agg
  go_enter Tryd.func20, Tryd.ntmps20
  go_wp2_with fail
  rw [← hw0]
  clear hw0
  refine (specWideK v.n 4 w0 RN.out (by omega)).mono ?_
  rintro e w1 ⟨rfl, hbx⟩
  have hz : (str (wide v.n 4)).size ≤ 8 := by rw [size_str, wide_len]; omega
  have HJ : Hid ((⟨#[199, 4, 6]⟩ : ByteArray) ++ str (wide v.n 4) = str v.ownMsg) := Lib.hid (by rw [HO.out]; exact three_cons 199 4 6 _)
  obtain ⟨s, hs⟩ : ∃ s, str (wide v.n 4) = s := ⟨_, rfl⟩
  rw [hs] at hz HJ
  rw [hs]
  clear hs
  have B2 := HV0.out.below hbx lv
  have Bw : Below w.heap.size w w1 := HB0.out.trans (hbx.mono hs0)
  have HB2 := Lib.hid B2
  have HBw := Lib.hid Bw
  clear p0 p1 p2 p3 p4
  obtain ⟨p0, p1, p2, p3, p4⟩ := B2.five
  clear B2 Bw hbx
  go_wp2_with fail
  go_loopw [3, 4] (fun z i wr => ∃ j : Nat, j ≤ v.kids.length ∧ z = .string (str (v.ownMsg ++ Vs.msg (v.kids.take j))) ∧ i = .int .i64 j ∧ Blk wr w.heap.size 29 #[.int .i64 v.k, .int .i64 v.n, .int .i64 v.e, .string v.s, .slice A v.kids.length cap] ∧ Below w.heap.size w wr) (fun _ i _ => v.kids.length - (intOf i).toNat)
  case atStart => exact ⟨0, Nat.zero_le _, (by simp only [List.take_zero, Vs.msg, List.append_nil]; exact congrArg Value.string HJ.out), rfl, HB2.out, HBw.out⟩
  case round =>
    obtain ⟨j, hj, rfl, rfl, B, hb⟩ := hrel
    have HB := Lib.hid B
    have b4 : wr.cell? ⟨w.heap.size, 4, none⟩ = some (.slice A v.kids.length cap) := B.cell 4
    clear p0 p1 p2 p3 p4
    by_cases hlt : j < v.kids.length
    · obtain ⟨bb, off, A', cap', rfl, g1, g2, g3, ⟨c0, c1, c2, c3, c4⟩, g5⟩ := Vs.at_get j hlt (Vs.at_below HA.out hb (Nat.le_refl _))
      have G5 := Lib.hid g5
      clear g5
      have hkl := kid_lenM hlt
      have HJ := Lib.hid (kid_msg v j hlt)
      have hl1 := size_str (v.ownMsg ++ Vs.msg (v.kids.take j))
      have hl2 := size_str (v.kids[j]).msg
      obtain ⟨sa, hsa⟩ : ∃ sa, str (v.ownMsg ++ Vs.msg (v.kids.take j)) = sa := ⟨_, rfl⟩
      rw [hsa] at HJ hl1
      rw [hsa]
      have hsum : sa.size + (str (v.kids[j]).msg).size ≤ 50000000 := by have := HL.out; omega
      clear hsa hkl hl1 hl2
      go_wp2_with fail
      refine (HC.out j hlt A' cap' _ ⟨_, HKR.out j hlt⟩ (HKF.out j hlt) (HKW.out j hlt) (Vs.at_more (Nat.le_refl _) hb.size _ _ G5.out)).mono ?_
      rintro e w3 ⟨rfl, hb3⟩
      have hbw : Below w.heap.size w w3 := hb.trans (hb3.mono hb.size)
      have B3 := B.below hb3 B.lt
      obtain ⟨sb, hsb⟩ : ∃ sb, str (v.kids[j]).msg = sb := ⟨_, rfl⟩
      rw [hsb] at hsum HJ
      rw [hsb]
      clear hsb c0 c1 c2 c3 c4 b4
      go_wp2_with fail
      go_roundw
      case rel => exact ⟨j + 1, by omega, congrArg Value.string HJ.out, by go_num, B3, hbw⟩
      case measure => simp [intOf]; omega
    · obtain rfl : j = v.kids.length := by omega
      have HE : Hid (str (v.ownMsg ++ Vs.msg (v.kids.take v.kids.length)) = str v.msg) := Lib.hid (by rw [List.take_length, ← HQ.out])
      rw [HE.out]
      go_wp2_with fail
      go_ret
      exact ⟨rfl, hb⟩

theorem specMsg_step (v : V) (hk : ∀ i (h : i < v.kids.length), SpecMsgSaid v.kids[i]) : SpecMsgSaid v := by
  intro A cap w hr
  obtain ⟨d, hd⟩ := hr
  rcases right_kinds hd with h | h | h | h | h | h | h | h | h | h
  · exact specMsg_0 v hk h A cap w ⟨d, hd⟩
  · exact specMsg_1 v hk h A cap w ⟨d, hd⟩
  · exact specMsg_2 v hk h A cap w ⟨d, hd⟩
  · exact specMsg_3 v hk h A cap w ⟨d, hd⟩
  · exact specMsg_4 v hk h A cap w ⟨d, hd⟩
  · exact specMsg_5 v hk h A cap w ⟨d, hd⟩
  · exact specMsg_6 v hk h A cap w ⟨d, hd⟩
  · exact specMsg_7 v hk h A cap w ⟨d, hd⟩
  · exact specMsg_8 v hk h A cap w ⟨d, hd⟩
  · exact specMsg_9 v hk h A cap w ⟨d, hd⟩
theorem specMsg : ∀ v, SpecMsgSaid v := V.all specMsg_step
end Go.Proofs.YtkajfinfphmlaaaDoor

/-
  PutMsg and MsgSize of the program and of the reference.
-/
namespace Go.Proofs.YtkajfinfphmlaaaDoor
open Go.RowKit
set_option linter.unusedVariables false
set_option linter.unusedSimpArgs false
set_option maxRecDepth 100000

/-- PutMsg. -/
noncomputable def putMsgL (v : V) : List UInt8 := if okV v then v.msg else []
theorem putMsgL_no {v : V} (h : ¬ okV v) : putMsgL v = [] := if_neg h
theorem putMsgL_yes {v : V} (h : okV v) : putMsgL v = v.msg := if_pos h

set_option maxHeartbeats 2000000 in
theorem implPutMsg (v : V) (A : Option Addr) (cap : Nat) (w : World) (hf : v.fits) (hw : v.weight ≤ 1048576) (hT : Tabs w) (hat : Vs.at_ w 0 w.heap.size v.kids A) :
    Calls Tryd.prog 10 #[v.agg A cap] w fun e w' => e = .returned (.string (str (putMsgL v))) ∧ Below w.heap.size w w' := by
  have HA := Lib.hid hat
  have HT := Lib.hid hT
  have HF := Lib.hid hf
  have HS := Lib.hid (msg_small hw)
  clear hat hT hf
  unfold V.agg
  go_enter Tryd.func10, Tryd.ntmps10
  go_wp2_with fail
  have b0 : Below w.heap.size w (w.alloc (.cells #[.int .i64 v.k, .int .i64 v.n, .int .i64 v.e, .string v.s, .slice A v.kids.length cap] 29)) := (Below.refl _ w).alloc (Nat.le_refl _) _
  have B0 := Blk.new w 29 #[.int .i64 v.k, .int .i64 v.n, .int .i64 v.e, .string v.s, .slice A v.kids.length cap]
  refine (implValueOk v A cap _ hw (HT.out.below b0) (Vs.at_more (Nat.le_refl _) b0.size _ _ (Vs.at_below HA.out b0 (Nat.le_refl _)))).mono ?_
  rintro e w1 ⟨rfl, hb1⟩
  have B1 := B0.below hb1 (by simp)
  obtain ⟨p0, p1, p2, p3, p4⟩ := B1.five
  have b1 : Below w.heap.size w w1 := b0.trans (hb1.mono b0.size)
  clear hb1 b0 B0
  by_cases hv : okV v
  · rw [show decide (okV v) = true from decide_eq_true hv]
    have HV := Lib.hid hv
    have HY := Lib.hid (putMsgL_yes hv)
    have ltv := B1.lt
    clear hv
    go_wp2_with fail
    have hb3 : Below w1.heap.size w1 (w1.alloc (.cells #[.pointer none, .slice none 0 0] 40)) := (Below.refl _ w1).alloc (Nat.le_refl _) _
    refine (implMsg v A cap w1.heap.size w1.heap.size [] _ ⟨_, HV.out.1⟩ HF.out hw (by have := HS.out; simp; omega) (Vs.at_more (Nat.le_refl _) b1.size _ _ (Vs.at_below HA.out (b1.alloc b1.size _) (Nat.le_refl _))) (by simp) (BF.new w1 _ (Nat.le_refl _))).mono ?_
    rintro e w4 ⟨rfl, F4, b4, k4⟩
    have hb4 : Below w.heap.size w w4 := (b1.alloc b1.size _).trans (b4.mono b1.size)
    have hs4 : w1.heap.size ≤ w4.heap.size := by have := b4.size; simp at this; omega
    have HF4 := Lib.hid F4
    have HB4 := Lib.hid hb4
    clear F4 b4 k4 hb3 hb4 p0 p1 p2 p3 p4 B1
    go_wp2_with fail
    refine (bfString w1.heap.size w1.heap.size _ w4 HF4.out hs4).mono ?_
    rintro e w5 ⟨rfl, hb5⟩
    have hb5' : Below w.heap.size w w5 := HB4.out.trans (hb5.mono b1.size)
    clear hb5
    go_wp2_with fail
    go_ret
    exact ⟨ret_eq (by rw [HY.out]; rfl), hb5'⟩
  · rw [show decide (okV v) = false from decide_eq_false hv]
    have HN := Lib.hid (putMsgL_no hv)
    clear hv
    go_wp2_with fail
    go_ret
    exact ⟨ret_eq (by rw [HN.out]; rfl), b1⟩

set_option maxHeartbeats 1000000 in
theorem specPutMsg (v : V) (A : Option Addr) (cap : Nat) (w : World) (hf : v.fits) (hw : v.weight ≤ 1048576) (hat : Vs.at_ w 0 w.heap.size v.kids A) :
    Calls Tryd.prog 8 #[v.agg A cap] w fun e w' => e = .returned (.string (str (putMsgL v))) ∧ Below w.heap.size w w' := by
  have HA := Lib.hid hat
  have HF := Lib.hid hf
  clear hat hf
  unfold V.agg
  go_enter Tryd.func8, Tryd.ntmps8
  go_wp2_with fail
  have b0 : Below w.heap.size w (w.alloc (.cells #[.int .i64 v.k, .int .i64 v.n, .int .i64 v.e, .string v.s, .slice A v.kids.length cap] 29)) := (Below.refl _ w).alloc (Nat.le_refl _) _
  have B0 := Blk.new w 29 #[.int .i64 v.k, .int .i64 v.n, .int .i64 v.e, .string v.s, .slice A v.kids.length cap]
  refine (specValueOk v A cap _ hw (Vs.at_more (Nat.le_refl _) b0.size _ _ (Vs.at_below HA.out b0 (Nat.le_refl _)))).mono ?_
  rintro e w1 ⟨rfl, hb1⟩
  have B1 := B0.below hb1 (by simp)
  obtain ⟨p0, p1, p2, p3, p4⟩ := B1.five
  have b1 : Below w.heap.size w w1 := b0.trans (hb1.mono b0.size)
  clear hb1 b0 B0
  by_cases hv : okV v
  · rw [show decide (okV v) = true from decide_eq_true hv]
    have HV := Lib.hid hv
    have HY := Lib.hid (putMsgL_yes hv)
    clear hv
    go_wp2_with fail
    refine (specMsg v A cap w1 ⟨_, HV.out.1⟩ HF.out hw (Vs.at_more (Nat.le_refl _) b1.size _ _ (Vs.at_below HA.out b1 (Nat.le_refl _)))).mono ?_
    rintro e w2 ⟨rfl, hb2⟩
    go_wp2_with fail
    go_ret
    exact ⟨ret_eq (by rw [HY.out]; rfl), b1.trans (hb2.mono b1.size)⟩
  · rw [show decide (okV v) = false from decide_eq_false hv]
    have HN := Lib.hid (putMsgL_no hv)
    clear hv
    go_wp2_with fail
    go_ret
    exact ⟨ret_eq (by rw [HN.out]; rfl), b1⟩

/-- How long PutMsg's text is. -/
noncomputable def msgSz (v : V) : Int := ((str (putMsgL v)).size : Int)
set_option maxHeartbeats 1000000 in
theorem specMsgSize (v : V) (A : Option Addr) (cap : Nat) (w : World) (hf : v.fits) (hw : v.weight ≤ 1048576) (hat : Vs.at_ w 0 w.heap.size v.kids A) :
    Calls Tryd.prog 14 #[v.agg A cap] w fun e w' => e = .returned (.int .i64 (msgSz v)) ∧ Below w.heap.size w w' := by
  have HA := Lib.hid hat
  have HF := Lib.hid hf
  have HE : Hid (((str (putMsgL v)).size : Int) = msgSz v) := Lib.hid rfl
  clear hat hf
  unfold V.agg
  go_enter Tryd.func14, Tryd.ntmps14
  go_wp2_with fail
  have b0 : Below w.heap.size w (w.alloc (.cells #[.int .i64 v.k, .int .i64 v.n, .int .i64 v.e, .string v.s, .slice A v.kids.length cap] 29)) := (Below.refl _ w).alloc (Nat.le_refl _) _
  refine (specPutMsg v A cap _ HF.out hw (Vs.at_more (Nat.le_refl _) b0.size _ _ (Vs.at_below HA.out b0 (Nat.le_refl _)))).mono ?_
  rintro e w1 ⟨rfl, hb1⟩
  obtain ⟨s, hs⟩ : ∃ s, str (putMsgL v) = s := ⟨_, rfl⟩
  rw [hs] at HE
  rw [hs]
  clear hs
  have b1 : Below w.heap.size w w1 := b0.trans (hb1.mono b0.size)
  clear b0 hb1
  go_wp2_with fail
  go_ret
  exact ⟨ret_eq (congrArg (Value.int .i64) HE.out), b1⟩
set_option maxHeartbeats 1000000 in
theorem implMsgSize (v : V) (A : Option Addr) (cap : Nat) (w : World) (hf : v.fits) (hw : v.weight ≤ 1048576) (hT : Tabs w) (hat : Vs.at_ w 0 w.heap.size v.kids A) :
    Calls Tryd.prog 15 #[v.agg A cap] w fun e w' => e = .returned (.int .i64 (msgSz v)) ∧ Below w.heap.size w w' := by
  have HA := Lib.hid hat
  have HF := Lib.hid hf
  have HT := Lib.hid hT
  have HE : Hid (((str (putMsgL v)).size : Int) = msgSz v) := Lib.hid rfl
  clear hat hf hT
  unfold V.agg
  go_enter Tryd.func15, Tryd.ntmps15
  go_wp2_with fail
  have b0 : Below w.heap.size w (w.alloc (.cells #[.int .i64 v.k, .int .i64 v.n, .int .i64 v.e, .string v.s, .slice A v.kids.length cap] 29)) := (Below.refl _ w).alloc (Nat.le_refl _) _
  refine (implPutMsg v A cap _ HF.out hw (HT.out.below b0) (Vs.at_more (Nat.le_refl _) b0.size _ _ (Vs.at_below HA.out b0 (Nat.le_refl _)))).mono ?_
  rintro e w1 ⟨rfl, hb1⟩
  obtain ⟨s, hs⟩ : ∃ s, str (putMsgL v) = s := ⟨_, rfl⟩
  rw [hs] at HE
  rw [hs]
  clear hs
  have b1 : Below w.heap.size w w1 := b0.trans (hb1.mono b0.size)
  clear b0 hb1
  go_wp2_with fail
  go_ret
  exact ⟨ret_eq (congrArg (Value.int .i64) HE.out), b1⟩
end Go.Proofs.YtkajfinfphmlaaaDoor

/-
  FnExactPutMsg returns true for every value that can be read; it reads as it did; no conditions.
-/
namespace Go.Proofs.YtkajfinfphmlaaaDoor.fnExactPutMsg
open Go.ChangeShapes Go.WideShapes Go.ChangeAt Go.RowKit
open Go.ChangeMaps (open_string shut_string)
set_option linter.unusedVariables false

set_option maxHeartbeats 2000000 in
theorem walk (t0 : V) (A0 : Option Addr) (c0 : Nat) (f0 : t0.fits) (w : World) (h0 : Vs.at_ w 0 w.heap.size t0.kids A0) (hT : Tabs w) :
    Calls Tryd.prog 3 #[t0.agg A0 c0] w fun e w' => e = .returned (.bool true) ∧ Below w.heap.size w w' := by
  have H0 := Lib.hid h0
  clear h0
  have HT0 := Lib.hid hT
  clear hT
  by_cases hwt : t0.weight ≤ 1048576
  · have e1 : szR 1048576 t0.weight = 1048576 - t0.weight := by rw [szR, if_pos (by omega)]
    have hn : t0.nodes ≤ 1048577 := by have := V.nodes_weight t0; omega
    have HE := Lib.hid e1
    have cS := fun A c W h1 => specPutMsg t0 A c W f0 hwt h1
    have cI := fun A c W (hb : Below w.heap.size w W) h1 => implPutMsg t0 A c W f0 hwt (HT0.out.below hb) h1
    obtain ⟨rr, hrr⟩ : ∃ rr, str (putMsgL t0) = rr := ⟨_, rfl⟩
    rw [hrr] at cS cI
    clear hrr
    have HCS := Lib.hid cS
    have HCI := Lib.hid cI
    clear cS cI
    clear e1
    unfold V.agg
    go_enter Tryd.func3, Tryd.ntmps3
    go_wp2_with fail
    refine (szValue_any t0 A0 c0 1048576 _ (by omega) (by omega) f0 (Vs.at_more (Nat.le_refl _) (by simp) _ _ (Vs.at_alloc H0.out (Nat.le_refl _) _))).mono ?_
    rintro e w1 ⟨rfl, hb1⟩
    rw [HE.out]
    have Bv := (Blk.new w _ _).below hb1 (by simp)
    have b1 : Below w.heap.size w w1 := ((Below.refl _ w).alloc (Nat.le_refl _) _).trans (hb1.mono (by simp))
    obtain ⟨p0, p1, p2, p3, p4⟩ := Bv.five
    clear hb1
    go_wp2_with fail
    refine (toValue_any t0 A0 c0 _ hn (Vs.at_more (Nat.le_refl _) b1.size _ _ (Vs.at_below H0.out b1 (Nat.le_refl _)))).mono ?_
    rintro e w2 ⟨A1, c1, rfl, hc1, at1, hb2⟩
    have Bv2 := Bv.below hb2 Bv.lt
    have b2 := b1.trans (hb2.mono b1.size)
    have hz2 : w1.heap.size ≤ w2.heap.size := hb2.size
    clear p0 p1 p2 p3 p4 hb2 Bv b1
    unfold V.agg
    go_wp2_with fail
    refine (HCS.out A1 c1 _ (Vs.at_more (Nat.zero_le _) (Nat.le_refl _) _ _ at1)).mono ?_
    rintro e w3 ⟨rfl, hb3⟩
    have Bv3 := Bv2.below hb3 Bv2.lt
    have b3 := b2.trans (hb3.mono b2.size)
    obtain ⟨p0, p1, p2, p3, p4⟩ := Bv3.five
    clear hb3 Bv2 b2 at1
    go_wp2_with fail
    refine (toValue_any t0 A0 c0 _ hn (Vs.at_more (Nat.le_refl _) b3.size _ _ (Vs.at_below H0.out b3 (Nat.le_refl _)))).mono ?_
    rintro e w4 ⟨A2, c2, rfl, hc2, at2, hb4⟩
    have Bv4 := Bv3.below hb4 Bv3.lt
    have b4 := b3.trans (hb4.mono b3.size)
    clear p0 p1 p2 p3 p4 hb4 Bv3 b3
    unfold V.agg
    go_wp2_with fail
    have Bx := Blk.new w4 29 #[.int .i64 t0.k, .int .i64 t0.n, .int .i64 t0.e, .string t0.s, .slice A2 t0.kids.length c2]
    have Bv5 := Bv4.alloc (.cells #[.int .i64 t0.k, .int .i64 t0.n, .int .i64 t0.e, .string t0.s, .slice A2 t0.kids.length c2] 29)
    have b5 := b4.alloc b4.size (.cells #[.int .i64 t0.k, .int .i64 t0.n, .int .i64 t0.e, .string t0.s, .slice A2 t0.kids.length c2] 29)
    have at5 := Vs.at_more (Nat.zero_le _) (Nat.le_refl _) _ _ (Vs.at_alloc at2 (Nat.le_refl _) (.cells #[.int .i64 t0.k, .int .i64 t0.n, .int .i64 t0.e, .string t0.s, .slice A2 t0.kids.length c2] 29))
    have hz5 : w4.heap.size < (w4.alloc (.cells #[.int .i64 t0.k, .int .i64 t0.n, .int .i64 t0.e, .string t0.s, .slice A2 t0.kids.length c2] 29)).heap.size := by simp
    refine (HCI.out A2 c2 _ b5 (Vs.at_more (Nat.le_refl _) (by simp) _ _ at5)).mono ?_
    rintro e w6 ⟨rfl, hb6⟩
    have Bx6 := Bx.below hb6 Bx.lt
    have Bv6 := Bv5.below hb6 Bv5.lt
    have b6 := b5.trans (hb6.mono b5.size)
    have at6 := Vs.at_below at5 hb6 (Nat.le_of_lt hz5)
    have hz6 : w4.heap.size < w6.heap.size := Nat.lt_of_lt_of_le hz5 hb6.size
    clear hb6 Bx Bv5 b5 at5 hz5 at2 Bv4 b4
    go_wp2_with fail
    obtain ⟨p0, p1, p2, p3, p4⟩ := Bv6.five
    obtain ⟨q0, q1, q2, q3, q4⟩ := Bx6.five
    go_region_with (first
      | (go_at_call 9; refine (toValue_any t0 A0 c0 w6.drew hn (Vs.at_more (Nat.le_refl _) b6.size _ _ (Vs.at_drew (Vs.at_below H0.out b6 (Nat.le_refl _))))).mono ?_; rintro e w7 ⟨A3, c3, rfl, hc3, at3, hb7⟩; have Bx7 := (Blk.drew Bx6).below hb7 (Blk.drew Bx6).lt; obtain ⟨r0, r1, r2, r3, r4⟩ := Bx7.five; have at7 := Vs.at_below (Vs.at_drew at6) hb7 (Nat.le_of_lt hz6); have b7 := b6.drew.trans (hb7.mono b6.size); unfold V.agg)
      | (go_at_call 11; refine (eqValue_any t0 A2 A3 c2 c3 w7 hn (Vs.at_more (Nat.le_refl _) (Nat.le_trans (Nat.le_of_lt hz6) hb7.size) _ _ at7) (Vs.at_more (Nat.zero_le _) (Nat.le_refl _) _ _ at3)).mono ?_; rintro e w8 ⟨rfl, hb8⟩; have b8 := b7.trans (hb8.mono b7.size)))
    all_goals go_wp2_with fail
    all_goals go_ret
    all_goals exact ⟨rfl, b8⟩
  · have e1 : szR 1048576 t0.weight = -1 := by rw [szR, if_neg (by omega)]
    have HE := Lib.hid e1
    clear e1
    unfold V.agg
    go_enter Tryd.func3, Tryd.ntmps3
    go_wp2_with fail
    refine (szValue_any t0 A0 c0 1048576 _ (by omega) (by omega) f0 (Vs.at_more (Nat.le_refl _) (by simp) _ _ (Vs.at_alloc H0.out (Nat.le_refl _) _))).mono ?_
    rintro e w1 ⟨rfl, hb1⟩
    rw [HE.out]
    go_wp2_with fail
    go_ret
    exact ⟨rfl, ((Below.refl _ w).alloc (Nat.le_refl _) _).trans (hb1.mono (by simp))⟩

set_option maxRecDepth 100000 in
theorem lifted (os : Os) (started : os.Started) (H : Type) (enc : TypeId × Value → H) :
    ReturnsInHanded {} Tryd.checked os 3 .any (fun w args => (Rows.fnExactPutMsgSpec.pre enc Tryd.prog Tryd.f3 [] false w args ∧ laidMetH Tryd.prog Rows.fnExactPutMsgRow.laid w) ∧ sizedMet enc Tryd.prog Tryd.f3 (OpenSpec.ofChange Rows.fnExactPutMsgSpec) false w args)
      (Rows.fnExactPutMsgSpec.post enc Tryd.prog Tryd.f3 false true false false) := by
  refine returnsInHanded_of_change_and (C := Tryd.checked) (X := fun w _ => laidMetH Tryd.prog Rows.fnExactPutMsgRow.laid w) (fun _ _ _ hh h => h.of_heap hh) own started (by kernel_rfl) Tryd.func3
    (ChangeSpec.witness_shaped (enc := enc) (C := Tryd.checked) (os := os) (X := fun w _ => laidMetH Tryd.prog Rows.fnExactPutMsgRow.laid w) false (World.laidAll Tryd.prog os Rows.fnExactPutMsgRow.laid) #[.agg #[.int .i64 0, .int .i64 0, .int .i64 0, .string ByteArray.empty, .slice none 0 0]] 8 (World.laidAll_os _ _ _)
      (World.shaped_of_ZipB (by kernel_rfl) (by kernel_rfl)) (by kernel_rfl) (by kernel_rfl) (by kernel_rfl)
      (by rw [MakeChecks.laidMetH_plain _ _ _ (by kernel_rfl)]; exact laidMet_laidAll _ (by kernel_rfl) (by kernel_rfl))) ?_
  intro W base args ds gs before hval0 hW _ _ hL _
  rw [MakeChecks.laidMetH_plain _ _ _ (by kernel_rfl)] at hL
  have hT : Tabs W := tabs_of_laid hL (.head _) (.tail _ (.head _))
  have hval : ∀ (j : Nat) t v, Tryd.f3.params[j]? = some t → args[j]? = some v → Value.okWide Tryd.prog W .any base t v := hval0
  have hW' := hW
  obtain ⟨p, q, hA0, hV, rfl, hfz, hnd⟩ := hW
  have hA : DataW.TrodAll enc Tryd.prog W 0 (fun _ => true) true Tryd.f3.params.toList args.toList ds p := hA0
  rw [Tryd.params3] at hA hval
  obtain ⟨v0, vs0, d0, ds0, p0, q0, hargs, rfl, rfl, h0, r0⟩ := trodAll_cons hA
  obtain ⟨rfl, rfl, rfl⟩ := trodAll_nil r0
  obtain rfl : args = #[v0] := by cases args; simp_all
  obtain ⟨rfl, rfl⟩ := trodVars_none hV
  have k0 := h0
  have lt0 : ∀ x ∈ p0, x.block < W.heap.size := by obtain ⟨m, hm⟩ := k0; exact DataW.trod_lt m _ _ _ hm
  obtain ⟨t0, A0, c0, rfl, f0, at0⟩ := open_value (hval 0 24 v0 rfl rfl) h0
  clear hA0 hval0
  refine (walk t0 A0 c0 f0 W at0 hT).mono fun e W' ⟨he, bel⟩ => ?_
  subst he
  exact ⟨_, rfl, _, _, _, [], _, [], hW', trodAll_mk1 (shut_bool Tryd.underlying4 _), (trodAll_cons_mk (Below.trod laidOut (by kernel_rfl) (of_decide_eq_true (by kernel_rfl)) k0 bel lt0) trodAll_mk0), rfl, bel.frame _, fun h => by cases h⟩

theorem over : Rows.fnExactPutMsgRow.holds Tryd.pinned (OpenSpec.ofChange Rows.fnExactPutMsgSpec) :=
  OpenClaim.holds_of_wide 3 Tryd.f3 rfl rfl rfl rfl rfl rfl rfl ⟨rfl, rfl, rfl, rfl, rfl⟩ rfl rfl rfl rfl rfl (by kernel_rfl) Tryd.func3 (by kernel_rfl)
    (of_decide_eq_true (by kernel_rfl)) (by unfold Func.isWrapper; first | (rw [if_pos (by decide +kernel)]; kernel_rfl) | (rw [if_neg (by decide +kernel)]; exact ⟨rfl, rfl⟩))
    (fun os started H enc _ => lifted os started H enc)

theorem proved : Rows.FnExactPutMsgCardSaid :=
  Claim7.holds_tied_plain_at .later [] _ _ _ _ over (fun _ h => by cases h) (by kernel_rfl) (fun _ h => by cases h) fnExactPutMsg_row_tie rfl ⟨rfl, rfl⟩ (by kernel_rfl) rfl
    (fun f fn hf hfn => by
      obtain rfl : f = 3 := Option.some.inj ((show Tryd.prog.funcNamed "loop.example/g00421/laws.FnExactPutMsg" = some 3 by kernel_rfl).symm.trans hf) |>.symm
      obtain rfl : fn = Tryd.f3 := (Option.some.inj (Tryd.func3.symm.trans hfn)).symm
      exact ⟨by kernel_rfl, fun j t ht => by
        rw [Tryd.params3] at ht
        have hm : t ∈ [24] := by simpa using Array.mem_of_getElem? ht
        have hall : ([24].all fun u => !Tryd.prog.wantsStandIn u) = true := by kernel_rfl
        exact (show Tryd.prog.wantsStandIn t = false by simpa using List.all_eq_true.1 hall t hm)⟩)
    (by kernel_rfl)
end Go.Proofs.YtkajfinfphmlaaaDoor.fnExactPutMsg
