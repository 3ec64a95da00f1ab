/-
  GetHead of the reference: the head that is read is the head that PutHead writes.
-/
import Derived.Test.YtmfogabkpeoagaaGetHeadS
import Derived.Deep.RegionHeld3
namespace Go.Proofs.Ytmfogabkpeoagaa
open Go.RowKit
set_option linter.unusedVariables false

theorem gh_cmp {s : ByteArray} {i : Nat} (h : ahOk s (i : Int)) (hs : s.size ≤ 1048576) : ((str (headL ((s.get! i).toNat / 32) (ahN s i))).toList == (s.extract i (i + 1 + ahM (s.get! i).toNat)).toList) = decide (ghOk s (i : Int)) := by
  have h' := h
  unfold ahOk at h'
  rw [Int.toNat_natCast] at h'
  obtain ⟨h0, h1, h2, h3⟩ := h'
  have he := head_eq s i (by omega) h2 (by omega)
  rw [Bool.eq_iff_iff, decide_eq_true_iff, beq_iff_eq, ByteArray.toList_eq, ByteArray.toList_eq]
  unfold ghOk
  rw [Int.toNat_natCast, ← he]
  have e1 : (str (headL ((s.get! i).toNat / 32) (ahN s i))).data.toList = headL ((s.get! i).toNat / 32) (ahN s i) := by simp [str]
  have e2 : (s.extract i (i + 1 + ahM (s.get! i).toNat)).data.toList = piece s i (1 + ahM (s.get! i).toNat) := by
    unfold piece
    simp
    congr 1
    omega
  rw [e1, e2]
  exact ⟨fun e => ⟨h, e⟩, fun e => e.2⟩
theorem putHeadL_ah (s : ByteArray) (i : Nat) : putHeadL (((s.get! i).toNat / 32 : Nat) : Int) (ahN s i) = headL ((s.get! i).toNat / 32) (ahN s i) := by
  have := (s.get! i).toNat_lt
  unfold putHeadL
  rw [if_pos (by omega), Int.toNat_natCast]
theorem sl3 (s : ByteArray) (i j : Nat) (h : i + 1 + j ≤ s.size) (hs : s.size ≤ 1048576) : (0 : Int) ≤ i ∧ (i : Int) ≤ (i : Int) + 1 + j ∧ (i : Int) + 1 + j ≤ s.size ∧ IntKind.i64.wrap ((i : Int) + 1 + j) = (i : Int) + 1 + j ∧ (0 : Int) ≤ (i : Int) + 1 + j ∧ ((i : Int) + 1 + j).toNat = i + 1 + j := by
  refine ⟨by omega, by omega, by omega, ?_, by omega, by omega⟩
  rw [IntKind.wrap_i64]; omega

theorem bl_drew {w w1 w2 : World} (h1 : Below w.heap.size w w1) (h2 : Below w1.drew.heap.size w1.drew w2) : Below w.heap.size w w2 :=
  h1.trans ((((Below.refl w1.heap.size w1).drew).trans h2).mono h1.size)

set_option maxHeartbeats 2000000 in
theorem specGetHead (s : ByteArray) (i : Int) (w : World) (hs : s.size ≤ 1048576) :
    Calls Try.prog 13 #[.string s, .int .i64 i] w fun e w' => e = .returned (ghRet s i) ∧ Below w.heap.size w w' := by
  by_cases hA : ahOk s i
  · have hA' := hA
    unfold ahOk at hA'
    obtain ⟨i, rfl⟩ := Int.eq_ofNat_of_zero_le hA'.1
    rw [Int.toNat_natCast] at hA'
    have HC := Lib.hid (gh_cmp hA hs)
    have HP := Lib.hid (putHeadL_ah s i)
    have hN := ahN_lt s i (by omega) hA'.2.2.1 (by omega)
    have HR : Hid (ahRet s (i : Int) = _) := Lib.hid (by unfold ahRet; rw [if_pos hA, Int.toNat_natCast])
    have HG : Hid (ghRet s (i : Int) = _) := Lib.hid (by unfold ghRet; rw [Int.toNat_natCast])
    obtain ⟨q1, q2, q3, q4, q5, q6⟩ := sl3 s i (ahM (s.get! i).toNat) (by omega) hs
    have hb := (s.get! i).toNat_lt
    go_enter Try.func13, Try.ntmps13
    go_wp2_with fail
    refine (specAny s i _ hs).mono ?_
    rintro e w1 ⟨rfl, hb1⟩
    rw [HR.out]
    generalize hML : headL ((s.get! i).toNat / 32) (ahN s i) = L at *
    generalize ahM (s.get! i).toNat = m at *
    have hdiv : (s.get! i).toNat / 32 < 8 := by omega
    generalize hM : (s.get! i).toNat / 32 = M at *
    generalize hNN : ahN s i = n at *
    have hneg : decide ((i : Int) + 1 + m < 0) = false := decide_eq_false (by omega)
    go_wp2_with fail
    go_region_held3 (fun _ => True) (exact trivial) (first | (go_at_call 17; refine (specPutHead _ _ _ hN).mono ?_; rintro e w2 ⟨rfl, hb2⟩; rw [HP.out]))
    by_cases hok : ghOk s (i : Int)
    · have ht : ((str L).toList == (s.extract i (i + 1 + m)).toList) = true := by rw [HC.out]; exact decide_eq_true hok
      clear q1 q2 q3 q4 q5 q6
      go_wp2_with fail
      all_goals go_ret3
      all_goals first
        | (have hx : (!(str L).toList == (s.extract i (i + 1 + m)).toList) = true := by assumption
           rw [ht] at hx; cases hx)
        | exact ⟨(congrArg Ending.returned (HG.out.trans (if_pos hok))).symm, bl_drew hb1 hb2⟩
    · have ht : ((str L).toList == (s.extract i (i + 1 + m)).toList) = false := by rw [HC.out]; exact decide_eq_false hok
      clear q1 q2 q3 q4 q5 q6
      go_wp2_with fail
      all_goals go_ret3
      all_goals first
        | (have hx : (!(str L).toList == (s.extract i (i + 1 + m)).toList) = false := by assumption
           rw [ht] at hx; cases hx)
        | exact ⟨(congrArg Ending.returned (HG.out.trans (if_neg hok))).symm, bl_drew hb1 hb2⟩
  · have HR := Lib.hid (ahRet_no hA)
    have HG : Hid (ghRet s i = .tuple #[.int .i64 (-1), .int .u64 0, .int .i64 (-1)]) := Lib.hid (by unfold ghRet; rw [if_neg (fun h => hA h.1)])
    go_enter Try.func13, Try.ntmps13
    go_wp2_with fail
    refine (specAny s i _ hs).mono ?_
    rintro e w1 ⟨rfl, hb1⟩
    rw [HR.out]
    go_wp2_with fail
    go_quiet (fail)
    go_wp2_with fail
    go_ret3
    exact ⟨(congrArg Ending.returned HG.out).symm, below_drewN hb1 _⟩
end Go.Proofs.Ytmfogabkpeoagaa
