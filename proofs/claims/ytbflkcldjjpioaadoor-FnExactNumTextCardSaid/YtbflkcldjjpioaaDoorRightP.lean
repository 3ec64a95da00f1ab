/-
  The program's areKids.
-/
import Derived.Test.YtbflkcldjjpioaaDoorRightK
import Derived.Test.YtbflkcldjjpioaaDoorImplSame
import Derived.StillTailTactics
namespace Go.Proofs.YtbflkcldjjpioaaDoor
open Go.RowKit
set_option linter.unusedVariables false
set_option maxRecDepth 100000

/-- Two keys are one, by what the program compares. -/
def keySame (a b : V) : Prop := V.same b a = true
def pairsI (l : List V) : Prop := pairsTo keySame l l.length ∧ l.length % 2 = 0
def kidsI (v : V) : Prop := if v.k = 7 then True else if v.k = 9 then v.kids.length = 1 else if v.k = 8 then pairsI v.kids else v.kids.length = 0
theorem kidsI_8 {v : V} (h : v.k = 8) : kidsI v ↔ pairsI v.kids := by
  unfold kidsI
  rw [if_neg (by omega), if_neg (by omega), if_pos h]
theorem pairsToP_step {R : V → V → Prop} {l : List V} {j : Nat} (hj : j < l.length) (he : j % 2 = 0) (h : pairsTo R l j) (hk : isKeyB l[j] = true) (hn : ∀ k (hk : k < j), k % 2 = 0 → ¬ R (l[k]'(by omega)) l[j]) : pairsTo R l (j + 2) := by
  intro i hi hlt hev
  by_cases e : i = j
  · subst e; exact ⟨hk, hn⟩
  · exact h i hi (by omega) hev
theorem pairsToP_end {R : V → V → Prop} {l : List V} {j : Nat} (hj : l.length ≤ j) (h : pairsTo R l j) : pairsTo R l l.length := fun i hi _ he => h i hi (by omega) he

set_option maxHeartbeats 4000000 in
theorem implKids_8 (v : V) (A : Option Addr) (cap : Nat) (w : World) (hk : v.k = 8) (hn : v.nodes ≤ 1048577) (hat : Vs.at_ w 0 w.heap.size v.kids A) :
    Calls Tryd.prog 116 #[v.agg A cap] w fun e w' => e = .returned (.bool (decide (kidsI v))) ∧ Below w.heap.size w w' := by
  have HO := Lib.hid (kidsI_8 hk)
  have HA := Lib.hid hat
  have q7 : (v.k == 7) = false := by rw [hk]; rfl
  have q9 : (v.k == 9) = false := by rw [hk]; rfl
  have q8 : (v.k == 8) = true := by rw [hk]; rfl
  have hl : v.kids.length ≤ 1048576 := by have := Vs.len_nodes v.kids; have := V.nodes_eq v; omega
  have HNN := Lib.hid (fun (i : Nat) (h : i < v.kids.length) => show (v.kids[i]).nodes ≤ 1048577 by have := Vs.nodes_get i h; have := V.nodes_eq v; omega)
  clear hk hat hn
  unfold V.agg
  go_enter Tryd.func116, Tryd.ntmps116
  go_wp2_with fail
  go_loopw [3, 4] (fun i k wr => ∃ j : Nat, j ≤ v.kids.length + 1 ∧ j % 2 = 0 ∧ i = .int .i64 j ∧ pairsTo keySame v.kids j ∧ Blk wr w.heap.size 34 #[.int .i64 v.k, .int .i64 v.n, .int .i64 v.e, .string v.s, .slice A v.kids.length cap] ∧ Below w.heap.size w wr) (fun i _ _ => v.kids.length + 2 - (intOf i).toNat)
  case atStart => exact ⟨0, by omega, rfl, rfl, fun i _ h => by omega, Blk.new _ _ _, (Below.refl _ _).alloc (Nat.le_refl _) _⟩
  case round =>
    obtain ⟨j, hj, he, rfl, hp, B, hb⟩ := hrel
    have HP := Lib.hid hp
    have b4 : wr.cell? ⟨w.heap.size, 4, none⟩ = some (.slice A v.kids.length cap) := B.cell 4
    clear hp
    by_cases hlt : j < v.kids.length
    · obtain ⟨b, off, A', cap', eA, g1, g2, g3, ⟨c0, c1, c2, c3, c4⟩, g5⟩ := Vs.at_get j hlt (Vs.at_below HA.out hb (Nat.le_refl _))
      subst eA
      go_wp2_with fail
      refine (implIsKey v.kids[j] A' cap' _).mono ?_
      rintro e w1 ⟨rfl, hb1⟩
      have B1 := B.below hb1 B.lt
      have b1 := hb.trans (hb1.mono hb.size)
      clear c0 c1 c2 c3 c4 b4 g5
      by_cases hkey : isKeyB v.kids[j] = true
      · rw [hkey]
        have HKEY := Lib.hid hkey
        clear hkey
        go_wp2_with fail
        go_loopw [4] (fun k wq => ∃ m : Nat, m ≤ j + 1 ∧ m % 2 = 0 ∧ k = .int .i64 m ∧ (∀ q (hq : q < j), q < m → q % 2 = 0 → ¬ keySame (v.kids[q]'(by omega)) v.kids[j]) ∧ Blk wq w.heap.size 34 #[.int .i64 v.k, .int .i64 v.n, .int .i64 v.e, .string v.s, .slice (some ⟨b, off, none⟩) v.kids.length cap] ∧ Below w.heap.size w wq) (fun k _ => j + 2 - (intOf k).toNat)
        case atStart => exact ⟨0, by omega, rfl, rfl, fun q _ h => by omega, B1, b1⟩
        case round =>
          obtain ⟨m, hm, hme, rfl, hnot, Bq, hbq⟩ := hrel
          have HNOT := Lib.hid hnot
          have b4 : wr.cell? ⟨w.heap.size, 4, none⟩ = some (.slice (some ⟨b, off, none⟩) v.kids.length cap) := Bq.cell 4
          clear hnot
          by_cases hmj : m < j
          · have hmlt : m < v.kids.length := by omega
            obtain ⟨b1, off1, A1, cap1, e1, k1, k2, k3, ⟨d0, d1, d2, d3, d4⟩, k5⟩ := Vs.at_get m hmlt (Vs.at_below HA.out hbq (Nat.le_refl _))
            obtain ⟨b2, off2, A2, cap2, e2, m1, m2, m3, ⟨f0, f1, f2, f3, f4⟩, m5⟩ := Vs.at_get j hlt (Vs.at_below HA.out hbq (Nat.le_refl _))
            injection e1 with e1
            injection e1 with e11 e12
            injection e2 with e2
            injection e2 with e21 e22
            subst e11 e12 e21 e22
            go_wp2_with fail
            go_still_tail 10, (by kernel_rfl)
            change wpList _ _ _ _ _ wr.drew
            go_wp2_with fail
            refine (implSame v.kids[j] v.kids[m] A2 A1 cap2 cap1 wr.drew (HNN.out j hlt) (HNN.out m hmlt) (Vs.at_more (Nat.le_refl _) hbq.size _ _ (Vs.at_drew m5)) (Vs.at_more (Nat.le_refl _) hbq.size _ _ (Vs.at_drew k5))).mono ?_
            rintro e w2 ⟨rfl, hb2⟩
            have hbw : Below w.heap.size w w2 := hbq.drew.trans (hb2.mono hbq.size)
            have B2 := (Bq.drew).below hb2 Bq.lt
            clear d0 d1 d2 d3 d4 f0 f1 f2 f3 f4 b4 k5 m5
            by_cases hq : V.same v.kids[j] v.kids[m] = true
            · rw [hq]
              have HN : Hid (¬ kidsI v) := Lib.hid (fun h => ((HO.out.1 h).1 j hlt hlt he).2 m hmj hme hq)
              clear hq
              go_wp2_with fail
              go_ret
              exact ⟨ret_bool (decide_eq_false HN.out).symm, hbw⟩
            · have HQ := Lib.hid hq
              rw [show V.same v.kids[j] v.kids[m] = false by simpa using hq]
              clear hq
              go_wp2_with fail
              go_roundw
              case rel => exact ⟨m + 2, by omega, by omega, by go_num, fun q hq1 hq2 hq3 => by
                by_cases e : q = m
                · subst e; exact HQ.out
                · exact HNOT.out q hq1 (by omega) hq3, B2, hbw⟩
              case measure => simp [intOf]; omega
          · have HST := Lib.hid (pairsToP_step hlt he HP.out HKEY.out (fun k hk hke => HNOT.out k hk (by omega) hke))
            go_wp2_with fail
            go_roundw
            case rel => exact ⟨j + 2, by omega, by omega, by go_num, HST.out, Bq, hbq⟩
            case measure => simp [intOf]; omega
      · have hkf : isKeyB v.kids[j] = false := by simpa using hkey
        have HN : Hid (¬ kidsI v) := Lib.hid (fun h => hkey ((HO.out.1 h).1 j hlt hlt he).1)
        rw [hkf]
        go_wp2_with fail
        go_ret
        exact ⟨ret_bool (decide_eq_false HN.out).symm, b1⟩
    · have HE : Hid (kidsI v ↔ v.kids.length % 2 = 0) := Lib.hid (HO.out.trans ⟨fun h => h.2, fun h => ⟨pairsToP_end (by omega) HP.out, h⟩⟩)
      by_cases hev : v.kids.length % 2 = 0
      · have hx : ((v.kids.length : Int) % 2 == 0) = true := by rw [beq_iff_eq]; omega
        go_wp2_with fail
        go_ret
        exact ⟨ret_bool (decide_eq_true (HE.out.2 hev)).symm, hb⟩
      · have hx : ((v.kids.length : Int) % 2 == 0) = false := by rw [beq_eq_false_iff_ne]; omega
        go_wp2_with fail
        go_ret
        exact ⟨ret_bool (decide_eq_false (fun h => hev (HE.out.1 h))).symm, hb⟩

set_option maxHeartbeats 1000000 in
theorem implKids_7 (v : V) (A : Option Addr) (cap : Nat) (w : World) (hk : v.k = 7) :
    Calls Tryd.prog 116 #[v.agg A cap] w fun e w' => e = .returned (.bool (decide (kidsI v))) ∧ Below w.heap.size w w' := by
  have HO : Hid (kidsI v) := Lib.hid (by unfold kidsI; rw [if_pos hk]; trivial)
  have q7 : (v.k == 7) = true := by rw [hk]; rfl
  clear hk
  unfold V.agg
  go_enter Tryd.func116, Tryd.ntmps116
  go_wp2_with fail
  go_ret
  exact ⟨ret_bool (decide_eq_true HO.out).symm, (Below.refl _ _).alloc (Nat.le_refl _) _⟩
theorem int_eq_dec (n m : Nat) : ((n : Int) == (m : Int)) = decide (n = m) := by rw [Bool.eq_iff_iff]; simp; omega
set_option maxHeartbeats 1000000 in
theorem implKids_9 (v : V) (A : Option Addr) (cap : Nat) (w : World) (hk : v.k = 9) (hl : v.kids.length ≤ 1048576) :
    Calls Tryd.prog 116 #[v.agg A cap] w fun e w' => e = .returned (.bool (decide (kidsI v))) ∧ Below w.heap.size w w' := by
  have HO : Hid (decide (kidsI v) = ((v.kids.length : Int) == 1)) := Lib.hid (by
    have h := int_eq_dec v.kids.length 1
    rw [show ((1 : Nat) : Int) = 1 from rfl] at h
    rw [h]
    exact decide_eq_decide.2 (by unfold kidsI; rw [if_neg (by omega), if_pos hk]))
  have q7 : (v.k == 7) = false := by rw [hk]; rfl
  have q9 : (v.k == 9) = true := by rw [hk]; rfl
  clear hk
  unfold V.agg
  go_enter Tryd.func116, Tryd.ntmps116
  go_wp2_with fail
  go_ret
  exact ⟨ret_bool HO.out.symm, (Below.refl _ _).alloc (Nat.le_refl _) _⟩
set_option maxHeartbeats 1000000 in
theorem implKids_0 (v : V) (A : Option Addr) (cap : Nat) (w : World) (hk : v.k ≠ 7 ∧ v.k ≠ 8 ∧ v.k ≠ 9) (hl : v.kids.length ≤ 1048576) :
    Calls Tryd.prog 116 #[v.agg A cap] w fun e w' => e = .returned (.bool (decide (kidsI v))) ∧ Below w.heap.size w w' := by
  have HO : Hid (decide (kidsI v) = ((v.kids.length : Int) == 0)) := Lib.hid (by
    have h := int_eq_dec v.kids.length 0
    rw [show ((0 : Nat) : Int) = 0 from rfl] at h
    rw [h]
    exact decide_eq_decide.2 (by unfold kidsI; rw [if_neg hk.1, if_neg hk.2.2, if_neg hk.2.1]))
  have q7 : (v.k == 7) = false := by rw [beq_eq_false_iff_ne]; exact hk.1
  have q9 : (v.k == 9) = false := by rw [beq_eq_false_iff_ne]; exact hk.2.2
  have q8 : (v.k == 8) = false := by rw [beq_eq_false_iff_ne]; exact hk.2.1
  clear hk
  unfold V.agg
  go_enter Tryd.func116, Tryd.ntmps116
  go_wp2_with fail
  go_ret
  exact ⟨ret_bool HO.out.symm, (Below.refl _ _).alloc (Nat.le_refl _) _⟩
theorem implKids (v : V) (A : Option Addr) (cap : Nat) (w : World) (hn : v.nodes ≤ 1048577) (hat : Vs.at_ w 0 w.heap.size v.kids A) :
    Calls Tryd.prog 116 #[v.agg A cap] w fun e w' => e = .returned (.bool (decide (kidsI v))) ∧ Below w.heap.size w w' := by
  have hl : v.kids.length ≤ 1048576 := by have := Vs.len_nodes v.kids; have := V.nodes_eq v; omega
  rcases (show v.k = 7 ∨ v.k = 8 ∨ v.k = 9 ∨ (v.k ≠ 7 ∧ v.k ≠ 8 ∧ v.k ≠ 9) by omega) with h | h | h | h
  · exact implKids_7 v A cap w h
  · exact implKids_8 v A cap w h hn hat
  · exact implKids_9 v A cap w h hl
  · exact implKids_0 v A cap w h hl
end Go.Proofs.YtbflkcldjjpioaaDoor
