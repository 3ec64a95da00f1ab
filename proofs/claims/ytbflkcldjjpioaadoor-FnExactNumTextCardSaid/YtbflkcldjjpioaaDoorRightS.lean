/-
  The reference's tests of a value: a number times ten, keys of pairs.
-/
import Derived.Test.YtbflkcldjjpioaaDoorRight
import Derived.BigQuiet
namespace Go.Proofs.YtbflkcldjjpioaaDoor
open Go.RowKit
set_option linter.unusedVariables false
set_option maxRecDepth 100000

theorem tens_step (n : Int) (k : Nat) (h : inR (n * 10)) : tens n (k + 1) = tens (n * 10) k := by
  conv => lhs; unfold tens
  rw [if_pos h]
theorem tens_stop (n : Int) (k : Nat) (h : ¬ inR (n * 10)) : tens n (k + 1) = none := by
  unfold tens
  rw [if_neg h]

theorem wrap_tdiv (y : Int) : wrap64 (Int.tdiv (wrap64 y) 10) = Int.tdiv (wrap64 y) 10 := by
  have h1 := wrap64_eq y
  have h2 := Int.tmod_add_mul_tdiv (wrap64 y) 10
  have h3 : -10 < Int.tmod (wrap64 y) 10 ∧ Int.tmod (wrap64 y) 10 < 10 := by
    constructor
    · have := Int.lt_tmod_of_pos (wrap64 y) (show (0 : Int) < 10 by omega); omega
    · exact Int.tmod_lt_of_pos _ (by omega)
  rw [wrap64_eq (Int.tdiv _ _)]
  omega
theorem inR_div {x : Int} (h : inR (x * 10)) : wrap64 (x * 10) = x * 10 ∧ Int.tdiv (x * 10) 10 = x := by
  unfold inR at h
  exact ⟨by rw [wrap64_eq]; omega, Int.mul_tdiv_cancel _ (by omega)⟩

set_option maxHeartbeats 1000000 in
theorem specWhole_pos (n : Int) (m : Nat) (w : World) (hn : inR n) (hm : 0 < m) (hm2 : m ≤ 20) :
    Calls Tryd.prog 119 #[.int .i64 n, .int .i64 (m : Int)] w fun e w' => e = .returned (.bool (tens n m).isSome) ∧ w = w' := by
  have hmp : decide ((0 : Int) < m) = true := decide_eq_true (by omega)
  go_enter Tryd.func119, Tryd.ntmps119
  go_wp2_with fail
  go_loop [0, 5, 6] (fun z i _ => ∃ (j : Nat) (x : Int), j ≤ m ∧ i = .int .i64 j ∧ z = .int .i64 x ∧ inR x ∧ tens n m = tens x (m - j)) (fun _ i _ => m - (intOf i).toNat)
  case atStart => exact ⟨0, n, by omega, rfl, rfl, hn, by simp⟩
  case round =>
    obtain ⟨j, x, hj, rfl, rfl, hx, ht⟩ := hrel
    by_cases hlt : j < m
    · have hw := wrap_ten hx
      have hr := hx
      unfold inR at hr
      obtain ⟨k, hk⟩ : ∃ k, m - j = k + 1 := ⟨m - j - 1, by omega⟩
      rw [hk] at ht
      by_cases h10 : inR (x * 10)
      · have hin := h10
        unfold inR at hin
        obtain ⟨hwz, hdz⟩ := inR_div h10
        have hq : (Int.tdiv (x * 10) 10 == x) = true := by rw [hdz]; simp
        have HT := Lib.hid (ht.trans (tens_step x k h10))
        have H10 := Lib.hid h10
        clear ht hw hx h10
        go_wp2_with fail
        go_round
        case rel => exact ⟨j + 1, x * 10, by omega, by go_num, by go_num, H10.out, by rw [HT.out]; congr 1; omega⟩
        case measure => simp [intOf]; omega
      · have hq : (wrap64 (Int.tdiv (wrap64 (x * 10)) 10) == x) = false := by rw [wrap_tdiv, beq_eq_false_iff_ne]; exact fun e => h10 (hw.1 e)
        have HT := Lib.hid (ht.trans (tens_stop x k h10))
        clear ht hw hx h10
        go_wp2_with fail
        go_ret
        exact ⟨ret_bool (by rw [HT.out]; rfl), rfl⟩
    · obtain rfl : j = m := by omega
      have HT : Hid (tens n j = some x) := Lib.hid (by rw [ht, Nat.sub_self]; rfl)
      clear ht hx
      go_wp2_with fail
      go_ret
      exact ⟨ret_bool (by rw [HT.out]; rfl), rfl⟩
theorem specWhole (n e : Int) (w : World) (hn : inR n) (he : -20 ≤ e ∧ e ≤ 20) :
    Calls Tryd.prog 119 #[.int .i64 n, .int .i64 e] w fun r w' => r = .returned (.bool (decide (0 < e) && (tens n e.toNat).isSome)) ∧ w = w' := by
  by_cases h : 0 < e
  · obtain ⟨m, rfl⟩ := Int.eq_ofNat_of_zero_le (show 0 ≤ e by omega)
    refine (specWhole_pos n m w hn (by omega) (by omega)).mono ?_
    rintro r w' ⟨rfl, rfl⟩
    exact ⟨ret_bool (by rw [decide_eq_true h, Int.toNat_natCast]; rfl), rfl⟩
  · have hd : decide ((0 : Int) < e) = false := decide_eq_false h
    go_enter Tryd.func119, Tryd.ntmps119
    go_wp2_with fail
    go_loop [5] (fun i => i = .int .i64 0) (fun _ => 0)
    case atStart => exact rfl
    case round =>
      obtain rfl := hrel
      go_wp2_with fail
      go_ret
      exact ⟨ret_bool (by first | rfl | (rw [hd]; rfl)), rfl⟩

theorem text_iff (a b : ByteArray) : (a.toList == b.toList) = decide (a = b) := by
  rw [Bool.eq_iff_iff, decide_eq_true_iff, beq_iff_eq, ByteArray.toList_eq, ByteArray.toList_eq]
  constructor
  · intro h
    cases a; cases b
    simp only [ByteArray.mk.injEq]
    exact Array.toList_inj.1 h
  · intro h; rw [h]
theorem keyEq_bools (a b : V) : (((a.k == b.k) = true ∧ (a.n == b.n) = true ∧ (a.s.toList == b.s.toList) = true) ∧ keyEq a b) ∨ (((a.k == b.k) = false ∨ ((a.k == b.k) = true ∧ (a.n == b.n) = false) ∨ ((a.k == b.k) = true ∧ (a.n == b.n) = true ∧ (a.s.toList == b.s.toList) = false)) ∧ ¬ keyEq a b) := by
  unfold keyEq
  rw [text_iff]
  simp only [beq_iff_eq, beq_eq_false_iff_ne, decide_eq_true_iff, decide_eq_false_iff_not]
  by_cases h1 : a.k = b.k <;> by_cases h2 : a.n = b.n <;> by_cases h3 : a.s = b.s <;> simp [h1, h2, h3]
theorem pairsTo_step {R : V → V → Prop} {l : List V} {j : Nat} (hj : j < l.length) (he : j % 2 = 0) (h : pairsTo R l j) (hk : isKeyB l[j] = true) (hn : ∀ k (hk : k < j), k % 2 = 0 → ¬ R (l[k]'(by omega)) l[j]) : pairsTo R l (j + 2) := by
  intro i hi hlt hev
  by_cases e : i = j
  · subst e; exact ⟨hk, hn⟩
  · exact h i hi (by omega) hev
theorem pairsTo_end {R : V → V → Prop} {l : List V} {j : Nat} (hj : l.length ≤ j) (h : pairsTo R l j) : pairsTo R l l.length := fun i hi _ he => h i hi (by omega) he
theorem pairsTo_zero (R : V → V → Prop) (l : List V) : pairsTo R l 0 := fun i _ h => by omega

set_option maxHeartbeats 4000000 in
theorem specPairs (l : List V) (A : Option Addr) (cap : Nat) (w : World) (hl : l.length ≤ 1048576) (hat : Vs.at_ w 0 w.heap.size l A) :
    Calls Tryd.prog 121 #[.slice A l.length cap] w fun e w' => e = .returned (.bool (decide (pairsOk l))) ∧ Below w.heap.size w w' := by
  have HA := Lib.hid hat
  clear hat
  go_enter Tryd.func121, Tryd.ntmps121
  go_wp2_with fail
  go_loopw [3, 4] (fun i k wr => ∃ j : Nat, j ≤ l.length + 1 ∧ j % 2 = 0 ∧ i = .int .i64 j ∧ pairsTo keyEq l j ∧ Below w.heap.size w wr) (fun i _ _ => l.length + 2 - (intOf i).toNat)
  case atStart => exact ⟨0, by omega, rfl, rfl, pairsTo_zero _ _, Below.refl _ _⟩
  case round =>
    obtain ⟨j, hj, he, rfl, hp, hb⟩ := hrel
    have HP := Lib.hid hp
    clear hp
    by_cases hlt : j < l.length
    · obtain ⟨b, off, A', cap', eA, g1, g2, g3, ⟨c0, c1, c2, c3, c4⟩, g5⟩ := Vs.at_get j hlt (Vs.at_below HA.out hb (Nat.le_refl _))
      subst eA
      by_cases hkey : isKeyB l[j] = true
      · have hkk := hkey
        unfold isKeyB at hkk
        rw [decide_eq_true_iff] at hkk
        have HKEY := Lib.hid hkey
        clear hkey
        rcases (show (l[j].k != 5) = false ∨ ((l[j].k != 5) = true ∧ (l[j].k != 3) = false) by
          rcases hkk with h | h
          · left; rw [h]; rfl
          · right; rw [h]; exact ⟨rfl, rfl⟩) with hc | hc
        all_goals
          clear hkk
          go_wp2_with fail
          go_loopw [4] (fun k wq => ∃ m : Nat, m ≤ j + 1 ∧ m % 2 = 0 ∧ k = .int .i64 m ∧ (∀ q (hq : q < j), q < m → q % 2 = 0 → ¬ keyEq (l[q]'(by omega)) l[j]) ∧ Below w.heap.size w wq) (fun k _ => j + 2 - (intOf k).toNat)
          case atStart => exact ⟨0, by omega, rfl, rfl, fun q _ h => by omega, hb⟩
          case round =>
            obtain ⟨m, hm, hme, rfl, hnot, hbq⟩ := hrel
            have HNOT := Lib.hid hnot
            clear hnot
            by_cases hmj : m < j
            · have hmlt : m < l.length := by omega
              obtain ⟨b1, off1, A1, cap1, e1, k1, k2, k3, ⟨d0, d1, d2, d3, d4⟩, k5⟩ := Vs.at_get m hmlt (Vs.at_below HA.out hbq (Nat.le_refl _))
              obtain ⟨b2, off2, A2, cap2, e2, m1, m2, m3, ⟨f0, f1, f2, f3, f4⟩, m5⟩ := Vs.at_get j hlt (Vs.at_below HA.out hbq (Nat.le_refl _))
              injection e1 with e1
              injection e1 with e11 e12
              injection e2 with e2
              injection e2 with e21 e22
              subst e11 e12 e21 e22
              rcases keyEq_bools l[m] l[j] with ⟨⟨t1, t2, t3⟩, hq⟩ | ⟨ht, hq⟩
              · have HN : Hid (decide (pairsOk l) = false) := Lib.hid (decide_eq_false (fun h => (h.1 j hlt hlt he).2 m hmj hme hq))
                clear hq
                go_wp2_with fail
                go_quiet (fail)
                go_wp2_with fail
                go_ret
                exact ⟨ret_bool HN.out.symm, below_drewN hbq _⟩
              · have HQ := Lib.hid hq
                clear hq
                rcases ht with t1 | ⟨t1, t2⟩ | ⟨t1, t2, t3⟩
                all_goals
                  go_wp2_with fail
                  go_quiet (fail)
                  go_wp2_with fail
                  go_roundw
                  case rel => exact ⟨m + 2, by omega, by omega, by go_num, fun q hq1 hq2 hq3 => by
                    by_cases e : q = m
                    · subst e; exact HQ.out
                    · exact HNOT.out q hq1 (by omega) hq3, below_drewN hbq _⟩
                  case measure => simp [intOf]; omega
            · have HST := Lib.hid (pairsTo_step hlt he HP.out HKEY.out (fun k hk hke => HNOT.out k hk (by omega) hke))
              go_wp2_with fail
              go_roundw
              case rel => exact ⟨j + 2, by omega, by omega, by go_num, HST.out, hbq⟩
              case measure => simp [intOf]; omega
      · have hkk : ¬ (l[j].k = 5 ∨ l[j].k = 3) := by unfold isKeyB at hkey; rwa [decide_eq_true_iff] at hkey
        have hc1 : (l[j].k != 5) = true := by simp; omega
        have hc2 : (l[j].k != 3) = true := by simp; omega
        have HN : Hid (decide (pairsOk l) = false) := Lib.hid (decide_eq_false (fun h => hkey (h.1 j hlt hlt he).1))
        clear hkk hkey
        go_wp2_with fail
        go_ret
        exact ⟨ret_bool HN.out.symm, hb⟩
    · have HE : Hid (decide (pairsOk l) = (decide (l.length % 2 = 0) && decide (l.length ≤ 300))) := Lib.hid (by
        unfold pairsOk
        rw [show (pairsTo keyEq l l.length ∧ l.length % 2 = 0 ∧ l.length ≤ 300) = (l.length % 2 = 0 ∧ l.length ≤ 300) from propext ⟨fun h => h.2, fun h => ⟨pairsTo_end (by omega) HP.out, h⟩⟩]
        rw [Bool.decide_and])
      by_cases hev : l.length % 2 = 0
      · have hx : ((l.length : Int) % 2 == 0) = true := by rw [beq_iff_eq]; omega
        go_wp2_with fail
        go_ret
        exact ⟨ret_bool (by rw [HE.out, decide_eq_true hev, Bool.true_and]; exact decide_eq_decide.2 (by omega)), hb⟩
      · have hx : ((l.length : Int) % 2 == 0) = false := by rw [beq_eq_false_iff_ne]; omega
        go_wp2_with fail
        go_ret
        exact ⟨ret_bool (by rw [HE.out, decide_eq_false hev]; rfl), hb⟩
end Go.Proofs.YtbflkcldjjpioaaDoor
