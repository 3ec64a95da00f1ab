/-
  The program's Same.
-/
import Derived.Test.YtbflkcldjjpioaaDoorOrd
import Derived.Shelf.Abstract
import Derived.StillTailTactics
namespace Go.Proofs.YtbflkcldjjpioaaDoor
open Go.RowKit
set_option linter.unusedVariables false
set_option maxRecDepth 100000
set_option linter.unusedSimpArgs false

def ImplSameSaid (a : V) : Prop := ∀ (b : V) (A B : Option Addr) (ca cb : Nat) (w : World), a.nodes ≤ 1048577 → b.nodes ≤ 1048577 → Vs.at_ w 0 w.heap.size a.kids A → Vs.at_ w 0 w.heap.size b.kids B →
    Calls Tryd.prog 138 #[a.agg A ca, b.agg B cb] w fun e w' => e = .returned (.bool (V.same a b)) ∧ Below w.heap.size w w'

theorem sameEnters : ∀ (args : Array Value) (w : World), (callFunc 138 args).run Tryd.prog w = .ok (.enter 138 args) w :=
  enters_of Tryd.func138 (by kernel_rfl) rfl

/-- Are two rows the same? -/
def Vs.same (l m : List V) : Bool := decide (l.length = m.length ∧ Vs.cmp l m = 0)

theorem V.ord_iff (a b : V) : V.ord a b = 0 ↔ a.k = b.k ∧ a.n = b.n ∧ a.e = b.e ∧ a.s = b.s ∧ a.kids.length = b.kids.length := by
  constructor
  · intro h
    have h1 := orN_all _ 5 h
    refine ⟨lessI_zero (h1 0 (by omega)), lessI_zero (h1 1 (by omega)), lessI_zero (h1 2 (by omega)), lessT_zero (h1 3 (by omega)), ?_⟩
    have := lessI_zero (h1 4 (by omega))
    omega
  · rintro ⟨h1, h2, h3, h4, h5⟩
    refine orN_zero _ 5 fun i hi => ?_
    rcases (show i = 0 ∨ i = 1 ∨ i = 2 ∨ i = 3 ∨ i = 4 by omega) with rfl | rfl | rfl | rfl | rfl
    · show lessI a.k b.k = 0; rw [h1]; exact lessI_eq _
    · show lessI a.n b.n = 0; rw [h2]; exact lessI_eq _
    · show lessI a.e b.e = 0; rw [h3]; exact lessI_eq _
    · show lessT a.s b.s = 0; rw [h4]; exact lessT_eq _
    · show lessI a.kids.length b.kids.length = 0; rw [h5]; exact lessI_eq _
theorem V.same_no {a b : V} (h : V.ord a b ≠ 0) : V.same a b = false := by
  unfold V.same
  rw [V.cmp_ord h]
  exact decide_eq_false h
theorem V.same_yes {a b : V} (h1 : a.k = b.k) (h2 : a.n = b.n) (h3 : a.e = b.e) (h4 : a.s = b.s) : V.same a b = Vs.same a.kids b.kids := by
  by_cases h : a.kids.length = b.kids.length
  · have h0 : V.ord a b = 0 := (V.ord_iff a b).2 ⟨h1, h2, h3, h4, h⟩
    unfold V.same Vs.same
    rw [V.cmp_zero h0]
    simp [h]
  · rw [V.same_no (fun h0 => h ((V.ord_iff a b).1 h0).2.2.2.2)]
    unfold Vs.same
    simp [h]
theorem text_eq {a b : ByteArray} (h : (a.toList == b.toList) = true) : a = b := by
  have h3 := eq_of_beq h
  rw [ByteArray.toList_eq, ByteArray.toList_eq] at h3
  cases a; cases b
  simp only [ByteArray.mk.injEq]
  exact Array.toList_inj.1 h3

set_option maxHeartbeats 4000000 in
theorem sameFunc (l m : List V) (hk : ∀ i (h : i < l.length), ImplSameSaid l[i]) (A B : Option Addr) (ca cb : Nat) (w : World) (hn : Vs.nodes l ≤ 1048576) (hm : Vs.nodes m ≤ 1048576) (hat : Vs.at_ w 0 w.heap.size l A) (hbt : Vs.at_ w 0 w.heap.size m B) :
    Calls Tryd.prog 150 #[.slice A l.length ca, .slice B m.length cb, .func (Fn.func 138) #[] #[]] w fun e w' => e = .returned (.bool (Vs.same l m)) ∧ Below w.heap.size w w' := by
  have hl : l.length ≤ 1048576 := by have := Vs.len_nodes l; omega
  have hl2 : m.length ≤ 1048576 := by have := Vs.len_nodes m; omega
  have HK := fun (i : Nat) (h : i < l.length) (h2 : i < m.length) (A' B' : Option Addr) (c c' : Nat) (w' : World) (h1 : Vs.at_ w' 0 w'.heap.size (l[i]).kids A') (h2' : Vs.at_ w' 0 w'.heap.size (m[i]).kids B') => hk i h m[i] A' B' c c' w' (by have := Vs.nodes_get i h; omega) (by have := Vs.nodes_get i h2; omega) h1 h2'
  have HC := Lib.hid HK
  clear HK hk
  have HA := Lib.hid hat
  have HB := Lib.hid hbt
  have HS := Lib.hid (Vs.cmp_first l m)
  have HN := Lib.hid (Vs.cmp_none l m)
  have hE := sameEnters
  clear hat hbt
  by_cases hlen : l.length = m.length
  · have HL := Lib.hid hlen
    rw [← hlen]
    clear hlen
    go_enter Tryd.func150, Tryd.ntmps150
    go_wp2_with fail
    go_loopw [17] (fun i wr => ∃ j : Nat, j ≤ l.length ∧ i = .int .i64 j ∧ (∀ k (h1 : k < l.length) (h2 : k < m.length), k < j → V.cmp l[k] m[k] = 0) ∧ Below w.heap.size w wr) (fun i _ => l.length - (intOf i).toNat)
    case atStart => exact ⟨0, Nat.zero_le _, rfl, fun k _ _ hk => by omega, Below.refl _ _⟩
    case round =>
      obtain ⟨j, hj, rfl, hz, hb⟩ := hrel
      have HH := Lib.hid hz
      clear hz
      by_cases hlt : j < l.length
      · have hlt2 : j < m.length := by have := HL.out; omega
        obtain ⟨g, off, A', cap', rfl, g1, g2, g3, ⟨c0, c1, c2, c3, c4⟩, g5⟩ := Vs.at_get j hlt (Vs.at_below HA.out hb (Nat.le_refl _))
        obtain ⟨g', off2, A2', cap2', rfl, g12, g22, g32, ⟨d0, d1, d2, d3, d4⟩, g52⟩ := Vs.at_get j hlt2 (Vs.at_below HB.out hb (Nat.le_refl _))
        have HJ := Lib.hid (HS.out j hlt hlt2 HH.out)
        have hbs := hb.size
        have hg2 : g' < wr.heap.size := by omega
        go_wp2_with fail
        refine (HC.out j hlt hlt2 A' A2' cap' cap2' _ (Vs.at_more (Nat.le_refl _) (by simp; omega) _ _ (Vs.at_alloc (Vs.at_alloc g5 hb.size _) (by simp; omega) _)) (Vs.at_more (Nat.le_refl _) (by simp; omega) _ _ (Vs.at_alloc (Vs.at_alloc g52 hb.size _) (by simp; omega) _))).mono ?_
        rintro e w1 ⟨rfl, hb1⟩
        have hbw : Below w.heap.size w w1 := ((hb.alloc hb.size _).alloc (by simp; omega) _).trans (hb1.mono (by simp; omega))
        clear c0 c1 c2 c3 c4 d0 d1 d2 d3 d4
        by_cases h0 : V.cmp l[j] m[j] = 0
        · have H0 := Lib.hid h0
          rw [show V.same l[j] m[j] = true from decide_eq_true h0]
          clear h0
          go_wp2_with fail
          go_roundw
          case rel => exact ⟨j + 1, by omega, by go_num, fun k h1 h2 hk => by
            by_cases hk2 : k = j
            · subst hk2; exact H0.out
            · exact HH.out k h1 h2 (by omega), hbw⟩
          case measure => simp [intOf]; omega
        · rw [show V.same l[j] m[j] = false from decide_eq_false h0]
          go_wp2_with fail
          go_ret
          exact ⟨ret_bool (by unfold Vs.same; rw [HJ.out h0]; exact (decide_eq_false fun h => h0 h.2).symm), hbw⟩
      · obtain rfl : j = l.length := by omega
        go_wp2_with fail
        go_ret
        exact ⟨ret_bool (by unfold Vs.same; exact (decide_eq_true ⟨HL.out, HN.out fun k h1 h2 => HH.out k h1 h2 h1⟩).symm), hb⟩
  · have HL := Lib.hid hlen
    go_enter Tryd.func150, Tryd.ntmps150
    go_wp2_with fail
    go_ret
    exact ⟨ret_bool (by unfold Vs.same; exact (decide_eq_false fun h => HL.out h.1).symm), Below.refl _ _⟩

set_option maxHeartbeats 4000000 in
theorem implSame_step (a : V) (hk : ∀ i (h : i < a.kids.length), ImplSameSaid a.kids[i]) : ImplSameSaid a := by
  intro b A B ca cb w hn hm hat hbt
  rw [V.nodes_eq] at hn hm
  have HC := Lib.hid (sameFunc a.kids b.kids hk)
  clear hk
  have HA := Lib.hid hat
  have HB := Lib.hid hbt
  clear hat hbt
  unfold V.agg
  have HN : ∀ h : V.ord a b ≠ 0, V.same a b = false := V.same_no
  have HO := Lib.hid (V.ord_iff a b)
  have HNN := Lib.hid HN
  clear HN
  by_cases h1 : (a.k == b.k) = true
  · by_cases h2 : (a.n == b.n) = true
    · by_cases h3 : (a.e == b.e) = true
      · by_cases h4 : (a.s.toList == b.s.toList) = true
        · have HY := Lib.hid (V.same_yes (eq_of_beq h1) (eq_of_beq h2) (eq_of_beq h3) (text_eq h4))
          go_enter Tryd.func138, Tryd.ntmps138
          go_wp2_with fail
          obtain ⟨w2, hw2, Ba, Bb, b1, z2⟩ := two_new w 34 34 #[.int .i64 a.k, .int .i64 a.n, .int .i64 a.e, .string a.s, .slice A a.kids.length ca] #[.int .i64 b.k, .int .i64 b.n, .int .i64 b.e, .string b.s, .slice B b.kids.length cb]
          rw [← hw2]
          clear hw2
          refine (HC.out A B ca cb w2 (by omega) (by omega) (Vs.at_more (Nat.le_refl _) b1.size _ _ (Vs.at_below HA.out b1 (Nat.le_refl _))) (Vs.at_more (Nat.le_refl _) b1.size _ _ (Vs.at_below HB.out b1 (Nat.le_refl _)))).mono ?_
          rintro e w4 ⟨rfl, hb4⟩
          have b6 := b1.trans (hb4.mono b1.size)
          go_wp2_with fail
          go_ret
          exact ⟨ret_bool (by rw [HY.out]), b6⟩
        · have HY := Lib.hid (HNN.out fun h => h4 (by rw [(HO.out.1 h).2.2.2.1]; exact beq_self_eq_true _))
          have h4' : (a.s.toList == b.s.toList) = false := by simpa using h4
          clear h4
          go_enter Tryd.func138, Tryd.ntmps138
          go_wp2_with fail
          go_ret
          exact ⟨ret_bool (by rw [HY.out]), ((Below.refl _ w).alloc (Nat.le_refl _) _).alloc (by simp) _⟩
      · have HY := Lib.hid (HNN.out fun h => h3 (by rw [(HO.out.1 h).2.2.1]; exact beq_self_eq_true _))
        have h3' : (a.e == b.e) = false := by simpa using h3
        clear h3
        go_enter Tryd.func138, Tryd.ntmps138
        go_wp2_with fail
        go_ret
        exact ⟨ret_bool (by rw [HY.out]), ((Below.refl _ w).alloc (Nat.le_refl _) _).alloc (by simp) _⟩
    · have HY := Lib.hid (HNN.out fun h => h2 (by rw [(HO.out.1 h).2.1]; exact beq_self_eq_true _))
      have h2' : (a.n == b.n) = false := by simpa using h2
      clear h2
      go_enter Tryd.func138, Tryd.ntmps138
      go_wp2_with fail
      go_ret
      exact ⟨ret_bool (by rw [HY.out]), ((Below.refl _ w).alloc (Nat.le_refl _) _).alloc (by simp) _⟩
  · have HY := Lib.hid (HNN.out fun h => h1 (by rw [(HO.out.1 h).1]; exact beq_self_eq_true _))
    have h1' : (a.k == b.k) = false := by simpa using h1
    clear h1
    go_enter Tryd.func138, Tryd.ntmps138
    go_wp2_with fail
    go_ret
    exact ⟨ret_bool (by rw [HY.out]), ((Below.refl _ w).alloc (Nat.le_refl _) _).alloc (by simp) _⟩
theorem implSame (a : V) : ImplSameSaid a := V.all implSame_step a
end Go.Proofs.YtbflkcldjjpioaaDoor
