/-
  The reference's Compare.
-/
import Derived.Test.YtlfiaccpihjldaaDoorOrd
import Derived.Test.YtlfiaccpihjldaaDoorSpecLess
import Derived.StillTailTactics
namespace Go.Proofs.YtlfiaccpihjldaaDoor
open Go.RowKit
set_option linter.unusedVariables false
set_option maxRecDepth 100000
set_option linter.unusedSimpArgs false

def SpecCmpSaid (a : V) : Prop := ∀ (b : V) (A B : Option Addr) (ca cb : Nat) (w : World), a.nodes ≤ 1048577 → b.nodes ≤ 1048577 → Vs.at_ w 0 w.heap.size a.kids A → Vs.at_ w 0 w.heap.size b.kids B →
    Calls Tryd.prog 27 #[a.agg A ca, b.agg B cb] w fun e w' => e = .returned (.int .i64 (V.cmp a b)) ∧ Below w.heap.size w w'

/-- The two values lie in their blocks. -/
def TwoIn (w : World) (a b : V) (A B : Option Addr) (ca cb : Nat) (wr : World) : Prop :=
  Blk wr w.heap.size 29 #[.int .i64 a.k, .int .i64 a.n, .int .i64 a.e, .string a.s, .slice A a.kids.length ca] ∧
  Blk wr (w.heap.size + 1) 29 #[.int .i64 b.k, .int .i64 b.n, .int .i64 b.e, .string b.s, .slice B b.kids.length cb] ∧ Below w.heap.size w wr

set_option maxHeartbeats 4000000 in
theorem specCmp_step (a : V) (hk : ∀ i (h : i < a.kids.length), SpecCmpSaid a.kids[i]) : SpecCmpSaid a := by
  intro b A B ca cb w hn hm hat hbt
  rw [V.nodes_eq] at hn hm
  have hl : a.kids.length ≤ 1048576 := by have := Vs.len_nodes a.kids; omega
  have hl2 : b.kids.length ≤ 1048576 := by have := Vs.len_nodes b.kids; omega
  have HK := fun (i : Nat) (h : i < a.kids.length) (h2 : i < b.kids.length) (A' B' : Option Addr) (c c' : Nat) (w' : World) (h1 : Vs.at_ w' 0 w'.heap.size (a.kids[i]).kids A') (h2' : Vs.at_ w' 0 w'.heap.size (b.kids[i]).kids B') => hk i h b.kids[i] A' B' c c' w' (by have := Vs.nodes_get i h; omega) (by have := Vs.nodes_get i h2; omega) h1 h2'
  have HC := Lib.hid HK
  clear HK hk
  have HA := Lib.hid hat
  have HB := Lib.hid hbt
  have HF := Lib.hid (orN_first (ordAt a b) 5)
  have HZ := Lib.hid (orN_zero (ordAt a b) 5)
  clear hat hbt
  unfold V.agg
  go_enter Tryd.func27, Tryd.ntmps27
  go_wp2_with fail
  obtain ⟨w2, hw2, Ba, Bb, b1, z2⟩ := two_new w 29 29 #[.int .i64 a.k, .int .i64 a.n, .int .i64 a.e, .string a.s, .slice A a.kids.length ca] #[.int .i64 b.k, .int .i64 b.n, .int .i64 b.e, .string b.s, .slice B b.kids.length cb]
  rw [← hw2]
  clear hw2
  obtain ⟨p0, p1, p2, p3, p4⟩ := Ba.five
  obtain ⟨q0, q1, q2, q3, q4⟩ := Bb.five
  refine wp_region_still_tail 27 (by kernel_rfl) (by kernel_rfl) ?_
  simp only [List.take_succ_cons, List.take_zero, List.drop_succ_cons, List.drop_zero]
  still_step; still_step; still_step; still_step
  still_call (specLess _ _ _)
  still_step; still_step; still_step; still_step
  still_call (specLess _ _ _)
  still_step; still_step; still_step; still_step
  still_call (specLess _ _ _)
  still_step; still_step; still_step; still_step
  still_call (specTexts _ _ _)
  still_step; still_step; still_step; still_step; still_step; still_step
  still_call (specLess _ _ _)
  refine wpStill_nil ?_
  change wpList _ _ _ _ _ w2.drew
  clear p0 p1 p2 p3 p4 q0 q1 q2 q3 q4
  have BO : Blk (w2.alloc (.cells (ordCells a b) 3)).drew w2.heap.size 3 (ordCells a b) := (Blk.new w2 _ _).drew
  have TW : TwoIn w a b A B ca cb (w2.alloc (.cells (ordCells a b) 3)).drew := ⟨(Ba.alloc _).drew, (Bb.alloc _).drew, (b1.alloc b1.size _).drew⟩
  clear Ba Bb b1
  go_wp2_with fail
  go_loopw [6] (fun i wr => ∃ j : Nat, j ≤ 5 ∧ i = .int .i64 j ∧ (∀ k, k < j → ordAt a b k = 0) ∧ Blk wr (w.heap.size + 2) 3 (ordCells a b) ∧ TwoIn w a b A B ca cb wr) (fun i _ => 5 - (intOf i).toNat)
  case atStart => exact ⟨0, Nat.zero_le _, rfl, fun k hk => by omega, by rw [← z2]; exact BO, TW⟩
  case round =>
    obtain ⟨j, hj, rfl, hz, BO2, TW2⟩ := hrel
    clear BO TW
    have HH := Lib.hid hz
    clear hz
    by_cases hlt : j < 5
    · have c0 := ordCells_at BO2 j hlt
      by_cases h0 : ordAt a b j = 0
      · have H0 := Lib.hid h0
        rw [h0] at c0
        clear h0
        go_wp2_with fail
        go_roundw
        case rel => exact ⟨j + 1, by omega, by go_num, fun k hk => by
          by_cases hk2 : k = j
          · subst hk2; exact H0.out
          · exact HH.out k (by omega), BO2, TW2⟩
        case measure => simp [intOf]; omega
      · go_wp2_with fail
        go_ret
        have h1 := HF.out j HH.out hlt h0
        exact ⟨ret_num (by rw [V.cmp_ord (a := a) (b := b) (by unfold V.ord; rw [h1]; exact h0)]; unfold V.ord; rw [h1]), TW2.2.2⟩
    · obtain rfl : j = 5 := by omega
      rw [show ((5 : Nat) : Int) = 5 from rfl]
      have hz0 : V.ord a b = 0 := HZ.out HH.out
      have hlen := V.ord_len hz0
      have HL := Lib.hid hlen
      have HQ := Lib.hid (V.cmp_zero hz0)
      have HS := Lib.hid (Vs.cmp_first a.kids b.kids)
      have HN := Lib.hid (Vs.cmp_none a.kids b.kids)
      clear HH HF HZ hz0 hlen BO2
      go_wp2_with fail
      go_loopw [7, 8] (fun i _ wr => ∃ j : Nat, j ≤ a.kids.length ∧ i = .int .i64 j ∧ (∀ k (h1 : k < a.kids.length) (h2 : k < b.kids.length), k < j → V.cmp a.kids[k] b.kids[k] = 0) ∧ TwoIn w a b A B ca cb wr) (fun i _ _ => a.kids.length - (intOf i).toNat)
      case atStart => exact ⟨0, Nat.zero_le _, rfl, fun k _ _ hk => by omega, TW2⟩
      case round =>
        obtain ⟨j, hj, rfl, hz, Ba, Bb, hb⟩ := hrel
        have HH := Lib.hid hz
        clear hz TW2
        by_cases hlt : j < a.kids.length
        · have hlt2 : j < b.kids.length := by have := HL.out; omega
          have a4 : wr.cell? ⟨w.heap.size, 4, none⟩ = some (.slice A a.kids.length ca) := Ba.cell 4
          have b4 : wr.cell? ⟨w.heap.size + 1, 4, none⟩ = some (.slice B b.kids.length cb) := Bb.cell 4
          obtain ⟨g, off, A', cap', rfl, g1, g2, g3, ⟨c0, c1, c2, c3, c4⟩, g5⟩ := Vs.at_get j hlt (Vs.at_below HA.out hb (Nat.le_refl _))
          obtain ⟨g', off2, A2', cap2', rfl, g12, g22, g32, ⟨d0, d1, d2, d3, d4⟩, g52⟩ := Vs.at_get j hlt2 (Vs.at_below HB.out hb (Nat.le_refl _))
          have HJ := Lib.hid (HS.out j hlt hlt2 HH.out)
          go_wp2_with fail
          go_still_tail 10, (by kernel_rfl)
          change wpList _ _ _ _ _ wr.drew
          go_wp2_with fail
          refine (HC.out j hlt hlt2 A' A2' cap' cap2' wr.drew (Vs.at_more (Nat.le_refl _) hb.size _ _ (Vs.at_drew g5)) (Vs.at_more (Nat.le_refl _) hb.size _ _ (Vs.at_drew g52))).mono ?_
          rintro e w1 ⟨rfl, hb1⟩
          have hbw : Below w.heap.size w w1 := hb.drew.trans (hb1.mono hb.size)
          have hz1 : w.heap.size + 1 < wr.heap.size := Bb.lt
          have TW3 : TwoIn w a b (some ⟨g, off, none⟩) (some ⟨g', off2, none⟩) ca cb w1 := ⟨(Ba.drew).below hb1 (by show w.heap.size < wr.heap.size; omega), (Bb.drew).below hb1 hz1, hbw⟩
          clear c0 c1 c2 c3 c4 d0 d1 d2 d3 d4 a4 b4
          by_cases h0 : V.cmp a.kids[j] b.kids[j] = 0
          · have H0 := Lib.hid h0
            rw [h0]
            clear h0
            go_wp2_with fail
            go_roundw
            case rel => exact ⟨j + 1, by omega, by go_num, fun k h1 h2 hk => by
              by_cases hk2 : k = j
              · subst hk2; exact H0.out
              · exact HH.out k h1 h2 (by omega), TW3⟩
            case measure => simp [intOf]; omega
          · go_wp2_with fail
            go_ret
            exact ⟨ret_num (by rw [HQ.out, HJ.out h0]), hbw⟩
        · obtain rfl : j = a.kids.length := by omega
          have a4 : wr.cell? ⟨w.heap.size, 4, none⟩ = some (.slice A a.kids.length ca) := Ba.cell 4
          go_wp2_with fail
          go_ret
          exact ⟨ret_num (by rw [HQ.out]; exact (HN.out fun k h1 h2 => HH.out k h1 h2 h1).symm), hb⟩
theorem specCmp (a : V) : SpecCmpSaid a := V.all specCmp_step a
end Go.Proofs.YtlfiaccpihjldaaDoor
