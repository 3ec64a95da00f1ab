/-
  The program's Compare.
-/
import Derived.Test.YtlfiaccpihjldaaOrd
import Derived.Test.YtlfiaccpihjldaaImplLess
import Derived.Shelf.Abstract
import Derived.StillTailTactics
namespace Go.Proofs.Ytlfiaccpihjldaa
open Go.RowKit
set_option linter.unusedVariables false
set_option linter.unusedSimpArgs false

def ImplCmpSaid (a : V) : Prop := ∀ (b : V) (A B : Option Addr) (ca cb : Nat) (w : World), a.nodes ≤ 1048577 → b.nodes ≤ 1048577 → Vs.at_ w 0 w.heap.size a.kids A → Vs.at_ w 0 w.heap.size b.kids B →
    Calls Try.prog 25 #[a.agg A ca, b.agg B cb] w fun e w' => e = .returned (.int .i64 (V.cmp a b)) ∧ Below w.heap.size w w'

/-- What is held while two rows are compared. -/
theorem cmpEnters : ∀ (args : Array Value) (w : World), (callFunc 25 args).run Try.prog w = .ok (.enter 25 args) w :=
  enters_of Try.func25 (by kernel_rfl) rfl

set_option maxHeartbeats 4000000 in
theorem cmpFunc (l m : List V) (hk : ∀ i (h : i < l.length), ImplCmpSaid l[i]) (A B : Option Addr) (ca cb : Nat) (w : World) (hlen : l.length = m.length) (hn : Vs.nodes l ≤ 1048576) (hm : Vs.nodes m ≤ 1048576) (hat : Vs.at_ w 0 w.heap.size l A) (hbt : Vs.at_ w 0 w.heap.size m B) :
    Calls Try.prog 43 #[.slice A l.length ca, .slice B m.length cb, .func (Fn.func 25) #[] #[]] w fun e w' => e = .returned (.int .i64 (Vs.cmp l m)) ∧ Below w.heap.size w w' := by
  have hl : l.length ≤ 1048576 := by have := Vs.len_nodes l; omega
  have HK := fun (i : Nat) (h : i < l.length) (h2 : i < m.length) (A' B' : Option Addr) (c c' : Nat) (w' : World) (h1 : Vs.at_ w' 0 w'.heap.size (l[i]).kids A') (h2' : Vs.at_ w' 0 w'.heap.size (m[i]).kids B') => hk i h m[i] A' B' c c' w' (by have := Vs.nodes_get i h; omega) (by have := Vs.nodes_get i h2; omega) h1 h2'
  have HC := Lib.hid HK
  clear HK hk
  have HA := Lib.hid hat
  have HB := Lib.hid hbt
  have HL := Lib.hid hlen
  have HS := Lib.hid (Vs.cmp_first l m)
  have HN := Lib.hid (Vs.cmp_none l m)
  have hE := cmpEnters
  clear hat hbt
  rw [← hlen]
  clear hlen
  go_enter Try.func43, Try.ntmps43
  go_wp2_with fail
  go_loopw [13] (fun i wr => ∃ j : Nat, j ≤ l.length ∧ i = .int .i64 j ∧ (∀ k (h1 : k < l.length) (h2 : k < m.length), k < j → V.cmp l[k] m[k] = 0) ∧ Below w.heap.size w wr) (fun i _ => l.length - (intOf i).toNat)
  case atStart => exact ⟨0, Nat.zero_le _, rfl, fun k _ _ hk => by omega, Below.refl _ _⟩
  case round =>
    obtain ⟨j, hj, rfl, hz, hb⟩ := hrel
    have HH := Lib.hid hz
    clear hz
    by_cases hlt : j < l.length
    · have hlt2 : j < m.length := by have := HL.out; omega
      obtain ⟨g, off, A', cap', rfl, g1, g2, g3, ⟨c0, c1, c2, c3, c4⟩, g5⟩ := Vs.at_get j hlt (Vs.at_below HA.out hb (Nat.le_refl _))
      obtain ⟨g', off2, A2', cap2', rfl, g12, g22, g32, ⟨d0, d1, d2, d3, d4⟩, g52⟩ := Vs.at_get j hlt2 (Vs.at_below HB.out hb (Nat.le_refl _))
      have HJ := Lib.hid (HS.out j hlt hlt2 HH.out)
      have hbs := hb.size
      have hg2 : g' < wr.heap.size := by omega
      go_wp2_with fail
      refine (HC.out j hlt hlt2 A' A2' cap' cap2' _ (Vs.at_more (Nat.le_refl _) (by simp; omega) _ _ (Vs.at_alloc (Vs.at_alloc g5 hb.size _) (by simp; omega) _)) (Vs.at_more (Nat.le_refl _) (by simp; omega) _ _ (Vs.at_alloc (Vs.at_alloc g52 hb.size _) (by simp; omega) _))).mono ?_
      rintro e w1 ⟨rfl, hb1⟩
      have hbw : Below w.heap.size w w1 := ((hb.alloc hb.size _).alloc (by simp; omega) _).trans (hb1.mono (by simp; omega))
      clear c0 c1 c2 c3 c4 d0 d1 d2 d3 d4
      by_cases h0 : V.cmp l[j] m[j] = 0
      · have H0 := Lib.hid h0
        rw [h0]
        clear h0
        go_wp2_with fail
        go_roundw
        case rel => exact ⟨j + 1, by omega, by go_num, fun k h1 h2 hk => by
          by_cases hk2 : k = j
          · subst hk2; exact H0.out
          · exact HH.out k h1 h2 (by omega), hbw⟩
        case measure => simp [intOf]; omega
      · go_wp2_with fail
        go_ret
        exact ⟨ret_num (by rw [HJ.out h0]), hbw⟩
    · obtain rfl : j = l.length := by omega
      go_wp2_with fail
      go_ret
      exact ⟨ret_num (HN.out fun k h1 h2 => HH.out k h1 h2 h1).symm, hb⟩

set_option maxHeartbeats 4000000 in
theorem implCmp_step (a : V) (hk : ∀ i (h : i < a.kids.length), ImplCmpSaid a.kids[i]) : ImplCmpSaid a := by
  intro b A B ca cb w hn hm hat hbt
  rw [V.nodes_eq] at hn hm
  have hl : a.kids.length ≤ 1048576 := by have := Vs.len_nodes a.kids; omega
  have hl2 : b.kids.length ≤ 1048576 := by have := Vs.len_nodes b.kids; omega
  have HC := Lib.hid (cmpFunc a.kids b.kids hk)
  clear hk
  have HA := Lib.hid hat
  have HB := Lib.hid hbt
  clear hat hbt
  unfold V.agg
  go_enter Try.func25, Try.ntmps25
  go_wp2_with fail
  obtain ⟨w2, hw2, Ba, Bb, b1, z2⟩ := two_new w 29 29 #[.int .i64 a.k, .int .i64 a.n, .int .i64 a.e, .string a.s, .slice A a.kids.length ca] #[.int .i64 b.k, .int .i64 b.n, .int .i64 b.e, .string b.s, .slice B b.kids.length cb]
  rw [← hw2]
  clear hw2
  obtain ⟨p0, p1, p2, p3, p4⟩ := Ba.five
  obtain ⟨q0, q1, q2, q3, q4⟩ := Bb.five
  refine wp_region_still_tail 27 (by kernel_rfl) (by kernel_rfl) ?_
  simp only [List.take_succ_cons, List.take_zero, List.drop_succ_cons, List.drop_zero]
  still_step; still_step; still_step; still_step
  still_call (cmpInt _ _ _)
  still_step; still_step; still_step; still_step
  still_call (cmpInt _ _ _)
  still_step; still_step; still_step; still_step
  still_call (cmpInt _ _ _)
  still_step; still_step; still_step; still_step
  still_call (cmpText _ _ _)
  still_step; still_step; still_step; still_step; still_step; still_step
  still_call (cmpInt _ _ _)
  refine wpStill_nil ?_
  change wpList _ _ _ _ _ w2.drew
  clear p0 p1 p2 p3 p4 q0 q1 q2 q3 q4
  have BO : Blk (w2.alloc (.cells (ordCells a b) 3)).drew w2.heap.size 3 (ordCells a b) := (Blk.new w2 _ _).drew
  have hO := ordCells_at BO
  rw [z2] at hO
  have a4 : (w2.alloc (.cells (ordCells a b) 3)).drew.cell? ⟨w.heap.size, 4, none⟩ = some (.slice A a.kids.length ca) := ((Ba.alloc _).drew).cell 4
  have b4 : (w2.alloc (.cells (ordCells a b) 3)).drew.cell? ⟨w.heap.size + 1, 4, none⟩ = some (.slice B b.kids.length cb) := ((Bb.alloc _).drew).cell 4
  have b5 : Below w.heap.size w (w2.alloc (.cells (ordCells a b) 3)).drew := (b1.alloc b1.size _).drew
  clear Ba Bb b1
  have HO := Lib.hid hO
  clear hO
  have hz5 : w.heap.size ≤ (w2.alloc (.cells (ordCells a b) 3)).drew.heap.size := b5.size
  have HZ := Lib.hid hz5
  clear hz5
  go_wp2_with fail
  change Calls _ _ _ (w2.alloc (.cells (ordCells a b) 3)).drew _
  generalize (w2.alloc (.cells (ordCells a b) 3)).drew = w3 at *
  refine (cmpOr (ordAt a b) 5 5 (w.heap.size + 2) w3 (by omega) HO.out).mono ?_
  rintro e wx ⟨rfl, rfl⟩
  rw [show orN (ordAt a b) 5 = V.ord a b from rfl]
  by_cases h0 : V.ord a b = 0
  · have HL := Lib.hid (V.ord_len h0)
    have HQ := Lib.hid (V.cmp_zero h0)
    rw [h0]
    clear h0
    go_wp2_with fail
    refine (HC.out A B ca cb wx HL.out (by omega) (by omega) (Vs.at_more (Nat.le_refl _) HZ.out _ _ (Vs.at_below HA.out b5 (Nat.le_refl _))) (Vs.at_more (Nat.le_refl _) HZ.out _ _ (Vs.at_below HB.out b5 (Nat.le_refl _)))).mono ?_
    rintro e w4 ⟨rfl, hb4⟩
    have b6 := b5.trans (hb4.mono HZ.out)
    go_wp2_with fail
    go_ret
    exact ⟨ret_num (by rw [HQ.out]), b6⟩
  · have HQ := Lib.hid (V.cmp_ord h0)
    go_wp2_with fail
    go_ret
    exact ⟨ret_num (by rw [HQ.out]), b5⟩
theorem implCmp (a : V) : ImplCmpSaid a := V.all implCmp_step a
end Go.Proofs.Ytlfiaccpihjldaa
