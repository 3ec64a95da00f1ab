/-
  The texts on which the last one leans, part 5: SpecCmp, SpecSame, Big, RightJ, PutSignS, GetSign, SignsS, Tabs, Signs, RightN, RightN4, RightK, RightP, RightV, RightS, RightO, RightR, KeepT, RightW.
-/
import Derived.Test.YtcjamnfboifjeaaDoorPLFnCompared
import Derived.StillTailTactics
import Derived.BigQuiet
import Derived.Deep.RegionHeld3
import Derived.Shelf.Unicode.DecodeSlow
import Derived.Test.YtcjamnfboifjeaaDoorShelfV
import Derived.RegionTactic
import Derived.BigRegion
import Derived.ChangeAlike
import Derived.OneCell
import Derived.Shelf.Abstract
/-
  The reference's Compare.
-/
namespace Go.Proofs.YtcjamnfboifjeaaDoor
open Go.RowKit
set_option linter.unusedVariables false
set_option maxRecDepth 100000
set_option linter.unusedSimpArgs false

def SpecCmpSaid (a : V) : Prop := ∀ (b : V) (A B : Option Addr) (ca cb : Nat) (w : World), a.nodes ≤ 1048577 → b.nodes ≤ 1048577 → Vs.at_ w 0 w.heap.size a.kids A → Vs.at_ w 0 w.heap.size b.kids B →
    Calls Tryd.prog 18 #[a.agg A ca, b.agg B cb] w fun e w' => e = .returned (.int .i64 (V.cmp a b)) ∧ Below w.heap.size w w'

/-- The two values lie in their blocks. -/
def TwoIn (w : World) (a b : V) (A B : Option Addr) (ca cb : Nat) (wr : World) : Prop :=
  Blk wr w.heap.size 28 #[.int .i64 a.k, .int .i64 a.n, .int .i64 a.e, .string a.s, .slice A a.kids.length ca] ∧
  Blk wr (w.heap.size + 1) 28 #[.int .i64 b.k, .int .i64 b.n, .int .i64 b.e, .string b.s, .slice B b.kids.length cb] ∧ Below w.heap.size w wr

set_option maxHeartbeats 4000000 in
theorem specCmp_step (a : V) (hk : ∀ i (h : i < a.kids.length), SpecCmpSaid a.kids[i]) : SpecCmpSaid a := by
  intro b A B ca cb w hn hm hat hbt
  rw [V.nodes_eq] at hn hm
  have hl : a.kids.length ≤ 1048576 := by have := Vs.len_nodes a.kids; omega
  have hl2 : b.kids.length ≤ 1048576 := by have := Vs.len_nodes b.kids; omega
  have HK := fun (i : Nat) (h : i < a.kids.length) (h2 : i < b.kids.length) (A' B' : Option Addr) (c c' : Nat) (w' : World) (h1 : Vs.at_ w' 0 w'.heap.size (a.kids[i]).kids A') (h2' : Vs.at_ w' 0 w'.heap.size (b.kids[i]).kids B') => hk i h b.kids[i] A' B' c c' w' (by have := Vs.nodes_get i h; omega) (by have := Vs.nodes_get i h2; omega) h1 h2'
  have HC := Lib.hid HK
  clear HK hk
  have HA := Lib.hid hat
  have HB := Lib.hid hbt
  have HF := Lib.hid (orN_first (ordAt a b) 5)
  have HZ := Lib.hid (orN_zero (ordAt a b) 5)
  clear hat hbt
  unfold V.agg
  go_enter Tryd.func18, Tryd.ntmps18
  go_wp2_with fail
  obtain ⟨w2, hw2, Ba, Bb, b1, z2⟩ := two_new w 28 28 #[.int .i64 a.k, .int .i64 a.n, .int .i64 a.e, .string a.s, .slice A a.kids.length ca] #[.int .i64 b.k, .int .i64 b.n, .int .i64 b.e, .string b.s, .slice B b.kids.length cb]
  rw [← hw2]
  clear hw2
  obtain ⟨p0, p1, p2, p3, p4⟩ := Ba.five
  obtain ⟨q0, q1, q2, q3, q4⟩ := Bb.five
  refine wp_region_still_tail 27 (by kernel_rfl) (by kernel_rfl) ?_
  simp only [List.take_succ_cons, List.take_zero, List.drop_succ_cons, List.drop_zero]
  still_step; still_step; still_step; still_step
  still_call (specLess _ _ _)
  still_step; still_step; still_step; still_step
  still_call (specLess _ _ _)
  still_step; still_step; still_step; still_step
  still_call (specLess _ _ _)
  still_step; still_step; still_step; still_step
  still_call (specTexts _ _ _)
  still_step; still_step; still_step; still_step; still_step; still_step
  still_call (specLess _ _ _)
  refine wpStill_nil ?_
  change wpList _ _ _ _ _ w2.drew
  clear p0 p1 p2 p3 p4 q0 q1 q2 q3 q4
  have BO : Blk (w2.alloc (.cells (ordCells a b) 3)).drew w2.heap.size 3 (ordCells a b) := (Blk.new w2 _ _).drew
  have TW : TwoIn w a b A B ca cb (w2.alloc (.cells (ordCells a b) 3)).drew := ⟨(Ba.alloc _).drew, (Bb.alloc _).drew, (b1.alloc b1.size _).drew⟩
  clear Ba Bb b1
  go_wp2_with fail
  go_loopw [6] (fun i wr => ∃ j : Nat, j ≤ 5 ∧ i = .int .i64 j ∧ (∀ k, k < j → ordAt a b k = 0) ∧ Blk wr (w.heap.size + 2) 3 (ordCells a b) ∧ TwoIn w a b A B ca cb wr) (fun i _ => 5 - (intOf i).toNat)
  case atStart => exact ⟨0, Nat.zero_le _, rfl, fun k hk => by omega, by rw [← z2]; exact BO, TW⟩
  case round =>
    obtain ⟨j, hj, rfl, hz, BO2, TW2⟩ := hrel
    clear BO TW
    have HH := Lib.hid hz
    clear hz
    by_cases hlt : j < 5
    · have c0 := ordCells_at BO2 j hlt
      by_cases h0 : ordAt a b j = 0
      · have H0 := Lib.hid h0
        rw [h0] at c0
        clear h0
        go_wp2_with fail
        go_roundw
        case rel => exact ⟨j + 1, by omega, by go_num, fun k hk => by
          by_cases hk2 : k = j
          · subst hk2; exact H0.out
          · exact HH.out k (by omega), BO2, TW2⟩
        case measure => simp [intOf]; omega
      · go_wp2_with fail
        go_ret
        have h1 := HF.out j HH.out hlt h0
        exact ⟨ret_num (by rw [V.cmp_ord (a := a) (b := b) (by unfold V.ord; rw [h1]; exact h0)]; unfold V.ord; rw [h1]), TW2.2.2⟩
    · obtain rfl : j = 5 := by omega
      rw [show ((5 : Nat) : Int) = 5 from rfl]
      have hz0 : V.ord a b = 0 := HZ.out HH.out
      have hlen := V.ord_len hz0
      have HL := Lib.hid hlen
      have HQ := Lib.hid (V.cmp_zero hz0)
      have HS := Lib.hid (Vs.cmp_first a.kids b.kids)
      have HN := Lib.hid (Vs.cmp_none a.kids b.kids)
      clear HH HF HZ hz0 hlen BO2
      go_wp2_with fail
      go_loopw [7, 8] (fun i _ wr => ∃ j : Nat, j ≤ a.kids.length ∧ i = .int .i64 j ∧ (∀ k (h1 : k < a.kids.length) (h2 : k < b.kids.length), k < j → V.cmp a.kids[k] b.kids[k] = 0) ∧ TwoIn w a b A B ca cb wr) (fun i _ _ => a.kids.length - (intOf i).toNat)
      case atStart => exact ⟨0, Nat.zero_le _, rfl, fun k _ _ hk => by omega, TW2⟩
      case round =>
        obtain ⟨j, hj, rfl, hz, Ba, Bb, hb⟩ := hrel
        have HH := Lib.hid hz
        clear hz TW2
        by_cases hlt : j < a.kids.length
        · have hlt2 : j < b.kids.length := by have := HL.out; omega
          have a4 : wr.cell? ⟨w.heap.size, 4, none⟩ = some (.slice A a.kids.length ca) := Ba.cell 4
          have b4 : wr.cell? ⟨w.heap.size + 1, 4, none⟩ = some (.slice B b.kids.length cb) := Bb.cell 4
          obtain ⟨g, off, A', cap', rfl, g1, g2, g3, ⟨c0, c1, c2, c3, c4⟩, g5⟩ := Vs.at_get j hlt (Vs.at_below HA.out hb (Nat.le_refl _))
          obtain ⟨g', off2, A2', cap2', rfl, g12, g22, g32, ⟨d0, d1, d2, d3, d4⟩, g52⟩ := Vs.at_get j hlt2 (Vs.at_below HB.out hb (Nat.le_refl _))
          have HJ := Lib.hid (HS.out j hlt hlt2 HH.out)
          go_wp2_with fail
          go_still_tail 10, (by kernel_rfl)
          change wpList _ _ _ _ _ wr.drew
          go_wp2_with fail
          refine (HC.out j hlt hlt2 A' A2' cap' cap2' wr.drew (Vs.at_more (Nat.le_refl _) hb.size _ _ (Vs.at_drew g5)) (Vs.at_more (Nat.le_refl _) hb.size _ _ (Vs.at_drew g52))).mono ?_
          rintro e w1 ⟨rfl, hb1⟩
          have hbw : Below w.heap.size w w1 := hb.drew.trans (hb1.mono hb.size)
          have hz1 : w.heap.size + 1 < wr.heap.size := Bb.lt
          have TW3 : TwoIn w a b (some ⟨g, off, none⟩) (some ⟨g', off2, none⟩) ca cb w1 := ⟨(Ba.drew).below hb1 (by show w.heap.size < wr.heap.size; omega), (Bb.drew).below hb1 hz1, hbw⟩
          clear c0 c1 c2 c3 c4 d0 d1 d2 d3 d4 a4 b4
          by_cases h0 : V.cmp a.kids[j] b.kids[j] = 0
          · have H0 := Lib.hid h0
            rw [h0]
            clear h0
            go_wp2_with fail
            go_roundw
            case rel => exact ⟨j + 1, by omega, by go_num, fun k h1 h2 hk => by
              by_cases hk2 : k = j
              · subst hk2; exact H0.out
              · exact HH.out k h1 h2 (by omega), TW3⟩
            case measure => simp [intOf]; omega
          · go_wp2_with fail
            go_ret
            exact ⟨ret_num (by rw [HQ.out, HJ.out h0]), hbw⟩
        · obtain rfl : j = a.kids.length := by omega
          have a4 : wr.cell? ⟨w.heap.size, 4, none⟩ = some (.slice A a.kids.length ca) := Ba.cell 4
          go_wp2_with fail
          go_ret
          exact ⟨ret_num (by rw [HQ.out]; exact (HN.out fun k h1 h2 => HH.out k h1 h2 h1).symm), hb⟩
theorem specCmp (a : V) : SpecCmpSaid a := V.all specCmp_step a
end Go.Proofs.YtcjamnfboifjeaaDoor

/-
  The reference's Same.
-/
namespace Go.Proofs.YtcjamnfboifjeaaDoor
open Go.RowKit
set_option linter.unusedVariables false
set_option maxRecDepth 100000
set_option linter.unusedSimpArgs false


set_option maxHeartbeats 2000000 in
theorem specSame (a b : V) (A B : Option Addr) (ca cb : Nat) (w : World) (hn : a.nodes ≤ 1048577) (hm : b.nodes ≤ 1048577) (hat : Vs.at_ w 0 w.heap.size a.kids A) (hbt : Vs.at_ w 0 w.heap.size b.kids B) :
    Calls Tryd.prog 20 #[a.agg A ca, b.agg B cb] w fun e w' => e = .returned (.bool (V.same a b)) ∧ Below w.heap.size w w' := by
  have HA := Lib.hid hat
  have HB := Lib.hid hbt
  clear hat hbt
  unfold V.agg
  go_enter Tryd.func20, Tryd.ntmps20
  go_wp2_with fail
  obtain ⟨w2, hw2, Ba, Bb, b1, z2⟩ := two_new w 28 28 #[.int .i64 a.k, .int .i64 a.n, .int .i64 a.e, .string a.s, .slice A a.kids.length ca] #[.int .i64 b.k, .int .i64 b.n, .int .i64 b.e, .string b.s, .slice B b.kids.length cb]
  rw [← hw2]
  clear hw2
  refine (specCmp a b A B ca cb w2 hn hm (Vs.at_more (Nat.le_refl _) b1.size _ _ (Vs.at_below HA.out b1 (Nat.le_refl _))) (Vs.at_more (Nat.le_refl _) b1.size _ _ (Vs.at_below HB.out b1 (Nat.le_refl _)))).mono ?_
  rintro e w3 ⟨rfl, hb3⟩
  go_wp2_with fail
  go_ret
  exact ⟨ret_bool (by unfold V.same; rfl), b1.trans (hb3.mono b1.size)⟩
end Go.Proofs.YtcjamnfboifjeaaDoor

/-
  What the drawn laws call: bytes that came in; whether they are many.
-/
namespace Go.Proofs.YtcjamnfboifjeaaDoor
open Go.RowKit
set_option linter.unusedVariables false
set_option linter.unusedSimpArgs false
set_option maxRecDepth 100000

theorem bytes_of : ∀ (l : List Int), (∀ z ∈ l, (Lit.int .u8 z).wf = true) → ∃ code : List UInt8, code.length = l.length ∧ l.map (Value.int .u8) = code.map bv
  | [], _ => ⟨[], rfl, rfl⟩
  | z :: l, h => by
    obtain ⟨code, h1, h2⟩ := bytes_of l (fun x hx => h x (List.mem_cons_of_mem _ hx))
    have hz := h z List.mem_cons_self
    have hr : 0 ≤ z ∧ z ≤ 255 := by simpa [Lit.wf, IntKind.min, IntKind.max, IntKind.signed, IntKind.bits] using hz
    refine ⟨UInt8.ofNat z.toNat :: code, by simp [h1], ?_⟩
    rw [List.map_cons, List.map_cons, h2]
    congr 1
    unfold bv
    congr 1
    rw [UInt8.toNat_ofNat']
    omega
theorem lawBig (A : Option Addr) (n c : Nat) (w : World) (h : n ≤ 1048576) : Calls Tryd.prog 13 #[.slice A n c] w fun e w' => e = .returned (.bool false) ∧ w' = w := by
  have h2 : ¬ (1048576 : Int) < (n : Int) := by omega
  go_enter Tryd.func13, Tryd.ntmps13
  go_wp2_with fail
  go_ret
  exact ⟨rfl, rfl⟩
theorem lawBigY (A : Option Addr) (n c : Nat) (w : World) (h : 1048576 < n) : Calls Tryd.prog 13 #[.slice A n c] w fun e w' => e = .returned (.bool true) ∧ w' = w := by
  have h2 : (1048576 : Int) < (n : Int) := by omega
  go_enter Tryd.func13, Tryd.ntmps13
  go_wp2_with fail
  go_ret
  exact ⟨rfl, rfl⟩
theorem row_of {w : World} {base : Nat} {e : TypeId} {o : Value} {n : Nat} {xs : List Value} (h : w.ownsRow base e 1 o n xs) : ∃ A c, o = .slice A n c := by
  rcases h.2 with ⟨rfl, rfl⟩ | ⟨g, c, cur, rfl, _⟩
  · exact ⟨none, 0, rfl⟩
  · exact ⟨_, _, rfl⟩
end Go.Proofs.YtcjamnfboifjeaaDoor

/-
  The program's tests of a value: a decimal number, a value but for its kids.
-/
namespace Go.Proofs.YtcjamnfboifjeaaDoor
open Go.RowKit
set_option linter.unusedVariables false
set_option maxRecDepth 100000

theorem tens_stepJ (n : Int) (k : Nat) (h : inR (n * 10)) : tens n (k + 1) = tens (n * 10) k := by
  conv => lhs; unfold tens
  rw [if_pos h]
theorem tens_stopJ (n : Int) (k : Nat) (h : ¬ inR (n * 10)) : tens n (k + 1) = none := by
  unfold tens
  rw [if_neg h]
theorem tup2f {a a' : Int} {b b' : Bool} (h1 : a = a') (h2 : b = b') : Ending.returned (.tuple #[.int .i64 a, .bool b]) = Ending.returned (.tuple #[.int .i64 a', .bool b']) := by rw [h1, h2]

set_option maxHeartbeats 1000000 in
theorem implFits (n : Int) (m : Nat) (w : World) (hn : inR n) (hm2 : m ≤ 1020) :
    Calls Tryd.prog 106 #[.int .i64 n, .int .i64 (m : Int)] w fun e w' => e = .returned (.tuple #[.int .i64 ((tens n m).getD 0), .bool (tens n m).isSome]) ∧ w = w' := by
  go_enter Tryd.func106, Tryd.ntmps106
  go_wp2_with fail
  go_loop [0, 1] (fun z i => ∃ (j : Nat) (x : Int), j ≤ m ∧ i = .int .i64 j ∧ z = .int .i64 x ∧ inR x ∧ tens n m = tens x j) (fun _ i => (intOf i).toNat)
  case atStart => exact ⟨m, n, by omega, rfl, rfl, hn, rfl⟩
  case round =>
    obtain ⟨j, x, hj, rfl, rfl, hx, ht⟩ := hrel
    have hr := hx
    unfold inR at hr
    by_cases hj0 : j = 0
    · subst hj0
      have HT : Hid (tens n m = some x) := Lib.hid ht
      clear ht hx
      go_wp2_with fail
      go_ret2
      exact ⟨tup2f (by rw [HT.out]; rfl) (by rw [HT.out]; rfl), rfl⟩
    by_cases hx0 : x = 0
    · subst hx0
      have HT : Hid (tens n m = some 0) := Lib.hid (ht.trans (tens_zero _))
      have hjp : 0 < j := by omega
      clear ht hx hj0
      go_wp2_with fail
      go_ret2
      exact ⟨tup2f (by rw [HT.out]; rfl) (by rw [HT.out]; rfl), rfl⟩
    · have hj1 : 0 < j := by omega
      have hx1 : (x != 0) = true := by simp; omega
      obtain ⟨k, rfl⟩ : ∃ k, j = k + 1 := ⟨j - 1, by omega⟩
      clear hj0 hx0
      by_cases h10 : inR (x * 10)
      · have HT := Lib.hid (ht.trans (tens_stepJ x k h10))
        have H10 := Lib.hid h10
        have hin := h10
        unfold inR at hin
        have c1 : decide (x > 922337203685477580) = false := decide_eq_false (by omega)
        have c2 : decide (x < -922337203685477580) = false := decide_eq_false (by omega)
        clear ht hx h10
        go_wp2_with fail
        go_round
        case rel => exact ⟨k, x * 10, by omega, by go_num, by go_num, H10.out, HT.out⟩
        case measure => simp [intOf]
      · have HT := Lib.hid (ht.trans (tens_stopJ x k h10))
        have hout : 922337203685477580 < x ∨ x < -922337203685477580 := by unfold inR at h10; omega
        rcases (show decide ((922337203685477580 : Int) < x) = true ∨ (decide ((922337203685477580 : Int) < x) = false ∧ decide (x < -922337203685477580) = true) by
          by_cases h : (922337203685477580 : Int) < x
          · left; exact decide_eq_true h
          · right; exact ⟨decide_eq_false h, decide_eq_true (by omega)⟩) with hc | hc
        all_goals
          clear ht hx h10 hout
          go_wp2_with fail
          go_ret2
          exact ⟨tup2f (by rw [HT.out]; rfl) (by rw [HT.out]; rfl), rfl⟩

theorem implFitsI (n e : Int) (w : World) (hn : inR n) (h0 : 0 < e) (hm2 : e ≤ 1020) :
    Calls Tryd.prog 106 #[.int .i64 n, .int .i64 e] w fun r w' => r = .returned (.tuple #[.int .i64 ((tens n e.toNat).getD 0), .bool (tens n e.toNat).isSome]) ∧ w = w' := by
  obtain ⟨m, rfl⟩ := Int.eq_ofNat_of_zero_le (show 0 ≤ e by omega)
  exact implFits n m w hn (by omega)
theorem decOk_false {n e : Int} (h : ¬ decOk n e) : false = decide (decOk n e) := (decide_eq_false h).symm
theorem decOk_neg {n e : Int} (h1 : -20 ≤ e) (h2 : e ≤ 20) (h3 : ¬ e = 0) (h4 : -999999999999999999 ≤ n) (h5 : n ≤ 999999999999999999) (h6 : (n.tmod 10 == 0) = false) (h7 : e ≤ 0) : true = decide (decOk n e) :=
  (decide_eq_true ⟨h1, h2, h3, h4, h5, by simpa using h6, fun h => by omega⟩).symm
theorem decOk_pos {n e : Int} (h1 : -20 ≤ e) (h2 : e ≤ 20) (h3 : ¬ e = 0) (h4 : -999999999999999999 ≤ n) (h5 : n ≤ 999999999999999999) (h6 : (n.tmod 10 == 0) = false) (h7 : 0 < e) : (tens n e.toNat).isNone = decide (decOk n e) := by
  rw [Bool.eq_iff_iff, decide_eq_true_iff]
  have h6' : Int.tmod n 10 ≠ 0 := by simpa using h6
  unfold decOk
  cases ht : tens n e.toNat with
  | none => simp [*]
  | some x => simp [*]

set_option maxHeartbeats 4000000 in
theorem implIsDec (v : V) (A : Option Addr) (cap : Nat) (w : World) :
    Calls Tryd.prog 95 #[v.agg A cap] w fun e w' => e = .returned (.bool (decide (decOk v.n v.e))) ∧ Below w.heap.size w w' := by
  unfold V.agg
  go_enter Tryd.func95, Tryd.ntmps95
  go_wp2_with (first | (go_at_call 97; go_in) | (go_at_call 106; refine (implFitsI v.n v.e _ (by unfold inR; omega) (by omega) (by omega)).mono ?_; rintro r w1 ⟨rfl, rfl⟩))
  all_goals go_ret
  all_goals refine ⟨ret_bool ?_, (Below.refl _ _).alloc (Nat.le_refl _) _⟩
  all_goals first
    | (refine decOk_false (fun h => ?_); obtain ⟨q1, q2, q3, q4, q5, q6, q7⟩ := h; first | omega | (simp_all; done))
    | exact decOk_neg (by omega) (by omega) (by omega) (by omega) (by omega) (by simp_all) (by omega)
    | exact decOk_pos (by omega) (by omega) (by omega) (by omega) (by omega) (by simp_all) (by omega)
end Go.Proofs.YtcjamnfboifjeaaDoor

/-
  PutSign: the bytes of a code point.
-/
namespace Go.Proofs.YtcjamnfboifjeaaDoor
open Go.RowKit
set_option linter.unusedVariables false

set_option maxHeartbeats 1000000 in
set_option maxRecDepth 100000 in
theorem specPutSign_1 (n : Nat) (w : World) (h : n < 128) :
    Calls Tryd.prog 114 #[.int .i64 n] w fun e w' => e = .returned (.string (Utf8.encode n)) ∧ Below w.heap.size w w' := by
  have hd0 : decide ((n : Int) ≤ 1114111) = true := by simp; omega
  have hd1 : decide (55296 ≤ (n : Int)) = false := by simp; omega
  have hd2 : decide ((n : Int) < 128) = true := by simp; omega
  have hl := lit1 (P := Tryd.prog) 34 9 5 Tryd.underlying34 Tryd.underlying5 Tryd.underlying9
  go_enter Tryd.func114, Tryd.ntmps114
  go_wp2_with go_in
  go_ret
  exact ⟨ret_eq (congrArg Value.string (enc1 n (by omega))), (Below.refl _ _).alloc (Nat.le_refl _) _⟩

set_option maxHeartbeats 1000000 in
set_option maxRecDepth 100000 in
theorem specPutSign_2 (n : Nat) (w : World) (h : 128 ≤ n ∧ n < 2048) :
    Calls Tryd.prog 114 #[.int .i64 n] w fun e w' => e = .returned (.string (Utf8.encode n)) ∧ Below w.heap.size w w' := by
  have hd0 : decide ((n : Int) ≤ 1114111) = true := by simp; omega
  have hd1 : decide (55296 ≤ (n : Int)) = false := by simp; omega
  have hd2 : decide ((n : Int) < 128) = false := by simp; omega
  have hd3 : decide ((n : Int) < 2048) = true := by simp; omega
  have hd4 : bits .and .i64 (n : Int) 63 = ((n % 64 : Nat) : Int) := and63 n (by omega)
  have hl := lit2 (P := Tryd.prog) 34 9 5 Tryd.underlying34 Tryd.underlying5 Tryd.underlying9
  go_enter Tryd.func114, Tryd.ntmps114
  go_wp2_with go_in
  go_ret
  exact ⟨ret_eq (congrArg Value.string (enc2 n (by omega))), (Below.refl _ _).alloc (Nat.le_refl _) _⟩

set_option maxHeartbeats 1000000 in
set_option maxRecDepth 100000 in
theorem specPutSign_3 (n : Nat) (w : World) (h : 2048 ≤ n ∧ n < 55296) :
    Calls Tryd.prog 114 #[.int .i64 n] w fun e w' => e = .returned (.string (Utf8.encode n)) ∧ Below w.heap.size w w' := by
  have hd0 : decide ((n : Int) ≤ 1114111) = true := by simp; omega
  have hd1 : decide (55296 ≤ (n : Int)) = false := by simp; omega
  have hd2 : decide ((n : Int) < 128) = false := by simp; omega
  have hd3 : decide ((n : Int) < 2048) = false := by simp; omega
  have hd4 : decide ((n : Int) < 65536) = true := by simp; omega
  have hd5 : bits .and .i64 (n : Int) 63 = ((n % 64 : Nat) : Int) := and63 n (by omega)
  have hd6 : bits .and .i64 ((n : Int) / 64) 63 = ((n / 64 % 64 : Nat) : Int) := and63d n 64 (by omega)
  have hl := lit3 (P := Tryd.prog) 34 9 5 Tryd.underlying34 Tryd.underlying5 Tryd.underlying9
  go_enter Tryd.func114, Tryd.ntmps114
  go_wp2_with go_in
  go_ret
  exact ⟨ret_eq (congrArg Value.string (enc3 n (by omega))), (Below.refl _ _).alloc (Nat.le_refl _) _⟩

set_option maxHeartbeats 1000000 in
set_option maxRecDepth 100000 in
theorem specPutSign_4 (n : Nat) (w : World) (h : 57343 < n ∧ n < 65536) :
    Calls Tryd.prog 114 #[.int .i64 n] w fun e w' => e = .returned (.string (Utf8.encode n)) ∧ Below w.heap.size w w' := by
  have hd0 : decide ((n : Int) ≤ 1114111) = true := by simp; omega
  have hd1 : decide (55296 ≤ (n : Int)) = true := by simp; omega
  have hd2 : decide ((n : Int) ≤ 57343) = false := by simp; omega
  have hd3 : decide ((n : Int) < 128) = false := by simp; omega
  have hd4 : decide ((n : Int) < 2048) = false := by simp; omega
  have hd5 : decide ((n : Int) < 65536) = true := by simp; omega
  have hd6 : bits .and .i64 (n : Int) 63 = ((n % 64 : Nat) : Int) := and63 n (by omega)
  have hd7 : bits .and .i64 ((n : Int) / 64) 63 = ((n / 64 % 64 : Nat) : Int) := and63d n 64 (by omega)
  have hl := lit3 (P := Tryd.prog) 34 9 5 Tryd.underlying34 Tryd.underlying5 Tryd.underlying9
  go_enter Tryd.func114, Tryd.ntmps114
  go_wp2_with go_in
  go_ret
  exact ⟨ret_eq (congrArg Value.string (enc3 n (by omega))), (Below.refl _ _).alloc (Nat.le_refl _) _⟩

set_option maxHeartbeats 1000000 in
set_option maxRecDepth 100000 in
theorem specPutSign_5 (n : Nat) (w : World) (h : 65536 ≤ n ∧ n < 1114112) :
    Calls Tryd.prog 114 #[.int .i64 n] w fun e w' => e = .returned (.string (Utf8.encode n)) ∧ Below w.heap.size w w' := by
  have hd0 : decide ((n : Int) ≤ 1114111) = true := by simp; omega
  have hd1 : decide (55296 ≤ (n : Int)) = true := by simp; omega
  have hd2 : decide ((n : Int) ≤ 57343) = false := by simp; omega
  have hd3 : decide ((n : Int) < 128) = false := by simp; omega
  have hd4 : decide ((n : Int) < 2048) = false := by simp; omega
  have hd5 : decide ((n : Int) < 65536) = false := by simp; omega
  have hd6 : bits .and .i64 (n : Int) 63 = ((n % 64 : Nat) : Int) := and63 n (by omega)
  have hd7 : bits .and .i64 ((n : Int) / 64) 63 = ((n / 64 % 64 : Nat) : Int) := and63d n 64 (by omega)
  have hd8 : bits .and .i64 ((n : Int) / 4096) 63 = ((n / 4096 % 64 : Nat) : Int) := and63d n 4096 (by omega)
  have hl := lit4 (P := Tryd.prog) 34 9 5 Tryd.underlying34 Tryd.underlying5 Tryd.underlying9
  go_enter Tryd.func114, Tryd.ntmps114
  go_wp2_with go_in
  go_ret
  exact ⟨ret_eq (congrArg Value.string (enc4 n (by omega))), (Below.refl _ _).alloc (Nat.le_refl _) _⟩

theorem specPutSign (n : Int) (w : World) (h0 : -9223372036854775808 ≤ n ∧ n ≤ 9223372036854775807) :
    Calls Tryd.prog 114 #[.int .i64 n] w fun e w' => e = .returned (.string (signB n)) ∧ Below w.heap.size w w' := by
  by_cases h : (0 ≤ n ∧ n < 55296) ∨ (57343 < n ∧ n ≤ 1114111)
  · have hs : signB n = Utf8.encode n := by unfold signB isSg; rw [if_pos (by simp; omega)]
    rw [hs]
    obtain ⟨n, rfl⟩ := Int.eq_ofNat_of_zero_le (show 0 ≤ n by omega)
    rcases (show n < 128 ∨ (128 ≤ n ∧ n < 2048) ∨ (2048 ≤ n ∧ n < 55296) ∨ (57343 < n ∧ n < 65536) ∨ (65536 ≤ n ∧ n < 1114112) by omega) with hc | hc | hc | hc | hc
    · exact specPutSign_1 n w hc
    · exact specPutSign_2 n w hc
    · exact specPutSign_3 n w hc
    · exact specPutSign_4 n w hc
    · exact specPutSign_5 n w hc
  · have hs : signB n = ⟨#[]⟩ := by unfold signB isSg; rw [if_neg (by simp; omega)]
    rw [hs]
    clear hs
    rcases (show n < 0 ∨ 1114111 < n ∨ (55296 ≤ n ∧ n ≤ 57343) by omega) with hc | hc | hc
    · clear h
      go_enter Tryd.func114, Tryd.ntmps114
      go_wp2_with go_in
      go_ret
      exact ⟨rfl, Below.refl _ _⟩
    · clear h
      have hd : decide (n ≤ 1114111) = false := by simp; omega
      go_enter Tryd.func114, Tryd.ntmps114
      go_wp2_with go_in
      go_ret
      exact ⟨rfl, Below.refl _ _⟩
    · clear h
      have hd : decide (n ≤ 1114111) = true := by simp; omega
      have hd2 : decide (n ≤ 57343) = true := by simp; omega
      go_enter Tryd.func114, Tryd.ntmps114
      go_wp2_with go_in
      go_ret
      exact ⟨rfl, Below.refl _ _⟩
end Go.Proofs.YtcjamnfboifjeaaDoor

/-
  GetSign of the reference: the sign at a place, as the model's own decoder reads it.
-/
namespace Go.Proofs.YtcjamnfboifjeaaDoor
open Go.RowKit
set_option linter.unusedVariables false

theorem and31 (n : Nat) (h : n < 9223372036854775808) : bits .and .i64 (n : Int) 31 = ((n % 32 : Nat) : Int) := by
  have h1 := ofInt_i64 n h
  have h2 := ofInt_i64 31 (by omega)
  show IntKind.i64.wrap ((BitVec.ofInt 64 (n : Int) &&& BitVec.ofInt 64 ((31 : Nat) : Int)).toNat : Int) = _
  rw [BitVec.toNat_and, h1, h2, Nat.and_two_pow_sub_one_eq_mod n 5, IntKind.wrap_i64]
  omega
theorem and15i (n : Nat) (h : n < 9223372036854775808) : bits .and .i64 (n : Int) 15 = ((n % 16 : Nat) : Int) := by
  have h1 := ofInt_i64 n h
  have h2 := ofInt_i64 15 (by omega)
  show IntKind.i64.wrap ((BitVec.ofInt 64 (n : Int) &&& BitVec.ofInt 64 ((15 : Nat) : Int)).toNat : Int) = _
  rw [BitVec.toNat_and, h1, h2, Nat.and_two_pow_sub_one_eq_mod n 4, IntKind.wrap_i64]
  omega
theorem and7i (n : Nat) (h : n < 9223372036854775808) : bits .and .i64 (n : Int) 7 = ((n % 8 : Nat) : Int) := by
  have h1 := ofInt_i64 n h
  have h2 := ofInt_i64 7 (by omega)
  show IntKind.i64.wrap ((BitVec.ofInt 64 (n : Int) &&& BitVec.ofInt 64 ((7 : Nat) : Int)).toNat : Int) = _
  rw [BitVec.toNat_and, h1, h2, Nat.and_two_pow_sub_one_eq_mod n 3, IntKind.wrap_i64]
  omega

set_option maxRecDepth 100000 in
theorem specMany (b : Nat) (hb : b < 256) (w : World) :
    Calls Tryd.prog 113 #[.int .i64 b] w fun e w' => e = .returned (.tuple #[.int .i64 (manyN b), .int .i64 (headN b)]) ∧ w = w' := by
  have e1 := and31 b (by omega)
  have e2 := and15i b (by omega)
  have e3 := and7i b (by omega)
  rcases (show b < 128 ∨ (128 ≤ b ∧ b < 192) ∨ (192 ≤ b ∧ b ≤ 223) ∨ (224 ≤ b ∧ b ≤ 239) ∨ (240 ≤ b ∧ b ≤ 247) ∨ (248 ≤ b) by omega) with h | h | h | h | h | h
  · have hm : manyN b = 1 ∧ headN b = b := by unfold manyN headN; rw [if_pos h, if_pos h]; exact ⟨rfl, rfl⟩
    rw [hm.1, hm.2]
    clear hm
    go_enter Tryd.func113, Tryd.ntmps113
    go_wp2_with go_in
    go_ret2
    exact ⟨rfl, rfl⟩
  · have hm : manyN b = 0 ∧ headN b = 0 := by
      unfold manyN headN
      rw [if_neg (by omega), if_neg (by omega), if_neg (by omega), if_neg (by omega), if_neg (by omega), if_neg (by omega), if_neg (by omega), if_neg (by omega)]; exact ⟨rfl, rfl⟩
    rw [hm.1, hm.2]
    clear hm
    go_enter Tryd.func113, Tryd.ntmps113
    go_wp2_with go_in
    go_ret2
    exact ⟨rfl, rfl⟩
  · have hm : manyN b = 2 ∧ headN b = b % 32 := by
      unfold manyN headN
      rw [if_neg (by omega), if_pos h, if_neg (by omega), if_pos h]; exact ⟨rfl, rfl⟩
    rw [hm.1, hm.2]
    clear hm
    go_enter Tryd.func113, Tryd.ntmps113
    go_wp2_with go_in
    go_ret2
    exact ⟨rfl, rfl⟩
  · have hm : manyN b = 3 ∧ headN b = b % 16 := by
      unfold manyN headN
      rw [if_neg (by omega), if_neg (by omega), if_pos h, if_neg (by omega), if_neg (by omega), if_pos h]; exact ⟨rfl, rfl⟩
    rw [hm.1, hm.2]
    clear hm
    go_enter Tryd.func113, Tryd.ntmps113
    go_wp2_with go_in
    go_ret2
    exact ⟨rfl, rfl⟩
  · have hm : manyN b = 4 ∧ headN b = b % 8 := by
      unfold manyN headN
      rw [if_neg (by omega), if_neg (by omega), if_neg (by omega), if_pos h, if_neg (by omega), if_neg (by omega), if_neg (by omega), if_pos h]; exact ⟨rfl, rfl⟩
    rw [hm.1, hm.2]
    clear hm
    go_enter Tryd.func113, Tryd.ntmps113
    go_wp2_with go_in
    go_ret2
    exact ⟨rfl, rfl⟩
  · have hm : manyN b = 0 ∧ headN b = 0 := by
      unfold manyN headN
      rw [if_neg (by omega), if_neg (by omega), if_neg (by omega), if_neg (by omega), if_neg (by omega), if_neg (by omega), if_neg (by omega), if_neg (by omega)]; exact ⟨rfl, rfl⟩
    rw [hm.1, hm.2]
    clear hm
    go_enter Tryd.func113, Tryd.ntmps113
    go_wp2_with go_in
    go_ret2
    exact ⟨rfl, rfl⟩

theorem gs_no {s : ByteArray} {i : Int} (h : ¬ gsOk s i) : gsN s i = -1 ∧ gsE s i = -1 := by
  unfold gsN gsE; rw [if_neg h, if_neg h]; exact ⟨rfl, rfl⟩
theorem gs_yes {s : ByteArray} {i : Int} (h : gsOk s i) : gsN s i = (Utf8.decode s i.toNat).1 ∧ gsE s i = i + (Utf8.decode s i.toNat).2 := by
  unfold gsN gsE; rw [if_pos h, if_pos h]; exact ⟨rfl, rfl⟩
theorem gs_yes' {s : ByteArray} {i : Nat} (h : gsOk s (i : Int)) : gsN s i = (Utf8.decode s i).1 ∧ gsE s i = (i : Int) + (Utf8.decode s i).2 := by
  have := gs_yes h
  rwa [Int.toNat_natCast] at this
theorem dec_w (s : ByteArray) (i : Nat) : (Utf8.decode s i).1 < 4294967296 ∧ 1 ≤ (Utf8.decode s i).2 ∧ (Utf8.decode s i).2 ≤ 4 := by
  rw [Lib.decode_at]
  have h0 := (s.get! i).toNat_lt
  have h1 := (s.get! (i + 1)).toNat_lt
  have h2 := (s.get! (i + 2)).toNat_lt
  have h3 := (s.get! (i + 3)).toNat_lt
  unfold Lib.decodeN
  repeat' split
  all_goals simp
  all_goals omega
theorem accN_step (s : ByteArray) (i k : Nat) (h : 1 ≤ k) (hk : i + k < s.size) : accN s i (k + 1 - 1) = accN s i (k - 1) * 64 + s[i + k].toNat % 64 := by
  obtain ⟨k, rfl⟩ : ∃ j, k = j + 1 := ⟨k - 1, by omega⟩
  rw [get_get! _ _ (by omega)]
  rfl
theorem tup2 {a a' b b' : Int} (h1 : a = a') (h2 : b = b') : Ending.returned (.tuple #[.int .i64 a, .int .i64 b]) = Ending.returned (.tuple #[.int .i64 a', .int .i64 b']) := by rw [h1, h2]

theorem sl2 (s : ByteArray) (i j : Nat) (h : i + j ≤ s.size) (hs : s.size ≤ 1048576) : (0 : Int) ≤ i ∧ (i : Int) ≤ (i : Int) + j ∧ (i : Int) + j ≤ s.size ∧ IntKind.i64.wrap ((i : Int) + j) = (i : Int) + j ∧ (0 : Int) ≤ (i : Int) + j ∧ ((i : Int) + j).toNat = i + j := by
  refine ⟨by omega, by omega, by omega, ?_, by omega, by omega⟩
  rw [IntKind.wrap_i64]; omega

set_option maxHeartbeats 1000000 in
theorem specGetSign (s : ByteArray) (i : Int) (w : World) (hs : s.size ≤ 1048576) (hi : -9223372036854775808 ≤ i ∧ i ≤ 9223372036854775807) :
    Calls Tryd.prog 111 #[.string s, .int .i64 i] w fun e w' => e = .returned (.tuple #[.int .i64 (gsN s i), .int .i64 (gsE s i)]) ∧ Below w.heap.size w w' := by
  by_cases hin : 0 ≤ i ∧ i < s.size
  · obtain ⟨h0, h1⟩ := hin
    obtain ⟨i, rfl⟩ := Int.eq_ofNat_of_zero_le h0
    have hlt : i < s.size := by omega
    have hu : s[i].toNat < 256 := UInt8.toNat_lt _
    have HG := Lib.hid (get_get! s i hlt)
    by_cases hno : manyN s[i].toNat = 0 ∨ s.size < i + manyN s[i].toNat
    · have HN := Lib.hid (gs_no (sgn_none s i (by rw [← HG.out]; exact hno)))
      rcases hno with hm | hm
      · have HM := Lib.hid hm
        clear hm
        go_enter Tryd.func111, Tryd.ntmps111
        go_wp2_with fail
        refine (specMany _ hu w).mono ?_
        rintro e w' ⟨rfl, rfl⟩
        rw [HM.out]
        go_wp2_with fail
        go_ret2
        exact ⟨tup2 HN.out.1.symm HN.out.2.symm, Below.refl _ _⟩
      · have hml := manyN_le s[i].toNat
        by_cases hm0 : manyN s[i].toNat = 0
        · have HM := Lib.hid hm0
          clear hm hm0
          go_enter Tryd.func111, Tryd.ntmps111
          go_wp2_with fail
          refine (specMany _ hu w).mono ?_
          rintro e w' ⟨rfl, rfl⟩
          rw [HM.out]
          go_wp2_with fail
          go_ret2
          exact ⟨tup2 HN.out.1.symm HN.out.2.symm, Below.refl _ _⟩
        · go_enter Tryd.func111, Tryd.ntmps111
          go_wp2_with fail
          refine (specMany _ hu w).mono ?_
          rintro e w' ⟨rfl, rfl⟩
          go_wp2_with fail
          all_goals go_ret2
          all_goals exact ⟨tup2 HN.out.1.symm HN.out.2.symm, Below.refl _ _⟩
    · obtain ⟨hm0, hmle⟩ : manyN s[i].toNat ≠ 0 ∧ i + manyN s[i].toNat ≤ s.size := by omega
      have hml := manyN_le s[i].toNat
      have HS := Lib.hid (sgn_some s i (manyN s[i].toNat) (by rw [HG.out]) (by omega) hmle)
      have HH := Lib.hid (show headN s[i].toNat = accN s i (1 - 1) by rw [HG.out]; rfl)
      clear hno
      go_enter Tryd.func111, Tryd.ntmps111
      go_wp2_with fail
      refine (specMany _ hu w).mono ?_
      rintro e w' ⟨rfl, rfl⟩
      rw [HH.out]
      generalize manyN s[i].toNat = m at *
      have hmz : ((m : Int) == 0) = false := by simp; omega
      have hm1 : 1 ≤ m := by omega
      clear hm0
      go_wp2_with fail
      go_loop [7, 8] (fun n k => ∃ j : Nat, 1 ≤ j ∧ j ≤ m ∧ k = .int .i64 j ∧ n = .int .i64 (accN s i (j - 1))) (fun _ k => m - (intOf k).toNat)
      case atStart => exact ⟨1, by omega, by omega, rfl, rfl⟩
      case round =>
        obtain ⟨j, hj1, hj, rfl, rfl⟩ := hrel
        have ha := accN_lt s i (j - 1) (by omega)
        by_cases hlt2 : j < m
        · have HST := Lib.hid (accN_step s i j hj1 (by omega))
          have hu2 : s[i + j].toNat < 256 := UInt8.toNat_lt _
          have hx := and63 s[i + j].toNat (by omega)
          generalize accN s i (j - 1) = a at *
          go_wp2_with fail
          go_round
          case rel => exact ⟨j + 1, by omega, by omega, by go_num, by rw [HST.out]; go_num⟩
          case measure => simp [intOf]; omega
        · obtain rfl : j = m := by omega
          have hcmp := sg_cmp s i j (accN s i (j - 1)) hmle
          have HC := Lib.hid hcmp
          clear hcmp
          generalize accN s i (j - 1) = a at *
          have HK : Hid (((signB (a : Int)).toList == (s.extract i (i + j)).toList) = decide (gsOk s (i : Int))) := by
            rw [Bool.eq_iff_iff, decide_eq_true_iff, HS.out.1, ← HC.out, beq_iff_eq, ByteArray.toList_eq, ByteArray.toList_eq]
            exact ⟨fun h => ba_ext h, fun h => by rw [h]⟩
          go_wp2_with fail
          obtain ⟨q1, q2, q3, q4, q5, q6⟩ := sl2 s i j hmle hs
          go_region_held3 (fun _ => True) (exact trivial) (first | (go_at_call 114; refine (specPutSign _ _ ⟨by omega, by omega⟩).mono ?_; rintro e w2 ⟨rfl, hb2⟩))
          by_cases hok : gsOk s (i : Int)
          · have ht : ((signB (a : Int)).toList == (s.extract i (i + j)).toList) = true := by rw [HK.out]; exact decide_eq_true hok
            have HY := Lib.hid (gs_yes hok)
            have HD := Lib.hid (HS.out.2 hok)
            clear q1 q2 q3 q4 q5 q6
            go_wp2_with fail
            all_goals go_ret2
            all_goals first
              | (have hx : (!(signB (a : Int)).toList == (s.extract i (i + j)).toList) = true := by assumption
                 rw [ht] at hx; cases hx)
              | exact ⟨tup2 (by rw [HY.out.1, Int.toNat_natCast, HD.out]) (by rw [HY.out.2, Int.toNat_natCast, HD.out]), (Below.refl _ _).drew.trans hb2⟩
          · have ht : ((signB (a : Int)).toList == (s.extract i (i + j)).toList) = false := by rw [HK.out]; exact decide_eq_false hok
            have HN := Lib.hid (gs_no hok)
            clear q1 q2 q3 q4 q5 q6
            go_wp2_with fail
            all_goals go_ret2
            all_goals first
              | (have hx : (!(signB (a : Int)).toList == (s.extract i (i + j)).toList) = false := by assumption
                 rw [ht] at hx; cases hx)
              | exact ⟨tup2 HN.out.1.symm HN.out.2.symm, (Below.refl _ _).drew.trans hb2⟩
  · have HN := Lib.hid (gs_no (s := s) (i := i) (fun h => hin ⟨h.1, h.2.1⟩))
    go_enter Tryd.func111, Tryd.ntmps111
    by_cases h0 : i < 0
    · clear hin
      go_wp2_with fail
      go_ret2
      exact ⟨tup2 HN.out.1.symm HN.out.2.symm, Below.refl _ _⟩
    · have h1 : (s.size : Int) ≤ i := by omega
      clear hin
      go_wp2_with fail
      go_ret2
      exact ⟨tup2 HN.out.1.symm HN.out.2.symm, Below.refl _ _⟩
end Go.Proofs.YtcjamnfboifjeaaDoor

/-
  Signs and TextOk of the reference.
-/
namespace Go.Proofs.YtcjamnfboifjeaaDoor
open Go.RowKit
set_option linter.unusedVariables false

/-- A number as a value. -/
def iv (n : Nat) : Value := .int .i64 (n : Int)
theorem one_iv (n : Int) : ∀ u ∈ #[Value.int .i64 n].toList, u.oneCell' = true := by
  intro u hu; simp at hu; subst hu; rfl
theorem infoI : (Tryd.prog.info? 3).map (fun i => (i.zero, i.size, i.bytes)) = some (some (.int .i64 0), 1, 8) := by kernel_rfl
/-- What holds in the loop. -/
def SgRel (s : ByteArray) (w : World) (o i : Value) (wr : World) : Prop :=
  ∃ (j : Nat) (pre : List Nat), ReadTo s j pre ∧ i = .int .i64 j ∧ wr.ownsRow w.heap.size 3 1 o pre.length (pre.map iv) ∧ Below w.heap.size w wr

theorem sg_next {s : ByteArray} {w w' : World} {j : Nat} {pre : List Nat} {v : Value} (h : ReadTo s j pre) (hj : j < s.size) (hok : gsOk s (j : Int)) {a b : Int} (ha : a = (Utf8.decode s j).1) (hb : b = (j : Int) + (Utf8.decode s j).2)
    (hown : w'.ownsRow w.heap.size 3 1 v (pre.length + 1) (pre.map iv ++ [.int .i64 a])) (hbl : Below w.heap.size w w') : SgRel s w v (.int .i64 b) w' := by
  subst ha hb
  exact ⟨_, _, readTo_next h hj hok, by simp, by simpa [iv] using hown, hbl⟩

set_option maxHeartbeats 1000000 in
theorem specSigns (s : ByteArray) (w : World) (hs : s.size ≤ 1048576) :
    Calls Tryd.prog 108 #[.string s] w fun e w' => ∃ o, e = .returned o ∧ w'.ownsRow w.heap.size 3 1 o (signsL s).length ((signsL s).map iv) ∧ Below w.heap.size w w' := by
  go_enter Tryd.func108, Tryd.ntmps108
  go_wp2_with fail
  go_loopw [3, 4] (fun o i wr => SgRel s w o i wr) (fun _ i _ => s.size - (intOf i).toNat)
  case atStart => exact ⟨0, [], readTo_zero s, rfl, own_empty w _ _, (Below.refl _ _).alloc (Nat.le_refl _) _⟩
  case round =>
    obtain ⟨j, pre, hr, rfl, hown, hb⟩ := hrel
    have hle := hr.1
    have hpl := hr.2.1
    have HR := Lib.hid hr
    clear hr
    by_cases hlt : j < s.size
    · by_cases hok : gsOk s (j : Int)
      · have HY := Lib.hid (gs_yes' hok)
        have hp := dec_w s j
        go_wp2_with fail
        refine (specGetSign s j _ hs ⟨by omega, by omega⟩).mono ?_
        rintro e w1 ⟨rfl, hb1⟩
        have hown1 := own_below hown hb1
        have hbw := hb.trans (hb1.mono hb.size)
        have hg : gsE s (j : Int) = (j : Int) + (Utf8.decode s j).2 := HY.out.2
        have hpos : decide (gsE s (j : Int) < 0) = false := by rw [hg]; simp; omega
        have hpos2 : ¬ gsE s (j : Int) < 0 := by omega
        have HG := Lib.hid hg
        clear hg hown hb hb1
        go_wp2_with (at_builtin; refine wpList_app rfl (.tmp 21) (.tmp 23) 63 rfl w.heap.size 3 Tryd.underlying63 infoI rfl (by decide) (W := w) rfl (hown1.alloc _) (hbw.alloc hbw.size _) (Nat.le_trans hbw.size (by simp)) _ 1 1 _ rfl rfl (cells_new _ _ _) (one_iv _) (by unfold maxLen; omega) (by omega) ?_; intro v' w' hown' hb' hB')
        go_roundw
        case rel => exact sg_next HR.out hlt hok HY.out.1 HG.out hown' hb'
        case measure => have := HG.out; simp [intOf]; omega
      · have HN := Lib.hid (gs_no hok)
        have HE := Lib.hid (readTo_bad HR.out hlt hok)
        go_wp2_with fail
        refine (specGetSign s j _ hs ⟨by omega, by omega⟩).mono ?_
        rintro e w1 ⟨rfl, hb1⟩
        have hbw := hb.trans (hb1.mono hb.size)
        rw [HN.out.1, HN.out.2]
        go_wp2_with fail
        go_ret
        refine ⟨_, rfl, ?_, hbw.alloc hbw.size _⟩
        rw [HE.out.1]
        exact own_empty' _ _ hbw.size
    · have HE := Lib.hid (readTo_end HR.out hlt)
      go_wp2_with fail
      go_ret
      refine ⟨_, rfl, ?_, hb⟩
      rw [HE.out.1]
      exact hown

set_option maxHeartbeats 1000000 in
theorem specTextOk (s : ByteArray) (w : World) (hs : s.size ≤ 1048576) :
    Calls Tryd.prog 102 #[.string s] w fun e w' => e = .returned (.bool (textOk s)) ∧ Below w.heap.size w w' := by
  have HT := Lib.hid (textOk_signs s)
  by_cases h0 : s.size = 0
  · obtain rfl : s = ⟨#[]⟩ := by
      cases s with
      | mk d => cases d with
        | mk l => cases l with
          | nil => rfl
          | cons a l => simp [ByteArray.size] at h0
    go_enter Tryd.func102, Tryd.ntmps102
    go_wp2_with fail
    go_ret
    exact ⟨ret_eq (congrArg Value.bool (by rw [HT.out]; rfl)), Below.refl _ _⟩
  · have hne : s.toList.isEmpty = false := by
      rw [ByteArray.toList_eq]
      cases s with
      | mk d => cases d with
        | mk l => cases l with
          | nil => exact absurd rfl h0
          | cons a l => rfl
    have hz := signsL_len s
    have HE := Lib.hid (show textOk s = decide (0 < (signsL s).length) by rw [HT.out]; simp [h0])
    go_enter Tryd.func102, Tryd.ntmps102
    go_wp2_with fail
    refine (specSigns s w hs).mono ?_
    rintro e w1 ⟨o, rfl, hown, hb1⟩
    obtain ⟨A, c, rfl⟩ := own_slice hown
    clear hown
    go_wp2_with fail
    go_ret
    exact ⟨ret_eq (congrArg Value.bool (by rw [HE.out])), hb1⟩

end Go.Proofs.YtcjamnfboifjeaaDoor

/-
  The library's two tables of UTF-8.
-/
namespace Go.Proofs.YtcjamnfboifjeaaDoor
open Go.RowKit

/-- The library's tables. -/
def Tabs (w : World) : Prop := Lib.Utf8Tabs 0 1 w
theorem Tabs.below {w w' : World} (h : Tabs w) (hb : Below w.heap.size w w') : Tabs w' := Utf8Tabs_below h hb
end Go.Proofs.YtcjamnfboifjeaaDoor

/-
  TextOk of the program.
-/
namespace Go.Proofs.YtcjamnfboifjeaaDoor
open Go.RowKit
set_option linter.unusedVariables false

set_option maxHeartbeats 1000000 in
theorem implTextOk (s : ByteArray) (w : World) (hs : s.size ≤ 1048576) (hT : Tabs w) :
    Calls Tryd.prog 96 #[.string s] w fun e w' => e = .returned (.bool (textOk s)) ∧ Below w.heap.size w w' := by
  have HV := Lib.hid (valid_textOk s)
  go_enter Tryd.func96, Tryd.ntmps96
  go_wp2_with fail
  refine (Tryd.utf8_ValidString_v s w (by omega) hT).mono ?_
  rintro e w1 ⟨rfl, hb1⟩
  rw [HV.out]
  go_wp2_with fail
  go_ret
  exact ⟨rfl, hb1⟩
end Go.Proofs.YtcjamnfboifjeaaDoor

/-
  The program's test of a value but for its kids.
-/
namespace Go.Proofs.YtcjamnfboifjeaaDoor
open Go.RowKit
set_option linter.unusedVariables false
set_option maxRecDepth 100000

theorem sz_empty (s : ByteArray) : s.size = 0 ↔ s.toList = [] := by
  rw [ByteArray.toList_eq]
  constructor
  · intro h
    have : s.data.toList.length = 0 := by simpa using h
    exact List.length_eq_zero_iff.1 this
  · intro h
    have : s.data.toList.length = 0 := by rw [h]; rfl
    simpa using this
theorem szz (n : Nat) : n ≤ 2000 ↔ (n : Int) ≤ 2000 := by omega
theorem node_a {v : V} (h : v.k = 0 ∨ v.k = 1 ∨ v.k = 2 ∨ v.k = 7 ∨ v.k = 8) : nodeOk v ↔ v.n = 0 ∧ v.e = 0 ∧ v.s.toList = [] := by
  unfold nodeOk
  rw [if_pos h, sz_empty]
theorem node_3 {v : V} (h : v.k = 3) : nodeOk v ↔ v.e = 0 ∧ v.s.toList = [] := by
  unfold nodeOk
  rw [if_neg (by omega), if_pos h, sz_empty]
theorem node_4 {v : V} (h : v.k = 4) : nodeOk v ↔ decOk v.n v.e ∧ v.s.toList = [] := by
  unfold nodeOk
  rw [if_neg (by omega), if_neg (by omega), if_pos h, sz_empty]
theorem node_5 {v : V} (h : v.k = 5) : nodeOk v ↔ v.n = 0 ∧ v.e = 0 ∧ textOk v.s = true ∧ (v.s.size : Int) ≤ 2000 := by
  unfold nodeOk
  rw [if_neg (by omega), if_neg (by omega), if_neg (by omega), if_pos h, szz]
theorem node_6 {v : V} (h : v.k = 6) : nodeOk v ↔ v.n = 0 ∧ v.e = 0 ∧ (v.s.size : Int) ≤ 2000 := by
  unfold nodeOk
  rw [if_neg (by omega), if_neg (by omega), if_neg (by omega), if_neg (by omega), if_pos h, szz]
theorem node_9 {v : V} (h : v.k = 9) : nodeOk v ↔ 0 ≤ v.n ∧ v.n ≤ 1000000 ∧ v.e = 0 ∧ v.s.toList = [] := by
  unfold nodeOk
  rw [if_neg (by omega), if_neg (by omega), if_neg (by omega), if_neg (by omega), if_neg (by omega), if_pos h, sz_empty]
theorem node_else {v : V} (h : v.k < 0 ∨ 9 < v.k) : ¬ nodeOk v := by
  unfold nodeOk
  rw [if_neg (by omega), if_neg (by omega), if_neg (by omega), if_neg (by omega), if_neg (by omega), if_neg (by omega)]
  exact id
theorem bl_2a {w : World} {o o' : Obj} : Below w.heap.size w ((w.alloc o).alloc o') := ((Below.refl _ w).alloc (Nat.le_refl _) o).alloc (by simp) o'
theorem blk_first {w w1 : World} {o' : Obj} {t : TypeId} {cs : Array Value} (h : Below ((w.alloc (.cells cs t)).alloc o').heap.size ((w.alloc (.cells cs t)).alloc o') w1) : Blk w1 w.heap.size t cs :=
  ((Blk.new w t cs).alloc o').below h (by simp; omega)
theorem blk_second {w w1 : World} {o : Obj} {t : TypeId} {cs : Array Value} (h : Below ((w.alloc o).alloc (.cells cs t)).heap.size ((w.alloc o).alloc (.cells cs t)) w1) : Blk w1 (w.heap.size + 1) t cs := by
  have := (Blk.new (w.alloc o) t cs).below h (by simp)
  simpa using this
theorem bl_2b {w w1 : World} {o o' : Obj} (h : Below ((w.alloc o).alloc o').heap.size ((w.alloc o).alloc o') w1) : Below w.heap.size w w1 := bl_2a.trans (h.mono (by simp; omega))

set_option maxHeartbeats 4000000 in
theorem implNode_0 (v : V) (A : Option Addr) (cap : Nat) (w : World) (hk : v.k = 0) :
    Calls Tryd.prog 86 #[v.agg A cap] w fun e w' => e = .returned (.bool (decide (nodeOk v))) ∧ Below w.heap.size w w' := by
  have HO := Lib.hid (node_a (.inl hk))
  unfold V.agg
  go_enter Tryd.func86, Tryd.ntmps86
  go_wp2_with fail
  all_goals go_ret
  all_goals refine ⟨ret_bool ?_, bl_2a⟩
  all_goals first
    | (simp [HO.out, *]; done)
    | (simp [HO.out, *]; intros; omega)
    | (simp [HO.out, *]; cases v.s.toList <;> rfl)
    | (simp_all [HO.out]; done)
    | (simp_all [HO.out]; intros; omega)
    | (simp_all [HO.out]; cases v.s.toList <;> rfl)

set_option maxHeartbeats 4000000 in
theorem implNode_1 (v : V) (A : Option Addr) (cap : Nat) (w : World) (hk : v.k = 1) :
    Calls Tryd.prog 86 #[v.agg A cap] w fun e w' => e = .returned (.bool (decide (nodeOk v))) ∧ Below w.heap.size w w' := by
  have HO := Lib.hid (node_a (.inr (.inl hk)))
  unfold V.agg
  go_enter Tryd.func86, Tryd.ntmps86
  go_wp2_with fail
  all_goals go_ret
  all_goals refine ⟨ret_bool ?_, bl_2a⟩
  all_goals first
    | (simp [HO.out, *]; done)
    | (simp [HO.out, *]; intros; omega)
    | (simp [HO.out, *]; cases v.s.toList <;> rfl)
    | (simp_all [HO.out]; done)
    | (simp_all [HO.out]; intros; omega)
    | (simp_all [HO.out]; cases v.s.toList <;> rfl)

set_option maxHeartbeats 4000000 in
theorem implNode_2 (v : V) (A : Option Addr) (cap : Nat) (w : World) (hk : v.k = 2) :
    Calls Tryd.prog 86 #[v.agg A cap] w fun e w' => e = .returned (.bool (decide (nodeOk v))) ∧ Below w.heap.size w w' := by
  have HO := Lib.hid (node_a (.inr (.inr (.inl hk))))
  unfold V.agg
  go_enter Tryd.func86, Tryd.ntmps86
  go_wp2_with fail
  all_goals go_ret
  all_goals refine ⟨ret_bool ?_, bl_2a⟩
  all_goals first
    | (simp [HO.out, *]; done)
    | (simp [HO.out, *]; intros; omega)
    | (simp [HO.out, *]; cases v.s.toList <;> rfl)
    | (simp_all [HO.out]; done)
    | (simp_all [HO.out]; intros; omega)
    | (simp_all [HO.out]; cases v.s.toList <;> rfl)

set_option maxHeartbeats 4000000 in
theorem implNode_7 (v : V) (A : Option Addr) (cap : Nat) (w : World) (hk : v.k = 7) :
    Calls Tryd.prog 86 #[v.agg A cap] w fun e w' => e = .returned (.bool (decide (nodeOk v))) ∧ Below w.heap.size w w' := by
  have HO := Lib.hid (node_a (.inr (.inr (.inr (.inl hk)))))
  unfold V.agg
  go_enter Tryd.func86, Tryd.ntmps86
  go_wp2_with fail
  all_goals go_ret
  all_goals refine ⟨ret_bool ?_, bl_2a⟩
  all_goals first
    | (simp [HO.out, *]; done)
    | (simp [HO.out, *]; intros; omega)
    | (simp [HO.out, *]; cases v.s.toList <;> rfl)
    | (simp_all [HO.out]; done)
    | (simp_all [HO.out]; intros; omega)
    | (simp_all [HO.out]; cases v.s.toList <;> rfl)

set_option maxHeartbeats 4000000 in
theorem implNode_8 (v : V) (A : Option Addr) (cap : Nat) (w : World) (hk : v.k = 8) :
    Calls Tryd.prog 86 #[v.agg A cap] w fun e w' => e = .returned (.bool (decide (nodeOk v))) ∧ Below w.heap.size w w' := by
  have HO := Lib.hid (node_a (.inr (.inr (.inr (.inr hk)))))
  unfold V.agg
  go_enter Tryd.func86, Tryd.ntmps86
  go_wp2_with fail
  all_goals go_ret
  all_goals refine ⟨ret_bool ?_, bl_2a⟩
  all_goals first
    | (simp [HO.out, *]; done)
    | (simp [HO.out, *]; intros; omega)
    | (simp [HO.out, *]; cases v.s.toList <;> rfl)
    | (simp_all [HO.out]; done)
    | (simp_all [HO.out]; intros; omega)
    | (simp_all [HO.out]; cases v.s.toList <;> rfl)

set_option maxHeartbeats 4000000 in
theorem implNode_3 (v : V) (A : Option Addr) (cap : Nat) (w : World) (hk : v.k = 3) :
    Calls Tryd.prog 86 #[v.agg A cap] w fun e w' => e = .returned (.bool (decide (nodeOk v))) ∧ Below w.heap.size w w' := by
  have HO := Lib.hid (node_3 hk)
  unfold V.agg
  go_enter Tryd.func86, Tryd.ntmps86
  go_wp2_with fail
  all_goals go_ret
  all_goals refine ⟨ret_bool ?_, bl_2a⟩
  all_goals first
    | (simp [HO.out, *]; done)
    | (simp [HO.out, *]; intros; omega)
    | (simp [HO.out, *]; cases v.s.toList <;> rfl)
    | (simp_all [HO.out]; done)
    | (simp_all [HO.out]; intros; omega)
    | (simp_all [HO.out]; cases v.s.toList <;> rfl)

set_option maxHeartbeats 4000000 in
theorem implNode_6 (v : V) (A : Option Addr) (cap : Nat) (w : World) (hk : v.k = 6) :
    Calls Tryd.prog 86 #[v.agg A cap] w fun e w' => e = .returned (.bool (decide (nodeOk v))) ∧ Below w.heap.size w w' := by
  have HO := Lib.hid (node_6 hk)
  unfold V.agg
  go_enter Tryd.func86, Tryd.ntmps86
  go_wp2_with fail
  all_goals go_ret
  all_goals refine ⟨ret_bool ?_, bl_2a⟩
  all_goals first
    | (simp [HO.out, *]; done)
    | (simp [HO.out, *]; intros; omega)
    | (simp [HO.out, *]; cases v.s.toList <;> rfl)
    | (simp_all [HO.out]; done)
    | (simp_all [HO.out]; intros; omega)
    | (simp_all [HO.out]; cases v.s.toList <;> rfl)

set_option maxHeartbeats 4000000 in
theorem implNode_9 (v : V) (A : Option Addr) (cap : Nat) (w : World) (hk : v.k = 9) :
    Calls Tryd.prog 86 #[v.agg A cap] w fun e w' => e = .returned (.bool (decide (nodeOk v))) ∧ Below w.heap.size w w' := by
  have HO := Lib.hid (node_9 hk)
  unfold V.agg
  go_enter Tryd.func86, Tryd.ntmps86
  go_wp2_with (go_at_call 97; go_in)
  all_goals go_ret
  all_goals refine ⟨ret_bool ?_, bl_2a⟩
  all_goals first
    | (simp [HO.out, *]; done)
    | (simp [HO.out, *]; intros; omega)
    | (simp [HO.out, *]; cases v.s.toList <;> rfl)
    | (simp_all [HO.out]; done)
    | (simp_all [HO.out]; intros; omega)
    | (simp_all [HO.out]; cases v.s.toList <;> rfl)

set_option maxHeartbeats 4000000 in
theorem implNode_5 (v : V) (A : Option Addr) (cap : Nat) (w : World) (hk : v.k = 5) (hs : v.s.size ≤ 1048576) (hT : Tabs w) :
    Calls Tryd.prog 86 #[v.agg A cap] w fun e w' => e = .returned (.bool (decide (nodeOk v))) ∧ Below w.heap.size w w' := by
  have HO := Lib.hid (node_5 hk)
  unfold V.agg
  go_enter Tryd.func86, Tryd.ntmps86
  go_wp2_with (go_at_call 96; refine (implTextOk v.s _ hs (hT.below bl_2a)).mono ?_; rintro e w1 ⟨rfl, hb1⟩; obtain ⟨p0, p1, p2, p3, p4⟩ := (blk_first hb1).five; obtain ⟨q0, q1, q2, q3, q4⟩ := (blk_second hb1).five; have f1 := (blk_second hb1).frozen 1; have f2 := (blk_second hb1).frozen 2; have f3 := (blk_second hb1).frozen 3)
  all_goals go_ret
  all_goals refine ⟨ret_bool ?_, by first | exact bl_2a | exact bl_2b hb1 | exact (bl_2b hb1).setCell (p := ⟨w.heap.size + 1, 3, none⟩) (by simp) _⟩
  all_goals first
    | (simp [HO.out, *]; done)
    | (simp [HO.out, *]; intros; omega)
    | (simp_all [HO.out]; done)
    | (simp_all [HO.out]; intros; omega)
    | (simp_all [HO.out]; cases h : textOk v.s <;> simp_all <;> omega)
end Go.Proofs.YtcjamnfboifjeaaDoor

/-
  The program's test of a decimal number but for its kids.
-/
namespace Go.Proofs.YtcjamnfboifjeaaDoor
open Go.RowKit
set_option linter.unusedVariables false
set_option maxRecDepth 100000

set_option maxHeartbeats 4000000 in
theorem implNode_4 (v : V) (A : Option Addr) (cap : Nat) (w : World) (hk : v.k = 4) :
    Calls Tryd.prog 86 #[v.agg A cap] w fun e w' => e = .returned (.bool (decide (nodeOk v))) ∧ Below w.heap.size w w' := by
  have HO := Lib.hid (node_4 hk)
  unfold V.agg
  go_enter Tryd.func86, Tryd.ntmps86
  go_wp2_with fail
  have hI := fun w0 => implIsDec v A cap w0
  unfold V.agg at hI
  rw [hk] at hI
  refine (hI _).mono ?_
  rintro e w1 ⟨rfl, hb1⟩
  obtain ⟨p0, p1, p2, p3, p4⟩ := (blk_first hb1).five
  obtain ⟨q0, q1, q2, q3, q4⟩ := (blk_second hb1).five
  have f1 := (blk_second hb1).frozen 1
  have f2 := (blk_second hb1).frozen 2
  have f3 := (blk_second hb1).frozen 3
  have HBB := Lib.hid (bl_2b hb1)
  clear hb1
  by_cases hd : decOk v.n v.e
  · rw [show decide (decOk v.n v.e) = true from decide_eq_true hd]
    have HD := Lib.hid hd
    clear hd
    go_wp2_with fail
    go_region
    all_goals go_wp2_with fail
    all_goals go_ret
    all_goals refine ⟨ret_bool (by simp only [HO.out, HD.out, true_and]; cases v.s.toList <;> simp), ?_⟩
    all_goals first
      | exact ((HBB.out.setCell (p := ⟨w.heap.size + 1, 1, none⟩) (by simp) _).setCell (p := ⟨w.heap.size + 1, 2, none⟩) (by simp) _).drew
      | exact ((HBB.out.drew.setCell (p := ⟨w.heap.size + 1, 1, none⟩) (by simp) _).setCell (p := ⟨w.heap.size + 1, 2, none⟩) (by simp) _)
      | exact ((HBB.out.setCell (p := ⟨w.heap.size + 1, 2, none⟩) (by simp) _).setCell (p := ⟨w.heap.size + 1, 1, none⟩) (by simp) _).drew
  · rw [show decide (decOk v.n v.e) = false from decide_eq_false hd]
    have HN : Hid (¬ nodeOk v) := Lib.hid (fun h => hd (HO.out.1 h).1)
    clear hd
    go_wp2_with fail
    go_ret
    exact ⟨ret_bool (decide_eq_false HN.out).symm, HBB.out⟩
end Go.Proofs.YtcjamnfboifjeaaDoor

/-
  The program's isNode, whole; isKey.
-/
namespace Go.Proofs.YtcjamnfboifjeaaDoor
open Go.RowKit
set_option linter.unusedVariables false
set_option maxRecDepth 100000

set_option maxHeartbeats 2000000 in
theorem implNode_else (v : V) (A : Option Addr) (cap : Nat) (w : World) (hk : v.k < 0 ∨ 9 < v.k) :
    Calls Tryd.prog 86 #[v.agg A cap] w fun e w' => e = .returned (.bool (decide (nodeOk v))) ∧ Below w.heap.size w w' := by
  have HO := Lib.hid (node_else hk)
  have q0 : (v.k == 0) = false := by rw [beq_eq_false_iff_ne]; omega
  have q1 : (v.k == 1) = false := by rw [beq_eq_false_iff_ne]; omega
  have q2 : (v.k == 2) = false := by rw [beq_eq_false_iff_ne]; omega
  have q3 : (v.k == 3) = false := by rw [beq_eq_false_iff_ne]; omega
  have q4 : (v.k == 4) = false := by rw [beq_eq_false_iff_ne]; omega
  have q5 : (v.k == 5) = false := by rw [beq_eq_false_iff_ne]; omega
  have q6 : (v.k == 6) = false := by rw [beq_eq_false_iff_ne]; omega
  have q7 : (v.k == 7) = false := by rw [beq_eq_false_iff_ne]; omega
  have q8 : (v.k == 8) = false := by rw [beq_eq_false_iff_ne]; omega
  have q9 : (v.k == 9) = false := by rw [beq_eq_false_iff_ne]; omega
  clear hk
  unfold V.agg
  go_enter Tryd.func86, Tryd.ntmps86
  go_wp2_with fail
  go_ret
  exact ⟨ret_bool (decide_eq_false HO.out).symm, bl_2a⟩
theorem implNode (v : V) (A : Option Addr) (cap : Nat) (w : World) (hs : v.s.size ≤ 1048576) (hT : Tabs w) :
    Calls Tryd.prog 86 #[v.agg A cap] w fun e w' => e = .returned (.bool (decide (nodeOk v))) ∧ Below w.heap.size w w' := by
  rcases (show v.k = 0 ∨ v.k = 1 ∨ v.k = 2 ∨ v.k = 3 ∨ v.k = 4 ∨ v.k = 5 ∨ v.k = 6 ∨ v.k = 7 ∨ v.k = 8 ∨ v.k = 9 ∨ (v.k < 0 ∨ 9 < v.k) by omega) with h | h | h | h | h | h | h | h | h | h | h
  · exact implNode_0 v A cap w h
  · exact implNode_1 v A cap w h
  · exact implNode_2 v A cap w h
  · exact implNode_3 v A cap w h
  · exact implNode_4 v A cap w h
  · exact implNode_5 v A cap w h hs hT
  · exact implNode_6 v A cap w h
  · exact implNode_7 v A cap w h
  · exact implNode_8 v A cap w h
  · exact implNode_9 v A cap w h
  · exact implNode_else v A cap w h
set_option maxHeartbeats 1000000 in
theorem implIsKey (v : V) (A : Option Addr) (cap : Nat) (w : World) :
    Calls Tryd.prog 98 #[v.agg A cap] w fun e w' => e = .returned (.bool (isKeyB v)) ∧ Below w.heap.size w w' := by
  unfold V.agg
  go_enter Tryd.func98, Tryd.ntmps98
  go_wp2_with fail
  all_goals go_ret
  all_goals exact ⟨ret_bool (by unfold isKeyB; first | (simp [*]; done) | (rw [Bool.eq_iff_iff]; simp [*])), (Below.refl _ _).alloc (Nat.le_refl _) _⟩
end Go.Proofs.YtcjamnfboifjeaaDoor

/-
  The program's areKids.
-/
namespace Go.Proofs.YtcjamnfboifjeaaDoor
open Go.RowKit
set_option linter.unusedVariables false
set_option maxRecDepth 100000

/-- Two keys are one, by what the program compares. -/
def keySame (a b : V) : Prop := V.same b a = true
def pairsI (l : List V) : Prop := pairsTo keySame l l.length ∧ l.length % 2 = 0
def kidsI (v : V) : Prop := if v.k = 7 then True else if v.k = 9 then v.kids.length = 1 else if v.k = 8 then pairsI v.kids else v.kids.length = 0
theorem kidsI_8 {v : V} (h : v.k = 8) : kidsI v ↔ pairsI v.kids := by
  unfold kidsI
  rw [if_neg (by omega), if_neg (by omega), if_pos h]
theorem pairsToP_step {R : V → V → Prop} {l : List V} {j : Nat} (hj : j < l.length) (he : j % 2 = 0) (h : pairsTo R l j) (hk : isKeyB l[j] = true) (hn : ∀ k (hk : k < j), k % 2 = 0 → ¬ R (l[k]'(by omega)) l[j]) : pairsTo R l (j + 2) := by
  intro i hi hlt hev
  by_cases e : i = j
  · subst e; exact ⟨hk, hn⟩
  · exact h i hi (by omega) hev
theorem pairsToP_end {R : V → V → Prop} {l : List V} {j : Nat} (hj : l.length ≤ j) (h : pairsTo R l j) : pairsTo R l l.length := fun i hi _ he => h i hi (by omega) he

set_option maxHeartbeats 4000000 in
theorem implKids_8 (v : V) (A : Option Addr) (cap : Nat) (w : World) (hk : v.k = 8) (hn : v.nodes ≤ 1048577) (hat : Vs.at_ w 0 w.heap.size v.kids A) :
    Calls Tryd.prog 87 #[v.agg A cap] w fun e w' => e = .returned (.bool (decide (kidsI v))) ∧ Below w.heap.size w w' := by
  have HO := Lib.hid (kidsI_8 hk)
  have HA := Lib.hid hat
  have q7 : (v.k == 7) = false := by rw [hk]; rfl
  have q9 : (v.k == 9) = false := by rw [hk]; rfl
  have q8 : (v.k == 8) = true := by rw [hk]; rfl
  have hl : v.kids.length ≤ 1048576 := by have := Vs.len_nodes v.kids; have := V.nodes_eq v; omega
  have HNN := Lib.hid (fun (i : Nat) (h : i < v.kids.length) => show (v.kids[i]).nodes ≤ 1048577 by have := Vs.nodes_get i h; have := V.nodes_eq v; omega)
  clear hk hat hn
  unfold V.agg
  go_enter Tryd.func87, Tryd.ntmps87
  go_wp2_with fail
  go_loopw [3, 4] (fun i k wr => ∃ j : Nat, j ≤ v.kids.length + 1 ∧ j % 2 = 0 ∧ i = .int .i64 j ∧ pairsTo keySame v.kids j ∧ Blk wr w.heap.size 28 #[.int .i64 v.k, .int .i64 v.n, .int .i64 v.e, .string v.s, .slice A v.kids.length cap] ∧ Below w.heap.size w wr) (fun i _ _ => v.kids.length + 2 - (intOf i).toNat)
  case atStart => exact ⟨0, by omega, rfl, rfl, fun i _ h => by omega, Blk.new _ _ _, (Below.refl _ _).alloc (Nat.le_refl _) _⟩
  case round =>
    obtain ⟨j, hj, he, rfl, hp, B, hb⟩ := hrel
    have HP := Lib.hid hp
    have b4 : wr.cell? ⟨w.heap.size, 4, none⟩ = some (.slice A v.kids.length cap) := B.cell 4
    clear hp
    by_cases hlt : j < v.kids.length
    · obtain ⟨b, off, A', cap', eA, g1, g2, g3, ⟨c0, c1, c2, c3, c4⟩, g5⟩ := Vs.at_get j hlt (Vs.at_below HA.out hb (Nat.le_refl _))
      subst eA
      go_wp2_with fail
      refine (implIsKey v.kids[j] A' cap' _).mono ?_
      rintro e w1 ⟨rfl, hb1⟩
      have B1 := B.below hb1 B.lt
      have b1 := hb.trans (hb1.mono hb.size)
      clear c0 c1 c2 c3 c4 b4 g5
      by_cases hkey : isKeyB v.kids[j] = true
      · rw [hkey]
        have HKEY := Lib.hid hkey
        clear hkey
        go_wp2_with fail
        go_loopw [4] (fun k wq => ∃ m : Nat, m ≤ j + 1 ∧ m % 2 = 0 ∧ k = .int .i64 m ∧ (∀ q (hq : q < j), q < m → q % 2 = 0 → ¬ keySame (v.kids[q]'(by omega)) v.kids[j]) ∧ Blk wq w.heap.size 28 #[.int .i64 v.k, .int .i64 v.n, .int .i64 v.e, .string v.s, .slice (some ⟨b, off, none⟩) v.kids.length cap] ∧ Below w.heap.size w wq) (fun k _ => j + 2 - (intOf k).toNat)
        case atStart => exact ⟨0, by omega, rfl, rfl, fun q _ h => by omega, B1, b1⟩
        case round =>
          obtain ⟨m, hm, hme, rfl, hnot, Bq, hbq⟩ := hrel
          have HNOT := Lib.hid hnot
          have b4 : wr.cell? ⟨w.heap.size, 4, none⟩ = some (.slice (some ⟨b, off, none⟩) v.kids.length cap) := Bq.cell 4
          clear hnot
          by_cases hmj : m < j
          · have hmlt : m < v.kids.length := by omega
            obtain ⟨b1, off1, A1, cap1, e1, k1, k2, k3, ⟨d0, d1, d2, d3, d4⟩, k5⟩ := Vs.at_get m hmlt (Vs.at_below HA.out hbq (Nat.le_refl _))
            obtain ⟨b2, off2, A2, cap2, e2, m1, m2, m3, ⟨f0, f1, f2, f3, f4⟩, m5⟩ := Vs.at_get j hlt (Vs.at_below HA.out hbq (Nat.le_refl _))
            injection e1 with e1
            injection e1 with e11 e12
            injection e2 with e2
            injection e2 with e21 e22
            subst e11 e12 e21 e22
            go_wp2_with fail
            go_still_tail 10, (by kernel_rfl)
            change wpList _ _ _ _ _ wr.drew
            go_wp2_with fail
            refine (implSame v.kids[j] v.kids[m] A2 A1 cap2 cap1 wr.drew (HNN.out j hlt) (HNN.out m hmlt) (Vs.at_more (Nat.le_refl _) hbq.size _ _ (Vs.at_drew m5)) (Vs.at_more (Nat.le_refl _) hbq.size _ _ (Vs.at_drew k5))).mono ?_
            rintro e w2 ⟨rfl, hb2⟩
            have hbw : Below w.heap.size w w2 := hbq.drew.trans (hb2.mono hbq.size)
            have B2 := (Bq.drew).below hb2 Bq.lt
            clear d0 d1 d2 d3 d4 f0 f1 f2 f3 f4 b4 k5 m5
            by_cases hq : V.same v.kids[j] v.kids[m] = true
            · rw [hq]
              have HN : Hid (¬ kidsI v) := Lib.hid (fun h => ((HO.out.1 h).1 j hlt hlt he).2 m hmj hme hq)
              clear hq
              go_wp2_with fail
              go_ret
              exact ⟨ret_bool (decide_eq_false HN.out).symm, hbw⟩
            · have HQ := Lib.hid hq
              rw [show V.same v.kids[j] v.kids[m] = false by simpa using hq]
              clear hq
              go_wp2_with fail
              go_roundw
              case rel => exact ⟨m + 2, by omega, by omega, by go_num, fun q hq1 hq2 hq3 => by
                by_cases e : q = m
                · subst e; exact HQ.out
                · exact HNOT.out q hq1 (by omega) hq3, B2, hbw⟩
              case measure => simp [intOf]; omega
          · have HST := Lib.hid (pairsToP_step hlt he HP.out HKEY.out (fun k hk hke => HNOT.out k hk (by omega) hke))
            go_wp2_with fail
            go_roundw
            case rel => exact ⟨j + 2, by omega, by omega, by go_num, HST.out, Bq, hbq⟩
            case measure => simp [intOf]; omega
      · have hkf : isKeyB v.kids[j] = false := by simpa using hkey
        have HN : Hid (¬ kidsI v) := Lib.hid (fun h => hkey ((HO.out.1 h).1 j hlt hlt he).1)
        rw [hkf]
        go_wp2_with fail
        go_ret
        exact ⟨ret_bool (decide_eq_false HN.out).symm, b1⟩
    · have HE : Hid (kidsI v ↔ v.kids.length % 2 = 0) := Lib.hid (HO.out.trans ⟨fun h => h.2, fun h => ⟨pairsToP_end (by omega) HP.out, h⟩⟩)
      by_cases hev : v.kids.length % 2 = 0
      · have hx : ((v.kids.length : Int) % 2 == 0) = true := by rw [beq_iff_eq]; omega
        go_wp2_with fail
        go_ret
        exact ⟨ret_bool (decide_eq_true (HE.out.2 hev)).symm, hb⟩
      · have hx : ((v.kids.length : Int) % 2 == 0) = false := by rw [beq_eq_false_iff_ne]; omega
        go_wp2_with fail
        go_ret
        exact ⟨ret_bool (decide_eq_false (fun h => hev (HE.out.1 h))).symm, hb⟩

set_option maxHeartbeats 1000000 in
theorem implKids_7 (v : V) (A : Option Addr) (cap : Nat) (w : World) (hk : v.k = 7) :
    Calls Tryd.prog 87 #[v.agg A cap] w fun e w' => e = .returned (.bool (decide (kidsI v))) ∧ Below w.heap.size w w' := by
  have HO : Hid (kidsI v) := Lib.hid (by unfold kidsI; rw [if_pos hk]; trivial)
  have q7 : (v.k == 7) = true := by rw [hk]; rfl
  clear hk
  unfold V.agg
  go_enter Tryd.func87, Tryd.ntmps87
  go_wp2_with fail
  go_ret
  exact ⟨ret_bool (decide_eq_true HO.out).symm, (Below.refl _ _).alloc (Nat.le_refl _) _⟩
theorem int_eq_dec (n m : Nat) : ((n : Int) == (m : Int)) = decide (n = m) := by rw [Bool.eq_iff_iff]; simp; omega
set_option maxHeartbeats 1000000 in
theorem implKids_9 (v : V) (A : Option Addr) (cap : Nat) (w : World) (hk : v.k = 9) (hl : v.kids.length ≤ 1048576) :
    Calls Tryd.prog 87 #[v.agg A cap] w fun e w' => e = .returned (.bool (decide (kidsI v))) ∧ Below w.heap.size w w' := by
  have HO : Hid (decide (kidsI v) = ((v.kids.length : Int) == 1)) := Lib.hid (by
    have h := int_eq_dec v.kids.length 1
    rw [show ((1 : Nat) : Int) = 1 from rfl] at h
    rw [h]
    exact decide_eq_decide.2 (by unfold kidsI; rw [if_neg (by omega), if_pos hk]))
  have q7 : (v.k == 7) = false := by rw [hk]; rfl
  have q9 : (v.k == 9) = true := by rw [hk]; rfl
  clear hk
  unfold V.agg
  go_enter Tryd.func87, Tryd.ntmps87
  go_wp2_with fail
  go_ret
  exact ⟨ret_bool HO.out.symm, (Below.refl _ _).alloc (Nat.le_refl _) _⟩
set_option maxHeartbeats 1000000 in
theorem implKids_0 (v : V) (A : Option Addr) (cap : Nat) (w : World) (hk : v.k ≠ 7 ∧ v.k ≠ 8 ∧ v.k ≠ 9) (hl : v.kids.length ≤ 1048576) :
    Calls Tryd.prog 87 #[v.agg A cap] w fun e w' => e = .returned (.bool (decide (kidsI v))) ∧ Below w.heap.size w w' := by
  have HO : Hid (decide (kidsI v) = ((v.kids.length : Int) == 0)) := Lib.hid (by
    have h := int_eq_dec v.kids.length 0
    rw [show ((0 : Nat) : Int) = 0 from rfl] at h
    rw [h]
    exact decide_eq_decide.2 (by unfold kidsI; rw [if_neg hk.1, if_neg hk.2.2, if_neg hk.2.1]))
  have q7 : (v.k == 7) = false := by rw [beq_eq_false_iff_ne]; exact hk.1
  have q9 : (v.k == 9) = false := by rw [beq_eq_false_iff_ne]; exact hk.2.2
  have q8 : (v.k == 8) = false := by rw [beq_eq_false_iff_ne]; exact hk.2.1
  clear hk
  unfold V.agg
  go_enter Tryd.func87, Tryd.ntmps87
  go_wp2_with fail
  go_ret
  exact ⟨ret_bool HO.out.symm, (Below.refl _ _).alloc (Nat.le_refl _) _⟩
theorem implKids (v : V) (A : Option Addr) (cap : Nat) (w : World) (hn : v.nodes ≤ 1048577) (hat : Vs.at_ w 0 w.heap.size v.kids A) :
    Calls Tryd.prog 87 #[v.agg A cap] w fun e w' => e = .returned (.bool (decide (kidsI v))) ∧ Below w.heap.size w w' := by
  have hl : v.kids.length ≤ 1048576 := by have := Vs.len_nodes v.kids; have := V.nodes_eq v; omega
  rcases (show v.k = 7 ∨ v.k = 8 ∨ v.k = 9 ∨ (v.k ≠ 7 ∧ v.k ≠ 8 ∧ v.k ≠ 9) by omega) with h | h | h | h
  · exact implKids_7 v A cap w h
  · exact implKids_8 v A cap w h hn hat
  · exact implKids_9 v A cap w h hl
  · exact implKids_0 v A cap w h hl
end Go.Proofs.YtcjamnfboifjeaaDoor

/-
  A right value, as the program asks it; that is what the reference asks, where there are not too many nodes.
-/
namespace Go.Proofs.YtcjamnfboifjeaaDoor
open Go.RowKit
set_option linter.unusedVariables false
set_option maxRecDepth 100000

mutual
/-- A value is right as the program asks it, at most so many kids deep. -/
def V.rightI : Int → V → Prop
  | d, .mk k n e s ks => 0 ≤ d ∧ nodeOk (.mk k n e s ks) ∧ kidsI (.mk k n e s ks) ∧ Vs.rightI (d - 1) ks
def Vs.rightI : Int → List V → Prop
  | _, [] => True
  | d, v :: r => V.rightI d v ∧ Vs.rightI d r
end
theorem V.rightI_eq (d : Int) (v : V) : V.rightI d v ↔ 0 ≤ d ∧ nodeOk v ∧ kidsI v ∧ Vs.rightI (d - 1) v.kids := by cases v; simp [V.rightI, V.kids]
theorem Vs.rightI_iff (d : Int) : ∀ l : List V, Vs.rightI d l ↔ ∀ i (h : i < l.length), V.rightI d l[i]
  | [] => by simp [Vs.rightI]
  | v :: r => by
    simp only [Vs.rightI]
    rw [Vs.rightI_iff d r]
    constructor
    · rintro ⟨h1, h2⟩ i hi
      cases i with
      | zero => exact h1
      | succ i => exact h2 i (by simpa using hi)
    · intro h
      exact ⟨h 0 (by simp), fun i hi => h (i + 1) (by simpa using hi)⟩
theorem Vs.rightI_take (d : Int) (l : List V) (h : Vs.rightI d (l.take l.length)) : Vs.rightI d l := by rwa [List.take_length] at h
theorem Vs.rightI_step (d : Int) (l : List V) (j : Nat) (hj : j < l.length) (h : Vs.rightI d (l.take j)) (hv : V.rightI d l[j]) : Vs.rightI d (l.take (j + 1)) := by
  rw [Vs.rightI_iff] at h ⊢
  intro i hi
  rw [List.length_take] at hi
  by_cases e : i = j
  · subst e; simpa using hv
  · have := h i (by rw [List.length_take]; omega)
    simpa using this

/-- A key that is right has no kids and no e. -/
def leafy (v : V) : Prop := v.e = 0 ∧ v.kids.length = 0
theorem leafy_right {d : Int} {v : V} (h : V.right d v) (hk : isKeyB v = true) : leafy v := by
  obtain ⟨_, ⟨h1, h2⟩, _⟩ := (V.right_eq d v).1 h
  have hk' : v.k = 5 ∨ v.k = 3 := by simpa [isKeyB] using hk
  unfold nodeOk at h1
  unfold kidsOk at h2
  rcases hk' with hk' | hk' <;> simp [hk'] at h1 h2
  · exact ⟨h1.2.1, by simp [h2]⟩
  · exact ⟨h1.1, by simp [h2]⟩
theorem keySame_iff {a b : V} (ha : leafy a) (hb : leafy b) : keySame a b ↔ keyEq a b := by
  unfold keySame keyEq
  constructor
  · intro h
    have h0 : V.ord b a = 0 := by
      by_cases h0 : V.ord b a = 0
      · exact h0
      · rw [V.same_no h0] at h; cases h
    obtain ⟨h1, h2, h3, h4, h5⟩ := (V.ord_iff b a).1 h0
    exact ⟨h1.symm, h2.symm, h4.symm⟩
  · rintro ⟨h1, h2, h3⟩
    rw [V.same_yes h1.symm h2.symm (by rw [ha.1, hb.1]) h3.symm]
    have e1 : a.kids = [] := List.eq_nil_of_length_eq_zero ha.2
    have e2 : b.kids = [] := List.eq_nil_of_length_eq_zero hb.2
    rw [e1, e2]
    unfold Vs.same
    exact decide_eq_true ⟨rfl, by simp [Vs.cmp]⟩
theorem pairsTo_iff {l : List V} (h : ∀ i (hi : i < l.length), isKeyB l[i] = true → leafy l[i]) (m : Nat) : pairsTo keySame l m ↔ pairsTo keyEq l m := by
  unfold pairsTo
  constructor
  · intro hp i hi hm he
    obtain ⟨h1, h2⟩ := hp i hi hm he
    refine ⟨h1, fun k hk hke hq => h2 k hk hke ((keySame_iff (h k (by omega) (hp k (by omega) (by omega) hke).1) (h i hi h1)).2 hq)⟩
  · intro hp i hi hm he
    obtain ⟨h1, h2⟩ := hp i hi hm he
    refine ⟨h1, fun k hk hke hq => h2 k hk hke ((keySame_iff (h k (by omega) (hp k (by omega) (by omega) hke).1) (h i hi h1)).1 hq)⟩
theorem kidsI_iff {d : Int} {v : V} (h : Vs.right d v.kids) (hn : v.kids.length ≤ 300) : kidsI v ↔ kidsOk v := by
  unfold kidsI kidsOk
  have h2 : pairsI v.kids ↔ pairsOk v.kids := by
    unfold pairsI pairsOk
    rw [pairsTo_iff (fun i hi hk => leafy_right ((Vs.right_iff _ _).1 h i hi) hk)]
    exact ⟨fun ⟨a, b⟩ => ⟨a, b, hn⟩, fun ⟨a, b, _⟩ => ⟨a, b⟩⟩
  rw [h2]
theorem rightI_iff : ∀ v : V, v.nodes ≤ 301 → ∀ d, V.rightI d v ↔ V.right d v := by
  refine V.all fun v hk hn d => ?_
  have hkids : Vs.rightI (d - 1) v.kids ↔ Vs.right (d - 1) v.kids := by
    rw [Vs.rightI_iff, Vs.right_iff]
    have h1 : ∀ i (h : i < v.kids.length), (v.kids[i]).nodes ≤ 301 := fun i h => by have := Vs.nodes_get i h; have := V.nodes_eq v; omega
    exact ⟨fun h i hi => (hk i hi (h1 i hi) _).1 (h i hi), fun h i hi => (hk i hi (h1 i hi) _).2 (h i hi)⟩
  rw [V.rightI_eq, V.right_eq, hkids]
  have hl : v.kids.length ≤ 300 := by have := Vs.len_nodes v.kids; have := V.nodes_eq v; omega
  unfold ownOk
  constructor
  · rintro ⟨a, b, c, e⟩; exact ⟨a, ⟨b, (kidsI_iff e hl).1 c⟩, e⟩
  · rintro ⟨a, ⟨b, c⟩, e⟩; exact ⟨a, b, (kidsI_iff e hl).2 c, e⟩
/-- What is asked of a value where there may be so many nodes. -/
def inV (L : Nat) (d : Int) (v : V) : Prop := v.nodes ≤ L ∧ V.rightI (12 - d) v
theorem inV_okV (v : V) : inV 300 0 v ↔ okV v := by
  unfold inV okV
  constructor
  · rintro ⟨h1, h2⟩; exact ⟨(rightI_iff v (by omega) _).1 (by simpa using h2), h1⟩
  · rintro ⟨h1, h2⟩; exact ⟨h2, (rightI_iff v (by omega) _).2 (by simpa using h1)⟩
end Go.Proofs.YtcjamnfboifjeaaDoor

/-
  The reference's tests of a value: a number times ten, keys of pairs.
-/
namespace Go.Proofs.YtcjamnfboifjeaaDoor
open Go.RowKit
set_option linter.unusedVariables false
set_option maxRecDepth 100000

theorem tens_step (n : Int) (k : Nat) (h : inR (n * 10)) : tens n (k + 1) = tens (n * 10) k := by
  conv => lhs; unfold tens
  rw [if_pos h]
theorem tens_stop (n : Int) (k : Nat) (h : ¬ inR (n * 10)) : tens n (k + 1) = none := by
  unfold tens
  rw [if_neg h]

theorem wrap_tdiv (y : Int) : wrap64 (Int.tdiv (wrap64 y) 10) = Int.tdiv (wrap64 y) 10 := by
  have h1 := wrap64_eq y
  have h2 := Int.tmod_add_mul_tdiv (wrap64 y) 10
  have h3 : -10 < Int.tmod (wrap64 y) 10 ∧ Int.tmod (wrap64 y) 10 < 10 := by
    constructor
    · have := Int.lt_tmod_of_pos (wrap64 y) (show (0 : Int) < 10 by omega); omega
    · exact Int.tmod_lt_of_pos _ (by omega)
  rw [wrap64_eq (Int.tdiv _ _)]
  omega
theorem inR_div {x : Int} (h : inR (x * 10)) : wrap64 (x * 10) = x * 10 ∧ Int.tdiv (x * 10) 10 = x := by
  unfold inR at h
  exact ⟨by rw [wrap64_eq]; omega, Int.mul_tdiv_cancel _ (by omega)⟩

set_option maxHeartbeats 1000000 in
theorem specWhole_pos (n : Int) (m : Nat) (w : World) (hn : inR n) (hm : 0 < m) (hm2 : m ≤ 20) :
    Calls Tryd.prog 101 #[.int .i64 n, .int .i64 (m : Int)] w fun e w' => e = .returned (.bool (tens n m).isSome) ∧ w = w' := by
  have hmp : decide ((0 : Int) < m) = true := decide_eq_true (by omega)
  go_enter Tryd.func101, Tryd.ntmps101
  go_wp2_with fail
  go_loop [0, 5, 6] (fun z i _ => ∃ (j : Nat) (x : Int), j ≤ m ∧ i = .int .i64 j ∧ z = .int .i64 x ∧ inR x ∧ tens n m = tens x (m - j)) (fun _ i _ => m - (intOf i).toNat)
  case atStart => exact ⟨0, n, by omega, rfl, rfl, hn, by simp⟩
  case round =>
    obtain ⟨j, x, hj, rfl, rfl, hx, ht⟩ := hrel
    by_cases hlt : j < m
    · have hw := wrap_ten hx
      have hr := hx
      unfold inR at hr
      obtain ⟨k, hk⟩ : ∃ k, m - j = k + 1 := ⟨m - j - 1, by omega⟩
      rw [hk] at ht
      by_cases h10 : inR (x * 10)
      · have hin := h10
        unfold inR at hin
        obtain ⟨hwz, hdz⟩ := inR_div h10
        have hq : (Int.tdiv (x * 10) 10 == x) = true := by rw [hdz]; simp
        have HT := Lib.hid (ht.trans (tens_step x k h10))
        have H10 := Lib.hid h10
        clear ht hw hx h10
        go_wp2_with fail
        go_round
        case rel => exact ⟨j + 1, x * 10, by omega, by go_num, by go_num, H10.out, by rw [HT.out]; congr 1; omega⟩
        case measure => simp [intOf]; omega
      · have hq : (wrap64 (Int.tdiv (wrap64 (x * 10)) 10) == x) = false := by rw [wrap_tdiv, beq_eq_false_iff_ne]; exact fun e => h10 (hw.1 e)
        have HT := Lib.hid (ht.trans (tens_stop x k h10))
        clear ht hw hx h10
        go_wp2_with fail
        go_ret
        exact ⟨ret_bool (by rw [HT.out]; rfl), rfl⟩
    · obtain rfl : j = m := by omega
      have HT : Hid (tens n j = some x) := Lib.hid (by rw [ht, Nat.sub_self]; rfl)
      clear ht hx
      go_wp2_with fail
      go_ret
      exact ⟨ret_bool (by rw [HT.out]; rfl), rfl⟩
theorem specWhole (n e : Int) (w : World) (hn : inR n) (he : -20 ≤ e ∧ e ≤ 20) :
    Calls Tryd.prog 101 #[.int .i64 n, .int .i64 e] w fun r w' => r = .returned (.bool (decide (0 < e) && (tens n e.toNat).isSome)) ∧ w = w' := by
  by_cases h : 0 < e
  · obtain ⟨m, rfl⟩ := Int.eq_ofNat_of_zero_le (show 0 ≤ e by omega)
    refine (specWhole_pos n m w hn (by omega) (by omega)).mono ?_
    rintro r w' ⟨rfl, rfl⟩
    exact ⟨ret_bool (by rw [decide_eq_true h, Int.toNat_natCast]; rfl), rfl⟩
  · have hd : decide ((0 : Int) < e) = false := decide_eq_false h
    go_enter Tryd.func101, Tryd.ntmps101
    go_wp2_with fail
    go_loop [5] (fun i => i = .int .i64 0) (fun _ => 0)
    case atStart => exact rfl
    case round =>
      obtain rfl := hrel
      go_wp2_with fail
      go_ret
      exact ⟨ret_bool (by first | rfl | (rw [hd]; rfl)), rfl⟩

theorem text_iff (a b : ByteArray) : (a.toList == b.toList) = decide (a = b) := by
  rw [Bool.eq_iff_iff, decide_eq_true_iff, beq_iff_eq, ByteArray.toList_eq, ByteArray.toList_eq]
  constructor
  · intro h
    cases a; cases b
    simp only [ByteArray.mk.injEq]
    exact Array.toList_inj.1 h
  · intro h; rw [h]
theorem keyEq_bools (a b : V) : (((a.k == b.k) = true ∧ (a.n == b.n) = true ∧ (a.s.toList == b.s.toList) = true) ∧ keyEq a b) ∨ (((a.k == b.k) = false ∨ ((a.k == b.k) = true ∧ (a.n == b.n) = false) ∨ ((a.k == b.k) = true ∧ (a.n == b.n) = true ∧ (a.s.toList == b.s.toList) = false)) ∧ ¬ keyEq a b) := by
  unfold keyEq
  rw [text_iff]
  simp only [beq_iff_eq, beq_eq_false_iff_ne, decide_eq_true_iff, decide_eq_false_iff_not]
  by_cases h1 : a.k = b.k <;> by_cases h2 : a.n = b.n <;> by_cases h3 : a.s = b.s <;> simp [h1, h2, h3]
theorem pairsTo_step {R : V → V → Prop} {l : List V} {j : Nat} (hj : j < l.length) (he : j % 2 = 0) (h : pairsTo R l j) (hk : isKeyB l[j] = true) (hn : ∀ k (hk : k < j), k % 2 = 0 → ¬ R (l[k]'(by omega)) l[j]) : pairsTo R l (j + 2) := by
  intro i hi hlt hev
  by_cases e : i = j
  · subst e; exact ⟨hk, hn⟩
  · exact h i hi (by omega) hev
theorem pairsTo_end {R : V → V → Prop} {l : List V} {j : Nat} (hj : l.length ≤ j) (h : pairsTo R l j) : pairsTo R l l.length := fun i hi _ he => h i hi (by omega) he
theorem pairsTo_zero (R : V → V → Prop) (l : List V) : pairsTo R l 0 := fun i _ h => by omega

set_option maxHeartbeats 4000000 in
theorem specPairs (l : List V) (A : Option Addr) (cap : Nat) (w : World) (hl : l.length ≤ 1048576) (hat : Vs.at_ w 0 w.heap.size l A) :
    Calls Tryd.prog 103 #[.slice A l.length cap] w fun e w' => e = .returned (.bool (decide (pairsOk l))) ∧ Below w.heap.size w w' := by
  have HA := Lib.hid hat
  clear hat
  go_enter Tryd.func103, Tryd.ntmps103
  go_wp2_with fail
  go_loopw [3, 4] (fun i k wr => ∃ j : Nat, j ≤ l.length + 1 ∧ j % 2 = 0 ∧ i = .int .i64 j ∧ pairsTo keyEq l j ∧ Below w.heap.size w wr) (fun i _ _ => l.length + 2 - (intOf i).toNat)
  case atStart => exact ⟨0, by omega, rfl, rfl, pairsTo_zero _ _, Below.refl _ _⟩
  case round =>
    obtain ⟨j, hj, he, rfl, hp, hb⟩ := hrel
    have HP := Lib.hid hp
    clear hp
    by_cases hlt : j < l.length
    · obtain ⟨b, off, A', cap', eA, g1, g2, g3, ⟨c0, c1, c2, c3, c4⟩, g5⟩ := Vs.at_get j hlt (Vs.at_below HA.out hb (Nat.le_refl _))
      subst eA
      by_cases hkey : isKeyB l[j] = true
      · have hkk := hkey
        unfold isKeyB at hkk
        rw [decide_eq_true_iff] at hkk
        have HKEY := Lib.hid hkey
        clear hkey
        rcases (show (l[j].k != 5) = false ∨ ((l[j].k != 5) = true ∧ (l[j].k != 3) = false) by
          rcases hkk with h | h
          · left; rw [h]; rfl
          · right; rw [h]; exact ⟨rfl, rfl⟩) with hc | hc
        all_goals
          clear hkk
          go_wp2_with fail
          go_loopw [4] (fun k wq => ∃ m : Nat, m ≤ j + 1 ∧ m % 2 = 0 ∧ k = .int .i64 m ∧ (∀ q (hq : q < j), q < m → q % 2 = 0 → ¬ keyEq (l[q]'(by omega)) l[j]) ∧ Below w.heap.size w wq) (fun k _ => j + 2 - (intOf k).toNat)
          case atStart => exact ⟨0, by omega, rfl, rfl, fun q _ h => by omega, hb⟩
          case round =>
            obtain ⟨m, hm, hme, rfl, hnot, hbq⟩ := hrel
            have HNOT := Lib.hid hnot
            clear hnot
            by_cases hmj : m < j
            · have hmlt : m < l.length := by omega
              obtain ⟨b1, off1, A1, cap1, e1, k1, k2, k3, ⟨d0, d1, d2, d3, d4⟩, k5⟩ := Vs.at_get m hmlt (Vs.at_below HA.out hbq (Nat.le_refl _))
              obtain ⟨b2, off2, A2, cap2, e2, m1, m2, m3, ⟨f0, f1, f2, f3, f4⟩, m5⟩ := Vs.at_get j hlt (Vs.at_below HA.out hbq (Nat.le_refl _))
              injection e1 with e1
              injection e1 with e11 e12
              injection e2 with e2
              injection e2 with e21 e22
              subst e11 e12 e21 e22
              rcases keyEq_bools l[m] l[j] with ⟨⟨t1, t2, t3⟩, hq⟩ | ⟨ht, hq⟩
              · have HN : Hid (decide (pairsOk l) = false) := Lib.hid (decide_eq_false (fun h => (h.1 j hlt hlt he).2 m hmj hme hq))
                clear hq
                go_wp2_with fail
                go_quiet (fail)
                go_wp2_with fail
                go_ret
                exact ⟨ret_bool HN.out.symm, below_drewN hbq _⟩
              · have HQ := Lib.hid hq
                clear hq
                rcases ht with t1 | ⟨t1, t2⟩ | ⟨t1, t2, t3⟩
                all_goals
                  go_wp2_with fail
                  go_quiet (fail)
                  go_wp2_with fail
                  go_roundw
                  case rel => exact ⟨m + 2, by omega, by omega, by go_num, fun q hq1 hq2 hq3 => by
                    by_cases e : q = m
                    · subst e; exact HQ.out
                    · exact HNOT.out q hq1 (by omega) hq3, below_drewN hbq _⟩
                  case measure => simp [intOf]; omega
            · have HST := Lib.hid (pairsTo_step hlt he HP.out HKEY.out (fun k hk hke => HNOT.out k hk (by omega) hke))
              go_wp2_with fail
              go_roundw
              case rel => exact ⟨j + 2, by omega, by omega, by go_num, HST.out, hbq⟩
              case measure => simp [intOf]; omega
      · have hkk : ¬ (l[j].k = 5 ∨ l[j].k = 3) := by unfold isKeyB at hkey; rwa [decide_eq_true_iff] at hkey
        have hc1 : (l[j].k != 5) = true := by simp; omega
        have hc2 : (l[j].k != 3) = true := by simp; omega
        have HN : Hid (decide (pairsOk l) = false) := Lib.hid (decide_eq_false (fun h => hkey (h.1 j hlt hlt he).1))
        clear hkk hkey
        go_wp2_with fail
        go_ret
        exact ⟨ret_bool HN.out.symm, hb⟩
    · have HE : Hid (decide (pairsOk l) = (decide (l.length % 2 = 0) && decide (l.length ≤ 300))) := Lib.hid (by
        unfold pairsOk
        rw [show (pairsTo keyEq l l.length ∧ l.length % 2 = 0 ∧ l.length ≤ 300) = (l.length % 2 = 0 ∧ l.length ≤ 300) from propext ⟨fun h => h.2, fun h => ⟨pairsTo_end (by omega) HP.out, h⟩⟩]
        rw [Bool.decide_and])
      by_cases hev : l.length % 2 = 0
      · have hx : ((l.length : Int) % 2 == 0) = true := by rw [beq_iff_eq]; omega
        go_wp2_with fail
        go_ret
        exact ⟨ret_bool (by rw [HE.out, decide_eq_true hev, Bool.true_and]; exact decide_eq_decide.2 (by omega)), hb⟩
      · have hx : ((l.length : Int) % 2 == 0) = false := by rw [beq_eq_false_iff_ne]; omega
        go_wp2_with fail
        go_ret
        exact ⟨ret_bool (by rw [HE.out, decide_eq_false hev]; rfl), hb⟩
end Go.Proofs.YtcjamnfboifjeaaDoor

/-
  The reference's test of a value but for its kids' rightness.
-/
namespace Go.Proofs.YtcjamnfboifjeaaDoor
open Go.RowKit
set_option linter.unusedVariables false
set_option maxRecDepth 100000

theorem bl_q {w w1 : World} {o : Obj} {n : Nat} (h : Below ((w.alloc o).drewN n).heap.size ((w.alloc o).drewN n) w1) : Below w.heap.size w w1 :=
  (below_drewN ((Below.refl w.heap.size w).alloc (Nat.le_refl _) o) n).trans (h.mono (by show w.heap.size ≤ (w.alloc o).heap.size; simp))
theorem blk_q {w : World} {g n : Nat} {t : TypeId} {cs : Array Value} (h : Blk w g t cs) : Blk (w.drewN n) g t cs := h
theorem at_q {w : World} {o : Obj} {n : Nat} {l : List V} {A : Option Addr} (h : Vs.at_ w 0 w.heap.size l A) : Vs.at_ ((w.alloc o).drewN n) 0 ((w.alloc o).drewN n).heap.size l A :=
  Vs.at_more (Nat.le_refl _) (by show w.heap.size ≤ (w.alloc o).heap.size; simp) _ _ (Vs.at_keep (w := w.alloc o) (w' := (w.alloc o).drewN n) (fun _ _ _ => rfl) _ _ (Vs.at_alloc h (Nat.le_refl _) o))
theorem s_empty (s : ByteArray) : s.size = 0 ↔ s.toList = [] := by
  rw [ByteArray.toList_eq]
  constructor
  · intro h
    have : s.data.toList.length = 0 := by simpa using h
    exact List.length_eq_zero_iff.1 this
  · intro h
    have : s.data.toList.length = 0 := by rw [h]; rfl
    simpa using this
theorem len0 (n : Nat) : n = 0 ↔ ((n : Int) == 0) = true := by rw [beq_iff_eq]; omega
theorem len1 (n : Nat) : n = 1 ↔ ((n : Int) == 1) = true := by rw [beq_iff_eq]; omega
theorem sz2000 (n : Nat) : n ≤ 2000 ↔ (n : Int) ≤ 2000 := by omega
theorem own_k012 {v : V} (h : v.k = 0 ∨ v.k = 1 ∨ v.k = 2) : ownOk v ↔ v.n = 0 ∧ v.e = 0 ∧ v.s.toList = [] ∧ ((v.kids.length : Int) == 0) = true := by
  unfold ownOk nodeOk kidsOk
  rw [if_pos (by omega), if_neg (by omega), if_neg (by omega), if_neg (by omega), s_empty, len0]
  simp only [and_assoc]
theorem own_k3 {v : V} (h : v.k = 3) : ownOk v ↔ v.e = 0 ∧ v.s.toList = [] ∧ ((v.kids.length : Int) == 0) = true := by
  unfold ownOk nodeOk kidsOk
  rw [if_neg (by omega), if_pos (by omega), if_neg (by omega), if_neg (by omega), if_neg (by omega), s_empty, len0]
  simp only [and_assoc]
theorem own_k4 {v : V} (h : v.k = 4) : ownOk v ↔ decOk v.n v.e ∧ v.s.toList = [] ∧ ((v.kids.length : Int) == 0) = true := by
  unfold ownOk nodeOk kidsOk
  rw [if_neg (by omega), if_neg (by omega), if_pos (by omega), if_neg (by omega), if_neg (by omega), if_neg (by omega), s_empty, len0]
  simp only [and_assoc]
theorem own_k5 {v : V} (h : v.k = 5) : ownOk v ↔ v.n = 0 ∧ v.e = 0 ∧ textOk v.s = true ∧ (v.s.size : Int) ≤ 2000 ∧ ((v.kids.length : Int) == 0) = true := by
  unfold ownOk nodeOk kidsOk
  rw [if_neg (by omega), if_neg (by omega), if_neg (by omega), if_pos (by omega), if_neg (by omega), if_neg (by omega), if_neg (by omega), sz2000, len0]
  simp only [and_assoc]
theorem own_k6 {v : V} (h : v.k = 6) : ownOk v ↔ v.n = 0 ∧ v.e = 0 ∧ (v.s.size : Int) ≤ 2000 ∧ ((v.kids.length : Int) == 0) = true := by
  unfold ownOk nodeOk kidsOk
  rw [if_neg (by omega), if_neg (by omega), if_neg (by omega), if_neg (by omega), if_pos (by omega), if_neg (by omega), if_neg (by omega), if_neg (by omega), sz2000, len0]
  simp only [and_assoc]
theorem own_k7 {v : V} (h : v.k = 7) : ownOk v ↔ v.n = 0 ∧ v.e = 0 ∧ v.s.toList = [] := by
  unfold ownOk nodeOk kidsOk
  rw [if_pos (by omega), if_pos (by omega), s_empty]
  simp only [and_true]
theorem own_k8 {v : V} (h : v.k = 8) : ownOk v ↔ v.n = 0 ∧ v.e = 0 ∧ v.s.toList = [] ∧ pairsOk v.kids := by
  unfold ownOk nodeOk kidsOk
  rw [if_pos (by omega), if_neg (by omega), if_neg (by omega), if_pos (by omega), s_empty]
  simp only [and_assoc]
theorem own_k9 {v : V} (h : v.k = 9) : ownOk v ↔ (0 ≤ v.n ∧ v.n ≤ 1000000) ∧ v.e = 0 ∧ v.s.toList = [] ∧ ((v.kids.length : Int) == 1) = true := by
  unfold ownOk nodeOk kidsOk
  rw [if_neg (by omega), if_neg (by omega), if_neg (by omega), if_neg (by omega), if_neg (by omega), if_pos (by omega), if_neg (by omega), if_pos (by omega), s_empty, len1]
  simp only [and_assoc]
theorem dec_bool {n e : Int} (h1 : -20 ≤ e) (h2 : e ≤ 20) (h3 : e ≠ 0) (h4 : -999999999999999999 ≤ n) (h5 : n ≤ 999999999999999999) (h6 : ¬ Int.tmod n 10 = 0) : (!(decide (0 < e) && (tens n e.toNat).isSome)) = true ↔ decOk n e := by
  unfold decOk
  cases ht : tens n e.toNat with
  | none => simp [*]
  | some x => simp [*]
theorem own_else {v : V} (h : v.k < 0 ∨ 9 < v.k) : ¬ ownOk v := by
  unfold ownOk nodeOk
  rw [if_neg (by omega), if_neg (by omega), if_neg (by omega), if_neg (by omega), if_neg (by omega), if_neg (by omega)]
  exact fun h => h.1

set_option maxHeartbeats 4000000 in
theorem specOwn_0 (v : V) (A : Option Addr) (cap : Nat) (w : World) (hk : v.k = 0) (hl : v.kids.length ≤ 1048576) :
    Calls Tryd.prog 90 #[v.agg A cap] w fun e w' => e = .returned (.bool (decide (ownOk v))) ∧ Below w.heap.size w w' := by
  have HO := Lib.hid (own_k012 (.inl hk))
  unfold V.agg
  go_enter Tryd.func90, Tryd.ntmps90
  go_wp2_with fail
  go_quiet (fail)
  go_wp2_with fail
  all_goals go_ret
  all_goals refine ⟨ret_bool ?_, below_drewN ((Below.refl _ _).alloc (Nat.le_refl _) _) _⟩
  all_goals try generalize ((v.kids.length : Int) == 0) = bl at *
  all_goals first
    | (simp [HO.out, *]; done)
    | (simp [HO.out, *]; intro; omega)
    | (simp [HO.out, *]; cases v.s.toList <;> rfl)

set_option maxHeartbeats 4000000 in
theorem specOwn_1 (v : V) (A : Option Addr) (cap : Nat) (w : World) (hk : v.k = 1) (hl : v.kids.length ≤ 1048576) :
    Calls Tryd.prog 90 #[v.agg A cap] w fun e w' => e = .returned (.bool (decide (ownOk v))) ∧ Below w.heap.size w w' := by
  have HO := Lib.hid (own_k012 (.inr (.inl hk)))
  unfold V.agg
  go_enter Tryd.func90, Tryd.ntmps90
  go_wp2_with fail
  go_quiet (fail)
  go_wp2_with fail
  all_goals go_ret
  all_goals refine ⟨ret_bool ?_, below_drewN ((Below.refl _ _).alloc (Nat.le_refl _) _) _⟩
  all_goals try generalize ((v.kids.length : Int) == 0) = bl at *
  all_goals first
    | (simp [HO.out, *]; done)
    | (simp [HO.out, *]; intro; omega)
    | (simp [HO.out, *]; cases v.s.toList <;> rfl)

set_option maxHeartbeats 4000000 in
theorem specOwn_2 (v : V) (A : Option Addr) (cap : Nat) (w : World) (hk : v.k = 2) (hl : v.kids.length ≤ 1048576) :
    Calls Tryd.prog 90 #[v.agg A cap] w fun e w' => e = .returned (.bool (decide (ownOk v))) ∧ Below w.heap.size w w' := by
  have HO := Lib.hid (own_k012 (.inr (.inr hk)))
  unfold V.agg
  go_enter Tryd.func90, Tryd.ntmps90
  go_wp2_with fail
  go_quiet (fail)
  go_wp2_with fail
  all_goals go_ret
  all_goals refine ⟨ret_bool ?_, below_drewN ((Below.refl _ _).alloc (Nat.le_refl _) _) _⟩
  all_goals try generalize ((v.kids.length : Int) == 0) = bl at *
  all_goals first
    | (simp [HO.out, *]; done)
    | (simp [HO.out, *]; intro; omega)
    | (simp [HO.out, *]; cases v.s.toList <;> rfl)

set_option maxHeartbeats 4000000 in
theorem specOwn_3 (v : V) (A : Option Addr) (cap : Nat) (w : World) (hk : v.k = 3) (hl : v.kids.length ≤ 1048576) :
    Calls Tryd.prog 90 #[v.agg A cap] w fun e w' => e = .returned (.bool (decide (ownOk v))) ∧ Below w.heap.size w w' := by
  have HO := Lib.hid (own_k3 hk)
  unfold V.agg
  go_enter Tryd.func90, Tryd.ntmps90
  go_wp2_with fail
  go_quiet (fail)
  go_wp2_with fail
  all_goals go_ret
  all_goals refine ⟨ret_bool ?_, below_drewN ((Below.refl _ _).alloc (Nat.le_refl _) _) _⟩
  all_goals try generalize ((v.kids.length : Int) == 0) = bl at *
  all_goals first
    | (simp [HO.out, *]; done)
    | (simp [HO.out, *]; intro; omega)
    | (simp [HO.out, *]; cases v.s.toList <;> rfl)

set_option maxHeartbeats 4000000 in
theorem specOwn_6 (v : V) (A : Option Addr) (cap : Nat) (w : World) (hk : v.k = 6) (hl : v.kids.length ≤ 1048576) :
    Calls Tryd.prog 90 #[v.agg A cap] w fun e w' => e = .returned (.bool (decide (ownOk v))) ∧ Below w.heap.size w w' := by
  have HO := Lib.hid (own_k6 hk)
  unfold V.agg
  go_enter Tryd.func90, Tryd.ntmps90
  go_wp2_with fail
  go_quiet (fail)
  go_wp2_with fail
  all_goals go_ret
  all_goals refine ⟨ret_bool ?_, below_drewN ((Below.refl _ _).alloc (Nat.le_refl _) _) _⟩
  all_goals try generalize ((v.kids.length : Int) == 0) = bl at *
  all_goals first
    | (simp [HO.out, *]; done)
    | (simp [HO.out, *]; intro; omega)
    | (simp [HO.out, *]; cases v.s.toList <;> rfl)

set_option maxHeartbeats 4000000 in
theorem specOwn_7 (v : V) (A : Option Addr) (cap : Nat) (w : World) (hk : v.k = 7) (hl : v.kids.length ≤ 1048576) :
    Calls Tryd.prog 90 #[v.agg A cap] w fun e w' => e = .returned (.bool (decide (ownOk v))) ∧ Below w.heap.size w w' := by
  have HO := Lib.hid (own_k7 hk)
  unfold V.agg
  go_enter Tryd.func90, Tryd.ntmps90
  go_wp2_with fail
  go_quiet (fail)
  go_wp2_with fail
  all_goals go_ret
  all_goals refine ⟨ret_bool ?_, below_drewN ((Below.refl _ _).alloc (Nat.le_refl _) _) _⟩
  all_goals try generalize ((v.kids.length : Int) == 0) = bl at *
  all_goals first
    | (simp [HO.out, *]; done)
    | (simp [HO.out, *]; intro; omega)
    | (simp [HO.out, *]; cases v.s.toList <;> rfl)

set_option maxHeartbeats 4000000 in
theorem specOwn_5 (v : V) (A : Option Addr) (cap : Nat) (w : World) (hk : v.k = 5) (hl : v.kids.length ≤ 1048576) (hs : v.s.size ≤ 1048576) :
    Calls Tryd.prog 90 #[v.agg A cap] w fun e w' => e = .returned (.bool (decide (ownOk v))) ∧ Below w.heap.size w w' := by
  have HO := Lib.hid (own_k5 hk)
  unfold V.agg
  go_enter Tryd.func90, Tryd.ntmps90
  go_wp2_with fail
  go_quiet (fail)
  go_wp2_with (go_at_call 102; refine (specTextOk v.s _ hs).mono ?_; rintro e w1 ⟨rfl, hb1⟩; obtain ⟨p0, p1, p2, p3, p4⟩ := ((blk_q (Blk.new _ _ _)).below hb1 (by simp)).five; have hq := hb1.size)
  all_goals go_ret
  all_goals refine ⟨ret_bool ?_, by first | exact below_drewN ((Below.refl _ _).alloc (Nat.le_refl _) _) _ | exact bl_q hb1⟩
  all_goals try generalize ((v.kids.length : Int) == 0) = bl at *
  all_goals try generalize ((v.kids.length : Int) == 1) = bl at *
  all_goals first
    | (simp [HO.out, *]; done)
    | (simp [HO.out, *]; intro; omega)
    | (simp [HO.out, *]; cases v.s.toList <;> rfl)

set_option maxHeartbeats 4000000 in
theorem specOwn_8 (v : V) (A : Option Addr) (cap : Nat) (w : World) (hk : v.k = 8) (hl : v.kids.length ≤ 1048576) (hat : Vs.at_ w 0 w.heap.size v.kids A) :
    Calls Tryd.prog 90 #[v.agg A cap] w fun e w' => e = .returned (.bool (decide (ownOk v))) ∧ Below w.heap.size w w' := by
  have HO := Lib.hid (own_k8 hk)
  have HA := Lib.hid hat
  clear hat
  unfold V.agg
  go_enter Tryd.func90, Tryd.ntmps90
  go_wp2_with fail
  go_quiet (fail)
  go_wp2_with (go_at_call 103; refine (specPairs v.kids A cap _ hl (at_q HA.out)).mono ?_; rintro e w1 ⟨rfl, hb1⟩)
  all_goals go_ret
  all_goals refine ⟨ret_bool ?_, by first | exact below_drewN ((Below.refl _ _).alloc (Nat.le_refl _) _) _ | exact bl_q hb1⟩
  all_goals try generalize ((v.kids.length : Int) == 0) = bl at *
  all_goals try generalize ((v.kids.length : Int) == 1) = bl at *
  all_goals first
    | (simp [HO.out, *]; done)
    | (simp [HO.out, *]; intro; omega)
    | (simp [HO.out, *]; cases v.s.toList <;> rfl)

set_option maxHeartbeats 4000000 in
theorem specOwn_9 (v : V) (A : Option Addr) (cap : Nat) (w : World) (hk : v.k = 9) (hl : v.kids.length ≤ 1048576) :
    Calls Tryd.prog 90 #[v.agg A cap] w fun e w' => e = .returned (.bool (decide (ownOk v))) ∧ Below w.heap.size w w' := by
  have HO := Lib.hid (own_k9 hk)
  unfold V.agg
  go_enter Tryd.func90, Tryd.ntmps90
  go_wp2_with fail
  go_quiet (fail)
  go_wp2_with (go_at_call 100; go_in)
  all_goals go_ret
  all_goals refine ⟨ret_bool ?_, by first | exact below_drewN ((Below.refl _ _).alloc (Nat.le_refl _) _) _ | exact bl_q hb1⟩
  all_goals try generalize ((v.kids.length : Int) == 0) = bl at *
  all_goals try generalize ((v.kids.length : Int) == 1) = bl at *
  all_goals first
    | (simp [HO.out, *]; done)
    | (simp [HO.out, *]; intro; omega)
    | (simp [HO.out, *]; cases v.s.toList <;> rfl)

set_option maxHeartbeats 4000000 in
theorem specOwn_4 (v : V) (A : Option Addr) (cap : Nat) (w : World) (hk : v.k = 4) (hl : v.kids.length ≤ 1048576) :
    Calls Tryd.prog 90 #[v.agg A cap] w fun e w' => e = .returned (.bool (decide (ownOk v))) ∧ Below w.heap.size w w' := by
  have HO := Lib.hid (own_k4 hk)
  unfold V.agg
  go_enter Tryd.func90, Tryd.ntmps90
  go_wp2_with fail
  go_quiet (fail)
  go_wp2_with (first | (go_at_call 100; go_in) | (go_at_call 101; refine (specWhole v.n v.e _ (by unfold inR; omega) (by omega)).mono ?_; rintro e w1 ⟨rfl, rfl⟩))
  all_goals go_ret
  all_goals refine ⟨ret_bool ?_, below_drewN ((Below.refl _ _).alloc (Nat.le_refl _) _) _⟩
  all_goals first
    | (refine Eq.symm (decide_eq_false (fun h => ?_)); have h := HO.out.1 h; obtain ⟨⟨q1, q2, q3, q4, q5, q6, q7⟩, q8, q9⟩ := h; first | omega | (rw [beq_iff_eq] at q9; simp_all; done) | (simp_all; done))
    | (have hb := dec_bool (n := v.n) (e := v.e) (by omega) (by omega) (by omega) (by omega) (by omega) (by assumption)
       rw [Bool.eq_iff_iff, decide_eq_true_iff, HO.out, ← hb]
       simp [*])

theorem specOwn_else (v : V) (A : Option Addr) (cap : Nat) (w : World) (hk : v.k < 0 ∨ 9 < v.k) :
    Calls Tryd.prog 90 #[v.agg A cap] w fun e w' => e = .returned (.bool (decide (ownOk v))) ∧ Below w.heap.size w w' := by
  have HO := Lib.hid (own_else hk)
  have q0 : (v.k == 0) = false := by rw [beq_eq_false_iff_ne]; omega
  have q1 : (v.k == 1) = false := by rw [beq_eq_false_iff_ne]; omega
  have q2 : (v.k == 2) = false := by rw [beq_eq_false_iff_ne]; omega
  have q3 : (v.k == 3) = false := by rw [beq_eq_false_iff_ne]; omega
  have q4 : (v.k == 4) = false := by rw [beq_eq_false_iff_ne]; omega
  have q5 : (v.k == 5) = false := by rw [beq_eq_false_iff_ne]; omega
  have q6 : (v.k == 6) = false := by rw [beq_eq_false_iff_ne]; omega
  have q7 : (v.k == 7) = false := by rw [beq_eq_false_iff_ne]; omega
  have q8 : (v.k == 8) = false := by rw [beq_eq_false_iff_ne]; omega
  have q9 : (v.k == 9) = false := by rw [beq_eq_false_iff_ne]; omega
  clear hk
  unfold V.agg
  go_enter Tryd.func90, Tryd.ntmps90
  go_wp2_with fail
  go_quiet (fail)
  go_wp2_with fail
  go_ret
  exact ⟨ret_bool (decide_eq_false HO.out).symm, below_drewN ((Below.refl _ _).alloc (Nat.le_refl _) _) _⟩
theorem specOwn (v : V) (A : Option Addr) (cap : Nat) (w : World) (hl : v.kids.length ≤ 1048576) (hs : v.s.size ≤ 1048576) (hat : Vs.at_ w 0 w.heap.size v.kids A) :
    Calls Tryd.prog 90 #[v.agg A cap] w fun e w' => e = .returned (.bool (decide (ownOk v))) ∧ Below w.heap.size w w' := by
  rcases (show v.k = 0 ∨ v.k = 1 ∨ v.k = 2 ∨ v.k = 3 ∨ v.k = 4 ∨ v.k = 5 ∨ v.k = 6 ∨ v.k = 7 ∨ v.k = 8 ∨ v.k = 9 ∨ (v.k < 0 ∨ 9 < v.k) by omega) with h | h | h | h | h | h | h | h | h | h | h
  · exact specOwn_0 v A cap w h hl
  · exact specOwn_1 v A cap w h hl
  · exact specOwn_2 v A cap w h hl
  · exact specOwn_3 v A cap w h hl
  · exact specOwn_4 v A cap w h hl
  · exact specOwn_5 v A cap w h hl hs
  · exact specOwn_6 v A cap w h hl
  · exact specOwn_7 v A cap w h hl
  · exact specOwn_8 v A cap w h hl hat
  · exact specOwn_9 v A cap w h hl
  · exact specOwn_else v A cap w h
end Go.Proofs.YtcjamnfboifjeaaDoor

/-
  ValueOk of the reference.
-/
namespace Go.Proofs.YtcjamnfboifjeaaDoor
open Go.RowKit
set_option linter.unusedVariables false
set_option maxRecDepth 100000

theorem Vs.weight_get {l : List V} (i : Nat) (h : i < l.length) : (l[i]).weight + 1 ≤ Vs.weight l := by
  have h1 := Vs.weight_step l i h
  have h2 := Vs.weight_take l (i + 1)
  omega
theorem V.weight_kids (v : V) : v.s.size ≤ v.weight ∧ v.kids.length ≤ v.weight ∧ Vs.weight v.kids ≤ v.weight := by
  have := V.weight_eq v
  have := Vs.len_le v.kids
  omega
def SpecRightSaid (v : V) : Prop := ∀ (d : Int) (A : Option Addr) (cap : Nat) (w : World), v.weight ≤ 1048576 → -1 ≤ d → d ≤ 12 → Vs.at_ w 0 w.heap.size v.kids A →
    Calls Tryd.prog 64 #[v.agg A cap, .int .i64 d] w fun e w' => e = .returned (.bool (decide (V.right d v))) ∧ Below w.heap.size w w'

set_option maxHeartbeats 2000000 in
theorem specRight_step (v : V) (hk : ∀ i (h : i < v.kids.length), SpecRightSaid v.kids[i]) : SpecRightSaid v := by
  intro d A cap w hw hd1 hd2 hat
  obtain ⟨hw1, hw2, hw3⟩ := V.weight_kids v
  have HE := Lib.hid (V.right_eq d v)
  by_cases hd : d < 0
  · have HN : Hid (¬ V.right d v) := Lib.hid (fun h => by have := (HE.out.1 h).1; omega)
    unfold V.agg
    go_enter Tryd.func64, Tryd.ntmps64
    go_wp2_with fail
    go_ret
    exact ⟨ret_bool (decide_eq_false HN.out).symm, (Below.refl _ _).alloc (Nat.le_refl _) _⟩
  · have hdd : decide (d < 0) = false := decide_eq_false hd
    have hC := fun (i : Nat) (h : i < v.kids.length) (A' : Option Addr) (c : Nat) (w' : World) (h1 : Vs.at_ w' 0 w'.heap.size (v.kids[i]).kids A') => hk i h (d - 1) A' c w' (by have := Vs.weight_get i h; omega) (by omega) (by omega) h1
    have HC := Lib.hid hC
    have HA := Lib.hid hat
    clear hC hk hat
    unfold V.agg
    go_enter Tryd.func64, Tryd.ntmps64
    go_wp2_with fail
    refine (specOwn v A cap _ (by omega) (by omega) (Vs.at_more (Nat.le_refl _) (by simp) _ _ (Vs.at_alloc HA.out (Nat.le_refl _) _))).mono ?_
    rintro e w1 ⟨rfl, hb1⟩
    have B1 := (Blk.new _ _ _).below hb1 (by simp)
    have b1 : Below w.heap.size w w1 := ((Below.refl _ w).alloc (Nat.le_refl _) _).trans (hb1.mono (by simp))
    clear hb1
    by_cases ho : ownOk v
    · rw [show decide (ownOk v) = true from decide_eq_true ho]
      have HO := Lib.hid ho
      clear ho
      go_wp2_with fail
      go_loopw [5] (fun i wr => ∃ j : Nat, j ≤ v.kids.length ∧ i = .int .i64 j ∧ Vs.right (d - 1) (v.kids.take j) ∧ Blk wr w.heap.size 28 #[.int .i64 v.k, .int .i64 v.n, .int .i64 v.e, .string v.s, .slice A v.kids.length cap] ∧ Below w.heap.size w wr) (fun i _ => v.kids.length - (intOf i).toNat)
      case atStart => exact ⟨0, Nat.zero_le _, rfl, by simp [Vs.right], B1, b1⟩
      case round =>
        obtain ⟨j, hj, rfl, hr, B, hb⟩ := hrel
        have HR := Lib.hid hr
        clear hr
        have b4 : wr.cell? ⟨w.heap.size, 4, none⟩ = some (.slice A v.kids.length cap) := B.cell 4
        by_cases hlt : j < v.kids.length
        · obtain ⟨b, off, A', cap', rfl, g1, g2, g3, ⟨c0, c1, c2, c3, c4⟩, g5⟩ := Vs.at_get j hlt (Vs.at_below HA.out hb (Nat.le_refl _))
          go_wp2_with fail
          refine (HC.out j hlt A' cap' _ (Vs.at_more (Nat.le_refl _) hb.size _ _ g5)).mono ?_
          rintro e w2 ⟨rfl, hb2⟩
          have hbw : Below w.heap.size w w2 := hb.trans (hb2.mono hb.size)
          have B' := B.below hb2 B.lt
          clear c0 c1 c2 c3 c4 b4
          by_cases hv : V.right (d - 1) v.kids[j]
          · rw [show decide (V.right (d - 1) v.kids[j]) = true from decide_eq_true hv]
            have HV := Lib.hid (Vs.right_step (d - 1) v.kids j hlt HR.out hv)
            clear hv
            go_wp2_with fail
            go_roundw
            case rel => exact ⟨j + 1, by omega, by go_num, HV.out, B', hbw⟩
            case measure => simp [intOf]; omega
          · rw [show decide (V.right (d - 1) v.kids[j]) = false from decide_eq_false hv]
            have HN : Hid (¬ V.right d v) := Lib.hid (fun h => hv ((Vs.right_iff _ _).1 (HE.out.1 h).2.2 j hlt))
            clear hv
            go_wp2_with fail
            go_ret
            exact ⟨ret_bool (decide_eq_false HN.out).symm, hbw⟩
        · obtain rfl : j = v.kids.length := by omega
          have HY : Hid (V.right d v) := Lib.hid (HE.out.2 ⟨by omega, HO.out, Vs.right_take _ _ HR.out⟩)
          go_wp2_with fail
          go_ret
          exact ⟨ret_bool (decide_eq_true HY.out).symm, hb⟩
    · rw [show decide (ownOk v) = false from decide_eq_false ho]
      have HN : Hid (¬ V.right d v) := Lib.hid (fun h => ho (HE.out.1 h).2.1)
      clear ho
      go_wp2_with fail
      go_ret
      exact ⟨ret_bool (decide_eq_false HN.out).symm, b1⟩
theorem specRight : ∀ v, SpecRightSaid v := V.all specRight_step

set_option maxHeartbeats 2000000 in
theorem specValueOk (v : V) (A : Option Addr) (cap : Nat) (w : World) (hw : v.weight ≤ 1048576) (hat : Vs.at_ w 0 w.heap.size v.kids A) :
    Calls Tryd.prog 22 #[v.agg A cap] w fun e w' => e = .returned (.bool (decide (okV v))) ∧ Below w.heap.size w w' := by
  have HA := Lib.hid hat
  have hn : v.nodes ≤ 1048577 := by have := V.nodes_weight v; omega
  clear hat
  unfold V.agg
  go_enter Tryd.func22, Tryd.ntmps22
  go_wp2_with fail
  refine (specRight v 12 A cap _ hw (by omega) (by omega) (Vs.at_more (Nat.le_refl _) (by simp) _ _ (Vs.at_alloc HA.out (Nat.le_refl _) _))).mono ?_
  rintro e w1 ⟨rfl, hb1⟩
  obtain ⟨p0, p1, p2, p3, p4⟩ := ((Blk.new _ _ _).below hb1 (by simp)).five
  have b1 : Below w.heap.size w w1 := ((Below.refl _ w).alloc (Nat.le_refl _) _).trans (hb1.mono (by simp))
  by_cases hr : V.right 12 v
  · rw [show decide (V.right 12 v) = true from decide_eq_true hr]
    have HK : Hid (decide (okV v) = decide ((v.nodes : Int) ≤ 300)) := Lib.hid (decide_eq_decide.2 ⟨fun h => by have := h.2; omega, fun h => ⟨hr, by omega⟩⟩)
    clear hr hb1
    go_wp2_with fail
    refine (specNodes v A cap _ hn (Vs.at_more (Nat.le_refl _) b1.size _ _ (Vs.at_below HA.out b1 (Nat.le_refl _)))).mono ?_
    rintro e w2 ⟨rfl, hb2⟩
    go_wp2_with fail
    go_ret
    exact ⟨ret_bool HK.out.symm, b1.trans (hb2.mono b1.size)⟩
  · rw [show decide (V.right 12 v) = false from decide_eq_false hr]
    have HK : Hid (decide (okV v) = false) := Lib.hid (decide_eq_false fun h => hr h.1)
    clear hr hb1
    go_wp2_with fail
    go_ret
    exact ⟨ret_bool HK.out.symm, b1⟩
end Go.Proofs.YtcjamnfboifjeaaDoor

/-
  What a call keeps that may write into some blocks alone.
-/
namespace Go.Proofs.YtcjamnfboifjeaaDoor
open Go.RowKit
set_option linter.unusedVariables false
set_option linter.unusedSimpArgs false

/-- Only blocks of D may have changed, and what is D's behind it was D's or is new. -/
structure Keep (D : World → Nat → Prop) (w w' : World) : Prop where
  os : w'.os = w.os
  tape : w'.tape = w.tape
  output : w'.output = w.output
  size : w.heap.size ≤ w'.heap.size
  block : ∀ k, k < w.heap.size → ¬ D w k → w'.heap[k]? = w.heap[k]? ∧ ¬ D w' k
theorem Keep.trans {D : World → Nat → Prop} {a b c : World} (h : Keep D a b) (k : Keep D b c) : Keep D a c :=
  ⟨k.os.trans h.os, k.tape.trans h.tape, k.output.trans h.output, Nat.le_trans h.size k.size, fun i hi hd => by
    obtain ⟨h1, h2⟩ := h.block i hi hd
    obtain ⟨k1, k2⟩ := k.block i (Nat.lt_of_lt_of_le hi h.size) h2
    exact ⟨k1.trans h1, k2⟩⟩
theorem Keep.refl {D : World → Nat → Prop} (w : World) : Keep D w w := ⟨rfl, rfl, rfl, Nat.le_refl _, fun _ _ h => ⟨rfl, h⟩⟩

theorem Keep.below {D : World → Nat → Prop} {w w0 w1 : World} {B : Nat} (h : Keep D w0 w1) (hb : Below B w w0) (hB : B ≤ w0.heap.size) (hd : ∀ k, k < B → ¬ D w0 k) : Below B w w1 :=
  ⟨h.os.trans hb.os, h.tape.trans hb.tape, h.output.trans hb.output, Nat.le_trans hb.size h.size, fun k hk => (h.block k (Nat.lt_of_lt_of_le hk hB) (hd k hk)).1.trans (hb.block k hk)⟩
theorem Keep.at_ {D : World → Nat → Prop} {w w' : World} (h : Keep D w w') {lo hi : Nat} {l : List V} {A : Option Addr} (ha : Vs.at_ w lo hi l A) (hh : hi ≤ w.heap.size) (hd : ∀ k, k < hi → ¬ D w k) : Vs.at_ w' lo hi l A :=
  Vs.at_keep (fun p _ hp => World.cell?_of_block (h.block p.block (by omega) (hd _ hp)).1) _ _ ha
theorem Keep.blk {D : World → Nat → Prop} {w w' : World} (h : Keep D w w') {g : Nat} {t : TypeId} {cs : Array Value} (hb : Blk w g t cs) (hd : ¬ D w g) : Blk w' g t cs ∧ ¬ D w' g :=
  ⟨(h.block g hb.lt hd).1.trans hb, (h.block g hb.lt hd).2⟩

theorem Blk.set1 {w : World} {g : Nat} {t : TypeId} {u : Value} (h : Blk w g t #[u]) (u' : Value) : Blk (w.setCell ⟨g, 0, none⟩ u') g t #[u'] := one_setCell h
/-- A store into the one captured variable. -/
theorem keep_set1 {g : Nat} {w : World} {a : World} (h : Keep (fun _ k => k = g) a w) (u : Value) : Keep (fun _ k => k = g) a (w.setCell ⟨g, 0, none⟩ u) :=
  ⟨h.os, h.tape, h.output, by simpa using h.size, fun k hk hd => ⟨(Below.heap_setCell w ⟨g, 0, none⟩ u k (by simpa using hd)).trans (h.block k hk hd).1, hd⟩⟩
theorem keep_alloc1 {g : Nat} {a w : World} (h : Keep (fun _ k => k = g) a w) (o : Obj) : Keep (fun _ k => k = g) a (w.alloc o) :=
  ⟨h.os, h.tape, h.output, Nat.le_trans h.size (by simp), fun k hk hd => ⟨(Below.heap_alloc w o k (Nat.lt_of_lt_of_le hk h.size)).trans (h.block k hk hd).1, hd⟩⟩
end Go.Proofs.YtcjamnfboifjeaaDoor

/-
  The program's isValue and ValueOk.
-/
namespace Go.Proofs.YtcjamnfboifjeaaDoor
open Go.RowKit
set_option linter.unusedVariables false
set_option maxRecDepth 100000
set_option linter.unusedSimpArgs false

def insV (L : Nat) (d : Int) (l : List V) : Prop := Vs.nodes l ≤ L ∧ Vs.rightI (12 - (d + 1)) l
theorem inV_no1 {d : Int} {v : V} : ¬ inV 0 d v := fun h => by have := h.1; have := V.nodes_pos v; omega
theorem inV_no2 {L : Nat} {d : Int} {v : V} (hd : 12 < d) : ¬ inV L d v := fun h => by have := ((V.rightI_eq _ _).1 h.2).1; omega
theorem inV_no3 {L : Nat} {d : Int} {v : V} (hl : L < v.kids.length + 1) : ¬ inV L d v := fun h => by have := h.1; have := V.nodes_eq v; have := Vs.len_nodes v.kids; omega
theorem inV_no4 {L : Nat} {d : Int} {v : V} (hn : ¬ nodeOk v) : ¬ inV L d v := fun h => hn ((V.rightI_eq _ _).1 h.2).2.1
theorem inV_no5 {L : Nat} {d : Int} {v : V} (hn : ¬ kidsI v) : ¬ inV L d v := fun h => hn ((V.rightI_eq _ _).1 h.2).2.2.1
theorem inV_iff {L : Nat} {d : Int} {v : V} (hL : 1 ≤ L) (hd : d ≤ 12) (hn : nodeOk v) (hk : kidsI v) : inV L d v ↔ insV (L - 1) d v.kids := by
  unfold inV insV
  rw [V.rightI_eq, V.nodes_eq, show 12 - d - 1 = 12 - (d + 1) by omega]
  constructor
  · rintro ⟨h1, _, _, _, h2⟩; exact ⟨by omega, h2⟩
  · rintro ⟨h1, h2⟩; exact ⟨by omega, by omega, hn, hk, h2⟩
theorem insV_step {L : Nat} {d : Int} {l : List V} {j : Nat} (hj : j < l.length) (h : insV L d (l.take j)) (hv : inV (L - Vs.nodes (l.take j)) (d + 1) l[j]) : insV L d (l.take (j + 1)) := by
  have h1 := hv.1
  have h2 := h.1
  exact ⟨by rw [Vs.nodes_step l j hj]; omega, Vs.rightI_step _ l j hj h.2 hv.2⟩
theorem insV_no {L : Nat} {d : Int} {l : List V} {j : Nat} (hj : j < l.length) (hv : ¬ inV (L - Vs.nodes (l.take j)) (d + 1) l[j]) : ¬ insV L d l := fun h => hv ⟨by
    have h1 := h.1
    have h2 := Vs.nodes_step l j hj
    have h3 := Vs.nodes_take l (j + 1)
    omega, (Vs.rightI_iff _ _).1 h.2 j hj⟩
/-- The frame of a value's test: its three new blocks, and the count one less. -/
theorem val_frame {w : World} {p : Nat} {tv ti tp : TypeId} {cs : Array Value} {u u' d q : Value} (hB : Blk w p ti #[u]) :
    ∃ w3, w3 = ((((w.alloc (.cells cs tv)).alloc (.cells #[d] ti)).alloc (.cells #[q] tp)).setCell ⟨p, 0, none⟩ u') ∧ Blk w3 w.heap.size tv cs ∧ Blk w3 (w.heap.size + 1) ti #[d] ∧ Blk w3 (w.heap.size + 1 + 1) tp #[q] ∧ Blk w3 p ti #[u'] ∧ Keep (fun _ k => k = p) w w3 := by
  have hlt := hB.lt
  refine ⟨_, rfl, ?_, ?_, ?_, ?_, ?_⟩
  · exact (Below.heap_setCell _ ⟨p, 0, none⟩ u' _ (by simp; omega)).trans (((Blk.new w _ _).alloc _).alloc _)
  · have h := (Blk.new (w.alloc (.cells cs tv)) ti #[d]).alloc (.cells #[q] tp)
    rw [show (w.alloc (.cells cs tv)).heap.size = w.heap.size + 1 by simp] at h
    exact (Below.heap_setCell _ ⟨p, 0, none⟩ u' _ (by simp; omega)).trans h
  · have h := Blk.new ((w.alloc (.cells cs tv)).alloc (.cells #[d] ti)) tp #[q]
    rw [show ((w.alloc (.cells cs tv)).alloc (.cells #[d] ti)).heap.size = w.heap.size + 1 + 1 by simp] at h
    exact (Below.heap_setCell _ ⟨p, 0, none⟩ u' _ (by simp; omega)).trans h
  · exact (((hB.alloc _).alloc _).alloc _).set1 u'
  · exact keep_set1 (keep_alloc1 (keep_alloc1 (keep_alloc1 (Keep.refl w) _) _) _) u'

def ImplValSaid (v : V) : Prop := ∀ (A : Option Addr) (cap L : Nat) (d : Int) (p : Nat) (W w : World), v.weight ≤ 1048576 → L ≤ 300 → 0 ≤ d → d ≤ 13 → Tabs W → Vs.at_ W 0 W.heap.size v.kids A →
    Below W.heap.size W w → W.heap.size ≤ p → Blk w p 3 #[.int .i64 L] →
    Calls Tryd.prog 63 #[v.agg A cap, .int .i64 d, .pointer (some ⟨p, 0, none⟩)] w fun e w' =>
      e = .returned (.bool (decide (inV L d v))) ∧ (inV L d v → Blk w' p 3 #[.int .i64 ((L - v.nodes : Nat) : Int)]) ∧ Keep (fun _ k => k = p) w w'

set_option maxHeartbeats 1000000 in
theorem implKid (v : V) (hk : ImplValSaid v) (A : Option Addr) (cap L : Nat) (d : Int) (p gd gl : Nat) (W w : World) (hw : v.weight ≤ 1048576) (hL : L ≤ 300) (hd0 : 0 ≤ d) (hd1 : d ≤ 12) (hT : Tabs W) (hat : Vs.at_ W 0 W.heap.size v.kids A)
    (hb : Below W.heap.size W w) (hp : W.heap.size ≤ p) (hB : Blk w p 3 #[.int .i64 L]) (hBd : Blk w gd 3 #[.int .i64 d]) (hBl : Blk w gl 66 #[.pointer (some ⟨p, 0, none⟩)]) :
    Calls Tryd.prog 89 #[v.agg A cap, .pointer (some ⟨gd, 0, none⟩), .pointer (some ⟨gl, 0, none⟩)] w fun e w' =>
      e = .returned (.bool (!decide (inV L (d + 1) v))) ∧ (inV L (d + 1) v → Blk w' p 3 #[.int .i64 ((L - v.nodes : Nat) : Int)]) ∧ Keep (fun _ k => k = p) w w' := by
  have hd := hBd.cell 0
  have hl := hBl.cell 0
  have ld := hBd.lt
  have ll := hBl.lt
  have HC := Lib.hid (fun w' h1 h2 => hk A cap L (d + 1) p W w' hw hL (by omega) (by omega) hT hat h1 hp h2)
  have HB := Lib.hid hB
  have HW := Lib.hid hb
  have hbs := hb.size
  clear hk hT hat hB hBd hBl hb
  unfold V.agg
  unfold V.agg at HC
  go_enter Tryd.func89, Tryd.ntmps89
  go_wp2_with fail
  refine (HC.out _ (HW.out.alloc hbs _) (HB.out.alloc _)).mono ?_
  rintro e w1 ⟨rfl, h1, h2⟩
  have H1 := Lib.hid h1
  have H2 := Lib.hid ((keep_alloc1 (Keep.refl w) _).trans h2)
  clear h1 h2
  go_wp2_with fail
  go_ret
  exact ⟨rfl, H1.out, H2.out⟩

theorem kidEnters : ∀ (args : Array Value) (w : World), (callFunc 89 args).run Tryd.prog w = .ok (.enter 89 args) w :=
  enters_of Tryd.func89 (by kernel_rfl) rfl

/-- What holds behind j kids. -/
def KRel (l : List V) (L : Nat) (d : Int) (p : Nat) (w : World) (j : Nat) (wr : World) : Prop :=
  insV L d (l.take j) ∧ Blk wr p 3 #[.int .i64 ((L - Vs.nodes (l.take j) : Nat) : Int)] ∧ Keep (fun _ k => k = p) w wr

set_option maxHeartbeats 2000000 in
theorem implKids_index (l : List V) (hk : ∀ i (h : i < l.length), ImplValSaid l[i]) (A : Option Addr) (cap L : Nat) (d : Int) (p gd gl : Nat) (W w : World) (hw : Vs.weight l ≤ 1048576) (hL : L ≤ 300) (hd0 : 0 ≤ d) (hd1 : d ≤ 12) (hT : Tabs W) (hat : Vs.at_ W 0 W.heap.size l A)
    (hb : Below W.heap.size W w) (hp : W.heap.size ≤ p) (hB : Blk w p 3 #[.int .i64 L]) (hBd : Blk w gd 3 #[.int .i64 d]) (hBl : Blk w gl 66 #[.pointer (some ⟨p, 0, none⟩)]) (hgd : gd ≠ p) (hgl : gl ≠ p) :
    Calls Tryd.prog 99 #[.slice A l.length cap, .func (Fn.func 89) #[] #[.pointer (some ⟨gd, 0, none⟩), .pointer (some ⟨gl, 0, none⟩)]] w fun e w' =>
      ∃ r : Int, e = .returned (.int .i64 r) ∧ ((insV L d l ∧ r = -1 ∧ Blk w' p 3 #[.int .i64 ((L - Vs.nodes l : Nat) : Int)]) ∨ (¬ insV L d l ∧ 0 ≤ r)) ∧ Keep (fun _ k => k = p) w w' := by
  have hl : l.length ≤ 1048576 := by have := Vs.len_le l; omega
  have HC := Lib.hid (fun (i : Nat) (h : i < l.length) (A' : Option Addr) (c M : Nat) (w' : World) (h0 : M ≤ 300) (h1 : Vs.at_ W 0 W.heap.size (l[i]).kids A') (h2 : Below W.heap.size W w') (h3 : Blk w' p 3 #[.int .i64 M]) (h4 : Blk w' gd 3 #[.int .i64 d]) (h5 : Blk w' gl 66 #[.pointer (some ⟨p, 0, none⟩)]) => implKid l[i] (hk i h) A' c M d p gd gl W w' (by have := Vs.weight_get i h; omega) h0 hd0 hd1 hT h1 h2 hp h3 h4 h5)
  have HA := Lib.hid hat
  have HW := Lib.hid hb
  have hbs := hb.size
  have h0 : KRel l L d p w 0 w := ⟨⟨by simp [Vs.nodes], by simp [Vs.rightI]⟩, by simpa [Vs.nodes] using hB, Keep.refl w⟩
  have H0 := Lib.hid h0
  have HBD := Lib.hid hBd
  have HBL := Lib.hid hBl
  have hE := kidEnters
  clear hk hT hat hB hBd hBl hb h0
  go_enter Tryd.func99, Tryd.ntmps99
  go_wp2_with fail
  go_loopw [8] (fun i wr => ∃ j : Nat, j ≤ l.length ∧ i = .int .i64 j ∧ KRel l L d p w j wr) (fun i _ => l.length - (intOf i).toNat)
  case atStart => exact ⟨0, Nat.zero_le _, rfl, H0.out⟩
  case round =>
    obtain ⟨j, hj, rfl, hr⟩ := hrel
    have HR := Lib.hid hr
    clear hr
    by_cases hlt : j < l.length
    · have hbr : Below W.heap.size W wr := HR.out.2.2.below HW.out hbs (fun k hk => by omega)
      obtain ⟨b, off, A', cap', rfl, g1, g2, g3, ⟨c0, c1, c2, c3, c4⟩, g5⟩ := Vs.at_get j hlt (Vs.at_below HA.out hbr (Nat.le_refl _))
      have hg5 := (Vs.at_get j hlt HA.out)
      obtain ⟨b', off', A'', cap'', e1, _, _, _, ⟨_, _, _, _, d4⟩, g6⟩ := hg5
      injection e1 with e1
      injection e1 with e11 e12
      subst e11 e12
      have hsame : some (Value.slice A'' (l[j]).kids.length cap'') = some (Value.slice A' (l[j]).kids.length cap') := by rw [← d4, ← c4]; exact (hbr.cell g2).symm
      injection hsame with hsame
      injection hsame with hs1 hs2 hs3
      subst hs1
      have G6 := Lib.hid g6
      have HBR := Lib.hid hbr
      clear g5 g6 d4 hbr
      go_wp2_with fail
      refine (HC.out j hlt A'' cap' (L - Vs.nodes (l.take j)) wr (by omega) G6.out HBR.out HR.out.2.1 (HR.out.2.2.blk HBD.out hgd).1 (HR.out.2.2.blk HBL.out hgl).1).mono ?_
      rintro e w1 ⟨rfl, h1, h2⟩
      have H1 := Lib.hid h1
      have H2 := Lib.hid (HR.out.2.2.trans h2)
      clear h1 h2 c0 c1 c2 c3 c4
      by_cases hv : inV (L - Vs.nodes (l.take j)) (d + 1) l[j]
      · have HV := Lib.hid hv
        rw [show decide (inV (L - Vs.nodes (l.take j)) (d + 1) l[j]) = true from decide_eq_true hv]
        have hst : KRel l L d p w (j + 1) w1 := ⟨insV_step hlt HR.out.1 hv, by
          have h := H1.out hv
          rw [Vs.nodes_step l j hlt, ← Nat.sub_sub]
          exact h, H2.out⟩
        have HST := Lib.hid hst
        clear hv hst
        go_wp2_with fail
        go_roundw
        case rel => exact ⟨j + 1, by omega, by go_num, HST.out⟩
        case measure => simp [intOf]; omega
      · rw [show decide (inV (L - Vs.nodes (l.take j)) (d + 1) l[j]) = false from decide_eq_false hv]
        have HN := Lib.hid (insV_no hlt hv)
        clear hv
        go_wp2_with fail
        go_ret
        exact ⟨_, rfl, .inr ⟨HN.out, by omega⟩, H2.out⟩
    · obtain rfl : j = l.length := by omega
      go_wp2_with fail
      go_ret
      have h := HR.out
      unfold KRel at h
      rw [List.take_length] at h
      exact ⟨_, rfl, .inl ⟨h.1, rfl, h.2.1⟩, h.2.2⟩
end Go.Proofs.YtcjamnfboifjeaaDoor
