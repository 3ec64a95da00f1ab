/-
  FnSorted returns true for every code; it reads as it did; the listed tables lie as the card lists them.
-/
import Derived.Test.YtcjamnfboifjeaaDoorPLFnSortedh
import Derived.StillTailTactics
import Derived.OneCell
import Derived.Shelf.Abstract
import Derived.Test.YtcjamnfboifjeaaDoorShelfV
import Derived.PinnedBridge
import Derived.Lib.LaidU8T
import Derived.Deep.RegionHeld3
import Derived.Test.YtcjamnfboifjeaaDoorCards
import Derived.Test.YtcjamnfboifjeaaDoorTie
import Derived.Lay
import Derived.LaidOnce
import Derived.SevenTiedAt
/-
  impl.Sorted.
-/
namespace Go.Proofs.YtcjamnfboifjeaaDoor
open Go.RowKit
set_option linter.unusedVariables false
set_option linter.unusedSimpArgs false
set_option maxRecDepth 100000

theorem Copied.up {u : V} {w w3 w4 W : World} {A : Option Addr} {c p : Nat} {F : List Nat} (hc : u.kids.length ≤ c) (hl : Vs.lies w4 u.kids A F) (hnd : F.Nodup) (hF : ∀ x ∈ F, w3.heap.size ≤ x) (hb : Below w3.heap.size w3 w4) (h3 : Below w.heap.size w w3)
    (hp : w.heap.size ≤ p) (hp3 : p < w3.heap.size) (hg : Gr p w4 W) : Copied u w (.returned (u.agg A c)) W := by
  have h4 := hb.size
  have h5 := h3.size
  exact ⟨A, c, F, rfl, hc, Vs.lies_same hl ⟨hg.size, fun x hx => hg.block x (lies_lt hl x hx) (fun e => by injection e with e; have := hF x hx; omega)⟩, hnd, fun x hx => by have := hF x hx; omega,
    (h3.trans (hb.mono h3.size)).grown hg (by omega) (fun k hk => by injection hk with hk; omega)⟩
set_option maxHeartbeats 4000000 in
theorem implSorted (v : V) (A : Option Addr) (cap : Nat) (w : World) (hw : v.weight ≤ 1048576) (hT : Tabs w) (hat : Vs.at_ w 0 w.heap.size v.kids A) :
    Calls Tryd.prog 9 #[v.agg A cap] w (Copied (sortV v) w) := by
  have hn : v.nodes ≤ 1048577 := by have := V.nodes_weight v; omega
  have HCO := Lib.hid (fun (W : World) (hb : Below w.heap.size w W) => implValueOk v A cap W hw (hT.below hb) (Vs.at_more (Nat.le_refl _) hb.size _ _ (Vs.at_below hat hb (Nat.le_refl _))))
  have HCS := Lib.hid (fun (W : World) (hb : Below w.heap.size w W) (ho : okV v) => implSorted0 v A cap W hn (fit_right v 12 ho.1) (Vs.at_more (Nat.le_refl _) hb.size _ _ (Vs.at_below hat hb (Nat.le_refl _))))
  have HCW := Lib.hid (fun (W : World) (hb : Below w.heap.size w W) => implOwn v A cap W hn (Vs.at_more (Nat.le_refl _) hb.size _ _ (Vs.at_below hat hb (Nat.le_refl _))))
  clear hat hT hw
  unfold V.agg
  go_enter Tryd.func9, Tryd.ntmps9
  go_wp2_with fail
  obtain ⟨w2, hw2, R0, R1, b0, z0⟩ := two_new w 28 28 #[.int .i64 v.k, .int .i64 v.n, .int .i64 v.e, .string v.s, .slice A v.kids.length cap] #[.int .i64 0, .int .i64 0, .int .i64 0, .string ⟨#[]⟩, .slice none 0 0]
  rw [← hw2]
  clear hw2
  refine (HCO.out w2 b0).mono ?_
  rintro e w3 ⟨rfl, hb3⟩
  have R03 := R0.below hb3 (by omega)
  have R13 := Lib.hid (R1.below hb3 (by omega))
  have b3 := b0.trans (hb3.mono (by omega))
  have hz3 : w.heap.size + 1 < w3.heap.size := R13.out.lt
  obtain ⟨p0, p1, p2, p3, p4⟩ := R03.five
  have HB3 := Lib.hid b3
  clear R0 R1 hb3 b0 z0 HCO b3
  by_cases ho : okV v
  · have HO := Lib.hid ho
    have HV : Hid (sortV v = v.srt) := Lib.hid (if_pos ho)
    rw [decide_eq_true ho]
    clear ho
    go_wp2_with fail
    refine (HCS.out w3 HB3.out HO.out).mono ?_
    rintro e w4 ⟨A', c', F, rfl, hc', hl4, hnd, hF, hb4⟩
    have R14 := Lib.hid (R13.out.below hb4 hz3)
    have HU := Lib.hid (fun (W : World) (hg : Gr (w.heap.size + 1) w4 W) => Copied.up hc' hl4 hnd hF hb4 HB3.out (by omega) hz3 hg)
    clear hl4 hnd hF hb4 hc' p0 p1 p2 p3 p4
    obtain ⟨p0, p1, p2, p3, p4⟩ := R14.out.five
    have f0 := R14.out.frozen 0
    have f1 := R14.out.frozen 1
    have f2 := R14.out.frozen 2
    have f3 := R14.out.frozen 3
    have f4 := R14.out.frozen 4
    unfold V.agg at *
    go_wp2_with fail
    refine bodyPost_ret (v := .agg #[.int .i64 v.srt.k, .int .i64 v.srt.n, .int .i64 v.srt.e, .string v.srt.s, .slice A' v.srt.kids.length c']) (by simp [results, Tryd.results9, go_sem, p0, p1, p2, p3, p4]) rfl ?_
    rw [HV.out]
    exact HU.out _ (by repeat (first | exact Gr.refl _ _ | (refine Gr.trans ?_ (Gr.set _ _ _ _))))
  · have HV : Hid (sortV v = v) := Lib.hid (if_neg ho)
    rw [decide_eq_false ho]
    clear ho
    go_wp2_with fail
    refine (HCW.out w3 HB3.out).mono ?_
    rintro e w4 ⟨A', c', F, rfl, hc', hl4, hnd, hF, hb4⟩
    have R14 := Lib.hid (R13.out.below hb4 hz3)
    have HU := Lib.hid (fun (W : World) (hg : Gr (w.heap.size + 1) w4 W) => Copied.up hc' hl4 hnd hF hb4 HB3.out (by omega) hz3 hg)
    clear hl4 hnd hF hb4 hc' p0 p1 p2 p3 p4
    obtain ⟨p0, p1, p2, p3, p4⟩ := R14.out.five
    have f0 := R14.out.frozen 0
    have f1 := R14.out.frozen 1
    have f2 := R14.out.frozen 2
    have f3 := R14.out.frozen 3
    have f4 := R14.out.frozen 4
    unfold V.agg at *
    go_wp2_with fail
    refine bodyPost_ret (v := .agg #[.int .i64 v.k, .int .i64 v.n, .int .i64 v.e, .string v.s, .slice A' v.kids.length c']) (by simp [results, Tryd.results9, go_sem, p0, p1, p2, p3, p4]) rfl ?_
    rw [HV.out]
    exact HU.out _ (by repeat (first | exact Gr.refl _ _ | (refine Gr.trans ?_ (Gr.set _ _ _ _))))
end Go.Proofs.YtcjamnfboifjeaaDoor

/-
  spec.Sorted.
-/
namespace Go.Proofs.YtcjamnfboifjeaaDoor
open Go.RowKit
set_option linter.unusedVariables false
set_option linter.unusedSimpArgs false
set_option maxRecDepth 100000

set_option maxHeartbeats 4000000 in
theorem specSorted (v : V) (A : Option Addr) (cap : Nat) (w : World) (hw : v.weight ≤ 1048576) (hat : Vs.at_ w 0 w.heap.size v.kids A) :
    Calls Tryd.prog 7 #[v.agg A cap] w (Copied (sortV v) w) := by
  have hn : v.nodes ≤ 1048577 := by have := V.nodes_weight v; omega
  have HCO := Lib.hid (fun (W : World) (hb : Below w.heap.size w W) => specValueOk v A cap W hw (Vs.at_more (Nat.le_refl _) hb.size _ _ (Vs.at_below hat hb (Nat.le_refl _))))
  have HCS := Lib.hid (fun (W : World) (hb : Below w.heap.size w W) (ho : okV v) => specSort0 v A cap W hn (fit_right v 12 ho.1) (Vs.at_more (Nat.le_refl _) hb.size _ _ (Vs.at_below hat hb (Nat.le_refl _))))
  have HCW := Lib.hid (fun (W : World) (hb : Below w.heap.size w W) => specCopy v A cap W hn (Vs.at_more (Nat.le_refl _) hb.size _ _ (Vs.at_below hat hb (Nat.le_refl _))))
  clear hat hw
  unfold V.agg
  go_enter Tryd.func7, Tryd.ntmps7
  go_wp2_with fail
  obtain ⟨w2, hw2, R0, R1, b0, z0⟩ := two_new w 28 28 #[.int .i64 v.k, .int .i64 v.n, .int .i64 v.e, .string v.s, .slice A v.kids.length cap] #[.int .i64 0, .int .i64 0, .int .i64 0, .string ⟨#[]⟩, .slice none 0 0]
  rw [← hw2]
  clear hw2
  refine (HCO.out w2 b0).mono ?_
  rintro e w3 ⟨rfl, hb3⟩
  have R03 := R0.below hb3 (by omega)
  have R13 := Lib.hid (R1.below hb3 (by omega))
  have b3 := b0.trans (hb3.mono (by omega))
  have hz3 : w.heap.size + 1 < w3.heap.size := R13.out.lt
  obtain ⟨p0, p1, p2, p3, p4⟩ := R03.five
  have HB3 := Lib.hid b3
  clear R0 R1 hb3 b0 z0 HCO b3
  by_cases ho : okV v
  · have HO := Lib.hid ho
    have HV : Hid (sortV v = v.srt) := Lib.hid (if_pos ho)
    rw [decide_eq_true ho]
    clear ho
    go_wp2_with fail
    refine (HCS.out w3 HB3.out HO.out).mono ?_
    rintro e w4 ⟨A', c', F, rfl, hc', hl4, hnd, hF, hb4⟩
    have R14 := Lib.hid (R13.out.below hb4 hz3)
    have HU := Lib.hid (fun (W : World) (hg : Gr (w.heap.size + 1) w4 W) => Copied.up hc' hl4 hnd hF hb4 HB3.out (by omega) hz3 hg)
    clear hl4 hnd hF hb4 hc' p0 p1 p2 p3 p4
    obtain ⟨p0, p1, p2, p3, p4⟩ := R14.out.five
    have f0 := R14.out.frozen 0
    have f1 := R14.out.frozen 1
    have f2 := R14.out.frozen 2
    have f3 := R14.out.frozen 3
    have f4 := R14.out.frozen 4
    unfold V.agg at *
    go_wp2_with fail
    refine bodyPost_ret (v := .agg #[.int .i64 v.srt.k, .int .i64 v.srt.n, .int .i64 v.srt.e, .string v.srt.s, .slice A' v.srt.kids.length c']) (by simp [results, Tryd.results7, go_sem, p0, p1, p2, p3, p4]) rfl ?_
    rw [HV.out]
    exact HU.out _ (by repeat (first | exact Gr.refl _ _ | (refine Gr.trans ?_ (Gr.set _ _ _ _))))
  · have HV : Hid (sortV v = v) := Lib.hid (if_neg ho)
    rw [decide_eq_false ho]
    clear ho
    go_wp2_with fail
    refine (HCW.out w3 HB3.out).mono ?_
    rintro e w4 ⟨A', c', F, rfl, hc', hl4, hnd, hF, hb4⟩
    have R14 := Lib.hid (R13.out.below hb4 hz3)
    have HU := Lib.hid (fun (W : World) (hg : Gr (w.heap.size + 1) w4 W) => Copied.up hc' hl4 hnd hF hb4 HB3.out (by omega) hz3 hg)
    clear hl4 hnd hF hb4 hc' p0 p1 p2 p3 p4
    obtain ⟨p0, p1, p2, p3, p4⟩ := R14.out.five
    have f0 := R14.out.frozen 0
    have f1 := R14.out.frozen 1
    have f2 := R14.out.frozen 2
    have f3 := R14.out.frozen 3
    have f4 := R14.out.frozen 4
    unfold V.agg at *
    go_wp2_with fail
    refine bodyPost_ret (v := .agg #[.int .i64 v.k, .int .i64 v.n, .int .i64 v.e, .string v.s, .slice A' v.kids.length c']) (by simp [results, Tryd.results7, go_sem, p0, p1, p2, p3, p4]) rfl ?_
    rw [HV.out]
    exact HU.out _ (by repeat (first | exact Gr.refl _ _ | (refine Gr.trans ?_ (Gr.set _ _ _ _))))
end Go.Proofs.YtcjamnfboifjeaaDoor

/-
  The laws' own test of equality.
-/
namespace Go.Proofs.YtcjamnfboifjeaaDoor
open Go.RowKit
set_option linter.unusedVariables false
set_option maxRecDepth 100000
set_option linter.unusedSimpArgs false

def LawSameSaid (a : V) : Prop := ∀ (b : V) (A B : Option Addr) (ca cb : Nat) (w : World), a.nodes ≤ 1048577 → b.nodes ≤ 1048577 → Vs.at_ w 0 w.heap.size a.kids A → Vs.at_ w 0 w.heap.size b.kids B →
    Calls Tryd.prog 23 #[a.agg A ca, b.agg B cb] w fun e w' => e = .returned (.bool (V.same a b)) ∧ Below w.heap.size w w'
theorem Vs.same_len {l m : List V} (h : l.length = m.length) : Vs.same l m = decide (Vs.cmp l m = 0) := by unfold Vs.same; simp [h]

set_option maxHeartbeats 8000000 in
theorem lawSame_step (a : V) (hk : ∀ i (h : i < a.kids.length), LawSameSaid a.kids[i]) : LawSameSaid a := by
  intro b A B ca cb w hn hm hat hbt
  rw [V.nodes_eq] at hn hm
  have hla : a.kids.length ≤ 1048576 := by have := Vs.len_nodes a.kids; omega
  have hlb : b.kids.length ≤ 1048576 := by have := Vs.len_nodes b.kids; omega
  have HK := fun (i : Nat) (h : i < a.kids.length) (h2 : i < b.kids.length) (A' B' : Option Addr) (c c' : Nat) (w' : World) (h1 : Vs.at_ w' 0 w'.heap.size (a.kids[i]).kids A') (h2' : Vs.at_ w' 0 w'.heap.size (b.kids[i]).kids B') => hk i h b.kids[i] A' B' c c' w' (by have := Vs.nodes_get i h; omega) (by have := Vs.nodes_get i h2; omega) h1 h2'
  have HC := Lib.hid HK
  clear HK hk
  have HA := Lib.hid hat
  have HB := Lib.hid hbt
  have HS := Lib.hid (Vs.cmp_first a.kids b.kids)
  have HN := Lib.hid (Vs.cmp_none a.kids b.kids)
  clear hat hbt
  unfold V.agg
  have HN2 : ∀ h : V.ord a b ≠ 0, V.same a b = false := V.same_no
  have HO := Lib.hid (V.ord_iff a b)
  have HNN := Lib.hid HN2
  clear HN2 hn hm
  by_cases h1 : (a.k == b.k) = true
  · by_cases h2 : (a.n == b.n) = true
    · by_cases h3 : (a.e == b.e) = true
      · by_cases h4 : (a.s.toList == b.s.toList) = true
        · by_cases h5 : a.kids.length = b.kids.length
          · have HY := Lib.hid ((V.same_yes (eq_of_beq h1) (eq_of_beq h2) (eq_of_beq h3) (text_eq h4)).trans (Vs.same_len h5))
            have HL := Lib.hid h5
            have B0 := Lib.hid (Blk.new w 28 #[.int .i64 a.k, .int .i64 a.n, .int .i64 a.e, .string a.s, .slice A a.kids.length ca])
            have h1' : (a.k != b.k) = false := by simp [bne, h1]
            have h2' : (a.n != b.n) = false := by simp [bne, h2]
            have h3' : (a.e != b.e) = false := by simp [bne, h3]
            have h4' : (a.s.toList != b.s.toList) = false := by simp [bne, h4]
            have h5' : ((a.kids.length : Int) == (b.kids.length : Int)) = true := by rw [h5]; simp
            have h5'' : ((a.kids.length : Int) != (b.kids.length : Int)) = false := by rw [h5]; simp
            clear h5
            go_enter Tryd.func23, Tryd.ntmps23
            go_wp2_with fail
            obtain ⟨w2, hw2, Ba, Bb, b1, z2⟩ := two_new w 28 28 #[.int .i64 a.k, .int .i64 a.n, .int .i64 a.e, .string a.s, .slice A a.kids.length ca] #[.int .i64 b.k, .int .i64 b.n, .int .i64 b.e, .string b.s, .slice B b.kids.length cb]
            rw [← hw2]
            clear hw2
            go_loopw [5] (fun i wr => ∃ j : Nat, j ≤ a.kids.length ∧ i = .int .i64 j ∧ (∀ k (h1 : k < a.kids.length) (h2 : k < b.kids.length), k < j → V.cmp a.kids[k] b.kids[k] = 0) ∧ Below w2.heap.size w2 wr) (fun i _ => a.kids.length - (intOf i).toNat)
            case atStart => exact ⟨0, Nat.zero_le _, rfl, fun k _ _ hk => by omega, Below.refl _ _⟩
            case round =>
              obtain ⟨j, hj, rfl, hz, hb⟩ := hrel
              have HH := Lib.hid hz
              clear hz
              have Ca := Ba.below hb (by omega)
              have Cb := Bb.below hb (by omega)
              obtain ⟨p0, p1, p2, p3, p4⟩ := Ca.five
              obtain ⟨q0, q1, q2, q3, q4⟩ := Cb.five
              have hbs := hb.size
              have hbw : Below w.heap.size w wr := b1.trans (hb.mono b1.size)
              by_cases hlt : j < a.kids.length
              · have hlt2 : j < b.kids.length := by have := HL.out; omega
                obtain ⟨g, off, A', cap', rfl, g1, g2, g3, ⟨c0, c1, c2, c3, c4⟩, g5⟩ := Vs.at_get j hlt (Vs.at_below HA.out hbw (Nat.le_refl _))
                obtain ⟨g', off2, A2', cap2', rfl, g12, g22, g32, ⟨d0, d1, d2, d3, d4⟩, g52⟩ := Vs.at_get j hlt2 (Vs.at_below HB.out hbw (Nat.le_refl _))
                have HJ := Lib.hid (HS.out j hlt hlt2 HH.out)
                clear p0 p1 p2 p3 q0 q1 q2 q3 Ca Cb
                have hgw : g < wr.heap.size := by omega
                have hgw' : g' < wr.heap.size := by omega
                go_wp2_with fail
                go_still_tail 10, (by kernel_rfl)
                change wpList _ _ _ _ _ wr.drew
                go_wp2_with fail
                refine (HC.out j hlt hlt2 A' A2' cap' cap2' wr.drew (Vs.at_more (Nat.le_refl _) hbw.size _ _ (Vs.at_drew g5)) (Vs.at_more (Nat.le_refl _) hbw.size _ _ (Vs.at_drew g52))).mono ?_
                rintro e w3 ⟨rfl, hb3⟩
                have hb4 : Below w2.heap.size w2 w3 := hb.drew.trans (hb3.mono hb.size)
                clear c0 c1 c2 c3 c4 d0 d1 d2 d3 d4 p4 q4
                by_cases h0 : V.cmp a.kids[j] b.kids[j] = 0
                · have H0 := Lib.hid h0
                  rw [show V.same a.kids[j] b.kids[j] = true from decide_eq_true h0]
                  clear h0
                  go_wp2_with fail
                  go_roundw
                  case rel => exact ⟨j + 1, by omega, by go_num, fun k h1 h2 hk => by
                    by_cases hk2 : k = j
                    · subst hk2; exact H0.out
                    · exact HH.out k h1 h2 (by omega), hb4⟩
                  case measure => simp [intOf]; try omega
                · rw [show V.same a.kids[j] b.kids[j] = false from decide_eq_false h0]
                  have HY2 := Lib.hid ((HY.out.trans (by rw [HJ.out h0]; exact decide_eq_false h0) : V.same a b = false))
                  go_wp2_with fail
                  go_ret
                  exact ⟨ret_bool HY2.out.symm, b1.trans (hb4.mono b1.size)⟩
              · obtain rfl : j = a.kids.length := by omega
                have HY2 := Lib.hid (show V.same a b = true from HY.out.trans (decide_eq_true (HN.out fun k h1 h2 => HH.out k h1 h2 h1)))
                clear p0 p1 p2 p3 q0 q1 q2 q3 Ca Cb
                go_wp2_with fail
                go_ret
                exact ⟨ret_bool HY2.out.symm, hbw⟩
          · have HY := Lib.hid (HNN.out fun h => h5 (HO.out.1 h).2.2.2.2)
            have k1 : (a.k != b.k) = false := by simp [bne, h1]
            have k2 : (a.n != b.n) = false := by simp [bne, h2]
            have k3 : (a.e != b.e) = false := by simp [bne, h3]
            have k4 : (a.s.toList != b.s.toList) = false := by simp [bne, h4]
            have k5 : ((a.kids.length : Int) == (b.kids.length : Int)) = false := by rw [beq_eq_false_iff_ne]; omega
            have l5 : ((a.kids.length : Int) != (b.kids.length : Int)) = true := by simp only [bne, k5]; rfl
            clear h5
            go_enter Tryd.func23, Tryd.ntmps23
            go_wp2_with fail
            go_ret
            exact ⟨ret_bool (by rw [HY.out]), ((Below.refl _ w).alloc (Nat.le_refl _) _).alloc (by simp) _⟩
        · have HY := Lib.hid (HNN.out fun h => h4 (by rw [(HO.out.1 h).2.2.2.1]; exact beq_self_eq_true _))
          have k1 : (a.k != b.k) = false := by simp [bne, h1]
          have k2 : (a.n != b.n) = false := by simp [bne, h2]
          have k3 : (a.e != b.e) = false := by simp [bne, h3]
          have k4 : (a.s.toList == b.s.toList) = false := by simpa using h4
          have l4 : (a.s.toList != b.s.toList) = true := by simp only [bne, k4]; rfl
          clear h4
          go_enter Tryd.func23, Tryd.ntmps23
          go_wp2_with fail
          go_ret
          exact ⟨ret_bool (by rw [HY.out]), ((Below.refl _ w).alloc (Nat.le_refl _) _).alloc (by simp) _⟩
      · have HY := Lib.hid (HNN.out fun h => h3 (by rw [(HO.out.1 h).2.2.1]; exact beq_self_eq_true _))
        have k1 : (a.k != b.k) = false := by simp [bne, h1]
        have k2 : (a.n != b.n) = false := by simp [bne, h2]
        have k3 : (a.e == b.e) = false := by simpa using h3
        have l3 : (a.e != b.e) = true := by simp only [bne, k3]; rfl
        clear h3
        go_enter Tryd.func23, Tryd.ntmps23
        go_wp2_with fail
        go_ret
        exact ⟨ret_bool (by rw [HY.out]), ((Below.refl _ w).alloc (Nat.le_refl _) _).alloc (by simp) _⟩
    · have HY := Lib.hid (HNN.out fun h => h2 (by rw [(HO.out.1 h).2.1]; exact beq_self_eq_true _))
      have k1 : (a.k != b.k) = false := by simp [bne, h1]
      have k2 : (a.n == b.n) = false := by simpa using h2
      have l2 : (a.n != b.n) = true := by simp only [bne, k2]; rfl
      clear h2
      go_enter Tryd.func23, Tryd.ntmps23
      go_wp2_with fail
      go_ret
      exact ⟨ret_bool (by rw [HY.out]), ((Below.refl _ w).alloc (Nat.le_refl _) _).alloc (by simp) _⟩
  · have HY := Lib.hid (HNN.out fun h => h1 (by rw [(HO.out.1 h).1]; exact beq_self_eq_true _))
    have k1 : (a.k == b.k) = false := by simpa using h1
    have l1 : (a.k != b.k) = true := by simp only [bne, k1]; rfl
    clear h1
    go_enter Tryd.func23, Tryd.ntmps23
    go_wp2_with fail
    go_ret
    exact ⟨ret_bool (by rw [HY.out]), ((Below.refl _ w).alloc (Nat.le_refl _) _).alloc (by simp) _⟩
theorem lawSame (a : V) : LawSameSaid a := V.all lawSame_step a
end Go.Proofs.YtcjamnfboifjeaaDoor

/-
  The program's Nodes: its walk counts each node.
-/
namespace Go.Proofs.YtcjamnfboifjeaaDoor
open Go.RowKit
set_option linter.unusedVariables false
set_option linter.unusedSimpArgs false

set_option maxHeartbeats 1000000 in
theorem nodes_yields (g N : Nat) : Yields 71 #[.pointer (some ⟨g, 0, none⟩)] (fun xs w => Blk w g 3 #[.int .i64 (i64of xs.length)]) (fun _ k => k = g) N where
  enters := enters_of Tryd.func71 (by kernel_rfl) rfl
  alloc := fun xs w o h => ⟨h.alloc o, fun k hk => ⟨hk, by subst hk; exact h.lt⟩⟩
  step := by
    intro xs x A c w hi hB hat hhi hD hn _
    have hlt := hB.lt
    have HB := Lib.hid hB
    have c0 : (w.alloc (.cells #[.int .i64 x.k, .int .i64 x.n, .int .i64 x.e, .string x.s, .slice A x.kids.length c] 28)).cell? ⟨g, 0, none⟩ = some (.int .i64 (i64of xs.length)) := (hB.alloc _).cell 0
    have f0 : (w.alloc (.cells #[.int .i64 x.k, .int .i64 x.n, .int .i64 x.e, .string x.s, .slice A x.kids.length c] 28)).frozen? ⟨g, 0, none⟩ = false := (hB.alloc _).frozen 0
    clear hB hat hD
    unfold V.agg
    show Calls Tryd.prog 71 #[_, _] w _
    go_enter Tryd.func71, Tryd.ntmps71
    go_wp2_with fail
    go_end0
    refine ⟨rfl, ?_, keep_alloc1 (keep_set1 (Keep.refl w) _) _⟩
    have h := (HB.out.set1 (.int .i64 (i64of (xs ++ [x]).length))).alloc (.cells #[.int .i64 x.k, .int .i64 x.n, .int .i64 x.e, .string x.s, .slice A x.kids.length c] 28)
    rw [i64of_succ]
    simpa using h

set_option maxHeartbeats 1000000 in
theorem implNodes (v : V) (A : Option Addr) (cap : Nat) (w : World) (hn : v.nodes ≤ 1048577) (hat : Vs.at_ w 0 w.heap.size v.kids A) :
    Calls Tryd.prog 34 #[v.agg A cap] w fun e w' => e = .returned (.int .i64 v.nodes) ∧ Below w.heap.size w w' := by
  have HA := Lib.hid hat
  have HL := Lib.hid (V.pre_len v)
  clear hat
  unfold V.agg
  go_enter Tryd.func34, Tryd.ntmps34
  go_wp2_with fail
  have hB := Blk.new (w.alloc (.cells #[.int .i64 v.k, .int .i64 v.n, .int .i64 v.e, .string v.s, .slice A v.kids.length cap] 28)) 3 #[.int .i64 (i64of 0)]
  rw [i64of_zero] at hB
  refine (walk_any (nodes_yields (w.heap.size + 1) v.nodes) v A cap [] _ w.heap.size (by simpa [i64of_zero] using hB) (Vs.at_alloc (Vs.at_alloc HA.out (Nat.le_refl _) _) (by simp) _) (by simp; omega) (fun k hk => by omega) hn (by simp)).mono ?_
  rintro e w1 ⟨rfl, hi1, k1⟩
  have c1 := hi1.cell 0
  simp only [List.nil_append] at c1
  rw [HL.out, i64of_small _ (by omega)] at c1
  go_wp2_with fail
  go_ret
  exact ⟨rfl, k1.below (((Below.refl _ w).alloc (Nat.le_refl _) _).alloc (by simp) _) (by simp; omega) (fun k hk => by omega)⟩
end Go.Proofs.YtcjamnfboifjeaaDoor

/-
  Field of the reference and of the program: a copy of the value at a key.
-/
namespace Go.Proofs.YtcjamnfboifjeaaDoor
open Go.RowKit
set_option linter.unusedVariables false
set_option linter.unusedSimpArgs false

/-- The m-th pair's key is this text. -/
def keyHit (l : List V) (key : ByteArray) (m : Nat) : Bool := match l[2 * m]? with
  | some x => x.k == 5 && x.s.toList == key.toList
  | none => false
def keyIdx (l : List V) (key : ByteArray) : Option Nat := (List.range (l.length / 2)).find? (keyHit l key)
theorem keyHit_eq {l : List V} {key : ByteArray} {m p : Nat} (hp : p = 2 * m) (h : p < l.length) : keyHit l key m = ((l[p]).k == 5 && (l[p]).s.toList == key.toList) := by
  subst hp
  unfold keyHit
  rw [List.getElem?_eq_getElem h]
theorem keyIdx_some {l : List V} {key : ByteArray} {m : Nat} (h : 2 * m + 1 < l.length) (hm : keyHit l key m = true) (hb : ∀ j < m, keyHit l key j = false) : keyIdx l key = some m := by
  unfold keyIdx
  rw [List.find?_range_eq_some]
  exact ⟨hm, List.mem_range.2 (by omega), fun j hj => by rw [hb j hj]; rfl⟩
theorem keyIdx_none {l : List V} {key : ByteArray} {m : Nat} (h : ¬ 2 * m + 1 < l.length) (hb : ∀ j < m, keyHit l key j = false) : keyIdx l key = none := by
  unfold keyIdx
  rw [List.find?_range_eq_none]
  exact fun j hj => by rw [hb j (by omega)]; rfl
/-- The place of a key, -1 if there is none. -/
def keyPos (l : List V) (key : ByteArray) : Int := match keyIdx l key with
  | some m => 2 * (m : Int)
  | none => -1

set_option maxHeartbeats 1000000 in
theorem specKey (l : List V) (key : ByteArray) (A : Option Addr) (cap : Nat) (w : World) (hl : l.length ≤ 1048576) (hat : Vs.at_ w 0 w.heap.size l A) :
    Calls Tryd.prog 67 #[.slice A l.length cap, .string key] w fun e w' => e = .returned (.int .i64 (keyPos l key)) ∧ w = w' := by
  have HA := Lib.hid hat
  clear hat
  go_enter Tryd.func67, Tryd.ntmps67
  go_wp2_with fail
  go_loop [5] (fun i => ∃ p m : Nat, p = 2 * m ∧ p ≤ l.length + 1 ∧ i = .int .i64 p ∧ ∀ j < m, keyHit l key j = false) (fun i => l.length + 2 - (intOf i).toNat)
  case atStart => exact ⟨0, 0, rfl, by omega, rfl, fun j h => by omega⟩
  case round =>
    obtain ⟨p, m, hpm, hp, rfl, hb⟩ := hrel
    have HP := Lib.hid hpm
    have HB := Lib.hid hb
    clear hpm hb
    by_cases hlt : p + 1 < l.length
    · obtain ⟨g, off, A', cap', rfl, g1, g2, g3, ⟨c0, c1, c2, c3, c4⟩, g5⟩ := Vs.at_get p (by omega) HA.out
      have HH := Lib.hid (keyHit_eq (key := key) HP.out (show p < l.length by omega))
      cases h5 : ((l[p]).k == 5) with
      | false =>
        go_wp2_with fail
        go_round
        case rel => exact ⟨p + 2, m + 1, by have := HP.out; omega, by omega, by go_num, fun j hj => by
          rcases Nat.lt_succ_iff_lt_or_eq.1 hj with h | rfl
          · exact HB.out j h
          · rw [HH.out, h5]; rfl⟩
        case measure => simp [intOf]; omega
      | true =>
        cases hs : ((l[p]).s.toList == key.toList) with
        | false =>
          go_wp2_with fail
          go_round
          case rel => exact ⟨p + 2, m + 1, by have := HP.out; omega, by omega, by go_num, fun j hj => by
            rcases Nat.lt_succ_iff_lt_or_eq.1 hj with h | rfl
            · exact HB.out j h
            · rw [HH.out, h5, hs]; rfl⟩
          case measure => simp [intOf]; omega
        | true =>
          go_wp2_with fail
          go_ret
          refine ⟨ret_num ?_, rfl⟩
          have h1 := HP.out
          rw [keyPos, keyIdx_some (m := m) (by omega) (by rw [HH.out, h5, hs]; rfl) HB.out]
          simp
          omega
    · go_wp2_with fail
      go_ret
      refine ⟨ret_num ?_, rfl⟩
      have h1 := HP.out
      rw [keyPos, keyIdx_none (m := m) (by omega) HB.out]

set_option maxHeartbeats 1000000 in
theorem implFind (v : V) (key : ByteArray) (A : Option Addr) (cap : Nat) (w : World) (hl : v.kids.length ≤ 1048576) (hat : Vs.at_ w 0 w.heap.size v.kids A) (h8 : (v.k == 8) = true) :
    Calls Tryd.prog 66 #[v.agg A cap, .string key] w fun e w' => e = .returned (.int .i64 (keyPos v.kids key)) ∧ Below w.heap.size w w' := by
  have HA := Lib.hid hat
  clear hat
  unfold V.agg
  go_enter Tryd.func66, Tryd.ntmps66
  go_wp2_with fail
  obtain ⟨w2, hw2⟩ : ∃ w2, w2 = w.alloc (.cells #[.int .i64 v.k, .int .i64 v.n, .int .i64 v.e, .string v.s, .slice A v.kids.length cap] 28) := ⟨_, rfl⟩
  have B : Blk w2 w.heap.size 28 #[.int .i64 v.k, .int .i64 v.n, .int .i64 v.e, .string v.s, .slice A v.kids.length cap] := by rw [hw2]; exact Blk.new w _ _
  have b2 : Below w.heap.size w w2 := by rw [hw2]; exact (Below.refl _ w).alloc (Nat.le_refl _) _
  obtain ⟨p0, p1, p2, p3, p4⟩ := B.five
  have HA2 := Lib.hid (Vs.at_below HA.out b2 (Nat.le_refl _))
  have HB2 := Lib.hid b2
  rw [← hw2]
  clear hw2 B b2
  go_loop [5] (fun i => ∃ p m : Nat, p = 2 * m ∧ p ≤ v.kids.length + 1 ∧ i = .int .i64 p ∧ ∀ j < m, keyHit v.kids key j = false) (fun i => v.kids.length + 2 - (intOf i).toNat)
  case atStart => exact ⟨0, 0, rfl, by omega, rfl, fun j h => by omega⟩
  case round =>
    obtain ⟨p, m, hpm, hp, rfl, hb⟩ := hrel
    have HP := Lib.hid hpm
    have HB := Lib.hid hb
    clear hpm hb
    by_cases hlt : p + 1 < v.kids.length
    · obtain ⟨g, off, A', cap', rfl, g1, g2, g3, ⟨c0, c1, c2, c3, c4⟩, g5⟩ := Vs.at_get p (by omega) HA2.out
      have HH := Lib.hid (keyHit_eq (key := key) HP.out (show p < v.kids.length by omega))
      cases h5 : ((v.kids[p]).k == 5) with
      | false =>
        go_wp2_with fail
        go_round
        case rel => exact ⟨p + 2, m + 1, by have := HP.out; omega, by omega, by go_num, fun j hj => by
          rcases Nat.lt_succ_iff_lt_or_eq.1 hj with h | rfl
          · exact HB.out j h
          · rw [HH.out, h5]; rfl⟩
        case measure => simp [intOf]; omega
      | true =>
        cases hs : ((v.kids[p]).s.toList == key.toList) with
        | false =>
          go_wp2_with fail
          go_round
          case rel => exact ⟨p + 2, m + 1, by have := HP.out; omega, by omega, by go_num, fun j hj => by
            rcases Nat.lt_succ_iff_lt_or_eq.1 hj with h | rfl
            · exact HB.out j h
            · rw [HH.out, h5, hs]; rfl⟩
          case measure => simp [intOf]; omega
        | true =>
          go_wp2_with fail
          go_ret
          refine ⟨ret_num ?_, HB2.out⟩
          have h1 := HP.out
          rw [keyPos, keyIdx_some (m := m) (by omega) (by rw [HH.out, h5, hs]; rfl) HB.out]
          simp
          omega
    · go_wp2_with fail
      go_ret
      refine ⟨ret_num ?_, HB2.out⟩
      have h1 := HP.out
      rw [keyPos, keyIdx_none (m := m) (by omega) HB.out]
set_option maxHeartbeats 1000000 in
theorem implFind_no (v : V) (key : ByteArray) (A : Option Addr) (cap : Nat) (w : World) (h8 : (v.k == 8) = false) :
    Calls Tryd.prog 66 #[v.agg A cap, .string key] w fun e w' => e = .returned (.int .i64 (-1)) ∧ Below w.heap.size w w' := by
  unfold V.agg
  go_enter Tryd.func66, Tryd.ntmps66
  go_wp2_with fail
  go_loop [5] (fun i => i = .int .i64 0) (fun i => 1)
  case atStart => rfl
  case round =>
    subst hrel
    go_wp2_with fail
    go_ret
    exact ⟨rfl, (Below.refl _ w).alloc (Nat.le_refl _) _⟩
end Go.Proofs.YtcjamnfboifjeaaDoor

/-
  Field of the reference and of the program hand back the same copy.
-/
namespace Go.Proofs.YtcjamnfboifjeaaDoor
open Go.RowKit
set_option linter.unusedVariables false
set_option linter.unusedSimpArgs false

/-- The value of no value. -/
def V.zero : V := .mk 0 0 0 ⟨#[]⟩ []
/-- The value at a key. -/
def fieldV (v : V) (key : ByteArray) : Option V := if v.k = 8 then (keyIdx v.kids key).bind fun m => v.kids[2 * m + 1]? else none
def fieldD (v : V) (key : ByteArray) : V := (fieldV v key).getD V.zero
def fieldB (v : V) (key : ByteArray) : Bool := (fieldV v key).isSome
theorem keyIdx_lt {l : List V} {key : ByteArray} {m : Nat} (h : keyIdx l key = some m) : 2 * m + 1 < l.length := by
  unfold keyIdx at h
  rw [List.find?_range_eq_some] at h
  have := List.mem_range.1 h.2.1
  omega
theorem field_cases (v : V) (key : ByteArray) : ((v.k == 8) = false ∧ fieldV v key = none) ∨ ((v.k == 8) = true ∧ keyPos v.kids key = -1 ∧ fieldV v key = none) ∨
    ((v.k == 8) = true ∧ ∃ (p : Nat) (h : p + 1 < v.kids.length), keyPos v.kids key = (p : Int) ∧ fieldV v key = some v.kids[p + 1]) := by
  by_cases h8 : v.k = 8
  · refine .inr ?_
    have h8' : (v.k == 8) = true := by simpa using h8
    cases hi : keyIdx v.kids key with
    | none => exact .inl ⟨h8', by rw [keyPos, hi], by rw [fieldV, if_pos h8, hi]; rfl⟩
    | some m =>
      have hm := keyIdx_lt hi
      refine .inr ⟨h8', 2 * m, hm, by rw [keyPos, hi]; rfl, ?_⟩
      rw [fieldV, if_pos h8, hi, Option.bind_some, List.getElem?_eq_getElem hm]
  · exact .inl ⟨by simpa using h8, by rw [fieldV, if_neg h8]⟩
theorem fieldD_nodes (v : V) (key : ByteArray) : (fieldD v key).nodes ≤ v.nodes := by
  have h1 := V.nodes_pos v
  have hz : V.zero.nodes = 1 := by rw [V.nodes_eq]; rfl
  unfold fieldD
  rcases field_cases v key with ⟨_, h⟩ | ⟨_, _, h⟩ | ⟨_, p, hp, _, h⟩
  · rw [h]; simp only [Option.getD_none]; omega
  · rw [h]; simp only [Option.getD_none]; omega
  · rw [h]
    have := Vs.nodes_get (p + 1) hp
    have := V.nodes_eq v
    simp only [Option.getD_some]
    omega
/-- What Field hands back. -/
def FieldRet (v : V) (key : ByteArray) (w : World) (e : Ending) (w' : World) : Prop :=
  ∃ A c F, e = .returned (.tuple #[(fieldD v key).agg A c, .bool (fieldB v key)]) ∧ (fieldD v key).kids.length ≤ c ∧ Vs.lies w' (fieldD v key).kids A F ∧ F.Nodup ∧ (∀ x ∈ F, w.heap.size ≤ x) ∧ Below w.heap.size w w'
theorem field_ret_no {v : V} {key : ByteArray} {w w' : World} (h : fieldV v key = none) (hb : Below w.heap.size w w') : FieldRet v key w (.returned (.tuple #[.agg #[.int .i64 0, .int .i64 0, .int .i64 0, .string ⟨#[]⟩, .slice none 0 0], .bool false])) w' := by
  have e1 : fieldD v key = V.zero := by rw [fieldD, h]; rfl
  have e2 : fieldB v key = false := by rw [fieldB, h]; rfl
  unfold FieldRet
  rw [e1, e2]
  exact ⟨none, 0, [], rfl, Nat.le_refl _, .inl ⟨rfl, rfl⟩, List.nodup_nil, (fun x hx => by cases hx), hb⟩

set_option maxHeartbeats 1000000 in
theorem specField (v : V) (key : ByteArray) (A : Option Addr) (cap : Nat) (w : World) (hn : v.nodes ≤ 1048577) (hat : Vs.at_ w 0 w.heap.size v.kids A) :
    Calls Tryd.prog 29 #[v.agg A cap, .string key] w (FieldRet v key w) := by
  rw [V.nodes_eq] at hn
  have hl : v.kids.length ≤ 1048576 := by have := Vs.len_nodes v.kids; omega
  have HA := Lib.hid hat
  clear hat
  have hb2 : ∀ o1 o2 : Obj, Below w.heap.size w ((w.alloc o1).alloc o2) := fun o1 o2 => ((Below.refl _ w).alloc (Nat.le_refl _) _).alloc (by simp) _
  have HB2 := Lib.hid hb2
  clear hb2
  rcases field_cases v key with ⟨h8, hv⟩ | ⟨h8, hp, hv⟩ | ⟨h8, p, hlt, hp, hv⟩
  · have HV := Lib.hid hv
    have h8' : (v.k != 8) = true := by rw [bne, h8]; rfl
    clear hv
    unfold V.agg
    go_enter Tryd.func29, Tryd.ntmps29
    go_wp2_with fail
    refine (specKey v.kids key A _ _ hl (Vs.at_more (Nat.le_refl _) (HB2.out _ _).size _ _ (Vs.at_below HA.out (HB2.out _ _) (Nat.le_refl _)))).mono ?_
    rintro e w1 ⟨rfl, rfl⟩
    go_wp2_with fail
    refine bodyPost_ret (v := .tuple #[.agg #[.int .i64 0, .int .i64 0, .int .i64 0, .string ⟨#[]⟩, .slice none 0 0], .bool false]) (by simp [results, Tryd.results29, go_sem]) rfl (field_ret_no HV.out ?_)
    repeat (refine Below.setCell ?_ (by simp; try omega) _)
    exact HB2.out _ _
  · have HV := Lib.hid hv
    have HP := Lib.hid hp
    have h8' : (v.k != 8) = false := by rw [bne, h8]; rfl
    clear hv hp
    unfold V.agg
    go_enter Tryd.func29, Tryd.ntmps29
    go_wp2_with fail
    refine (specKey v.kids key A _ _ hl (Vs.at_more (Nat.le_refl _) (HB2.out _ _).size _ _ (Vs.at_below HA.out (HB2.out _ _) (Nat.le_refl _)))).mono ?_
    rintro e w1 ⟨rfl, rfl⟩
    rw [HP.out]
    go_wp2_with fail
    refine bodyPost_ret (v := .tuple #[.agg #[.int .i64 0, .int .i64 0, .int .i64 0, .string ⟨#[]⟩, .slice none 0 0], .bool false]) (by simp [results, Tryd.results29, go_sem]) rfl (field_ret_no HV.out ?_)
    repeat (refine Below.setCell ?_ (by simp; try omega) _)
    exact HB2.out _ _
  · have HV := Lib.hid hv
    have HP := Lib.hid hp
    have h8' : (v.k != 8) = false := by rw [bne, h8]; rfl
    clear hv hp
    unfold V.agg
    go_enter Tryd.func29, Tryd.ntmps29
    go_wp2_with fail
    obtain ⟨w2, hw2⟩ : ∃ w2, w2 = (w.alloc (.cells #[.int .i64 v.k, .int .i64 v.n, .int .i64 v.e, .string v.s, .slice A v.kids.length cap] 28)).alloc (.cells #[.int .i64 0, .int .i64 0, .int .i64 0, .string ⟨#[]⟩, .slice none 0 0] 28) := ⟨_, rfl⟩
    have B1 : Blk w2 (w.heap.size + 1) 28 #[.int .i64 0, .int .i64 0, .int .i64 0, .string ⟨#[]⟩, .slice none 0 0] := by
      have h := Blk.new (w.alloc (.cells #[.int .i64 v.k, .int .i64 v.n, .int .i64 v.e, .string v.s, .slice A v.kids.length cap] 28)) 28 #[.int .i64 0, .int .i64 0, .int .i64 0, .string ⟨#[]⟩, .slice none 0 0]
      rw [← hw2] at h
      simpa using h
    have B0 : Blk w2 w.heap.size 28 #[.int .i64 v.k, .int .i64 v.n, .int .i64 v.e, .string v.s, .slice A v.kids.length cap] := by rw [hw2]; exact (Blk.new w _ _).alloc _
    have z2 : w2.heap.size = w.heap.size + 2 := by rw [hw2]; simp
    have b2 : Below w.heap.size w w2 := by rw [hw2]; exact HB2.out _ _
    obtain ⟨p0, p1, p2, p3, p4⟩ := B0.five
    obtain ⟨b, off, A', cap', rfl, g1, g2, g3, ⟨c0, c1, c2, c3, c4⟩, g5⟩ := Vs.at_get (p + 1) hlt (Vs.at_below HA.out b2 (Nat.le_refl _))
    rw [← hw2]
    clear hw2
    refine (specKey v.kids key _ _ w2 hl (Vs.at_more (Nat.le_refl _) b2.size _ _ (Vs.at_below HA.out b2 (Nat.le_refl _)))).mono ?_
    rintro e w1 ⟨rfl, rfl⟩
    rw [HP.out]
    have hnk := Vs.nodes_get (p + 1) hlt
    go_wp2_with fail
    refine (specCopy v.kids[p + 1] A' cap' w2 (by omega) (Vs.at_more (Nat.le_refl _) b2.size _ _ g5)).mono ?_
    rintro e w3 ⟨A2, c2', F, rfl, hc2, hl2, hnd, hF, hb3⟩
    have B13 := B1.below hb3 B1.lt
    obtain ⟨q0, q1, q2, q3, q4⟩ := B13.five
    have f0 := B13.frozen 0
    have f1 := B13.frozen 1
    have f2 := B13.frozen 2
    have f3 := B13.frozen 3
    have f4 := B13.frozen 4
    have hbw := b2.trans (hb3.mono b2.size)
    have HL := Lib.hid hl2
    have HND := Lib.hid hnd
    have HF := Lib.hid hF
    have HBW := Lib.hid hbw
    clear p0 p1 p2 p3 p4 c0 c1 c2 c3 c4 hl2 hnd hF hbw hb3 b2 B0 B1 B13
    unfold V.agg
    go_wp2_with fail
    refine bodyPost_ret (v := .tuple #[.agg #[.int .i64 v.kids[p + 1].k, .int .i64 v.kids[p + 1].n, .int .i64 v.kids[p + 1].e, .string v.kids[p + 1].s, .slice A2 v.kids[p + 1].kids.length c2'], .bool true]) (by simp [results, Tryd.results29, go_sem, q0, q1, q2, q3, q4]) rfl ?_
    have e1 : fieldD v key = v.kids[p + 1] := by rw [fieldD, HV.out]; rfl
    have e2 : fieldB v key = true := by rw [fieldB, HV.out]; rfl
    unfold FieldRet
    rw [e1, e2]
    refine ⟨A2, c2', F, rfl, hc2, Vs.lies_same HL.out ⟨by simp, fun c hc => ?_⟩, HND.out, fun c hc => by have := HF.out c hc; omega, ?_⟩
    · have h1 : c ≠ w.heap.size + 1 := by have := HF.out c hc; omega
      simp only [Below.heap_setCell _ (⟨w.heap.size + 1, _, none⟩ : Addr) _ _ (show c ≠ _ from h1)]
    · repeat (refine Below.setCell ?_ (by simp; try omega) _)
      exact HBW.out
end Go.Proofs.YtcjamnfboifjeaaDoor

/-
  Field of the program hands back the same copy.
-/
namespace Go.Proofs.YtcjamnfboifjeaaDoor
open Go.RowKit
set_option linter.unusedVariables false
set_option linter.unusedSimpArgs false

set_option maxHeartbeats 1000000 in
theorem implField (v : V) (key : ByteArray) (A : Option Addr) (cap : Nat) (w : World) (hn : v.nodes ≤ 1048577) (hat : Vs.at_ w 0 w.heap.size v.kids A) :
    Calls Tryd.prog 28 #[v.agg A cap, .string key] w (FieldRet v key w) := by
  rw [V.nodes_eq] at hn
  have hl : v.kids.length ≤ 1048576 := by have := Vs.len_nodes v.kids; omega
  have HA := Lib.hid hat
  clear hat
  have hb2 : ∀ o1 o2 : Obj, Below w.heap.size w ((w.alloc o1).alloc o2) := fun o1 o2 => ((Below.refl _ w).alloc (Nat.le_refl _) _).alloc (by simp) _
  have HB2 := Lib.hid hb2
  clear hb2
  rcases field_cases v key with ⟨h8, hv⟩ | ⟨h8, hp, hv⟩ | ⟨h8, p, hlt, hp, hv⟩
  · have HV := Lib.hid hv
    have h8' : (v.k != 8) = true := by rw [bne, h8]; rfl
    clear hv
    unfold V.agg
    go_enter Tryd.func28, Tryd.ntmps28
    go_wp2_with fail
    obtain ⟨w2, hw2⟩ : ∃ w2, w2 = (w.alloc (.cells #[.int .i64 v.k, .int .i64 v.n, .int .i64 v.e, .string v.s, .slice A v.kids.length cap] 28)).alloc (.cells #[.int .i64 0, .int .i64 0, .int .i64 0, .string ⟨#[]⟩, .slice none 0 0] 28) := ⟨_, rfl⟩
    have B1 : Blk w2 (w.heap.size + 1) 28 #[.int .i64 0, .int .i64 0, .int .i64 0, .string ⟨#[]⟩, .slice none 0 0] := by
      have h := Blk.new (w.alloc (.cells #[.int .i64 v.k, .int .i64 v.n, .int .i64 v.e, .string v.s, .slice A v.kids.length cap] 28)) 28 #[.int .i64 0, .int .i64 0, .int .i64 0, .string ⟨#[]⟩, .slice none 0 0]
      rw [← hw2] at h
      simpa using h
    have B0 : Blk w2 w.heap.size 28 #[.int .i64 v.k, .int .i64 v.n, .int .i64 v.e, .string v.s, .slice A v.kids.length cap] := by rw [hw2]; exact (Blk.new w _ _).alloc _
    have z2 : w2.heap.size = w.heap.size + 2 := by rw [hw2]; simp
    have b2 : Below w.heap.size w w2 := by rw [hw2]; exact HB2.out _ _
    rw [← hw2]
    clear hw2
    refine (implFind_no v key A _ w2 h8).mono ?_
    rintro e w1 ⟨rfl, hb1⟩
    have B13 := B1.below hb1 (by omega)
    have B03 := B0.below hb1 (by omega)
    have b3 := b2.trans (hb1.mono b2.size)
    have z3 : w.heap.size + 2 ≤ w1.heap.size := by have := hb1.size; omega
    obtain ⟨q0, q1, q2, q3, q4⟩ := B13.five
    obtain ⟨p0, p1, p2, p3, p4⟩ := B03.five
    have f0 := B13.frozen 0
    have f1 := B13.frozen 1
    have f2 := B13.frozen 2
    have f3 := B13.frozen 3
    have f4 := B13.frozen 4
    clear hb1 B1 B0
    go_wp2_with fail
    refine bodyPost_ret (v := .tuple #[.agg #[.int .i64 0, .int .i64 0, .int .i64 0, .string ⟨#[]⟩, .slice none 0 0], .bool false]) (by simp [results, Tryd.results28, go_sem, q0, q1, q2, q3, q4]) rfl (field_ret_no HV.out ?_)
    repeat (refine Below.setCell ?_ (by simp; try omega) _)
    exact b3
  · have HV := Lib.hid hv
    have HP := Lib.hid hp
    have h8' : (v.k != 8) = false := by rw [bne, h8]; rfl
    clear hv hp
    unfold V.agg
    go_enter Tryd.func28, Tryd.ntmps28
    go_wp2_with fail
    obtain ⟨w2, hw2⟩ : ∃ w2, w2 = (w.alloc (.cells #[.int .i64 v.k, .int .i64 v.n, .int .i64 v.e, .string v.s, .slice A v.kids.length cap] 28)).alloc (.cells #[.int .i64 0, .int .i64 0, .int .i64 0, .string ⟨#[]⟩, .slice none 0 0] 28) := ⟨_, rfl⟩
    have B1 : Blk w2 (w.heap.size + 1) 28 #[.int .i64 0, .int .i64 0, .int .i64 0, .string ⟨#[]⟩, .slice none 0 0] := by
      have h := Blk.new (w.alloc (.cells #[.int .i64 v.k, .int .i64 v.n, .int .i64 v.e, .string v.s, .slice A v.kids.length cap] 28)) 28 #[.int .i64 0, .int .i64 0, .int .i64 0, .string ⟨#[]⟩, .slice none 0 0]
      rw [← hw2] at h
      simpa using h
    have B0 : Blk w2 w.heap.size 28 #[.int .i64 v.k, .int .i64 v.n, .int .i64 v.e, .string v.s, .slice A v.kids.length cap] := by rw [hw2]; exact (Blk.new w _ _).alloc _
    have z2 : w2.heap.size = w.heap.size + 2 := by rw [hw2]; simp
    have b2 : Below w.heap.size w w2 := by rw [hw2]; exact HB2.out _ _
    rw [← hw2]
    clear hw2
    refine (implFind v key A _ w2 hl (Vs.at_more (Nat.le_refl _) b2.size _ _ (Vs.at_below HA.out b2 (Nat.le_refl _))) h8).mono ?_
    rintro e w1 ⟨rfl, hb1⟩
    have B13 := B1.below hb1 (by omega)
    have B03 := B0.below hb1 (by omega)
    have b3 := b2.trans (hb1.mono b2.size)
    have z3 : w.heap.size + 2 ≤ w1.heap.size := by have := hb1.size; omega
    obtain ⟨q0, q1, q2, q3, q4⟩ := B13.five
    obtain ⟨p0, p1, p2, p3, p4⟩ := B03.five
    have f0 := B13.frozen 0
    have f1 := B13.frozen 1
    have f2 := B13.frozen 2
    have f3 := B13.frozen 3
    have f4 := B13.frozen 4
    clear hb1 B1 B0
    rw [HP.out]
    go_wp2_with fail
    refine bodyPost_ret (v := .tuple #[.agg #[.int .i64 0, .int .i64 0, .int .i64 0, .string ⟨#[]⟩, .slice none 0 0], .bool false]) (by simp [results, Tryd.results28, go_sem, q0, q1, q2, q3, q4]) rfl (field_ret_no HV.out ?_)
    repeat (refine Below.setCell ?_ (by simp; try omega) _)
    exact b3
  · have HV := Lib.hid hv
    have HP := Lib.hid hp
    have h8' : (v.k != 8) = false := by rw [bne, h8]; rfl
    clear hv hp
    unfold V.agg
    go_enter Tryd.func28, Tryd.ntmps28
    go_wp2_with fail
    obtain ⟨w2, hw2⟩ : ∃ w2, w2 = (w.alloc (.cells #[.int .i64 v.k, .int .i64 v.n, .int .i64 v.e, .string v.s, .slice A v.kids.length cap] 28)).alloc (.cells #[.int .i64 0, .int .i64 0, .int .i64 0, .string ⟨#[]⟩, .slice none 0 0] 28) := ⟨_, rfl⟩
    have B1 : Blk w2 (w.heap.size + 1) 28 #[.int .i64 0, .int .i64 0, .int .i64 0, .string ⟨#[]⟩, .slice none 0 0] := by
      have h := Blk.new (w.alloc (.cells #[.int .i64 v.k, .int .i64 v.n, .int .i64 v.e, .string v.s, .slice A v.kids.length cap] 28)) 28 #[.int .i64 0, .int .i64 0, .int .i64 0, .string ⟨#[]⟩, .slice none 0 0]
      rw [← hw2] at h
      simpa using h
    have B0 : Blk w2 w.heap.size 28 #[.int .i64 v.k, .int .i64 v.n, .int .i64 v.e, .string v.s, .slice A v.kids.length cap] := by rw [hw2]; exact (Blk.new w _ _).alloc _
    have z2 : w2.heap.size = w.heap.size + 2 := by rw [hw2]; simp
    have b2 : Below w.heap.size w w2 := by rw [hw2]; exact HB2.out _ _
    rw [← hw2]
    clear hw2
    refine (implFind v key A _ w2 hl (Vs.at_more (Nat.le_refl _) b2.size _ _ (Vs.at_below HA.out b2 (Nat.le_refl _))) h8).mono ?_
    rintro e w1 ⟨rfl, hb1⟩
    have B13 := B1.below hb1 (by omega)
    have B03 := B0.below hb1 (by omega)
    have b3 := b2.trans (hb1.mono b2.size)
    have z3 : w.heap.size + 2 ≤ w1.heap.size := by have := hb1.size; omega
    obtain ⟨q0, q1, q2, q3, q4⟩ := B13.five
    obtain ⟨p0, p1, p2, p3, p4⟩ := B03.five
    have f0 := B13.frozen 0
    have f1 := B13.frozen 1
    have f2 := B13.frozen 2
    have f3 := B13.frozen 3
    have f4 := B13.frozen 4
    clear hb1 B1 B0
    obtain ⟨b, off, A', cap', rfl, g1, g2, g3, ⟨c0, c1, c2, c3, c4⟩, g5⟩ := Vs.at_get (p + 1) hlt (Vs.at_below HA.out b3 (Nat.le_refl _))
    rw [HP.out]
    have hnk := Vs.nodes_get (p + 1) hlt
    go_wp2_with fail
    refine (implOwn v.kids[p + 1] A' cap' w1 (by omega) (Vs.at_more (Nat.le_refl _) b3.size _ _ g5)).mono ?_
    rintro e w3 ⟨A2, c2', F, rfl, hc2, hl2, hnd, hF, hb3⟩
    clear q0 q1 q2 q3 q4 f0 f1 f2 f3 f4
    have B14 := B13.below hb3 B13.lt
    obtain ⟨q0, q1, q2, q3, q4⟩ := B14.five
    have f0 := B14.frozen 0
    have f1 := B14.frozen 1
    have f2 := B14.frozen 2
    have f3 := B14.frozen 3
    have f4 := B14.frozen 4
    have hbw := b3.trans (hb3.mono b3.size)
    have HL := Lib.hid hl2
    have HND := Lib.hid hnd
    have HF := Lib.hid hF
    have HBW := Lib.hid hbw
    clear p0 p1 p2 p3 p4 c0 c1 c2 c3 c4 hl2 hnd hF hbw hb3 b2 B13 B03 B14
    unfold V.agg
    go_wp2_with fail
    refine bodyPost_ret (v := .tuple #[.agg #[.int .i64 v.kids[p + 1].k, .int .i64 v.kids[p + 1].n, .int .i64 v.kids[p + 1].e, .string v.kids[p + 1].s, .slice A2 v.kids[p + 1].kids.length c2'], .bool true]) (by simp [results, Tryd.results28, go_sem, q0, q1, q2, q3, q4]) rfl ?_
    have e1 : fieldD v key = v.kids[p + 1] := by rw [fieldD, HV.out]; rfl
    have e2 : fieldB v key = true := by rw [fieldB, HV.out]; rfl
    unfold FieldRet
    rw [e1, e2]
    refine ⟨A2, c2', F, rfl, hc2, Vs.lies_same HL.out ⟨by simp, fun c hc => ?_⟩, HND.out, fun c hc => by have := HF.out c hc; omega, ?_⟩
    · have h1 : c ≠ w.heap.size + 1 := by have := HF.out c hc; omega
      simp only [Below.heap_setCell _ (⟨w.heap.size + 1, _, none⟩ : Addr) _ _ (show c ≠ _ from h1)]
    · repeat (refine Below.setCell ?_ (by simp; try omega) _)
      exact HBW.out
end Go.Proofs.YtcjamnfboifjeaaDoor

/-
  Keys of the reference and of the program: the texts that are keys of a map, in a row of their own.
-/
namespace Go.Proofs.YtcjamnfboifjeaaDoor
open Go.RowKit
set_option linter.unusedVariables false
set_option linter.unusedSimpArgs false

theorem infoStr : (Tryd.prog.info? 9).map (fun i => (i.zero, i.size, i.bytes)) = some (some (.string ⟨#[]⟩), 1, 16) := by kernel_rfl
theorem one_sv (s : ByteArray) : ∀ u ∈ #[Value.string s].toList, u.oneCell' = true := by
  intro u hu; simp at hu; subst hu; rfl
/-- The key at a place that is twice m, if it is a text. -/
def keyAt (l : List V) (m : Nat) : Option ByteArray := match l[2 * m]? with
  | some x => if x.k = 5 then some x.s else none
  | none => none
/-- The first keys. -/
def keysTo (l : List V) (m : Nat) : List ByteArray := (List.range m).filterMap (keyAt l)
theorem keysTo_len (l : List V) (m : Nat) : (keysTo l m).length ≤ m := by
  unfold keysTo
  exact Nat.le_trans (List.length_filterMap_le _ _) (by simp)
theorem keysTo_yes {l : List V} {m : Nat} (h : 2 * m < l.length) (hk : (l[2 * m]).k = 5) : keysTo l (m + 1) = keysTo l m ++ [(l[2 * m]).s] := by
  unfold keysTo
  rw [List.range_succ, List.filterMap_append]
  simp [keyAt, List.getElem?_eq_getElem h, hk]
theorem keysTo_no {l : List V} {m : Nat} (h : 2 * m < l.length) (hk : ¬ (l[2 * m]).k = 5) : keysTo l (m + 1) = keysTo l m := by
  unfold keysTo
  rw [List.range_succ, List.filterMap_append]
  simp [keyAt, List.getElem?_eq_getElem h, hk]
/-- The keys of a value. -/
def V.keys (v : V) : List ByteArray := if v.k = 8 then keysTo v.kids ((v.kids.length + 1) / 2) else []

theorem keysTo_yes' {l : List V} {m p : Nat} (hp : p = 2 * m) (h : p < l.length) (hk : ((l[p]).k == 5) = true) : keysTo l (m + 1) = keysTo l m ++ [(l[p]).s] := by
  subst hp; exact keysTo_yes h (by simpa using hk)
theorem keysTo_no' {l : List V} {m p : Nat} (hp : p = 2 * m) (h : p < l.length) (hk : ((l[p]).k == 5) = false) : keysTo l (m + 1) = keysTo l m := by
  subst hp; exact keysTo_no h (by simpa using hk)

theorem keys_len (v : V) : v.keys.length ≤ v.kids.length + 1 := by
  unfold V.keys
  split
  · have := keysTo_len v.kids ((v.kids.length + 1) / 2); omega
  · simp

/-- What holds behind m keys. -/
def KyRel (v : V) (A : Option Addr) (cap : Nat) (w : World) (o i : Value) (wr : World) : Prop :=
  ∃ p m : Nat, p = 2 * m ∧ p ≤ v.kids.length + 1 ∧ i = .int .i64 p ∧ wr.ownsRow (w.heap.size + 1) 9 1 o (keysTo v.kids m).length ((keysTo v.kids m).map tv) ∧ Blk wr w.heap.size 28 #[.int .i64 v.k, .int .i64 v.n, .int .i64 v.e, .string v.s, .slice A v.kids.length cap] ∧ Below w.heap.size w wr ∧ w.heap.size + 1 ≤ wr.heap.size

set_option maxHeartbeats 2000000 in
theorem specKeys (v : V) (A : Option Addr) (cap : Nat) (w : World) (hn : v.nodes ≤ 1048577) (hat : Vs.at_ w 0 w.heap.size v.kids A) :
    Calls Tryd.prog 40 #[v.agg A cap] w fun e w' => ∃ o, e = .returned o ∧ w'.ownsRow (w.heap.size + 1) 9 1 o v.keys.length (v.keys.map tv) ∧ Below w.heap.size w w' := by
  rw [V.nodes_eq] at hn
  have hl : v.kids.length ≤ 1048576 := by have := Vs.len_nodes v.kids; omega
  have HA := Lib.hid hat
  clear hat
  unfold V.agg
  by_cases h8 : v.k = 8
  · have HK := Lib.hid (show v.keys = keysTo v.kids ((v.kids.length + 1) / 2) by unfold V.keys; rw [if_pos h8])
    have h8' : (v.k == 8) = true := by simpa using h8
    clear h8
    go_enter Tryd.func40, Tryd.ntmps40
    go_wp2_with fail
    go_loopw [3, 4] (fun o i wr => KyRel v A cap w o i wr) (fun _ i _ => v.kids.length + 2 - (intOf i).toNat)
    case atStart => exact ⟨0, 0, rfl, by omega, rfl, by have h := own_empty (w.alloc (.cells #[.int .i64 v.k, .int .i64 v.n, .int .i64 v.e, .string v.s, .slice A v.kids.length cap] 28)) 9 1; simp only [World.size_alloc] at h; exact h, (Blk.new w _ _).alloc _, ((Below.refl _ w).alloc (Nat.le_refl _) _).alloc (by simp) _, by simp⟩
    case round =>
      obtain ⟨p, m, hpm, hp, rfl, hown, B, hb, hsz⟩ := hrel
      have HP := Lib.hid hpm
      clear hpm
      have hlen := keysTo_len v.kids m
      have hm2 : m ≤ 1048577 := by have := HP.out; omega
      have b4 : wr.cell? ⟨w.heap.size, 4, none⟩ = some (.slice A v.kids.length cap) := B.cell 4
      have b0 : wr.cell? ⟨w.heap.size, 0, none⟩ = some (.int .i64 v.k) := B.cell 0
      by_cases hlt : p < v.kids.length
      · obtain ⟨g, off, A', cap', rfl, g1, g2, g3, ⟨c0, c1, c2, c3, c4⟩, g5⟩ := Vs.at_get p hlt (Vs.at_below HA.out hb (Nat.le_refl _))
        by_cases hk5 : ((v.kids[p]).k == 5) = true
        · have hy := keysTo_yes' HP.out hlt hk5
          have HY := Lib.hid hy
          clear hy
          have hgs : g < wr.heap.size := by omega
          go_wp2_with (at_builtin; refine wpList_app rfl (.tmp 25) (.tmp 32) 47 rfl (w.heap.size + 1) 9 Tryd.underlying47 infoStr rfl (by decide) (W := wr) rfl (hown.alloc _) ((Below.refl _ wr).mono hsz |>.alloc hsz _) (Nat.le_trans hsz (by simp)) _ 1 1 _ rfl rfl (cells_new _ _ _) (one_sv _) (by unfold maxLen; omega) (by omega) ?_; intro v' w' hown' hb' hB')
          have B' := B.below hb' (Nat.lt_succ_self _)
          have hbw : Below w.heap.size w w' := hb.trans (hb'.mono (Nat.le_succ _))
          clear c0 c1 c2 c3 c4 b4 b0
          go_wp2_with fail
          go_roundw
          case rel => exact ⟨p + 2, m + 1, by have := HP.out; omega, by omega, by go_num, by rw [HY.out]; simpa [tv] using hown', B', hbw, hB'⟩
          case measure => simp [intOf]; omega
        · have hk5' : ((v.kids[p]).k == 5) = false := by simpa using hk5
          have HY := Lib.hid (keysTo_no' HP.out hlt hk5')
          clear hk5
          go_wp2_with fail
          go_roundw
          case rel => exact ⟨p + 2, m + 1, by have := HP.out; omega, by omega, by go_num, by rw [HY.out]; exact hown, B, hb, hsz⟩
          case measure => simp [intOf]; omega
      · go_wp2_with fail
        go_ret
        refine ⟨_, rfl, ?_, hb⟩
        have hm : m = (v.kids.length + 1) / 2 := by have := HP.out; omega
        rw [HK.out, ← hm]
        exact hown
  · have HK := Lib.hid (show v.keys = [] by unfold V.keys; rw [if_neg h8])
    have h8' : (v.k == 8) = false := by simpa using h8
    clear h8
    go_enter Tryd.func40, Tryd.ntmps40
    go_wp2_with fail
    go_loopw [3, 4] (fun o i wr => i = .int .i64 0 ∧ wr.ownsRow (w.heap.size + 1) 9 1 o 0 [] ∧ Blk wr w.heap.size 28 #[.int .i64 v.k, .int .i64 v.n, .int .i64 v.e, .string v.s, .slice A v.kids.length cap] ∧ Below w.heap.size w wr) (fun _ i _ => 1)
    case atStart => exact ⟨rfl, by simpa using own_empty (w.alloc (.cells #[.int .i64 v.k, .int .i64 v.n, .int .i64 v.e, .string v.s, .slice A v.kids.length cap] 28)) 9 1, (Blk.new w _ _).alloc _, ((Below.refl _ w).alloc (Nat.le_refl _) _).alloc (by simp) _⟩
    case round =>
      obtain ⟨rfl, hown, B, hb⟩ := hrel
      have b4 : wr.cell? ⟨w.heap.size, 4, none⟩ = some (.slice A v.kids.length cap) := B.cell 4
      have b0 : wr.cell? ⟨w.heap.size, 0, none⟩ = some (.int .i64 v.k) := B.cell 0
      go_wp2_with fail
      all_goals go_ret
      all_goals exact ⟨_, rfl, by rw [HK.out]; exact hown, hb⟩

set_option maxHeartbeats 2000000 in
theorem implKeys (v : V) (A : Option Addr) (cap : Nat) (w : World) (hn : v.nodes ≤ 1048577) (hat : Vs.at_ w 0 w.heap.size v.kids A) :
    Calls Tryd.prog 39 #[v.agg A cap] w fun e w' => ∃ o, e = .returned o ∧ w'.ownsRow (w.heap.size + 1) 9 1 o v.keys.length (v.keys.map tv) ∧ Below w.heap.size w w' := by
  rw [V.nodes_eq] at hn
  have hl : v.kids.length ≤ 1048576 := by have := Vs.len_nodes v.kids; omega
  have HA := Lib.hid hat
  clear hat
  unfold V.agg
  by_cases h8 : v.k = 8
  · have HK := Lib.hid (show v.keys = keysTo v.kids ((v.kids.length + 1) / 2) by unfold V.keys; rw [if_pos h8])
    have h8' : (v.k == 8) = true := by simpa using h8
    clear h8
    go_enter Tryd.func39, Tryd.ntmps39
    go_wp2_with fail
    go_loopw [3, 4] (fun o i wr => KyRel v A cap w o i wr) (fun _ i _ => v.kids.length + 2 - (intOf i).toNat)
    case atStart => exact ⟨0, 0, rfl, by omega, rfl, by have h := own_empty (w.alloc (.cells #[.int .i64 v.k, .int .i64 v.n, .int .i64 v.e, .string v.s, .slice A v.kids.length cap] 28)) 9 1; simp only [World.size_alloc] at h; exact h, (Blk.new w _ _).alloc _, ((Below.refl _ w).alloc (Nat.le_refl _) _).alloc (by simp) _, by simp⟩
    case round =>
      obtain ⟨p, m, hpm, hp, rfl, hown, B, hb, hsz⟩ := hrel
      have HP := Lib.hid hpm
      clear hpm
      have hlen := keysTo_len v.kids m
      have hm2 : m ≤ 1048577 := by have := HP.out; omega
      have b4 : wr.cell? ⟨w.heap.size, 4, none⟩ = some (.slice A v.kids.length cap) := B.cell 4
      have b0 : wr.cell? ⟨w.heap.size, 0, none⟩ = some (.int .i64 v.k) := B.cell 0
      by_cases hlt : p < v.kids.length
      · obtain ⟨g, off, A', cap', rfl, g1, g2, g3, ⟨c0, c1, c2, c3, c4⟩, g5⟩ := Vs.at_get p hlt (Vs.at_below HA.out hb (Nat.le_refl _))
        by_cases hk5 : ((v.kids[p]).k == 5) = true
        · have hy := keysTo_yes' HP.out hlt hk5
          have HY := Lib.hid hy
          clear hy
          have hgs : g < wr.heap.size := by omega
          go_wp2_with (at_builtin; refine wpList_app rfl (.tmp 25) (.tmp 32) 47 rfl (w.heap.size + 1) 9 Tryd.underlying47 infoStr rfl (by decide) (W := wr) rfl (hown.alloc _) ((Below.refl _ wr).mono hsz |>.alloc hsz _) (Nat.le_trans hsz (by simp)) _ 1 1 _ rfl rfl (cells_new _ _ _) (one_sv _) (by unfold maxLen; omega) (by omega) ?_; intro v' w' hown' hb' hB')
          have B' := B.below hb' (Nat.lt_succ_self _)
          have hbw : Below w.heap.size w w' := hb.trans (hb'.mono (Nat.le_succ _))
          clear c0 c1 c2 c3 c4 b4 b0
          go_wp2_with fail
          go_roundw
          case rel => exact ⟨p + 2, m + 1, by have := HP.out; omega, by omega, by go_num, by rw [HY.out]; simpa [tv] using hown', B', hbw, hB'⟩
          case measure => simp [intOf]; omega
        · have hk5' : ((v.kids[p]).k == 5) = false := by simpa using hk5
          have HY := Lib.hid (keysTo_no' HP.out hlt hk5')
          clear hk5
          go_wp2_with fail
          go_roundw
          case rel => exact ⟨p + 2, m + 1, by have := HP.out; omega, by omega, by go_num, by rw [HY.out]; exact hown, B, hb, hsz⟩
          case measure => simp [intOf]; omega
      · go_wp2_with fail
        go_ret
        refine ⟨_, rfl, ?_, hb⟩
        have hm : m = (v.kids.length + 1) / 2 := by have := HP.out; omega
        rw [HK.out, ← hm]
        exact hown
  · have HK := Lib.hid (show v.keys = [] by unfold V.keys; rw [if_neg h8])
    have h8' : (v.k == 8) = false := by simpa using h8
    clear h8
    go_enter Tryd.func39, Tryd.ntmps39
    go_wp2_with fail
    go_loopw [3, 4] (fun o i wr => i = .int .i64 0 ∧ wr.ownsRow (w.heap.size + 1) 9 1 o 0 [] ∧ Blk wr w.heap.size 28 #[.int .i64 v.k, .int .i64 v.n, .int .i64 v.e, .string v.s, .slice A v.kids.length cap] ∧ Below w.heap.size w wr) (fun _ i _ => 1)
    case atStart => exact ⟨rfl, by simpa using own_empty (w.alloc (.cells #[.int .i64 v.k, .int .i64 v.n, .int .i64 v.e, .string v.s, .slice A v.kids.length cap] 28)) 9 1, (Blk.new w _ _).alloc _, ((Below.refl _ w).alloc (Nat.le_refl _) _).alloc (by simp) _⟩
    case round =>
      obtain ⟨rfl, hown, B, hb⟩ := hrel
      have b4 : wr.cell? ⟨w.heap.size, 4, none⟩ = some (.slice A v.kids.length cap) := B.cell 4
      have b0 : wr.cell? ⟨w.heap.size, 0, none⟩ = some (.int .i64 v.k) := B.cell 0
      go_wp2_with fail
      all_goals go_ret
      all_goals exact ⟨_, rfl, by rw [HK.out]; exact hown, hb⟩
end Go.Proofs.YtcjamnfboifjeaaDoor

/-
  Strings of the program: the texts and bytes in a value, in a row of their own.
-/
namespace Go.Proofs.YtcjamnfboifjeaaDoor
open Go.RowKit
set_option linter.unusedVariables false
set_option linter.unusedSimpArgs false

theorem own_same' {w w' : World} {base e size n : Nat} {v : Value} {xs : List Value} (h : w.ownsRow base e size v n xs) (hb : ∀ g, v.ownBlock = some g → w'.heap[g]? = w.heap[g]?) : w'.ownsRow base e size v n xs := by
  refine ⟨h.1, ?_⟩
  rcases h.2 with h' | ⟨g, c, cur, rfl, h1, h2, h3⟩
  · exact .inl h'
  · exact .inr ⟨g, c, cur, rfl, h1, (hb g rfl).trans h2, h3⟩
/-- The row that the walk's function holds in its variable. -/
def StInv (q b : Nat) (xs : List V) (w : World) : Prop := b ≤ q ∧ ∃ o, Blk w q 47 #[o] ∧ w.ownsRow b 9 1 o (textsOf xs).length ((textsOf xs).map tv) ∧ o.ownBlock ≠ some q
def StD (q : Nat) (w : World) (k : Nat) : Prop := k = q ∨ ∃ o, Blk w q 47 #[o] ∧ o.ownBlock = some k
theorem Blk.uniq {w : World} {q : Nat} {t : TypeId} {o o' : Value} (h : Blk w q t #[o]) (h' : Blk w q t #[o']) : o = o' := by
  have := h.symm.trans h'
  simpa using this

theorem st_keep {q : Nat} {w w1 w' : World} {o v' : Value} (hB : Blk w q 47 #[o]) (hne : o.ownBlock ≠ some q)
    (h1 : Below w.heap.size w w1) (hg : w1.grownBy w' o.ownBlock) (hv : v'.ownBlock = o.ownBlock ∨ v'.ownBlock = some w1.heap.size) :
    Blk (w'.setCell ⟨q, 0, none⟩ v') q 47 #[v'] ∧ v'.ownBlock ≠ some q ∧ Keep (StD q) w (w'.setCell ⟨q, 0, none⟩ v') := by
  have hq := hB.lt
  have hq1 : q < w1.heap.size := Nat.lt_of_lt_of_le hq h1.size
  have hB1 : Blk w1 q 47 #[o] := hB.below h1 hq
  have hB2 : Blk w' q 47 #[o] := (hg.block q hq1 (fun e => hne e.symm)).trans hB1
  have hB3 := hB2.set1 v'
  have hvq : v'.ownBlock ≠ some q := by
    rcases hv with h | h
    · rw [h]; exact hne
    · rw [h]; intro e; injection e; omega
  refine ⟨hB3, hvq, ⟨hg.os.trans h1.os, hg.tape.trans h1.tape, hg.output.trans h1.output, by simpa using Nat.le_trans h1.size hg.size, fun k hk hd => ⟨?_, ?_⟩⟩⟩
  · have hkq : k ≠ q := fun e => hd (.inl e)
    have hko : some k ≠ o.ownBlock := fun e => hd (.inr ⟨o, hB, e.symm⟩)
    rw [Below.heap_setCell _ _ _ _ (by exact hkq), hg.block k (Nat.lt_of_lt_of_le hk h1.size) hko, h1.block k hk]
  · rintro (h | ⟨o', ho', he⟩)
    · exact hd (.inl h)
    · obtain rfl := Blk.uniq hB3 ho'
      rcases hv with h | h
      · exact hd (.inr ⟨o, hB, by rw [← h]; exact he⟩)
      · rw [h] at he
        injection he with he
        have := h1.size
        omega
theorem st_keep0 {q : Nat} {w w1 : World} {o : Value} (hB : Blk w q 47 #[o]) (h1 : Below w.heap.size w w1) : Keep (StD q) w w1 :=
  ⟨h1.os, h1.tape, h1.output, h1.size, fun k hk hd => ⟨h1.block k hk, by
    rintro (h | ⟨o', ho', he⟩)
    · exact hd (.inl h)
    · obtain rfl := Blk.uniq (hB.below h1 hB.lt) ho'
      exact hd (.inr ⟨o, hB, he⟩)⟩⟩

set_option maxHeartbeats 1000000 in
theorem strings_yields (q b : Nat) : Yields 70 #[.pointer (some ⟨q, 0, none⟩)] (fun xs w => StInv q b xs w) (StD q) 1048577 where
  enters := enters_of Tryd.func70 (by kernel_rfl) rfl
  alloc := fun xs w o' h => by
    obtain ⟨hbq, o, hB, hown, hne⟩ := h
    refine ⟨⟨hbq, o, hB.alloc o', hown.alloc o', hne⟩, fun k hk => ?_⟩
    rcases hk with h | ⟨o2, h2, he⟩
    · exact ⟨.inl h, by rw [h]; exact hB.lt⟩
    · obtain rfl := Blk.uniq (hB.alloc o') h2
      exact ⟨.inr ⟨_, hB, he⟩, (hown.lt k he).2⟩
  step := by
    intro xs x A c w hi hinv hat hhi hD hn hxl
    obtain ⟨hbq, o, hB, hown, hne⟩ := hinv
    have hlq := hB.lt
    have hbw : b ≤ w.heap.size := by omega
    have hlen := textsOf_len xs
    have HB := Lib.hid hB
    have HO := Lib.hid hown
    have HNE := Lib.hid hne
    have c0 : (w.alloc (.cells #[.int .i64 x.k, .int .i64 x.n, .int .i64 x.e, .string x.s, .slice A x.kids.length c] 28)).cell? ⟨q, 0, none⟩ = some o := (hB.alloc _).cell 0
    clear hB hown hne hat hD
    unfold V.agg
    show Calls Tryd.prog 70 #[_, _] w _
    by_cases ht : x.isT = true
    · have hs : textsOf (xs ++ [x]) = textsOf xs ++ [x.s] := by rw [textsOf_append, textsOf_yes _ ht]; rfl
      have HS := Lib.hid hs
      have hcase : (x.k == 5) = true ∨ ((x.k == 5) = false ∧ (x.k == 6) = true) := by
        unfold V.isT at ht
        cases h5 : (x.k == 5) with
        | true => exact .inl rfl
        | false => rw [h5] at ht; exact .inr ⟨rfl, by simpa using ht⟩
      have hcn : ∀ (j : Nat) (u : Value), #[Value.string x.s].toList[j]? = some u → ((w.alloc (.cells #[.int .i64 x.k, .int .i64 x.n, .int .i64 x.e, .string x.s, .slice A x.kids.length c] 28)).alloc (.cells #[.string x.s] 9)).cell? ((⟨w.heap.size + 1, 0, none⟩ : Addr).add j) = some u := by
        intro j u hu
        have h := cells_new (w.alloc (.cells #[.int .i64 x.k, .int .i64 x.n, .int .i64 x.e, .string x.s, .slice A x.kids.length c] 28)) #[.string x.s] 9 j u hu
        rw [show (w.alloc (.cells #[.int .i64 x.k, .int .i64 x.n, .int .i64 x.e, .string x.s, .slice A x.kids.length c] 28)).heap.size = w.heap.size + 1 by simp] at h
        exact h
      have HCN := Lib.hid hcn
      clear hs ht hcn
      rcases hcase with h5 | ⟨h5, h6⟩
      all_goals
        go_enter Tryd.func70, Tryd.ntmps70
        go_wp2_with (at_builtin; refine wpList_app2 rfl (.tmp 11) (.tmp 14) 47 rfl b 9 Tryd.underlying47 infoStr' rfl (by decide) (by rfl) ((HO.out.alloc _).alloc _) (by simp; omega) _ 1 1 _ (by rfl) rfl HCN.out (one_tv _) (by unfold maxLen; omega) (by omega) ?_; intro v' w' hown' hg' hv'; obtain ⟨Av, cv, rfl⟩ := own_slice hown'; obtain ⟨kB, kv, kK⟩ := st_keep HB.out HNE.out (((Below.refl _ w).alloc (Nat.le_refl _) _).alloc (by simp) _) hg' hv'; have kc := (show Blk w' q 47 #[o] from (hg'.block q (by simp; omega) (fun e => HNE.out e.symm)).trans ((HB.out.alloc _).alloc _)).cell 0; have kf := (show Blk w' q 47 #[o] from (hg'.block q (by simp; omega) (fun e => HNE.out e.symm)).trans ((HB.out.alloc _).alloc _)).frozen 0; have KB := Lib.hid kB; have KV := Lib.hid kv; have KK := Lib.hid kK; have KO := Lib.hid hown'; clear kB kv kK hown' hg' hv')
        go_end0
        refine ⟨rfl, ⟨hbq, _, KB.out, ?_, KV.out⟩, KK.out⟩
        rw [HS.out, List.length_append, List.map_append]
        exact own_same' KO.out fun g hg => Below.heap_setCell _ _ _ _ (fun e => KV.out (by rw [hg]; congr 1))
    · have hF : x.isT = false := by simpa using ht
      have hs : textsOf (xs ++ [x]) = textsOf xs := by rw [textsOf_append, textsOf_no _ hF]; simp [textsOf]
      have HS := Lib.hid hs
      have hcase : (x.k == 5) = false ∧ (x.k == 6) = false := by
        unfold V.isT at hF
        cases h5 : (x.k == 5) with
        | true => rw [h5] at hF; cases hF
        | false => rw [h5] at hF; exact ⟨rfl, by simpa using hF⟩
      obtain ⟨h5, h6⟩ := hcase
      clear hs ht hF
      go_enter Tryd.func70, Tryd.ntmps70
      go_wp2_with fail
      go_end0
      refine ⟨rfl, ⟨hbq, o, HB.out.alloc _, ?_, HNE.out⟩, st_keep0 HB.out ((Below.refl _ w).alloc (Nat.le_refl _) _)⟩
      rw [HS.out]
      exact HO.out.alloc _

set_option maxHeartbeats 1000000 in
theorem implStrings (v : V) (A : Option Addr) (cap : Nat) (w : World) (hn : v.nodes ≤ 1048577) (hat : Vs.at_ w 0 w.heap.size v.kids A) :
    Calls Tryd.prog 33 #[v.agg A cap] w fun e w' => ∃ o, e = .returned o ∧ w'.ownsRow (w.heap.size + 1) 9 1 o v.texts.length (v.texts.map tv) ∧ Below w.heap.size w w' := by
  have HA := Lib.hid hat
  clear hat
  unfold V.agg
  go_enter Tryd.func33, Tryd.ntmps33
  go_wp2_with fail
  obtain ⟨w2, hw2⟩ : ∃ w2, w2 = ((w.alloc (.cells #[.int .i64 v.k, .int .i64 v.n, .int .i64 v.e, .string v.s, .slice A v.kids.length cap] 28)).alloc (.cells #[] 9)).alloc (.cells #[.slice (some ⟨w.heap.size + 1, 0, none⟩) 0 0] 47) := ⟨_, rfl⟩
  have z2 : w2.heap.size = w.heap.size + 3 := by rw [hw2]; simp
  have hB : Blk w2 (w.heap.size + 2) 47 #[.slice (some ⟨w.heap.size + 1, 0, none⟩) 0 0] := by
    have h := Blk.new ((w.alloc (.cells #[.int .i64 v.k, .int .i64 v.n, .int .i64 v.e, .string v.s, .slice A v.kids.length cap] 28)).alloc (.cells #[] 9)) 47 #[.slice (some ⟨w.heap.size + 1, 0, none⟩) 0 0]
    rw [← hw2] at h
    simpa using h
  have b2 : Below w.heap.size w w2 := by rw [hw2]; exact (((Below.refl _ w).alloc (Nat.le_refl _) _).alloc (by simp) _).alloc (by simp; omega) _
  have ho : w2.ownsRow (w.heap.size + 1) 9 1 (.slice (some ⟨w.heap.size + 1, 0, none⟩) 0 0) 0 [] := by
    have h := (own_empty' (w := w.alloc (.cells #[.int .i64 v.k, .int .i64 v.n, .int .i64 v.e, .string v.s, .slice A v.kids.length cap] 28)) (base := w.heap.size + 1) 9 1 (by simp)).alloc (.cells #[.slice (some ⟨w.heap.size + 1, 0, none⟩) 0 0] 47)
    rw [← hw2] at h
    simpa using h
  rw [← hw2]
  clear hw2
  have hinv : StInv (w.heap.size + 2) (w.heap.size + 1) [] w2 := ⟨by omega, _, hB, ho, by simp [Value.ownBlock]⟩
  have hd : ∀ k, k < w.heap.size → ¬ StD (w.heap.size + 2) w2 k := by
    rintro k hk (h | ⟨o, h1, h2⟩)
    · omega
    · obtain rfl := Blk.uniq hB h1
      simp [Value.ownBlock] at h2
      omega
  refine (walk_any (strings_yields (w.heap.size + 2) (w.heap.size + 1)) v A cap [] w2 w.heap.size hinv (Vs.at_below HA.out b2 (Nat.le_refl _)) b2.size hd hn (by simpa using hn)).mono ?_
  rintro e w3 ⟨rfl, ⟨_, o, hB3, hown3, _⟩, k3⟩
  have hb3 := k3.below b2 b2.size hd
  obtain ⟨Ao, co, rfl⟩ := own_slice hown3
  have c0 := hB3.cell 0
  have HO := Lib.hid hown3
  clear hown3 hB3 k3 hinv hB ho hd
  go_wp2_with fail
  go_ret
  exact ⟨_, rfl, HO.out, hb3⟩
theorem specStringsRow (v : V) (A : Option Addr) (cap : Nat) (w : World) (hn : v.nodes ≤ 1048577) (hat : Vs.at_ w 0 w.heap.size v.kids A) :
    Calls Tryd.prog 43 #[v.agg A cap] w fun e w' => ∃ o, e = .returned o ∧ w'.ownsRow (w.heap.size + 1) 9 1 o v.texts.length (v.texts.map tv) ∧ Below w.heap.size w w' :=
  (specStrings v A cap w hn hat).mono fun _ _ ⟨o, h1, h2, _, h4⟩ => ⟨o, h1, h2, h4⟩
theorem implStringsRow (v : V) (A : Option Addr) (cap : Nat) (w : World) (hn : v.nodes ≤ 1048577) (hat : Vs.at_ w 0 w.heap.size v.kids A) :
    Calls Tryd.prog 33 #[v.agg A cap] w fun e w' => ∃ o, e = .returned o ∧ w'.ownsRow (w.heap.size + 1) 9 1 o v.texts.length (v.texts.map tv) ∧ Below w.heap.size w w' := implStrings v A cap w hn hat
end Go.Proofs.YtcjamnfboifjeaaDoor

/-
  What the drawn laws call: bytes that came in; whether they are many.
-/
namespace Go.Proofs.YtcjamnfboifjeaaDoor
open Go.RowKit
set_option linter.unusedVariables false
set_option linter.unusedSimpArgs false
set_option maxRecDepth 100000

theorem bytes_of : ∀ (l : List Int), (∀ z ∈ l, (Lit.int .u8 z).wf = true) → ∃ code : List UInt8, code.length = l.length ∧ l.map (Value.int .u8) = code.map bv
  | [], _ => ⟨[], rfl, rfl⟩
  | z :: l, h => by
    obtain ⟨code, h1, h2⟩ := bytes_of l (fun x hx => h x (List.mem_cons_of_mem _ hx))
    have hz := h z List.mem_cons_self
    have hr : 0 ≤ z ∧ z ≤ 255 := by simpa [Lit.wf, IntKind.min, IntKind.max, IntKind.signed, IntKind.bits] using hz
    refine ⟨UInt8.ofNat z.toNat :: code, by simp [h1], ?_⟩
    rw [List.map_cons, List.map_cons, h2]
    congr 1
    unfold bv
    congr 1
    rw [UInt8.toNat_ofNat']
    omega
theorem lawBig (A : Option Addr) (n c : Nat) (w : World) (h : n ≤ 1048576) : Calls Tryd.prog 13 #[.slice A n c] w fun e w' => e = .returned (.bool false) ∧ w' = w := by
  have h2 : ¬ (1048576 : Int) < (n : Int) := by omega
  go_enter Tryd.func13, Tryd.ntmps13
  go_wp2_with fail
  go_ret
  exact ⟨rfl, rfl⟩
theorem lawBigY (A : Option Addr) (n c : Nat) (w : World) (h : 1048576 < n) : Calls Tryd.prog 13 #[.slice A n c] w fun e w' => e = .returned (.bool true) ∧ w' = w := by
  have h2 : (1048576 : Int) < (n : Int) := by omega
  go_enter Tryd.func13, Tryd.ntmps13
  go_wp2_with fail
  go_ret
  exact ⟨rfl, rfl⟩
theorem row_of {w : World} {base : Nat} {e : TypeId} {o : Value} {n : Nat} {xs : List Value} (h : w.ownsRow base e 1 o n xs) : ∃ A c, o = .slice A n c := by
  rcases h.2 with ⟨rfl, rfl⟩ | ⟨g, c, cur, rfl, _⟩
  · exact ⟨none, 0, rfl⟩
  · exact ⟨_, _, rfl⟩
end Go.Proofs.YtcjamnfboifjeaaDoor

/-
  Rows of texts that are the same.
-/
namespace Go.Proofs.YtcjamnfboifjeaaDoor
open Go.RowKit
set_option linter.unusedVariables false
set_option linter.unusedSimpArgs false
set_option maxRecDepth 100000

set_option maxHeartbeats 1000000 in
theorem lawSameTexts (l : List ByteArray) (A B : Option Addr) (c d : Nat) (w : World) (hn : l.length ≤ 10000000) (ho : At1 w w.heap.size A (l.map tv)) (hp : At1 w w.heap.size B (l.map tv)) :
    Calls Tryd.prog 38 #[.slice A l.length c, .slice B l.length d] w fun e w' => e = .returned (.bool true) ∧ Below w.heap.size w w' := by
  have HO := Lib.hid ho
  have HP := Lib.hid hp
  clear ho hp
  go_enter Tryd.func38, Tryd.ntmps38
  go_wp2_with fail
  go_loopw [5] (fun i wr => ∃ j : Nat, j ≤ l.length ∧ i = .int .i64 j ∧ Below w.heap.size w wr) (fun i _ => l.length - (intOf i).toNat)
  case atStart => exact ⟨0, Nat.zero_le _, rfl, Below.refl _ _⟩
  case round =>
    obtain ⟨j, hj, rfl, hb⟩ := hrel
    by_cases hlt : j < l.length
    · obtain ⟨g, off, rfl, _, c0⟩ := (HO.out.below hb (Nat.le_refl _)).get (j := j) (by simpa using hlt)
      obtain ⟨g', off', rfl, _, d0⟩ := (HP.out.below hb (Nat.le_refl _)).get (j := j) (by simpa using hlt)
      rw [List.getElem_map] at c0 d0
      unfold tv at c0 d0
      go_wp2_with fail
      go_quiet (fail)
      go_wp2_with fail
      go_roundw
      case rel => exact ⟨j + 1, by omega, by go_num, below_drewN hb _⟩
      case measure => simp [intOf]; omega
    · obtain rfl : j = l.length := by omega
      go_wp2_with fail
      go_ret
      exact ⟨rfl, hb⟩
end Go.Proofs.YtcjamnfboifjeaaDoor

/-
  The library's listed tables, as a row lists them, lie as the contracts ask (by the names that utf8.ValidString reads).
-/
namespace Go.Proofs.YtcjamnfboifjeaaDoor
open Go.RowKit Go.Shelf Go.Lib

theorem accD : (Rows.laid_unicode_utf8_acceptRanges : DataW Unit) = Lib.acceptData := by kernel_rfl
theorem fstD : Rows.laid_unicode_utf8_first = Lib.firstData := Pinned.utf8First_eq
theorem extraU8 : U8Extra Tryd.prog Tryd.laysV196_ren := ⟨by kernel_rfl, by kernel_rfl, by kernel_rfl, by kernel_rfl, by kernel_rfl, by kernel_rfl, by kernel_rfl⟩
theorem tabs_of_laid {l : List (String × DataW Unit)} {W : World} (h : laidMet Tryd.prog l W) (ha : ("unicode/utf8.acceptRanges", Rows.laid_unicode_utf8_acceptRanges) ∈ l) (hf : ("unicode/utf8.first", Rows.laid_unicode_utf8_first) ∈ l) : Tabs W :=
  utf8Tabs_of_readsT (.of196 Tryd.laysV196) extraU8 (fstD ▸ Lib.laidMet.reads h hf) (accD ▸ Lib.laidMet.reads h ha)
end Go.Proofs.YtcjamnfboifjeaaDoor

/-
  FnSorted returns true for every code; it reads as it did; the listed tables lie as the card lists them.
-/
namespace Go.Proofs.YtcjamnfboifjeaaDoor.fnSorted
open Go.ChangeShapes Go.WideShapes Go.ChangeAt Go.RowKit
open Go.ChangeMaps (open_string shut_string)
set_option linter.unusedVariables false
set_option linter.unusedSimpArgs false
set_option maxRecDepth 100000

/-- What the two loops carry along. -/
def ND (w0 : World) (p q : Nat) (n d : V) (An Ad : Option Addr) (cn cd : Nat) (W : World) : Prop := Below w0.heap.size w0 W ∧ Blk W p 28 #[.int .i64 n.k, .int .i64 n.n, .int .i64 n.e, .string n.s, .slice An n.kids.length cn] ∧ Blk W q 28 #[.int .i64 d.k, .int .i64 d.n, .int .i64 d.e, .string d.s, .slice Ad d.kids.length cd] ∧ Vs.at_ W 0 W.heap.size n.kids An ∧ Vs.at_ W 0 W.heap.size d.kids Ad
theorem ND.below {w0 : World} {p q : Nat} {n d : V} {An Ad : Option Addr} {cn cd : Nat} {W W' : World} (h : ND w0 p q n d An Ad cn cd W) (hb : Below W.heap.size W W') : ND w0 p q n d An Ad cn cd W' :=
  ⟨h.1.trans (hb.mono h.1.size), h.2.1.below hb h.2.1.lt, h.2.2.1.below hb h.2.2.1.lt, Vs.at_more (Nat.le_refl _) hb.size _ _ (Vs.at_below h.2.2.2.1 hb (Nat.le_refl _)), Vs.at_more (Nat.le_refl _) hb.size _ _ (Vs.at_below h.2.2.2.2 hb (Nat.le_refl _))⟩
theorem kid_nodes (v : V) (j : Nat) (h : j < v.kids.length) (hn : v.nodes ≤ 1048577) : (v.kids[j]).nodes ≤ 1048577 := by have := Vs.nodes_get j h; rw [V.nodes_eq] at hn; omega

set_option maxHeartbeats 8000000 in
theorem walk1 (code : List UInt8) (A : Option Addr) (cap : Nat) (hn : code.length ≤ 1048576) (w : World) (hat : At1 w w.heap.size A (code.map bv)) (hT : Tabs w) :
    Calls Tryd.prog 5 #[.slice A code.length cap] w fun e w' => e = .returned (.bool true) ∧ Below w.heap.size w w' := by
  have HA := Lib.hid hat
  have HT := Lib.hid hT
  have at_ : Hid (∀ W, Below w.heap.size w W → At1 W W.heap.size A (code.map bv)) := Lib.hid (fun W hb => (HA.out.below hb (Nat.le_refl _)).more hb.size)
  clear hat hT
  go_enter Tryd.func5, Tryd.ntmps5
  go_wp2_with fail
  refine (lawBig A code.length cap w hn).mono ?_
  rintro e w0 ⟨rfl, hw0⟩
  subst hw0
  have C0 := Lib.hid (Ctx.start w0)
  go_wp2_with fail
  refine (drawSorted A cap code w0 (at_.out _ C0.out.1) (by omega)).mono ?_
  rintro e w1 ⟨v, Av, cv, rfl, fv, wv, lv, atv, hb⟩
  have C1 := Lib.hid ((C0.out.below hb).kid atv)
  have nv : v.nodes ≤ 1048577 := by have := V.nodes_weight v; omega
  clear hb atv C0
  unfold V.agg
  go_wp2_with fail
  obtain ⟨w2, hw2⟩ : ∃ W, W = w1.alloc (.cells #[.int .i64 v.k, .int .i64 v.n, .int .i64 v.e, .string v.s, .slice Av v.kids.length cv] 28) := ⟨_, rfl⟩
  have C2 := Lib.hid (C1.out.new #[.int .i64 v.k, .int .i64 v.n, .int .i64 v.e, .string v.s, .slice Av v.kids.length cv])
  rw [← hw2] at C2
  try rw [← hw2]
  clear hw2 C1
  have HSV := Lib.hid (fun W hT h => implSorted v Av cv W (by omega) hT h)
  have HSW := Lib.hid (fun W h => specSorted v Av cv W (by omega) h)
  unfold Copied at HSV HSW
  obtain ⟨s, hs⟩ : ∃ s, sortV v = s := ⟨_, rfl⟩
  have wsv : s.weight = v.weight := by rw [← hs]; exact sortV_weight v
  have HNV : Hid (s.nodes = v.nodes) := Lib.hid (by rw [← hs]; exact sortV_nodes v)
  have HDV : Hid (s.deep = v.deep) := Lib.hid (by rw [← hs]; exact sortV_deep v)
  have HS2 : Hid (sortV s = s) := Lib.hid (by rw [← hs]; exact sortV_two v)
  rw [hs] at HSV HSW
  clear hs
  have ns : s.nodes ≤ 1048577 := by rw [HNV.out]; exact nv
  unfold V.agg at HSV HSW
  refine (HSV.out w2 (HT.out.below C2.out.1) (C2.out.at_ (by simp))).mono ?_
  rintro e w3 ⟨As, cs, Fs, rfl, ls, lls, _, _, hb⟩
  have C3 := Lib.hid ((C2.out.below hb).kid (Vs.lies_at lls (fun _ _ => Nat.zero_le _)))
  clear hb lls C2 HSV
  go_wp2_with fail
  obtain ⟨w4, hw4⟩ : ∃ W, W = w3.alloc (.cells #[.int .i64 s.k, .int .i64 s.n, .int .i64 s.e, .string s.s, .slice As s.kids.length cs] 28) := ⟨_, rfl⟩
  have C4 := Lib.hid (C3.out.new #[.int .i64 s.k, .int .i64 s.n, .int .i64 s.e, .string s.s, .slice As s.kids.length cs])
  rw [← hw4] at C4
  try rw [← hw4]
  clear hw4 C3
  refine (drawNodes A cap code w4 (at_.out _ C4.out.1) (by omega)).mono ?_
  rintro e w5 ⟨n, An, cn, rfl, fn, wn, ln, atn, hb⟩
  have C5 := Lib.hid ((C4.out.below hb).kid atn)
  have nn : n.nodes ≤ 1048577 := by have := V.nodes_weight n; omega
  clear hb atn C4
  unfold V.agg
  go_wp2_with fail
  obtain ⟨w6, hw6⟩ : ∃ W, W = w5.alloc (.cells #[.int .i64 n.k, .int .i64 n.n, .int .i64 n.e, .string n.s, .slice An n.kids.length cn] 28) := ⟨_, rfl⟩
  have C6 := Lib.hid (C5.out.new #[.int .i64 n.k, .int .i64 n.n, .int .i64 n.e, .string n.s, .slice An n.kids.length cn])
  rw [← hw6] at C6
  try rw [← hw6]
  clear hw6 C5
  refine (drawDeep A cap code w6 (at_.out _ C6.out.1) (by omega)).mono ?_
  rintro e w7 ⟨d, Ad, cd, rfl, fd, wd, ld, atd, hb⟩
  have C7 := Lib.hid ((C6.out.below hb).kid atd)
  have nd : d.nodes ≤ 1048577 := by have := V.nodes_weight d; omega
  clear hb atd C6
  unfold V.agg
  go_wp2_with fail
  obtain ⟨w8, hw8⟩ : ∃ W, W = w7.alloc (.cells #[.int .i64 d.k, .int .i64 d.n, .int .i64 d.e, .string d.s, .slice Ad d.kids.length cd] 28) := ⟨_, rfl⟩
  have C8 := Lib.hid (C7.out.new #[.int .i64 d.k, .int .i64 d.n, .int .i64 d.e, .string d.s, .slice Ad d.kids.length cd])
  rw [← hw8] at C8
  try rw [← hw8]
  clear hw8 C7
  refine (drawField A cap code w8 (at_.out _ C8.out.1) (by omega)).mono ?_
  rintro e w9 ⟨f, Af, cf, key, rfl, hkey, ff, wf, lf, atf, hb⟩
  have C9 := Lib.hid ((C8.out.below hb).kid atf)
  have nf : f.nodes ≤ 1048577 := by have := V.nodes_weight f; omega
  clear hb atf C8
  unfold V.agg
  go_wp2_with fail
  obtain ⟨w10, hw10⟩ : ∃ W, W = w9.alloc (.cells #[.int .i64 f.k, .int .i64 f.n, .int .i64 f.e, .string f.s, .slice Af f.kids.length cf] 28) := ⟨_, rfl⟩
  have C10 := Lib.hid (C9.out.new #[.int .i64 f.k, .int .i64 f.n, .int .i64 f.e, .string f.s, .slice Af f.kids.length cf])
  rw [← hw10] at C10
  try rw [← hw10]
  clear hw10 C9
  have HFI := Lib.hid (fun W h => implField f key Af cf W nf h)
  have HFS := Lib.hid (fun W h => specField f key Af cf W nf h)
  unfold FieldRet at HFI HFS
  have nx0 := Nat.le_trans (fieldD_nodes f key) nf
  obtain ⟨x, hx⟩ : ∃ x, fieldD f key = x := ⟨_, rfl⟩
  obtain ⟨bb, hbb⟩ : ∃ b, fieldB f key = b := ⟨_, rfl⟩
  rw [hx] at HFI HFS nx0
  rw [hbb] at HFI HFS
  have nx : x.nodes ≤ 1048577 := nx0
  clear hx hbb nx0
  unfold V.agg at HFI HFS
  refine (HFI.out w10 (C10.out.at_ (by simp))).mono ?_
  rintro e w11 ⟨Ax, cx, Fx, rfl, lx, llx, _, _, hb⟩
  have C11 := Lib.hid ((C10.out.below hb).kid (Vs.lies_at llx (fun _ _ => Nat.zero_le _)))
  clear hb llx C10 HFI
  obtain ⟨tf0, tf1, tf2, tf3, tf4⟩ := C11.out.five (p := w9.heap.size) (show (w9.heap.size, #[.int .i64 f.k, .int .i64 f.n, .int .i64 f.e, .string f.s, .slice Af f.kids.length cf]) ∈ _ by simp)
  have ltf := (C11.out.blk (p := w9.heap.size) (cs := #[.int .i64 f.k, .int .i64 f.n, .int .i64 f.e, .string f.s, .slice Af f.kids.length cf]) (by simp)).lt
  go_wp2_with fail
  obtain ⟨w12, hw12⟩ : ∃ W, W = w11.alloc (.cells #[.int .i64 x.k, .int .i64 x.n, .int .i64 x.e, .string x.s, .slice Ax x.kids.length cx] 28) := ⟨_, rfl⟩
  have C12 := Lib.hid (C11.out.new #[.int .i64 x.k, .int .i64 x.n, .int .i64 x.e, .string x.s, .slice Ax x.kids.length cx])
  rw [← hw12] at C12
  try rw [← hw12]
  clear hw12 C11
  clear tf0 tf1 tf2 tf3 tf4 ltf
  obtain ⟨y, hy⟩ : ∃ y, x = y := ⟨_, rfl⟩
  rw [hy] at HFS
  have ny : y.nodes ≤ 1048577 := by rw [← hy]; exact nx
  have hxy : V.same x y = true := by rw [hy]; exact V.same_self y
  clear hy
  refine (HFS.out w12 (C12.out.at_ (by simp))).mono ?_
  rintro e w13 ⟨Ay, cy, Fy, rfl, ly, lly, _, _, hb⟩
  have C13 := Lib.hid ((C12.out.below hb).kid (Vs.lies_at lly (fun _ _ => Nat.zero_le _)))
  clear hb lly C12 HFS
  go_wp2_with fail
  obtain ⟨w14, hw14⟩ : ∃ W, W = w13.alloc (.cells #[.int .i64 y.k, .int .i64 y.n, .int .i64 y.e, .string y.s, .slice Ay y.kids.length cy] 28) := ⟨_, rfl⟩
  have C14 := Lib.hid (C13.out.new #[.int .i64 y.k, .int .i64 y.n, .int .i64 y.e, .string y.s, .slice Ay y.kids.length cy])
  rw [← hw14] at C14
  try rw [← hw14]
  clear hw14 C13
  refine (drawKeys A cap code w14 (at_.out _ C14.out.1) (by omega)).mono ?_
  rintro e w15 ⟨k, Ak, ck, rfl, fk, wk, lk, atk, hb⟩
  have C15 := Lib.hid ((C14.out.below hb).kid atk)
  have nk : k.nodes ≤ 1048577 := by have := V.nodes_weight k; omega
  clear hb atk C14
  unfold V.agg
  go_wp2_with fail
  obtain ⟨w16, hw16⟩ : ∃ W, W = w15.alloc (.cells #[.int .i64 k.k, .int .i64 k.n, .int .i64 k.e, .string k.s, .slice Ak k.kids.length ck] 28) := ⟨_, rfl⟩
  have C16 := Lib.hid (C15.out.new #[.int .i64 k.k, .int .i64 k.n, .int .i64 k.e, .string k.s, .slice Ak k.kids.length ck])
  rw [← hw16] at C16
  try rw [← hw16]
  clear hw16 C15
  refine (drawCount A cap code w16 (at_.out _ C16.out.1) (by omega)).mono ?_
  rintro e w17 ⟨c, Ac, cc, kind, rfl, hkind, fc, wc, lc, atc, hb⟩
  have C17 := Lib.hid ((C16.out.below hb).kid atc)
  have nc : c.nodes ≤ 1048577 := by have := V.nodes_weight c; omega
  clear hb atc C16
  unfold V.agg
  go_wp2_with fail
  obtain ⟨w18, hw18⟩ : ∃ W, W = w17.alloc (.cells #[.int .i64 c.k, .int .i64 c.n, .int .i64 c.e, .string c.s, .slice Ac c.kids.length cc] 28) := ⟨_, rfl⟩
  have C18 := Lib.hid (C17.out.new #[.int .i64 c.k, .int .i64 c.n, .int .i64 c.e, .string c.s, .slice Ac c.kids.length cc])
  rw [← hw18] at C18
  try rw [← hw18]
  clear hw18 C17
  refine (drawStrings A cap code w18 (at_.out _ C18.out.1) (by omega)).mono ?_
  rintro e w19 ⟨t, At, ct, rfl, ft, wt, lt, att, hb⟩
  have C19 := Lib.hid ((C18.out.below hb).kid att)
  have nt : t.nodes ≤ 1048577 := by have := V.nodes_weight t; omega
  clear hb att C18
  unfold V.agg
  go_wp2_with fail
  obtain ⟨w20, hw20⟩ : ∃ W, W = w19.alloc (.cells #[.int .i64 t.k, .int .i64 t.n, .int .i64 t.e, .string t.s, .slice At t.kids.length ct] 28) := ⟨_, rfl⟩
  have C20 := Lib.hid (C19.out.new #[.int .i64 t.k, .int .i64 t.n, .int .i64 t.e, .string t.s, .slice At t.kids.length ct])
  rw [← hw20] at C20
  try rw [← hw20]
  clear hw20 C19
  have HTI := Lib.hid (fun W h => implStrings t At ct W nt h)
  have HTS := Lib.hid (fun W h => specStringsRow t At ct W nt h)
  have HTC := Lib.hid (texts_count t)
  have HTL : t.texts.length ≤ 1048577 := Nat.le_trans (texts_len t) nt
  obtain ⟨tl, htl⟩ : ∃ l, t.texts = l := ⟨_, rfl⟩
  rw [htl] at HTI HTS HTC HTL
  clear htl
  unfold V.agg at HTI HTS
  refine (HTI.out w20 (C20.out.at_ (by simp))).mono ?_
  rintro e w21 ⟨ol, rfl, hol, hb⟩
  obtain ⟨AL, cL, rfl⟩ := own_slice hol
  have HL := Lib.hid (At1.own hol)
  have C21 := Lib.hid (C20.out.below hb)
  clear hol hb C20 HTI
  go_upto_region 14 with fail
  have HLS := Lib.hid (fun Az cz W h1 h2 => lawSame s s As Az cs cz W ns ns h1 h2)
  have HLX := Lib.hid (fun W h1 h2 => lawSame x y Ax Ay cx cy W nx ny h1 h2)
  simp only [V.same_self] at HLS
  simp only [hxy] at HLX
  have HNI := Lib.hid (fun W h => implNodes n An cn W nn h)
  have HNS := Lib.hid (fun W h => specNodes n An cn W nn h)
  have HDI := Lib.hid (fun W h => implDeep d Ad cd W nd h)
  have HDS := Lib.hid (fun W h => specDeep d Ad cd W nd h)
  have HKI := Lib.hid (fun W h => implKeys k Ak ck W nk h)
  have HKS := Lib.hid (fun W h => specKeys k Ak ck W nk h)
  have HKL : k.keys.length ≤ 1048577 := by have := keys_len k; have := Vs.len_le k.kids; rw [V.weight_eq] at wk; omega
  obtain ⟨kl, hkl⟩ : ∃ l, k.keys = l := ⟨_, rfl⟩
  rw [hkl] at HKI HKS HKL
  have HKT := Lib.hid (fun A1 A2 d1 d2 W h1 h2 => lawSameTexts kl A1 A2 d1 d2 W (by omega) h1 h2)
  have HTT := Lib.hid (fun A1 A2 d1 d2 W h1 h2 => lawSameTexts tl A1 A2 d1 d2 W (by omega) h1 h2)
  have HCI := Lib.hid (fun W h => implCount c kind Ac cc W nc h)
  have HCS := Lib.hid (fun W h => specCount c kind Ac cc W nc h)
  obtain ⟨zn, hzn⟩ : ∃ z : Int, (n.nodes : Int) = z := ⟨_, rfl⟩
  obtain ⟨zd, hzd⟩ : ∃ z : Int, (d.deep : Int) = z := ⟨_, rfl⟩
  obtain ⟨zc, hzc⟩ : ∃ z : Int, (ofKind kind c.pre : Int) = z := ⟨_, rfl⟩
  have HZN := Lib.hid hzn
  have HZD := Lib.hid hzd
  rw [hzn] at HNI HNS
  rw [hzd] at HDI HDS
  rw [hzc] at HCI HCS
  have hn1 : (zn != zn) = false := by simp
  have hn2 : (zd != zd) = false := by simp
  have hn3 : (zc != zc) = false := by simp
  have hn4 : (bb != bb) = false := by cases bb <;> rfl
  clear hzn hzd hzc hkl hxy
  unfold V.agg at HLS HLX HNI HNS HDI HDS HKI HKS HCI HCS
  obtain ⟨ts0, ts1, ts2, ts3, ts4⟩ := C21.out.five (p := w3.heap.size) (show (w3.heap.size, #[.int .i64 s.k, .int .i64 s.n, .int .i64 s.e, .string s.s, .slice As s.kids.length cs]) ∈ _ by simp)
  obtain ⟨tv0, tv1, tv2, tv3, tv4⟩ := C21.out.five (p := w1.heap.size) (show (w1.heap.size, #[.int .i64 v.k, .int .i64 v.n, .int .i64 v.e, .string v.s, .slice Av v.kids.length cv]) ∈ _ by simp)
  obtain ⟨tn0, tn1, tn2, tn3, tn4⟩ := C21.out.five (p := w5.heap.size) (show (w5.heap.size, #[.int .i64 n.k, .int .i64 n.n, .int .i64 n.e, .string n.s, .slice An n.kids.length cn]) ∈ _ by simp)
  obtain ⟨td0, td1, td2, td3, td4⟩ := C21.out.five (p := w7.heap.size) (show (w7.heap.size, #[.int .i64 d.k, .int .i64 d.n, .int .i64 d.e, .string d.s, .slice Ad d.kids.length cd]) ∈ _ by simp)
  obtain ⟨tx0, tx1, tx2, tx3, tx4⟩ := C21.out.five (p := w11.heap.size) (show (w11.heap.size, #[.int .i64 x.k, .int .i64 x.n, .int .i64 x.e, .string x.s, .slice Ax x.kids.length cx]) ∈ _ by simp)
  obtain ⟨ty0, ty1, ty2, ty3, ty4⟩ := C21.out.five (p := w13.heap.size) (show (w13.heap.size, #[.int .i64 y.k, .int .i64 y.n, .int .i64 y.e, .string y.s, .slice Ay y.kids.length cy]) ∈ _ by simp)
  obtain ⟨tk0, tk1, tk2, tk3, tk4⟩ := C21.out.five (p := w15.heap.size) (show (w15.heap.size, #[.int .i64 k.k, .int .i64 k.n, .int .i64 k.e, .string k.s, .slice Ak k.kids.length ck]) ∈ _ by simp)
  obtain ⟨tc0, tc1, tc2, tc3, tc4⟩ := C21.out.five (p := w17.heap.size) (show (w17.heap.size, #[.int .i64 c.k, .int .i64 c.n, .int .i64 c.e, .string c.s, .slice Ac c.kids.length cc]) ∈ _ by simp)
  obtain ⟨tt0, tt1, tt2, tt3, tt4⟩ := C21.out.five (p := w19.heap.size) (show (w19.heap.size, #[.int .i64 t.k, .int .i64 t.n, .int .i64 t.e, .string t.s, .slice At t.kids.length ct]) ∈ _ by simp)
  have hbr : Below w21.heap.size w21 w21 := Below.refl _ _
  have KC := Lib.hid (fun W (h : Below w21.heap.size w21 W) => C21.out.below h)
  have KE : Hid (∀ W, Below w21.heap.size w21 W → (fun w' => w'.cell? ⟨w3.heap.size, 0, none⟩ = some (.int .i64 s.k) ∧ w'.cell? ⟨w3.heap.size, 1, none⟩ = some (.int .i64 s.n) ∧ w'.cell? ⟨w3.heap.size, 2, none⟩ = some (.int .i64 s.e) ∧ w'.cell? ⟨w3.heap.size, 3, none⟩ = some (.string s.s) ∧ w'.cell? ⟨w3.heap.size, 4, none⟩ = some (.slice As s.kids.length cs) ∧ w'.cell? ⟨w1.heap.size, 0, none⟩ = some (.int .i64 v.k) ∧ w'.cell? ⟨w1.heap.size, 1, none⟩ = some (.int .i64 v.n) ∧ w'.cell? ⟨w1.heap.size, 2, none⟩ = some (.int .i64 v.e) ∧ w'.cell? ⟨w1.heap.size, 3, none⟩ = some (.string v.s) ∧ w'.cell? ⟨w1.heap.size, 4, none⟩ = some (.slice Av v.kids.length cv) ∧ w'.cell? ⟨w5.heap.size, 0, none⟩ = some (.int .i64 n.k) ∧ w'.cell? ⟨w5.heap.size, 1, none⟩ = some (.int .i64 n.n) ∧ w'.cell? ⟨w5.heap.size, 2, none⟩ = some (.int .i64 n.e) ∧ w'.cell? ⟨w5.heap.size, 3, none⟩ = some (.string n.s) ∧ w'.cell? ⟨w5.heap.size, 4, none⟩ = some (.slice An n.kids.length cn) ∧ w'.cell? ⟨w7.heap.size, 0, none⟩ = some (.int .i64 d.k) ∧ w'.cell? ⟨w7.heap.size, 1, none⟩ = some (.int .i64 d.n) ∧ w'.cell? ⟨w7.heap.size, 2, none⟩ = some (.int .i64 d.e) ∧ w'.cell? ⟨w7.heap.size, 3, none⟩ = some (.string d.s) ∧ w'.cell? ⟨w7.heap.size, 4, none⟩ = some (.slice Ad d.kids.length cd) ∧ w'.cell? ⟨w11.heap.size, 0, none⟩ = some (.int .i64 x.k) ∧ w'.cell? ⟨w11.heap.size, 1, none⟩ = some (.int .i64 x.n) ∧ w'.cell? ⟨w11.heap.size, 2, none⟩ = some (.int .i64 x.e) ∧ w'.cell? ⟨w11.heap.size, 3, none⟩ = some (.string x.s) ∧ w'.cell? ⟨w11.heap.size, 4, none⟩ = some (.slice Ax x.kids.length cx) ∧ w'.cell? ⟨w13.heap.size, 0, none⟩ = some (.int .i64 y.k) ∧ w'.cell? ⟨w13.heap.size, 1, none⟩ = some (.int .i64 y.n) ∧ w'.cell? ⟨w13.heap.size, 2, none⟩ = some (.int .i64 y.e) ∧ w'.cell? ⟨w13.heap.size, 3, none⟩ = some (.string y.s) ∧ w'.cell? ⟨w13.heap.size, 4, none⟩ = some (.slice Ay y.kids.length cy) ∧ w'.cell? ⟨w15.heap.size, 0, none⟩ = some (.int .i64 k.k) ∧ w'.cell? ⟨w15.heap.size, 1, none⟩ = some (.int .i64 k.n) ∧ w'.cell? ⟨w15.heap.size, 2, none⟩ = some (.int .i64 k.e) ∧ w'.cell? ⟨w15.heap.size, 3, none⟩ = some (.string k.s) ∧ w'.cell? ⟨w15.heap.size, 4, none⟩ = some (.slice Ak k.kids.length ck) ∧ w'.cell? ⟨w17.heap.size, 0, none⟩ = some (.int .i64 c.k) ∧ w'.cell? ⟨w17.heap.size, 1, none⟩ = some (.int .i64 c.n) ∧ w'.cell? ⟨w17.heap.size, 2, none⟩ = some (.int .i64 c.e) ∧ w'.cell? ⟨w17.heap.size, 3, none⟩ = some (.string c.s) ∧ w'.cell? ⟨w17.heap.size, 4, none⟩ = some (.slice Ac c.kids.length cc) ∧ w'.cell? ⟨w19.heap.size, 0, none⟩ = some (.int .i64 t.k) ∧ w'.cell? ⟨w19.heap.size, 1, none⟩ = some (.int .i64 t.n) ∧ w'.cell? ⟨w19.heap.size, 2, none⟩ = some (.int .i64 t.e) ∧ w'.cell? ⟨w19.heap.size, 3, none⟩ = some (.string t.s) ∧ w'.cell? ⟨w19.heap.size, 4, none⟩ = some (.slice At t.kids.length ct)) W) := Lib.hid (fun W h => by have C := C21; have Xs := (C.out.below h).five (p := w3.heap.size) (show (w3.heap.size, #[.int .i64 s.k, .int .i64 s.n, .int .i64 s.e, .string s.s, .slice As s.kids.length cs]) ∈ _ by simp); have Xv := (C.out.below h).five (p := w1.heap.size) (show (w1.heap.size, #[.int .i64 v.k, .int .i64 v.n, .int .i64 v.e, .string v.s, .slice Av v.kids.length cv]) ∈ _ by simp); have Xn := (C.out.below h).five (p := w5.heap.size) (show (w5.heap.size, #[.int .i64 n.k, .int .i64 n.n, .int .i64 n.e, .string n.s, .slice An n.kids.length cn]) ∈ _ by simp); have Xd := (C.out.below h).five (p := w7.heap.size) (show (w7.heap.size, #[.int .i64 d.k, .int .i64 d.n, .int .i64 d.e, .string d.s, .slice Ad d.kids.length cd]) ∈ _ by simp); have Xx := (C.out.below h).five (p := w11.heap.size) (show (w11.heap.size, #[.int .i64 x.k, .int .i64 x.n, .int .i64 x.e, .string x.s, .slice Ax x.kids.length cx]) ∈ _ by simp); have Xy := (C.out.below h).five (p := w13.heap.size) (show (w13.heap.size, #[.int .i64 y.k, .int .i64 y.n, .int .i64 y.e, .string y.s, .slice Ay y.kids.length cy]) ∈ _ by simp); have Xk := (C.out.below h).five (p := w15.heap.size) (show (w15.heap.size, #[.int .i64 k.k, .int .i64 k.n, .int .i64 k.e, .string k.s, .slice Ak k.kids.length ck]) ∈ _ by simp); have Xc := (C.out.below h).five (p := w17.heap.size) (show (w17.heap.size, #[.int .i64 c.k, .int .i64 c.n, .int .i64 c.e, .string c.s, .slice Ac c.kids.length cc]) ∈ _ by simp); have Xt := (C.out.below h).five (p := w19.heap.size) (show (w19.heap.size, #[.int .i64 t.k, .int .i64 t.n, .int .i64 t.e, .string t.s, .slice At t.kids.length ct]) ∈ _ by simp); exact ⟨Xs.1, Xs.2.1, Xs.2.2.1, Xs.2.2.2.1, Xs.2.2.2.2, Xv.1, Xv.2.1, Xv.2.2.1, Xv.2.2.2.1, Xv.2.2.2.2, Xn.1, Xn.2.1, Xn.2.2.1, Xn.2.2.2.1, Xn.2.2.2.2, Xd.1, Xd.2.1, Xd.2.2.1, Xd.2.2.2.1, Xd.2.2.2.2, Xx.1, Xx.2.1, Xx.2.2.1, Xx.2.2.2.1, Xx.2.2.2.2, Xy.1, Xy.2.1, Xy.2.2.1, Xy.2.2.2.1, Xy.2.2.2.2, Xk.1, Xk.2.1, Xk.2.2.1, Xk.2.2.2.1, Xk.2.2.2.2, Xc.1, Xc.2.1, Xc.2.2.1, Xc.2.2.2.1, Xc.2.2.2.2, Xt.1, Xt.2.1, Xt.2.2.1, Xt.2.2.2.1, Xt.2.2.2.2⟩)
  go_region_held3 (fun w' => w'.cell? ⟨w3.heap.size, 0, none⟩ = some (.int .i64 s.k) ∧ w'.cell? ⟨w3.heap.size, 1, none⟩ = some (.int .i64 s.n) ∧ w'.cell? ⟨w3.heap.size, 2, none⟩ = some (.int .i64 s.e) ∧ w'.cell? ⟨w3.heap.size, 3, none⟩ = some (.string s.s) ∧ w'.cell? ⟨w3.heap.size, 4, none⟩ = some (.slice As s.kids.length cs) ∧ w'.cell? ⟨w1.heap.size, 0, none⟩ = some (.int .i64 v.k) ∧ w'.cell? ⟨w1.heap.size, 1, none⟩ = some (.int .i64 v.n) ∧ w'.cell? ⟨w1.heap.size, 2, none⟩ = some (.int .i64 v.e) ∧ w'.cell? ⟨w1.heap.size, 3, none⟩ = some (.string v.s) ∧ w'.cell? ⟨w1.heap.size, 4, none⟩ = some (.slice Av v.kids.length cv) ∧ w'.cell? ⟨w5.heap.size, 0, none⟩ = some (.int .i64 n.k) ∧ w'.cell? ⟨w5.heap.size, 1, none⟩ = some (.int .i64 n.n) ∧ w'.cell? ⟨w5.heap.size, 2, none⟩ = some (.int .i64 n.e) ∧ w'.cell? ⟨w5.heap.size, 3, none⟩ = some (.string n.s) ∧ w'.cell? ⟨w5.heap.size, 4, none⟩ = some (.slice An n.kids.length cn) ∧ w'.cell? ⟨w7.heap.size, 0, none⟩ = some (.int .i64 d.k) ∧ w'.cell? ⟨w7.heap.size, 1, none⟩ = some (.int .i64 d.n) ∧ w'.cell? ⟨w7.heap.size, 2, none⟩ = some (.int .i64 d.e) ∧ w'.cell? ⟨w7.heap.size, 3, none⟩ = some (.string d.s) ∧ w'.cell? ⟨w7.heap.size, 4, none⟩ = some (.slice Ad d.kids.length cd) ∧ w'.cell? ⟨w11.heap.size, 0, none⟩ = some (.int .i64 x.k) ∧ w'.cell? ⟨w11.heap.size, 1, none⟩ = some (.int .i64 x.n) ∧ w'.cell? ⟨w11.heap.size, 2, none⟩ = some (.int .i64 x.e) ∧ w'.cell? ⟨w11.heap.size, 3, none⟩ = some (.string x.s) ∧ w'.cell? ⟨w11.heap.size, 4, none⟩ = some (.slice Ax x.kids.length cx) ∧ w'.cell? ⟨w13.heap.size, 0, none⟩ = some (.int .i64 y.k) ∧ w'.cell? ⟨w13.heap.size, 1, none⟩ = some (.int .i64 y.n) ∧ w'.cell? ⟨w13.heap.size, 2, none⟩ = some (.int .i64 y.e) ∧ w'.cell? ⟨w13.heap.size, 3, none⟩ = some (.string y.s) ∧ w'.cell? ⟨w13.heap.size, 4, none⟩ = some (.slice Ay y.kids.length cy) ∧ w'.cell? ⟨w15.heap.size, 0, none⟩ = some (.int .i64 k.k) ∧ w'.cell? ⟨w15.heap.size, 1, none⟩ = some (.int .i64 k.n) ∧ w'.cell? ⟨w15.heap.size, 2, none⟩ = some (.int .i64 k.e) ∧ w'.cell? ⟨w15.heap.size, 3, none⟩ = some (.string k.s) ∧ w'.cell? ⟨w15.heap.size, 4, none⟩ = some (.slice Ak k.kids.length ck) ∧ w'.cell? ⟨w17.heap.size, 0, none⟩ = some (.int .i64 c.k) ∧ w'.cell? ⟨w17.heap.size, 1, none⟩ = some (.int .i64 c.n) ∧ w'.cell? ⟨w17.heap.size, 2, none⟩ = some (.int .i64 c.e) ∧ w'.cell? ⟨w17.heap.size, 3, none⟩ = some (.string c.s) ∧ w'.cell? ⟨w17.heap.size, 4, none⟩ = some (.slice Ac c.kids.length cc) ∧ w'.cell? ⟨w19.heap.size, 0, none⟩ = some (.int .i64 t.k) ∧ w'.cell? ⟨w19.heap.size, 1, none⟩ = some (.int .i64 t.n) ∧ w'.cell? ⟨w19.heap.size, 2, none⟩ = some (.int .i64 t.e) ∧ w'.cell? ⟨w19.heap.size, 3, none⟩ = some (.string t.s) ∧ w'.cell? ⟨w19.heap.size, 4, none⟩ = some (.slice At t.kids.length ct))
    (first | exact KE.out _ h14 | exact KE.out _ h13 | exact KE.out _ h12 | exact KE.out _ h11 | exact KE.out _ h10 | exact KE.out _ h9 | exact KE.out _ h8 | exact KE.out _ h7 | exact KE.out _ h6 | exact KE.out _ h5 | exact KE.out _ h4 | exact KE.out _ h3 | exact KE.out _ h2 | exact KE.out _ h1 | exact KE.out _ hbr.drew | exact KE.out _ hbr)
    (first
    | (have hgate := h13; clear hgate; go_at_call 38; refine (HTT.out AL A3 cL d3 _ ((HL.out.below h13 (Nat.le_refl _)).more h13.size) HT3.out).mono ?_; rintro e v14 ⟨rfl, hb⟩; have h14 := h13.trans (hb.mono h13.size); clear hb)
    | (have hgate := h12; clear hgate; go_at_call 43; refine (HTS.out _ ((KC.out _ h12).at_ (by simp))).mono ?_; rintro e v13 ⟨o3, rfl, ho3, hb⟩; have h13 := h12.trans (hb.mono h12.size); obtain ⟨A3, d3, rfl⟩ := own_slice ho3; have HT3 := Lib.hid (At1.own ho3); clear ho3; clear hb)
    | (have hgate := h11; clear hgate; go_at_call 42; refine (HCS.out _ ((KC.out _ h11).at_ (by simp))).mono ?_; rintro e v12 ⟨rfl, hb⟩; have h12 := h11.trans (hb.mono h11.size); clear hb)
    | (have hgate := h10; clear hgate; go_at_call 41; refine (HCI.out _ ((KC.out _ h10).at_ (by simp))).mono ?_; rintro e v11 ⟨rfl, hb⟩; have h11 := h10.trans (hb.mono h10.size); clear hb)
    | (have hgate := h9; clear hgate; go_at_call 38; refine (HKT.out A1 A2 d1 d2 _ HK3.out HK2.out).mono ?_; rintro e v10 ⟨rfl, hb⟩; have h10 := h9.trans (hb.mono h9.size); clear hb)
    | (have hgate := h8; clear hgate; go_at_call 40; refine (HKS.out _ ((KC.out _ h8).at_ (by simp))).mono ?_; rintro e v9 ⟨o2, rfl, ho2, hb⟩; have h9 := h8.trans (hb.mono h8.size); obtain ⟨A2, d2, rfl⟩ := own_slice ho2; have HK2 := Lib.hid (At1.own ho2); have HK3 := Lib.hid ((HK1.out.below hb (Nat.le_refl _)).more hb.size); clear ho2; clear hb)
    | (have hgate := h7; clear hgate; go_at_call 39; refine (HKI.out _ ((KC.out _ h7).at_ (by simp))).mono ?_; rintro e v8 ⟨o1, rfl, ho1, hb⟩; have h8 := h7.trans (hb.mono h7.size); obtain ⟨A1, d1, rfl⟩ := own_slice ho1; have HK1 := Lib.hid (At1.own ho1); clear ho1; clear hb)
    | (have hgate := h6; clear hgate; go_at_call 23; refine (HLX.out _ ((KC.out _ h6).at_ (by simp)) ((KC.out _ h6).at_ (by simp))).mono ?_; rintro e v7 ⟨rfl, hb⟩; have h7 := h6.trans (hb.mono h6.size); clear hb)
    | (have hgate := h5; clear hgate; go_at_call 37; refine (HDS.out _ ((KC.out _ h5).at_ (by simp))).mono ?_; rintro e v6 ⟨rfl, hb⟩; have h6 := h5.trans (hb.mono h5.size); clear hb)
    | (have hgate := h4; clear hgate; go_at_call 36; refine (HDI.out _ ((KC.out _ h4).at_ (by simp))).mono ?_; rintro e v5 ⟨rfl, hb⟩; have h5 := h4.trans (hb.mono h4.size); clear hb)
    | (have hgate := h3; clear hgate; go_at_call 35; refine (HNS.out _ ((KC.out _ h3).at_ (by simp))).mono ?_; rintro e v4 ⟨rfl, hb⟩; have h4 := h3.trans (hb.mono h3.size); clear hb)
    | (have hgate := h2; clear hgate; go_at_call 34; refine (HNI.out _ ((KC.out _ h2).at_ (by simp))).mono ?_; rintro e v3 ⟨rfl, hb⟩; have h3 := h2.trans (hb.mono h2.size); clear hb)
    | (have hgate := h1; clear hgate; go_at_call_of 23 (Value.int .i64 s.k); refine (HLS.out Az cz _ ((KC.out _ h1).at_ (by simp)) HZ.out).mono ?_; rintro e v2 ⟨rfl, hb⟩; have h2 := h1.trans (hb.mono h1.size); clear hb)
    | (go_at_call 7; refine (HSW.out _ ((KC.out _ hbr.drew).at_ (by simp))).mono ?_; rintro e v1 ⟨Az, cz, Fz, rfl, lz, llz, _, _, hb⟩; have h1 : Below w21.heap.size w21 v1 := hbr.drew.trans hb; have HZ := Lib.hid (Vs.lies_at llz (lo := 0) (fun _ _ => Nat.zero_le _)); clear llz; clear hb))
  clear KE
  have C22 := Lib.hid (KC.out _ h14)
  clear h1 h2 h3 h4 h5 h6 h7 h8 h9 h10 h11 h12 h13 h14 hbr KC C21 HL HLS HLX HNS HDS HKI HKS HKT HTT HCI HCS HTS HSW HZ HK1 HK2 HK3 HT3 hn1 hn2 hn3 hn4 HKL
  clear ts0 ts1 ts2 ts3 ts4 tv0 tv1 tv2 tv3 tv4 tn0 tn1 tn2 tn3 tn4 td0 td1 td2 td3 td4 tx0 tx1 tx2 tx3 tx4 ty0 ty1 ty2 ty3 ty4 tk0 tk1 tk2 tk3 tk4 tc0 tc1 tc2 tc3 tc4 tt0 tt1 tt2 tt3 tt4
  go_upto_region 16 with fail
  have HSV := Lib.hid (fun W hT h => implSorted s As cs W (by omega) hT h)
  have HLS := Lib.hid (fun Az cz W h1 h2 => lawSame s s Az As cz cs W ns ns h1 h2)
  have HNS := Lib.hid (fun W h => implNodes s As cs W ns h)
  have HNW := Lib.hid (fun W h => implNodes v Av cv W nv h)
  have HDS := Lib.hid (fun W h => implDeep s As cs W ns h)
  have HDW := Lib.hid (fun W h => implDeep v Av cv W nv h)
  have HC5 := Lib.hid (fun W h => implCount t 5 At ct W nt h)
  have HC6 := Lib.hid (fun W h => implCount t 6 At ct W nt h)
  unfold Copied at HSV
  simp only [V.same_self] at HLS
  rw [HS2.out] at HSV
  rw [HNV.out] at HNS
  rw [HDV.out] at HDS
  obtain ⟨zn, hzn⟩ : ∃ z : Int, (v.nodes : Int) = z := ⟨_, rfl⟩
  obtain ⟨zd, hzd⟩ : ∃ z : Int, (v.deep : Int) = z := ⟨_, rfl⟩
  obtain ⟨z5, hz5⟩ : ∃ z : Int, (ofKind 5 t.pre : Int) = z := ⟨_, rfl⟩
  obtain ⟨z6, hz6⟩ : ∃ z : Int, (ofKind 6 t.pre : Int) = z := ⟨_, rfl⟩
  have htc := HTC.out
  have hw56 : IntKind.i64.wrap (z5 + z6) = (tl.length : Int) := by rw [IntKind.wrap_i64]; omega
  rw [hzn] at HNS HNW
  rw [hzd] at HDS HDW
  rw [hz5] at HC5
  rw [hz6] at HC6
  have hn1 : (zn != zn) = false := by simp
  have hn2 : (zd != zd) = false := by simp
  have hn3 : ((tl.length : Int) != (tl.length : Int)) = false := by simp
  clear hzn hzd hz5 hz6 htc
  unfold V.agg at HSV HLS HNS HNW HDS HDW HC5 HC6
  obtain ⟨ts0, ts1, ts2, ts3, ts4⟩ := C22.out.five (p := w3.heap.size) (show (w3.heap.size, #[.int .i64 s.k, .int .i64 s.n, .int .i64 s.e, .string s.s, .slice As s.kids.length cs]) ∈ _ by simp)
  obtain ⟨tv0, tv1, tv2, tv3, tv4⟩ := C22.out.five (p := w1.heap.size) (show (w1.heap.size, #[.int .i64 v.k, .int .i64 v.n, .int .i64 v.e, .string v.s, .slice Av v.kids.length cv]) ∈ _ by simp)
  obtain ⟨tt0, tt1, tt2, tt3, tt4⟩ := C22.out.five (p := w19.heap.size) (show (w19.heap.size, #[.int .i64 t.k, .int .i64 t.n, .int .i64 t.e, .string t.s, .slice At t.kids.length ct]) ∈ _ by simp)
  have hbr : Below v14.heap.size v14 v14 := Below.refl _ _
  have KC := Lib.hid (fun W (h : Below v14.heap.size v14 W) => C22.out.below h)
  have KE : Hid (∀ W, Below v14.heap.size v14 W → (fun w' => w'.cell? ⟨w3.heap.size, 0, none⟩ = some (.int .i64 s.k) ∧ w'.cell? ⟨w3.heap.size, 1, none⟩ = some (.int .i64 s.n) ∧ w'.cell? ⟨w3.heap.size, 2, none⟩ = some (.int .i64 s.e) ∧ w'.cell? ⟨w3.heap.size, 3, none⟩ = some (.string s.s) ∧ w'.cell? ⟨w3.heap.size, 4, none⟩ = some (.slice As s.kids.length cs) ∧ w'.cell? ⟨w1.heap.size, 0, none⟩ = some (.int .i64 v.k) ∧ w'.cell? ⟨w1.heap.size, 1, none⟩ = some (.int .i64 v.n) ∧ w'.cell? ⟨w1.heap.size, 2, none⟩ = some (.int .i64 v.e) ∧ w'.cell? ⟨w1.heap.size, 3, none⟩ = some (.string v.s) ∧ w'.cell? ⟨w1.heap.size, 4, none⟩ = some (.slice Av v.kids.length cv) ∧ w'.cell? ⟨w19.heap.size, 0, none⟩ = some (.int .i64 t.k) ∧ w'.cell? ⟨w19.heap.size, 1, none⟩ = some (.int .i64 t.n) ∧ w'.cell? ⟨w19.heap.size, 2, none⟩ = some (.int .i64 t.e) ∧ w'.cell? ⟨w19.heap.size, 3, none⟩ = some (.string t.s) ∧ w'.cell? ⟨w19.heap.size, 4, none⟩ = some (.slice At t.kids.length ct)) W) := Lib.hid (fun W h => by have C := C22; have Xs := (C.out.below h).five (p := w3.heap.size) (show (w3.heap.size, #[.int .i64 s.k, .int .i64 s.n, .int .i64 s.e, .string s.s, .slice As s.kids.length cs]) ∈ _ by simp); have Xv := (C.out.below h).five (p := w1.heap.size) (show (w1.heap.size, #[.int .i64 v.k, .int .i64 v.n, .int .i64 v.e, .string v.s, .slice Av v.kids.length cv]) ∈ _ by simp); have Xt := (C.out.below h).five (p := w19.heap.size) (show (w19.heap.size, #[.int .i64 t.k, .int .i64 t.n, .int .i64 t.e, .string t.s, .slice At t.kids.length ct]) ∈ _ by simp); exact ⟨Xs.1, Xs.2.1, Xs.2.2.1, Xs.2.2.2.1, Xs.2.2.2.2, Xv.1, Xv.2.1, Xv.2.2.1, Xv.2.2.2.1, Xv.2.2.2.2, Xt.1, Xt.2.1, Xt.2.2.1, Xt.2.2.2.1, Xt.2.2.2.2⟩)
  go_region_held3 (fun w' => w'.cell? ⟨w3.heap.size, 0, none⟩ = some (.int .i64 s.k) ∧ w'.cell? ⟨w3.heap.size, 1, none⟩ = some (.int .i64 s.n) ∧ w'.cell? ⟨w3.heap.size, 2, none⟩ = some (.int .i64 s.e) ∧ w'.cell? ⟨w3.heap.size, 3, none⟩ = some (.string s.s) ∧ w'.cell? ⟨w3.heap.size, 4, none⟩ = some (.slice As s.kids.length cs) ∧ w'.cell? ⟨w1.heap.size, 0, none⟩ = some (.int .i64 v.k) ∧ w'.cell? ⟨w1.heap.size, 1, none⟩ = some (.int .i64 v.n) ∧ w'.cell? ⟨w1.heap.size, 2, none⟩ = some (.int .i64 v.e) ∧ w'.cell? ⟨w1.heap.size, 3, none⟩ = some (.string v.s) ∧ w'.cell? ⟨w1.heap.size, 4, none⟩ = some (.slice Av v.kids.length cv) ∧ w'.cell? ⟨w19.heap.size, 0, none⟩ = some (.int .i64 t.k) ∧ w'.cell? ⟨w19.heap.size, 1, none⟩ = some (.int .i64 t.n) ∧ w'.cell? ⟨w19.heap.size, 2, none⟩ = some (.int .i64 t.e) ∧ w'.cell? ⟨w19.heap.size, 3, none⟩ = some (.string t.s) ∧ w'.cell? ⟨w19.heap.size, 4, none⟩ = some (.slice At t.kids.length ct))
    (first | exact KE.out _ h8 | exact KE.out _ h7 | exact KE.out _ h6 | exact KE.out _ h5 | exact KE.out _ h4 | exact KE.out _ h3 | exact KE.out _ h2 | exact KE.out _ h1 | exact KE.out _ hbr.drew | exact KE.out _ hbr)
    (first
    | (have hgate := h7; clear hgate; go_at_call 41; refine (HC6.out _ ((KC.out _ h7).at_ (by simp))).mono ?_; rintro e v8 ⟨rfl, hb⟩; have h8 := h7.trans (hb.mono h7.size); clear hb)
    | (have hgate := h6; clear hgate; go_at_call_of 41 (Value.int .i64 5); refine (HC5.out _ ((KC.out _ h6).at_ (by simp))).mono ?_; rintro e v7 ⟨rfl, hb⟩; have h7 := h6.trans (hb.mono h6.size); clear hb)
    | (have hgate := h5; clear hgate; go_at_call 36; refine (HDW.out _ ((KC.out _ h5).at_ (by simp))).mono ?_; rintro e v6 ⟨rfl, hb⟩; have h6 := h5.trans (hb.mono h5.size); clear hb)
    | (have hgate := h4; clear hgate; go_at_call_of 36 (Value.int .i64 s.k); refine (HDS.out _ ((KC.out _ h4).at_ (by simp))).mono ?_; rintro e v5 ⟨rfl, hb⟩; have h5 := h4.trans (hb.mono h4.size); clear hb)
    | (have hgate := h3; clear hgate; go_at_call 34; refine (HNW.out _ ((KC.out _ h3).at_ (by simp))).mono ?_; rintro e v4 ⟨rfl, hb⟩; have h4 := h3.trans (hb.mono h3.size); clear hb)
    | (have hgate := h2; clear hgate; go_at_call_of 34 (Value.int .i64 s.k); refine (HNS.out _ ((KC.out _ h2).at_ (by simp))).mono ?_; rintro e v3 ⟨rfl, hb⟩; have h3 := h2.trans (hb.mono h2.size); clear hb)
    | (have hgate := h1; clear hgate; go_at_call 23; refine (HLS.out Az2 cz2 _ HZ2.out ((KC.out _ h1).at_ (by simp))).mono ?_; rintro e v2 ⟨rfl, hb⟩; have h2 := h1.trans (hb.mono h1.size); clear hb)
    | (go_at_call 9; refine (HSV.out _ (HT.out.below (KC.out _ hbr.drew).1) ((KC.out _ hbr.drew).at_ (by simp))).mono ?_; rintro e v1 ⟨Az2, cz2, Fz2, rfl, lz2, llz2, _, _, hb⟩; have h1 : Below v14.heap.size v14 v1 := hbr.drew.trans hb; have HZ2 := Lib.hid (Vs.lies_at llz2 (lo := 0) (fun _ _ => Nat.zero_le _)); clear llz2; clear hb))
  clear KE
  have C23 := Lib.hid (KC.out _ h8)
  clear h1 h2 h3 h4 h5 h6 h7 h8 hbr KC C22 HSV HLS HNS HNW HDS HDW HC5 HC6 HNI HDI HZ2 hn1 hn2 hn3 hw56
  clear ts0 ts1 ts2 ts3 ts4 tv0 tv1 tv2 tv3 tv4 tt0 tt1 tt2 tt3 tt4
  have N0 : Hid (ND w0 w5.heap.size w7.heap.size n d An Ad cn cd v8) := Lib.hid ⟨C23.out.1, C23.out.blk (by simp), C23.out.blk (by simp), C23.out.at_ (by simp), C23.out.at_ (by simp)⟩
  have HNN := Lib.hid (V.nodes_eq n)
  have HDD := Lib.hid (V.deep_eq d)
  have hlN : n.kids.length ≤ 1048577 := by have := Vs.len_nodes n.kids; have := HNN.out; omega
  have hlD : d.kids.length ≤ 1048577 := by have := Vs.len_nodes d.kids; have := V.nodes_eq d; omega
  clear C23 HTC HTL HNV HDV HS2 HZN HZD
  go_wp2_with fail
  go_loopw [18, 20] (fun sm i W' => ∃ j : Nat, j ≤ n.kids.length ∧ i = .int .i64 (j : Int) ∧ sm = .int .i64 ((Vs.nodes (n.kids.take j) : Int) + 1) ∧ Hid (ND w0 w5.heap.size w7.heap.size n d An Ad cn cd W')) (fun _ i _ => n.kids.length - (intOf i).toNat)
  case atStart => exact ⟨0, Nat.zero_le _, rfl, rfl, N0⟩
  case round =>
    obtain ⟨j, hj, rfl, rfl, NR⟩ := hrel
    have r4 := (Blk.five NR.out.2.1).2.2.2.2
    by_cases hlt : j < n.kids.length
    · have hlt2 : (j : Int) < (n.kids.length : Int) := by omega
      have hw1 : IntKind.i64.wrap ((j : Int) + 1) = (j : Int) + 1 := by rw [IntKind.wrap_i64]; omega
      obtain ⟨b, off, A', cap', eA, g1, g2, g3, ⟨c0, c1, c2, c3, c4⟩, g5⟩ := Vs.at_get j hlt NR.out.2.2.2.1
      rw [eA] at r4
      clear eA
      have HST := Lib.hid (Vs.nodes_step n.kids j hlt)
      have hd4 := Vs.nodes_take n.kids j
      have hd5 := Vs.nodes_get j hlt
      have hd6 : Vs.nodes n.kids ≤ 1048577 := by have := HNN.out; omega
      have hkn := kid_nodes n j hlt nn
      go_wp2_with fail
      refine (implNodes n.kids[j] A' cap' _ hkn (Vs.at_more (Nat.le_refl _) (Nat.le_refl _) _ _ g5)).mono ?_
      rintro e wx ⟨rfl, hb⟩
      have NX := Lib.hid (NR.out.below hb)
      clear c0 c1 c2 c3 c4 r4 hb g5
      have hwr : IntKind.i64.wrap ((Vs.nodes (n.kids.take j) : Int) + 1 + ((n.kids[j]).nodes : Int)) = (Vs.nodes (n.kids.take j) : Int) + 1 + ((n.kids[j]).nodes : Int) := by rw [IntKind.wrap_i64]; omega
      go_wp2_with fail
      go_roundw
      case rel => exact ⟨j + 1, by omega, by go_num, by rw [HST.out]; go_num, NX⟩
      case measure => simp [intOf]; omega
    · obtain rfl : j = n.kids.length := by omega
      obtain ⟨zs, hzs⟩ : ∃ z : Int, (Vs.nodes (n.kids.take n.kids.length) : Int) + 1 = z := ⟨_, rfl⟩
      have HZS : Hid ((n.nodes : Int) = zs) := Lib.hid (by rw [← hzs, List.take_length, HNN.out]; omega)
      rw [hzs]
      clear hzs hlt hj
      go_wp2_with fail
      clear r4
      go_loopw [19, 21, 22] (fun dp i _ W' => ∃ j : Nat, j ≤ d.kids.length ∧ i = .int .i64 (j : Int) ∧ dp = .int .i64 (Vs.deep (d.kids.take j) : Int) ∧ Hid (ND w0 w5.heap.size w7.heap.size n d An Ad cn cd W')) (fun _ i _ _ => d.kids.length - (intOf i).toNat)
      case atStart => exact ⟨0, Nat.zero_le _, rfl, rfl, NR⟩
      case round =>
        obtain ⟨j, hj, rfl, rfl, NQ⟩ := hrel
        have r4 := (Blk.five NQ.out.2.2.1).2.2.2.2
        by_cases hlt : j < d.kids.length
        · have hlt2 : (j : Int) < (d.kids.length : Int) := by omega
          have hw1 : IntKind.i64.wrap ((j : Int) + 1) = (j : Int) + 1 := by rw [IntKind.wrap_i64]; omega
          obtain ⟨b, off, A', cap', eA, g1, g2, g3, ⟨c0, c1, c2, c3, c4⟩, g5⟩ := Vs.at_get j hlt NQ.out.2.2.2.2
          rw [eA] at r4
          clear eA
          have HST := Lib.hid (Vs.deep_step d.kids j hlt)
          have hkn := kid_nodes d j hlt nd
          have hkd := V.deep_le d.kids[j]
          obtain ⟨dk, hdk⟩ : ∃ x, (d.kids[j]).deep = x := ⟨_, rfl⟩
          obtain ⟨ds, hds⟩ : ∃ x, Vs.deep (d.kids.take j) = x := ⟨_, rfl⟩
          have HDK := Lib.hid hdk
          have HDSS := Lib.hid hds
          have HKI := Lib.hid (fun (W : World) (h : Vs.at_ W 0 W.heap.size (d.kids[j]'hlt).kids A') => implDeep (d.kids[j]'hlt) A' cap' W hkn h)
          rw [hdk] at HKI hkd
          rw [hds]
          have hwr : IntKind.i64.wrap ((dk : Int) + 1) = (dk : Int) + 1 := by rw [IntKind.wrap_i64]; omega
          clear hdk hds hkd
          go_wp2_with fail
          refine (HKI.out _ (Vs.at_more (Nat.le_refl _) (Nat.le_refl _) _ _ g5)).mono ?_
          rintro e wx ⟨rfl, hb⟩
          have NX := Lib.hid (NQ.out.below hb)
          clear c0 c1 c2 c3 c4 r4 hb g5 HKI
          by_cases hgt : ds < dk + 1
          · have hgt2 : (ds : Int) < (dk : Int) + 1 := by omega
            have HG := Lib.hid hgt
            have hge3 : ds ≤ dk := by omega
            go_wp2_with fail
            go_roundw
            case rel => exact ⟨j + 1, by omega, by go_num, by rw [HST.out, HDK.out, HDSS.out, Nat.max_eq_right (by omega)]; go_num, NX⟩
            case measure => simp [intOf]; omega
          · have hgt2 : ¬ (ds : Int) < (dk : Int) + 1 := by omega
            have hgt3 : (dk : Int) + 1 ≤ (ds : Int) := by omega
            have HG := Lib.hid hgt
            go_wp2_with fail
            go_roundw
            case rel => exact ⟨j + 1, by omega, by go_num, by rw [HST.out, HDK.out, HDSS.out, Nat.max_eq_left (by omega)], NX⟩
            case measure => simp [intOf]; omega
        · obtain rfl : j = d.kids.length := by omega
          obtain ⟨zt, hzt⟩ : ∃ z : Int, (Vs.deep (d.kids.take d.kids.length) : Int) = z := ⟨_, rfl⟩
          have HZT : Hid ((d.deep : Int) = zt) := Lib.hid (by rw [← hzt, List.take_length, HDD.out])
          rw [hzt]
          have HNI := Lib.hid (fun W h => implNodes n An cn W nn h)
          have HDI := Lib.hid (fun W h => implDeep d Ad cd W nd h)
          rw [HZS.out] at HNI
          rw [HZT.out] at HDI
          have e1 : (zs == zs) = true := by simp
          have e2 : (zt == zt) = true := by simp
          unfold V.agg at HNI HDI
          clear hzt hlt hj
          obtain ⟨q0, q1, q2, q3, q4⟩ := Blk.five NQ.out.2.1
          go_wp2_with fail
          refine (HNI.out _ NQ.out.2.2.2.1).mono ?_
          rintro e wx ⟨rfl, hb⟩
          have NX := Lib.hid (NQ.out.below hb)
          clear q0 q1 q2 q3 q4 hb r4
          obtain ⟨q0, q1, q2, q3, q4⟩ := Blk.five NX.out.2.2.1
          go_wp2_with fail
          refine (HDI.out _ NX.out.2.2.2.2).mono ?_
          rintro e wy ⟨rfl, hb⟩
          have NY := Lib.hid (NX.out.below hb)
          clear q0 q1 q2 q3 q4 hb
          go_wp2_with fail
          go_ret
          exact ⟨rfl, NY.out.1⟩

theorem walk (t0 : List Int) (A0 : Option Addr) (c0 : Nat) (f0 : t0.length ≤ maxLen) (g0 : ∀ z ∈ t0, (Lit.int .u8 z).wf = true) (w : World) (at0 : At1 w w.heap.size A0 (t0.map (Value.int .u8))) (hT : Tabs w) :
    Calls Tryd.prog 5 #[.slice A0 t0.length c0] w fun e w' => e = .returned (.bool true) ∧ Below w.heap.size w w' := by
  obtain ⟨code, hl, hm⟩ := bytes_of t0 g0
  rw [hm] at at0
  rw [← hl]
  by_cases h : 1048576 < code.length
  · clear at0 hm hl
    go_enter Tryd.func5, Tryd.ntmps5
    go_wp2_with fail
    refine (lawBigY A0 code.length c0 w h).mono ?_
    rintro e w0 ⟨rfl, hw0⟩
    subst hw0
    go_wp2_with fail
    go_ret
    exact ⟨rfl, Below.refl _ _⟩
  · exact walk1 code A0 c0 (by omega) w at0 hT

set_option maxRecDepth 100000 in
theorem lifted (os : Os) (started : os.Started) (H : Type) (enc : TypeId × Value → H) :
    ReturnsInHanded {} Tryd.checked os 5 .any (fun w args => (Rows.fnSortedSpec.pre enc Tryd.prog Tryd.f5 [] false w args ∧ laidMetH Tryd.prog Rows.fnSortedRow.laid w) ∧ sizedMet enc Tryd.prog Tryd.f5 (OpenSpec.ofChange Rows.fnSortedSpec) false w args)
      (Rows.fnSortedSpec.post enc Tryd.prog Tryd.f5 false true false false) := by
  refine returnsInHanded_of_change_and (C := Tryd.checked) (X := fun w _ => laidMetH Tryd.prog Rows.fnSortedRow.laid w) (fun _ _ _ hh h => h.of_heap hh) own started (by kernel_rfl) Tryd.func5
    (ChangeSpec.witness_shaped (enc := enc) (C := Tryd.checked) (os := os) (X := fun w _ => laidMetH Tryd.prog Rows.fnSortedRow.laid w) false (World.laidAll Tryd.prog os Rows.fnSortedRow.laid) #[.slice none 0 0] 8 (World.laidAll_os _ _ _)
      (World.shaped_of_ZipB (by kernel_rfl) (by kernel_rfl)) (by kernel_rfl) (by kernel_rfl) (by kernel_rfl)
      (by rw [MakeChecks.laidMetH_plain _ _ _ (by kernel_rfl)]; exact laidMet_laidAll _ (by kernel_rfl) (by kernel_rfl))) ?_
  intro W base args ds gs before hval0 hW _ _ hL _
  rw [MakeChecks.laidMetH_plain _ _ _ (by kernel_rfl)] at hL
  have hT : Tabs W := tabs_of_laid hL (.head _) (.tail _ (.head _))
  have hval : ∀ (j : Nat) t v, Tryd.f5.params[j]? = some t → args[j]? = some v → Value.okWide Tryd.prog W .any base t v := hval0
  have hW' := hW
  obtain ⟨p, q, hA0, hV, rfl, hfz, hnd⟩ := hW
  have hA : DataW.TrodAll enc Tryd.prog W 0 (fun _ => true) true Tryd.f5.params.toList args.toList ds p := hA0
  rw [Tryd.params5] at hA hval
  obtain ⟨v0, vs0, d0, ds0, p0, q0, hargs, rfl, rfl, h0, r0⟩ := trodAll_cons hA
  obtain ⟨rfl, rfl, rfl⟩ := trodAll_nil r0
  obtain rfl : args = #[v0] := by cases args; simp_all
  obtain ⟨rfl, rfl⟩ := trodVars_none hV
  have k0 := h0
  have lt0 : ∀ x ∈ p0, x.block < W.heap.size := by obtain ⟨m, hm⟩ := k0; exact DataW.trod_lt m _ _ _ hm
  obtain ⟨t0, A0, c0, rfl, f0, g0, at0⟩ := open_kind Tryd.underlying34 Tryd.underlying5 (by kernel_rfl) (hval 0 34 v0 rfl rfl) h0
  clear hA0 hval0
  refine (walk t0 A0 c0 f0 g0 W at0 hT).mono fun e W' ⟨he, bel⟩ => ?_
  subst he
  exact ⟨_, rfl, _, _, _, [], _, [], hW', trodAll_mk1 (shut_bool Tryd.underlying4 _), (trodAll_cons_mk (Below.trod laidOut (by kernel_rfl) (of_decide_eq_true (by kernel_rfl)) k0 bel lt0) trodAll_mk0), rfl, bel.frame _, fun h => by cases h⟩

theorem over : Rows.fnSortedRow.holds Tryd.pinned (OpenSpec.ofChange Rows.fnSortedSpec) :=
  OpenClaim.holds_of_wide 5 Tryd.f5 rfl rfl rfl rfl rfl rfl rfl ⟨rfl, rfl, rfl, rfl, rfl⟩ rfl rfl rfl rfl rfl (by kernel_rfl) Tryd.func5 (by kernel_rfl)
    (of_decide_eq_true (by kernel_rfl)) (by unfold Func.isWrapper; first | (rw [if_pos (by decide +kernel)]; kernel_rfl) | (rw [if_neg (by decide +kernel)]; exact ⟨rfl, rfl⟩))
    (fun os started H enc _ => lifted os started H enc)

theorem proved : Rows.FnSortedCardSaid :=
  Claim7.holds_tied_plain_at .later [] _ _ _ _ over (fun _ h => by cases h) (by kernel_rfl) (fun _ h => by cases h) fnSorted_row_tie rfl ⟨rfl, rfl⟩ (by kernel_rfl) rfl
    (fun f fn hf hfn => by
      obtain rfl : f = 5 := Option.some.inj ((show Tryd.prog.funcNamed "loop.example/g00421/laws.FnSorted" = some 5 by kernel_rfl).symm.trans hf) |>.symm
      obtain rfl : fn = Tryd.f5 := (Option.some.inj (Tryd.func5.symm.trans hfn)).symm
      exact ⟨by kernel_rfl, fun j t ht => by
        rw [Tryd.params5] at ht
        have hm : t ∈ [34] := by simpa using Array.mem_of_getElem? ht
        have hall : ([34].all fun u => !Tryd.prog.wantsStandIn u) = true := by kernel_rfl
        exact (show Tryd.prog.wantsStandIn t = false by simpa using List.all_eq_true.1 hall t hm)⟩)
    (by kernel_rfl)
end Go.Proofs.YtcjamnfboifjeaaDoor.fnSorted
