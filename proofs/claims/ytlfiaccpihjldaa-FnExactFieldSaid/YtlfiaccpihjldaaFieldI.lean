/-
  Field of the program hands back the same copy.
-/
import Derived.Test.YtlfiaccpihjldaaFieldV
namespace Go.Proofs.Ytlfiaccpihjldaa
open Go.RowKit
set_option linter.unusedVariables false
set_option linter.unusedSimpArgs false

set_option maxHeartbeats 1000000 in
theorem implField (v : V) (key : ByteArray) (A : Option Addr) (cap : Nat) (w : World) (hn : v.nodes ≤ 1048577) (hat : Vs.at_ w 0 w.heap.size v.kids A) :
    Calls Try.prog 27 #[v.agg A cap, .string key] w (FieldRet v key w) := by
  rw [V.nodes_eq] at hn
  have hl : v.kids.length ≤ 1048576 := by have := Vs.len_nodes v.kids; omega
  have HA := Lib.hid hat
  clear hat
  have hb2 : ∀ o1 o2 : Obj, Below w.heap.size w ((w.alloc o1).alloc o2) := fun o1 o2 => ((Below.refl _ w).alloc (Nat.le_refl _) _).alloc (by simp) _
  have HB2 := Lib.hid hb2
  clear hb2
  rcases field_cases v key with ⟨h8, hv⟩ | ⟨h8, hp, hv⟩ | ⟨h8, p, hlt, hp, hv⟩
  · have HV := Lib.hid hv
    have h8' : (v.k != 8) = true := by rw [bne, h8]; rfl
    clear hv
    unfold V.agg
    go_enter Try.func27, Try.ntmps27
    go_wp2_with fail
    obtain ⟨w2, hw2⟩ : ∃ w2, w2 = (w.alloc (.cells #[.int .i64 v.k, .int .i64 v.n, .int .i64 v.e, .string v.s, .slice A v.kids.length cap] 29)).alloc (.cells #[.int .i64 0, .int .i64 0, .int .i64 0, .string ⟨#[]⟩, .slice none 0 0] 29) := ⟨_, rfl⟩
    have B1 : Blk w2 (w.heap.size + 1) 29 #[.int .i64 0, .int .i64 0, .int .i64 0, .string ⟨#[]⟩, .slice none 0 0] := by
      have h := Blk.new (w.alloc (.cells #[.int .i64 v.k, .int .i64 v.n, .int .i64 v.e, .string v.s, .slice A v.kids.length cap] 29)) 29 #[.int .i64 0, .int .i64 0, .int .i64 0, .string ⟨#[]⟩, .slice none 0 0]
      rw [← hw2] at h
      simpa using h
    have B0 : Blk w2 w.heap.size 29 #[.int .i64 v.k, .int .i64 v.n, .int .i64 v.e, .string v.s, .slice A v.kids.length cap] := by rw [hw2]; exact (Blk.new w _ _).alloc _
    have z2 : w2.heap.size = w.heap.size + 2 := by rw [hw2]; simp
    have b2 : Below w.heap.size w w2 := by rw [hw2]; exact HB2.out _ _
    rw [← hw2]
    clear hw2
    refine (implFind_no v key A _ w2 h8).mono ?_
    rintro e w1 ⟨rfl, hb1⟩
    have B13 := B1.below hb1 (by omega)
    have B03 := B0.below hb1 (by omega)
    have b3 := b2.trans (hb1.mono b2.size)
    have z3 : w.heap.size + 2 ≤ w1.heap.size := by have := hb1.size; omega
    obtain ⟨q0, q1, q2, q3, q4⟩ := B13.five
    obtain ⟨p0, p1, p2, p3, p4⟩ := B03.five
    have f0 := B13.frozen 0
    have f1 := B13.frozen 1
    have f2 := B13.frozen 2
    have f3 := B13.frozen 3
    have f4 := B13.frozen 4
    clear hb1 B1 B0
    go_wp2_with fail
    refine bodyPost_ret (v := .tuple #[.agg #[.int .i64 0, .int .i64 0, .int .i64 0, .string ⟨#[]⟩, .slice none 0 0], .bool false]) (by simp [results, Try.results27, go_sem, q0, q1, q2, q3, q4]) rfl (field_ret_no HV.out ?_)
    repeat (refine Below.setCell ?_ (by simp; try omega) _)
    exact b3
  · have HV := Lib.hid hv
    have HP := Lib.hid hp
    have h8' : (v.k != 8) = false := by rw [bne, h8]; rfl
    clear hv hp
    unfold V.agg
    go_enter Try.func27, Try.ntmps27
    go_wp2_with fail
    obtain ⟨w2, hw2⟩ : ∃ w2, w2 = (w.alloc (.cells #[.int .i64 v.k, .int .i64 v.n, .int .i64 v.e, .string v.s, .slice A v.kids.length cap] 29)).alloc (.cells #[.int .i64 0, .int .i64 0, .int .i64 0, .string ⟨#[]⟩, .slice none 0 0] 29) := ⟨_, rfl⟩
    have B1 : Blk w2 (w.heap.size + 1) 29 #[.int .i64 0, .int .i64 0, .int .i64 0, .string ⟨#[]⟩, .slice none 0 0] := by
      have h := Blk.new (w.alloc (.cells #[.int .i64 v.k, .int .i64 v.n, .int .i64 v.e, .string v.s, .slice A v.kids.length cap] 29)) 29 #[.int .i64 0, .int .i64 0, .int .i64 0, .string ⟨#[]⟩, .slice none 0 0]
      rw [← hw2] at h
      simpa using h
    have B0 : Blk w2 w.heap.size 29 #[.int .i64 v.k, .int .i64 v.n, .int .i64 v.e, .string v.s, .slice A v.kids.length cap] := by rw [hw2]; exact (Blk.new w _ _).alloc _
    have z2 : w2.heap.size = w.heap.size + 2 := by rw [hw2]; simp
    have b2 : Below w.heap.size w w2 := by rw [hw2]; exact HB2.out _ _
    rw [← hw2]
    clear hw2
    refine (implFind v key A _ w2 hl (Vs.at_more (Nat.le_refl _) b2.size _ _ (Vs.at_below HA.out b2 (Nat.le_refl _))) h8).mono ?_
    rintro e w1 ⟨rfl, hb1⟩
    have B13 := B1.below hb1 (by omega)
    have B03 := B0.below hb1 (by omega)
    have b3 := b2.trans (hb1.mono b2.size)
    have z3 : w.heap.size + 2 ≤ w1.heap.size := by have := hb1.size; omega
    obtain ⟨q0, q1, q2, q3, q4⟩ := B13.five
    obtain ⟨p0, p1, p2, p3, p4⟩ := B03.five
    have f0 := B13.frozen 0
    have f1 := B13.frozen 1
    have f2 := B13.frozen 2
    have f3 := B13.frozen 3
    have f4 := B13.frozen 4
    clear hb1 B1 B0
    rw [HP.out]
    go_wp2_with fail
    refine bodyPost_ret (v := .tuple #[.agg #[.int .i64 0, .int .i64 0, .int .i64 0, .string ⟨#[]⟩, .slice none 0 0], .bool false]) (by simp [results, Try.results27, go_sem, q0, q1, q2, q3, q4]) rfl (field_ret_no HV.out ?_)
    repeat (refine Below.setCell ?_ (by simp; try omega) _)
    exact b3
  · have HV := Lib.hid hv
    have HP := Lib.hid hp
    have h8' : (v.k != 8) = false := by rw [bne, h8]; rfl
    clear hv hp
    unfold V.agg
    go_enter Try.func27, Try.ntmps27
    go_wp2_with fail
    obtain ⟨w2, hw2⟩ : ∃ w2, w2 = (w.alloc (.cells #[.int .i64 v.k, .int .i64 v.n, .int .i64 v.e, .string v.s, .slice A v.kids.length cap] 29)).alloc (.cells #[.int .i64 0, .int .i64 0, .int .i64 0, .string ⟨#[]⟩, .slice none 0 0] 29) := ⟨_, rfl⟩
    have B1 : Blk w2 (w.heap.size + 1) 29 #[.int .i64 0, .int .i64 0, .int .i64 0, .string ⟨#[]⟩, .slice none 0 0] := by
      have h := Blk.new (w.alloc (.cells #[.int .i64 v.k, .int .i64 v.n, .int .i64 v.e, .string v.s, .slice A v.kids.length cap] 29)) 29 #[.int .i64 0, .int .i64 0, .int .i64 0, .string ⟨#[]⟩, .slice none 0 0]
      rw [← hw2] at h
      simpa using h
    have B0 : Blk w2 w.heap.size 29 #[.int .i64 v.k, .int .i64 v.n, .int .i64 v.e, .string v.s, .slice A v.kids.length cap] := by rw [hw2]; exact (Blk.new w _ _).alloc _
    have z2 : w2.heap.size = w.heap.size + 2 := by rw [hw2]; simp
    have b2 : Below w.heap.size w w2 := by rw [hw2]; exact HB2.out _ _
    rw [← hw2]
    clear hw2
    refine (implFind v key A _ w2 hl (Vs.at_more (Nat.le_refl _) b2.size _ _ (Vs.at_below HA.out b2 (Nat.le_refl _))) h8).mono ?_
    rintro e w1 ⟨rfl, hb1⟩
    have B13 := B1.below hb1 (by omega)
    have B03 := B0.below hb1 (by omega)
    have b3 := b2.trans (hb1.mono b2.size)
    have z3 : w.heap.size + 2 ≤ w1.heap.size := by have := hb1.size; omega
    obtain ⟨q0, q1, q2, q3, q4⟩ := B13.five
    obtain ⟨p0, p1, p2, p3, p4⟩ := B03.five
    have f0 := B13.frozen 0
    have f1 := B13.frozen 1
    have f2 := B13.frozen 2
    have f3 := B13.frozen 3
    have f4 := B13.frozen 4
    clear hb1 B1 B0
    obtain ⟨b, off, A', cap', rfl, g1, g2, g3, ⟨c0, c1, c2, c3, c4⟩, g5⟩ := Vs.at_get (p + 1) hlt (Vs.at_below HA.out b3 (Nat.le_refl _))
    rw [HP.out]
    have hnk := Vs.nodes_get (p + 1) hlt
    go_wp2_with fail
    refine (implOwn v.kids[p + 1] A' cap' w1 (by omega) (Vs.at_more (Nat.le_refl _) b3.size _ _ g5)).mono ?_
    rintro e w3 ⟨A2, c2', F, rfl, hc2, hl2, hnd, hF, hb3⟩
    clear q0 q1 q2 q3 q4 f0 f1 f2 f3 f4
    have B14 := B13.below hb3 B13.lt
    obtain ⟨q0, q1, q2, q3, q4⟩ := B14.five
    have f0 := B14.frozen 0
    have f1 := B14.frozen 1
    have f2 := B14.frozen 2
    have f3 := B14.frozen 3
    have f4 := B14.frozen 4
    have hbw := b3.trans (hb3.mono b3.size)
    have HL := Lib.hid hl2
    have HND := Lib.hid hnd
    have HF := Lib.hid hF
    have HBW := Lib.hid hbw
    clear p0 p1 p2 p3 p4 c0 c1 c2 c3 c4 hl2 hnd hF hbw hb3 b2 B13 B03 B14
    unfold V.agg
    go_wp2_with fail
    refine bodyPost_ret (v := .tuple #[.agg #[.int .i64 v.kids[p + 1].k, .int .i64 v.kids[p + 1].n, .int .i64 v.kids[p + 1].e, .string v.kids[p + 1].s, .slice A2 v.kids[p + 1].kids.length c2'], .bool true]) (by simp [results, Try.results27, go_sem, q0, q1, q2, q3, q4]) rfl ?_
    have e1 : fieldD v key = v.kids[p + 1] := by rw [fieldD, HV.out]; rfl
    have e2 : fieldB v key = true := by rw [fieldB, HV.out]; rfl
    unfold FieldRet
    rw [e1, e2]
    refine ⟨A2, c2', F, rfl, hc2, Vs.lies_same HL.out ⟨by simp, fun c hc => ?_⟩, HND.out, fun c hc => by have := HF.out c hc; omega, ?_⟩
    · have h1 : c ≠ w.heap.size + 1 := by have := HF.out c hc; omega
      simp only [Below.heap_setCell _ (⟨w.heap.size + 1, _, none⟩ : Addr) _ _ (show c ≠ _ from h1)]
    · repeat (refine Below.setCell ?_ (by simp; try omega) _)
      exact HBW.out
end Go.Proofs.Ytlfiaccpihjldaa
