/-
  FnExactStrings returns true for every value that can be read; it reads as it did; no conditions.
-/
import Derived.Test.YtlfiaccpihjldaaStringsI
import Derived.Test.YtlfiaccpihjldaaSz
import Derived.Test.YtlfiaccpihjldaaTo2
import Derived.Test.YtlfiaccpihjldaaEq
import Derived.Test.YtlfiaccpihjldaaOpen
import Derived.Deep.RegionWith
namespace Go.Proofs.Ytlfiaccpihjldaa.fnExactStrings
open Go.ChangeShapes Go.WideShapes Go.ChangeAt Go.RowKit
open Go.ChangeMaps (open_string shut_string)
set_option linter.unusedVariables false

set_option maxHeartbeats 4000000 in
theorem walk (t0 : V) (A0 : Option Addr) (c0 : Nat) (f0 : t0.fits) (w : World) (h0 : Vs.at_ w 0 w.heap.size t0.kids A0) :
    Calls Try.prog 6 #[t0.agg A0 c0] w fun e w' => e = .returned (.bool true) ∧ Below w.heap.size w w' := by
  have H0 := Lib.hid h0
  clear h0
  by_cases hwt : t0.weight ≤ 1048576
  · have e1 : szR 1048576 t0.weight = 1048576 - t0.weight := by rw [szR, if_pos (by omega)]
    have hn : t0.nodes ≤ 1048577 := by have := V.nodes_weight t0; omega
    have hnk : 1 + 4 * Vs.nodes t0.kids ≤ 10000000 := by have := V.nodes_eq t0; omega
    have hll : (t0.texts).length ≤ 10000000 := by have := texts_len t0; omega
    have HE := Lib.hid e1
    obtain ⟨l, hl⟩ : ∃ l, t0.texts = l := ⟨_, rfl⟩
    have cS := fun A c W h1 h2 => specStringsRow t0 A c W h1 h2
    have cI := fun A c W h1 h2 => implStringsRow t0 A c W h1 h2
    rw [hl] at cS cI hll
    have HCS := Lib.hid cS
    have HCI := Lib.hid cI
    clear e1 hl cS cI
    unfold V.agg
    go_enter Try.func6, Try.ntmps6
    go_wp2_with fail
    refine (szValue_any t0 A0 c0 1048576 _ (by omega) (by omega) f0 (Vs.at_more (Nat.le_refl _) (by simp) _ _ (Vs.at_alloc H0.out (Nat.le_refl _) _))).mono ?_
    rintro e w1 ⟨rfl, hb1⟩
    rw [HE.out]
    have Bv := (Blk.new w _ _).below hb1 (by simp)
    have b1 : Below w.heap.size w w1 := ((Below.refl _ w).alloc (Nat.le_refl _) _).trans (hb1.mono (by simp))
    obtain ⟨p0, p1, p2, p3, p4⟩ := Bv.five
    clear hb1
    go_wp2_with fail
    refine (toValue_any t0 A0 c0 _ hn (Vs.at_more (Nat.le_refl _) b1.size _ _ (Vs.at_below H0.out b1 (Nat.le_refl _)))).mono ?_
    rintro e w2 ⟨A1, c1, rfl, hc1, at1, hb2⟩
    have Bv2 := Bv.below hb2 Bv.lt
    have b2 := b1.trans (hb2.mono b1.size)
    clear p0 p1 p2 p3 p4 hb2 Bv b1
    unfold V.agg
    go_wp2_with fail
    refine (HCS.out A1 c1 _ hn (Vs.at_more (Nat.zero_le _) (Nat.le_refl _) _ _ at1)).mono ?_
    rintro e w3 ⟨o0, rfl, hr0, hb3⟩
    have R0 := Lib.hid hr0
    have Bv3 := Bv2.below hb3 Bv2.lt
    have b3 := b2.trans (hb3.mono b2.size)
    obtain ⟨p0, p1, p2, p3, p4⟩ := Bv3.five
    clear hr0 hb3 Bv2 b2 at1
    go_wp2_with fail
    refine (toValue2 t0 A0 c0 _ hn (Vs.at_more (Nat.le_refl _) b3.size _ _ (Vs.at_below H0.out b3 (Nat.le_refl _)))).mono ?_
    rintro e w4 ⟨A2, c2, F, rfl, hc2, hlies, hnd, hF, hb4⟩
    have LI := Lib.hid hlies
    have ND := Lib.hid hnd
    have HF := Lib.hid hF
    have HLT := Lib.hid (lies_lt hlies)
    clear p0 p1 p2 p3 p4 hlies hnd hF
    unfold V.agg
    go_wp2_with fail
    obtain ⟨w5, hw5⟩ : ∃ w5, w5 = w4.alloc (.cells #[.int .i64 t0.k, .int .i64 t0.n, .int .i64 t0.e, .string t0.s, .slice A2 t0.kids.length c2] 29) := ⟨_, rfl⟩
    have Bx5 : Blk w5 w4.heap.size 29 #[.int .i64 t0.k, .int .i64 t0.n, .int .i64 t0.e, .string t0.s, .slice A2 t0.kids.length c2] := by rw [hw5]; exact Blk.new w4 _ _
    have b35 : Below w3.heap.size w3 w5 := by rw [hw5]; exact hb4.alloc hb4.size _
    have z5 : w5.heap.size = w4.heap.size + 1 := by rw [hw5]; simp
    have b45 : Below w4.heap.size w4 w5 := by rw [hw5]; exact (Below.refl _ w4).alloc (Nat.le_refl _) _
    rw [← hw5]
    clear hw5
    have at5 := Vs.at_more (Nat.zero_le _) b45.size _ _ (Vs.at_below (Vs.lies_at LI.out (lo := 0) (fun _ _ => Nat.zero_le _)) b45 (Nat.le_refl _))
    refine (HCI.out A2 c2 _ hn at5).mono ?_
    rintro e w6 ⟨o1, rfl, hr1, hb6⟩
    have R1 := Lib.hid hr1
    have b36 := b35.trans (hb6.mono b35.size)
    have b46 := b45.trans (hb6.mono b45.size)
    have lt5 := Bx5.lt
    clear hr1 hb4
    go_wp2_with fail
    refine (eqRow l o1 o0 _ _ w6 hll R1.out (own_below' R0.out (Nat.le_refl _) b36)).mono ?_
    rintro e w7 ⟨rfl, hb7⟩
    have b37 := b36.trans (hb7.mono b36.size)
    have b47 := b46.trans (hb7.mono b46.size)
    have b57 := hb6.trans (hb7.mono hb6.size)
    have Bx7 := Bx5.below b57 lt5
    have lt3 := Bv3.lt
    have Bv7 := Bv3.below b37 lt3
    have sz57 : w4.heap.size < w7.heap.size := by have := b57.size; omega
    have sz67 : w6.heap.size ≤ w7.heap.size := hb7.size
    have at7 := Vs.at_below (Vs.at_more (Nat.le_refl _) (Nat.le_refl w5.heap.size) _ _ at5) b57 (Nat.le_refl _)
    have b37' := b3.trans (b37.mono b3.size)
    obtain ⟨p0, p1, p2, p3, p4⟩ := Bv7.five
    obtain ⟨q0, q1, q2, q3, q4⟩ := Bx7.five
    go_wp2_with fail
    go_region_with (first
      | (go_at_call 11; refine (toValue_any t0 A0 c0 w7.drew hn (Vs.at_more (Nat.le_refl _) b37'.size _ _ (Vs.at_drew (Vs.at_below H0.out b37' (Nat.le_refl _))))).mono ?_; rintro e w8 ⟨A3, c3, rfl, hc3, at3, hb8⟩; have Bx8 := (Blk.drew Bx7).below hb8 (Blk.drew Bx7).lt; obtain ⟨r0, r1, r2, r3, r4⟩ := Bx8.five; have at8 := Vs.at_below (Vs.at_drew at7) hb8 b57.size; have b78 : Below w7.heap.size w7 w8 := (Below.refl _ w7).drew.trans hb8; unfold V.agg)
      | (go_at_call 13; refine (eqValue_any t0 A2 A3 c2 c3 w8 hn (Vs.at_more (Nat.le_refl _) (Nat.le_trans b57.size hb8.size) _ _ at8) (Vs.at_more (Nat.zero_le _) (Nat.le_refl _) _ _ at3)).mono ?_; rintro e w9 ⟨rfl, hb9⟩; have b79 := b78.trans (hb9.mono b78.size)))
    all_goals
      clear p0 p1 p2 p3 p4 q0 q1 q2 q3 q4 r0 r1 r2 r3 r4 at8 at3 at7
      have b39 := b37.trans (b79.mono b37.size)
      have b49 := b47.trans (b79.mono b47.size)
      have b69 := hb7.trans (b79.mono hb7.size)
      have Bx9 := Bx7.below b79 sz57
      obtain ⟨q0, q1, q2, q3, q4⟩ := Bx9.five
      go_wp2_with fail
      refine (markValue_any t0 A2 c2 1 w9 F (by omega) hnk (lies_below LI.out b49 HLT.out) ND.out).mono ?_
      rintro e w10 ⟨rfl, _, ht10⟩
      have t10 : Below w3.heap.size w9 w10 := ht10.below b39.size HF.out
      have b310 := b39.trans t10
      have hF5 : ∀ c ∈ F, c < w5.heap.size + 1 := fun c hc => by have := HLT.out c hc; omega
      have own10 := own_touch (own_below' R1.out (Nat.le_refl _) b69) ht10 hF5
      have R10 := Lib.hid own10
      have z9 : w5.heap.size + 1 ≤ w10.heap.size ∨ True := .inr trivial
      have z510 : w5.heap.size ≤ w10.heap.size := Nat.le_trans b57.size (Nat.le_trans b79.size ht10.size)
      clear own10 q0 q1 q2 q3 q4 ht10 hF5
      go_wp2_with fail
      refine (eqRow l o1 o0 _ _ w10 hll R10.out (own_below' R0.out (Nat.le_refl _) b310)).mono ?_
      rintro e w11 ⟨rfl, hb11⟩
      have b311 := b310.trans (hb11.mono b310.size)
      have z511 : w5.heap.size ≤ w11.heap.size := Nat.le_trans z510 hb11.size
      go_wp2_with fail
      refine (markRow l.length 1 o1 w5.heap.size w11 _ hll (by omega) (by omega) z511 (own_base (own_below' R10.out (Nat.le_refl _) hb11) (Nat.le_succ _))).mono ?_
      rintro e w12 ⟨rfl, hr12, hb12⟩
      have R12 := Lib.hid hr12
      have s35 : w3.heap.size ≤ w5.heap.size := b35.size
      have b312 := b311.trans (hb12.mono s35)
      clear hr12
      go_wp2_with fail
      refine (heldRow l.length 1 o1 w5.heap.size w12 hll (by omega) (by omega) R12.out).mono ?_
      rintro e w13 ⟨rfl, hb13⟩
      have b313 := b312.trans (hb13.mono b312.size)
      have b013 := b3.trans (b313.mono b3.size)
      have Bv13 := Bv3.below b313 lt3
      obtain ⟨p0, p1, p2, p3, p4⟩ := Bv13.five
      go_wp2_with fail
      refine (toValue_any t0 A0 c0 w13 hn (Vs.at_more (Nat.le_refl _) b013.size _ _ (Vs.at_below H0.out b013 (Nat.le_refl _)))).mono ?_
      rintro e w14 ⟨A4, c4, rfl, hc4, at4, hb14⟩
      have b314 := b313.trans (hb14.mono b313.size)
      clear p0 p1 p2 p3 p4
      unfold V.agg
      go_wp2_with fail
      refine (HCI.out A4 c4 w14 hn (Vs.at_more (Nat.zero_le _) (Nat.le_refl _) _ _ at4)).mono ?_
      rintro e w15 ⟨o2, rfl, hr15, hb15⟩
      have R15 := Lib.hid hr15
      have b315 := b314.trans (hb15.mono b314.size)
      clear hr15 at4
      go_wp2_with fail
      refine (eqRow l o2 o0 _ _ w15 hll R15.out (own_below' R0.out (Nat.le_refl _) b315)).mono ?_
      rintro e w16 ⟨rfl, hb16⟩
      have b316 := b315.trans (hb16.mono b315.size)
      have b1216 := hb13.trans ((hb14.mono hb13.size).trans ((hb15.mono (Nat.le_trans hb13.size hb14.size)).trans (hb16.mono (Nat.le_trans hb13.size (Nat.le_trans hb14.size hb15.size)))))
      go_wp2_with fail
      refine (heldRow l.length 1 o1 w5.heap.size w16 hll (by omega) (by omega) (own_below' R12.out (Nat.le_refl _) b1216)).mono ?_
      rintro e w17 ⟨rfl, hb17⟩
      go_wp2_with fail
      go_ret
      exact ⟨rfl, b3.trans ((b316.trans (hb17.mono b316.size)).mono b3.size)⟩
  · have e1 : szR 1048576 t0.weight = -1 := by rw [szR, if_neg (by omega)]
    have HE := Lib.hid e1
    clear e1
    unfold V.agg
    go_enter Try.func6, Try.ntmps6
    go_wp2_with fail
    refine (szValue_any t0 A0 c0 1048576 _ (by omega) (by omega) f0 (Vs.at_more (Nat.le_refl _) (by simp) _ _ (Vs.at_alloc H0.out (Nat.le_refl _) _))).mono ?_
    rintro e w1 ⟨rfl, hb1⟩
    rw [HE.out]
    go_wp2_with fail
    go_ret
    exact ⟨rfl, ((Below.refl _ w).alloc (Nat.le_refl _) _).trans (hb1.mono (by simp))⟩

set_option maxRecDepth 100000 in
theorem lifted (os : Os) (started : os.Started) (H : Type) (enc : TypeId × Value → H) :
    ReturnsInHanded {} Try.checked os 6 .any (Rows.fnExactStringsSpec.pre6 enc Try.prog Try.f6 Rows.fnExactStringsRow.domain false) (Rows.fnExactStringsSpec.post enc Try.prog Try.f6 false true false false) := by
  refine returnsInHanded_of_change (C := Try.checked) own started (by kernel_rfl) Try.func6
    (ChangeSpec.witness6 (enc := enc) (C := Try.checked) false ⟨#[], #[.agg #[.int .i64 0, .int .i64 0, .int .i64 0, .string ByteArray.empty, .slice none 0 0]], []⟩ 8 (by kernel_rfl) (by kernel_rfl) (by kernel_rfl) (by kernel_rfl)) ?_
  intro W base args ds gs before hval0 hW hcnd _
  have hval : ∀ (j : Nat) t v, Try.f6.params[j]? = some t → args[j]? = some v → Value.okWide Try.prog W .any base t v := hval0
  have hW' := hW
  obtain ⟨p, q, hA0, hV, rfl, hfz, hnd⟩ := hW
  have hA : DataW.TrodAll enc Try.prog W 0 (fun _ => true) true Try.f6.params.toList args.toList ds p := hA0
  rw [Try.params6] at hA hval
  obtain ⟨v0, vs0, d0, ds0, p0, q0, hargs, rfl, rfl, h0, r0⟩ := trodAll_cons hA
  obtain ⟨rfl, rfl, rfl⟩ := trodAll_nil r0
  obtain rfl : args = #[v0] := by cases args; simp_all
  obtain ⟨rfl, rfl⟩ := trodVars_none hV
  have k0 := h0
  have lt0 : ∀ x ∈ p0, x.block < W.heap.size := by obtain ⟨m, hm⟩ := k0; exact DataW.trod_lt m _ _ _ hm
  obtain ⟨t0, A0, c0, rfl, f0, at0⟩ := open_value (hval 0 24 v0 rfl rfl) h0
  clear hA0 hval0
  refine (walk t0 A0 c0 f0 W at0).mono fun e W' ⟨he, bel⟩ => ?_
  subst he
  exact ⟨_, rfl, _, _, _, [], _, [], hW', trodAll_mk1 (shut_bool Try.underlying4 _), (trodAll_cons_mk (Below.trod laidOut (by kernel_rfl) (of_decide_eq_true (by kernel_rfl)) k0 bel lt0) trodAll_mk0), rfl, bel.frame _, fun h => by cases h⟩

theorem over : Rows.fnExactStringsRow.holds Try.pinned (OpenSpec.ofChange Rows.fnExactStringsSpec) :=
  OpenClaim.holds_of_wide 6 Try.f6 rfl rfl rfl rfl rfl rfl rfl ⟨rfl, rfl, rfl, rfl, rfl⟩ rfl rfl rfl rfl rfl (by kernel_rfl) Try.func6 (by kernel_rfl)
    (of_decide_eq_true (by kernel_rfl)) (by unfold Func.isWrapper; first | (rw [if_pos (by decide +kernel)]; kernel_rfl) | (rw [if_neg (by decide +kernel)]; exact ⟨rfl, rfl⟩))
    (fun os started H enc _ => lifted os started H enc)

theorem proved : Rows.FnExactStringsSaid := over
end Go.Proofs.Ytlfiaccpihjldaa.fnExactStrings
