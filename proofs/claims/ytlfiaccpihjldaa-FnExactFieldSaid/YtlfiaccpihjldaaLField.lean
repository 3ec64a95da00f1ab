/-
  FnExactField returns true for every value that can be read and every text; they read as they did; no conditions.
-/
import Derived.Test.YtlfiaccpihjldaaFieldI
import Derived.Test.YtlfiaccpihjldaaHeldV
import Derived.Test.YtlfiaccpihjldaaSz
import Derived.Test.YtlfiaccpihjldaaTo2
import Derived.Test.YtlfiaccpihjldaaEq
import Derived.Test.YtlfiaccpihjldaaOpen
import Derived.Deep.RegionWith
namespace Go.Proofs.Ytlfiaccpihjldaa.fnExactField
open Go.ChangeShapes Go.WideShapes Go.ChangeAt Go.RowKit
open Go.ChangeMaps (open_string shut_string)
set_option linter.unusedVariables false

set_option maxHeartbeats 8000000 in
theorem walk (t0 : V) (A0 : Option Addr) (c0 : Nat) (f0 : t0.fits) (a1 : ByteArray) (w : World) (h0 : Vs.at_ w 0 w.heap.size t0.kids A0) (h1 : a1.size ≤ maxLen) :
    Calls Try.prog 8 #[t0.agg A0 c0, .string a1] w fun e w' => e = .returned (.bool true) ∧ Below w.heap.size w w' := by
  have H0 := Lib.hid h0
  clear h0
  unfold maxLen at h1
  by_cases hkey : 1048576 < a1.size
  · unfold V.agg
    go_enter Try.func8, Try.ntmps8
    go_wp2_with fail
    go_ret
    exact ⟨rfl, (Below.refl _ w).alloc (Nat.le_refl _) _⟩
  by_cases hwt : t0.weight ≤ 1048576
  · have e1 : szR 1048576 t0.weight = 1048576 - t0.weight := by rw [szR, if_pos (by omega)]
    have hn : t0.nodes ≤ 1048577 := by have := V.nodes_weight t0; omega
    have hnk : 1 + 4 * Vs.nodes t0.kids ≤ 10000000 := by have := V.nodes_eq t0; omega
    have hdn : (fieldD t0 a1).nodes ≤ 1048577 := Nat.le_trans (fieldD_nodes t0 a1) hn
    have HE := Lib.hid e1
    have cS := fun A c W h1 h2 => specField t0 a1 A c W h1 h2
    have cI := fun A c W h1 h2 => implField t0 a1 A c W h1 h2
    unfold FieldRet at cS cI
    obtain ⟨d, hd⟩ : ∃ d, fieldD t0 a1 = d := ⟨_, rfl⟩
    obtain ⟨bb, hbb⟩ : ∃ bb, fieldB t0 a1 = bb := ⟨_, rfl⟩
    rw [hd] at cS cI hdn
    rw [hbb] at cS cI
    have hdk : 1 + 4 * Vs.nodes d.kids ≤ 10000000 := by have := V.nodes_eq d; omega
    have hbn : (bb != bb) = false := by cases bb <;> rfl
    have hbe : (bb == bb) = true := by cases bb <;> rfl
    have HCS := Lib.hid cS
    have HCI := Lib.hid cI
    clear e1 hd hbb cS cI
    unfold V.agg
    go_enter Try.func8, Try.ntmps8
    go_wp2_with fail
    refine (szValue_any t0 A0 c0 1048576 _ (by omega) (by omega) f0 (Vs.at_more (Nat.le_refl _) (by simp) _ _ (Vs.at_alloc H0.out (Nat.le_refl _) _))).mono ?_
    rintro e w1 ⟨rfl, hb1⟩
    rw [HE.out]
    have Bv := (Blk.new w _ _).below hb1 (by simp)
    have b1 : Below w.heap.size w w1 := ((Below.refl _ w).alloc (Nat.le_refl _) _).trans (hb1.mono (by simp))
    obtain ⟨p0, p1, p2, p3, p4⟩ := Bv.five
    clear hb1
    go_wp2_with fail
    refine (toValue_any t0 A0 c0 _ hn (Vs.at_more (Nat.le_refl _) b1.size _ _ (Vs.at_below H0.out b1 (Nat.le_refl _)))).mono ?_
    rintro e w2 ⟨A1, c1, rfl, hc1, at1, hb2⟩
    have Bv2 := Bv.below hb2 Bv.lt
    have b2 := b1.trans (hb2.mono b1.size)
    clear p0 p1 p2 p3 p4 hb2 Bv b1
    unfold V.agg
    go_wp2_with fail
    refine (HCS.out A1 c1 _ hn (Vs.at_more (Nat.zero_le _) (Nat.le_refl _) _ _ at1)).mono ?_
    rintro e w3 ⟨A3, c3, F0, rfl, hc3, hl3, hnd3, hF3, hb3⟩
    have Bv3 := Bv2.below hb3 Bv2.lt
    have b3 := b2.trans (hb3.mono b2.size)
    have L3 := Lib.hid (Vs.lies_at hl3 (lo := 0) (fun _ _ => Nat.zero_le _))
    clear hb3 Bv2 b2 at1 hl3 hnd3 hF3
    unfold V.agg
    obtain ⟨p0, p1, p2, p3, p4⟩ := Bv3.five
    have ltv3 := Bv3.lt
    go_wp2_with fail
    obtain ⟨w4, hw4⟩ : ∃ w4, w4 = w3.alloc (.cells #[.int .i64 d.k, .int .i64 d.n, .int .i64 d.e, .string d.s, .slice A3 d.kids.length c3] 29) := ⟨_, rfl⟩
    have Bx4 : Blk w4 w3.heap.size 29 #[.int .i64 d.k, .int .i64 d.n, .int .i64 d.e, .string d.s, .slice A3 d.kids.length c3] := by rw [hw4]; exact Blk.new w3 _ _
    have bx4 : Below w3.heap.size w3 w4 := by rw [hw4]; exact (Below.refl _ w3).alloc (Nat.le_refl _) _
    have z4 : w4.heap.size = w3.heap.size + 1 := by rw [hw4]; simp
    have Bv4 := Bv3.below bx4 Bv3.lt
    have b4 := b3.trans (bx4.mono b3.size)
    rw [← hw4]
    clear hw4
    refine (toValue2 t0 A0 c0 _ hn (Vs.at_more (Nat.le_refl _) b4.size _ _ (Vs.at_below H0.out b4 (Nat.le_refl _)))).mono ?_
    rintro e w5 ⟨A5, c5, F1, rfl, hc5, hl5, hnd5, hF5, hb5⟩
    have LI := Lib.hid hl5
    have ND := Lib.hid hnd5
    have HF := Lib.hid hF5
    have HLT := Lib.hid (lies_lt hl5)
    clear p0 p1 p2 p3 p4 hl5 hnd5 hF5
    unfold V.agg
    go_wp2_with fail
    obtain ⟨w6, hw6⟩ : ∃ w6, w6 = w5.alloc (.cells #[.int .i64 t0.k, .int .i64 t0.n, .int .i64 t0.e, .string t0.s, .slice A5 t0.kids.length c5] 29) := ⟨_, rfl⟩
    have Bx6 : Blk w6 w5.heap.size 29 #[.int .i64 t0.k, .int .i64 t0.n, .int .i64 t0.e, .string t0.s, .slice A5 t0.kids.length c5] := by rw [hw6]; exact Blk.new w5 _ _
    have bx6 : Below w5.heap.size w5 w6 := by rw [hw6]; exact (Below.refl _ w5).alloc (Nat.le_refl _) _
    have z6 : w6.heap.size = w5.heap.size + 1 := by rw [hw6]; simp
    have b46 := hb5.trans (bx6.mono hb5.size)
    rw [← hw6]
    clear hw6
    have at6 := Vs.at_more (Nat.zero_le _) bx6.size _ _ (Vs.at_below (Vs.lies_at LI.out (lo := 0) (fun _ _ => Nat.zero_le _)) bx6 (Nat.le_refl _))
    refine (HCI.out A5 c5 _ hn at6).mono ?_
    rintro e w7 ⟨A7, c7, F2, rfl, hc7, hl7, hnd7, hF7, hb7⟩
    have L7 := Lib.hid hl7
    have ND7 := Lib.hid hnd7
    have HF7 := Lib.hid hF7
    have HLT7 := Lib.hid (lies_lt hl7)
    have b47 := b46.trans (hb7.mono b46.size)
    clear hl7 hnd7 hF7
    unfold V.agg
    have B47 := Bx4.below b47 Bx4.lt
    obtain ⟨p0, p1, p2, p3, p4⟩ := B47.five
    have ltx7 := B47.lt
    go_wp2_with fail
    obtain ⟨w8, hw8⟩ : ∃ w8, w8 = w7.alloc (.cells #[.int .i64 d.k, .int .i64 d.n, .int .i64 d.e, .string d.s, .slice A7 d.kids.length c7] 29) := ⟨_, rfl⟩
    have Bx8 : Blk w8 w7.heap.size 29 #[.int .i64 d.k, .int .i64 d.n, .int .i64 d.e, .string d.s, .slice A7 d.kids.length c7] := by rw [hw8]; exact Blk.new w7 _ _
    have bx8 : Below w7.heap.size w7 w8 := by rw [hw8]; exact (Below.refl _ w7).alloc (Nat.le_refl _) _
    have z8 : w8.heap.size = w7.heap.size + 1 := by rw [hw8]; simp
    have b48 := b47.trans (bx8.mono b47.size)
    have b68 := hb7.trans (bx8.mono hb7.size)
    have lt4 := Bx4.lt
    have lt6 := Bx6.lt
    have lt8 := Bx8.lt
    have B48 := Bx4.below b48 lt4
    have s34 : w3.heap.size ≤ w4.heap.size := bx4.size
    have s48 : w4.heap.size ≤ w8.heap.size := b48.size
    have s68 : w6.heap.size ≤ w8.heap.size := b68.size
    have s46 : w4.heap.size ≤ w6.heap.size := b46.size
    have b38 := bx4.trans (b48.mono s34)
    have at80 := Vs.at_more (Nat.le_refl _) b38.size _ _ (Vs.at_below L3.out b38 (Nat.le_refl _))
    have at87 := Vs.at_more (Nat.le_refl _) bx8.size _ _ (Vs.at_below (Vs.lies_at L7.out (lo := 0) (fun _ _ => Nat.zero_le _)) bx8 (Nat.le_refl _))
    rw [← hw8]
    clear hw8
    refine (eqValue_any d A7 A3 c7 c3 w8 hdn at87 at80).mono ?_
    rintro e w9 ⟨rfl, hb9⟩
    clear p0 p1 p2 p3 p4 at80 at87
    have b49 := b48.trans (hb9.mono s48)
    have b69 := b68.trans (hb9.mono s68)
    have Bv9 := Bv4.below b49 Bv4.lt
    have B69 := Bx6.below b69 lt6
    have b09 := b4.trans (b49.mono b4.size)
    have at9 := Vs.at_below at6 b69 (Nat.le_refl _)
    obtain ⟨p0, p1, p2, p3, p4⟩ := Bv9.five
    obtain ⟨q0, q1, q2, q3, q4⟩ := B69.five
    have s69 : w6.heap.size ≤ w9.heap.size := b69.size
    have s59 : w5.heap.size < w9.heap.size := by omega
    go_wp2_with fail
    go_region_with (first
      | (go_at_call 11; refine (toValue_any t0 A0 c0 w9.drew hn (Vs.at_more (Nat.le_refl _) b09.size _ _ (Vs.at_drew (Vs.at_below H0.out b09 (Nat.le_refl _))))).mono ?_; rintro e w10 ⟨A10, c10, rfl, hc10, at10, hb10⟩; have Bx10 := (Blk.drew B69).below hb10 (Blk.drew B69).lt; obtain ⟨r0, r1, r2, r3, r4⟩ := Bx10.five; have at10' := Vs.at_below (Vs.at_drew at9) hb10 s69; have b910 : Below w9.heap.size w9 w10 := (Below.refl _ w9).drew.trans hb10; unfold V.agg)
      | (go_at_call 13; refine (eqValue_any t0 A5 A10 c5 c10 w10 hn (Vs.at_more (Nat.le_refl _) (Nat.le_trans s69 hb10.size) _ _ at10') (Vs.at_more (Nat.zero_le _) (Nat.le_refl _) _ _ at10)).mono ?_; rintro e w11 ⟨rfl, hb11⟩; have b911 := b910.trans (hb11.mono b910.size)))
    all_goals
      clear p0 p1 p2 p3 p4 q0 q1 q2 q3 q4 r0 r1 r2 r3 r4 at10 at10' at9
      have b411 := b49.trans (b911.mono b49.size)
      have b611 := b69.trans (b911.mono b69.size)
      have b811 := hb9.trans (b911.mono hb9.size)
      have B611 := Bx6.below b611 lt6
      obtain ⟨q0, q1, q2, q3, q4⟩ := B611.five
      have b511 := bx6.trans (b611.mono bx6.size)
      go_wp2_with fail
      refine (markValue_any t0 A5 c5 1 w11 F1 (by omega) hnk (lies_below LI.out b511 HLT.out) ND.out).mono ?_
      rintro e w12 ⟨rfl, _, ht12⟩
      clear q0 q1 q2 q3 q4
      have t12 : Below w4.heap.size w11 w12 := ht12.below b411.size HF.out
      have b412 := b411.trans t12
      have l711 := lies_below L7.out (bx8.trans (b811.mono bx8.size)) HLT7.out
      have hd12 : ∀ c ∈ F2, c ∉ F1 := fun c hc hc' => by have := HF7.out c hc; have := HLT.out c hc'; omega
      have l712 := lies_touch l711 ht12 hd12
      have B811 := Bx8.below b811 lt8
      have B812 := B811.touch ht12 (fun hc => by have := HLT.out _ hc; have := hb7.size; omega)
      have B412 := Bx4.below b412 lt4
      have b312 := bx4.trans (b412.mono s34)
      have L712 := Lib.hid l712
      obtain ⟨p0, p1, p2, p3, p4⟩ := B412.five
      obtain ⟨q0, q1, q2, q3, q4⟩ := B812.five
      clear ht12 hd12 l711 l712
      go_wp2_with fail
      refine (eqValue_any d A7 A3 c7 c3 w12 hdn (Vs.at_more (Nat.le_refl _) (Nat.le_refl _) _ _ (Vs.lies_at L712.out (lo := 0) (fun _ _ => Nat.zero_le _))) (Vs.at_more (Nat.le_refl _) b312.size _ _ (Vs.at_below L3.out b312 (Nat.le_refl _)))).mono ?_
      rintro e w13 ⟨rfl, hb13⟩
      clear p0 p1 p2 p3 p4 q0 q1 q2 q3 q4
      have b413 := b412.trans (hb13.mono b412.size)
      have B813 := B812.below hb13 B812.lt
      have L713 := Lib.hid (lies_below L712.out hb13 (lies_lt L712.out))
      obtain ⟨q0, q1, q2, q3, q4⟩ := B813.five
      go_wp2_with fail
      refine (markValue_any d A7 c7 1 w13 F2 (by omega) hdk L713.out ND7.out).mono ?_
      rintro e w14 ⟨rfl, hl14, ht14⟩
      clear q0 q1 q2 q3 q4
      have t14 : Below w4.heap.size w13 w14 := ht14.below b413.size (fun c hc => Nat.le_trans s46 (HF7.out c hc))
      have b414 := b413.trans t14
      have L14 := Lib.hid hl14
      have B814 := B813.touch ht14 (fun hc => by have := HLT7.out _ hc; omega)
      obtain ⟨q0, q1, q2, q3, q4⟩ := B814.five
      clear ht14 hl14
      go_wp2_with fail
      refine (heldValue_any d A7 c7 1 w14 F2 d.kids rfl (by omega) hdk L14.out).mono ?_
      rintro e w15 ⟨rfl, hb15⟩
      clear q0 q1 q2 q3 q4
      have b415 := b414.trans (hb15.mono b414.size)
      have Bv15 := Bv4.below b415 Bv4.lt
      have b015 := b4.trans (b415.mono b4.size)
      obtain ⟨p0, p1, p2, p3, p4⟩ := Bv15.five
      go_wp2_with fail
      refine (toValue_any t0 A0 c0 w15 hn (Vs.at_more (Nat.le_refl _) b015.size _ _ (Vs.at_below H0.out b015 (Nat.le_refl _)))).mono ?_
      rintro e w16 ⟨A16, c16, rfl, hc16, at16, hb16⟩
      have b416 := b415.trans (hb16.mono b415.size)
      clear p0 p1 p2 p3 p4
      unfold V.agg
      go_wp2_with fail
      refine (HCI.out A16 c16 w16 hn (Vs.at_more (Nat.zero_le _) (Nat.le_refl _) _ _ at16)).mono ?_
      rintro e w17 ⟨A17, c17, F3, rfl, hc17, hl17, _, _, hb17⟩
      have b417 := b416.trans (hb17.mono b416.size)
      have L17 := Lib.hid (Vs.lies_at hl17 (lo := 0) (fun _ _ => Nat.zero_le _))
      clear hl17 at16
      unfold V.agg
      have B417 := Bx4.below b417 lt4
      obtain ⟨p0, p1, p2, p3, p4⟩ := B417.five
      have ltx17 := B417.lt
      go_wp2_with fail
      obtain ⟨w18, hw18⟩ : ∃ w18, w18 = w17.alloc (.cells #[.int .i64 d.k, .int .i64 d.n, .int .i64 d.e, .string d.s, .slice A17 d.kids.length c17] 29) := ⟨_, rfl⟩
      have Bx18 : Blk w18 w17.heap.size 29 #[.int .i64 d.k, .int .i64 d.n, .int .i64 d.e, .string d.s, .slice A17 d.kids.length c17] := by rw [hw18]; exact Blk.new w17 _ _
      have bx18 : Below w17.heap.size w17 w18 := by rw [hw18]; exact (Below.refl _ w17).alloc (Nat.le_refl _) _
      have z18 : w18.heap.size = w17.heap.size + 1 := by rw [hw18]; simp
      have b418 := b417.trans (bx18.mono b417.size)
      have B418 := Bx4.below b418 lt4
      have b318 := bx4.trans (b418.mono s34)
      have b1418 := hb15.trans ((hb16.mono hb15.size).trans ((hb17.mono (Nat.le_trans hb15.size hb16.size)).trans (bx18.mono (Nat.le_trans hb15.size (Nat.le_trans hb16.size hb17.size)))))
      rw [← hw18]
      clear hw18
      refine (eqValue_any d A17 A3 c17 c3 w18 hdn (Vs.at_more (Nat.le_refl _) bx18.size _ _ (Vs.at_below L17.out bx18 (Nat.le_refl _))) (Vs.at_more (Nat.le_refl _) b318.size _ _ (Vs.at_below L3.out b318 (Nat.le_refl _)))).mono ?_
      rintro e w19 ⟨rfl, hb19⟩
      clear p0 p1 p2 p3 p4
      have b1419 := b1418.trans (hb19.mono b1418.size)
      have b419 := b418.trans (hb19.mono b418.size)
      have B819 := B814.below b1419 B814.lt
      obtain ⟨q0, q1, q2, q3, q4⟩ := B819.five
      go_wp2_with fail
      refine (heldValue_any d A7 c7 1 w19 F2 d.kids rfl (by omega) hdk (lies_below L14.out b1419 (lies_lt L14.out))).mono ?_
      rintro e w20 ⟨rfl, hb20⟩
      clear q0 q1 q2 q3 q4
      go_wp2_with fail
      go_ret
      exact ⟨rfl, b4.trans ((b419.trans (hb20.mono b419.size)).mono b4.size)⟩
  · have e1 : szR 1048576 t0.weight = -1 := by rw [szR, if_neg (by omega)]
    have HE := Lib.hid e1
    clear e1
    unfold V.agg
    go_enter Try.func8, Try.ntmps8
    go_wp2_with fail
    refine (szValue_any t0 A0 c0 1048576 _ (by omega) (by omega) f0 (Vs.at_more (Nat.le_refl _) (by simp) _ _ (Vs.at_alloc H0.out (Nat.le_refl _) _))).mono ?_
    rintro e w1 ⟨rfl, hb1⟩
    rw [HE.out]
    go_wp2_with fail
    go_ret
    exact ⟨rfl, ((Below.refl _ w).alloc (Nat.le_refl _) _).trans (hb1.mono (by simp))⟩

set_option maxRecDepth 100000 in
theorem lifted (os : Os) (started : os.Started) (H : Type) (enc : TypeId × Value → H) :
    ReturnsInHanded {} Try.checked os 8 .any (Rows.fnExactFieldSpec.pre6 enc Try.prog Try.f8 Rows.fnExactFieldRow.domain false) (Rows.fnExactFieldSpec.post enc Try.prog Try.f8 false true false false) := by
  refine returnsInHanded_of_change (C := Try.checked) own started (by kernel_rfl) Try.func8
    (ChangeSpec.witness6 (enc := enc) (C := Try.checked) false ⟨#[], #[.agg #[.int .i64 0, .int .i64 0, .int .i64 0, .string ByteArray.empty, .slice none 0 0], .string ByteArray.empty], []⟩ 8 (by kernel_rfl) (by kernel_rfl) (by kernel_rfl) (by kernel_rfl)) ?_
  intro W base args ds gs before hval0 hW hcnd _
  have hval : ∀ (j : Nat) t v, Try.f8.params[j]? = some t → args[j]? = some v → Value.okWide Try.prog W .any base t v := hval0
  have hW' := hW
  obtain ⟨p, q, hA0, hV, rfl, hfz, hnd⟩ := hW
  have hA : DataW.TrodAll enc Try.prog W 0 (fun _ => true) true Try.f8.params.toList args.toList ds p := hA0
  rw [Try.params8] at hA hval
  obtain ⟨v0, vs0, d0, ds0, p0, q0, hargs, rfl, rfl, h0, r0⟩ := trodAll_cons hA
  obtain ⟨v1, vs1, d1, ds1, p1, q1, rfl, rfl, rfl, h1, r1⟩ := trodAll_cons r0
  obtain ⟨rfl, rfl, rfl⟩ := trodAll_nil r1
  obtain rfl : args = #[v0, v1] := by cases args; simp_all
  obtain ⟨rfl, rfl⟩ := trodVars_none hV
  have k0 := h0
  have lt0 : ∀ x ∈ p0, x.block < W.heap.size := by obtain ⟨m, hm⟩ := k0; exact DataW.trod_lt m _ _ _ hm
  obtain ⟨t0, A0, c0, rfl, f0, at0⟩ := open_value (hval 0 24 v0 rfl rfl) h0
  obtain ⟨a1, rfl, rfl, rfl, w1⟩ := open_string Try.underlying9 (hval 1 9 v1 rfl rfl) h1
  clear hA0 hval0
  refine (walk t0 A0 c0 f0 a1 W at0 w1).mono fun e W' ⟨he, bel⟩ => ?_
  subst he
  exact ⟨_, rfl, _, _, _, [], _, [], hW', trodAll_mk1 (shut_bool Try.underlying4 _), (trodAll_cons_mk (Below.trod laidOut (by kernel_rfl) (of_decide_eq_true (by kernel_rfl)) k0 bel lt0) (trodAll_cons_mk (shut_string Try.underlying9 w1) trodAll_mk0)), rfl, bel.frame _, fun h => by cases h⟩

theorem over : Rows.fnExactFieldRow.holds Try.pinned (OpenSpec.ofChange Rows.fnExactFieldSpec) :=
  OpenClaim.holds_of_wide 8 Try.f8 rfl rfl rfl rfl rfl rfl rfl ⟨rfl, rfl, rfl, rfl, rfl⟩ rfl rfl rfl rfl rfl (by kernel_rfl) Try.func8 (by kernel_rfl)
    (of_decide_eq_true (by kernel_rfl)) (by unfold Func.isWrapper; first | (rw [if_pos (by decide +kernel)]; kernel_rfl) | (rw [if_neg (by decide +kernel)]; exact ⟨rfl, rfl⟩))
    (fun os started H enc _ => lifted os started H enc)

theorem proved : Rows.FnExactFieldSaid := over
end Go.Proofs.Ytlfiaccpihjldaa.fnExactField
