/-
  FnExactCut returns true for every text and every slice of numbers; they read as they did; no conditions.
-/
import Derived.Test.YtmfogabkpeoagaaCutI
import Derived.Test.YtmfogabkpeoagaaToI
namespace Go.Proofs.Ytmfogabkpeoagaa.fnExactCut
open Go.ChangeShapes Go.WideShapes Go.ChangeAt Go.RowKit
open Go.ChangeMaps (open_string shut_string)
set_option linter.unusedVariables false

set_option maxHeartbeats 2000000 in
theorem walk (a0 : ByteArray) (t1 : List Int) (A1 : Option Addr) (c1 : Nat) (f1 : t1.length ≤ maxLen) (g1 : ∀ z ∈ t1, (Lit.int .i64 z).wf = true) (w : World) (w0 : a0.size ≤ maxLen) (at1 : At1 w w.heap.size A1 (t1.map (Value.int .i64))) :
    Calls Try.prog 3 #[.string a0, .slice A1 t1.length c1] w fun e w' => e = .returned (.bool true) ∧ Below w.heap.size w w' := by
  unfold maxLen at w0 f1
  have hw : ∀ z ∈ t1, -9223372036854775808 ≤ z ∧ z ≤ 9223372036854775807 := fun z hz => by simpa [Lit.wf, IntKind.min, IntKind.max, IntKind.signed, IntKind.bits] using g1 z hz
  have HA := Lib.hid (show At1 w w.heap.size A1 (t1.map iz) from at1)
  have HW := Lib.hid hw
  clear at1 hw g1
  by_cases h : 1048576 < a0.size
  · go_enter Try.func3, Try.ntmps3
    go_wp2_with fail
    go_ret
    exact ⟨rfl, Below.refl _ _⟩
  by_cases h2 : 1048576 < t1.length
  · go_enter Try.func3, Try.ntmps3
    go_wp2_with fail
    go_ret
    exact ⟨rfl, Below.refl _ _⟩
  have hs : a0.size ≤ 1048576 := by omega
  have hn1 : t1.length ≤ 1048576 := by omega
  have hll := cutL_len t1 a0
  obtain ⟨l, hl⟩ : ∃ l, cutL a0 t1 = l := ⟨_, rfl⟩
  have cS := fun A c W h => specCut a0 t1 A c W hs hn1 HW.out h
  have cI := fun A c W h => implCut a0 t1 A c W hs hn1 HW.out h
  rw [hl] at cS cI hll
  have hn : l.length ≤ 10000000 := by omega
  have HCS := Lib.hid cS
  have HCI := Lib.hid cI
  have hn7 : t1.length ≤ 10000000 := by omega
  have hmap : (t1.map iz).length = t1.length := List.length_map _
  have HMP := Lib.hid hmap
  clear hl cS cI hll hmap
  go_enter Try.func3, Try.ntmps3
  go_wp2_with fail
  refine (toIntRow t1 A1 c1 w hn1 HA.out).mono ?_
  rintro e w1 ⟨p0, rfl, hp0, hb1⟩
  obtain ⟨Ap, cp, rfl⟩ := own_slice hp0
  have P0 := Lib.hid (At1.own hp0)
  clear hp0
  go_wp2_with fail
  refine (HCS.out Ap cp w1 P0.out).mono ?_
  rintro e w2 ⟨o0, rfl, hr0, hb2⟩
  have R0 := Lib.hid hr0
  have b02 := hb1.trans (hb2.mono hb1.size)
  clear hr0
  go_wp2_with fail
  refine (toIntRow t1 A1 c1 w2 hn1 ((HA.out.below b02 (Nat.le_refl _)).more b02.size)).mono ?_
  rintro e w3 ⟨p1, rfl, hp1, hb3⟩
  obtain ⟨Aq, cq, rfl⟩ := own_slice hp1
  have Q := Lib.hid hp1
  have Q0 := Lib.hid (At1.own hp1)
  clear hp1
  go_wp2_with fail
  refine (HCI.out Aq cq w3 Q0.out).mono ?_
  rintro e w4 ⟨o1, rfl, hr1, hb4⟩
  have R1 := Lib.hid hr1
  have b24 := hb3.trans (hb4.mono hb3.size)
  clear hr1
  go_wp2_with fail
  refine (eqRow l o1 o0 _ _ w4 hn R1.out (own_below' R0.out (Nat.le_refl _) b24)).mono ?_
  rintro e w5 ⟨rfl, hb5⟩
  have b25 := b24.trans (hb5.mono b24.size)
  have b35 := hb4.trans (hb5.mono hb4.size)
  have b05 := b02.trans (b25.mono b02.size)
  go_wp2_with fail
  refine (toIntRow t1 A1 c1 w5 hn1 ((HA.out.below b05 (Nat.le_refl _)).more b05.size)).mono ?_
  rintro e w6 ⟨p2, rfl, hp2, hb6⟩
  have b36 := b35.trans (hb6.mono b35.size)
  have b26 := b25.trans (hb6.mono b25.size)
  have P2 := Lib.hid hp2
  clear hp2
  go_wp2_with fail
  refine (eqIntRow t1 (.slice Aq t1.length cq) p2 _ _ w6 hn7 (own_below' Q.out (Nat.le_refl _) b36) P2.out).mono ?_
  rintro e w7 ⟨rfl, hb7⟩
  have b37 := b36.trans (hb7.mono b36.size)
  have b27 := b26.trans (hb7.mono b26.size)
  have b47 := hb5.trans ((hb6.mono hb5.size).trans (hb7.mono (Nat.le_trans hb5.size hb6.size)))
  go_wp2_with fail
  have z27 : w2.heap.size ≤ w7.heap.size := b27.size
  refine (markIntRow t1.length 1 (.slice Aq t1.length cq) w2.heap.size w7 _ hn7 (by omega) z27 (own_below' Q.out (Nat.le_refl _) b37)).mono ?_
  rintro e w8 ⟨rfl, hr8, hb8, hg8⟩
  have b28 := b27.trans hb8
  have hqr : ∀ g, o1.ownBlock = some g → some g ≠ (Value.slice Aq t1.length cq).ownBlock := fun g h1 h2 => by
    have k1 := (R1.out.lt g h1).1
    have k2 := (Q.out.lt g h2.symm).2
    omega
  have r18 := own_grown (own_below' R1.out (Nat.le_refl _) b47) hg8 hqr
  have R18 := Lib.hid r18
  clear r18 hr8 hg8 hqr
  go_wp2_with fail
  refine (eqRow l o1 o0 _ _ w8 hn R18.out (own_below' R0.out (Nat.le_refl _) b28)).mono ?_
  rintro e w9 ⟨rfl, hb9⟩
  have b29 := b28.trans (hb9.mono b28.size)
  have z23 : w2.heap.size ≤ w3.heap.size := hb3.size
  have z29 : w3.heap.size ≤ w9.heap.size := Nat.le_trans b37.size (Nat.le_trans hb8.size hb9.size)
  go_wp2_with fail
  refine (markRow l.length 1 o1 w3.heap.size w9 _ hn (by omega) (by omega) z29 (own_below' R18.out (Nat.le_refl _) hb9)).mono ?_
  rintro e w10 ⟨rfl, hr10, hb10⟩
  have R10 := Lib.hid hr10
  have b210 := b29.trans (hb10.mono z23)
  clear hr10
  go_wp2_with fail
  refine (heldRow l.length 1 o1 w3.heap.size w10 hn (by omega) (by omega) R10.out).mono ?_
  rintro e w11 ⟨rfl, hb11⟩
  have b211 := b210.trans (hb11.mono b210.size)
  have b011 := b02.trans (b211.mono b02.size)
  go_wp2_with fail
  refine (toIntRow t1 A1 c1 w11 hn1 ((HA.out.below b011 (Nat.le_refl _)).more b011.size)).mono ?_
  rintro e w12 ⟨p3, rfl, hp3, hb12⟩
  obtain ⟨Ar, cr, rfl⟩ := own_slice hp3
  have P3 := Lib.hid (At1.own hp3)
  have b212 := b211.trans (hb12.mono b211.size)
  clear hp3
  go_wp2_with fail
  refine (HCI.out Ar cr w12 P3.out).mono ?_
  rintro e w13 ⟨o2, rfl, hr13, hb13⟩
  have R13 := Lib.hid hr13
  have b213 := b212.trans (hb13.mono b212.size)
  clear hr13
  go_wp2_with fail
  refine (eqRow l o2 o0 _ _ w13 hn R13.out (own_below' R0.out (Nat.le_refl _) b213)).mono ?_
  rintro e w14 ⟨rfl, hb14⟩
  have b214 := b213.trans (hb14.mono b213.size)
  have b1014 := hb11.trans ((hb12.mono hb11.size).trans ((hb13.mono (Nat.le_trans hb11.size hb12.size)).trans (hb14.mono (Nat.le_trans hb11.size (Nat.le_trans hb12.size hb13.size)))))
  go_wp2_with fail
  refine (heldRow l.length 1 o1 w3.heap.size w14 hn (by omega) (by omega) (own_below' R10.out (Nat.le_refl _) b1014)).mono ?_
  rintro e w15 ⟨rfl, hb15⟩
  go_wp2_with fail
  go_ret
  exact ⟨rfl, b02.trans ((b214.trans (hb15.mono b214.size)).mono b02.size)⟩

set_option maxRecDepth 100000 in
theorem lifted (os : Os) (started : os.Started) (H : Type) (enc : TypeId × Value → H) :
    ReturnsInHanded {} Try.checked os 3 .any (Rows.fnExactCutSpec.pre6 enc Try.prog Try.f3 Rows.fnExactCutRow.domain false) (Rows.fnExactCutSpec.post enc Try.prog Try.f3 false true false false) := by
  refine returnsInHanded_of_change (C := Try.checked) own started (by kernel_rfl) Try.func3
    (ChangeSpec.witness6 (enc := enc) (C := Try.checked) false ⟨#[], #[.string ByteArray.empty, .slice none 0 0], []⟩ 8 (by kernel_rfl) (by kernel_rfl) (by kernel_rfl) (by kernel_rfl)) ?_
  intro W base args ds gs before hval0 hW hcnd _
  have hval : ∀ (j : Nat) t v, Try.f3.params[j]? = some t → args[j]? = some v → Value.okWide Try.prog W .any base t v := hval0
  have hW' := hW
  obtain ⟨p, q, hA0, hV, rfl, hfz, hnd⟩ := hW
  have hA : DataW.TrodAll enc Try.prog W 0 (fun _ => true) true Try.f3.params.toList args.toList ds p := hA0
  rw [Try.params3] at hA hval
  obtain ⟨v0, vs0, d0, ds0, p0, q0, hargs, rfl, rfl, h0, r0⟩ := trodAll_cons hA
  obtain ⟨v1, vs1, d1, ds1, p1, q1, rfl, rfl, rfl, h1, r1⟩ := trodAll_cons r0
  obtain ⟨rfl, rfl, rfl⟩ := trodAll_nil r1
  obtain rfl : args = #[v0, v1] := by cases args; simp_all
  obtain ⟨rfl, rfl⟩ := trodVars_none hV
  obtain ⟨a0, rfl, rfl, rfl, w0⟩ := open_string Try.underlying9 (hval 0 9 v0 rfl rfl) h0
  have k1 := h1
  have lt1 : ∀ x ∈ p1, x.block < W.heap.size := by obtain ⟨m, hm⟩ := k1; exact DataW.trod_lt m _ _ _ hm
  obtain ⟨t1, A1, c1, rfl, f1, g1, at1⟩ := open_kind Try.underlying22 Try.underlying3 (by kernel_rfl) (hval 1 22 v1 rfl rfl) h1
  clear hA0 hval0
  refine (walk a0 t1 A1 c1 f1 g1 W w0 at1).mono fun e W' ⟨he, bel⟩ => ?_
  subst he
  exact ⟨_, rfl, _, _, _, [], _, [], hW', trodAll_mk1 (shut_bool Try.underlying4 _), (trodAll_cons_mk (shut_string Try.underlying9 w0) (trodAll_cons_mk (Below.trod laidOut (by kernel_rfl) (of_decide_eq_true (by kernel_rfl)) k1 bel lt1) trodAll_mk0)), rfl, bel.frame _, fun h => by cases h⟩

theorem over : Rows.fnExactCutRow.holds Try.pinned (OpenSpec.ofChange Rows.fnExactCutSpec) :=
  OpenClaim.holds_of_wide 3 Try.f3 rfl rfl rfl rfl rfl rfl rfl ⟨rfl, rfl, rfl, rfl, rfl⟩ rfl rfl rfl rfl rfl (by kernel_rfl) Try.func3 (by kernel_rfl)
    (of_decide_eq_true (by kernel_rfl)) (by unfold Func.isWrapper; first | (rw [if_pos (by decide +kernel)]; kernel_rfl) | (rw [if_neg (by decide +kernel)]; exact ⟨rfl, rfl⟩))
    (fun os started H enc _ => lifted os started H enc)

theorem proved : Rows.FnExactCutSaid := over
end Go.Proofs.Ytmfogabkpeoagaa.fnExactCut
