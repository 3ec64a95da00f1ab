/-
  FnExactNorm returns true for every two numbers; no conditions.
-/
import Derived.Test.YtbflkcldjjpioaaNormS
import Derived.Test.YtbflkcldjjpioaaNormI
import Derived.Test.YtbflkcldjjpioaaHeldV
import Derived.Test.YtbflkcldjjpioaaEq
namespace Go.Proofs.Ytbflkcldjjpioaa.fnExactNorm
open Go.ChangeShapes Go.WideShapes Go.ChangeAt Go.RowKit
open Go.ChangeMaps (open_string shut_string)
set_option linter.unusedVariables false

theorem normD_kids (n e : Int) : (normD n e).kids = [] := by
  unfold normD normR
  split
  · split
    · rfl
    · unfold normV
      split
      · rfl
      · split <;> rfl
  · rfl
set_option maxHeartbeats 8000000 in
theorem walk (a0 : Int) (w0 : (Lit.int .i64 a0).wf = true) (a1 : Int) (w1 : (Lit.int .i64 a1).wf = true) (w : World) :
    Calls Try.prog 3 #[.int .i64 a0, .int .i64 a1] w fun e w' => e = .returned (.bool true) ∧ Below w.heap.size w w' := by
  have hr : inR a0 := by unfold inR; simpa [Lit.wf, IntKind.min, IntKind.max, IntKind.signed, IntKind.bits] using w0
  have cS := fun W => specNorm a0 a1 W hr
  have cI := fun W => implNorm a0 a1 W hr
  unfold NormRet at cS cI
  have hk := normD_kids a0 a1
  obtain ⟨d, hd⟩ : ∃ d, normD a0 a1 = d := ⟨_, rfl⟩
  obtain ⟨bb, hbb⟩ : ∃ bb, normB a0 a1 = bb := ⟨_, rfl⟩
  rw [hd] at cS cI hk
  rw [hbb] at cS cI
  have hbn : (bb != bb) = false := by cases bb <;> rfl
  have hnod : d.nodes ≤ 1048577 := by rw [V.nodes_eq, hk]; simp [Vs.nodes]
  have hdk : 1 + 4 * Vs.nodes d.kids ≤ 10000000 := by rw [hk]; simp [Vs.nodes]
  have hlie : ∀ W : World, Vs.lies W d.kids none [] := fun W => by rw [hk]; exact .inl ⟨rfl, rfl⟩
  have hatt : ∀ W : World, Vs.at_ W 0 W.heap.size d.kids none := fun W => by rw [hk]; simp [Vs.at_]
  have HL := Lib.hid hlie
  have HAT := Lib.hid hatt
  have HCS := Lib.hid cS
  have HCI := Lib.hid cI
  clear hd hbb cS cI hk hlie hatt w0 w1
  go_enter Try.func3, Try.ntmps3
  go_wp2_with fail
  refine (HCS.out w).mono ?_
  rintro e w1 ⟨rfl, hb1⟩
  unfold V.agg
  go_wp2_with fail
  obtain ⟨w2, hw2⟩ : ∃ w2, w2 = w1.alloc (.cells #[.int .i64 d.k, .int .i64 d.n, .int .i64 d.e, .string d.s, .slice none d.kids.length 0] 24) := ⟨_, rfl⟩
  have B2 : Blk w2 w1.heap.size 24 #[.int .i64 d.k, .int .i64 d.n, .int .i64 d.e, .string d.s, .slice none d.kids.length 0] := by rw [hw2]; exact Blk.new w1 _ _
  have bx2 : Below w1.heap.size w1 w2 := by rw [hw2]; exact (Below.refl _ w1).alloc (Nat.le_refl _) _
  rw [← hw2]
  clear hw2
  refine (HCI.out w2).mono ?_
  rintro e w3 ⟨rfl, hb3⟩
  have b02 := hb1.trans (bx2.mono hb1.size)
  have b03 := b02.trans (hb3.mono b02.size)
  have B3 := B2.below hb3 B2.lt
  have lt2 := B2.lt
  clear B2
  unfold V.agg
  obtain ⟨p0, p1, p2, p3, p4⟩ := B3.five
  have ltx3 := B3.lt
  go_wp2_with fail
  obtain ⟨w4, hw4⟩ : ∃ w4, w4 = w3.alloc (.cells #[.int .i64 d.k, .int .i64 d.n, .int .i64 d.e, .string d.s, .slice none d.kids.length 0] 24) := ⟨_, rfl⟩
  have G4 : Blk w4 w3.heap.size 24 #[.int .i64 d.k, .int .i64 d.n, .int .i64 d.e, .string d.s, .slice none d.kids.length 0] := by rw [hw4]; exact Blk.new w3 _ _
  have bx4 : Below w3.heap.size w3 w4 := by rw [hw4]; exact (Below.refl _ w3).alloc (Nat.le_refl _) _
  rw [← hw4]
  clear hw4
  have s24 : w2.heap.size ≤ w4.heap.size := Nat.le_trans hb3.size bx4.size
  have b24 : Below w2.heap.size w2 w4 := hb3.trans (bx4.mono hb3.size)
  have b04 := b02.trans (b24.mono b02.size)
  have B4 := B3.below bx4 B3.lt
  have lt4 := G4.lt
  have HB2 := Lib.hid B4
  have HG := Lib.hid G4
  clear B3 hb3 bx4 p0 p1 p2 p3 p4
  refine (eqValue_any d none none 0 0 w4 hnod (HAT.out w4) (HAT.out w4)).mono ?_
  rintro e w5 ⟨rfl, hb5⟩
  have b25 := b24.trans (hb5.mono s24)
  have b05 := b04.trans (hb5.mono b04.size)
  obtain ⟨p0, p1, p2, p3, p4⟩ := (HB2.out.below hb5 HB2.out.lt).five
  obtain ⟨q0, q1, q2, q3, q4⟩ := (HG.out.below hb5 lt4).five
  go_wp2_with fail
  refine (markValue_any d none 0 1 w5 [] (by omega) hdk (HL.out w5) List.nodup_nil).mono ?_
  rintro e w6 ⟨rfl, hl6, ht6⟩
  have b26 := b25.trans (ht6.below b25.size (fun c hc => by cases hc))
  have b06 := b02.trans (b26.mono b02.size)
  have hb46 : Below w4.heap.size w4 w6 := hb5.trans (ht6.below hb5.size (fun c hc => by cases hc))
  have L6 := Lib.hid hl6
  clear p0 p1 p2 p3 p4 q0 q1 q2 q3 q4 hl6 ht6
  obtain ⟨p0, p1, p2, p3, p4⟩ := (HB2.out.below hb46 HB2.out.lt).five
  obtain ⟨q0, q1, q2, q3, q4⟩ := (HG.out.below hb46 lt4).five
  go_wp2_with fail
  refine (heldValue_any d none 0 1 w6 [] d.kids rfl (by omega) hdk L6.out).mono ?_
  rintro e w7 ⟨rfl, hb7⟩
  have b07 := b06.trans (hb7.mono b06.size)
  have b47 := hb46.trans (hb7.mono hb46.size)
  clear p0 p1 p2 p3 p4 q0 q1 q2 q3 q4
  go_wp2_with fail
  refine (HCI.out w7).mono ?_
  rintro e w8 ⟨rfl, hb8⟩
  have b08 := b07.trans (hb8.mono b07.size)
  have b48 := b47.trans (hb8.mono b47.size)
  have b68 := hb7.trans (hb8.mono hb7.size)
  unfold V.agg
  obtain ⟨p0, p1, p2, p3, p4⟩ := (HB2.out.below b48 HB2.out.lt).five
  have lt8 : w1.heap.size < w8.heap.size := Nat.lt_of_lt_of_le HB2.out.lt b48.size
  go_wp2_with fail
  obtain ⟨w9, hw9⟩ : ∃ w9, w9 = w8.alloc (.cells #[.int .i64 d.k, .int .i64 d.n, .int .i64 d.e, .string d.s, .slice none d.kids.length 0] 24) := ⟨_, rfl⟩
  have H9 : Blk w9 w8.heap.size 24 #[.int .i64 d.k, .int .i64 d.n, .int .i64 d.e, .string d.s, .slice none d.kids.length 0] := by rw [hw9]; exact Blk.new w8 _ _
  have bx9 : Below w8.heap.size w8 w9 := by rw [hw9]; exact (Below.refl _ w8).alloc (Nat.le_refl _) _
  have b09 := b08.trans (bx9.mono b08.size)
  have b49 := b48.trans (bx9.mono b48.size)
  have b69 := b68.trans (bx9.mono b68.size)
  rw [← hw9]
  clear hw9
  clear p0 p1 p2 p3 p4
  obtain ⟨p0, p1, p2, p3, p4⟩ := (HB2.out.below b49 HB2.out.lt).five
  obtain ⟨r0, r1, r2, r3, r4⟩ := H9.five
  refine (eqValue_any d none none 0 0 w9 hnod (HAT.out w9) (HAT.out w9)).mono ?_
  rintro e w10 ⟨rfl, hb10⟩
  have b010 := b09.trans (hb10.mono b09.size)
  have b410 := b49.trans (hb10.mono b49.size)
  have b610 := b69.trans (hb10.mono b69.size)
  clear p0 p1 p2 p3 p4 r0 r1 r2 r3 r4
  obtain ⟨q0, q1, q2, q3, q4⟩ := (HG.out.below b410 lt4).five
  go_wp2_with fail
  refine (heldValue_any d none 0 1 w10 [] d.kids rfl (by omega) hdk (lies_below L6.out b610 (fun c hc => by cases hc))).mono ?_
  rintro e w11 ⟨rfl, hb11⟩
  clear q0 q1 q2 q3 q4
  go_wp2_with fail
  go_ret
  exact ⟨rfl, b010.trans (hb11.mono b010.size)⟩

set_option maxRecDepth 100000 in
theorem lifted (os : Os) (started : os.Started) (H : Type) (enc : TypeId × Value → H) :
    ReturnsInHanded {} Try.checked os 3 .any (Rows.fnExactNormSpec.pre6 enc Try.prog Try.f3 Rows.fnExactNormRow.domain false) (Rows.fnExactNormSpec.post enc Try.prog Try.f3 false true false false) := by
  refine returnsInHanded_of_change (C := Try.checked) own started (by kernel_rfl) Try.func3
    (ChangeSpec.witness6 (enc := enc) (C := Try.checked) false ⟨#[], #[.int .i64 0, .int .i64 0], []⟩ 8 (by kernel_rfl) (by kernel_rfl) (by kernel_rfl) (by kernel_rfl)) ?_
  intro W base args ds gs before hval0 hW hcnd _
  have hval : ∀ (j : Nat) t v, Try.f3.params[j]? = some t → args[j]? = some v → Value.okWide Try.prog W .any base t v := hval0
  have hW' := hW
  obtain ⟨p, q, hA0, hV, rfl, hfz, hnd⟩ := hW
  have hA : DataW.TrodAll enc Try.prog W 0 (fun _ => true) true Try.f3.params.toList args.toList ds p := hA0
  rw [Try.params3] at hA hval
  obtain ⟨v0, vs0, d0, ds0, p0, q0, hargs, rfl, rfl, h0, r0⟩ := trodAll_cons hA
  obtain ⟨v1, vs1, d1, ds1, p1, q1, rfl, rfl, rfl, h1, r1⟩ := trodAll_cons r0
  obtain ⟨rfl, rfl, rfl⟩ := trodAll_nil r1
  obtain rfl : args = #[v0, v1] := by cases args; simp_all
  obtain ⟨rfl, rfl⟩ := trodVars_none hV
  obtain ⟨a0, rfl, rfl, rfl, w0⟩ := open_int Try.underlying3 (hval 0 3 v0 rfl rfl) h0
  obtain ⟨a1, rfl, rfl, rfl, w1⟩ := open_int Try.underlying3 (hval 1 3 v1 rfl rfl) h1
  clear hA0 hval0
  refine (walk a0 w0 a1 w1 W).mono fun e W' ⟨he, bel⟩ => ?_
  subst he
  exact ⟨_, rfl, _, _, _, [], _, [], hW', trodAll_mk1 (shut_bool Try.underlying4 _), (trodAll_cons_mk (shut_int Try.underlying3 w0) (trodAll_cons_mk (shut_int Try.underlying3 w1) trodAll_mk0)), rfl, bel.frame _, fun h => by cases h⟩

theorem over : Rows.fnExactNormRow.holds Try.pinned (OpenSpec.ofChange Rows.fnExactNormSpec) :=
  OpenClaim.holds_of_wide 3 Try.f3 rfl rfl rfl rfl rfl rfl rfl ⟨rfl, rfl, rfl, rfl, rfl⟩ rfl rfl rfl rfl rfl (by kernel_rfl) Try.func3 (by kernel_rfl)
    (of_decide_eq_true (by kernel_rfl)) (by unfold Func.isWrapper; first | (rw [if_pos (by decide +kernel)]; kernel_rfl) | (rw [if_neg (by decide +kernel)]; exact ⟨rfl, rfl⟩))
    (fun os started H enc _ => lifted os started H enc)

theorem proved : Rows.FnExactNormSaid := over
end Go.Proofs.Ytbflkcldjjpioaa.fnExactNorm
