/-
  FnExactPutPath returns true for every slice of texts; it reads as it did; no conditions.
-/
import Derived.Test.YtlgonfdodmipeaaDoorPathS
import Derived.Test.YtlgonfdodmipeaaDoorPathI
import Derived.Test.YtlgonfdodmipeaaDoorShelfS
import Derived.Test.YtlgonfdodmipeaaDoorToS
import Derived.Test.YtlgonfdodmipeaaDoorShaped
import Derived.Test.YtlgonfdodmipeaaDoorLaid
import Derived.Test.YtlgonfdodmipeaaDoorCards
import Derived.Test.YtlgonfdodmipeaaDoorTie
import Derived.Lay
import Derived.LaidOnce
import Derived.SevenTiedAt
namespace Go.Proofs.YtlgonfdodmipeaaDoor.fnExactPutPath
open Go.ChangeShapes Go.WideShapes Go.ChangeAt Go.RowKit
open Go.ChangeMaps (open_string shut_string)
set_option linter.unusedVariables false

set_option maxHeartbeats 2000000 in
theorem walk (t0 : List ByteArray) (A0 : Option Addr) (c0 : Nat) (f0 : t0.length ≤ maxLen) (g0 : ∀ s ∈ t0, s.size ≤ maxLen) (w : World) (at0 : At1 w w.heap.size A0 (t0.map Value.string)) (hT : Tabs w) (hM : MXL w) :
    Calls Tryd.prog 5 #[.slice A0 t0.length c0] w fun e w' => e = .returned (.bool true) ∧ Below w.heap.size w w' := by
  have HA := Lib.hid at0
  have HT := Lib.hid hT
  have HM := Lib.hid hM
  have HF := Lib.hid f0
  have HG := Lib.hid g0
  clear at0 hT hM f0 g0
  go_enter Tryd.func5, Tryd.ntmps5
  go_wp2_with fail
  refine (szStringRow t0 A0 c0 w HF.out HG.out HA.out).mono ?_
  rintro e w1 ⟨⟨r, rfl, hr⟩, hb1⟩
  have HR := Lib.hid hr
  clear hr
  by_cases hneg : r < 0
  · go_wp2_with fail
    go_ret
    exact ⟨rfl, hb1⟩
  obtain ⟨hl, hs⟩ := HR.out hneg
  have HS := Lib.hid hs
  have hl2 : t0.length ≤ 10000000 := by omega
  clear hs
  go_wp2_with fail
  refine (toStringRow t0 A0 c0 w1 hl (HA.out.below hb1 (Nat.le_refl _) |>.more hb1.size)).mono ?_
  rintro e w2 ⟨o1, rfl, r1, hb2⟩
  have b2 := hb1.trans (hb2.mono hb1.size)
  obtain ⟨B1, d1, rfl, _⟩ := row_form r1
  have A1 := At1.own r1
  clear r1
  go_wp2_with fail
  refine (specPutPath t0 B1 d1 w2 hl HS.out A1).mono ?_
  rintro e w3 ⟨rfl, hb3⟩
  have b3 := b2.trans (hb3.mono b2.size)
  clear A1
  go_wp2_with fail
  refine (toStringRow t0 A0 c0 w3 hl (HA.out.below b3 (Nat.le_refl _) |>.more b3.size)).mono ?_
  rintro e w4 ⟨o2, rfl, r2, hb4⟩
  have b4 := b3.trans (hb4.mono b3.size)
  obtain ⟨B2, d2, rfl, _⟩ := row_form r2
  have A2 := At1.own r2
  have R2 := Lib.hid r2
  clear r2
  go_wp2_with fail
  refine (implPutPath t0 B2 d2 w4 hl HS.out (HT.out.below b4) (HM.out.below b4 (Nat.le_refl _)) A2).mono ?_
  rintro e w5 ⟨rfl, hb5⟩
  have b5 := b4.trans (hb5.mono b4.size)
  clear A2
  go_wp2_with fail
  refine (toStringRow t0 A0 c0 w5 hl (HA.out.below b5 (Nat.le_refl _) |>.more b5.size)).mono ?_
  rintro e w6 ⟨o3, rfl, r3, hb6⟩
  have b6 := b5.trans (hb6.mono b5.size)
  have R3 := Lib.hid r3
  clear r3
  go_wp2_with fail
  refine (eqRow t0 _ o3 _ _ w6 hl2 (own_below' (own_below' R2.out (Nat.le_refl _) hb5) (Nat.le_refl _) hb6) R3.out).mono ?_
  rintro e w7 ⟨rfl, hb7⟩
  have b7 := b6.trans (hb7.mono b6.size)
  go_wp2_with fail
  go_ret
  exact ⟨rfl, b7⟩

set_option maxRecDepth 100000 in
theorem lifted (os : Os) (started : os.Started) (H : Type) (enc : TypeId × Value → H) :
    ReturnsInHanded {} Tryd.checked os 5 .any (fun w args => (Rows.fnExactPutPathSpec.pre enc Tryd.prog Tryd.f5 [] false w args ∧ laidMetH Tryd.prog Rows.fnExactPutPathRow.laid w) ∧ sizedMet enc Tryd.prog Tryd.f5 (OpenSpec.ofChange Rows.fnExactPutPathSpec) false w args)
      (Rows.fnExactPutPathSpec.post enc Tryd.prog Tryd.f5 false true false false) := by
  refine handed_shaped (C := Tryd.checked) (X := fun w _ => laidMetH Tryd.prog Rows.fnExactPutPathRow.laid w) (fun _ _ _ hh h => h.of_heap hh) own started (by kernel_rfl) Tryd.func5
    (ChangeSpec.witness_shaped (enc := enc) (C := Tryd.checked) (os := os) (X := fun w _ => laidMetH Tryd.prog Rows.fnExactPutPathRow.laid w) false (World.laidAll Tryd.prog os Rows.fnExactPutPathRow.laid) #[.slice none 0 0] 8 (World.laidAll_os _ _ _)
      (World.shaped_of_ZipB (by kernel_rfl) (by kernel_rfl)) (by kernel_rfl) (by kernel_rfl) (by kernel_rfl)
      (by rw [MakeChecks.laidMetH_plain _ _ _ (by kernel_rfl)]; exact laidMet_laidAll _ (by kernel_rfl) (by kernel_rfl))) ?_
  intro W base args ds gs before hval0 hW _ _ hL hsh _
  rw [MakeChecks.laidMetH_plain _ _ _ (by kernel_rfl)] at hL
  have hT : Tabs W := tabs_of_laid hL (.head _) (.tail _ (.head _))
  have hM : MXL W := Tryd.maxLen_shape W hsh
  have hval : ∀ (j : Nat) t v, Tryd.f5.params[j]? = some t → args[j]? = some v → Value.okWide Tryd.prog W .any base t v := hval0
  have hW' := hW
  obtain ⟨p, q, hA0, hV, rfl, hfz, hnd⟩ := hW
  have hA : DataW.TrodAll enc Tryd.prog W 0 (fun _ => true) true Tryd.f5.params.toList args.toList ds p := hA0
  rw [Tryd.params5] at hA hval
  obtain ⟨v0, vs0, d0, ds0, p0, q0, hargs, rfl, rfl, h0, r0⟩ := trodAll_cons hA
  obtain ⟨rfl, rfl, rfl⟩ := trodAll_nil r0
  obtain rfl : args = #[v0] := by cases args; simp_all
  obtain ⟨rfl, rfl⟩ := trodVars_none hV
  have k0 := h0
  have lt0 : ∀ x ∈ p0, x.block < W.heap.size := by obtain ⟨m, hm⟩ := k0; exact DataW.trod_lt m _ _ _ hm
  obtain ⟨t0, A0, c0, rfl, f0, g0, at0⟩ := open_row Tryd.underlying37 Tryd.underlying9 (by kernel_rfl) (hval 0 37 v0 rfl rfl) h0
  clear hA0 hval0
  refine (walk t0 A0 c0 f0 g0 W at0 hT hM).mono fun e W' ⟨he, bel⟩ => ?_
  subst he
  exact ⟨_, rfl, _, _, _, [], _, [], hW', trodAll_mk1 (shut_bool Tryd.underlying4 _), (trodAll_cons_mk (Below.trod laidOut (by kernel_rfl) (of_decide_eq_true (by kernel_rfl)) k0 bel lt0) trodAll_mk0), rfl, bel.frame _, fun h => by cases h⟩

theorem over : Rows.fnExactPutPathRow.holds Tryd.pinned (OpenSpec.ofChange Rows.fnExactPutPathSpec) :=
  OpenClaim.holds_of_wide 5 Tryd.f5 rfl rfl rfl rfl rfl rfl rfl ⟨rfl, rfl, rfl, rfl, rfl⟩ rfl rfl rfl rfl rfl (by kernel_rfl) Tryd.func5 (by kernel_rfl)
    (of_decide_eq_true (by kernel_rfl)) (by unfold Func.isWrapper; first | (rw [if_pos (by decide +kernel)]; kernel_rfl) | (rw [if_neg (by decide +kernel)]; exact ⟨rfl, rfl⟩))
    (fun os started H enc _ => lifted os started H enc)

theorem proved : Rows.FnExactPutPathCardSaid :=
  Claim7.holds_tied_plain_at .later [] _ _ _ _ over (fun _ h => by cases h) (by kernel_rfl) (fun _ h => by cases h) fnExactPutPath_row_tie rfl ⟨rfl, rfl⟩ (by kernel_rfl) rfl
    (fun f fn hf hfn => by
      obtain rfl : f = 5 := Option.some.inj ((show Tryd.prog.funcNamed "loop.example/g00421/laws.FnExactPutPath" = some 5 by kernel_rfl).symm.trans hf) |>.symm
      obtain rfl : fn = Tryd.f5 := (Option.some.inj (Tryd.func5.symm.trans hfn)).symm
      exact ⟨by kernel_rfl, fun j t ht => by
        rw [Tryd.params5] at ht
        have hm : t ∈ [37] := by simpa using Array.mem_of_getElem? ht
        have hall : ([37].all fun u => !Tryd.prog.wantsStandIn u) = true := by kernel_rfl
        exact (show Tryd.prog.wantsStandIn t = false by simpa using List.all_eq_true.1 hall t hm)⟩)
    (by kernel_rfl)
end Go.Proofs.YtlgonfdodmipeaaDoor.fnExactPutPath
