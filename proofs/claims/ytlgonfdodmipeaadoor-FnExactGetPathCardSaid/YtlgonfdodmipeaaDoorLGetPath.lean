/-
  FnExactGetPath returns true for every text; it reads as it did; no conditions.
-/
import Derived.Test.YtlgonfdodmipeaaDoorGpS
import Derived.Test.YtlgonfdodmipeaaDoorGpI
import Derived.Test.YtlgonfdodmipeaaDoorShaped
import Derived.Test.YtlgonfdodmipeaaDoorLaid
import Derived.Test.YtlgonfdodmipeaaDoorCards
import Derived.Test.YtlgonfdodmipeaaDoorTie
import Derived.Lay
import Derived.LaidOnce
import Derived.SevenTiedAt
namespace Go.Proofs.YtlgonfdodmipeaaDoor.fnExactGetPath
open Go.ChangeShapes Go.WideShapes Go.ChangeAt Go.RowKit
open Go.ChangeMaps (open_string shut_string)
set_option linter.unusedVariables false

set_option maxHeartbeats 2000000 in
theorem walk (a0 : ByteArray) (w0 : a0.size ≤ maxLen) (w : World) (hT : Tabs w) (hM : MXL w) :
    Calls Tryd.prog 6 #[.string a0] w fun e w' => e = .returned (.bool true) ∧ Below w.heap.size w w' := by
  unfold maxLen at w0
  by_cases h : 1048576 < a0.size
  · go_enter Tryd.func6, Tryd.ntmps6
    go_wp2_with fail
    go_ret
    exact ⟨rfl, Below.refl _ _⟩
  have hs : a0.size ≤ 1048576 := by omega
  have hn : (gpR a0).length ≤ 10000000 := by
    unfold gpR
    split
    · rw [steps_raw, List.length_map]
      have := raw_len a0
      omega
    · simp
  have HCS := Lib.hid (fun W => specGetPath a0 W hs)
  have HCI := Lib.hid (fun W hT hM => implGetPath a0 W hs hT hM)
  have HM := Lib.hid hM
  have HT := Lib.hid hT
  clear hM hT
  obtain ⟨ok, hok⟩ : ∃ ok, gpOk a0 = ok := ⟨_, rfl⟩
  obtain ⟨l, hl⟩ : ∃ l, gpR a0 = l := ⟨_, rfl⟩
  rw [hl] at hn
  rw [hl, hok] at HCS HCI
  have q : (ok != ok) = false := by simp
  clear hok hl
  go_enter Tryd.func6, Tryd.ntmps6
  go_wp2_with fail
  refine (HCS.out w).mono ?_
  rintro e w1 ⟨o0, rfl, hr0, hb1⟩
  have R0 := Lib.hid hr0
  clear hr0
  go_wp2_with fail
  refine (HCI.out w1 (HT.out.below hb1) (HM.out.below hb1 (Nat.le_refl _))).mono ?_
  rintro e w2 ⟨o1, rfl, hr1, hb2⟩
  have R1 := Lib.hid hr1
  clear hr1
  go_wp2_with fail
  refine (eqG l o1 o0 _ _ w2 hn R1.out (own_below' R0.out (Nat.le_refl _) hb2)).mono ?_
  rintro e w3 ⟨rfl, hb3⟩
  have b13 := hb2.trans (hb3.mono hb2.size)
  go_wp2_with fail
  have z13 : w1.heap.size ≤ w3.heap.size := b13.size
  refine (markG l o1 w1.heap.size w3 hn z13 (R1.out.below (Nat.le_refl _) hb3)).mono ?_
  rintro e w4 ⟨rfl, hr4, hb4⟩
  have R4 := Lib.hid hr4
  have b14 := b13.trans hb4
  clear hr4
  go_wp2_with fail
  refine (heldG l.length o1 w1.heap.size w4 hn R4.out).mono ?_
  rintro e w5 ⟨rfl, hb5⟩
  have b15 := b14.trans (hb5.mono b14.size)
  go_wp2_with fail
  refine (HCI.out w5 (HT.out.below (hb1.trans (b15.mono hb1.size))) (HM.out.below (hb1.trans (b15.mono hb1.size)) (Nat.le_refl _))).mono ?_
  rintro e w6 ⟨o2, rfl, hr6, hb6⟩
  have R6 := Lib.hid hr6
  have b16 := b15.trans (hb6.mono b15.size)
  have b46 := hb5.trans (hb6.mono hb5.size)
  clear hr6
  go_wp2_with fail
  refine (eqG l o2 o0 _ _ w6 hn R6.out (own_below' R0.out (Nat.le_refl _) b16)).mono ?_
  rintro e w7 ⟨rfl, hb7⟩
  have b17 := b16.trans (hb7.mono b16.size)
  have b47 := b46.trans (hb7.mono b46.size)
  go_wp2_with fail
  refine (heldG l.length o1 w1.heap.size w7 hn (R4.out.below (Nat.le_refl _) b47)).mono ?_
  rintro e w8 ⟨rfl, hb8⟩
  have b18 := b17.trans (hb8.mono b17.size)
  go_wp2_with fail
  go_ret
  exact ⟨rfl, hb1.trans (b18.mono hb1.size)⟩

set_option maxRecDepth 100000 in
theorem lifted (os : Os) (started : os.Started) (H : Type) (enc : TypeId × Value → H) :
    ReturnsInHanded {} Tryd.checked os 6 .any (fun w args => (Rows.fnExactGetPathSpec.pre enc Tryd.prog Tryd.f6 [] false w args ∧ laidMetH Tryd.prog Rows.fnExactGetPathRow.laid w) ∧ sizedMet enc Tryd.prog Tryd.f6 (OpenSpec.ofChange Rows.fnExactGetPathSpec) false w args)
      (Rows.fnExactGetPathSpec.post enc Tryd.prog Tryd.f6 false true false false) := by
  refine handed_shaped (C := Tryd.checked) (X := fun w _ => laidMetH Tryd.prog Rows.fnExactGetPathRow.laid w) (fun _ _ _ hh h => h.of_heap hh) own started (by kernel_rfl) Tryd.func6
    (ChangeSpec.witness_shaped (enc := enc) (C := Tryd.checked) (os := os) (X := fun w _ => laidMetH Tryd.prog Rows.fnExactGetPathRow.laid w) false (World.laidAll Tryd.prog os Rows.fnExactGetPathRow.laid) #[.string ByteArray.empty] 8 (World.laidAll_os _ _ _)
      (World.shaped_of_ZipB (by kernel_rfl) (by kernel_rfl)) (by kernel_rfl) (by kernel_rfl) (by kernel_rfl)
      (by rw [MakeChecks.laidMetH_plain _ _ _ (by kernel_rfl)]; exact laidMet_laidAll _ (by kernel_rfl) (by kernel_rfl))) ?_
  intro W base args ds gs before hval0 hW _ _ hL hsh _
  rw [MakeChecks.laidMetH_plain _ _ _ (by kernel_rfl)] at hL
  have hT : Tabs W := tabs_of_laid hL (.head _) (.tail _ (.head _))
  have hM : MXL W := Tryd.maxLen_shape W hsh
  have hval : ∀ (j : Nat) t v, Tryd.f6.params[j]? = some t → args[j]? = some v → Value.okWide Tryd.prog W .any base t v := hval0
  have hW' := hW
  obtain ⟨p, q, hA0, hV, rfl, hfz, hnd⟩ := hW
  have hA : DataW.TrodAll enc Tryd.prog W 0 (fun _ => true) true Tryd.f6.params.toList args.toList ds p := hA0
  rw [Tryd.params6] at hA hval
  obtain ⟨v0, vs0, d0, ds0, p0, q0, hargs, rfl, rfl, h0, r0⟩ := trodAll_cons hA
  obtain ⟨rfl, rfl, rfl⟩ := trodAll_nil r0
  obtain rfl : args = #[v0] := by cases args; simp_all
  obtain ⟨rfl, rfl⟩ := trodVars_none hV
  obtain ⟨a0, rfl, rfl, rfl, w0⟩ := open_string Tryd.underlying9 (hval 0 9 v0 rfl rfl) h0
  clear hA0 hval0
  refine (walk a0 w0 W hT hM).mono fun e W' ⟨he, bel⟩ => ?_
  subst he
  exact ⟨_, rfl, _, _, _, [], _, [], hW', trodAll_mk1 (shut_bool Tryd.underlying4 _), (trodAll_cons_mk (shut_string Tryd.underlying9 w0) trodAll_mk0), rfl, bel.frame _, fun h => by cases h⟩

theorem over : Rows.fnExactGetPathRow.holds Tryd.pinned (OpenSpec.ofChange Rows.fnExactGetPathSpec) :=
  OpenClaim.holds_of_wide 6 Tryd.f6 rfl rfl rfl rfl rfl rfl rfl ⟨rfl, rfl, rfl, rfl, rfl⟩ rfl rfl rfl rfl rfl (by kernel_rfl) Tryd.func6 (by kernel_rfl)
    (of_decide_eq_true (by kernel_rfl)) (by unfold Func.isWrapper; first | (rw [if_pos (by decide +kernel)]; kernel_rfl) | (rw [if_neg (by decide +kernel)]; exact ⟨rfl, rfl⟩))
    (fun os started H enc _ => lifted os started H enc)

theorem proved : Rows.FnExactGetPathCardSaid :=
  Claim7.holds_tied_plain_at .later [] _ _ _ _ over (fun _ h => by cases h) (by kernel_rfl) (fun _ h => by cases h) fnExactGetPath_row_tie rfl ⟨rfl, rfl⟩ (by kernel_rfl) rfl
    (fun f fn hf hfn => by
      obtain rfl : f = 6 := Option.some.inj ((show Tryd.prog.funcNamed "loop.example/g00421/laws.FnExactGetPath" = some 6 by kernel_rfl).symm.trans hf) |>.symm
      obtain rfl : fn = Tryd.f6 := (Option.some.inj (Tryd.func6.symm.trans hfn)).symm
      exact ⟨by kernel_rfl, fun j t ht => by
        rw [Tryd.params6] at ht
        have hm : t ∈ [9] := by simpa using Array.mem_of_getElem? ht
        have hall : ([9].all fun u => !Tryd.prog.wantsStandIn u) = true := by kernel_rfl
        exact (show Tryd.prog.wantsStandIn t = false by simpa using List.all_eq_true.1 hall t hm)⟩)
    (by kernel_rfl)
end Go.Proofs.YtlgonfdodmipeaaDoor.fnExactGetPath
