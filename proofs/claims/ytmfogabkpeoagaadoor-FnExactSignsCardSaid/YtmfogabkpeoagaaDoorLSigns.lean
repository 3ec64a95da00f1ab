/-
  FnExactSigns returns true for every text; its argument reads as it did; the listed tables lie as the card lists them.
-/
import Derived.Test.YtmfogabkpeoagaaDoorSignsI
import Derived.Test.YtmfogabkpeoagaaDoorMarksI
import Derived.Test.YtmfogabkpeoagaaDoorLaid
import Derived.Test.YtmfogabkpeoagaaDoorCards
import Derived.Test.YtmfogabkpeoagaaDoorTie
import Derived.Lay
import Derived.LaidOnce
import Derived.SevenTiedAt
namespace Go.Proofs.YtmfogabkpeoagaaDoor.fnExactSigns
open Go.ChangeShapes Go.WideShapes Go.ChangeAt Go.RowKit
open Go.ChangeMaps (open_string shut_string)
set_option linter.unusedVariables false

theorem signs_row (s : ByteArray) : (signsL s).map iv = ((signsL s).map fun n : Nat => (n : Int)).map iz := by rw [List.map_map]; rfl
theorem z_len (l : List Nat) : (l.map fun n : Nat => (n : Int)).length = l.length := List.length_map _

set_option maxHeartbeats 1000000 in
theorem walk (a0 : ByteArray) (w0 : a0.size ≤ maxLen) (w : World) (hT : Tabs w) :
    Calls Tryd.prog 5 #[.string a0] w fun e w' => e = .returned (.bool true) ∧ Below w.heap.size w w' := by
  unfold maxLen at w0
  by_cases h : 1048576 < a0.size
  · go_enter Tryd.func5, Tryd.ntmps5
    go_wp2_with fail
    go_ret
    exact ⟨rfl, Below.refl _ _⟩
  · have HT := Lib.hid hT
    clear hT
    have hlen := signsL_len a0
    obtain ⟨l, hl⟩ : ∃ l, (signsL a0).map (fun n : Nat => (n : Int)) = l := ⟨_, rfl⟩
    have hll : (signsL a0).length = l.length := by rw [← hl, z_len]
    have cS : ∀ W, Calls Tryd.prog 16 #[.string a0] W fun e w' => ∃ o, e = .returned o ∧ w'.ownsRow W.heap.size 3 1 o l.length (l.map iz) ∧ Below W.heap.size W w' := fun W => by
      rw [← hll, ← hl, ← signs_row]; exact specSigns a0 W (by omega)
    have cI : ∀ W, Tabs W → Calls Tryd.prog 17 #[.string a0] W fun e w' => ∃ o, e = .returned o ∧ w'.ownsRow W.heap.size 3 1 o l.length (l.map iz) ∧ Below W.heap.size W w' := fun W hT => by
      rw [← hll, ← hl, ← signs_row]; exact implSigns a0 W (by omega) hT
    have hn : l.length ≤ 10000000 := by omega
    have HCS := Lib.hid cS
    have HCI := Lib.hid cI
    clear hl hll cS cI hlen
    go_enter Tryd.func5, Tryd.ntmps5
    go_wp2_with fail
    refine (HCS.out _).mono ?_
    rintro e w1 ⟨o0, rfl, hr0, hb1⟩
    have R0 := Lib.hid hr0
    clear hr0
    go_wp2_with fail
    refine (HCI.out _ (HT.out.below hb1)).mono ?_
    rintro e w2 ⟨o1, rfl, hr1, hb2⟩
    have R1 := Lib.hid hr1
    clear hr1
    go_wp2_with fail
    refine (eqIntRow l o1 o0 _ _ w2 hn R1.out (own_below' R0.out (Nat.le_refl _) hb2)).mono ?_
    rintro e w3 ⟨rfl, hb3⟩
    have hb13 := hb2.trans (hb3.mono hb2.size)
    go_wp2_with fail
    refine (markIntRow l.length 1 o1 w1.heap.size w3 _ hn (by omega) hb13.size (own_below' R1.out (Nat.le_refl _) hb3)).mono ?_
    rintro e w4 ⟨rfl, hr4, hb4⟩
    have R4 := Lib.hid hr4
    have hb14 := hb13.trans hb4
    clear hr4
    go_wp2_with fail
    refine (heldIntRow l.length 1 o1 w1.heap.size w4 hn (by omega) R4.out).mono ?_
    rintro e w5 ⟨rfl, hb5⟩
    have hb15 := hb14.trans (hb5.mono hb14.size)
    go_wp2_with fail
    refine (HCI.out _ (HT.out.below (hb1.trans (hb15.mono hb1.size)))).mono ?_
    rintro e w6 ⟨o2, rfl, hr6, hb6⟩
    have R6 := Lib.hid hr6
    have hb16 := hb15.trans (hb6.mono hb15.size)
    clear hr6
    go_wp2_with fail
    refine (eqIntRow l o2 o0 _ _ w6 hn R6.out (own_below' R0.out (Nat.le_refl _) hb16)).mono ?_
    rintro e w7 ⟨rfl, hb7⟩
    have hb17 := hb16.trans (hb7.mono hb16.size)
    have hb47 := hb5.trans ((hb6.mono hb5.size).trans (hb7.mono (Nat.le_trans hb5.size hb6.size)))
    go_wp2_with fail
    refine (heldIntRow l.length 1 o1 w1.heap.size w7 hn (by omega) (own_below' R4.out (Nat.le_refl _) hb47)).mono ?_
    rintro e w8 ⟨rfl, hb8⟩
    go_wp2_with fail
    go_ret
    exact ⟨rfl, hb1.trans ((hb17.trans (hb8.mono hb17.size)).mono hb1.size)⟩

set_option maxRecDepth 100000 in
theorem lifted (os : Os) (started : os.Started) (H : Type) (enc : TypeId × Value → H) :
    ReturnsInHanded {} Tryd.checked os 5 .any (fun w args => (Rows.fnExactSignsSpec.pre enc Tryd.prog Tryd.f5 [] false w args ∧ laidMetH Tryd.prog Rows.fnExactSignsRow.laid w) ∧ sizedMet enc Tryd.prog Tryd.f5 (OpenSpec.ofChange Rows.fnExactSignsSpec) false w args)
      (Rows.fnExactSignsSpec.post enc Tryd.prog Tryd.f5 false true false false) := by
  refine returnsInHanded_of_change_and (C := Tryd.checked) (X := fun w _ => laidMetH Tryd.prog Rows.fnExactSignsRow.laid w) (fun _ _ _ hh h => h.of_heap hh) own started (by kernel_rfl) Tryd.func5
    (ChangeSpec.witness_shaped (enc := enc) (C := Tryd.checked) (os := os) (X := fun w _ => laidMetH Tryd.prog Rows.fnExactSignsRow.laid w) false (World.laidAll Tryd.prog os Rows.fnExactSignsRow.laid) #[.string ByteArray.empty] 8 (World.laidAll_os _ _ _)
      (World.shaped_of_ZipB (by kernel_rfl) (by kernel_rfl)) (by kernel_rfl) (by kernel_rfl) (by kernel_rfl)
      (by rw [MakeChecks.laidMetH_plain _ _ _ (by kernel_rfl)]; exact laidMet_laidAll _ (by kernel_rfl) (by kernel_rfl))) ?_
  intro W base args ds gs before hval0 hW _ _ hL _
  rw [MakeChecks.laidMetH_plain _ _ _ (by kernel_rfl)] at hL
  have hT : Tabs W := tabs_of_laid hL (.head _) (.tail _ (.head _))
  have hval : ∀ (j : Nat) t v, Tryd.f5.params[j]? = some t → args[j]? = some v → Value.okWide Tryd.prog W .any base t v := hval0
  have hW' := hW
  obtain ⟨p, q, hA0, hV, rfl, hfz, hnd⟩ := hW
  have hA : DataW.TrodAll enc Tryd.prog W 0 (fun _ => true) true Tryd.f5.params.toList args.toList ds p := hA0
  rw [Tryd.params5] at hA hval
  obtain ⟨v0, vs0, d0, ds0, p0, q0, hargs, rfl, rfl, h0, r0⟩ := trodAll_cons hA
  obtain ⟨rfl, rfl, rfl⟩ := trodAll_nil r0
  obtain rfl : args = #[v0] := by cases args; simp_all
  obtain ⟨rfl, rfl⟩ := trodVars_none hV
  obtain ⟨a0, rfl, rfl, rfl, w0⟩ := open_string Tryd.underlying9 (hval 0 9 v0 rfl rfl) h0
  clear hA0 hval0
  refine (walk a0 w0 W hT).mono fun e W' ⟨he, bel⟩ => ?_
  subst he
  exact ⟨_, rfl, _, _, _, [], _, [], hW', trodAll_mk1 (shut_bool Tryd.underlying4 _), (trodAll_cons_mk (shut_string Tryd.underlying9 w0) trodAll_mk0), rfl, bel.frame _, fun h => by cases h⟩

theorem over : Rows.fnExactSignsRow.holds Tryd.pinned (OpenSpec.ofChange Rows.fnExactSignsSpec) :=
  OpenClaim.holds_of_wide 5 Tryd.f5 rfl rfl rfl rfl rfl rfl rfl ⟨rfl, rfl, rfl, rfl, rfl⟩ rfl rfl rfl rfl rfl (by kernel_rfl) Tryd.func5 (by kernel_rfl)
    (of_decide_eq_true (by kernel_rfl)) (by unfold Func.isWrapper; first | (rw [if_pos (by decide +kernel)]; kernel_rfl) | (rw [if_neg (by decide +kernel)]; exact ⟨rfl, rfl⟩))
    (fun os started H enc _ => lifted os started H enc)

theorem proved : Rows.FnExactSignsCardSaid :=
  Claim7.holds_tied_plain_at .later [] _ _ _ _ over (fun _ h => by cases h) (by kernel_rfl) (fun _ h => by cases h) fnExactSigns_row_tie rfl ⟨rfl, rfl⟩ (by kernel_rfl) rfl
    (fun f fn hf hfn => by
      obtain rfl : f = 5 := Option.some.inj ((show Tryd.prog.funcNamed "loop.example/g00421/laws.FnExactSigns" = some 5 by kernel_rfl).symm.trans hf) |>.symm
      obtain rfl : fn = Tryd.f5 := (Option.some.inj (Tryd.func5.symm.trans hfn)).symm
      exact ⟨by kernel_rfl, fun j t ht => by
        rw [Tryd.params5] at ht
        have hm : t ∈ [9] := by simpa using Array.mem_of_getElem? ht
        have hall : ([9].all fun u => !Tryd.prog.wantsStandIn u) = true := by kernel_rfl
        exact (show Tryd.prog.wantsStandIn t = false by simpa using List.all_eq_true.1 hall t hm)⟩)
    (by kernel_rfl)
end Go.Proofs.YtmfogabkpeoagaaDoor.fnExactSigns
