/-
  FnExactNumText returns true for every value that can be read; it reads as it did; no conditions.
-/
import Derived.Test.YtbflkcldjjpioaaDoorNumTI
import Derived.Test.YtbflkcldjjpioaaDoorLaidV
import Derived.Test.YtbflkcldjjpioaaDoorSz
import Derived.Test.YtbflkcldjjpioaaDoorTo
import Derived.Test.YtbflkcldjjpioaaDoorEq
import Derived.Test.YtbflkcldjjpioaaDoorOpen
import Derived.Deep.RegionWith
import Derived.Test.YtbflkcldjjpioaaDoorCards
import Derived.Test.YtbflkcldjjpioaaDoorTie
import Derived.Lay
import Derived.LaidOnce
import Derived.SevenTiedAt
namespace Go.Proofs.YtbflkcldjjpioaaDoor.fnExactNumText
open Go.ChangeShapes Go.WideShapes Go.ChangeAt Go.RowKit
open Go.ChangeMaps (open_string shut_string)
set_option linter.unusedVariables false

set_option maxHeartbeats 2000000 in
theorem walk (t0 : V) (A0 : Option Addr) (c0 : Nat) (f0 : t0.fits) (w : World) (h0 : Vs.at_ w 0 w.heap.size t0.kids A0) (hP : Pow10 w) (hT : Tabs w) :
    Calls Tryd.prog 6 #[t0.agg A0 c0] w fun e w' => e = .returned (.bool true) ∧ Below w.heap.size w w' := by
  have H0 := Lib.hid h0
  clear h0
  have HP0 := Lib.hid hP
  clear hP
  have HT0 := Lib.hid hT
  clear hT
  by_cases hwt : t0.weight ≤ 1048576
  · have e1 : szR 1048576 t0.weight = 1048576 - t0.weight := by rw [szR, if_pos (by omega)]
    have hn : t0.nodes ≤ 1048577 := by have := V.nodes_weight t0; omega
    have HE := Lib.hid e1
    have cS := fun A c W h1 => specNumText t0 A c W f0 hwt h1
    have cI := fun A c W (hb : Below w.heap.size w W) h1 => implNumText t0 A c W f0 hwt (HP0.out.below hb (Nat.le_refl _)) (HT0.out.below hb) h1
    obtain ⟨rr, hrr⟩ : ∃ rr, numTextB t0 = rr := ⟨_, rfl⟩
    rw [hrr] at cS cI
    clear hrr
    have HCS := Lib.hid cS
    have HCI := Lib.hid cI
    clear cS cI
    clear e1
    unfold V.agg
    go_enter Tryd.func6, Tryd.ntmps6
    go_wp2_with fail
    refine (szValue_any t0 A0 c0 1048576 _ (by omega) (by omega) f0 (Vs.at_more (Nat.le_refl _) (by simp) _ _ (Vs.at_alloc H0.out (Nat.le_refl _) _))).mono ?_
    rintro e w1 ⟨rfl, hb1⟩
    rw [HE.out]
    have Bv := (Blk.new w _ _).below hb1 (by simp)
    have b1 : Below w.heap.size w w1 := ((Below.refl _ w).alloc (Nat.le_refl _) _).trans (hb1.mono (by simp))
    obtain ⟨p0, p1, p2, p3, p4⟩ := Bv.five
    clear hb1
    go_wp2_with fail
    refine (toValue_any t0 A0 c0 _ hn (Vs.at_more (Nat.le_refl _) b1.size _ _ (Vs.at_below H0.out b1 (Nat.le_refl _)))).mono ?_
    rintro e w2 ⟨A1, c1, rfl, hc1, at1, hb2⟩
    have Bv2 := Bv.below hb2 Bv.lt
    have b2 := b1.trans (hb2.mono b1.size)
    have hz2 : w1.heap.size ≤ w2.heap.size := hb2.size
    clear p0 p1 p2 p3 p4 hb2 Bv b1
    unfold V.agg
    go_wp2_with fail
    refine (HCS.out A1 c1 _ (Vs.at_more (Nat.zero_le _) (Nat.le_refl _) _ _ at1)).mono ?_
    rintro e w3 ⟨rfl, hb3⟩
    have Bv3 := Bv2.below hb3 Bv2.lt
    have b3 := b2.trans (hb3.mono b2.size)
    obtain ⟨p0, p1, p2, p3, p4⟩ := Bv3.five
    clear hb3 Bv2 b2 at1
    go_wp2_with fail
    refine (toValue_any t0 A0 c0 _ hn (Vs.at_more (Nat.le_refl _) b3.size _ _ (Vs.at_below H0.out b3 (Nat.le_refl _)))).mono ?_
    rintro e w4 ⟨A2, c2, rfl, hc2, at2, hb4⟩
    have Bv4 := Bv3.below hb4 Bv3.lt
    have b4 := b3.trans (hb4.mono b3.size)
    clear p0 p1 p2 p3 p4 hb4 Bv3 b3
    unfold V.agg
    go_wp2_with fail
    have Bx := Blk.new w4 34 #[.int .i64 t0.k, .int .i64 t0.n, .int .i64 t0.e, .string t0.s, .slice A2 t0.kids.length c2]
    have Bv5 := Bv4.alloc (.cells #[.int .i64 t0.k, .int .i64 t0.n, .int .i64 t0.e, .string t0.s, .slice A2 t0.kids.length c2] 34)
    have b5 := b4.alloc b4.size (.cells #[.int .i64 t0.k, .int .i64 t0.n, .int .i64 t0.e, .string t0.s, .slice A2 t0.kids.length c2] 34)
    have at5 := Vs.at_more (Nat.zero_le _) (Nat.le_refl _) _ _ (Vs.at_alloc at2 (Nat.le_refl _) (.cells #[.int .i64 t0.k, .int .i64 t0.n, .int .i64 t0.e, .string t0.s, .slice A2 t0.kids.length c2] 34))
    have hz5 : w4.heap.size < (w4.alloc (.cells #[.int .i64 t0.k, .int .i64 t0.n, .int .i64 t0.e, .string t0.s, .slice A2 t0.kids.length c2] 34)).heap.size := by simp
    refine (HCI.out A2 c2 _ b5 (Vs.at_more (Nat.le_refl _) (by simp) _ _ at5)).mono ?_
    rintro e w6 ⟨rfl, hb6⟩
    have Bx6 := Bx.below hb6 Bx.lt
    have Bv6 := Bv5.below hb6 Bv5.lt
    have b6 := b5.trans (hb6.mono b5.size)
    have at6 := Vs.at_below at5 hb6 (Nat.le_of_lt hz5)
    have hz6 : w4.heap.size < w6.heap.size := Nat.lt_of_lt_of_le hz5 hb6.size
    clear hb6 Bx Bv5 b5 at5 hz5 at2 Bv4 b4
    go_wp2_with fail
    obtain ⟨p0, p1, p2, p3, p4⟩ := Bv6.five
    obtain ⟨q0, q1, q2, q3, q4⟩ := Bx6.five
    go_region_with (first
      | (go_at_call 15; refine (toValue_any t0 A0 c0 w6.drew hn (Vs.at_more (Nat.le_refl _) b6.size _ _ (Vs.at_drew (Vs.at_below H0.out b6 (Nat.le_refl _))))).mono ?_; rintro e w7 ⟨A3, c3, rfl, hc3, at3, hb7⟩; have Bx7 := (Blk.drew Bx6).below hb7 (Blk.drew Bx6).lt; obtain ⟨r0, r1, r2, r3, r4⟩ := Bx7.five; have at7 := Vs.at_below (Vs.at_drew at6) hb7 (Nat.le_of_lt hz6); have b7 := b6.drew.trans (hb7.mono b6.size); unfold V.agg)
      | (go_at_call 17; refine (eqValue_any t0 A2 A3 c2 c3 w7 hn (Vs.at_more (Nat.le_refl _) (Nat.le_trans (Nat.le_of_lt hz6) hb7.size) _ _ at7) (Vs.at_more (Nat.zero_le _) (Nat.le_refl _) _ _ at3)).mono ?_; rintro e w8 ⟨rfl, hb8⟩; have b8 := b7.trans (hb8.mono b7.size)))
    all_goals go_wp2_with fail
    all_goals go_ret
    all_goals exact ⟨rfl, b8⟩
  · have e1 : szR 1048576 t0.weight = -1 := by rw [szR, if_neg (by omega)]
    have HE := Lib.hid e1
    clear e1
    unfold V.agg
    go_enter Tryd.func6, Tryd.ntmps6
    go_wp2_with fail
    refine (szValue_any t0 A0 c0 1048576 _ (by omega) (by omega) f0 (Vs.at_more (Nat.le_refl _) (by simp) _ _ (Vs.at_alloc H0.out (Nat.le_refl _) _))).mono ?_
    rintro e w1 ⟨rfl, hb1⟩
    rw [HE.out]
    go_wp2_with fail
    go_ret
    exact ⟨rfl, ((Below.refl _ w).alloc (Nat.le_refl _) _).trans (hb1.mono (by simp))⟩

set_option maxRecDepth 100000 in
theorem lifted (os : Os) (started : os.Started) (H : Type) (enc : TypeId × Value → H) :
    ReturnsInHanded {} Tryd.checked os 6 .any (fun w args => (Rows.fnExactNumTextSpec.pre enc Tryd.prog Tryd.f6 [] false w args ∧ laidMetH Tryd.prog Rows.fnExactNumTextRow.laid w) ∧ sizedMet enc Tryd.prog Tryd.f6 (OpenSpec.ofChange Rows.fnExactNumTextSpec) false w args)
      (Rows.fnExactNumTextSpec.post enc Tryd.prog Tryd.f6 false true false false) := by
  refine returnsInHanded_of_change_and (C := Tryd.checked) (X := fun w _ => laidMetH Tryd.prog Rows.fnExactNumTextRow.laid w) (fun _ _ _ hh h => h.of_heap hh) own started (by kernel_rfl) Tryd.func6
    (ChangeSpec.witness_shaped (enc := enc) (C := Tryd.checked) (os := os) (X := fun w _ => laidMetH Tryd.prog Rows.fnExactNumTextRow.laid w) false (World.laidAll Tryd.prog os Rows.fnExactNumTextRow.laid) #[.agg #[.int .i64 0, .int .i64 0, .int .i64 0, .string ByteArray.empty, .slice none 0 0]] 8 (World.laidAll_os _ _ _)
      (World.shaped_of_ZipB (by kernel_rfl) (by kernel_rfl)) (by kernel_rfl) (by kernel_rfl) (by kernel_rfl)
      (by rw [MakeChecks.laidMetH_plain _ _ _ (by kernel_rfl)]; exact laidMet_laidAll _ (by kernel_rfl) (by kernel_rfl))) ?_
  intro W base args ds gs before hval0 hW _ _ hL _
  rw [MakeChecks.laidMetH_plain _ _ _ (by kernel_rfl)] at hL
  have hP : Pow10 W := pow_of_laid hL (.tail _ (.tail _ (.head _)))
  have hT : Tabs W := tabs_of_laid hL (.tail _ (.tail _ (.tail _ (.head _)))) (.tail _ (.tail _ (.tail _ (.tail _ (.head _)))))
  have hval : ∀ (j : Nat) t v, Tryd.f6.params[j]? = some t → args[j]? = some v → Value.okWide Tryd.prog W .any base t v := hval0
  have hW' := hW
  obtain ⟨p, q, hA0, hV, rfl, hfz, hnd⟩ := hW
  have hA : DataW.TrodAll enc Tryd.prog W 0 (fun _ => true) true Tryd.f6.params.toList args.toList ds p := hA0
  rw [Tryd.params6] at hA hval
  obtain ⟨v0, vs0, d0, ds0, p0, q0, hargs, rfl, rfl, h0, r0⟩ := trodAll_cons hA
  obtain ⟨rfl, rfl, rfl⟩ := trodAll_nil r0
  obtain rfl : args = #[v0] := by cases args; simp_all
  obtain ⟨rfl, rfl⟩ := trodVars_none hV
  have k0 := h0
  have lt0 : ∀ x ∈ p0, x.block < W.heap.size := by obtain ⟨m, hm⟩ := k0; exact DataW.trod_lt m _ _ _ hm
  obtain ⟨t0, A0, c0, rfl, f0, at0⟩ := open_value (hval 0 29 v0 rfl rfl) h0
  clear hA0 hval0
  refine (walk t0 A0 c0 f0 W at0 hP hT).mono fun e W' ⟨he, bel⟩ => ?_
  subst he
  exact ⟨_, rfl, _, _, _, [], _, [], hW', trodAll_mk1 (shut_bool Tryd.underlying4 _), (trodAll_cons_mk (Below.trod laidOut (by kernel_rfl) (of_decide_eq_true (by kernel_rfl)) k0 bel lt0) trodAll_mk0), rfl, bel.frame _, fun h => by cases h⟩

theorem over : Rows.fnExactNumTextRow.holds Tryd.pinned (OpenSpec.ofChange Rows.fnExactNumTextSpec) :=
  OpenClaim.holds_of_wide 6 Tryd.f6 rfl rfl rfl rfl rfl rfl rfl ⟨rfl, rfl, rfl, rfl, rfl⟩ rfl rfl rfl rfl rfl (by kernel_rfl) Tryd.func6 (by kernel_rfl)
    (of_decide_eq_true (by kernel_rfl)) (by unfold Func.isWrapper; first | (rw [if_pos (by decide +kernel)]; kernel_rfl) | (rw [if_neg (by decide +kernel)]; exact ⟨rfl, rfl⟩))
    (fun os started H enc _ => lifted os started H enc)

theorem proved : Rows.FnExactNumTextCardSaid :=
  Claim7.holds_tied_plain_at .later [] _ _ _ _ over (fun _ h => by cases h) (by kernel_rfl) (fun _ h => by cases h) fnExactNumText_row_tie rfl ⟨rfl, rfl⟩ (by kernel_rfl) rfl
    (fun f fn hf hfn => by
      obtain rfl : f = 6 := Option.some.inj ((show Tryd.prog.funcNamed "loop.example/g00421/laws.FnExactNumText" = some 6 by kernel_rfl).symm.trans hf) |>.symm
      obtain rfl : fn = Tryd.f6 := (Option.some.inj (Tryd.func6.symm.trans hfn)).symm
      exact ⟨by kernel_rfl, fun j t ht => by
        rw [Tryd.params6] at ht
        have hm : t ∈ [29] := by simpa using Array.mem_of_getElem? ht
        have hall : ([29].all fun u => !Tryd.prog.wantsStandIn u) = true := by kernel_rfl
        exact (show Tryd.prog.wantsStandIn t = false by simpa using List.all_eq_true.1 hall t hm)⟩)
    (by kernel_rfl)
end Go.Proofs.YtbflkcldjjpioaaDoor.fnExactNumText
