/-
  FnOrder returns true for every code; it reads as it did; the listed tables lie as the card lists them.
-/
import Derived.Test.YtbfddabljkoapaaGreatDoorPLFnOrdera
import Derived.Test.YtbfddabljkoapaaGreatDoorCards
import Derived.Test.YtbfddabljkoapaaGreatDoorTie
import Derived.Lay
import Derived.LaidOnce
import Derived.SevenTiedAt
/-
  FnOrder returns true for every code; it reads as it did; the listed tables lie as the card lists them.
-/
namespace Go.Proofs.YtbfddabljkoapaaGreatDoor.fnOrder
open Go.ChangeShapes Go.WideShapes Go.ChangeAt Go.RowKit
open Go.ChangeMaps (open_string shut_string)
set_option linter.unusedVariables false
set_option linter.unusedSimpArgs false
set_option maxRecDepth 100000


theorem lessI_rng (x y : Int) : -1 ≤ lessI x y ∧ lessI x y ≤ 1 := lessI_range x y
set_option maxHeartbeats 3000000 in
theorem walk1 (code : List UInt8) (A : Option Addr) (cap : Nat) (hn : code.length ≤ 1048576) (w : World) (hat : At1 w w.heap.size A (code.map bv)) (hT : Tabs w) (hP : Pow10 w) :
    Calls Tryz.prog 5 #[.slice A code.length cap] w fun e w' => e = .returned (.bool true) ∧ Below w.heap.size w w' := by
  have HA := Lib.hid hat
  have HT := Lib.hid hT
  have HP := Lib.hid hP
  have at_ : Hid (∀ W, Below w.heap.size w W → At1 W W.heap.size A (code.map bv)) := Lib.hid (fun W hb => (HA.out.below hb (Nat.le_refl _)).more hb.size)
  clear hat hT hP
  go_enter Tryz.func5, Tryz.ntmps5
  go_wp2_with fail
  refine (lawBig A code.length cap w hn).mono ?_
  rintro e w0 ⟨rfl, hw0⟩
  subst hw0
  have C0 := Lib.hid (Ctx.start w0)
  go_wp2_with fail
  refine (drawCompareNum A cap code w0 (at_.out _ C0.out.1) (by omega)).mono ?_
  rintro e w2 ⟨a, b, Ba, Bb, ca, cb, rfl, ⟨fa, wa, la, ata⟩, ⟨fb, wb, lb, atb⟩, hb2⟩
  have C2 := Lib.hid (((C0.out.below hb2).kid ata).kid atb)
  clear hb2 ata atb C0
  have ia := ((V.fits_eq a).1 fa).2.2.2.2.1
  have ib := ((V.fits_eq b).1 fb).2.2.2.2.1
  have ka : a.kids.length ≤ 1400 := by have := Vs.len_le a.kids; rw [V.weight_eq] at wa; omega
  have kb : b.kids.length ≤ 1400 := by have := Vs.len_le b.kids; rw [V.weight_eq] at wb; omega
  have na : a.nodes ≤ 1048577 := by have := V.nodes_weight a; omega
  have nb : b.nodes ≤ 1048577 := by have := V.nodes_weight b; omega
  have HII := Lib.hid (fun W hP hT h1 h2 => implCompareNum a b Ba Bb ca cb W fa fb (by omega) (by omega) hP hT h1 h2)
  have HSS := Lib.hid (fun W h1 h2 => specCompareNum a b Ba Bb ca cb W fa fb (by omega) (by omega) h1 h2)
  have HSW := Lib.hid (fun W hP hT h1 h2 => implCompareNum b a Bb Ba cb ca W fb fa (by omega) (by omega) hP hT h1 h2)
  have HAA := Lib.hid (fun W hP hT h1 h2 => implCompareNum a a Ba Ba ca ca W fa fa (by omega) (by omega) hP hT h1 h2)
  have HQ1 := Lib.hid (cn_swap (a := a) (b := b))
  have HQ2 := Lib.hid (cn_self (a := a) (b := b))
  have HQ3 := Lib.hid (fun (h : cnR a b = 0) => cn_same h (by unfold inI at ia; unfold inR; exact ia) (by unfold inI at ib; unfold inR; exact ib))
  have HQ4 : Hid (-1 ≤ cnR a b ∧ cnR a b ≤ 2) := Lib.hid (by
    by_cases h : numOk a ∧ numOk b
    · have := cn_sign h.1 h.2; omega
    · rw [cnR_no h]; omega)
  have HSA := Lib.hid (fun W h1 h2 => lawSame a b Ba Bb ca cb W na nb h1 h2)
  obtain ⟨z, hz⟩ : ∃ z, cnR a b = z := ⟨_, rfl⟩
  rw [hz] at HII HSS HQ1 HQ2 HQ3 HQ4
  clear fa fb ia ib na nb hz
  unfold V.agg at HII HSS HSW HAA HSA ⊢
  go_upto_region 4 with fail
  have Cx := Lib.hid ((C2.out.new #[.int .i64 a.k, .int .i64 a.n, .int .i64 a.e, .string a.s, .slice Ba a.kids.length ca]).new #[.int .i64 b.k, .int .i64 b.n, .int .i64 b.e, .string b.s, .slice Bb b.kids.length cb])
  obtain ⟨w3, hw3⟩ : ∃ w3, w3 = (w2.alloc (.cells #[.int .i64 a.k, .int .i64 a.n, .int .i64 a.e, .string a.s, .slice Ba a.kids.length ca] 43)).alloc (.cells #[.int .i64 b.k, .int .i64 b.n, .int .i64 b.e, .string b.s, .slice Bb b.kids.length cb] 43) := ⟨_, rfl⟩
  have hz2 : (w2.alloc (.cells #[.int .i64 a.k, .int .i64 a.n, .int .i64 a.e, .string a.s, .slice Ba a.kids.length ca] 43)).heap.size = w2.heap.size + 1 := by simp
  rw [hz2, ← hw3] at Cx
  try rw [← hw3]
  have C3 := Cx
  clear C2 hz2 Cx
  clear hw3
  obtain ⟨ca0, ca1, ca2, ca3, ca4⟩ := C3.out.five (p := w2.heap.size) (show (w2.heap.size, #[.int .i64 a.k, .int .i64 a.n, .int .i64 a.e, .string a.s, .slice Ba a.kids.length ca]) ∈ _ by simp)
  obtain ⟨cb0, cb1, cb2, cb3, cb4⟩ := C3.out.five (p := w2.heap.size + 1) (show (w2.heap.size + 1, #[.int .i64 b.k, .int .i64 b.n, .int .i64 b.e, .string b.s, .slice Bb b.kids.length cb]) ∈ _ by simp)
  go_wp2_with fail
  refine (HII.out _ (HP.out.below C3.out.1 (Nat.le_refl _)) (HT.out.below C3.out.1) (C3.out.at_ (by simp)) (C3.out.at_ (by simp))).mono ?_
  rintro e w4 ⟨rfl, hb⟩
  have C4 := Lib.hid (C3.out.below hb)
  clear hb
  clear ca0 ca1 ca2 ca3 ca4 cb0 cb1 cb2 cb3 cb4
  go_wp2_with fail
  refine (drawWhole A cap code w4 (at_.out _ C4.out.1) (by omega)).mono ?_
  rintro e w5 ⟨u, Bu, cu, rfl, fu, wu, lu, atu, hb5⟩
  have C5 := Lib.hid ((C4.out.below hb5).kid atu)
  clear hb5 atu C4
  have iu := ((V.fits_eq u).1 fu).2.2.2.2.1
  have ku : u.kids.length ≤ 1400 := by have := Vs.len_le u.kids; rw [V.weight_eq] at wu; omega
  have HWI := Lib.hid (fun W hT hat => implWhole u Bu cu W fu (by omega) hT hat)
  have HWS := Lib.hid (fun W hat => specWholeV u Bu cu W fu (by omega) hat)
  have HR := whole_range (w := u) (by unfold inI at iu; unfold inR; exact iu)
  have fI : ∀ x : Int, inR x → (V.int x).fits := fun x hx => (V.fits_eq _).2 ⟨by show (0 : Nat) ≤ _; omega, by show (0 : Nat) ≤ _; omega, by show Vs.fits []; simp [Vs.fits], by show inI 3; unfold inI; omega, by show inI x; unfold inR at hx; unfold inI; exact hx, by show inI 0; unfold inI; omega⟩
  have wI : ∀ x : Int, (V.int x).weight ≤ 1048576 := fun x => by rw [V.weight_eq]; show 0 + Vs.weight [] ≤ _; simp [Vs.weight]
  have aI : ∀ (x : Int) (W : World), Vs.at_ W 0 W.heap.size (V.int x).kids none := fun x W => by show Vs.at_ W 0 W.heap.size [] none; simp only [Vs.at_]
  have HLO := Lib.hid (fun x (hx : inR x) W hP hT h2 => implCompareNum (V.int x) u none Bu 0 cu W (fI x hx) fu (wI x) (by omega) hP hT (aI x W) h2)
  have HHI := Lib.hid (fun x (hx : inR x) W hP hT h1 => implCompareNum u (V.int x) Bu none cu 0 W fu (fI x hx) (by omega) (wI x) hP hT h1 (aI x W))
  have HNO := Lib.hid (fun (x : Int) (W : World) (hx : inR x) => specNorm x 0 W hx)
  have HNI : Hid (∀ (x : Int) (W : World), inR x → Calls Tryz.prog 33 #[.int .i64 x, .int .i64 0] W fun r w' => (∃ q, r = .returned (.tuple #[.agg #[.int .i64 3, .int .i64 x, .int .i64 0, .string ⟨#[]⟩, .slice none 0 0], .bool q])) ∧ Below W.heap.size W w') := Lib.hid (fun x W hx => by
    refine (HNO.out x W hx).mono ?_
    rintro r w' ⟨rfl, hb⟩
    rw [norm_int hx]
    exact ⟨⟨_, rfl⟩, hb⟩)
  have HWL := Lib.hid (fun (h : wholeB u = true) => whole_low (w := u) (by unfold wholeB at h; exact of_decide_eq_true h))
  obtain ⟨xx, hxx⟩ : ∃ xx, wholeN u = xx := ⟨_, rfl⟩
  obtain ⟨okk, hok⟩ : ∃ okk, wholeB u = okk := ⟨_, rfl⟩
  rw [hxx, hok] at HWI HWS
  rw [hxx] at HR
  rw [hxx, hok] at HWL
  clear hxx hok fu iu fI wI aI HNO
  have HRR := Lib.hid HR
  unfold inR at HR
  unfold V.agg at HWI HWS HLO HHI ⊢
  go_wp2_with fail
  refine Calls.atW (fun W => Hid (Ctx w0 [(w5.heap.size, #[.int .i64 u.k, .int .i64 u.n, .int .i64 u.e, .string u.s, .slice Bu u.kids.length cu]), (w2.heap.size + 1, #[.int .i64 b.k, .int .i64 b.n, .int .i64 b.e, .string b.s, .slice Bb b.kids.length cb]), (w2.heap.size, #[.int .i64 a.k, .int .i64 a.n, .int .i64 a.e, .string a.s, .slice Ba a.kids.length ca])] [(u, Bu), (b, Bb), (a, Ba)] W)) (Lib.hid (C5.out.new _)) ?_
  clear C5
  intro w6 C6
  refine (HWI.out _ (HT.out.below C6.out.1) (C6.out.at_ (by simp))).mono ?_
  rintro e w7 ⟨rfl, hb⟩
  have C7 := Lib.hid (C6.out.below hb)
  clear hb C6 HWI
  obtain ⟨cu0, cu1, cu2, cu3, cu4⟩ := C7.out.five (p := w5.heap.size) (show (w5.heap.size, #[.int .i64 u.k, .int .i64 u.n, .int .i64 u.e, .string u.s, .slice Bu u.kids.length cu]) ∈ _ by simp)
  go_wp2_with fail
  refine (HWS.out _ (C7.out.at_ (by simp))).mono ?_
  rintro e w8 ⟨rfl, hb⟩
  have C8 := Lib.hid (C7.out.below hb)
  clear hb
  clear cu0 cu1 cu2 cu3 cu4
  have n1 : (z != z) = false := by simp
  have n2 : (xx != xx) = false := by simp
  have n3 : (okk != okk) = false := by simp
  have z1 : -1 ≤ z := HQ4.out.1
  have z2 : z ≤ 2 := HQ4.out.2
  go_upto_region 8 with fail
  go_cut [63] from 37 (fun y wx => y = .bool false ∧ Hid (Ctx w0 [(w5.heap.size, #[.int .i64 u.k, .int .i64 u.n, .int .i64 u.e, .string u.s, .slice Bu u.kids.length cu]), (w2.heap.size + 1, #[.int .i64 b.k, .int .i64 b.n, .int .i64 b.e, .string b.s, .slice Bb b.kids.length cb]), (w2.heap.size, #[.int .i64 a.k, .int .i64 a.n, .int .i64 a.e, .string a.s, .slice Ba a.kids.length ca])] [(u, Bu), (b, Bb), (a, Ba)] wx))
  case first =>
    by_cases hz2 : z = 2
    · have q2 : (z == 2) = true := by rw [hz2]; rfl
      have q2' : (z != 2) = false := by simp only [bne, q2]; rfl
      clear hz2
      obtain ⟨ca0, ca1, ca2, ca3, ca4⟩ := C8.out.five (p := w2.heap.size) (show (w2.heap.size, #[.int .i64 a.k, .int .i64 a.n, .int .i64 a.e, .string a.s, .slice Ba a.kids.length ca]) ∈ _ by simp)
      obtain ⟨cb0, cb1, cb2, cb3, cb4⟩ := C8.out.five (p := w2.heap.size + 1) (show (w2.heap.size + 1, #[.int .i64 b.k, .int .i64 b.n, .int .i64 b.e, .string b.s, .slice Bb b.kids.length cb]) ∈ _ by simp)
      go_wp2_with fail
      refine (HSS.out _ (C8.out.at_ (by simp)) (C8.out.at_ (by simp))).mono ?_
      rintro e w9 ⟨rfl, hb⟩
      have C9 := Lib.hid (C8.out.below hb)
      clear hb
      clear ca0 ca1 ca2 ca3 ca4 cb0 cb1 cb2 cb3 cb4
      go_wp2_with fail
      go_meet
      case rel => exact ⟨rfl, C9⟩
    · have q2 : (z == 2) = false := by rw [beq_eq_false_iff_ne]; exact hz2
      have q2' : (z != 2) = true := by simp only [bne, q2]; rfl
      have e1 := HQ1.out hz2
      rw [e1] at HSW
      clear hz2 e1
      obtain ⟨ca0, ca1, ca2, ca3, ca4⟩ := C8.out.five (p := w2.heap.size) (show (w2.heap.size, #[.int .i64 a.k, .int .i64 a.n, .int .i64 a.e, .string a.s, .slice Ba a.kids.length ca]) ∈ _ by simp)
      obtain ⟨cb0, cb1, cb2, cb3, cb4⟩ := C8.out.five (p := w2.heap.size + 1) (show (w2.heap.size + 1, #[.int .i64 b.k, .int .i64 b.n, .int .i64 b.e, .string b.s, .slice Bb b.kids.length cb]) ∈ _ by simp)
      go_wp2_with fail
      refine (HSS.out _ (C8.out.at_ (by simp)) (C8.out.at_ (by simp))).mono ?_
      rintro e w9 ⟨rfl, hb⟩
      have C9 := Lib.hid (C8.out.below hb)
      clear hb
      clear ca0 ca1 ca2 ca3 ca4 cb0 cb1 cb2 cb3 cb4
      obtain ⟨ca0, ca1, ca2, ca3, ca4⟩ := C9.out.five (p := w2.heap.size) (show (w2.heap.size, #[.int .i64 a.k, .int .i64 a.n, .int .i64 a.e, .string a.s, .slice Ba a.kids.length ca]) ∈ _ by simp)
      obtain ⟨cb0, cb1, cb2, cb3, cb4⟩ := C9.out.five (p := w2.heap.size + 1) (show (w2.heap.size + 1, #[.int .i64 b.k, .int .i64 b.n, .int .i64 b.e, .string b.s, .slice Bb b.kids.length cb]) ∈ _ by simp)
      go_wp2_with fail
      refine (HSW.out _ (HP.out.below C9.out.1 (Nat.le_refl _)) (HT.out.below C9.out.1) (C9.out.at_ (by simp)) (C9.out.at_ (by simp))).mono ?_
      rintro e wa ⟨rfl, hb⟩
      have Ca := Lib.hid (C9.out.below hb)
      clear hb
      clear ca0 ca1 ca2 ca3 ca4 cb0 cb1 cb2 cb3 cb4
      go_wp2_with fail
      go_meet
      case rel => exact ⟨rfl, Ca⟩
  case rest =>
  obtain ⟨rfl, C9⟩ := hcut
  go_upto_region 10 with fail
  go_cut [81] from 64 (fun y wx => y = .bool false ∧ Hid (Ctx w0 [(w5.heap.size, #[.int .i64 u.k, .int .i64 u.n, .int .i64 u.e, .string u.s, .slice Bu u.kids.length cu]), (w2.heap.size + 1, #[.int .i64 b.k, .int .i64 b.n, .int .i64 b.e, .string b.s, .slice Bb b.kids.length cb]), (w2.heap.size, #[.int .i64 a.k, .int .i64 a.n, .int .i64 a.e, .string a.s, .slice Ba a.kids.length ca])] [(u, Bu), (b, Bb), (a, Ba)] wx))
  case first =>
    by_cases hz2 : z = 2
    · have q2 : (z == 2) = true := by rw [hz2]; rfl
      have q2' : (z != 2) = false := by simp only [bne, q2]; rfl
      have q0 : (z == 0) = false := by rw [hz2]; rfl
      clear hz2
      have C9' := C9
      go_wp2_with fail
      go_meet
      case rel => exact ⟨rfl, C9'⟩
    · have q2 : (z == 2) = false := by rw [beq_eq_false_iff_ne]; exact hz2
      have q2' : (z != 2) = true := by simp only [bne, q2]; rfl
      rw [HQ2.out hz2] at HAA
      clear hz2
      by_cases hz0 : z = 0
      · have q0 : (z == 0) = true := by rw [hz0]; rfl
        have hs : V.same a b = true := by rw [HQ3.out hz0]; exact V.same_self _
        rw [hs] at HSA
        clear hz0 hs
        obtain ⟨ca0, ca1, ca2, ca3, ca4⟩ := C9.out.five (p := w2.heap.size) (show (w2.heap.size, #[.int .i64 a.k, .int .i64 a.n, .int .i64 a.e, .string a.s, .slice Ba a.kids.length ca]) ∈ _ by simp)
        obtain ⟨cb0, cb1, cb2, cb3, cb4⟩ := C9.out.five (p := w2.heap.size + 1) (show (w2.heap.size + 1, #[.int .i64 b.k, .int .i64 b.n, .int .i64 b.e, .string b.s, .slice Bb b.kids.length cb]) ∈ _ by simp)
        go_wp2_with fail
        refine (HSA.out _ (C9.out.at_ (by simp)) (C9.out.at_ (by simp))).mono ?_
        rintro e wa ⟨rfl, hb⟩
        have Ca := Lib.hid (C9.out.below hb)
        clear hb
        clear ca0 ca1 ca2 ca3 ca4 cb0 cb1 cb2 cb3 cb4
        obtain ⟨ca0, ca1, ca2, ca3, ca4⟩ := Ca.out.five (p := w2.heap.size) (show (w2.heap.size, #[.int .i64 a.k, .int .i64 a.n, .int .i64 a.e, .string a.s, .slice Ba a.kids.length ca]) ∈ _ by simp)
        go_wp2_with fail
        refine (HAA.out _ (HP.out.below Ca.out.1 (Nat.le_refl _)) (HT.out.below Ca.out.1) (Ca.out.at_ (by simp)) (Ca.out.at_ (by simp))).mono ?_
        rintro e wb ⟨rfl, hb⟩
        have Cb := Lib.hid (Ca.out.below hb)
        clear hb
        clear ca0 ca1 ca2 ca3 ca4
        go_wp2_with fail
        go_meet
        case rel => exact ⟨rfl, Cb⟩
      · have q0 : (z == 0) = false := by rw [beq_eq_false_iff_ne]; exact hz0
        clear hz0
        obtain ⟨ca0, ca1, ca2, ca3, ca4⟩ := C9.out.five (p := w2.heap.size) (show (w2.heap.size, #[.int .i64 a.k, .int .i64 a.n, .int .i64 a.e, .string a.s, .slice Ba a.kids.length ca]) ∈ _ by simp)
        go_wp2_with fail
        refine (HAA.out _ (HP.out.below C9.out.1 (Nat.le_refl _)) (HT.out.below C9.out.1) (C9.out.at_ (by simp)) (C9.out.at_ (by simp))).mono ?_
        rintro e wb ⟨rfl, hb⟩
        have Cb := Lib.hid (C9.out.below hb)
        clear hb
        clear ca0 ca1 ca2 ca3 ca4
        go_wp2_with fail
        go_meet
        case rel => exact ⟨rfl, Cb⟩
  case rest =>
  obtain ⟨rfl, D0⟩ := hcut
  clear C9 HSS HSW HAA HSA HII HQ1 HQ2 HQ3 z1 z2 HQ4
  cases okk with
  | false =>
    go_wp2_with fail
    go_ret
    exact ⟨rfl, D0.out.1⟩
  | true =>
    have HWL2 := Lib.hid (HWL.out rfl)
    have D00 := D0
    by_cases hxm : xx = 9223372036854775807
    · subst hxm
      have HN1 := Lib.hid (fun W => HNI.out 9223372036854775807 W HRR.out)
      have HN2 := Lib.hid (fun W => HNI.out (wrap64 9223372036854775808) W (by rw [wrap64_eq]; unfold inR; omega))
      have HC1 := Lib.hid (HLO.out 9223372036854775807 HRR.out)
      have hc1 := HWL2.out.1
      obtain ⟨z1, hz1⟩ : ∃ z1, cnR (V.int 9223372036854775807) u = z1 := ⟨_, rfl⟩
      rw [hz1] at HC1 hc1
      have HC1' : Hid (∀ W, Pow10 W → Tabs W → Vs.at_ W 0 W.heap.size u.kids Bu → Calls Tryz.prog 44 #[.agg #[.int .i64 3, .int .i64 9223372036854775807, .int .i64 0, .string ⟨#[]⟩, .slice none 0 0], .agg #[.int .i64 u.k, .int .i64 u.n, .int .i64 u.e, .string u.s, .slice Bu u.kids.length cu]] W fun e w' => e = .returned (.int .i64 z1) ∧ Below W.heap.size W w') := Lib.hid (fun W h1 h2 h3 => HC1.out W h1 h2 h3)
      have qc1 : decide (z1 ≤ 0) = true := decide_eq_true hc1
      clear hz1 HWL HWL2 HNI HLO HHI HC1 D0 n2
      go_wp2_with fail
      refine (HN1.out _).mono ?_
      rintro e wa ⟨⟨qa, rfl⟩, hb⟩
      have Da := Lib.hid (D00.out.below hb)
      clear hb D00
      go_wp2_with fail
      refine Calls.atW (fun W => Hid (Ctx w0 [(wa.heap.size, #[.int .i64 3, .int .i64 9223372036854775807, .int .i64 0, .string ⟨#[]⟩, .slice none 0 0]), (w5.heap.size, #[.int .i64 u.k, .int .i64 u.n, .int .i64 u.e, .string u.s, .slice Bu u.kids.length cu]), (w2.heap.size + 1, #[.int .i64 b.k, .int .i64 b.n, .int .i64 b.e, .string b.s, .slice Bb b.kids.length cb]), (w2.heap.size, #[.int .i64 a.k, .int .i64 a.n, .int .i64 a.e, .string a.s, .slice Ba a.kids.length ca])] [(u, Bu), (b, Bb), (a, Ba)] W)) (Lib.hid (Da.out.new _)) ?_
      clear Da
      intro wb Db
      refine (HN2.out _).mono ?_
      rintro e wd ⟨⟨qb, rfl⟩, hb⟩
      have Dd := Lib.hid (Db.out.below hb)
      clear hb Db
      go_upto_region 16 with fail
      have De := Lib.hid (Dd.out.new #[.int .i64 3, .int .i64 (wrap64 9223372036854775808), .int .i64 0, .string ⟨#[]⟩, .slice none 0 0])
      obtain ⟨we, hwe⟩ : ∃ we, we = wd.alloc (.cells #[.int .i64 3, .int .i64 (wrap64 9223372036854775808), .int .i64 0, .string ⟨#[]⟩, .slice none 0 0] 43) := ⟨_, rfl⟩
      rw [← hwe] at De ⊢
      clear hwe Dd
      obtain ⟨cl0, cl1, cl2, cl3, cl4⟩ := De.out.five (p := wa.heap.size) (show (wa.heap.size, #[.int .i64 3, .int .i64 9223372036854775807, .int .i64 0, .string ⟨#[]⟩, .slice none 0 0]) ∈ _ by simp)
      obtain ⟨cu0, cu1, cu2, cu3, cu4⟩ := De.out.five (p := w5.heap.size) (show (w5.heap.size, #[.int .i64 u.k, .int .i64 u.n, .int .i64 u.e, .string u.s, .slice Bu u.kids.length cu]) ∈ _ by simp)
      go_wp2_with fail
      refine (HC1'.out _ (HP.out.below De.out.1 (Nat.le_refl _)) (HT.out.below De.out.1) (De.out.at_ (by simp))).mono ?_
      rintro e wf ⟨rfl, hb⟩
      have Df := Lib.hid (De.out.below hb)
      clear hb
      clear cl0 cl1 cl2 cl3 cl4 cu0 cu1 cu2 cu3 cu4
      go_wp2_with fail
      go_ret
      exact ⟨rfl, Df.out.1⟩
    · have qm : (xx == 9223372036854775807) = false := by rw [beq_eq_false_iff_ne]; exact hxm
      have hxl : xx < 9223372036854775807 := by omega
      have hrm : inR (xx + 1) := by unfold inR; omega
      have HN1 := Lib.hid (fun W => HNI.out xx W HRR.out)
      have HN2 := Lib.hid (fun W => HNI.out (xx + 1) W hrm)
      have HC1 := Lib.hid (HLO.out xx HRR.out)
      have HC2 := Lib.hid (HHI.out (xx + 1) hrm)
      have hc1 := HWL2.out.1
      have hc2 := HWL2.out.2
      obtain ⟨z1, hz1⟩ : ∃ z1, cnR (V.int xx) u = z1 := ⟨_, rfl⟩
      obtain ⟨z2, hz2⟩ : ∃ z2, cnR u (V.int (xx + 1)) = z2 := ⟨_, rfl⟩
      rw [hz1] at HC1 hc1
      rw [hz2] at HC2 hc2
      have HC1' : Hid (∀ W, Pow10 W → Tabs W → Vs.at_ W 0 W.heap.size u.kids Bu → Calls Tryz.prog 44 #[.agg #[.int .i64 3, .int .i64 xx, .int .i64 0, .string ⟨#[]⟩, .slice none 0 0], .agg #[.int .i64 u.k, .int .i64 u.n, .int .i64 u.e, .string u.s, .slice Bu u.kids.length cu]] W fun e w' => e = .returned (.int .i64 z1) ∧ Below W.heap.size W w') := Lib.hid (fun W h1 h2 h3 => HC1.out W h1 h2 h3)
      have HC2' : Hid (∀ W, Pow10 W → Tabs W → Vs.at_ W 0 W.heap.size u.kids Bu → Calls Tryz.prog 44 #[.agg #[.int .i64 u.k, .int .i64 u.n, .int .i64 u.e, .string u.s, .slice Bu u.kids.length cu], .agg #[.int .i64 3, .int .i64 (xx + 1), .int .i64 0, .string ⟨#[]⟩, .slice none 0 0]] W fun e w' => e = .returned (.int .i64 z2) ∧ Below W.heap.size W w') := Lib.hid (fun W h1 h2 h3 => HC2.out W h1 h2 h3)
      have qc1 : decide (z1 ≤ 0) = true := decide_eq_true hc1
      have qc2 : decide (z2 < 0) = true := decide_eq_true hc2
      clear hz1 hz2 HWL HWL2 HNI HLO HHI hrm hxm D0 HC1 HC2
      go_wp2_with fail
      refine (HN1.out _).mono ?_
      rintro e wa ⟨⟨qa, rfl⟩, hb⟩
      have Da := Lib.hid (D00.out.below hb)
      clear hb D00
      go_wp2_with fail
      refine Calls.atW (fun W => Hid (Ctx w0 [(wa.heap.size, #[.int .i64 3, .int .i64 xx, .int .i64 0, .string ⟨#[]⟩, .slice none 0 0]), (w5.heap.size, #[.int .i64 u.k, .int .i64 u.n, .int .i64 u.e, .string u.s, .slice Bu u.kids.length cu]), (w2.heap.size + 1, #[.int .i64 b.k, .int .i64 b.n, .int .i64 b.e, .string b.s, .slice Bb b.kids.length cb]), (w2.heap.size, #[.int .i64 a.k, .int .i64 a.n, .int .i64 a.e, .string a.s, .slice Ba a.kids.length ca])] [(u, Bu), (b, Bb), (a, Ba)] W)) (Lib.hid (Da.out.new _)) ?_
      clear Da
      intro wb Db
      refine (HN2.out _).mono ?_
      rintro e wd ⟨⟨qb, rfl⟩, hb⟩
      have Dd := Lib.hid (Db.out.below hb)
      clear hb Db
      go_upto_region 16 with fail
      have De := Lib.hid (Dd.out.new #[.int .i64 3, .int .i64 (xx + 1), .int .i64 0, .string ⟨#[]⟩, .slice none 0 0])
      obtain ⟨we, hwe⟩ : ∃ we, we = wd.alloc (.cells #[.int .i64 3, .int .i64 (xx + 1), .int .i64 0, .string ⟨#[]⟩, .slice none 0 0] 43) := ⟨_, rfl⟩
      rw [← hwe] at De ⊢
      clear hwe Dd
      obtain ⟨cl0, cl1, cl2, cl3, cl4⟩ := De.out.five (p := wa.heap.size) (show (wa.heap.size, #[.int .i64 3, .int .i64 xx, .int .i64 0, .string ⟨#[]⟩, .slice none 0 0]) ∈ _ by simp)
      obtain ⟨cu0, cu1, cu2, cu3, cu4⟩ := De.out.five (p := w5.heap.size) (show (w5.heap.size, #[.int .i64 u.k, .int .i64 u.n, .int .i64 u.e, .string u.s, .slice Bu u.kids.length cu]) ∈ _ by simp)
      go_wp2_with fail
      refine (HC1'.out _ (HP.out.below De.out.1 (Nat.le_refl _)) (HT.out.below De.out.1) (De.out.at_ (by simp))).mono ?_
      rintro e wf ⟨rfl, hb⟩
      have Df := Lib.hid (De.out.below hb)
      clear hb
      clear cl0 cl1 cl2 cl3 cl4 cu0 cu1 cu2 cu3 cu4
      obtain ⟨cu0, cu1, cu2, cu3, cu4⟩ := Df.out.five (p := w5.heap.size) (show (w5.heap.size, #[.int .i64 u.k, .int .i64 u.n, .int .i64 u.e, .string u.s, .slice Bu u.kids.length cu]) ∈ _ by simp)
      obtain ⟨ch0, ch1, ch2, ch3, ch4⟩ := Df.out.five (p := wd.heap.size) (show (wd.heap.size, #[.int .i64 3, .int .i64 (xx + 1), .int .i64 0, .string ⟨#[]⟩, .slice none 0 0]) ∈ _ by simp)
      go_wp2_with fail
      refine (HC2'.out _ (HP.out.below Df.out.1 (Nat.le_refl _)) (HT.out.below Df.out.1) (Df.out.at_ (by simp))).mono ?_
      rintro e wg ⟨rfl, hb⟩
      have Dg := Lib.hid (Df.out.below hb)
      clear hb
      clear cu0 cu1 cu2 cu3 cu4 ch0 ch1 ch2 ch3 ch4
      go_wp2_with fail
      go_ret
      exact ⟨rfl, Dg.out.1⟩

theorem walk (t0 : List Int) (A0 : Option Addr) (c0 : Nat) (f0 : t0.length ≤ maxLen) (g0 : ∀ z ∈ t0, (Lit.int .u8 z).wf = true) (w : World) (at0 : At1 w w.heap.size A0 (t0.map (Value.int .u8))) (hT : Tabs w) (hP : Pow10 w) :
    Calls Tryz.prog 5 #[.slice A0 t0.length c0] w fun e w' => e = .returned (.bool true) ∧ Below w.heap.size w w' := by
  obtain ⟨code, hl, hm⟩ := bytes_of t0 g0
  rw [hm] at at0
  rw [← hl]
  by_cases h : 1048576 < code.length
  · clear at0 hm hl
    go_enter Tryz.func5, Tryz.ntmps5
    go_wp2_with fail
    refine (lawBigY A0 code.length c0 w h).mono ?_
    rintro e w0 ⟨rfl, hw0⟩
    subst hw0
    go_wp2_with fail
    go_ret
    exact ⟨rfl, Below.refl _ _⟩
  · exact walk1 code A0 c0 (by omega) w at0 hT hP

set_option maxRecDepth 100000 in
theorem lifted (os : Os) (started : os.Started) (H : Type) (enc : TypeId × Value → H) :
    ReturnsInHanded {} Tryz.checked os 5 .any (fun w args => (Rows.fnOrderSpec.pre enc Tryz.prog Tryz.f5 [] false w args ∧ laidMetH Tryz.prog Rows.fnOrderRow.laid w) ∧ sizedMet enc Tryz.prog Tryz.f5 (OpenSpec.ofChange Rows.fnOrderSpec) false w args)
      (Rows.fnOrderSpec.post enc Tryz.prog Tryz.f5 false true false false) := by
  refine returnsInHanded_of_change_and (C := Tryz.checked) (X := fun w _ => laidMetH Tryz.prog Rows.fnOrderRow.laid w) (fun _ _ _ hh h => h.of_heap hh) own started (by kernel_rfl) Tryz.func5
    (ChangeSpec.witness_shaped (enc := enc) (C := Tryz.checked) (os := os) (X := fun w _ => laidMetH Tryz.prog Rows.fnOrderRow.laid w) false (World.laidAll Tryz.prog os Rows.fnOrderRow.laid) #[.slice none 0 0] 8 (World.laidAll_os _ _ _)
      (World.shaped_of_ZipB (by kernel_rfl) (by kernel_rfl)) (by kernel_rfl) (by kernel_rfl) (by kernel_rfl)
      (by rw [MakeChecks.laidMetH_plain _ _ _ (by kernel_rfl)]; exact laidMet_laidAll _ (by kernel_rfl) (by kernel_rfl))) ?_
  intro W base args ds gs before hval0 hW _ _ hL _
  rw [MakeChecks.laidMetH_plain _ _ _ (by kernel_rfl)] at hL
  have hT : Tabs W := tabs_of_laid hL (.tail _ (.tail _ (.tail _ (.head _)))) (.tail _ (.tail _ (.tail _ (.tail _ (.head _)))))
  have hP : Pow10 W := pow_of_laid hL (.tail _ (.tail _ (.head _)))
  have hval : ∀ (j : Nat) t v, Tryz.f5.params[j]? = some t → args[j]? = some v → Value.okWide Tryz.prog W .any base t v := hval0
  have hW' := hW
  obtain ⟨p, q, hA0, hV, rfl, hfz, hnd⟩ := hW
  have hA : DataW.TrodAll enc Tryz.prog W 0 (fun _ => true) true Tryz.f5.params.toList args.toList ds p := hA0
  rw [Tryz.params5] at hA hval
  obtain ⟨v0, vs0, d0, ds0, p0, q0, hargs, rfl, rfl, h0, r0⟩ := trodAll_cons hA
  obtain ⟨rfl, rfl, rfl⟩ := trodAll_nil r0
  obtain rfl : args = #[v0] := by cases args; simp_all
  obtain ⟨rfl, rfl⟩ := trodVars_none hV
  have k0 := h0
  have lt0 : ∀ x ∈ p0, x.block < W.heap.size := by obtain ⟨m, hm⟩ := k0; exact DataW.trod_lt m _ _ _ hm
  obtain ⟨t0, A0, c0, rfl, f0, g0, at0⟩ := open_kind Tryz.underlying22 Tryz.underlying5 (by kernel_rfl) (hval 0 22 v0 rfl rfl) h0
  clear hA0 hval0
  refine (walk t0 A0 c0 f0 g0 W at0 hT hP).mono fun e W' ⟨he, bel⟩ => ?_
  subst he
  exact ⟨_, rfl, _, _, _, [], _, [], hW', trodAll_mk1 (shut_bool Tryz.underlying4 _), (trodAll_cons_mk (Below.trod laidOut (by kernel_rfl) (of_decide_eq_true (by kernel_rfl)) k0 bel lt0) trodAll_mk0), rfl, bel.frame _, fun h => by cases h⟩

theorem over : Rows.fnOrderRow.holds Tryz.pinned (OpenSpec.ofChange Rows.fnOrderSpec) :=
  OpenClaim.holds_of_wide 5 Tryz.f5 rfl rfl rfl rfl rfl rfl rfl ⟨rfl, rfl, rfl, rfl, rfl⟩ rfl rfl rfl rfl rfl (by kernel_rfl) Tryz.func5 (by kernel_rfl)
    (of_decide_eq_true (by kernel_rfl)) (by unfold Func.isWrapper; first | (rw [if_pos (by decide +kernel)]; kernel_rfl) | (rw [if_neg (by decide +kernel)]; exact ⟨rfl, rfl⟩))
    (fun os started H enc _ => lifted os started H enc)

theorem proved : Rows.FnOrderCardSaid :=
  Claim7.holds_tied_plain_at .later [] _ _ _ _ over (fun _ h => by cases h) (by kernel_rfl) (fun _ h => by cases h) fnOrder_row_tie rfl ⟨rfl, rfl⟩ (by kernel_rfl) rfl
    (fun f fn hf hfn => by
      obtain rfl : f = 5 := Option.some.inj ((show Tryz.prog.funcNamed "loop.example/g00421/laws.FnOrder" = some 5 by kernel_rfl).symm.trans hf) |>.symm
      obtain rfl : fn = Tryz.f5 := (Option.some.inj (Tryz.func5.symm.trans hfn)).symm
      exact ⟨by kernel_rfl, fun j t ht => by
        rw [Tryz.params5] at ht
        have hm : t ∈ [22] := by simpa using Array.mem_of_getElem? ht
        have hall : ([22].all fun u => !Tryz.prog.wantsStandIn u) = true := by kernel_rfl
        exact (show Tryz.prog.wantsStandIn t = false by simpa using List.all_eq_true.1 hall t hm)⟩)
    (by kernel_rfl)
end Go.Proofs.YtbfddabljkoapaaGreatDoor.fnOrder
