/-
  ReadDec of the program, and both together.
-/
import Derived.Test.YtbflkcldjjpioaaDoorReadDecS
import Derived.Test.YtbflkcldjjpioaaDoorPow
namespace Go.Proofs.YtbflkcldjjpioaaDoor
open Go.RowKit
set_option linter.unusedVariables false

theorem itoa_len (v : Int) (h : -9223372036854775808 ≤ v ∧ v ≤ 9223372036854775807) : (str (Lib.itoa v)).size ≤ 20 := by
  rw [strlen]
  unfold Lib.itoa
  split
  · have := dec_len v.natAbs (by omega)
    simp only [List.length_cons]; omega
  · have := dec_len v.toNat (by omega)
    omega
theorem specReadDec_yes (v : Int) (w : World) (h : -9223372036854775808 ≤ v ∧ v ≤ 9223372036854775807) :
    Calls Tryd.prog 11 #[.string (str (Lib.itoa v))] w fun e w' => e = .returned (.tuple #[.int .i64 v, .bool true]) ∧ w = w' := by
  by_cases h0 : v < 0
  · obtain ⟨u, rfl⟩ : ∃ u : Nat, v = -(u : Int) := ⟨v.natAbs, by omega⟩
    exact specReadDec_yesM u w (by omega) (by omega)
  · obtain ⟨u, rfl⟩ := Int.eq_ofNat_of_zero_le (show 0 ≤ v by omega)
    exact specReadDec_yesP u w (by omega)
theorem specReadDec_no (s : ByteArray) (w : World) (hs : s.size ≤ 1048576) (hno : NoDec s) :
    Calls Tryd.prog 11 #[.string s] w fun e w' => e = .returned (.tuple #[.int .i64 0, .bool false]) ∧ w = w' := by
  by_cases h0 : 0 < s.size
  · by_cases h45 : s[0].toNat = 45
    · exact specReadDec_noM s w hs hno h0 h45
    · exact specReadDec_noP s w hs hno h0 h45
  · exact specReadDec_noE s w hs hno (by omega)

/-- The library's two errors are there. -/
def Errs (w : World) : Prop := ∃ t p t' p', w.cell? ⟨0, 0, none⟩ = some (.iface t p) ∧ w.cell? ⟨1, 0, none⟩ = some (.iface t' p')
theorem Errs.below {w w' : World} {B : Nat} (h : Errs w) (hb : Below B w w') (hB : w.heap.size ≤ B) : Errs w' := by
  obtain ⟨t, p, t', p', h1, h2⟩ := h
  refine ⟨t, p, t', p', ?_, ?_⟩
  · rw [hb.cell (Nat.lt_of_lt_of_le (block_lt_of_cell h1) hB)]; exact h1
  · rw [hb.cell (Nat.lt_of_lt_of_le (block_lt_of_cell h2) hB)]; exact h2
theorem atoi_world {w w' : World} {e : TypeId} (h : w' = w ∨ ∃ t, w' = Lib.bytesWorld w e t) : Below w.heap.size w w' := by
  rcases h with rfl | ⟨t, rfl⟩
  · exact Below.refl _ _
  · exact Lib.bytesWorld_below _ _ _

set_option maxHeartbeats 1000000 in
theorem implReadDec_ok (s : ByteArray) (v : Int) (w : World) (hs : s.size ≤ 1048576) (h : -9223372036854775808 ≤ v ∧ v ≤ 9223372036854775807) (ha : Lib.atoiAll s.data.toList = .ok v) (b : Bool) (hb : ((str (Lib.itoa v)).toList == s.toList) = b) (hP : Pow10 w) :
    Calls Tryd.prog 12 #[.string s] w fun e w' => e = .returned (.tuple #[.int .i64 (if b then v else 0), .bool b]) ∧ Below w.heap.size w w' := by
  have HP := Lib.hid hP
  have HB := Lib.hid hb
  clear hP hb
  go_enter Tryd.func12, Tryd.ntmps12
  go_wp2_with fail
  refine (Tryd.strconv_Atoi_ok s (by omega) v ha w).mono ?_
  rintro e w1 ⟨rfl, hw1⟩
  have hb1 := atoi_world hw1
  clear hw1
  go_wp2_with fail
  refine (Tryd.strconv_Itoa v h.1 h.2 w1 (HP.out.below hb1 (Nat.le_refl _))).mono ?_
  rintro e w2 ⟨rfl, k, os, rfl⟩
  have hb2 := Lib.below_grow w1.heap.size w1 (Nat.le_refl _) k os
  have HB' : ((str (Lib.itoa v)).toList == s.toList) = b := HB.out
  rw [show (⟨(Lib.itoa v).toArray⟩ : ByteArray) = str (Lib.itoa v) from rfl]
  cases b with
  | true =>
    go_wp2_with fail
    all_goals go_ret2
    all_goals first
      | exact ⟨rfl, hb1.trans (hb2.mono hb1.size)⟩
      | (have hq : (!(str (Lib.itoa v)).toList == s.toList) = true := by assumption
         rw [HB'] at hq; cases hq)
  | false =>
    go_wp2_with fail
    all_goals go_ret2
    all_goals first
      | exact ⟨rfl, hb1.trans (hb2.mono hb1.size)⟩
      | (have hq : (!(str (Lib.itoa v)).toList == s.toList) = false := by assumption
         rw [HB'] at hq; cases hq)
theorem implReadDec_yes (v : Int) (w : World) (h : -9223372036854775808 ≤ v ∧ v ≤ 9223372036854775807) (hP : Pow10 w) :
    Calls Tryd.prog 12 #[.string (str (Lib.itoa v))] w fun e w' => e = .returned (.tuple #[.int .i64 v, .bool true]) ∧ Below w.heap.size w w' :=
  implReadDec_ok _ v w (Nat.le_trans (itoa_len v h) (by omega)) h (by have e : (str (Lib.itoa v)).data.toList = Lib.itoa v := by simp [str]
                                                                      rw [e]; exact atoi_itoa v h) true (by simp) hP

set_option maxHeartbeats 1000000 in
theorem implReadDec_no (s : ByteArray) (w : World) (hs : s.size ≤ 1048576) (hno : NoDec s) (hP : Pow10 w) (hE : Errs w) :
    Calls Tryd.prog 12 #[.string s] w fun e w' => e = .returned (.tuple #[.int .i64 0, .bool false]) ∧ Below w.heap.size w w' := by
  cases ha : Lib.atoiAll s.data.toList with
  | ok v =>
    have h := Lib.atoiAll_bounds ha
    exact implReadDec_ok s v w hs h ha false (by rw [ba_list]; exact decide_eq_false (hno v h)) hP
  | range =>
    obtain ⟨t, p, t', p', h1, h2⟩ := hE
    have H2 := Lib.hid h2
    clear h1 h2
    go_enter Tryd.func12, Tryd.ntmps12
    go_wp2_with fail
    refine (Tryd.strconv_Atoi_range s (by omega) ha _ w H2.out (.inr ⟨_, _, rfl⟩)).mono ?_
    rintro e w1 ⟨N, rfl, hN, hc, hb1⟩
    go_wp2_with fail
    go_ret2
    exact ⟨rfl, hb1⟩
  | _ =>
    obtain ⟨t, p, t', p', h1, h2⟩ := hE
    have H1 := Lib.hid h1
    clear h1 h2
    go_enter Tryd.func12, Tryd.ntmps12
    go_wp2_with fail
    refine (Tryd.strconv_Atoi_bad s (by omega) (fun v e => by rw [ha] at e; cases e) (fun e => by rw [ha] at e; cases e) _ w H1.out (.inr ⟨_, _, rfl⟩)).mono ?_
    rintro e w1 ⟨N, rfl, hN, hc, hb1⟩
    go_wp2_with fail
    go_ret2
    exact ⟨rfl, hb1⟩

theorem gES : Tryd.prog.globalNamed "strconv.ErrSyntax" = some 0 := by kernel_rfl
theorem gEST : (Tryd.prog.globals[0]?).map (·.type) = some 47 := by kernel_rfl
theorem gER : Tryd.prog.globalNamed "strconv.ErrRange" = some 1 := by kernel_rfl
theorem gERT : (Tryd.prog.globals[1]?).map (·.type) = some 47 := by kernel_rfl
theorem star : "*" ++ "errors.errorString" = "*errors.errorString" := by decide
theorem rowErr (u : TypeId) (h : Tryd.prog.typeName? 3 u = some "*errors.errorString") : u = 139 :=
  typeName_ptr_named (nm := "errors.errorString") (by rw [star]; kernel_rfl) (by kernel_rfl) (by decide) u (by rw [star]; exact h)
theorem errs_of_laid {l : List (String × DataW Unit)} {W : World} (h : laidMet Tryd.prog (("strconv.ErrRange", Rows.laid_strconv_ErrRange) :: ("strconv.ErrSyntax", Rows.laid_strconv_ErrSyntax) :: l) W) : Errs W := by
  obtain ⟨a0, s0, hv0, -, -, -⟩ := laid_sentinel h gER gERT Tryd.underlying47 rowErr Tryd.underlying139 Tryd.underlying141 rfl rfl Tryd.underlying9 (by kernel_rfl) (by kernel_rfl)
  obtain ⟨a1, s1, hv1, -, -, -⟩ := laid_sentinel h.tail gES gEST Tryd.underlying47 rowErr Tryd.underlying139 Tryd.underlying141 rfl rfl Tryd.underlying9 (by kernel_rfl) (by kernel_rfl)
  refine ⟨139, .pointer (some a1), 139, .pointer (some a0), ?_, ?_⟩
  · have := World.var?_cell gES hv1 0
    simpa using this
  · have := World.var?_cell gER hv0 0
    simpa using this
end Go.Proofs.YtbflkcldjjpioaaDoor
