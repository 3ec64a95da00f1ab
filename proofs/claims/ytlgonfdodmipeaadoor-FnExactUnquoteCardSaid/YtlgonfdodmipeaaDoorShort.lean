/-
  The letters of the short escapes: the reference's table, and the places in the program's two texts.
-/
import Derived.Test.YtlgonfdodmipeaaDoorKit
import Derived.Test.YtlgonfdodmipeaaDoorShelf
import Derived.Handy
namespace Go.Proofs.YtlgonfdodmipeaaDoor
open Go.RowKit
set_option linter.unusedVariables false

/-- The letter of a short escape, 0 if there is none. -/
def shortOf (b : Nat) : Nat := if b = 34 then 34 else if b = 92 then 92 else if b = 8 then 98 else if b = 12 then 102 else if b = 10 then 110 else if b = 13 then 114 else if b = 9 then 116 else 0
/-- The place of a byte among those that have a short escape. -/
def shortK (b : Nat) : Int := if b = 34 then 0 else if b = 92 then 1 else if b = 8 then 2 else if b = 12 then 3 else if b = 10 then 4 else if b = 13 then 5 else if b = 9 then 6 else -1

set_option maxHeartbeats 2000000 in
theorem specShort (b : Nat) (hb : b < 256) (w : World) :
    Calls Tryd.prog 53 #[.int .u8 b] w fun e w' => e = .returned (.int .u8 (shortOf b)) ∧ Below w.heap.size w w' := by
  have fin : ∀ o1 o2 : Obj, Below w.heap.size w ((w.alloc o1).alloc o2) := fun o1 o2 => ((Below.refl _ w).alloc (Nat.le_refl _) _).alloc (by simp) _
  rcases (show b = 34 ∨ b = 92 ∨ b = 8 ∨ b = 12 ∨ b = 10 ∨ b = 13 ∨ b = 9 ∨ (b ≠ 34 ∧ b ≠ 92 ∧ b ≠ 8 ∧ b ≠ 12 ∧ b ≠ 10 ∧ b ≠ 13 ∧ b ≠ 9) by omega) with rfl | rfl | rfl | rfl | rfl | rfl | rfl | ⟨h1, h2, h3, h4, h5, h6, h7⟩
  · go_enter Tryd.func53, Tryd.ntmps53
    go_wp2_with fail
    go_rounds 8
    go_ret
    exact ⟨rfl, fin _ _⟩
  · go_enter Tryd.func53, Tryd.ntmps53
    go_wp2_with fail
    go_rounds 8
    go_ret
    exact ⟨rfl, fin _ _⟩
  · go_enter Tryd.func53, Tryd.ntmps53
    go_wp2_with fail
    go_rounds 8
    go_ret
    exact ⟨rfl, fin _ _⟩
  · go_enter Tryd.func53, Tryd.ntmps53
    go_wp2_with fail
    go_rounds 8
    go_ret
    exact ⟨rfl, fin _ _⟩
  · go_enter Tryd.func53, Tryd.ntmps53
    go_wp2_with fail
    go_rounds 8
    go_ret
    exact ⟨rfl, fin _ _⟩
  · go_enter Tryd.func53, Tryd.ntmps53
    go_wp2_with fail
    go_rounds 8
    go_ret
    exact ⟨rfl, fin _ _⟩
  · go_enter Tryd.func53, Tryd.ntmps53
    go_wp2_with fail
    go_rounds 8
    go_ret
    exact ⟨rfl, fin _ _⟩
  · have hz : shortOf b = 0 := by unfold shortOf; rw [if_neg h1, if_neg h2, if_neg h3, if_neg h4, if_neg h5, if_neg h6, if_neg h7]
    rw [hz]
    clear hz
    have e1 : ((34 : Int) == (b : Int)) = false := by simp; omega
    have e2 : ((92 : Int) == (b : Int)) = false := by simp; omega
    have e3 : ((8 : Int) == (b : Int)) = false := by simp; omega
    have e4 : ((12 : Int) == (b : Int)) = false := by simp; omega
    have e5 : ((10 : Int) == (b : Int)) = false := by simp; omega
    have e6 : ((13 : Int) == (b : Int)) = false := by simp; omega
    have e7 : ((9 : Int) == (b : Int)) = false := by simp; omega
    clear h1 h2 h3 h4 h5 h6 h7
    go_enter Tryd.func53, Tryd.ntmps53
    go_wp2_with fail
    go_rounds 8
    go_ret
    exact ⟨rfl, fin _ _⟩
/-- strings.IndexByte at the seven bytes. -/
theorem implShort (b : Nat) (hb : b < 256) (w : World) :
    Calls Tryd.prog 55 #[.string ⟨#[34, 92, 8, 12, 10, 13, 9]⟩, .int .u8 b] w fun e w' => e = .returned (.int .i64 (shortK b)) ∧ w = w' := by
  have h : Lib.indexByte [34, 92, 8, 12, 10, 13, 9] b.toUInt8 = shortK b := by
    have : ∀ m : Fin 256, Lib.indexByte [34, 92, 8, 12, 10, 13, 9] m.val.toUInt8 = shortK m.val := by decide +kernel
    exact this ⟨b, hb⟩
  refine (Tryd.strings_IndexByte _ b w).mono ?_
  rintro e w' ⟨rfl, rfl⟩
  exact ⟨by rw [← h, Int.toNat_natCast], rfl⟩
/-- strings.IndexByte at the seven letters. -/
def letterK (b : Nat) : Int := if b = 34 then 0 else if b = 92 then 1 else if b = 98 then 2 else if b = 102 then 3 else if b = 110 then 4 else if b = 114 then 5 else if b = 116 then 6 else -1
theorem implLetter (b : Nat) (hb : b < 256) (w : World) :
    Calls Tryd.prog 55 #[.string ⟨#[34, 92, 98, 102, 110, 114, 116]⟩, .int .u8 b] w fun e w' => e = .returned (.int .i64 (letterK b)) ∧ w = w' := by
  have h : Lib.indexByte [34, 92, 98, 102, 110, 114, 116] b.toUInt8 = letterK b := by
    have : ∀ m : Fin 256, Lib.indexByte [34, 92, 98, 102, 110, 114, 116] m.val.toUInt8 = letterK m.val := by decide +kernel
    exact this ⟨b, hb⟩
  refine (Tryd.strings_IndexByte _ b w).mono ?_
  rintro e w' ⟨rfl, rfl⟩
  exact ⟨by rw [← h, Int.toNat_natCast], rfl⟩
theorem short_cases (b : Nat) : (shortOf b = 0 ∧ shortK b = -1) ∨ (∃ j : Nat, shortK b = j ∧ ∃ h : j < 7, shortOf b ≠ 0 ∧ (([34, 92, 98, 102, 110, 114, 116] : List UInt8)[j]).toNat = shortOf b) := by
  unfold shortOf shortK
  by_cases h1 : b = 34
  · exact .inr ⟨0, by rw [if_pos h1]; rfl, by omega, by rw [if_pos h1]; decide, by rw [if_pos h1]; rfl⟩
  rw [if_neg h1, if_neg h1]
  by_cases h2 : b = 92
  · exact .inr ⟨1, by rw [if_pos h2]; rfl, by omega, by rw [if_pos h2]; decide, by rw [if_pos h2]; rfl⟩
  rw [if_neg h2, if_neg h2]
  by_cases h3 : b = 8
  · exact .inr ⟨2, by rw [if_pos h3]; rfl, by omega, by rw [if_pos h3]; decide, by rw [if_pos h3]; rfl⟩
  rw [if_neg h3, if_neg h3]
  by_cases h4 : b = 12
  · exact .inr ⟨3, by rw [if_pos h4]; rfl, by omega, by rw [if_pos h4]; decide, by rw [if_pos h4]; rfl⟩
  rw [if_neg h4, if_neg h4]
  by_cases h5 : b = 10
  · exact .inr ⟨4, by rw [if_pos h5]; rfl, by omega, by rw [if_pos h5]; decide, by rw [if_pos h5]; rfl⟩
  rw [if_neg h5, if_neg h5]
  by_cases h6 : b = 13
  · exact .inr ⟨5, by rw [if_pos h6]; rfl, by omega, by rw [if_pos h6]; decide, by rw [if_pos h6]; rfl⟩
  rw [if_neg h6, if_neg h6]
  by_cases h7 : b = 9
  · exact .inr ⟨6, by rw [if_pos h7]; rfl, by omega, by rw [if_pos h7]; decide, by rw [if_pos h7]; rfl⟩
  rw [if_neg h7, if_neg h7]
  exact .inl ⟨rfl, rfl⟩
end Go.Proofs.YtlgonfdodmipeaaDoor
