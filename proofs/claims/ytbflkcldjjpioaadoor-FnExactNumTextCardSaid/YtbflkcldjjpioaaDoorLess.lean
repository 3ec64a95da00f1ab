/-
  The order of two numbers and of two texts, and the first that is not 0 of some numbers.
-/
import Derived.Test.YtbflkcldjjpioaaDoorTree
namespace Go.Proofs.YtbflkcldjjpioaaDoor
open Go.RowKit
set_option linter.unusedVariables false
set_option maxRecDepth 100000
set_option linter.unusedSimpArgs false

/-- The order of two numbers. -/
def lessI (a b : Int) : Int := if a < b then -1 else if b < a then 1 else 0
theorem lessI_lt {a b : Int} (h : a < b) : lessI a b = -1 := by unfold lessI; rw [if_pos h]
theorem lessI_gt {a b : Int} (h : b < a) : lessI a b = 1 := by unfold lessI; rw [if_neg (by omega), if_pos h]
theorem lessI_eq (a : Int) : lessI a a = 0 := by unfold lessI; rw [if_neg (by omega), if_neg (by omega)]
theorem lessI_zero {a b : Int} (h : lessI a b = 0) : a = b := by
  unfold lessI at h
  by_cases h1 : a < b
  · rw [if_pos h1] at h; omega
  · rw [if_neg h1] at h
    by_cases h2 : b < a
    · rw [if_pos h2] at h; omega
    · omega
/-- The order of two texts. -/
def lessT (a b : ByteArray) : Int := if Op.bytesLess a.toList b.toList = true then -1 else if (a.toList == b.toList) = true then 0 else 1
theorem lessT_zero {a b : ByteArray} (h : lessT a b = 0) : a = b := by
  unfold lessT at h
  by_cases h1 : Op.bytesLess a.toList b.toList = true
  · rw [if_pos h1] at h; omega
  · rw [if_neg h1] at h
    by_cases h2 : (a.toList == b.toList) = true
    · have h3 := eq_of_beq h2
      rw [ByteArray.toList_eq, ByteArray.toList_eq] at h3
      cases a; cases b
      simp only [ByteArray.mk.injEq]
      exact Array.toList_inj.1 h3
    · rw [if_neg h2] at h; omega
theorem bytesLess_self : ∀ l : List UInt8, Op.bytesLess l l = false
  | [] => rfl
  | a :: l => by simp [Op.bytesLess, bytesLess_self l]
theorem lessT_eq (a : ByteArray) : lessT a a = 0 := by unfold lessT; rw [if_neg (by simp [bytesLess_self]), if_pos (by simp)]

/-- The first number that is not 0. -/
def orN (f : Nat → Int) : Nat → Int
  | 0 => 0
  | n + 1 => if orN f n = 0 then f n else orN f n
theorem orN_zero (f : Nat → Int) : ∀ n, (∀ i, i < n → f i = 0) → orN f n = 0
  | 0, _ => rfl
  | n + 1, h => by
    have h1 := orN_zero f n (fun i hi => h i (by omega))
    unfold orN
    rw [if_pos h1]
    exact h n (by omega)
theorem orN_first (f : Nat → Int) : ∀ (n j : Nat), (∀ i, i < j → f i = 0) → j < n → f j ≠ 0 → orN f n = f j
  | 0, j, _, h, _ => by omega
  | n + 1, j, h, hj, hn => by
    unfold orN
    by_cases hjn : j = n
    · subst hjn
      rw [if_pos (orN_zero f j h)]
    · have h1 := orN_first f n j h (by omega) hn
      rw [if_neg (by rw [h1]; exact hn), h1]
theorem orN_all (f : Nat → Int) (n : Nat) (h : orN f n = 0) : ∀ i, i < n → f i = 0 := by
  intro i
  induction i using Nat.strongRecOn with
  | _ i ih =>
    intro hi
    by_cases h0 : f i = 0
    · exact h0
    · have h1 := orN_first f n i (fun k hk => ih k hk (by omega)) hi h0
      omega
end Go.Proofs.YtbflkcldjjpioaaDoor
