/-
  Right numbers, and the greatest whole number that isn't above one, plainly.
-/
import Derived.Test.YtbflkcldjjpioaaDoorRight
namespace Go.Proofs.YtbflkcldjjpioaaDoor
open Go.RowKit
set_option linter.unusedVariables false
set_option linter.unusedSimpArgs false

/-- A right number. -/
def numOk (v : V) : Prop := (v.k = 3 ∨ v.k = 4) ∧ okV v
theorem okV_leaf {v : V} (h : numOk v) : v.kids.length = 0 ∧ v.s.size = 0 ∧ (v.k = 3 → v.e = 0) ∧ (v.k = 4 → decOk v.n v.e) := by
  obtain ⟨hk, h1, _⟩ := h
  obtain ⟨_, ⟨h2, h3⟩, _⟩ := (V.right_eq _ _).1 h1
  unfold nodeOk at h2
  unfold kidsOk at h3
  rcases hk with hk | hk <;> simp [hk] at h2 h3
  · exact ⟨by rw [h3]; rfl, by rw [h2.2]; rfl, fun _ => h2.1, fun h => by omega⟩
  · exact ⟨by rw [h3]; rfl, by rw [h2.2]; rfl, fun h => by omega, fun _ => h2.1⟩
theorem ten_div (x : Int) (j : Nat) : x / 10 ^ j / 10 = x / 10 ^ (j + 1) := by
  rw [Int.ediv_ediv_of_nonneg (Int.le_of_lt (Int.pow_pos (by omega))), Int.pow_succ]
theorem floor_ten (x : Int) : (Int.tmod x 10 < 0 → Int.tdiv x 10 - 1 = x / 10) ∧ (¬ Int.tmod x 10 < 0 → Int.tdiv x 10 = x / 10) := by
  have h1 := Int.tmod_add_mul_tdiv x 10
  have h3 : -10 < Int.tmod x 10 ∧ Int.tmod x 10 < 10 := by
    constructor
    · have := Int.lt_tmod_of_pos x (show (0 : Int) < 10 by omega); omega
    · exact Int.tmod_lt_of_pos _ (by omega)
  omega
theorem tdiv_sign (x : Int) : Int.tdiv x 10 = if 0 ≤ x then x / 10 else -((-x) / 10) := by
  split
  · rename_i h; exact Int.tdiv_eq_ediv_of_nonneg h
  · rename_i h
    have e : x = -(-x) := by omega
    conv => lhs; rw [e]
    rw [Int.neg_tdiv, Int.tdiv_eq_ediv_of_nonneg (by omega)]
/-- What is left behind j steps of cutting off a digit. -/
def cutD (n : Int) (j : Nat) : Int := if 0 ≤ n then n / 10 ^ j else -((-n) / 10 ^ j)
theorem cutD_step (n : Int) (j : Nat) : Int.tdiv (cutD n j) 10 = cutD n (j + 1) := by
  rw [tdiv_sign]
  unfold cutD
  have hp : (0 : Int) ≤ 10 ^ j := Int.le_of_lt (Int.pow_pos (by omega))
  by_cases h : 0 ≤ n
  · have h1 : 0 ≤ n / 10 ^ j := Int.ediv_nonneg h hp
    simp only [if_pos h, if_pos h1, ten_div]
  · have h1 : 0 ≤ (-n) / 10 ^ j := Int.ediv_nonneg (by omega) hp
    simp only [if_neg h]
    by_cases h2 : 0 ≤ -(-n / 10 ^ j)
    · have h3 : -n / 10 ^ j = 0 := by omega
      rw [if_pos h2, ← ten_div, h3]; rfl
    · rw [if_neg h2, Int.neg_neg, ten_div]
theorem floor_neg {a D : Int} (hD : 0 < D) (h : a % D ≠ 0) : (-a) / D = -(a / D) - 1 := by
  have h1 := Int.emod_add_mul_ediv a D
  have h2 := Int.emod_nonneg a (by omega : D ≠ 0)
  have h3 := Int.emod_lt_of_pos a hD
  refine ((Int.ediv_emod_unique (r := D - a % D) hD).2 ⟨?_, by omega, by omega⟩).1
  rw [Int.mul_sub, Int.mul_neg]
  omega
theorem dec_floor {n : Int} {k : Nat} (hk : 1 ≤ k) (hm : Int.tmod n 10 ≠ 0) : (if n < 0 then cutD n k - 1 else cutD n k) = n / 10 ^ k := by
  have hp : (0 : Int) < 10 ^ k := Int.pow_pos (by omega)
  unfold cutD
  by_cases h : n < 0
  · rw [if_pos h, if_neg (by omega)]
    have hd : (-n) % 10 ^ k ≠ 0 := fun hz => by
      have h1 : (10 : Int) ∣ 10 ^ k := ⟨10 ^ (k - 1), by
        obtain ⟨m, rfl⟩ : ∃ m, k = m + 1 := ⟨k - 1, by omega⟩
        rw [Int.pow_succ, Int.mul_comm, Nat.add_sub_cancel]⟩
      have h2 := Int.emod_emod_of_dvd (-n) h1
      rw [hz] at h2
      have h3 := Int.tmod_add_mul_tdiv n 10
      apply hm
      have h4 : -10 < Int.tmod n 10 ∧ Int.tmod n 10 < 10 := by
        constructor
        · have := Int.lt_tmod_of_pos n (show (0 : Int) < 10 by omega); omega
        · exact Int.tmod_lt_of_pos _ (by omega)
      omega
    have h5 := floor_neg hp hd
    rw [Int.neg_neg] at h5
    exact h5.symm
  · rw [if_neg h, if_pos (by omega)]
/-- Whole. -/
noncomputable def wholeB (v : V) : Bool := decide (numOk v ∧ ¬ 0 < v.e)
noncomputable def wholeN (v : V) : Int := if numOk v ∧ ¬ 0 < v.e then v.n / 10 ^ (-v.e).toNat else 0
theorem whole_no {v : V} (h : ¬ (numOk v ∧ ¬ 0 < v.e)) : wholeB v = false ∧ wholeN v = 0 := ⟨decide_eq_false h, if_neg h⟩
theorem whole_yes {v : V} (h : numOk v ∧ ¬ 0 < v.e) : wholeB v = true ∧ wholeN v = v.n / 10 ^ (-v.e).toNat := ⟨decide_eq_true h, if_pos h⟩
end Go.Proofs.YtbflkcldjjpioaaDoor
