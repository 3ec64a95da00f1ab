/-
  Norm, plainly.
-/
import Derived.Test.YtbflkcldjjpioaaRight
namespace Go.Proofs.Ytbflkcldjjpioaa
open Go.RowKit
set_option linter.unusedVariables false
set_option linter.unusedSimpArgs false

theorem pow_big {n : Int} {k : Nat} (hn : n ≠ 0) (h : inR (n * 10 ^ k)) : k ≤ 18 := by
  by_cases hk : k ≤ 18
  · exact hk
  · exfalso
    have h1 : (10 : Nat) ^ 19 ≤ 10 ^ k := Nat.pow_le_pow_right (by omega) (by omega)
    have h2 : (n * 10 ^ k).natAbs = n.natAbs * 10 ^ k := by rw [Int.natAbs_mul, Int.natAbs_pow]; rfl
    have h3 : 1 ≤ n.natAbs := by omega
    have h4 : 10 ^ k ≤ n.natAbs * 10 ^ k := Nat.le_mul_of_pos_left _ h3
    have h5 : (10 : Nat) ^ 19 = 10000000000000000000 := by decide
    unfold inR at h
    omega
theorem pow_pos_int (k : Nat) : (1 : Int) ≤ 10 ^ k := by
  have h : (0 : Int) < 10 ^ k := Int.pow_pos (by omega)
  omega
/-- What a number of 64 bits is a multiple of is one of 64 bits. -/
theorem inR_of_mul {n : Int} {k : Nat} (h : inR (n * 10 ^ k)) : inR n := by
  have h1 := pow_pos_int k
  unfold inR at *
  rcases Int.le_total 0 n with hn | hn
  · have := Int.mul_nonneg hn (show (0 : Int) ≤ 10 ^ k - 1 by omega)
    rw [Int.mul_sub] at this
    omega
  · have := Int.mul_nonneg (show (0 : Int) ≤ -n by omega) (show (0 : Int) ≤ 10 ^ k - 1 by omega)
    rw [Int.mul_sub, Int.neg_mul] at this
    omega
theorem tens_mul : ∀ (k : Nat) (n : Int), inR n → tens n k = if inR (n * 10 ^ k) then some (n * 10 ^ k) else none
  | 0, n, h => by rw [Int.pow_zero, Int.mul_one, if_pos h]; rfl
  | k + 1, n, h => by
    have e : n * 10 ^ (k + 1) = n * 10 * 10 ^ k := by rw [Int.pow_succ, Int.mul_comm (10 ^ k) 10, Int.mul_assoc]
    rw [e]
    unfold tens
    by_cases h1 : inR (n * 10)
    · rw [if_pos h1, tens_mul k _ h1]
    · rw [if_neg h1, if_neg (fun h2 => h1 (inR_of_mul h2))]
/-- A number without the noughts at its end, and its power. -/
def strip : Nat → Int → Int → Int × Int
  | 0, n, e => (n, e)
  | f + 1, n, e => if Int.tmod n 10 = 0 then strip f (Int.tdiv n 10) (e + 1) else (n, e)
theorem strip_of : ∀ (k f : Nat) (n n' e : Int), Int.tmod n' 10 ≠ 0 → n = n' * 10 ^ k → k ≤ f → strip f n e = (n', e + k)
  | 0, 0, n, n', e, h, hn, _ => by rw [hn, Int.pow_zero, Int.mul_one]; simp [strip]
  | 0, f + 1, n, n', e, h, hn, _ => by
    rw [hn, Int.pow_zero, Int.mul_one]
    unfold strip
    rw [if_neg h]
    simp
  | k + 1, 0, n, n', e, h, hn, hf => by omega
  | k + 1, f + 1, n, n', e, h, hn, hf => by
    have e1 : n = n' * 10 ^ k * 10 := by rw [hn, Int.pow_succ, Int.mul_assoc]
    unfold strip
    rw [if_pos (by rw [e1, Int.mul_tmod_left]), strip_of k f _ n' (e + 1) h (by rw [e1, Int.mul_tdiv_cancel _ (by omega)]) (by omega)]
    congr 1
    omega
theorem strip_ex : ∀ (N : Nat) (n : Int), n.natAbs ≤ N → n ≠ 0 → ∃ (n' : Int) (k : Nat), n = n' * 10 ^ k ∧ Int.tmod n' 10 ≠ 0
  | 0, n, h, h0 => by omega
  | N + 1, n, h, h0 => by
    by_cases hm : Int.tmod n 10 = 0
    · have e : Int.tdiv n 10 * 10 = n := by have := Int.tmod_add_mul_tdiv n 10; omega
      obtain ⟨n', k, h1, h2⟩ := strip_ex N (Int.tdiv n 10) (by omega) (by omega)
      exact ⟨n', k + 1, by rw [Int.pow_succ, ← Int.mul_assoc, ← h1, e], h2⟩
    · exact ⟨n, 0, by rw [Int.pow_zero, Int.mul_one], hm⟩
theorem tmod_ne {n : Int} (h : Int.tmod n 10 ≠ 0) : n ≠ 0 := by rintro rfl; exact h rfl
def V.nought : V := .mk 0 0 0 ⟨#[]⟩ []
def V.int (n : Int) : V := .mk 3 n 0 ⟨#[]⟩ []
def V.dec (n e : Int) : V := .mk 4 n e ⟨#[]⟩ []
/-- A number without noughts at its end, and its power, as a value. -/
def normV (n e : Int) : Option V := if 0 ≤ e ∧ inR (n * 10 ^ e.toNat) then some (V.int (n * 10 ^ e.toNat)) else if decOk n e then some (V.dec n e) else none
/-- Norm. -/
def normR (n e : Int) : Option V := if -1000 ≤ e ∧ e ≤ 1000 then (if n = 0 then some (V.int 0) else normV (strip 18 n e).1 (strip 18 n e).2) else none
theorem normR_out {n e : Int} (h : ¬ (-1000 ≤ e ∧ e ≤ 1000)) : normR n e = none := by unfold normR; rw [if_neg h]
theorem normR_zero {e : Int} (h : -1000 ≤ e ∧ e ≤ 1000) : normR 0 e = some (V.int 0) := by unfold normR; rw [if_pos h, if_pos rfl]
theorem normR_of {n e n' : Int} {k : Nat} (he : -1000 ≤ e ∧ e ≤ 1000) (hr : inR n) (h : Int.tmod n' 10 ≠ 0) (hn : n = n' * 10 ^ k) : normR n e = normV n' (e + k) := by
  have h0 := tmod_ne h
  have hk : k ≤ 18 := pow_big h0 (by rw [← hn]; exact hr)
  have hne : n ≠ 0 := by
    rw [hn]
    have := pow_pos_int k
    exact Int.mul_ne_zero h0 (by omega)
  unfold normR
  rw [if_pos he, if_neg hne, strip_of k 18 n n' e h hn hk]
/-- The power has come to 0. -/
theorem normR_whole {n e n1 : Int} {k : Nat} (he : -1000 ≤ e ∧ e ≤ 1000) (hr : inR n) (h0 : n1 ≠ 0) (hn : n = n1 * 10 ^ k) (hk : e + k = 0) : normR n e = some (V.int n1) := by
  obtain ⟨n', m, h1, h2⟩ := strip_ex n1.natAbs n1 (Nat.le_refl _) h0
  have hn2 : n = n' * 10 ^ (m + k) := by rw [hn, h1, Int.pow_add, Int.mul_assoc]
  have hr1 : inR n1 := inR_of_mul (k := k) (by rw [← hn]; exact hr)
  rw [normR_of he hr h2 hn2]
  have e1 : e + ((m + k : Nat) : Int) = m := by omega
  rw [e1]
  unfold normV
  rw [Int.toNat_natCast, ← h1, if_pos ⟨by omega, hr1⟩]
theorem normV_pos_some {n e : Int} (h : 0 ≤ e) (hr : inR (n * 10 ^ e.toNat)) : normV n e = some (V.int (n * 10 ^ e.toNat)) := by unfold normV; rw [if_pos ⟨h, hr⟩]
theorem normV_dec {n e : Int} (h : ¬ (0 ≤ e ∧ inR (n * 10 ^ e.toNat))) (hd : decOk n e) : normV n e = some (V.dec n e) := by unfold normV; rw [if_neg h, if_pos hd]
theorem normV_none {n e : Int} (h : ¬ (0 ≤ e ∧ inR (n * 10 ^ e.toNat))) (hd : ¬ decOk n e) : normV n e = none := by unfold normV; rw [if_neg h, if_neg hd]
def normD (n e : Int) : V := (normR n e).getD V.nought
def normB (n e : Int) : Bool := (normR n e).isSome
/-- What Norm hands back. -/
def NormRet (n e : Int) (w : World) (r : Ending) (w' : World) : Prop := r = .returned (.tuple #[(normD n e).agg none 0, .bool (normB n e)]) ∧ Below w.heap.size w w'
theorem normRet_some {n e : Int} {v : V} {w w' : World} {u : Value} (h : normR n e = some v) (hu : u = .tuple #[v.agg none 0, .bool true]) (hb : Below w.heap.size w w') : NormRet n e w (.returned u) w' := by
  unfold NormRet normD normB
  rw [h, hu]
  exact ⟨rfl, hb⟩
theorem normRet_none {n e : Int} {w w' : World} {u : Value} (h : normR n e = none) (hu : u = .tuple #[V.nought.agg none 0, .bool false]) (hb : Below w.heap.size w w') : NormRet n e w (.returned u) w' := by
  unfold NormRet normD normB
  rw [h, hu]
  exact ⟨rfl, hb⟩
/-- A right decimal number is a right value. -/
theorem okV_dec (n e : Int) : okV (V.dec n e) ↔ decOk n e := by
  unfold okV V.dec
  rw [V.right_eq]
  simp [ownOk, nodeOk, kidsOk, V.k, V.n, V.e, V.s, V.kids, V.nodes, Vs.nodes, Vs.right]
  intro _; decide
theorem okV_int (n : Int) : okV (V.int n) := by
  unfold okV V.int
  rw [V.right_eq]
  simp [ownOk, nodeOk, kidsOk, V.k, V.n, V.e, V.s, V.kids, V.nodes, Vs.nodes, Vs.right]
  try decide
end Go.Proofs.Ytbflkcldjjpioaa
